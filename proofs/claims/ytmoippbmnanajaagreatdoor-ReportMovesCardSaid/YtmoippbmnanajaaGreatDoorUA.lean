/- Walks: the stable sort where all compare as equal: nothing turns. Walks: the stable sort's merge where all compare as equal. Walks: slices.SortStableFunc where all compare as equal, of fewer than forty; report.rising of equal rows. Walks: report.rising of equal rows. Walks: slices.Grow of nothing; slices.Concat of two rows of equal rows. -/
import Derived.Test.YtmoippbmnanajaaGreatDoorSP
import Derived.Lib.AppendZerosOnto
import Derived.Deep.DeepAppendWide
import Derived.Lib.AppendZeros
import Derived.Laws.AppendOwnNone
set_option linter.unusedSimpArgs false
set_option linter.unusedVariables false
namespace Go.Proofs.YtmoippbmnanajaaGreatDoor
open Go.RowKit
theorem rowsE_same : ∀ l, rowsV l l = 0
  | [] => rfl
  | x :: l => by rw [rowsV, if_pos (show cmpX x x = 0 from P6.cmp3_same _ _ _), rowsE_same l]
set_option maxRecDepth 100000 in
set_option maxHeartbeats 4000000 in
theorem order_any (v : Value) (l : List V) (n i j : Nat) (w : World) (hr : RowsAt w v (List.replicate n l)) (hi : i < n) (hj : j < n) (hn : n ≤ 1000) (hl : l.length ≤ 1000) :
    Calls Tryz.prog 70 #[v, .int .i64 i, .int .i64 j] w fun e w' => e = .returned (.int .i64 0) ∧ Below w.heap.size w w' := by
  obtain ⟨pr, cr, rfl, hr'⟩ := hr.parts
  obtain ⟨b, off, u, rfl, d1, r1⟩ := hr' i l (by simp [hi])
  obtain ⟨b', off', u', e', d2, r2⟩ := hr' j l (by simp [hj])
  cases e'
  have l1 := World.block_lt_of_cell? _ _ d1
  have l2 := World.block_lt_of_cell? _ _ d2
  have HRw := Lib.hid fun W (hx : Xk.Ext w W) => rows_any u u' l l W (r1.ext hx) (r2.ext hx) (by omega) (by omega)
  rw [rowsE_same] at HRw
  obtain ⟨pa, ca, rfl, -⟩ := r1
  obtain ⟨pb, cb, rfl, -⟩ := r2
  rw [List.length_replicate]
  have hib : (i : Int) < (n : Int) := by omega
  have hjb : (j : Int) < (n : Int) := by omega
  clear hr hr'
  go_enter Tryz.func70, Tryz.ntmps70
  go_wp2
  refine Xk.wp_region_rel' 9 [] trivial (by kernel_rfl) (by kernel_rfl) ?_
  simp only [List.take_succ_cons, List.take_zero, List.drop_succ_cons, List.drop_zero]
  repeat (first
    | (refine Xk.rel_det (Xk.wanted_none (by rfl)) (by rfl) (fun K hK => ?_); apply Exists.intro; refine ⟨fun p hp => ?_, ?_⟩; (go_simp; first | exact ⟨rfl, rfl⟩ | ((try refine ⟨by kernel_rfl, ?_⟩); (first | (go_at_call 45; ((with_reducible refine (HRw.out _ (by repeat (first | with_reducible exact Below.refl _ _ | ((with_reducible refine Below.setCell ?_ ?_ _); rotate_left; exact (by (try simp only [World.size_alloc, Xk.exw_size, World.size_setCell, World.size_drew, World.heap_drewN]); omega)) | ((with_reducible refine Below.alloc ?_ ?_ _); rotate_left; exact (by (try simp only [World.size_alloc, Xk.exw_size, World.size_setCell, World.size_drew, World.heap_drewN]); omega)) | ((with_reducible refine Xk.below_exw ?_ ?_ _); rotate_left; exact (by (try simp only [World.size_alloc, Xk.exw_size, World.size_setCell, World.size_drew, World.heap_drewN]); omega)) | (with_reducible refine Below.drew ?_)))).mono ?_); exact fun e w' h => h))))); (go_simp; refine hK _ ?_; clear hK K))
    | (refine Xk.rel_skip (by rfl) (fun K hK => ?_); go_simp; refine hK _ ?_; clear hK K)
    | (refine Xk.rel_det (by rfl) (by rfl) (fun K hK => ?_); apply Exists.intro; refine ⟨fun p hp => ?_, ?_⟩; (go_simp; first | exact ⟨rfl, rfl⟩ | ((try refine ⟨by kernel_rfl, ?_⟩); (first | (go_at_call 45; ((with_reducible refine (HRw.out _ (by repeat (first | with_reducible exact Below.refl _ _ | ((with_reducible refine Below.setCell ?_ ?_ _); rotate_left; exact (by (try simp only [World.size_alloc, Xk.exw_size, World.size_setCell, World.size_drew, World.heap_drewN]); omega)) | ((with_reducible refine Below.alloc ?_ ?_ _); rotate_left; exact (by (try simp only [World.size_alloc, Xk.exw_size, World.size_setCell, World.size_drew, World.heap_drewN]); omega)) | ((with_reducible refine Xk.below_exw ?_ ?_ _); rotate_left; exact (by (try simp only [World.size_alloc, Xk.exw_size, World.size_setCell, World.size_drew, World.heap_drewN]); omega)) | (with_reducible refine Below.drew ?_)))).mono ?_); exact fun e w' h => h))))); (go_simp; refine hK _ ?_; clear hK K)))
  refine Xk.rel_nil (fun p _ => ?_)
  go_wp2
  go_ret
  exact ⟨rfl, (by repeat (first | with_reducible exact Below.refl _ _ | ((with_reducible refine Below.setCell ?_ ?_ _); rotate_left; exact (by (try simp only [World.size_alloc, Xk.exw_size, World.size_setCell, World.size_drew, World.heap_drewN]); omega)) | ((with_reducible refine Below.alloc ?_ ?_ _); rotate_left; exact (by (try simp only [World.size_alloc, Xk.exw_size, World.size_setCell, World.size_drew, World.heap_drewN]); omega)) | ((with_reducible refine Xk.below_exw ?_ ?_ _); rotate_left; exact (by (try simp only [World.size_alloc, Xk.exw_size, World.size_setCell, World.size_drew, World.heap_drewN]); omega)) | (with_reducible refine Below.drew ?_)))⟩
/-- What is sorted: the numbers of rows that all compare as equal. -/
structure Still (w : World) (pv : Value) (g n : Nat) : Prop where
  cells : ∀ j, j < n → w.cell? ⟨g, j, none⟩ = some (.int .i64 j)
  cmp : ∀ W, Xk.Ext w W → ∀ i j : Nat, i < n → j < n → Calls Tryz.prog 70 #[pv, .int .i64 i, .int .i64 j] W fun e w' => e = .returned (.int .i64 0) ∧ Below W.heap.size W w'
theorem Still.ext {w w' : World} {pv : Value} {g n : Nat} (h : Still w pv g n) (hx : Xk.Ext w w') : Still w' pv g n := ⟨fun j hj => Xk.ext_cell hx (h.cells j hj), fun W hW => h.cmp W (Xk.Ext.trans hx hW)⟩
set_option maxRecDepth 100000 in
set_option maxHeartbeats 4000000 in
theorem insert_any (pv : Value) (g n cap a b : Nat) (w : World) (hs : Still w pv g n) (ha : a ≤ b) (hb : b ≤ n) (hn : n ≤ 1000) :
    Calls Tryz.prog 130 #[.slice (some ⟨g, 0, none⟩) n cap, .int .i64 a, .int .i64 b, .func (.func 70) #[pv] #[]] w fun e w' => e = .returned (.tuple #[]) ∧ Below w.heap.size w w' := by
  have HS := Lib.hid hs
  clear hs
  go_enter Tryz.func130, Tryz.ntmps130
  go_wp2
  go_loopw [8] (fun x wr => ∃ r : Nat, a ≤ r ∧ r ≤ max a (b - 1) ∧ x = .int .i64 ((r : Int) + 1) ∧ Below w.heap.size w wr) (fun x _ => b + 1 - (intOf x).toNat)
  case atStart => exact ⟨a, Nat.le_refl _, by omega, rfl, Below.refl _ _⟩
  case round =>
    obtain ⟨r, hr, hr2, rfl, hbw⟩ := hrel
    have HB := Lib.hid hbw
    clear hbw
    by_cases hlt : r + 1 < b
    · have hltb : (r : Int) + 1 < (b : Int) := by omega
      have e1 := HS.out.cells (r + 1) (by omega)
      have e2 := HS.out.cells r (by omega)
      have e1 := Xk.ext_cell HB.out e1
      have e2 := Xk.ext_cell HB.out e2
      have l1 := World.block_lt_of_cell? _ _ e1
      have HC : Hid (∀ p, Calls Tryz.prog 70 #[pv, .int .i64 ((r : Int) + 1), .int .i64 r] (Xk.exw wr p) fun e w' => e = .returned (.int .i64 0) ∧ Below (Xk.exw wr p).heap.size (Xk.exw wr p) w') := Lib.hid fun p => by
        have h := HS.out.cmp _ (Xk.Ext.trans HB.out (Xk.ext_exw wr p)) (r + 1) r (by omega) (by omega)
        exact h
      have hra : (a : Int) < (r : Int) + 1 := by omega
      have hnb : (r : Int) + 1 < (n : Int) := by omega
      have hsz := HB.out.size
      have hrb : (r : Int) < (n : Int) := by omega
      have hwr : IntKind.i64.wrap (r : Int) = r := IntWalk.i64_in _ (by omega)
      go_wp2
      go_loopw [9] (fun x wr2 => x = .int .i64 ((r : Int) + 1) ∧ wr2 = wr) (fun _ _ => 0)
      case atStart => exact ⟨rfl, rfl⟩
      case round =>
        obtain ⟨rfl, rfl⟩ := hrel
        go_wp2
        refine Xk.wp_region_rel' 17 [] trivial (by kernel_rfl) (by kernel_rfl) ?_
        simp only [List.take_succ_cons, List.take_zero, List.drop_succ_cons, List.drop_zero]
        repeat (first
          | (refine Xk.rel_det (Xk.wanted_none (by rfl)) (by rfl) (fun K hK => ?_); apply Exists.intro; refine ⟨fun p hp => ?_, ?_⟩; (go_simp; first | exact ⟨rfl, rfl⟩ | ((try refine ⟨by kernel_rfl, ?_⟩); (first | (go_at_call 70; ((with_reducible refine (HC.out _).mono ?_); exact fun e w' h => h))))); (go_simp; refine hK _ ?_; clear hK K))
          | (refine Xk.rel_skip (by rfl) (fun K hK => ?_); go_simp; refine hK _ ?_; clear hK K)
          | (refine Xk.rel_det (by rfl) (by rfl) (fun K hK => ?_); apply Exists.intro; refine ⟨fun p hp => ?_, ?_⟩; (go_simp; first | exact ⟨rfl, rfl⟩ | ((try refine ⟨by kernel_rfl, ?_⟩); (first | (go_at_call 70; ((with_reducible refine (HC.out _).mono ?_); exact fun e w' h => h))))); (go_simp; refine hK _ ?_; clear hK K)))
        refine Xk.rel_nil (fun p _ => ?_)
        clear hwr
        go_wp2
        go_roundw
        case rel => exact ⟨r + 1, by omega, by omega, by go_num, (by repeat (first | with_reducible exact HB.out | with_reducible exact Below.refl _ _ | ((with_reducible refine Below.setCell ?_ ?_ _); rotate_left; exact (by (try simp only [World.size_alloc, Xk.exw_size, World.size_setCell, World.size_drew, World.heap_drewN]); omega)) | ((with_reducible refine Below.alloc ?_ ?_ _); rotate_left; exact (by (try simp only [World.size_alloc, Xk.exw_size, World.size_setCell, World.size_drew, World.heap_drewN]); omega)) | ((with_reducible refine Xk.below_exw ?_ ?_ _); rotate_left; exact (by (try simp only [World.size_alloc, Xk.exw_size, World.size_setCell, World.size_drew, World.heap_drewN]); omega)) | (with_reducible refine Below.drew ?_)))⟩
        case measure => simp [intOf]; omega
    · have hltb : ¬ (r : Int) + 1 < (b : Int) := by omega
      go_wp2
      go_end0
      exact ⟨rfl, HB.out⟩
end Go.Proofs.YtmoippbmnanajaaGreatDoor
namespace Go.Proofs.YtmoippbmnanajaaGreatDoor
open Go.RowKit
set_option maxRecDepth 100000 in
set_option maxHeartbeats 8000000 in
theorem sym_one (pv : Value) (g n cap a b : Nat) (w : World) (hs : Still w pv g n) (ha : a + 1 < b) (hb : b ≤ n) (hn : n ≤ 1000) :
    Calls Tryz.prog 131 #[.slice (some ⟨g, 0, none⟩) n cap, .int .i64 a, .int .i64 ((a : Int) + 1), .int .i64 b, .func (.func 70) #[pv] #[]] w fun e w' => e = .returned (.tuple #[]) ∧ Below w.heap.size w w' := by
  have HS := Lib.hid hs
  have e0 : ((a : Int) + 1 - (a : Int) == 1) = true := beq_iff_eq.2 (by omega)
  have hwr : IntKind.i64.wrap (1 : Int) = 1 := IntWalk.i64_in _ (by omega)
  clear hs
  go_enter Tryz.func131, Tryz.ntmps131
  go_wp2
  go_loopw [10, 11] (fun x y wr => ∃ j : Nat, a + 1 ≤ j ∧ j ≤ b ∧ x = .int .i64 ((a : Int) + 1) ∧ y = .int .i64 j ∧ Below w.heap.size w wr) (fun _ y _ => (intOf y).toNat)
  case atStart => exact ⟨b, by omega, Nat.le_refl _, rfl, rfl, Below.refl _ _⟩
  case round =>
    obtain ⟨j, hj1, hj2, rfl, rfl, hbw⟩ := hrel
    have HB := Lib.hid hbw
    clear hbw
    by_cases hlt : a + 1 < j
    · have hltb : (a : Int) + 1 < (j : Int) := by omega
      obtain ⟨h, hh⟩ : ∃ h : Nat, ((a : Int) + 1 + (j : Int)) / 2 = (h : Int) := ⟨(a + 1 + j) / 2, by omega⟩
      have h1 : a + 1 ≤ h := by omega
      have h2 : h < j := by omega
      have e1 := Xk.ext_cell HB.out (HS.out.cells h (by omega))
      have e2 := Xk.ext_cell HB.out (HS.out.cells a (by omega))
      have l1 := World.block_lt_of_cell? _ _ e1
      have HC : Hid (∀ p, Calls Tryz.prog 70 #[pv, .int .i64 h, .int .i64 a] (Xk.exw wr p) fun e w' => e = .returned (.int .i64 0) ∧ Below (Xk.exw wr p).heap.size (Xk.exw wr p) w') := Lib.hid fun p => HS.out.cmp _ (Xk.Ext.trans HB.out (Xk.ext_exw wr p)) h a (by omega) (by omega)
      have hib : (h : Int) < (n : Int) := by omega
      have hab : (a : Int) < (n : Int) := by omega
      have hsz := HB.out.size
      go_wp2
      refine Xk.wp_region_rel' 11 [] trivial (by kernel_rfl) (by kernel_rfl) ?_
      simp only [List.take_succ_cons, List.take_zero, List.drop_succ_cons, List.drop_zero]
      repeat (first
        | (refine Xk.rel_det (Xk.wanted_none (by rfl)) (by rfl) (fun K hK => ?_); apply Exists.intro; refine ⟨fun p hp => ?_, ?_⟩; (go_simp; first | exact ⟨rfl, rfl⟩ | ((try refine ⟨by kernel_rfl, ?_⟩); (first | (go_at_call 70; ((with_reducible refine (HC.out _).mono ?_); exact fun e w' h => h))))); (go_simp; refine hK _ ?_; clear hK K))
        | (refine Xk.rel_skip (by rfl) (fun K hK => ?_); go_simp; refine hK _ ?_; clear hK K)
        | (refine Xk.rel_det (by rfl) (by rfl) (fun K hK => ?_); apply Exists.intro; refine ⟨fun p hp => ?_, ?_⟩; (go_simp; first | exact ⟨rfl, rfl⟩ | ((try refine ⟨by kernel_rfl, ?_⟩); (first | (go_at_call 70; ((with_reducible refine (HC.out _).mono ?_); exact fun e w' h => h))))); (go_simp; refine hK _ ?_; clear hK K)))
      refine Xk.rel_nil (fun p _ => ?_)
      go_wp2
      go_roundw
      case rel => exact ⟨h, h1, by omega, rfl, rfl, (by repeat (first | with_reducible exact HB.out | with_reducible exact Below.refl _ _ | ((with_reducible refine Below.setCell ?_ ?_ _); rotate_left; exact (by (try simp only [World.size_alloc, Xk.exw_size, World.size_setCell, World.size_drew, World.heap_drewN]); omega)) | ((with_reducible refine Below.alloc ?_ ?_ _); rotate_left; exact (by (try simp only [World.size_alloc, Xk.exw_size, World.size_setCell, World.size_drew, World.heap_drewN]); omega)) | ((with_reducible refine Xk.below_exw ?_ ?_ _); rotate_left; exact (by (try simp only [World.size_alloc, Xk.exw_size, World.size_setCell, World.size_drew, World.heap_drewN]); omega)) | (with_reducible refine Below.drew ?_)))⟩
      case measure => simp [intOf]; omega
    · obtain rfl : j = a + 1 := by omega
      have hltb : ¬ (a : Int) + 1 < ((a + 1 : Nat) : Int) := by omega
      go_wp2
      go_loopw [13] (fun x wr2 => x = .int .i64 a ∧ wr2 = wr) (fun _ _ => 0)
      case atStart => exact ⟨rfl, rfl⟩
      case round =>
        obtain ⟨rfl, rfl⟩ := hrel
        go_wp2
        refine bodyPost_ret (results_none rfl _ _ _) rfl ?_
        exact ⟨rfl, HB.out⟩
set_option maxRecDepth 100000 in
set_option maxHeartbeats 8000000 in
theorem sym_last (pv : Value) (g n cap a m : Nat) (w : World) (hs : Still w pv g n) (ha : a + 1 < m) (hb : m + 1 ≤ n) (hn : n ≤ 1000) :
    Calls Tryz.prog 131 #[.slice (some ⟨g, 0, none⟩) n cap, .int .i64 a, .int .i64 m, .int .i64 ((m : Int) + 1), .func (.func 70) #[pv] #[]] w fun e w' => e = .returned (.tuple #[]) ∧ Below w.heap.size w w' := by
  have HS := Lib.hid hs
  have e0 : ((m : Int) - (a : Int) == 1) = false := beq_eq_false_iff_ne.2 (by omega)
  have e1 : ((m : Int) + 1 - (m : Int) == 1) = true := beq_iff_eq.2 (by omega)
  have hwr : IntKind.i64.wrap (1 : Int) = 1 := IntWalk.i64_in _ (by omega)
  clear hs
  go_enter Tryz.func131, Tryz.ntmps131
  go_wp2
  go_loopw [14, 15] (fun x y wr => ∃ i : Nat, a ≤ i ∧ i ≤ m ∧ x = .int .i64 i ∧ y = .int .i64 m ∧ Below w.heap.size w wr) (fun x _ _ => m - (intOf x).toNat)
  case atStart => exact ⟨a, Nat.le_refl _, by omega, rfl, rfl, Below.refl _ _⟩
  case round =>
    obtain ⟨i, hi1, hi2, rfl, rfl, hbw⟩ := hrel
    have HB := Lib.hid hbw
    clear hbw
    by_cases hlt : i < m
    · have hltb : (i : Int) < (m : Int) := by omega
      obtain ⟨h, hh⟩ : ∃ h : Nat, ((i : Int) + (m : Int)) / 2 = (h : Int) := ⟨(i + m) / 2, by omega⟩
      have h1 : i ≤ h := by omega
      have h2 : h < m := by omega
      have e1 := Xk.ext_cell HB.out (HS.out.cells h (by omega))
      have e2 := Xk.ext_cell HB.out (HS.out.cells m (by omega))
      have l1 := World.block_lt_of_cell? _ _ e1
      have HC : Hid (∀ p, Calls Tryz.prog 70 #[pv, .int .i64 m, .int .i64 h] (Xk.exw wr p) fun e w' => e = .returned (.int .i64 0) ∧ Below (Xk.exw wr p).heap.size (Xk.exw wr p) w') := Lib.hid fun p => HS.out.cmp _ (Xk.Ext.trans HB.out (Xk.ext_exw wr p)) m h (by omega) (by omega)
      have hib : (h : Int) < (n : Int) := by omega
      have hab : (m : Int) < (n : Int) := by omega
      have hsz := HB.out.size
      go_wp2
      refine Xk.wp_region_rel' 12 [] trivial (by kernel_rfl) (by kernel_rfl) ?_
      simp only [List.take_succ_cons, List.take_zero, List.drop_succ_cons, List.drop_zero]
      repeat (first
        | (refine Xk.rel_det (Xk.wanted_none (by rfl)) (by rfl) (fun K hK => ?_); apply Exists.intro; refine ⟨fun p hp => ?_, ?_⟩; (go_simp; first | exact ⟨rfl, rfl⟩ | ((try refine ⟨by kernel_rfl, ?_⟩); (first | (go_at_call 70; ((with_reducible refine (HC.out _).mono ?_); exact fun e w' h => h))))); (go_simp; refine hK _ ?_; clear hK K))
        | (refine Xk.rel_skip (by rfl) (fun K hK => ?_); go_simp; refine hK _ ?_; clear hK K)
        | (refine Xk.rel_det (by rfl) (by rfl) (fun K hK => ?_); apply Exists.intro; refine ⟨fun p hp => ?_, ?_⟩; (go_simp; first | exact ⟨rfl, rfl⟩ | ((try refine ⟨by kernel_rfl, ?_⟩); (first | (go_at_call 70; ((with_reducible refine (HC.out _).mono ?_); exact fun e w' h => h))))); (go_simp; refine hK _ ?_; clear hK K)))
      refine Xk.rel_nil (fun p _ => ?_)
      go_wp2
      go_roundw
      case rel => exact ⟨h + 1, by omega, by omega, by go_num, rfl, (by repeat (first | with_reducible exact HB.out | with_reducible exact Below.refl _ _ | ((with_reducible refine Below.setCell ?_ ?_ _); rotate_left; exact (by (try simp only [World.size_alloc, Xk.exw_size, World.size_setCell, World.size_drew, World.heap_drewN]); omega)) | ((with_reducible refine Below.alloc ?_ ?_ _); rotate_left; exact (by (try simp only [World.size_alloc, Xk.exw_size, World.size_setCell, World.size_drew, World.heap_drewN]); omega)) | ((with_reducible refine Xk.below_exw ?_ ?_ _); rotate_left; exact (by (try simp only [World.size_alloc, Xk.exw_size, World.size_setCell, World.size_drew, World.heap_drewN]); omega)) | (with_reducible refine Below.drew ?_)))⟩
      case measure => simp [intOf]; omega
    · obtain rfl : i = m := by omega
      have hltb : ¬ (i : Int) < (i : Int) := by omega
      go_wp2
      go_loopw [17] (fun x wr2 => x = .int .i64 i ∧ wr2 = wr) (fun _ _ => 0)
      case atStart => exact ⟨rfl, rfl⟩
      case round =>
        obtain ⟨rfl, rfl⟩ := hrel
        go_wp2
        refine bodyPost_ret (results_none rfl _ _ _) rfl ?_
        exact ⟨rfl, HB.out⟩
set_option maxRecDepth 100000 in
set_option maxHeartbeats 8000000 in
theorem sym_any (pv : Value) (g n cap : Nat) (hn : n ≤ 1000) : ∀ (k a m b : Nat) (w : World), b - a ≤ k → a < m → m < b → b ≤ n → Still w pv g n →
    Calls Tryz.prog 131 #[.slice (some ⟨g, 0, none⟩) n cap, .int .i64 a, .int .i64 m, .int .i64 b, .func (.func 70) #[pv] #[]] w fun e w' => e = .returned (.tuple #[]) ∧ Below w.heap.size w w' := by
  intro k
  induction k with
  | zero => intro a m b w h1 h2 h3; omega
  | succ k ih =>
    intro a m b w hk ham hmb hbn hs
    by_cases hm1 : m = a + 1
    · subst hm1
      exact sym_one pv g n cap a b w hs (by omega) hbn hn
    by_cases hm2 : b = m + 1
    · subst hm2
      exact sym_last pv g n cap a m w hs (by omega) hbn hn
    have e0 : ((m : Int) - (a : Int) == 1) = false := beq_eq_false_iff_ne.2 (by omega)
    have e1 : ((b : Int) - (m : Int) == 1) = false := beq_eq_false_iff_ne.2 (by omega)
    obtain ⟨mid, hmid⟩ : ∃ h : Nat, ((a : Int) + (b : Int)) / 2 = (h : Int) := ⟨(a + b) / 2, by omega⟩
    have q1 : a < mid := by omega
    have q2 : mid < b := by omega
    have HS := Lib.hid hs
    by_cases hgt : mid < m
    · have hgb : (mid : Int) < (m : Int) := by omega
      obtain ⟨st, hst⟩ : ∃ h : Nat, (mid : Int) + (m : Int) - (b : Int) = (h : Int) := ⟨mid + m - b, by omega⟩
      clear hs
      go_enter Tryz.func131, Tryz.ntmps131
      go_wp2
      go_loopw [20, 21] (fun x y wr => ∃ s : Nat, st ≤ s ∧ s ≤ mid ∧ x = .int .i64 s ∧ y = .int .i64 mid ∧ Below w.heap.size w wr) (fun x _ _ => mid - (intOf x).toNat)
      case atStart => exact ⟨st, Nat.le_refl _, by omega, rfl, rfl, Below.refl _ _⟩
      case round =>
        obtain ⟨s, hs1, hs2, rfl, rfl, hbw⟩ := hrel
        have HB := Lib.hid hbw
        clear hbw
        by_cases hlt : s < mid
        · have hltb : (s : Int) < (mid : Int) := by omega
          obtain ⟨c, hc⟩ : ∃ h : Nat, ((s : Int) + (mid : Int)) / 2 = (h : Int) := ⟨(s + mid) / 2, by omega⟩
          have h1 : s ≤ c := by omega
          have h2 : c < mid := by omega
          obtain ⟨d, hd⟩ : ∃ h : Nat, (mid : Int) + (m : Int) - 1 - (c : Int) = (h : Int) := ⟨mid + m - 1 - c, by omega⟩
          have h3 : d < n := by omega
          have e1' := Xk.ext_cell HB.out (HS.out.cells d (by omega))
          have e2' := Xk.ext_cell HB.out (HS.out.cells c (by omega))
          have l1 := World.block_lt_of_cell? _ _ e1'
          have HC : Hid (∀ p, Calls Tryz.prog 70 #[pv, .int .i64 d, .int .i64 c] (Xk.exw wr p) fun e w' => e = .returned (.int .i64 0) ∧ Below (Xk.exw wr p).heap.size (Xk.exw wr p) w') := Lib.hid fun p => HS.out.cmp _ (Xk.Ext.trans HB.out (Xk.ext_exw wr p)) d c (by omega) (by omega)
          have hib : (d : Int) < (n : Int) := by omega
          have hab : (c : Int) < (n : Int) := by omega
          have hwr : IntKind.i64.wrap (d : Int) = d := IntWalk.i64_in _ (by omega)
          have hsz := HB.out.size
          go_wp2
          refine Xk.wp_region_rel' 14 [] trivial (by kernel_rfl) (by kernel_rfl) ?_
          simp only [List.take_succ_cons, List.take_zero, List.drop_succ_cons, List.drop_zero]
          repeat (first
            | (refine Xk.rel_det (Xk.wanted_none (by rfl)) (by rfl) (fun K hK => ?_); apply Exists.intro; refine ⟨fun p hp => ?_, ?_⟩; (go_simp; first | exact ⟨rfl, rfl⟩ | ((try refine ⟨by kernel_rfl, ?_⟩); (first | (go_at_call 70; ((with_reducible refine (HC.out _).mono ?_); exact fun e w' h => h))))); (go_simp; refine hK _ ?_; clear hK K))
            | (refine Xk.rel_skip (by rfl) (fun K hK => ?_); go_simp; refine hK _ ?_; clear hK K)
            | (refine Xk.rel_det (by rfl) (by rfl) (fun K hK => ?_); apply Exists.intro; refine ⟨fun p hp => ?_, ?_⟩; (go_simp; first | exact ⟨rfl, rfl⟩ | ((try refine ⟨by kernel_rfl, ?_⟩); (first | (go_at_call 70; ((with_reducible refine (HC.out _).mono ?_); exact fun e w' h => h))))); (go_simp; refine hK _ ?_; clear hK K)))
          refine Xk.rel_nil (fun p _ => ?_)
          go_wp2
          go_roundw
          case rel => exact ⟨c + 1, by omega, by omega, by go_num, rfl, (by repeat (first | with_reducible exact HB.out | with_reducible exact Below.refl _ _ | ((with_reducible refine Below.setCell ?_ ?_ _); rotate_left; exact (by (try simp only [World.size_alloc, Xk.exw_size, World.size_setCell, World.size_drew, World.heap_drewN]); omega)) | ((with_reducible refine Below.alloc ?_ ?_ _); rotate_left; exact (by (try simp only [World.size_alloc, Xk.exw_size, World.size_setCell, World.size_drew, World.heap_drewN]); omega)) | ((with_reducible refine Xk.below_exw ?_ ?_ _); rotate_left; exact (by (try simp only [World.size_alloc, Xk.exw_size, World.size_setCell, World.size_drew, World.heap_drewN]); omega)) | (with_reducible refine Below.drew ?_)))⟩
          case measure => simp [intOf]; omega
        · obtain rfl : s = mid := by omega
          have hltb : ¬ (s : Int) < (s : Int) := by omega
          have hab : (a : Int) < (s : Int) := by omega
          have hmb' : (m : Int) < (b : Int) := by omega
          have hi0 := ih s m b wr (by omega) hgt hmb hbn (HS.out.ext HB.out)
          rw [show (m : Int) = (s : Int) + (m : Int) - (s : Int) by omega] at hi0
          have HI := Lib.hid hi0
          clear hi0
          have hsz := HB.out.size
          go_wp2_with (first | (go_at_call 131; (with_reducible refine (HI.out).mono ?_); rintro e w' ⟨rfl, hb⟩; obtain ⟨p, rfl⟩ := Xk.exw_of hb; clear hb))
          go_end0
          exact ⟨rfl, (by repeat (first | with_reducible exact HB.out | with_reducible exact Below.refl _ _ | ((with_reducible refine Below.setCell ?_ ?_ _); rotate_left; exact (by (try simp only [World.size_alloc, Xk.exw_size, World.size_setCell, World.size_drew, World.heap_drewN]); omega)) | ((with_reducible refine Below.alloc ?_ ?_ _); rotate_left; exact (by (try simp only [World.size_alloc, Xk.exw_size, World.size_setCell, World.size_drew, World.heap_drewN]); omega)) | ((with_reducible refine Xk.below_exw ?_ ?_ _); rotate_left; exact (by (try simp only [World.size_alloc, Xk.exw_size, World.size_setCell, World.size_drew, World.heap_drewN]); omega)) | (with_reducible refine Below.drew ?_)))⟩
    · have hgb : ¬ (mid : Int) < (m : Int) := by omega
      clear hs
      go_enter Tryz.func131, Tryz.ntmps131
      go_wp2
      go_loopw [20, 21] (fun x y wr => ∃ s : Nat, a ≤ s ∧ s ≤ m ∧ x = .int .i64 s ∧ y = .int .i64 m ∧ Below w.heap.size w wr) (fun x _ _ => m - (intOf x).toNat)
      case atStart => exact ⟨a, Nat.le_refl _, by omega, rfl, rfl, Below.refl _ _⟩
      case round =>
        obtain ⟨s, hs1, hs2, rfl, rfl, hbw⟩ := hrel
        have HB := Lib.hid hbw
        clear hbw
        by_cases hlt : s < m
        · have hltb : (s : Int) < (m : Int) := by omega
          obtain ⟨c, hc⟩ : ∃ h : Nat, ((s : Int) + (m : Int)) / 2 = (h : Int) := ⟨(s + m) / 2, by omega⟩
          have h1 : s ≤ c := by omega
          have h2 : c < m := by omega
          obtain ⟨d, hd⟩ : ∃ h : Nat, (mid : Int) + (m : Int) - 1 - (c : Int) = (h : Int) := ⟨mid + m - 1 - c, by omega⟩
          have h3 : d < n := by omega
          have e1' := Xk.ext_cell HB.out (HS.out.cells d (by omega))
          have e2' := Xk.ext_cell HB.out (HS.out.cells c (by omega))
          have l1 := World.block_lt_of_cell? _ _ e1'
          have HC : Hid (∀ p, Calls Tryz.prog 70 #[pv, .int .i64 d, .int .i64 c] (Xk.exw wr p) fun e w' => e = .returned (.int .i64 0) ∧ Below (Xk.exw wr p).heap.size (Xk.exw wr p) w') := Lib.hid fun p => HS.out.cmp _ (Xk.Ext.trans HB.out (Xk.ext_exw wr p)) d c (by omega) (by omega)
          have hib : (d : Int) < (n : Int) := by omega
          have hab : (c : Int) < (n : Int) := by omega
          have hwr : IntKind.i64.wrap (d : Int) = d := IntWalk.i64_in _ (by omega)
          have hsz := HB.out.size
          go_wp2
          refine Xk.wp_region_rel' 14 [] trivial (by kernel_rfl) (by kernel_rfl) ?_
          simp only [List.take_succ_cons, List.take_zero, List.drop_succ_cons, List.drop_zero]
          repeat (first
            | (refine Xk.rel_det (Xk.wanted_none (by rfl)) (by rfl) (fun K hK => ?_); apply Exists.intro; refine ⟨fun p hp => ?_, ?_⟩; (go_simp; first | exact ⟨rfl, rfl⟩ | ((try refine ⟨by kernel_rfl, ?_⟩); (first | (go_at_call 70; ((with_reducible refine (HC.out _).mono ?_); exact fun e w' h => h))))); (go_simp; refine hK _ ?_; clear hK K))
            | (refine Xk.rel_skip (by rfl) (fun K hK => ?_); go_simp; refine hK _ ?_; clear hK K)
            | (refine Xk.rel_det (by rfl) (by rfl) (fun K hK => ?_); apply Exists.intro; refine ⟨fun p hp => ?_, ?_⟩; (go_simp; first | exact ⟨rfl, rfl⟩ | ((try refine ⟨by kernel_rfl, ?_⟩); (first | (go_at_call 70; ((with_reducible refine (HC.out _).mono ?_); exact fun e w' h => h))))); (go_simp; refine hK _ ?_; clear hK K)))
          refine Xk.rel_nil (fun p _ => ?_)
          go_wp2
          go_roundw
          case rel => exact ⟨c + 1, by omega, by omega, by go_num, rfl, (by repeat (first | with_reducible exact HB.out | with_reducible exact Below.refl _ _ | ((with_reducible refine Below.setCell ?_ ?_ _); rotate_left; exact (by (try simp only [World.size_alloc, Xk.exw_size, World.size_setCell, World.size_drew, World.heap_drewN]); omega)) | ((with_reducible refine Below.alloc ?_ ?_ _); rotate_left; exact (by (try simp only [World.size_alloc, Xk.exw_size, World.size_setCell, World.size_drew, World.heap_drewN]); omega)) | ((with_reducible refine Xk.below_exw ?_ ?_ _); rotate_left; exact (by (try simp only [World.size_alloc, Xk.exw_size, World.size_setCell, World.size_drew, World.heap_drewN]); omega)) | (with_reducible refine Below.drew ?_)))⟩
          case measure => simp [intOf]; omega
        · obtain rfl : s = m := by omega
          have hltb : ¬ (s : Int) < (s : Int) := by omega
          have hab : (a : Int) < (s : Int) := by omega
          by_cases hlm : s < mid
          · have hlb : (s : Int) < (mid : Int) := by omega
            have hi0 := ih a s mid wr (by omega) ham hlm (by omega) (HS.out.ext HB.out)
            have HI := Lib.hid hi0
            clear hi0
            have hsz := HB.out.size
            go_wp2_with (first | (go_at_call 131; (with_reducible refine (HI.out).mono ?_); rintro e w' ⟨rfl, hb⟩; obtain ⟨p, rfl⟩ := Xk.exw_of hb; clear hb))
            go_end0
            exact ⟨rfl, (by repeat (first | with_reducible exact HB.out | with_reducible exact Below.refl _ _ | ((with_reducible refine Below.setCell ?_ ?_ _); rotate_left; exact (by (try simp only [World.size_alloc, Xk.exw_size, World.size_setCell, World.size_drew, World.heap_drewN]); omega)) | ((with_reducible refine Below.alloc ?_ ?_ _); rotate_left; exact (by (try simp only [World.size_alloc, Xk.exw_size, World.size_setCell, World.size_drew, World.heap_drewN]); omega)) | ((with_reducible refine Xk.below_exw ?_ ?_ _); rotate_left; exact (by (try simp only [World.size_alloc, Xk.exw_size, World.size_setCell, World.size_drew, World.heap_drewN]); omega)) | (with_reducible refine Below.drew ?_)))⟩
          · obtain rfl : s = mid := by omega
            go_wp2
            go_end0
            exact ⟨rfl, HB.out⟩
end Go.Proofs.YtmoippbmnanajaaGreatDoor
namespace Go.Proofs.YtmoippbmnanajaaGreatDoor
open Go.RowKit
set_option maxRecDepth 100000 in
set_option maxHeartbeats 8000000 in
theorem stable_any (pv : Value) (g n cap : Nat) (hn : n ≤ 39) (w : World) (hs : Still w pv g n) :
    Calls Tryz.prog 97 #[.slice (some ⟨g, 0, none⟩) n cap, .int .i64 n, .func (.func 70) #[pv] #[]] w fun e w' => e = .returned (.tuple #[]) ∧ Below w.heap.size w w' := by
  have HI := Lib.hid fun (a b : Nat) (ha : a ≤ b) (hb : b ≤ n) W (hx : Xk.Ext w W) => insert_any pv g n cap a b W (hs.ext hx) ha hb (by omega)
  have HS := Lib.hid hs
  clear hs
  go_enter Tryz.func97, Tryz.ntmps97
  go_wp2
  go_loopw [7, 8] (fun x y wr => (x = .int .i64 0 ∧ y = .int .i64 20 ∨ x = .int .i64 20 ∧ y = .int .i64 40 ∧ 20 ≤ n) ∧ Below w.heap.size w wr) (fun x _ _ => 40 - (intOf x).toNat)
  case atStart => exact ⟨.inl ⟨rfl, rfl⟩, Below.refl _ _⟩
  case round =>
    obtain ⟨ha, hbw⟩ := hrel
    have HB := Lib.hid hbw
    have hsz := hbw.size
    clear hbw
    rcases ha with ⟨rfl, rfl⟩ | ⟨rfl, rfl, h20⟩
    · by_cases hlt : 20 ≤ n
      · have hltb : (20 : Int) ≤ (n : Int) := by omega
        have HI2 : Hid (Calls Tryz.prog 130 #[.slice (some ⟨g, 0, none⟩) n cap, .int .i64 0, .int .i64 20, .func (.func 70) #[pv] #[]] wr fun e w' => e = .returned (.tuple #[]) ∧ Below wr.heap.size wr w') := Lib.hid (HI.out 0 20 (by omega) (by omega) wr HB.out)
        go_wp2_with (first | (go_at_call 130; (with_reducible refine (HI2.out).mono ?_); rintro e w' ⟨rfl, hb⟩; obtain ⟨p, rfl⟩ := Xk.exw_of hb; clear hb))
        go_roundw
        case rel => exact ⟨.inr ⟨rfl, rfl, hlt⟩, (by repeat (first | with_reducible exact HB.out | with_reducible exact Below.refl _ _ | ((with_reducible refine Below.setCell ?_ ?_ _); rotate_left; exact (by (try simp only [World.size_alloc, Xk.exw_size, World.size_setCell, World.size_drew, World.heap_drewN]); omega)) | ((with_reducible refine Below.alloc ?_ ?_ _); rotate_left; exact (by (try simp only [World.size_alloc, Xk.exw_size, World.size_setCell, World.size_drew, World.heap_drewN]); omega)) | ((with_reducible refine Xk.below_exw ?_ ?_ _); rotate_left; exact (by (try simp only [World.size_alloc, Xk.exw_size, World.size_setCell, World.size_drew, World.heap_drewN]); omega)) | (with_reducible refine Below.drew ?_)))⟩
        case measure => simp [intOf]
      · have hltb : ¬ (20 : Int) ≤ (n : Int) := by omega
        have HI2 : Hid (Calls Tryz.prog 130 #[.slice (some ⟨g, 0, none⟩) n cap, .int .i64 0, .int .i64 n, .func (.func 70) #[pv] #[]] wr fun e w' => e = .returned (.tuple #[]) ∧ Below wr.heap.size wr w') := Lib.hid (HI.out 0 n (by omega) (by omega) wr HB.out)
        have hlt2 : ¬ (20 : Int) < (n : Int) := by omega
        go_wp2_with (first | (go_at_call 130; (with_reducible refine (HI2.out).mono ?_); rintro e w' ⟨rfl, hb⟩; obtain ⟨p, rfl⟩ := Xk.exw_of hb; clear hb))
        generalize hWf : Xk.exw wr _ = W1
        have hx1 : Xk.Ext w W1 := by rw [← hWf]; exact (by repeat (first | with_reducible exact HB.out | with_reducible exact Below.refl _ _ | ((with_reducible refine Below.setCell ?_ ?_ _); rotate_left; exact (by (try simp only [World.size_alloc, Xk.exw_size, World.size_setCell, World.size_drew, World.heap_drewN]); omega)) | ((with_reducible refine Below.alloc ?_ ?_ _); rotate_left; exact (by (try simp only [World.size_alloc, Xk.exw_size, World.size_setCell, World.size_drew, World.heap_drewN]); omega)) | ((with_reducible refine Xk.below_exw ?_ ?_ _); rotate_left; exact (by (try simp only [World.size_alloc, Xk.exw_size, World.size_setCell, World.size_drew, World.heap_drewN]); omega)) | (with_reducible refine Below.drew ?_)))
        go_loopw [6] (fun x wr2 => x = .int .i64 20 ∧ wr2 = W1) (fun _ _ => 0)
        case atStart => exact ⟨rfl, rfl⟩
        case round =>
          obtain ⟨rfl, rfl⟩ := hrel
          go_wp2
          go_end0
          exact ⟨rfl, hx1⟩
    · have hltb : ¬ (40 : Int) ≤ (n : Int) := by omega
      have HI2 : Hid (Calls Tryz.prog 130 #[.slice (some ⟨g, 0, none⟩) n cap, .int .i64 20, .int .i64 n, .func (.func 70) #[pv] #[]] wr fun e w' => e = .returned (.tuple #[]) ∧ Below wr.heap.size wr w') := Lib.hid (HI.out 20 n (by omega) (by omega) wr HB.out)
      go_wp2_with (first | (go_at_call 130; (with_reducible refine (HI2.out).mono ?_); rintro e w' ⟨rfl, hb⟩; obtain ⟨p, rfl⟩ := Xk.exw_of hb; clear hb))
      generalize hWf : Xk.exw wr _ = W1
      have hx1 : Xk.Ext w W1 := by rw [← hWf]; exact (by repeat (first | with_reducible exact HB.out | with_reducible exact Below.refl _ _ | ((with_reducible refine Below.setCell ?_ ?_ _); rotate_left; exact (by (try simp only [World.size_alloc, Xk.exw_size, World.size_setCell, World.size_drew, World.heap_drewN]); omega)) | ((with_reducible refine Below.alloc ?_ ?_ _); rotate_left; exact (by (try simp only [World.size_alloc, Xk.exw_size, World.size_setCell, World.size_drew, World.heap_drewN]); omega)) | ((with_reducible refine Xk.below_exw ?_ ?_ _); rotate_left; exact (by (try simp only [World.size_alloc, Xk.exw_size, World.size_setCell, World.size_drew, World.heap_drewN]); omega)) | (with_reducible refine Below.drew ?_)))
      clear hWf
      have HX1 := Lib.hid hx1
      clear hx1
      go_loopw [6] (fun x wr2 => (x = .int .i64 20 ∨ x = .int .i64 40) ∧ Below w.heap.size w wr2) (fun x _ => 40 - (intOf x).toNat)
      case atStart => exact ⟨.inl rfl, HX1.out⟩
      case round =>
        obtain ⟨hx, hbw⟩ := hrel
        have HB2 := Lib.hid hbw
        have hsz2 := hbw.size
        clear hbw
        rcases hx with rfl | rfl
        · by_cases hlt : 20 < n
          · have hlt2 : (20 : Int) < (n : Int) := by omega
            have HM : Hid (Calls Tryz.prog 131 #[.slice (some ⟨g, 0, none⟩) n cap, .int .i64 0, .int .i64 20, .int .i64 n, .func (.func 70) #[pv] #[]] wr fun e w' => e = .returned (.tuple #[]) ∧ Below wr.heap.size wr w') :=
              Lib.hid (sym_any pv g n cap (by omega) n 0 20 n wr (by omega) (by omega) hlt (Nat.le_refl _) (HS.out.ext HB2.out))
            go_wp2
            go_loopw [7, 8] (fun x y wr2 => x = .int .i64 0 ∧ y = .int .i64 40 ∧ wr2 = wr) (fun _ _ _ => 0)
            case atStart => exact ⟨rfl, rfl, rfl⟩
            case round =>
              obtain ⟨rfl, rfl, rfl⟩ := hrel
              go_wp2_with (first | (go_at_call 131; (with_reducible refine (HM.out).mono ?_); rintro e w' ⟨rfl, hb⟩; obtain ⟨p, rfl⟩ := Xk.exw_of hb; clear hb))
              go_roundw
              case rel => exact ⟨.inr rfl, (by repeat (first | with_reducible exact HB2.out | with_reducible exact Below.refl _ _ | ((with_reducible refine Below.setCell ?_ ?_ _); rotate_left; exact (by (try simp only [World.size_alloc, Xk.exw_size, World.size_setCell, World.size_drew, World.heap_drewN]); omega)) | ((with_reducible refine Below.alloc ?_ ?_ _); rotate_left; exact (by (try simp only [World.size_alloc, Xk.exw_size, World.size_setCell, World.size_drew, World.heap_drewN]); omega)) | ((with_reducible refine Xk.below_exw ?_ ?_ _); rotate_left; exact (by (try simp only [World.size_alloc, Xk.exw_size, World.size_setCell, World.size_drew, World.heap_drewN]); omega)) | (with_reducible refine Below.drew ?_)))⟩
              case measure => simp [intOf]
          · have hlt2 : ¬ (20 : Int) < (n : Int) := by omega
            go_wp2
            go_end0
            exact ⟨rfl, HB2.out⟩
        · have hlt2 : ¬ (40 : Int) < (n : Int) := by omega
          go_wp2
          go_end0
          exact ⟨rfl, HB2.out⟩
set_option maxRecDepth 100000 in
theorem sort_any (pv : Value) (g n cap : Nat) (hn : n ≤ 39) (w : World) (hs : Still w pv g n) :
    Calls Tryz.prog 69 #[.slice (some ⟨g, 0, none⟩) n cap, .func (.func 70) #[pv] #[]] w fun e w' => e = .returned (.tuple #[]) ∧ Below w.heap.size w w' := by
  have HS := Lib.hid (stable_any pv g n cap hn w hs)
  clear hs
  go_enter Tryz.func69, Tryz.ntmps69
  go_wp2_with (first | (go_at_call 97; (with_reducible refine (HS.out).mono ?_); rintro e w' ⟨rfl, hb⟩; obtain ⟨p, rfl⟩ := Xk.exw_of hb; clear hb))
  go_end0
  exact ⟨rfl, (by repeat (first | with_reducible exact Below.refl _ _ | ((with_reducible refine Below.setCell ?_ ?_ _); rotate_left; exact (by (try simp only [World.size_alloc, Xk.exw_size, World.size_setCell, World.size_drew, World.heap_drewN]); omega)) | ((with_reducible refine Below.alloc ?_ ?_ _); rotate_left; exact (by (try simp only [World.size_alloc, Xk.exw_size, World.size_setCell, World.size_drew, World.heap_drewN]); omega)) | ((with_reducible refine Xk.below_exw ?_ ?_ _); rotate_left; exact (by (try simp only [World.size_alloc, Xk.exw_size, World.size_setCell, World.size_drew, World.heap_drewN]); omega)) | (with_reducible refine Below.drew ?_)))⟩
end Go.Proofs.YtmoippbmnanajaaGreatDoor
namespace Go.Proofs.YtmoippbmnanajaaGreatDoor
open Go.RowKit
/-- What lay in w0 lies there still. -/
def Agree (w0 W : World) : Prop := w0.heap.size ≤ W.heap.size ∧ ∀ b, b < w0.heap.size → W.heap[b]? = w0.heap[b]?
theorem Agree.refl (w : World) : Agree w w := ⟨Nat.le_refl _, fun _ _ => rfl⟩
theorem Agree.ext {w0 W W' : World} (h : Agree w0 W) (hx : Xk.Ext W W') : Agree w0 W' := ⟨Nat.le_trans h.1 hx.size, fun b hb => (hx.block b (Nat.lt_of_lt_of_le hb h.1)).trans (h.2 b hb)⟩
theorem Agree.cell {w0 W : World} (h : Agree w0 W) {b o : Nat} {v : Value} (hc : w0.cell? ⟨b, o, none⟩ = some v) : W.cell? ⟨b, o, none⟩ = some v := by
  have hb := World.block_lt_of_cell? _ _ hc
  rw [← hc]
  unfold World.cell?
  rw [show (⟨b, o, none⟩ : Addr).block = b from rfl, h.2 b hb]
theorem Agree.setCell {w0 W : World} (h : Agree w0 W) {b o : Nat} (hb : w0.heap.size ≤ b) (u : Value) : Agree w0 (W.setCell ⟨b, o, none⟩ u) := by
  refine ⟨by rw [World.size_setCell]; exact h.1, fun c hc => ?_⟩
  rw [heap_setCell_other W ⟨b, o, none⟩ c u (fun e => by simp at e; omega)]
  exact h.2 c hc
theorem RowAt.agree {w0 W : World} {u : Value} {l : List V} (h : RowAt w0 u l) (ha : Agree w0 W) : RowAt W u l := by
  obtain ⟨pa, cap, hv, hl⟩ := h
  refine ⟨pa, cap, hv, fun j x hj => ?_⟩
  obtain ⟨b, off, h1, h2, h3, h4, h5⟩ := hl j x hj
  exact ⟨b, off, h1, ha.cell h2, ha.cell h3, ha.cell h4, h5⟩
/-- A slice of n rows that are all l, as they lay in w0. -/
def Rows0 (w0 W : World) (v : Value) (n : Nat) (l : List V) : Prop := ∃ pa cap, v = .slice pa n cap ∧ n ≤ cap ∧ ∀ j, j < n → ∃ b off u, pa = some ⟨b, off, none⟩ ∧ W.cell? ⟨b, off + j, none⟩ = some u ∧ RowAt w0 u l
theorem Rows0.ext {w0 W W' : World} {v : Value} {n : Nat} {l : List V} (h : Rows0 w0 W v n l) (hx : Xk.Ext W W') : Rows0 w0 W' v n l := by
  obtain ⟨pa, cap, e, hc, hl⟩ := h
  refine ⟨pa, cap, e, hc, fun j hj => ?_⟩
  obtain ⟨b, off, u, h1, h2, h3⟩ := hl j hj
  exact ⟨b, off, u, h1, Xk.ext_cell hx h2, h3⟩
theorem Rows0.rows {w0 W : World} {v : Value} {n : Nat} {l : List V} (h : Rows0 w0 W v n l) (ha : Agree w0 W) : RowsAt W v (List.replicate n l) := by
  obtain ⟨pa, cap, e, hc, hl⟩ := h
  refine ⟨pa, cap, by rw [List.length_replicate]; exact e, by rw [List.length_replicate]; exact hc, fun j x hj => ?_⟩
  have hjn : j < n := by have := (List.getElem?_eq_some_iff.1 hj).1; simpa using this
  obtain ⟨b, off, u, h1, h2, h3⟩ := hl j hjn
  have hx : x = l := by
    rw [List.getElem?_replicate, if_pos hjn] at hj
    cases hj; rfl
  subst hx
  rw [Nat.mul_one]
  exact ⟨b, off, h1, u, h2, h3.agree ha⟩
/-- .. of the call's own. -/
def Own0 (w0 W : World) (B : Nat) (v : Value) (n : Nat) (l : List V) : Prop := ∃ us, W.ownsRow B 37 1 v n us ∧ ∀ u ∈ us, RowAt w0 u l
theorem Own0.rows0 {w0 W : World} {B : Nat} {v : Value} {n : Nat} {l : List V} (h : Own0 w0 W B v n l) : Rows0 w0 W v n l := by
  obtain ⟨us, ho, hu⟩ := h
  have h := ho
  obtain ⟨h1, h2⟩ := ho
  rcases h2 with ⟨rfl, rfl⟩ | ⟨g, cap, cur, rfl, hb, hg, hnc, hcm, hcs, htake⟩
  · exact ⟨none, 0, rfl, Nat.le_refl _, fun j hj => by omega⟩
  · refine ⟨some ⟨g, 0, none⟩, cap, rfl, hnc, fun j hj => ?_⟩
    have hju : j < us.length := by omega
    refine ⟨g, 0, us[j], rfl, ?_, hu _ (List.getElem_mem hju)⟩
    rw [Nat.zero_add, h.cellAt j (by omega), List.getElem?_eq_getElem hju]
theorem Own0.ext {w0 W W' : World} {B : Nat} {v : Value} {n : Nat} {l : List V} (h : Own0 w0 W B v n l) (hx : Xk.Ext W W') : Own0 w0 W' B v n l := by
  obtain ⟨us, ho, hu⟩ := h
  exact ⟨us, Xo.own_ext ho hx, hu⟩
theorem Own0.setCell {w0 W : World} {B : Nat} {v : Value} {n : Nat} {l : List V} (h : Own0 w0 W B v n l) {b o : Nat} (hb : b < B) (u : Value) : Own0 w0 (W.setCell ⟨b, o, none⟩ u) B v n l := by
  obtain ⟨us, ho, hu⟩ := h
  exact ⟨us, Xo.own_setCell ho hb u, hu⟩
/-- Numbers laid so far. -/
def upIdx (n q : Nat) : List Value := (List.range n).map fun i => .int .i64 (if i < q then (i : Int) else 0)
theorem upIdx_zero (n : Nat) : (madeCells #[.int .i64 0] n).toList = upIdx n 0 := by
  rw [toList_madeCells_one]
  apply List.ext_getElem?
  intro i
  by_cases h : i < n <;> simp [upIdx, h]
theorem upIdx_set (n q : Nat) (h : q < n) : (upIdx n q).set q (.int .i64 q) = upIdx n (q + 1) := by
  apply List.ext_getElem?
  intro i
  rw [List.getElem?_set]
  by_cases hi : i < n
  · by_cases hq : q = i
    · subst hq; simp [upIdx, h]
    · rw [if_neg hq]
      simp only [upIdx, List.getElem?_map, List.getElem?_range hi, Option.map_some, Option.some.injEq]
      have : (i < q) = (i < q + 1) := propext ⟨fun h => by omega, fun h => by omega⟩
      simp only [this]
  · have hl : ∀ q, (upIdx n q).length = n := fun q => by simp [upIdx]
    rw [if_neg (by omega), List.getElem?_eq_none (by rw [hl]; omega), List.getElem?_eq_none (by rw [hl]; omega)]
theorem upIdx_at (n q i : Nat) (h : i < n) : (upIdx n q)[i]? = some (.int .i64 (if i < q then (i : Int) else 0)) := by simp [upIdx, h]
set_option maxRecDepth 100000 in
set_option maxHeartbeats 8000000 in
theorem rising_any (w0 : World) (v : Value) (n : Nat) (l : List V) (w : World) (ha : Agree w0 w) (hr : Rows0 w0 w v n l) (hn : n ≤ 39) (hl : l.length ≤ 1000) :
    Calls Tryz.prog 42 #[v] w fun e w' => ∃ v', e = .returned v' ∧ Below w.heap.size w w' ∧ Own0 w0 w' w.heap.size v' n l := by
  have HA := Lib.hid ha
  have HR := Lib.hid hr
  obtain ⟨pr, cr, rfl, -, hr'⟩ := hr
  have HRr := Lib.hid hr'
  obtain ⟨i0, hi, hz0, hz1, hz2⟩ := info_parts Tryz.infoInt
  have Hi := Lib.hid hi
  have Hz0 := Lib.hid hz0
  have Hz1 := Lib.hid hz1
  have Hb : Hid (i0.bytes * n ≤ 281474976710656) := Lib.hid (by rw [hz2]; omega)
  clear hi hz0 hz1 hz2 ha hr'
  go_enter Tryz.func42, Tryz.ntmps42
  go_wp2_with (first
    | (at_make; refine wpList_make_full _ rfl _ _ 59 rfl w.heap.size 3 i0 _ 1 Tryz.underlying59 Hi.out Hz0.out Hz1.out .i64 .i64 _ _ n rfl rfl rfl rfl Hb.out (by unfold maxLen; omega) (by simp) ?_; intro w1 ho hgr; have HO := Lib.hid ho; have HG := Lib.hid hgr; clear ho hgr))
  have hb1 := below_grown HG.out (Nat.le_refl _)
  have ho1 := HO.out
  rw [Nat.mul_one, show (Value.int .i64 0).cells = #[.int .i64 0] from rfl, upIdx_zero] at ho1
  have HB1 := Lib.hid hb1
  have HO1 := Lib.hid ho1
  clear hb1 ho1 HO HG
  go_loopw [15] (fun x wr => ∃ q : Nat, q ≤ n ∧ x = .int .i64 q ∧ Below w.heap.size w wr ∧ wr.ownsRow w.heap.size 3 1 (.slice (some ⟨w.heap.size, 0, none⟩) n n) n (upIdx n q)) (fun x _ => n - (intOf x).toNat)
  case atStart => exact ⟨0, Nat.zero_le _, rfl, HB1.out, HO1.out⟩
  case round =>
    clear HB1 HO1
    obtain ⟨q, hq, rfl, hbw, ho⟩ := hrel
    have HB := Lib.hid hbw
    have HO := Lib.hid ho
    have hsz := hbw.size
    clear hbw
    by_cases hlt : q < n
    · have hqb : (q : Int) < (n : Int) := by omega
      have hc := ho.cellAt q (by omega)
      rw [upIdx_at n q q hlt, if_neg (by omega)] at hc
      have hf := ho.frozenAt q
      have lb := (own_base ho).2
      clear ho
      go_wp2
      go_roundw
      case rel => exact ⟨q + 1, by omega, by go_num, HB.out.setCell (Nat.le_refl _) _, by
        have h1 := (HO.out.stored q (.int .i64 q)).1
        rw [upIdx_set n q hlt] at h1
        exact h1⟩
      case measure => simp [intOf]; omega
    · obtain rfl : q = n := by omega
      have hqb : ¬ (q : Int) < (q : Int) := by omega
      have hcells : ∀ j, j < q → wr.cell? ⟨w.heap.size, j, none⟩ = some (.int .i64 j) := fun j hj => by
        have h := ho.cellAt j (by omega)
        rwa [upIdx_at q q j hj, if_pos hj] at h
      have hst : Still wr (.slice pr q cr) w.heap.size q := ⟨hcells, fun W hx i j hi hj => order_any _ l q i j W ((HR.out.ext (Xk.Ext.trans HB.out hx)).rows (HA.out.ext (Xk.Ext.trans HB.out hx))) hi hj (by omega) hl⟩
      have HS := Lib.hid (sort_any (.slice pr q cr) w.heap.size q q hn wr hst)
      have lb := (own_base ho).2
      have HCe := Lib.hid hcells
      clear ho hcells hst
      go_wp2_with (first | (go_at_call 69; (with_reducible refine (HS.out).mono ?_); rintro e w' ⟨rfl, hb⟩; obtain ⟨p, rfl⟩ := Xk.exw_of hb; clear hb))
      generalize hWf : Xk.exw wr _ = W2
      have hx2 : Xk.Ext wr W2 := by rw [← hWf]; exact (by repeat (first | with_reducible exact Below.refl _ _ | ((with_reducible refine Below.setCell ?_ ?_ _); rotate_left; exact (by (try simp only [World.size_alloc, Xk.exw_size, World.size_setCell, World.size_drew, World.heap_drewN]); omega)) | ((with_reducible refine Below.alloc ?_ ?_ _); rotate_left; exact (by (try simp only [World.size_alloc, Xk.exw_size, World.size_setCell, World.size_drew, World.heap_drewN]); omega)) | ((with_reducible refine Xk.below_exw ?_ ?_ _); rotate_left; exact (by (try simp only [World.size_alloc, Xk.exw_size, World.size_setCell, World.size_drew, World.heap_drewN]); omega)) | (with_reducible refine Below.drew ?_)))
      have HX2 := Lib.hid hx2
      have hlt2 : w.heap.size < W2.heap.size := by have := hx2.size; omega
      clear hWf hx2 Hi Hz0 Hz1 Hb i0
      obtain ⟨i0, hi, hz0, hz1, hz2⟩ := info_parts Tryz.infoRow
      have Hi := Lib.hid hi
      have Hz0 := Lib.hid hz0
      have Hz1 := Lib.hid hz1
      have Hz2 := Lib.hid hz2
      clear hi hz0 hz1 hz2
      go_loopw [6, 29] (fun vo x wr2 => ∃ (k : Nat) (us : List Value), k ≤ q ∧ x = .int .i64 k ∧ Below W2.heap.size W2 wr2 ∧ wr2.ownsRow W2.heap.size 37 1 vo k us ∧ ∀ u ∈ us, RowAt w0 u l) (fun _ x _ => q - (intOf x).toNat)
      case atStart => exact ⟨0, [], Nat.zero_le _, rfl, Below.refl _ _, World.ownsRow_nil _ _ _ _, fun u hu => by cases hu⟩
      case round =>
        obtain ⟨k, us, hk, rfl, hbw, ho, hu⟩ := hrel
        have HB3 := Lib.hid hbw
        have HO3 := Lib.hid ho
        have HU3 := Lib.hid hu
        have hsz3 := hbw.size
        by_cases hlt : k < q
        · have hkb : (k : Int) < (q : Int) := by omega
          obtain ⟨b, off, u, rfl, d1, hru⟩ := HRr.out k hlt
          have e1 := Xk.ext_cell (Xk.Ext.trans HX2.out hbw) (HCe.out k hlt)
          have d1 := Xk.ext_cell (Xk.Ext.trans (Xk.Ext.trans HB.out HX2.out) hbw) d1
          have l1 := World.block_lt_of_cell? _ _ d1
          have l2 := World.block_lt_of_cell? _ _ e1
          have HRu := Lib.hid hru
          obtain ⟨pu, cu, rfl, -⟩ := hru
          clear hbw ho hu
          go_wp2_with (first | (at_builtin; refine Xo.wpList_appk (w0 := W2) rfl _ _ 23 rfl 37 i0 _ 1 24 Tryz.underlying23 Hi.out Hz0.out Hz1.out Hz2.out rfl (by decide) u6 k us rfl (by repeat (first | with_reducible exact HO3.out | with_reducible refine Xo.own_alloc ?_ _ | with_reducible refine Xo.own_drew ?_ | with_reducible refine Xo.own_exw ?_ _)) _ 0 1 1 [.slice pu l.length cu] rfl (by decide) rfl (Xo.cells1 (by simp)) (Xo.one1 rfl) (by omega) (by repeat (first | with_reducible exact HB3.out | with_reducible exact Below.refl _ _ | ((with_reducible refine Below.setCell ?_ ?_ _); rotate_left; exact (by (try simp only [World.size_alloc, Xk.exw_size, World.size_setCell, World.size_drew, World.heap_drewN]); omega)) | ((with_reducible refine Below.alloc ?_ ?_ _); rotate_left; exact (by (try simp only [World.size_alloc, Xk.exw_size, World.size_setCell, World.size_drew, World.heap_drewN]); omega)) | ((with_reducible refine Xk.below_exw ?_ ?_ _); rotate_left; exact (by (try simp only [World.size_alloc, Xk.exw_size, World.size_setCell, World.size_drew, World.heap_drewN]); omega)) | (with_reducible refine Below.drew ?_))) ?_; intro v' w' ho' hg' hk' hb'; have HO' := Lib.hid ho'; have HG' := Lib.hid hg'; have HK' := Lib.hid hk'; have HB' := Lib.hid hb'; clear ho' hg' hk' hb'))
          go_roundw
          case rel => exact ⟨k + 1, us ++ [.slice pu l.length cu], by omega, by go_num, HB'.out, HO'.out, fun u hu => by
            rcases List.mem_append.1 hu with h | h
            · exact HU3.out u h
            · simp only [List.mem_cons, List.not_mem_nil, or_false] at h
              subst h; exact HRu.out⟩
          case measure => simp [intOf]; omega
        · obtain rfl : k = q := by omega
          have hkb : ¬ (k : Int) < (k : Int) := by omega
          have HF : Hid (Below w.heap.size w wr) := Lib.hid (Xk.Ext.trans (Xk.Ext.trans HB.out HX2.out) hbw)
          clear hbw ho hu
          go_wp2
          go_ret
          exact ⟨_, rfl, HF.out, us, Xo.own_le HO3.out (by omega), HU3.out⟩
end Go.Proofs.YtmoippbmnanajaaGreatDoor
namespace Go.Proofs.YtmoippbmnanajaaGreatDoor
open Go.RowKit
set_option maxRecDepth 100000 in
set_option maxHeartbeats 4000000 in
theorem growE_any (n : Nat) (w : World) (hn : n ≤ 1000) :
    Calls Tryz.prog 71 #[.slice none 0 0, .int .i64 n] w fun e w' => ∃ v', e = .returned v' ∧ Below w.heap.size w w' ∧ w'.ownsRow w.heap.size 37 1 v' 0 [] := by
  obtain ⟨i0, hi, hz0, hz1, hz2⟩ := info_parts Tryz.infoRow
  by_cases h0 : n = 0
  · subst h0
    go_enter Tryz.func71, Tryz.ntmps71
    go_wp2
    go_ret
    exact ⟨_, rfl, Below.refl _ _, World.ownsRow_nil _ _ _ _⟩
  · have h1 : ¬ ((n : Int) < 0) := by omega
    have h4 : (0 : Int) < (n : Int) := by omega
    have hold : (Builtin.firstCells i0.size 0 (.slice none 0 0)).run Tryz.prog w.drew = .ok (([] : List Value).toArray) w.drew := run_firstCells_none w.drew i0.size 0 0 0
    have hrz : ∀ ty, (Builtin.append_ #[23, 3] ty #[.slice none 0 0, .int .i64 n]).run Tryz.prog w =
        .ok (.slice (some ⟨w.heap.size, 0, none⟩) n (grownCap w n 0 37)) (w.drew.alloc (.cells (([] : List Value).toArray ++ Builtin.zeroCells (Value.slice none 0 0).cells n ++ Builtin.zeroCells (Value.slice none 0 0).cells (grownCap w n 0 37 - n)) 37)) := fun ty => by
      have h := Lib.run_append_grow_zeros w 23 3 ty 37 i0 (.slice none 0 0) .i64 .i64 Tryz.underlying23 Tryz.underlying3 hi hz0 none 0 0 [] hold n (by omega) (by rw [hz1]; decide) (by omega) (by omega) (by rw [hz2]; omega)
        (growslice_fits_wide (by omega) (by rw [hz2, Nat.zero_add]; omega))
      rw [Nat.zero_add] at h
      exact h
    have hG := grownCap_ge w n 0 37
    have hG2 := grownCap_le_maxLen w n 0 37 (by unfold maxLen; omega)
    generalize grownCap w n 0 37 = G at hrz hG hG2
    have HG2 := Lib.hid hG2
    have hG3 : G ≤ 9223372036854775807 := by unfold maxLen at hG2; omega
    clear hi hz0 hz1 hz2 hold hG2
    go_enter Tryz.func71, Tryz.ntmps71
    go_wp2_with (at_builtin; refine Lib.wpList_append_run _ rfl _ _ _ _ rfl _ _ rfl rfl _ _ (hrz _) ?_)
    go_ret
    refine ⟨_, rfl, (by repeat (first | with_reducible exact Below.refl _ _ | ((with_reducible refine Below.setCell ?_ ?_ _); rotate_left; exact (by (try simp only [World.size_alloc, Xk.exw_size, World.size_setCell, World.size_drew, World.heap_drewN]); omega)) | ((with_reducible refine Below.alloc ?_ ?_ _); rotate_left; exact (by (try simp only [World.size_alloc, Xk.exw_size, World.size_setCell, World.size_drew, World.heap_drewN]); omega)) | ((with_reducible refine Xk.below_exw ?_ ?_ _); rotate_left; exact (by (try simp only [World.size_alloc, Xk.exw_size, World.size_setCell, World.size_drew, World.heap_drewN]); omega)) | (with_reducible refine Below.drew ?_))), rfl, .inr ⟨w.heap.size, G, _, rfl, Nat.le_refl _, heap_alloc_new _ _, Nat.zero_le _, HG2.out, ?_, by simp⟩⟩
    simp [Builtin.zeroCells, Value.cells]
    omega
theorem Rows0.list {w0 W : World} {v : Value} {n : Nat} {l : List V} (h : Rows0 w0 W v n l) (hn : 0 < n) : ∃ (b off cap : Nat) (us : List Value), v = .slice (some ⟨b, off, none⟩) n cap ∧ us.length = n ∧ (∀ j u, us[j]? = some u → W.cell? ⟨b, off + j, none⟩ = some u) ∧ ∀ u ∈ us, RowAt w0 u l := by
  obtain ⟨pa, cap, rfl, -, hl⟩ := h
  obtain ⟨b, off, -, rfl, -, -⟩ := hl 0 hn
  have hx : ∀ j, ∃ u : Value, j < n → W.cell? ⟨b, off + j, none⟩ = some u ∧ RowAt w0 u l := fun j => by
    by_cases hj : j < n
    · obtain ⟨b', off', u, e, h1, h2⟩ := hl j hj
      cases e
      exact ⟨u, fun _ => ⟨h1, h2⟩⟩
    · exact ⟨.slice none 0 0, fun h => absurd h hj⟩
  obtain ⟨U, hU⟩ := Classical.axiomOfChoice hx
  refine ⟨b, off, cap, (List.range n).map U, rfl, by simp, fun j u hj => ?_, fun u hu => ?_⟩
  · have hjn : j < n := by have := (List.getElem?_eq_some_iff.1 hj).1; simpa using this
    have : U j = u := by simpa [hjn] using hj
    rw [← this]; exact (hU j hjn).1
  · obtain ⟨j, hj, rfl⟩ := List.mem_map.1 hu
    exact (hU j (by simpa using hj)).2
theorem rows_one {w0 : World} {us : List Value} {l : List V} (h : ∀ u ∈ us, RowAt w0 u l) : ∀ u ∈ us, u.oneCell' = true := fun u hu => by
  obtain ⟨pa, cap, rfl, -⟩ := h u hu
  rfl
set_option maxRecDepth 100000 in
set_option maxHeartbeats 8000000 in
theorem concat_any (w0 : World) (g c : Nat) (vl vm : Value) (a b : Nat) (l : List V) (w : World) (ha : Agree w0 w) (hl : Rows0 w0 w vl a l) (hm : Rows0 w0 w vm b l) (c0 : w.cell? ⟨g, 0, none⟩ = some vl) (c1 : w.cell? ⟨g, 1, none⟩ = some vm)
    (h0 : a = 0 → vl = .slice none 0 0) (h1 : b = 0 → vm = .slice none 0 0) (hab : a + b ≤ 39) :
    Calls Tryz.prog 43 #[.slice (some ⟨g, 0, none⟩) 2 c] w fun e w' => ∃ v', e = .returned v' ∧ Below w.heap.size w w' ∧ Own0 w0 w' w.heap.size v' (a + b) l := by
  have HL := Lib.hid hl
  have HM := Lib.hid hm
  have H0 := Lib.hid h0
  have H1 := Lib.hid h1
  obtain ⟨pl, cl, rfl, -, -⟩ := hl
  obtain ⟨pm, cm, rfl, -, -⟩ := hm
  have C0 := Lib.hid c0
  have C1 := Lib.hid c1
  have lg := World.block_lt_of_cell? _ _ c0
  have hgr := fun W => growE_any (a + b) W (by omega)
  rw [Int.natCast_add] at hgr
  have HGr := Lib.hid hgr
  clear hgr
  obtain ⟨i0, hi, hz0, hz1, hz2⟩ := info_parts Tryz.infoRow
  have Hi := Lib.hid hi
  have Hz0 := Lib.hid hz0
  have Hz1 := Lib.hid hz1
  have Hz2 := Lib.hid hz2
  clear hi hz0 hz1 hz2 ha h0 h1
  go_enter Tryz.func43, Tryz.ntmps43
  go_wp2
  go_loopw [3, 11] (fun s x wr => (x = .int .i64 0 ∧ s = .int .i64 0 ∨ x = .int .i64 1 ∧ s = .int .i64 a ∨ x = .int .i64 2 ∧ s = .int .i64 ((a : Int) + (b : Int))) ∧ wr = w) (fun _ x _ => 2 - (intOf x).toNat)
  case atStart => exact ⟨.inl ⟨rfl, rfl⟩, rfl⟩
  case round =>
    obtain ⟨hx, rfl⟩ := hrel
    rcases hx with ⟨rfl, rfl⟩ | ⟨rfl, rfl⟩ | ⟨rfl, rfl⟩
    · have hna : ¬ (a : Int) < 0 := by omega
      go_wp2
      go_roundw
      case rel => exact ⟨.inr (.inl ⟨by go_num, by go_num⟩), trivial⟩
      case measure => simp [intOf]
    · have hna : ¬ (a : Int) + (b : Int) < 0 := by omega
      go_wp2
      go_roundw
      case rel => exact ⟨.inr (.inr ⟨by go_num, by go_num⟩), trivial⟩
      case measure => simp [intOf]
    · obtain ⟨Wz, rfl⟩ : ∃ Wz, Wz = wr := ⟨wr, rfl⟩
      go_wp2_with (first | (go_at_call 71; (with_reducible refine (HGr.out _).mono ?_); rintro e W1 ⟨x, rfl, hb, ho⟩; have HB1 := Lib.hid hb; have HO1 := Lib.hid ho; clear hb ho))
      go_loopw [6, 27] (fun vo x wr2 => ∃ (q k : Nat) (us : List Value), (q = 0 ∧ k = 0 ∨ q = 1 ∧ k = a ∨ q = 2 ∧ k = a + b) ∧ x = .int .i64 q ∧ Below Wz.heap.size Wz wr2 ∧ wr2.ownsRow Wz.heap.size 37 1 vo k us ∧ ∀ u ∈ us, RowAt w0 u l) (fun _ x _ => 2 - (intOf x).toNat)
      case atStart => exact ⟨0, 0, [], .inl ⟨rfl, rfl⟩, rfl, HB1.out, HO1.out, fun u hu => by cases hu⟩
      case round =>
        obtain ⟨q, k, us, hqk, rfl, hbw, ho, hu⟩ := hrel
        rcases hqk with ⟨rfl, rfl⟩ | ⟨rfl, rfl⟩ | ⟨rfl, rfl⟩
        · have d1 := Xk.ext_cell hbw C0.out
          have l1 := World.block_lt_of_cell? _ _ d1
          have HO := Lib.hid ho
          have HU := Lib.hid hu
          have HB := Lib.hid hbw
          have hsz := hbw.size
          by_cases hz : a = 0
          · have e := H0.out hz
            rw [e] at d1
            have Hz := Lib.hid hz
            clear ho hu hbw e hz
            go_wp2_with (at_builtin; refine wpList_append_own_none rfl _ _ 23 rfl Wz.heap.size 37 i0 1 Tryz.underlying23 Hi.out u6 0 us rfl HO.out rfl ?_)
            go_roundw
            case rel => exact ⟨0 + 1, a, us, .inr (.inl ⟨rfl, rfl⟩), by go_num, HB.out, by rw [Hz.out]; exact HO.out, HU.out⟩
            case measure => simp [intOf]
          · have hzp : 0 < a := by omega
            obtain ⟨gb, go, gc, news, e, hnl, hnc, hnr⟩ := Rows0.list (HL.out.ext hbw) (by omega)
            have hn1 := rows_one hnr
            simp only [Value.slice.injEq] at e
            obtain ⟨rfl, -, rfl⟩ := e
            have HNr := Lib.hid hnr
            have HNc := Lib.hid hnc
            have HN1 := Lib.hid hn1
            clear ho hu hbw hnc hnr hn1
            go_wp2_with (at_builtin; refine Xo.wpList_appk (w0 := Wz) rfl _ _ 23 rfl 37 i0 _ 1 24 Tryz.underlying23 Hi.out Hz0.out Hz1.out Hz2.out rfl (by decide) u6 0 us rfl (by repeat (first | with_reducible exact HO.out | with_reducible refine Xo.own_alloc ?_ _ | with_reducible refine Xo.own_drew ?_ | with_reducible refine Xo.own_exw ?_ _)) gb go a _ news rfl (by omega) (by omega) HNc.out HN1.out (by omega) (by repeat (first | with_reducible exact HB.out | with_reducible exact Below.refl _ _ | ((with_reducible refine Below.setCell ?_ ?_ _); rotate_left; exact (by (try simp only [World.size_alloc, Xk.exw_size, World.size_setCell, World.size_drew, World.heap_drewN]); omega)) | ((with_reducible refine Below.alloc ?_ ?_ _); rotate_left; exact (by (try simp only [World.size_alloc, Xk.exw_size, World.size_setCell, World.size_drew, World.heap_drewN]); omega)) | ((with_reducible refine Xk.below_exw ?_ ?_ _); rotate_left; exact (by (try simp only [World.size_alloc, Xk.exw_size, World.size_setCell, World.size_drew, World.heap_drewN]); omega)) | (with_reducible refine Below.drew ?_))) ?_; intro v' w' ho' hg' hk' hb'; have HO' := Lib.hid ho'; have HB' := Lib.hid hb'; clear ho' hg' hk' hb')
            go_roundw
            case rel => exact ⟨0 + 1, a, us ++ news, .inr (.inl ⟨rfl, rfl⟩), by go_num, HB'.out, by have h := HO'.out; rw [Nat.zero_add] at h; exact h, fun u hu => by
              rcases List.mem_append.1 hu with h | h
              · exact HU.out u h
              · exact HNr.out u h⟩
            case measure => simp [intOf]
        · have d1 := Xk.ext_cell hbw C1.out
          have l1 := World.block_lt_of_cell? _ _ d1
          have HO := Lib.hid ho
          have HU := Lib.hid hu
          have HB := Lib.hid hbw
          have hsz := hbw.size
          by_cases hz : b = 0
          · have e := H1.out hz
            rw [e] at d1
            have Hz := Lib.hid hz
            clear ho hu hbw e hz
            go_wp2_with (at_builtin; refine wpList_append_own_none rfl _ _ 23 rfl Wz.heap.size 37 i0 1 Tryz.underlying23 Hi.out u6 k us rfl HO.out rfl ?_)
            go_roundw
            case rel => exact ⟨1 + 1, k + b, us, .inr (.inr ⟨rfl, rfl⟩), by go_num, HB.out, by rw [Hz.out]; exact HO.out, HU.out⟩
            case measure => simp [intOf]
          · have hzp : 0 < b := by omega
            obtain ⟨gb, go, gc, news, e, hnl, hnc, hnr⟩ := Rows0.list (HM.out.ext hbw) (by omega)
            have hn1 := rows_one hnr
            simp only [Value.slice.injEq] at e
            obtain ⟨rfl, -, rfl⟩ := e
            have HNr := Lib.hid hnr
            have HNc := Lib.hid hnc
            have HN1 := Lib.hid hn1
            clear ho hu hbw hnc hnr hn1
            go_wp2_with (at_builtin; refine Xo.wpList_appk (w0 := Wz) rfl _ _ 23 rfl 37 i0 _ 1 24 Tryz.underlying23 Hi.out Hz0.out Hz1.out Hz2.out rfl (by decide) u6 k us rfl (by repeat (first | with_reducible exact HO.out | with_reducible refine Xo.own_alloc ?_ _ | with_reducible refine Xo.own_drew ?_ | with_reducible refine Xo.own_exw ?_ _)) gb go b _ news rfl (by omega) (by omega) HNc.out HN1.out (by omega) (by repeat (first | with_reducible exact HB.out | with_reducible exact Below.refl _ _ | ((with_reducible refine Below.setCell ?_ ?_ _); rotate_left; exact (by (try simp only [World.size_alloc, Xk.exw_size, World.size_setCell, World.size_drew, World.heap_drewN]); omega)) | ((with_reducible refine Below.alloc ?_ ?_ _); rotate_left; exact (by (try simp only [World.size_alloc, Xk.exw_size, World.size_setCell, World.size_drew, World.heap_drewN]); omega)) | ((with_reducible refine Xk.below_exw ?_ ?_ _); rotate_left; exact (by (try simp only [World.size_alloc, Xk.exw_size, World.size_setCell, World.size_drew, World.heap_drewN]); omega)) | (with_reducible refine Below.drew ?_))) ?_; intro v' w' ho' hg' hk' hb'; have HO' := Lib.hid ho'; have HB' := Lib.hid hb'; clear ho' hg' hk' hb')
            go_roundw
            case rel => exact ⟨1 + 1, k + b, us ++ news, .inr (.inr ⟨rfl, rfl⟩), by go_num, HB'.out, by exact HO'.out, fun u hu => by
              rcases List.mem_append.1 hu with h | h
              · exact HU.out u h
              · exact HNr.out u h⟩
            case measure => simp [intOf]
        · have HO := Lib.hid ho
          have HU := Lib.hid hu
          have HB := Lib.hid hbw
          clear ho hu hbw
          go_wp2
          go_ret
          exact ⟨_, rfl, HB.out, us, HO.out, HU.out⟩
end Go.Proofs.YtmoippbmnanajaaGreatDoor
