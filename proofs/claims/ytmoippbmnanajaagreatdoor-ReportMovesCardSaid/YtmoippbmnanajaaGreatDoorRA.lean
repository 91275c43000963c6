/- Walks: report.clean, report.cells. Walks: report.cells. Walks: report.columns. -/
import Derived.Test.YtmoippbmnanajaaGreatDoorRK
set_option linter.unusedSimpArgs false
set_option linter.unusedVariables false
namespace Go.Proofs.YtmoippbmnanajaaGreatDoor
open Go.RowKit
set_option maxRecDepth 100000 in
set_option maxHeartbeats 2000000 in
theorem clean_any (s : ByteArray) (hs : s.size ≤ 4000000000) (w : World) (hE : Env w) :
    Calls Tryz.prog 23 #[.string s] w fun e w' => e = .returned (.string ⟨(P25.clean s.data.toList).toArray⟩) ∧ Below w.heap.size w w' := by
  obtain ⟨m, hm⟩ := hE.max
  have hc := Lib.countB_mul_le ⟨#[10]⟩ (by decide) s.size s (Nat.le_refl _)
  have h1 : (⟨#[10]⟩ : ByteArray).size = 1 := rfl
  have h2 : (⟨#[63]⟩ : ByteArray).size = 1 := rfl
  rw [h1] at hc
  have hR := Tryz.strings_ReplaceAll s ⟨#[10]⟩ ⟨#[63]⟩ m w (by omega) hm (by rw [h1]; omega) (by rw [h2]; omega)
  have e : Lib.replaceAll s.data.toList [10] [63] = P25.clean s.data.toList := P25.replaceAll_clean _
  rw [show Lib.replaceAll s.data.toList (⟨#[10]⟩ : ByteArray).data.toList (⟨#[63]⟩ : ByteArray).data.toList = P25.clean s.data.toList from e] at hR
  have HR := Lib.hid hR
  clear hR e hc h1 h2 hm hE
  go_enter Tryz.func23, Tryz.ntmps23
  go_wp2_with (go_at_call 50; (with_reducible refine (HR.out).mono ?_); rintro e w' ⟨rfl, hb⟩; obtain ⟨p, rfl⟩ := Xk.exw_of hb; clear hb)
  go_ret
  exact ⟨rfl, (by repeat (first | with_reducible exact Below.refl _ _ | ((with_reducible refine Below.setCell ?_ ?_ _); rotate_left; exact (by (try simp only [World.size_alloc, Xk.exw_size, World.size_setCell, World.size_drew, World.heap_drewN]); omega)) | ((with_reducible refine Below.alloc ?_ ?_ _); rotate_left; exact (by (try simp only [World.size_alloc, Xk.exw_size, World.size_setCell, World.size_drew, World.heap_drewN]); omega)) | ((with_reducible refine Xk.below_exw ?_ ?_ _); rotate_left; exact (by (try simp only [World.size_alloc, Xk.exw_size, World.size_setCell, World.size_drew, World.heap_drewN]); omega)) | (with_reducible refine Below.drew ?_)))⟩
theorem Tryz.infoStr : (Tryz.prog.info? 9).map (fun i => (i.zero, i.size, i.bytes)) = some (some (.string ⟨#[]⟩), 1, 16) := by kernel_rfl
theorem print_small (x : V) (h : -9223372036854775808 ≤ x.i ∧ x.i ≤ 9223372036854775807) : (P6.printV x.k x.i x.s.data.toList).length ≤ 82 := by
  unfold P6.printV
  split
  · rename_i hv
    split
    · decide
    · split
      · split <;> decide
      · split
        · have := Lib.itoa_length_le x.i h.1 h.2
          omega
        · unfold P6.quote
          have h1 := P6.dbl_length x.s.data.toList
          have h2 : x.s.data.toList.length ≤ 40 := by
            unfold P6.isV at hv
            repeat' split at hv
            all_goals simp_all
          simp only [List.length_cons, List.length_append, List.length_nil]
          omega
  · decide
end Go.Proofs.YtmoippbmnanajaaGreatDoor
namespace Go.Proofs.YtmoippbmnanajaaGreatDoor
open Go.RowKit
theorem below_grown {B : Nat} {w w' : World} (h : w.grownBy w' none) (hb : B ≤ w.heap.size) : Below B w w' := (Below.refl _ _).grown h hb (fun k hk => by cases hk)
theorem scells_set (l : List (List UInt8)) (q : Nat) (x : List UInt8) : (scells l).set q (.string ⟨x.toArray⟩) = scells (l.set q x) := by simp [scells, List.map_set]
theorem own_base {w : World} {B : Nat} {e : TypeId} {sz g n cap : Nat} {xs : List Value} (h : w.ownsRow B e sz (.slice (some ⟨g, 0, none⟩) n cap) n xs) : B ≤ g ∧ g < w.heap.size := h.lt g rfl
set_option maxRecDepth 100000 in
set_option maxHeartbeats 2000000 in
theorem cells_any (va : Value) (l : List V) (n : Nat) (w : World) (hE : Env w) (ha : RowAt w va l) (hI : IOk l) (hn : n ≤ 100000) (hl : l.length ≤ maxLen) :
    Calls Tryz.prog 21 #[va, .int .i64 n] w fun e w' => ∃ v, e = .returned v ∧ Xo.Lives w.heap.size [] w' (fun W => StrsAt W v (P25.cells (rowOf l) n)) ∧ Below w.heap.size w w' := by
  unfold maxLen at hl
  obtain ⟨pa, ca, rfl, ha⟩ := ha
  have HA := Lib.hid ha
  have HI := Lib.hid hI
  have HE := Lib.hid hE
  obtain ⟨i0, hi, hz0, hz1, hz2⟩ := info_parts Tryz.infoStr
  have Hi := Lib.hid hi
  have Hz0 := Lib.hid hz0
  have Hz1 := Lib.hid hz1
  have Hb : Hid (i0.bytes * n ≤ 281474976710656) := Lib.hid (by rw [hz2]; omega)
  clear hi hz0 hz1 hz2 ha hI hE
  go_enter Tryz.func21, Tryz.ntmps21
  go_wp2_with (at_make; refine wpList_make_full _ rfl _ _ 22 rfl w.heap.size 9 i0 _ 1 Tryz.underlying22 Hi.out Hz0.out Hz1.out .i64 .i64 _ _ n rfl rfl rfl rfl Hb.out (by unfold maxLen; omega) (Nat.le_refl _) ?_; intro w1 ho hgr; have HO := Lib.hid ho; have HB := Lib.hid (below_grown hgr (Nat.le_refl _)); clear ho hgr)
  go_loopw [13] (fun x wr => ∃ q : Nat, q ≤ min n l.length ∧ x = .int .i64 q ∧ Below w.heap.size w wr ∧ wr.ownsRow w.heap.size 9 1 (.slice (some ⟨w.heap.size, 0, none⟩) n n) n (scells (P25.cellsUpto (rowOf l) n q))) (fun x _ => min n l.length - (intOf x).toNat)
  case atStart => exact ⟨0, by omega, rfl, HB.out, by
    have h := HO.out
    rw [show (Value.string ⟨#[]⟩).cells = #[.string ⟨#[]⟩] from rfl, Nat.mul_one, toList_madeCells_one] at h
    rw [P25.cellsUpto_zero]
    simpa [scells] using h⟩
  case round =>
    clear HB HO
    obtain ⟨q, hq, rfl, hbw, ho⟩ := hrel
    by_cases hlt : q < min n l.length
    · have hql : q < l.length := by omega
      obtain ⟨b, off, rfl, a1, a2, a3, a4⟩ := HA.out q l[q] (by simp [hql])
      have hx := HI.out l[q] (by simp)
      have Hx := Lib.hid (show l[q]? = some l[q] by simp [hql])
      generalize l[q] = x at *
      have lb := World.block_lt_of_cell? w _ a1
      have lb' : b < wr.heap.size := Nat.lt_of_lt_of_le lb hbw.size
      have b1 := Xk.ext_cell hbw a1
      have b2 := Xk.ext_cell hbw a2
      have b3 := Xk.ext_cell hbw a3
      have hps := print_small x hx
      have HP := Lib.hid fun p => print_any x.k x.i x.s hx.1 hx.2 (Xk.exw wr p) ((HE.out.ext hbw).ext (Xk.ext_exw _ _))
      have HP0 := Lib.hid (print_any x.k x.i x.s hx.1 hx.2 wr (HE.out.ext hbw))
      have HC := Lib.hid fun p => clean_any ⟨(P6.printV x.k x.i x.s.data.toList).toArray⟩ (by show (P6.printV x.k x.i x.s.data.toList).length ≤ _; omega) (Xk.exw wr p) ((HE.out.ext hbw).ext (Xk.ext_exw _ _))
      have hc := ho.cellAt q (by omega)
      have hs : (scells (P25.cellsUpto (rowOf l) n q))[q]? = some ((scells (P25.cellsUpto (rowOf l) n q))[q]'(by rw [scells_length, P25.cellsUpto_length]; omega)) := List.getElem?_eq_getElem _
      rw [hs] at hc
      generalize (scells (P25.cellsUpto (rowOf l) n q))[q]'(by rw [scells_length, P25.cellsUpto_length]; omega) = u0 at hc
      have hf := ho.frozenAt q
      obtain ⟨-, hg⟩ := own_base ho
      have HB := Lib.hid hbw
      have HO := Lib.hid ho
      clear a1 a2 a3 hbw ho hs hx hps
      go_wp2_with (first | (go_at_call 48; (with_reducible refine (HP0.out).mono ?_); rintro e w' ⟨rfl, hb⟩; obtain ⟨p, rfl⟩ := Xk.exw_of hb; clear hb) | (go_at_call 23; (with_reducible refine (HC.out _).mono ?_); rintro e w' ⟨rfl, hb⟩; obtain ⟨p, rfl⟩ := Xk.exw_of hb; clear hb))
      go_roundw
      case rel => exact ⟨q + 1, by omega, by go_num, (by repeat (first | with_reducible exact HB.out | with_reducible exact Below.refl _ _ | ((with_reducible refine Below.setCell ?_ ?_ _); rotate_left; exact (by (try simp only [World.size_alloc, Xk.exw_size, World.size_setCell, World.size_drew, World.heap_drewN]); omega)) | ((with_reducible refine Below.alloc ?_ ?_ _); rotate_left; exact (by (try simp only [World.size_alloc, Xk.exw_size, World.size_setCell, World.size_drew, World.heap_drewN]); omega)) | ((with_reducible refine Xk.below_exw ?_ ?_ _); rotate_left; exact (by (try simp only [World.size_alloc, Xk.exw_size, World.size_setCell, World.size_drew, World.heap_drewN]); omega)) | (with_reducible refine Below.drew ?_))), by
        have h1 := (HO.out.stored q (.string ⟨(P25.clean (P6.printV x.k x.i x.s.data.toList)).toArray⟩)).1
        rw [scells_set, show (P25.cellsUpto (rowOf l) n q).set q (P25.clean (P6.printV x.k x.i x.s.data.toList)) = P25.cellsUpto (rowOf l) n (q + 1) by
          rw [← P25.cellsUpto_set _ _ _ (by omega), P25.text_some (c := cellOf x) (by simp [rowOf, Hx.out])]; rfl] at h1
        exact ownsRow_ext h1 (Xk.ext_exw _ _)⟩
      case measure => simp [intOf]; omega
    · have HB := Lib.hid hbw
      have HO := Lib.hid ho
      clear hbw ho
      go_wp2
      go_ret
      exact ⟨_, rfl, (Xo.lives_own HO.out (by simp)).imp fun W h => by have h := StrsAt.own h; rwa [P25.cellsUpto_end _ _ _ (by rw [rowOf_length]; omega)] at h, HB.out⟩
end Go.Proofs.YtmoippbmnanajaaGreatDoor
namespace Go.Proofs.YtmoippbmnanajaaGreatDoor
open Go.RowKit
theorem StrsAt.parts {w : World} {v : Value} {l : List (List UInt8)} (h : StrsAt w v l) : ∃ pa cap, v = .slice pa l.length cap ∧ ∀ (j : Nat) (x : List UInt8), l[j]? = some x → ∃ b off, pa = some ⟨b, off, none⟩ ∧ w.cell? ⟨b, off + j, none⟩ = some (.string ⟨x.toArray⟩) := by
  obtain ⟨pa, cap, hv, -, hl⟩ := h
  refine ⟨pa, cap, hv, fun j x hj => ?_⟩
  obtain ⟨b, off, h1, h2⟩ := hl j x hj
  rw [Nat.mul_one] at h2
  exact ⟨b, off, h1, h2⟩
theorem RowsAt.parts {w : World} {v : Value} {l : List (List V)} (h : RowsAt w v l) : ∃ pa cap, v = .slice pa l.length cap ∧ ∀ (j : Nat) (x : List V), l[j]? = some x → ∃ b off u, pa = some ⟨b, off, none⟩ ∧ w.cell? ⟨b, off + j, none⟩ = some u ∧ RowAt w u x := by
  obtain ⟨pa, cap, hv, -, hl⟩ := h
  refine ⟨pa, cap, hv, fun j x hj => ?_⟩
  obtain ⟨b, off, h1, u, h2, h3⟩ := hl j x hj
  rw [Nat.mul_one] at h2
  exact ⟨b, off, u, h1, h2, h3⟩
theorem TextsAt.parts {w : World} {v : Value} {l : List (List (List UInt8))} (h : TextsAt w v l) : ∃ pa cap, v = .slice pa l.length cap ∧ ∀ (j : Nat) (x : List (List UInt8)), l[j]? = some x → ∃ b off u, pa = some ⟨b, off, none⟩ ∧ w.cell? ⟨b, off + j, none⟩ = some u ∧ StrsAt w u x := by
  obtain ⟨pa, cap, hv, -, hl⟩ := h
  refine ⟨pa, cap, hv, fun j x hj => ?_⟩
  obtain ⟨b, off, h1, u, h2, h3⟩ := hl j x hj
  rw [Nat.mul_one] at h2
  exact ⟨b, off, u, h1, h2, h3⟩
theorem ColsAt.parts {w : World} {v : Value} {l : List (Nat × Bool)} (h : ColsAt w v l) : ∃ pa cap, v = .slice pa l.length cap ∧ ∀ (j : Nat) (x : Nat × Bool), l[j]? = some x → ∃ b off, pa = some ⟨b, off, none⟩ ∧ w.cell? ⟨b, off + j * 2, none⟩ = some (.int .i64 x.1) ∧ w.cell? ⟨b, off + j * 2 + 1, none⟩ = some (.bool x.2) := by
  obtain ⟨pa, cap, hv, -, hl⟩ := h
  exact ⟨pa, cap, hv, hl⟩
theorem ColsAt.get {w : World} {b off n cap : Nat} {l : List (Nat × Bool)} (h : ColsAt w (.slice (some ⟨b, off, none⟩) n cap) l) {q : Nat} {c : Nat × Bool} (hq : l[q]? = some c) : w.cell? ⟨b, off + q * 2, none⟩ = some (.int .i64 c.1) ∧ w.cell? ⟨b, off + q * 2 + 1, none⟩ = some (.bool c.2) := by
  obtain ⟨pa, ca, e, hl⟩ := h.parts
  cases e
  obtain ⟨b', o', e', h1, h2⟩ := hl q c hq
  cases e'
  exact ⟨h1, h2⟩
/-- Columns as cells. -/
def ccells : List (Nat × Bool) → List Value
  | [] => []
  | c :: l => .int .i64 c.1 :: .bool c.2 :: ccells l
theorem ccells_length : ∀ l : List (Nat × Bool), (ccells l).length = l.length * 2
  | [] => rfl
  | c :: l => by simp only [ccells, List.length_cons, ccells_length l]; omega
theorem ccells_at : ∀ (l : List (Nat × Bool)) (q : Nat) (c : Nat × Bool), l[q]? = some c → (ccells l)[q * 2]? = some (.int .i64 c.1) ∧ (ccells l)[q * 2 + 1]? = some (.bool c.2)
  | [], q, c, h => by simp at h
  | d :: l, 0, c, h => by simp at h; subst h; exact ⟨rfl, rfl⟩
  | d :: l, q + 1, c, h => by
    have := ccells_at l q c (by simpa using h)
    rw [show (q + 1) * 2 = q * 2 + 2 by omega]
    exact this
theorem ccells_set0 : ∀ (l : List (Nat × Bool)) (q n m : Nat) (b : Bool), l[q]? = some (m, b) → (ccells l).set (q * 2) (.int .i64 n) = ccells (l.set q (n, b))
  | [], q, n, m, b, h => by simp at h
  | d :: l, 0, n, m, b, h => by simp at h; subst h; rfl
  | d :: l, q + 1, n, m, b, h => by
    have := ccells_set0 l q n m b (by simpa using h)
    rw [show (q + 1) * 2 = q * 2 + 1 + 1 by omega]
    simp only [ccells, List.set_cons_succ, this]
theorem ccells_set1 : ∀ (l : List (Nat × Bool)) (q m : Nat) (b c : Bool), l[q]? = some (m, b) → (ccells l).set (q * 2 + 1) (.bool c) = ccells (l.set q (m, c))
  | [], q, m, b, c, h => by simp at h
  | d :: l, 0, m, b, c, h => by simp at h; subst h; rfl
  | d :: l, q + 1, m, b, c, h => by
    have := ccells_set1 l q m b c (by simpa using h)
    rw [show (q + 1) * 2 + 1 = q * 2 + 1 + 1 + 1 by omega]
    simp only [ccells, List.set_cons_succ, this]
theorem ccells_replicate : ∀ n : Nat, (madeCells #[.int .i64 0, .bool false] (n * 2)).toList = ccells (List.replicate n (0, false)) := by
  intro n
  apply List.ext_getElem?
  intro j
  by_cases hj : j < n * 2
  · have h1 : (List.replicate n ((0 : Nat), false))[j / 2]? = some (0, false) := by rw [List.getElem?_replicate, if_pos (by omega)]
    have h2 := ccells_at _ _ _ h1
    have hm : (madeCells #[.int .i64 0, .bool false] (n * 2)).toList[j]? = some ((#[Value.int .i64 0, .bool false]).getD (j % 2) undef) := by
      simp [madeCells, hj]
      have : j % 2 = 0 ∨ j % 2 = 1 := by omega
      rcases this with h | h <;> simp [h]
    rw [hm]
    have : j % 2 = 0 ∨ j % 2 = 1 := by omega
    rcases this with h | h
    · rw [show j = j / 2 * 2 by omega, h2.1]; simp
    · rw [show j = j / 2 * 2 + 1 by omega, h2.2]; simp
  · rw [List.getElem?_eq_none (by simp [madeCells]; omega), List.getElem?_eq_none (by rw [ccells_length, List.length_replicate]; omega)]
theorem ColsAt.own {w : World} {base : Nat} {e : TypeId} {v : Value} {n : Nat} {l : List (Nat × Bool)} (h : w.ownsRow base e 2 v n (ccells l)) : ColsAt w v l :=
  SlAt.own h (by have := h.1; rw [ccells_length] at this; omega) fun b j x hj hc => by
    obtain ⟨h1, h2⟩ := ccells_at l j x hj
    exact ⟨by simpa using hc 0 _ (by decide) (by simpa using h1), by simpa using hc 1 _ (by decide) h2⟩
theorem Tryz.infoCol : (Tryz.prog.info? 56).map (fun i => (i.zero, i.size, i.bytes)) = some (some (.agg #[.int .i64 0, .bool false]), 2, 16) := by kernel_rfl
end Go.Proofs.YtmoippbmnanajaaGreatDoor
