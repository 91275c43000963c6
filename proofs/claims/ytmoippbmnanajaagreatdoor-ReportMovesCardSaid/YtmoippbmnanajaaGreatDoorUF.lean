/- Walks: report.Diff's closures; report.printed of one number. Walks: report.Diff's closure that tells a row. Walks: report.Diff of two tables of equal rows. Walks: pantilelaw25.ReportMoves. -/
import Derived.Test.YtmoippbmnanajaaGreatDoorUA
set_option linter.unusedSimpArgs false
set_option linter.unusedVariables false
namespace Go.Proofs.YtmoippbmnanajaaGreatDoor
open Go.RowKit
set_option maxRecDepth 100000 in
theorem same_any (w0 : World) (u ur : Value) (l : List V) (br : Nat) (w : World) (ha : Agree w0 w) (h1 : RowAt w0 u l) (h2 : RowAt w0 ur l) (hc : w.cell? ⟨br, 0, none⟩ = some ur) (hl : l.length ≤ 1000) :
    Calls Tryz.prog 44 #[u, .pointer (some ⟨br, 0, none⟩)] w fun e w' => e = .returned (.bool true) ∧ Below w.heap.size w w' := by
  have HRw := Lib.hid (rows_any u ur l l w (h1.agree ha) (h2.agree ha) (by omega) (by omega))
  rw [rowsE_same] at HRw
  obtain ⟨pa, ca, rfl, -⟩ := h1
  obtain ⟨pb, cb, rfl, -⟩ := h2
  have lb := World.block_lt_of_cell? _ _ hc
  clear ha
  go_enter Tryz.func44, Tryz.ntmps44
  go_wp2_with (first | (go_at_call 45; (with_reducible refine (HRw.out).mono ?_); rintro e w' ⟨rfl, hb⟩; obtain ⟨p, rfl⟩ := Xk.exw_of hb; clear hb))
  go_ret
  exact ⟨rfl, (by repeat (first | with_reducible exact Below.refl _ _ | ((with_reducible refine Below.setCell ?_ ?_ _); rotate_left; exact (by (try simp only [World.size_alloc, Xk.exw_size, World.size_setCell, World.size_drew, World.heap_drewN]); omega)) | ((with_reducible refine Below.alloc ?_ ?_ _); rotate_left; exact (by (try simp only [World.size_alloc, Xk.exw_size, World.size_setCell, World.size_drew, World.heap_drewN]); omega)) | ((with_reducible refine Xk.below_exw ?_ ?_ _); rotate_left; exact (by (try simp only [World.size_alloc, Xk.exw_size, World.size_setCell, World.size_drew, World.heap_drewN]); omega)) | (with_reducible refine Below.drew ?_)))⟩
set_option maxRecDepth 100000 in
set_option maxHeartbeats 4000000 in
theorem count_any (w0 : World) (v ur : Value) (n : Nat) (l : List V) (br bs : Nat) (w : World) (ha : Agree w0 w) (hv : Rows0 w0 w v n l) (h2 : RowAt w0 ur l) (hc : w.cell? ⟨br, 0, none⟩ = some ur)
    (hs : w.cell? ⟨bs, 0, none⟩ = some (.func (.func 44) #[] #[.pointer (some ⟨br, 0, none⟩)])) (hn : n ≤ 1000) (hl : l.length ≤ 1000) :
    Calls Tryz.prog 46 #[v, .pointer (some ⟨bs, 0, none⟩)] w fun e w' => e = .returned (.int .i64 n) ∧ Below w.heap.size w w' := by
  have HA := Lib.hid ha
  have HC := Lib.hid hc
  have HS := Lib.hid hs
  have HR2 := Lib.hid h2
  obtain ⟨pr, cr, rfl, -, hr'⟩ := hv
  have HRr := Lib.hid hr'
  have ls := World.block_lt_of_cell? _ _ hs
  clear ha hc hs h2 hr'
  go_enter Tryz.func46, Tryz.ntmps46
  go_wp2
  go_loopw [4, 9] (fun s x wr => ∃ q : Nat, q ≤ n ∧ x = .int .i64 q ∧ s = .int .i64 q ∧ Below w.heap.size w wr) (fun _ x _ => n - (intOf x).toNat)
  case atStart => exact ⟨0, Nat.zero_le _, rfl, rfl, Below.refl _ _⟩
  case round =>
    obtain ⟨q, hq, rfl, rfl, hbw⟩ := hrel
    have HB := Lib.hid hbw
    have hsz := hbw.size
    have s1 := Xk.ext_cell hbw HS.out
    have ls1 : bs < wr.heap.size := by omega
    by_cases hlt : q < n
    · have hqb : (q : Int) < (n : Int) := by omega
      obtain ⟨b, off, u, rfl, d1, hru⟩ := HRr.out q hlt
      have d1 := Xk.ext_cell hbw d1
      have l1 := World.block_lt_of_cell? _ _ d1
      have HSm := Lib.hid (same_any w0 u ur l br wr (HA.out.ext hbw) hru HR2.out (Xk.ext_cell hbw HC.out) hl)
      obtain ⟨pu, cu, rfl, -⟩ := hru
      clear hbw
      go_wp2_with (first | (go_at_call 44; (with_reducible refine (HSm.out).mono ?_); rintro e w' ⟨rfl, hb⟩; obtain ⟨p, rfl⟩ := Xk.exw_of hb; clear hb))
      go_roundw
      case rel => exact ⟨q + 1, by omega, by go_num, by go_num, (by repeat (first | with_reducible exact HB.out | with_reducible exact Below.refl _ _ | ((with_reducible refine Below.setCell ?_ ?_ _); rotate_left; exact (by (try simp only [World.size_alloc, Xk.exw_size, World.size_setCell, World.size_drew, World.heap_drewN]); omega)) | ((with_reducible refine Below.alloc ?_ ?_ _); rotate_left; exact (by (try simp only [World.size_alloc, Xk.exw_size, World.size_setCell, World.size_drew, World.heap_drewN]); omega)) | ((with_reducible refine Xk.below_exw ?_ ?_ _); rotate_left; exact (by (try simp only [World.size_alloc, Xk.exw_size, World.size_setCell, World.size_drew, World.heap_drewN]); omega)) | (with_reducible refine Below.drew ?_)))⟩
      case measure => simp [intOf]; omega
    · obtain rfl : q = n := by omega
      have hqb : ¬ (q : Int) < (q : Int) := by omega
      clear hbw
      go_wp2
      go_ret
      exact ⟨rfl, HB.out⟩
set_option maxRecDepth 100000 in
set_option maxHeartbeats 4000000 in
theorem printed_any (v : Int) (u : Value) (w : World) (hE : Env w) (hu : RowAt w u (numRow v)) (h0 : -9223372036854775808 ≤ v) (h1 : v ≤ 9223372036854775807) :
    Calls Tryz.prog 41 #[u, .string ⟨#[32]⟩] w fun e w' => e = .returned (.string ⟨(Lib.itoa v).toArray⟩) ∧ Below w.heap.size w w' := by
  obtain ⟨pa, ca, rfl, ha⟩ := hu
  obtain ⟨b, off, rfl, g1, g2, g3, -⟩ := ha 0 ⟨2, v, ⟨#[]⟩⟩ rfl
  dsimp only at g1 g2 g3
  rw [Nat.zero_mul, Nat.add_zero] at g1 g2 g3
  have lb := World.block_lt_of_cell? _ _ g1
  have hp := fun W (hx : Xk.Ext w W) => print_any 2 v ⟨#[]⟩ h0 h1 W (hE.ext hx)
  rw [show P6.printV 2 v (⟨#[]⟩ : ByteArray).data.toList = Lib.itoa v from print_int v] at hp
  have HP := Lib.hid hp
  have hlen := Lib.itoa_length_le v h0 h1
  have HJ := Lib.hid fun x W (h : StrsAt W x [Lib.itoa v]) => join_any x [Lib.itoa v] [32] W h (by simp) (by rw [Lib.join_one]; omega)
  rw [Lib.join_one] at HJ
  generalize Lib.itoa v = t at HP HJ hlen
  obtain ⟨i0, hi, hz0, hz1, hz2⟩ := info_parts Tryz.infoStr
  have Hi := Lib.hid hi
  have Hz0 := Lib.hid hz0
  have Hz1 := Lib.hid hz1
  have Hz2 := Lib.hid hz2
  have G1 := Lib.hid g1
  have G2 := Lib.hid g2
  have G3 := Lib.hid g3
  clear hi hz0 hz1 hz2 hE ha hp g1 g2 g3
  simp only [numRow, List.length_cons, List.length_nil]
  go_enter Tryz.func41, Tryz.ntmps41
  go_wp2
  go_loopw [5, 10] (fun vo x wr => (x = .int .i64 0 ∧ vo = .slice none 0 0 ∨ x = .int .i64 1 ∧ wr.ownsRow w.heap.size 9 1 vo 1 (scells [t])) ∧ Below w.heap.size w wr) (fun _ x _ => 1 - (intOf x).toNat)
  case atStart => exact ⟨.inl ⟨rfl, rfl⟩, Below.refl _ _⟩
  case round =>
    obtain ⟨hx, hbw⟩ := hrel
    have HB := Lib.hid hbw
    have hsz := hbw.size
    rcases hx with ⟨rfl, rfl⟩ | ⟨rfl, ho⟩
    · have g1 := Xk.ext_cell hbw G1.out
      have g2 := Xk.ext_cell hbw G2.out
      have g3 := Xk.ext_cell hbw G3.out
      have lb1 : b < wr.heap.size := by omega
      clear hbw
      go_wp2_with (first | (go_at_call 48; (with_reducible refine (HP.out _ (by repeat (first | with_reducible exact HB.out | with_reducible exact Below.refl _ _ | ((with_reducible refine Below.setCell ?_ ?_ _); rotate_left; exact (by (try simp only [World.size_alloc, Xk.exw_size, World.size_setCell, World.size_drew, World.heap_drewN]); omega)) | ((with_reducible refine Below.alloc ?_ ?_ _); rotate_left; exact (by (try simp only [World.size_alloc, Xk.exw_size, World.size_setCell, World.size_drew, World.heap_drewN]); omega)) | ((with_reducible refine Xk.below_exw ?_ ?_ _); rotate_left; exact (by (try simp only [World.size_alloc, Xk.exw_size, World.size_setCell, World.size_drew, World.heap_drewN]); omega)) | (with_reducible refine Below.drew ?_)))).mono ?_); rintro e w' ⟨rfl, hb⟩; obtain ⟨p, rfl⟩ := Xk.exw_of hb; clear hb) | (at_builtin; refine Xo.wpList_appk (w0 := w) rfl _ _ 22 rfl 9 i0 _ 1 16 Tryz.underlying22 Hi.out Hz0.out Hz1.out Hz2.out rfl (by decide) (.slice none 0 0) 0 [] rfl (by repeat (first | with_reducible exact (World.ownsRow_nil _ _ _ _) | with_reducible refine Xo.own_alloc ?_ _ | with_reducible refine Xo.own_drew ?_ | with_reducible refine Xo.own_exw ?_ _)) _ 0 1 1 [.string ⟨t.toArray⟩] rfl (by decide) rfl (Xo.cells1 (by simp)) (Xo.one1 rfl) (by omega) (by repeat (first | with_reducible exact HB.out | with_reducible exact Below.refl _ _ | ((with_reducible refine Below.setCell ?_ ?_ _); rotate_left; exact (by (try simp only [World.size_alloc, Xk.exw_size, World.size_setCell, World.size_drew, World.heap_drewN]); omega)) | ((with_reducible refine Below.alloc ?_ ?_ _); rotate_left; exact (by (try simp only [World.size_alloc, Xk.exw_size, World.size_setCell, World.size_drew, World.heap_drewN]); omega)) | ((with_reducible refine Xk.below_exw ?_ ?_ _); rotate_left; exact (by (try simp only [World.size_alloc, Xk.exw_size, World.size_setCell, World.size_drew, World.heap_drewN]); omega)) | (with_reducible refine Below.drew ?_))) ?_; intro v' w' ho' hg' hk' hb'; have HO' := Lib.hid ho'; have HG' := Lib.hid hg'; have HK' := Lib.hid hk'; have HB' := Lib.hid hb'; clear ho' hg' hk' hb'))
      go_roundw
      case rel => exact ⟨.inr ⟨by go_num, by have h := HO'.out; rw [Nat.zero_add] at h; exact h⟩, HB'.out⟩
      case measure => simp [intOf]
    · have HJ2 := Lib.hid (HJ.out u5 wr (StrsAt.own ho))
      clear hbw ho
      go_wp2_with (first | (go_at_call 26; (with_reducible refine (HJ2.out).mono ?_); rintro e w' ⟨rfl, hb⟩; obtain ⟨p, rfl⟩ := Xk.exw_of hb; clear hb))
      go_ret
      exact ⟨rfl, (by repeat (first | with_reducible exact HB.out | with_reducible exact Below.refl _ _ | ((with_reducible refine Below.setCell ?_ ?_ _); rotate_left; exact (by (try simp only [World.size_alloc, Xk.exw_size, World.size_setCell, World.size_drew, World.heap_drewN]); omega)) | ((with_reducible refine Below.alloc ?_ ?_ _); rotate_left; exact (by (try simp only [World.size_alloc, Xk.exw_size, World.size_setCell, World.size_drew, World.heap_drewN]); omega)) | ((with_reducible refine Xk.below_exw ?_ ?_ _); rotate_left; exact (by (try simp only [World.size_alloc, Xk.exw_size, World.size_setCell, World.size_drew, World.heap_drewN]); omega)) | (with_reducible refine Below.drew ?_)))⟩
end Go.Proofs.YtmoippbmnanajaaGreatDoor
namespace P25
/-- What is told of a row of one number. -/
def told (sg : UInt8) (k v : Int) : List UInt8 := [48, 32, sg, 32] ++ Go.Lib.itoa k ++ [32] ++ Go.Lib.itoa v
end P25
namespace Go.Proofs.YtmoippbmnanajaaGreatDoor
open Go.RowKit
theorem itoa_zero : Lib.itoa 0 = [48] := by decide +kernel
set_option maxRecDepth 100000 in
theorem tell_none (u : Value) (d : Int) (hd : d = 0) (bt bo : Nat) (w : World) :
    Calls Tryz.prog 40 #[u, .int .i64 d, .pointer (some ⟨bt, 0, none⟩), .pointer (some ⟨bo, 0, none⟩)] w fun e w' => e = .returned (.tuple #[]) ∧ Below w.heap.size w w' := by
  subst hd
  go_enter Tryz.func40, Tryz.ntmps40
  go_wp2
  refine bodyPost_ret (results_none rfl _ _ _) rfl ?_
  exact ⟨rfl, (by repeat (first | with_reducible exact Below.refl _ _ | ((with_reducible refine Below.setCell ?_ ?_ _); rotate_left; exact (by (try simp only [World.size_alloc, Xk.exw_size, World.size_setCell, World.size_drew, World.heap_drewN]); omega)) | ((with_reducible refine Below.alloc ?_ ?_ _); rotate_left; exact (by (try simp only [World.size_alloc, Xk.exw_size, World.size_setCell, World.size_drew, World.heap_drewN]); omega)) | ((with_reducible refine Xk.below_exw ?_ ?_ _); rotate_left; exact (by (try simp only [World.size_alloc, Xk.exw_size, World.size_setCell, World.size_drew, World.heap_drewN]); omega)) | (with_reducible refine Below.drew ?_)))⟩
set_option maxRecDepth 100000 in
set_option maxHeartbeats 8000000 in
theorem tell_some (u : Value) (d v : Int) (bt bo : Nat) (w : World) (hE : Env w) (hd : d ≠ 0) (hd1 : -1000 ≤ d) (hd2 : d ≤ 1000) (hu : RowAt w u (numRow v)) (h0 : -9223372036854775808 ≤ v) (h1 : v ≤ 9223372036854775807)
    (ht : w.cell? ⟨bt, 0, none⟩ = some (.int .i64 0)) (hob : w.heap[bo]? = some (.cells #[.slice none 0 0] 22 (0, 0))) :
    Calls Tryz.prog 40 #[u, .int .i64 d, .pointer (some ⟨bt, 0, none⟩), .pointer (some ⟨bo, 0, none⟩)] w fun e w' => e = .returned (.tuple #[]) ∧ ∃ W1 vo, w' = W1.setCell ⟨bo, 0, none⟩ vo ∧ Below w.heap.size w W1 ∧ W1.ownsRow w.heap.size 9 1 vo 1 (scells [P25.told (if d < 0 then 45 else 43) (if d < 0 then -d else d) v]) := by
  have hi0 := fun W (hx : Xk.Ext w W) => itoa_any 0 (by decide) (by decide) W (hE.ext hx)
  rw [itoa_zero] at hi0
  have HI0 := Lib.hid hi0
  have HP := Lib.hid fun W (hx : Xk.Ext w W) => printed_any v u W (hE.ext hx) (hu.ext hx) h0 h1
  have hlv := Lib.itoa_length_le v h0 h1
  obtain ⟨pa, ca, rfl, -⟩ := hu
  have hln : ((numRow v).length : Int) = 1 := rfl
  have lt := World.block_lt_of_cell? _ _ ht
  have lo := (Array.getElem?_eq_some_iff.1 hob).1
  have HOb := Lib.hid hob
  have ho : w.cell? ⟨bo, 0, none⟩ = some (.slice none 0 0) := by simp [World.cell?, hob]
  clear hob
  have hdb : (d == 0) = false := beq_eq_false_iff_ne.2 hd
  obtain ⟨i0, hi, hz0, hz1, hz2⟩ := info_parts Tryz.infoStr
  have Hi := Lib.hid hi
  have Hz0 := Lib.hid hz0
  have Hz1 := Lib.hid hz1
  have Hz2 := Lib.hid hz2
  clear hi hz0 hz1 hz2 hi0 hd
  rw [show (numRow v).length = 1 from rfl]
  by_cases hneg : d < 0
  · have HId := Lib.hid fun W (hx : Xk.Ext w W) => itoa_any (-d) (by omega) (by omega) W (hE.ext hx)
    have hld := Lib.itoa_length_le (-d) (by omega) (by omega)
    have HT : Hid (P25.told (if d < 0 then 45 else 43) (if d < 0 then -d else d) v = [48, 32, 45, 32] ++ Lib.itoa (-d) ++ [32] ++ Lib.itoa v) := Lib.hid (by rw [if_pos hneg, if_pos hneg]; rfl)
    generalize P25.told (if d < 0 then 45 else 43) (if d < 0 then -d else d) v = T at HT
    generalize Lib.itoa (-d) = td at HId hld HT
    generalize Lib.itoa v = tv at HP hlv HT
    have HP' : Hid (∀ W, Xk.Ext w W → Calls Tryz.prog 41 #[.slice pa 1 ca, .string ⟨#[32]⟩] W fun e w' => e = .returned (.string ⟨tv.toArray⟩) ∧ Below W.heap.size W w') := HP
    have hwr : IntKind.i64.wrap (-d) = -d := IntWalk.i64_in _ (by omega)
    clear hE HP
    go_enter Tryz.func40, Tryz.ntmps40
    go_wp2_with (first | (go_at_call 20; (with_reducible refine (HI0.out _ (by repeat (first | with_reducible exact Below.refl _ _ | ((with_reducible refine Below.setCell ?_ ?_ _); rotate_left; exact (by (try simp only [World.size_alloc, Xk.exw_size, World.size_setCell, World.size_drew, World.heap_drewN]); omega)) | ((with_reducible refine Below.alloc ?_ ?_ _); rotate_left; exact (by (try simp only [World.size_alloc, Xk.exw_size, World.size_setCell, World.size_drew, World.heap_drewN]); omega)) | ((with_reducible refine Xk.below_exw ?_ ?_ _); rotate_left; exact (by (try simp only [World.size_alloc, Xk.exw_size, World.size_setCell, World.size_drew, World.heap_drewN]); omega)) | (with_reducible refine Below.drew ?_)))).mono ?_); rintro e w' ⟨rfl, hb⟩; obtain ⟨p, rfl⟩ := Xk.exw_of hb; clear hb) | (go_at_call 20; (with_reducible refine (HId.out _ (by repeat (first | with_reducible exact Below.refl _ _ | ((with_reducible refine Below.setCell ?_ ?_ _); rotate_left; exact (by (try simp only [World.size_alloc, Xk.exw_size, World.size_setCell, World.size_drew, World.heap_drewN]); omega)) | ((with_reducible refine Below.alloc ?_ ?_ _); rotate_left; exact (by (try simp only [World.size_alloc, Xk.exw_size, World.size_setCell, World.size_drew, World.heap_drewN]); omega)) | ((with_reducible refine Xk.below_exw ?_ ?_ _); rotate_left; exact (by (try simp only [World.size_alloc, Xk.exw_size, World.size_setCell, World.size_drew, World.heap_drewN]); omega)) | (with_reducible refine Below.drew ?_)))).mono ?_); rintro e w' ⟨rfl, hb⟩; obtain ⟨p, rfl⟩ := Xk.exw_of hb; clear hb) | (go_at_call 41; (with_reducible refine (HP'.out _ (by repeat (first | with_reducible exact Below.refl _ _ | ((with_reducible refine Below.setCell ?_ ?_ _); rotate_left; exact (by (try simp only [World.size_alloc, Xk.exw_size, World.size_setCell, World.size_drew, World.heap_drewN]); omega)) | ((with_reducible refine Below.alloc ?_ ?_ _); rotate_left; exact (by (try simp only [World.size_alloc, Xk.exw_size, World.size_setCell, World.size_drew, World.heap_drewN]); omega)) | ((with_reducible refine Xk.below_exw ?_ ?_ _); rotate_left; exact (by (try simp only [World.size_alloc, Xk.exw_size, World.size_setCell, World.size_drew, World.heap_drewN]); omega)) | (with_reducible refine Below.drew ?_)))).mono ?_); rintro e w' ⟨rfl, hb⟩; obtain ⟨p, rfl⟩ := Xk.exw_of hb; clear hb) | ((at_builtin; refine Xo.wpList_appk (w0 := w) rfl _ _ 22 rfl 9 i0 _ 1 16 Tryz.underlying22 Hi.out Hz0.out Hz1.out Hz2.out rfl (by decide) (.slice none 0 0) 0 [] rfl (by repeat (first | with_reducible exact (World.ownsRow_nil _ _ _ _) | with_reducible refine Xo.own_alloc ?_ _ | with_reducible refine Xo.own_drew ?_ | with_reducible refine Xo.own_exw ?_ _)) _ 0 1 1 [_] rfl (by decide) rfl (Xo.cells1 (by simp)) (Xo.one1 rfl) (by omega) (by repeat (first | with_reducible exact Below.refl _ _ | with_reducible exact Below.refl _ _ | ((with_reducible refine Below.setCell ?_ ?_ _); rotate_left; exact (by (try simp only [World.size_alloc, Xk.exw_size, World.size_setCell, World.size_drew, World.heap_drewN]); omega)) | ((with_reducible refine Below.alloc ?_ ?_ _); rotate_left; exact (by (try simp only [World.size_alloc, Xk.exw_size, World.size_setCell, World.size_drew, World.heap_drewN]); omega)) | ((with_reducible refine Xk.below_exw ?_ ?_ _); rotate_left; exact (by (try simp only [World.size_alloc, Xk.exw_size, World.size_setCell, World.size_drew, World.heap_drewN]); omega)) | (with_reducible refine Below.drew ?_))) ?_; intro v' w' ho' hg' hk' hb'; have HO' := Lib.hid ho'; have HG' := Lib.hid hg'; have HK' := Lib.hid hk'; have HB' := Lib.hid hb'; clear ho' hg' hk' hb'); obtain ⟨pz, cz, rfl⟩ := own_form HO'.out (by omega); have ob := ((show Xk.Ext w w' from HB'.out).block bo lo).trans HOb.out; have oc : w'.cell? ⟨bo, 0, none⟩ = some (.slice none 0 0) := (by simp [World.cell?, ob]); have of := frozen_of_row w' bo 0 _ _ ob; have OB := Lib.hid ob; clear ob))
    go_end0
    refine ⟨rfl, w', _, rfl, HB'.out, ?_⟩
    have h := HO'.out
    rw [Nat.zero_add, List.nil_append] at h
    rw [HT.out]
    have e : ∀ b : ByteArray, b = ⟨([48, 32, 45, 32] ++ td ++ [32] ++ tv).toArray⟩ → scells [[48, 32, 45, 32] ++ td ++ [32] ++ tv] = [.string b] := fun b hb => by rw [hb]; rfl
    rw [e _ ?_]
    · exact h
    · apply bytes_ext
      simp
  · have HId := Lib.hid fun W (hx : Xk.Ext w W) => itoa_any (d) (by omega) (by omega) W (hE.ext hx)
    have hld := Lib.itoa_length_le (d) (by omega) (by omega)
    have HT : Hid (P25.told (if d < 0 then 45 else 43) (if d < 0 then -d else d) v = [48, 32, 43, 32] ++ Lib.itoa (d) ++ [32] ++ Lib.itoa v) := Lib.hid (by rw [if_neg hneg, if_neg hneg]; rfl)
    generalize P25.told (if d < 0 then 45 else 43) (if d < 0 then -d else d) v = T at HT
    generalize Lib.itoa (d) = td at HId hld HT
    generalize Lib.itoa v = tv at HP hlv HT
    have HP' : Hid (∀ W, Xk.Ext w W → Calls Tryz.prog 41 #[.slice pa 1 ca, .string ⟨#[32]⟩] W fun e w' => e = .returned (.string ⟨tv.toArray⟩) ∧ Below W.heap.size W w') := HP
    clear hE HP
    go_enter Tryz.func40, Tryz.ntmps40
    go_wp2_with (first | (go_at_call 20; (with_reducible refine (HI0.out _ (by repeat (first | with_reducible exact Below.refl _ _ | ((with_reducible refine Below.setCell ?_ ?_ _); rotate_left; exact (by (try simp only [World.size_alloc, Xk.exw_size, World.size_setCell, World.size_drew, World.heap_drewN]); omega)) | ((with_reducible refine Below.alloc ?_ ?_ _); rotate_left; exact (by (try simp only [World.size_alloc, Xk.exw_size, World.size_setCell, World.size_drew, World.heap_drewN]); omega)) | ((with_reducible refine Xk.below_exw ?_ ?_ _); rotate_left; exact (by (try simp only [World.size_alloc, Xk.exw_size, World.size_setCell, World.size_drew, World.heap_drewN]); omega)) | (with_reducible refine Below.drew ?_)))).mono ?_); rintro e w' ⟨rfl, hb⟩; obtain ⟨p, rfl⟩ := Xk.exw_of hb; clear hb) | (go_at_call 20; (with_reducible refine (HId.out _ (by repeat (first | with_reducible exact Below.refl _ _ | ((with_reducible refine Below.setCell ?_ ?_ _); rotate_left; exact (by (try simp only [World.size_alloc, Xk.exw_size, World.size_setCell, World.size_drew, World.heap_drewN]); omega)) | ((with_reducible refine Below.alloc ?_ ?_ _); rotate_left; exact (by (try simp only [World.size_alloc, Xk.exw_size, World.size_setCell, World.size_drew, World.heap_drewN]); omega)) | ((with_reducible refine Xk.below_exw ?_ ?_ _); rotate_left; exact (by (try simp only [World.size_alloc, Xk.exw_size, World.size_setCell, World.size_drew, World.heap_drewN]); omega)) | (with_reducible refine Below.drew ?_)))).mono ?_); rintro e w' ⟨rfl, hb⟩; obtain ⟨p, rfl⟩ := Xk.exw_of hb; clear hb) | (go_at_call 41; (with_reducible refine (HP'.out _ (by repeat (first | with_reducible exact Below.refl _ _ | ((with_reducible refine Below.setCell ?_ ?_ _); rotate_left; exact (by (try simp only [World.size_alloc, Xk.exw_size, World.size_setCell, World.size_drew, World.heap_drewN]); omega)) | ((with_reducible refine Below.alloc ?_ ?_ _); rotate_left; exact (by (try simp only [World.size_alloc, Xk.exw_size, World.size_setCell, World.size_drew, World.heap_drewN]); omega)) | ((with_reducible refine Xk.below_exw ?_ ?_ _); rotate_left; exact (by (try simp only [World.size_alloc, Xk.exw_size, World.size_setCell, World.size_drew, World.heap_drewN]); omega)) | (with_reducible refine Below.drew ?_)))).mono ?_); rintro e w' ⟨rfl, hb⟩; obtain ⟨p, rfl⟩ := Xk.exw_of hb; clear hb) | ((at_builtin; refine Xo.wpList_appk (w0 := w) rfl _ _ 22 rfl 9 i0 _ 1 16 Tryz.underlying22 Hi.out Hz0.out Hz1.out Hz2.out rfl (by decide) (.slice none 0 0) 0 [] rfl (by repeat (first | with_reducible exact (World.ownsRow_nil _ _ _ _) | with_reducible refine Xo.own_alloc ?_ _ | with_reducible refine Xo.own_drew ?_ | with_reducible refine Xo.own_exw ?_ _)) _ 0 1 1 [_] rfl (by decide) rfl (Xo.cells1 (by simp)) (Xo.one1 rfl) (by omega) (by repeat (first | with_reducible exact Below.refl _ _ | with_reducible exact Below.refl _ _ | ((with_reducible refine Below.setCell ?_ ?_ _); rotate_left; exact (by (try simp only [World.size_alloc, Xk.exw_size, World.size_setCell, World.size_drew, World.heap_drewN]); omega)) | ((with_reducible refine Below.alloc ?_ ?_ _); rotate_left; exact (by (try simp only [World.size_alloc, Xk.exw_size, World.size_setCell, World.size_drew, World.heap_drewN]); omega)) | ((with_reducible refine Xk.below_exw ?_ ?_ _); rotate_left; exact (by (try simp only [World.size_alloc, Xk.exw_size, World.size_setCell, World.size_drew, World.heap_drewN]); omega)) | (with_reducible refine Below.drew ?_))) ?_; intro v' w' ho' hg' hk' hb'; have HO' := Lib.hid ho'; have HG' := Lib.hid hg'; have HK' := Lib.hid hk'; have HB' := Lib.hid hb'; clear ho' hg' hk' hb'); obtain ⟨pz, cz, rfl⟩ := own_form HO'.out (by omega); have ob := ((show Xk.Ext w w' from HB'.out).block bo lo).trans HOb.out; have oc : w'.cell? ⟨bo, 0, none⟩ = some (.slice none 0 0) := (by simp [World.cell?, ob]); have of := frozen_of_row w' bo 0 _ _ ob; have OB := Lib.hid ob; clear ob))
    go_end0
    refine ⟨rfl, w', _, rfl, HB'.out, ?_⟩
    have h := HO'.out
    rw [Nat.zero_add, List.nil_append] at h
    rw [HT.out]
    have e : ∀ b : ByteArray, b = ⟨([48, 32, 43, 32] ++ td ++ [32] ++ tv).toArray⟩ → scells [[48, 32, 43, 32] ++ td ++ [32] ++ tv] = [.string b] := fun b hb => by rw [hb]; rfl
    rw [e _ ?_]
    · exact h
    · apply bytes_ext
      simp
end Go.Proofs.YtmoippbmnanajaaGreatDoor
namespace Go.Proofs.YtmoippbmnanajaaGreatDoor
open Go.RowKit
/-- A database of one table, whose rows are all l. -/
structure One (w0 : World) (g c : Nat) (vl : Value) (n : Nat) (l : List V) : Prop where
  cell : w0.cell? ⟨g, 0, none⟩ = some vl
  rows : Rows0 w0 w0 vl n l
  none : n = 0 → vl = .slice none 0 0
/-- What is told by now. -/
def Told (w wr : World) (bo : Nat) (S : Option (List UInt8)) : Prop := Below w.heap.size w wr ∧ match S with
  | none => wr.cell? ⟨bo, 0, none⟩ = some (.slice none 0 0)
  | some s => ∃ pz cz, wr.cell? ⟨bo, 0, none⟩ = some (.slice (some ⟨pz, 0, none⟩) 1 cz) ∧ wr.cell? ⟨pz, 0, none⟩ = some (.string ⟨s.toArray⟩)
def toldOf (a b : Nat) (v : Int) : Option (List UInt8) := if a = b then none else some (P25.told (if (b : Int) - (a : Int) < 0 then 45 else 43) (if (b : Int) - (a : Int) < 0 then -((b : Int) - (a : Int)) else (b : Int) - (a : Int)) v)
theorem Told.ext {w wr wr2 : World} {bo : Nat} {S : Option (List UInt8)} (h : Told w wr bo S) (hx : Xk.Ext wr wr2) : Told w wr2 bo S := by
  refine ⟨Xk.Ext.trans h.1 hx, ?_⟩
  cases S with
  | none => exact Xk.ext_cell hx h.2
  | some s =>
    obtain ⟨pz, cz, h1, h2⟩ := h.2
    exact ⟨pz, cz, Xk.ext_cell hx h1, Xk.ext_cell hx h2⟩
set_option maxRecDepth 100000 in
set_option maxHeartbeats 8000000 in
theorem diff_any (w0 : World) (gx cx gy cy : Nat) (vx vy : Value) (a b : Nat) (v : Int) (w : World) (hE : Env w0) (hw : Xk.Ext w0 w) (hx : One w0 gx cx vx a (numRow v)) (hy : One w0 gy cy vy b (numRow v)) (ha : a ≤ 19) (hb : b ≤ 19)
    (h0 : -9223372036854775808 ≤ v) (h1 : v ≤ 9223372036854775807) :
    Calls Tryz.prog 18 #[.agg #[.slice (some ⟨gx, 0, none⟩) 1 cx], .agg #[.slice (some ⟨gy, 0, none⟩) 1 cy]] w fun e w' => Below w.heap.size w w' ∧ match toldOf a b v with
      | none => e = .returned (.slice none 0 0)
      | some s => ∃ pz cz, e = .returned (.slice (some ⟨pz, 0, none⟩) 1 cz) ∧ w'.cell? ⟨pz, 0, none⟩ = some (.string ⟨s.toArray⟩) := by
  have hA0 : Agree w0 w := (Agree.refl w0).ext hw
  have HX := Lib.hid hx
  have HY := Lib.hid hy
  have HE := Lib.hid hE
  have HW := Lib.hid hw
  have cx0 := Xk.ext_cell hw hx.cell
  have cy0 := Xk.ext_cell hw hy.cell
  have lx := World.block_lt_of_cell? _ _ cx0
  have ly := World.block_lt_of_cell? _ _ cy0
  have hz0 := hw.size
  have HAg := Lib.hid hA0
  obtain ⟨px, kx, rfl, -⟩ := hx.rows
  obtain ⟨py, ky, rfl, -⟩ := hy.rows
  clear hx hy hE hw hA0
  go_enter Tryz.func18, Tryz.ntmps18
  go_wp2
  generalize hW1 : World.alloc _ _ = W1
  have z1 : W1.heap.size = w.heap.size + 1 + 1 + 1 := by subst hW1; simp
  have e1 : Xk.Ext w W1 := by subst hW1; exact (by repeat (first | with_reducible exact Below.refl _ _ | ((with_reducible refine Below.setCell ?_ ?_ _); rotate_left; exact (by (try simp only [World.size_alloc, Xk.exw_size, World.size_setCell, World.size_drew, World.heap_drewN]); omega)) | ((with_reducible refine Below.alloc ?_ ?_ _); rotate_left; exact (by (try simp only [World.size_alloc, Xk.exw_size, World.size_setCell, World.size_drew, World.heap_drewN]); omega)) | ((with_reducible refine Xk.below_exw ?_ ?_ _); rotate_left; exact (by (try simp only [World.size_alloc, Xk.exw_size, World.size_setCell, World.size_drew, World.heap_drewN]); omega)) | (with_reducible refine Below.drew ?_)))
  have q0 : W1.cell? ⟨w.heap.size, 0, none⟩ = some (.slice (some ⟨gx, 0, none⟩) 1 cx) := by subst hW1; go_simp
  have q1 : W1.cell? ⟨w.heap.size + 1, 0, none⟩ = some (.slice (some ⟨gy, 0, none⟩) 1 cy) := by subst hW1; go_simp
  have q2 : W1.heap[w.heap.size + 1 + 1]? = some (.cells #[.slice none 0 0] 22 (0, 0)) := by
    subst hW1
    have h := heap_alloc_new ((w.alloc (.cells #[.slice (some ⟨gx, 0, none⟩) 1 cx] 44)).alloc (.cells #[.slice (some ⟨gy, 0, none⟩) 1 cy] 44)) (.cells #[.slice none 0 0] 22)
    rw [World.size_alloc, World.size_alloc] at h
    exact h
  have E1 := Lib.hid e1
  have Q0 := Lib.hid q0
  have Q1 := Lib.hid q1
  have Q2 := Lib.hid q2
  have Z1 := Lib.hid z1
  clear hW1 e1 q0 q1 q2 z1
  go_loopw [22] (fun x wr => (x = .int .i64 0 ∧ wr = W1 ∨ x = .int .i64 1 ∧ Told w wr (w.heap.size + 1 + 1) (toldOf a b v))) (fun x _ => 1 - (intOf x).toNat)
  case atStart => exact .inl ⟨rfl, rfl⟩
  case round =>
    rcases hrel with ⟨rfl, rfl⟩ | ⟨rfl, htl⟩
    · have hz1 := Z1.out
      have lw0 : w.heap.size < wr.heap.size := by omega
      have lw1 : w.heap.size + 1 < wr.heap.size := by omega
      have lw2 : w.heap.size + 1 + 1 < wr.heap.size := by omega
      have lgx : gx < wr.heap.size := by omega
      have lgy : gy < wr.heap.size := by omega
      clear hz1
      have m0 := Q0.out
      have m1 := Q1.out
      have mx := Xk.ext_cell E1.out cx0
      have my := Xk.ext_cell E1.out cy0
      have hxl := HX.out.rows
      have hyl := HY.out.rows
      obtain ⟨W1, rfl⟩ : ∃ W1, W1 = wr := ⟨wr, rfl⟩
      have HCo := Lib.hid fun g c W (ha : Agree w0 W) (hl : Rows0 w0 W (.slice px a kx) a (numRow v)) (hm : Rows0 w0 W (.slice py b ky) b (numRow v)) c0 c1 => concat_any w0 g c (.slice px a kx) (.slice py b ky) a b (numRow v) W ha hl hm c0 c1 HX.out.none HY.out.none (by omega)
      have HRi := Lib.hid fun vv n W (hn : n ≤ 39) (ha : Agree w0 W) (hr : Rows0 w0 W vv n (numRow v)) => rising_any w0 vv n (numRow v) W ha hr hn (by simp [numRow])
      have HAg1 := Lib.hid (HAg.out.ext E1.out)
      have HXr := Lib.hid (hxl.ext (Xk.Ext.trans HW.out E1.out))
      have HYr := Lib.hid (hyl.ext (Xk.Ext.trans HW.out E1.out))
      clear hxl hyl
      go_wp2_with (first
        | (go_at_call 43; (with_reducible refine (HCo.out _ _ _ (HAg1.out.ext (by repeat (first | with_reducible exact Below.refl _ _ | ((with_reducible refine Below.setCell ?_ ?_ _); rotate_left; exact (by (try simp only [World.size_alloc, Xk.exw_size, World.size_setCell, World.size_drew, World.heap_drewN]); omega)) | ((with_reducible refine Below.alloc ?_ ?_ _); rotate_left; exact (by (try simp only [World.size_alloc, Xk.exw_size, World.size_setCell, World.size_drew, World.heap_drewN]); omega)) | ((with_reducible refine Xk.below_exw ?_ ?_ _); rotate_left; exact (by (try simp only [World.size_alloc, Xk.exw_size, World.size_setCell, World.size_drew, World.heap_drewN]); omega)) | (with_reducible refine Below.drew ?_)))) (HXr.out.ext (by repeat (first | with_reducible exact Below.refl _ _ | ((with_reducible refine Below.setCell ?_ ?_ _); rotate_left; exact (by (try simp only [World.size_alloc, Xk.exw_size, World.size_setCell, World.size_drew, World.heap_drewN]); omega)) | ((with_reducible refine Below.alloc ?_ ?_ _); rotate_left; exact (by (try simp only [World.size_alloc, Xk.exw_size, World.size_setCell, World.size_drew, World.heap_drewN]); omega)) | ((with_reducible refine Xk.below_exw ?_ ?_ _); rotate_left; exact (by (try simp only [World.size_alloc, Xk.exw_size, World.size_setCell, World.size_drew, World.heap_drewN]); omega)) | (with_reducible refine Below.drew ?_)))) (HYr.out.ext (by repeat (first | with_reducible exact Below.refl _ _ | ((with_reducible refine Below.setCell ?_ ?_ _); rotate_left; exact (by (try simp only [World.size_alloc, Xk.exw_size, World.size_setCell, World.size_drew, World.heap_drewN]); omega)) | ((with_reducible refine Below.alloc ?_ ?_ _); rotate_left; exact (by (try simp only [World.size_alloc, Xk.exw_size, World.size_setCell, World.size_drew, World.heap_drewN]); omega)) | ((with_reducible refine Xk.below_exw ?_ ?_ _); rotate_left; exact (by (try simp only [World.size_alloc, Xk.exw_size, World.size_setCell, World.size_drew, World.heap_drewN]); omega)) | (with_reducible refine Below.drew ?_)))) (by go_simp) (by go_simp)).mono ?_); rintro e W3 ⟨x, rfl, hb, ho⟩; obtain ⟨pA, kA, rfl, -⟩ := ho.rows0; have hc3 : W3.cell? ⟨W1.heap.size, 0, none⟩ = some (.int .i64 0) := Xk.ext_cell hb (by go_simp); have HC3 := Lib.hid hc3; have HB3 := Lib.hid (Xk.Ext.trans (Xk.Ext.trans (ext_alloc W1 _) (ext_alloc _ _)) hb); have HO3 := Lib.hid ho; clear hb ho hc3)
        | (go_at_call 42; (with_reducible refine (HRi.out _ _ _ (by omega) (HAg1.out.ext (Xk.Ext.trans (Xk.Ext.trans HB3.out HB4.out) HB5.out)) (HYr.out.ext (Xk.Ext.trans (Xk.Ext.trans HB3.out HB4.out) HB5.out))).mono ?_); rintro e W6 ⟨x, rfl, hb, ho⟩; obtain ⟨pM, kM, rfl, -⟩ := ho.rows0; have HB6 := Lib.hid hb; have HO6 := Lib.hid ho; clear hb ho)
        | (go_at_call 42; (with_reducible refine (HRi.out _ _ _ (by omega) (HAg1.out.ext (Xk.Ext.trans HB3.out HB4.out)) (HXr.out.ext (Xk.Ext.trans HB3.out HB4.out))).mono ?_); rintro e W5 ⟨x, rfl, hb, ho⟩; obtain ⟨pL, kL, rfl, -⟩ := ho.rows0; have HB5 := Lib.hid hb; have HO5 := Lib.hid ho; clear hb ho)
        | (go_at_call 42; (with_reducible refine (HRi.out _ _ _ (by omega) (HAg1.out.ext HB3.out) HO3.out.rows0).mono ?_); rintro e W4 ⟨x, rfl, hb, ho⟩; obtain ⟨pB, kB, rfl, -⟩ := ho.rows0; have HB4 := Lib.hid hb; have HO4 := Lib.hid ho; clear hb ho))
      have hx16 := Xk.Ext.trans (Xk.Ext.trans (Xk.Ext.trans HB3.out HB4.out) HB5.out) HB6.out
      have HX16 := Lib.hid hx16
      have HAg6 := Lib.hid (HAg1.out.ext hx16)
      have HT6 := Lib.hid (Xk.ext_cell (Xk.Ext.trans (Xk.Ext.trans HB4.out HB5.out) HB6.out) HC3.out)
      have HQ6 := Lib.hid ((hx16.block _ lw2).trans Q2.out)
      have HAl := Lib.hid (HO4.out.ext (Xk.Ext.trans HB5.out HB6.out))
      have HLl := Lib.hid (HO5.out.ext HB6.out)
      have HMm := Lib.hid HO6.out
      have hz16 := hx16.size
      have hB3 : W1.heap.size < W3.heap.size := by have := HB3.out.size; have := World.block_lt_of_cell? _ _ HC3.out; omega
      have hB4 : W3.heap.size ≤ W4.heap.size := HB4.out.size
      have hB5 : W4.heap.size ≤ W5.heap.size := HB5.out.size
      have hB6 : W5.heap.size ≤ W6.heap.size := HB6.out.size
      clear hx16 lw0 lw1 lgx lgy m0 m1 mx my HO3 HO4 HO5 HO6 HB3 HB4 HB5 HB6 HC3
      go_loopw [11] (fun x wr => x = .int .i64 0 ∧ wr = W6 ∨ x = .int .i64 ((a : Int) + (b : Int)) ∧ Told w wr (w.heap.size + 1 + 1) (toldOf a b v)) (fun x _ => a + b - (intOf x).toNat)
      case atStart => exact .inl ⟨rfl, rfl⟩
      case round =>
        by_cases hab0 : a + b = 0
        · have ha0 : a = 0 := by omega
          have hb0 : b = 0 := by omega
          have htl : ∃ k, u11 = .int .i64 k ∧ k = 0 ∧ Told w wr (w.heap.size + 1 + 1) (toldOf a b v) := by
            rcases hrel with ⟨e, rfl⟩ | ⟨e, h⟩
            · refine ⟨0, e, rfl, Xk.Ext.trans E1.out HX16.out, ?_⟩
              have : toldOf a b v = none := by unfold toldOf; rw [if_pos (by omega)]
              rw [this]
              show World.cell? _ _ = _
              simp [World.cell?, HQ6.out]
            · exact ⟨_, e, by omega, h⟩
          obtain ⟨k, rfl, rfl, h⟩ := htl
          have HTl := Lib.hid h
          have hnl : ¬ (0 : Int) < (a : Int) + (b : Int) := by omega
          clear h hrel ha0 hb0 hab0
          go_wp2
          go_roundw
          case rel => exact .inr ⟨by go_num, HTl.out⟩
          case measure => simp [intOf]
        · rcases hrel with ⟨rfl, rfl⟩ | ⟨rfl, h⟩
          · have hpl : (0 : Int) < (a : Int) + (b : Int) := by omega
            obtain ⟨pB', kB', eB, -, hBl⟩ := HAl.out.rows0
            cases eB
            obtain ⟨bb, ob, ur, rfl, d0, hru⟩ := hBl 0 (by omega)
            rw [Nat.add_zero] at d0
            have ld := World.block_lt_of_cell? _ _ d0
            have HRu := Lib.hid hru
            obtain ⟨pu, cu, rfl, -⟩ := hru
            have HBl := Lib.hid hBl
            clear hBl
            have hst : ∀ (a : Addr) (f : Fn) (x y : Array Value) (m : Mode) (W : World), (store a (.func f x y) m).run Tryz.prog W = stored Tryz.prog W a (.func f x y) m := fun a f x y m W => run_store Tryz.prog W a _ m rfl
            have hl2 := hB6
            go_wp2
            generalize hW7 : World.alloc _ _ = W7
            have x7 : Xk.Ext wr W7 := by subst hW7; exact (by repeat (first | with_reducible exact Below.refl _ _ | ((with_reducible refine Below.setCell ?_ ?_ _); rotate_left; exact (by (try simp only [World.size_alloc, Xk.exw_size, World.size_setCell, World.size_drew, World.heap_drewN]); omega)) | ((with_reducible refine Below.alloc ?_ ?_ _); rotate_left; exact (by (try simp only [World.size_alloc, Xk.exw_size, World.size_setCell, World.size_drew, World.heap_drewN]); omega)) | ((with_reducible refine Xk.below_exw ?_ ?_ _); rotate_left; exact (by (try simp only [World.size_alloc, Xk.exw_size, World.size_setCell, World.size_drew, World.heap_drewN]); omega)) | (with_reducible refine Below.drew ?_)))
            have r0 : W7.cell? ⟨wr.heap.size, 0, none⟩ = some (.slice pu (numRow v).length cu) := by subst hW7; go_simp
            have s0 : W7.cell? ⟨wr.heap.size + 1, 0, none⟩ = some (.func (.func 44) #[] #[.pointer (some ⟨wr.heap.size, 0, none⟩)]) := by subst hW7; go_simp
            have HX7 := Lib.hid x7
            have HR0 := Lib.hid r0
            have HS0 := Lib.hid s0
            have lr := World.block_lt_of_cell? _ _ r0
            have ls := World.block_lt_of_cell? _ _ s0
            have HAg7 := Lib.hid (HAg6.out.ext x7)
            have ht7 := Xk.ext_cell x7 HT6.out
            have hq7 := (x7.block _ (Array.getElem?_eq_some_iff.1 HQ6.out).1).trans HQ6.out
            have HT7 := Lib.hid ht7
            have HQ7 := Lib.hid hq7
            clear hW7 hst ht7 hq7 d0 ld x7
            have HCm := Lib.hid fun W (hx : Xk.Ext W7 W) => count_any w0 (.slice pM b kM) (.slice pu (numRow v).length cu) b (numRow v) wr.heap.size (wr.heap.size + 1) W (HAg7.out.ext hx) (HMm.out.rows0.ext (Xk.Ext.trans HX7.out hx)) HRu.out (Xk.ext_cell hx HR0.out) (Xk.ext_cell hx HS0.out) (by omega) (by simp [numRow])
            have HCl := Lib.hid fun W (hx : Xk.Ext W7 W) => count_any w0 (.slice pL a kL) (.slice pu (numRow v).length cu) a (numRow v) wr.heap.size (wr.heap.size + 1) W (HAg7.out.ext hx) (HLl.out.rows0.ext (Xk.Ext.trans HX7.out hx)) HRu.out (Xk.ext_cell hx HR0.out) (Xk.ext_cell hx HS0.out) (by omega) (by simp [numRow])
            have hwr : IntKind.i64.wrap ((b : Int) - (a : Int)) = (b : Int) - (a : Int) := IntWalk.i64_in _ (by omega)
            refine Xk.wp_region_rel' 9 [] trivial (by kernel_rfl) (by kernel_rfl) ?_
            simp only [List.take_succ_cons, List.take_zero, List.drop_succ_cons, List.drop_zero]
            repeat (first
              | (refine Xk.rel_det (Xk.wanted_none (by rfl)) (by rfl) (fun K hK => ?_); apply Exists.intro; refine ⟨fun p hp => ?_, ?_⟩; (go_simp; first | exact ⟨rfl, rfl⟩ | ((try refine ⟨by kernel_rfl, ?_⟩); (first | (go_at_call 46; ((with_reducible refine (HCm.out _ (by repeat (first | with_reducible exact Below.refl _ _ | ((with_reducible refine Below.setCell ?_ ?_ _); rotate_left; exact (by (try simp only [World.size_alloc, Xk.exw_size, World.size_setCell, World.size_drew, World.heap_drewN]); omega)) | ((with_reducible refine Below.alloc ?_ ?_ _); rotate_left; exact (by (try simp only [World.size_alloc, Xk.exw_size, World.size_setCell, World.size_drew, World.heap_drewN]); omega)) | ((with_reducible refine Xk.below_exw ?_ ?_ _); rotate_left; exact (by (try simp only [World.size_alloc, Xk.exw_size, World.size_setCell, World.size_drew, World.heap_drewN]); omega)) | (with_reducible refine Below.drew ?_)))).mono ?_); exact fun e w' h => h)) | (go_at_call 46; ((with_reducible refine (HCl.out _ (by repeat (first | with_reducible exact Below.refl _ _ | ((with_reducible refine Below.setCell ?_ ?_ _); rotate_left; exact (by (try simp only [World.size_alloc, Xk.exw_size, World.size_setCell, World.size_drew, World.heap_drewN]); omega)) | ((with_reducible refine Below.alloc ?_ ?_ _); rotate_left; exact (by (try simp only [World.size_alloc, Xk.exw_size, World.size_setCell, World.size_drew, World.heap_drewN]); omega)) | ((with_reducible refine Xk.below_exw ?_ ?_ _); rotate_left; exact (by (try simp only [World.size_alloc, Xk.exw_size, World.size_setCell, World.size_drew, World.heap_drewN]); omega)) | (with_reducible refine Below.drew ?_)))).mono ?_); exact fun e w' h => h))))); (go_simp; refine hK _ ?_; clear hK K))
              | (refine Xk.rel_skip (by rfl) (fun K hK => ?_); go_simp; refine hK _ ?_; clear hK K)
              | (refine Xk.rel_det (by rfl) (by rfl) (fun K hK => ?_); apply Exists.intro; refine ⟨fun p hp => ?_, ?_⟩; (go_simp; first | exact ⟨rfl, rfl⟩ | ((try refine ⟨by kernel_rfl, ?_⟩); (first | (go_at_call 46; ((with_reducible refine (HCm.out _ (by repeat (first | with_reducible exact Below.refl _ _ | ((with_reducible refine Below.setCell ?_ ?_ _); rotate_left; exact (by (try simp only [World.size_alloc, Xk.exw_size, World.size_setCell, World.size_drew, World.heap_drewN]); omega)) | ((with_reducible refine Below.alloc ?_ ?_ _); rotate_left; exact (by (try simp only [World.size_alloc, Xk.exw_size, World.size_setCell, World.size_drew, World.heap_drewN]); omega)) | ((with_reducible refine Xk.below_exw ?_ ?_ _); rotate_left; exact (by (try simp only [World.size_alloc, Xk.exw_size, World.size_setCell, World.size_drew, World.heap_drewN]); omega)) | (with_reducible refine Below.drew ?_)))).mono ?_); exact fun e w' h => h)) | (go_at_call 46; ((with_reducible refine (HCl.out _ (by repeat (first | with_reducible exact Below.refl _ _ | ((with_reducible refine Below.setCell ?_ ?_ _); rotate_left; exact (by (try simp only [World.size_alloc, Xk.exw_size, World.size_setCell, World.size_drew, World.heap_drewN]); omega)) | ((with_reducible refine Below.alloc ?_ ?_ _); rotate_left; exact (by (try simp only [World.size_alloc, Xk.exw_size, World.size_setCell, World.size_drew, World.heap_drewN]); omega)) | ((with_reducible refine Xk.below_exw ?_ ?_ _); rotate_left; exact (by (try simp only [World.size_alloc, Xk.exw_size, World.size_setCell, World.size_drew, World.heap_drewN]); omega)) | (with_reducible refine Below.drew ?_)))).mono ?_); exact fun e w' h => h))))); (go_simp; refine hK _ ?_; clear hK K)))
            refine Xk.rel_nil (fun p _ => ?_)
            clear hwr
            have hbo : w.heap.size + 1 + 1 < W7.heap.size := (Array.getElem?_eq_some_iff.1 HQ7.out).1
            have hbb : W3.heap.size ≤ bb := by
              obtain ⟨us, ho, -⟩ := HAl.out
              exact (ho.lt bb rfl).1
            by_cases hab : a = b
            · have HTn := Lib.hid fun W => tell_none (.slice pu (numRow v).length cu) ((b : Int) - (a : Int)) (by omega) W1.heap.size (w.heap.size + 1 + 1) W
              have HS : Hid (toldOf a b v = none) := Lib.hid (by unfold toldOf; rw [if_pos hab])
              have Hab := Lib.hid hab
              clear hab
              go_wp2_with (first | (go_at_call 40; (with_reducible refine (HTn.out _).mono ?_); rintro e w' ⟨rfl, hb⟩; obtain ⟨p, rfl⟩ := Xk.exw_of hb; clear hb))
              generalize hW8 : Xk.exw W7 _ = W8
              have x8 : Xk.Ext W7 W8 := by rw [← hW8]; exact Xk.ext_exw _ _
              have A8 := Lib.hid (HAg7.out.ext x8)
              have R8 := Lib.hid (Xk.ext_cell x8 HR0.out)
              have S8 := Lib.hid (Xk.ext_cell x8 HS0.out)
              have B8 : Hid (∀ j, j < a + b → ∃ u, W8.cell? ⟨bb, ob + j, none⟩ = some u ∧ RowAt w0 u (numRow v)) := Lib.hid fun j hj => by
                obtain ⟨b', o', u, e, h1, h2⟩ := HBl.out j hj
                cases e
                exact ⟨u, Xk.ext_cell (Xk.Ext.trans HX7.out x8) h1, h2⟩
              have T8 : Hid (Told w W8 (w.heap.size + 1 + 1) (toldOf a b v)) := Lib.hid (by
                rw [HS.out]
                refine ⟨Xk.Ext.trans (Xk.Ext.trans (Xk.Ext.trans E1.out HX16.out) HX7.out) x8, ?_⟩
                exact Xk.ext_cell x8 (by simp [World.cell?, HQ7.out]))
              clear hW8 x8 HTn
              clear HX7 HR0 HS0 HT7 HQ7 HCm HCl lr ls hbo
              go_loopw [11] (fun x wr2 => ∃ q : Nat, q ≤ a + b ∧ x = .int .i64 q ∧ Below W8.heap.size W8 wr2) (fun x _ => a + b - (intOf x).toNat)
              case atStart => exact ⟨0, Nat.zero_le _, rfl, Below.refl _ _⟩
              case round =>
                obtain ⟨q, hq, rfl, hbw⟩ := hrel
                have HB := Lib.hid hbw
                by_cases hlt : q < a + b
                · have hqb : (q : Int) < (a : Int) + (b : Int) := by omega
                  obtain ⟨u, hcu, hru2⟩ := B8.out q hlt
                  have c1 := Xk.ext_cell hbw hcu
                  have c2 := Xk.ext_cell hbw R8.out
                  have c3 := Xk.ext_cell hbw S8.out
                  have k1 := World.block_lt_of_cell? _ _ c1
                  have k2 := World.block_lt_of_cell? _ _ c2
                  have k3 := World.block_lt_of_cell? _ _ c3
                  have hsz := hbw.size
                  have HSm := Lib.hid fun W (hx : Xk.Ext wr W) => same_any w0 u (.slice pu (numRow v).length cu) (numRow v) _ W (A8.out.ext (Xk.Ext.trans hbw hx)) hru2 HRu.out (Xk.ext_cell hx c2) (by simp [numRow])
                  obtain ⟨pu2, cu2, rfl, -⟩ := hru2
                  clear hbw hcu
                  go_wp2
                  refine Xk.wp_region_rel' 12 [] trivial (by kernel_rfl) (by kernel_rfl) ?_
                  simp only [List.take_succ_cons, List.take_zero, List.drop_succ_cons, List.drop_zero]
                  repeat (first
                    | (refine Xk.rel_det (Xk.wanted_none (by rfl)) (by rfl) (fun K hK => ?_); apply Exists.intro; refine ⟨fun p hp => ?_, ?_⟩; (go_simp; first | exact ⟨rfl, rfl⟩ | ((try refine ⟨by kernel_rfl, ?_⟩); (first | (go_at_call 44; ((with_reducible refine (HSm.out _ (by repeat (first | with_reducible exact Below.refl _ _ | ((with_reducible refine Below.setCell ?_ ?_ _); rotate_left; exact (by (try simp only [World.size_alloc, Xk.exw_size, World.size_setCell, World.size_drew, World.heap_drewN]); omega)) | ((with_reducible refine Below.alloc ?_ ?_ _); rotate_left; exact (by (try simp only [World.size_alloc, Xk.exw_size, World.size_setCell, World.size_drew, World.heap_drewN]); omega)) | ((with_reducible refine Xk.below_exw ?_ ?_ _); rotate_left; exact (by (try simp only [World.size_alloc, Xk.exw_size, World.size_setCell, World.size_drew, World.heap_drewN]); omega)) | (with_reducible refine Below.drew ?_)))).mono ?_); exact fun e w' h => h))))); (go_simp; refine hK _ ?_; clear hK K))
                    | (refine Xk.rel_skip (by rfl) (fun K hK => ?_); go_simp; refine hK _ ?_; clear hK K)
                    | (refine Xk.rel_det (by rfl) (by rfl) (fun K hK => ?_); apply Exists.intro; refine ⟨fun p hp => ?_, ?_⟩; (go_simp; first | exact ⟨rfl, rfl⟩ | ((try refine ⟨by kernel_rfl, ?_⟩); (first | (go_at_call 44; ((with_reducible refine (HSm.out _ (by repeat (first | with_reducible exact Below.refl _ _ | ((with_reducible refine Below.setCell ?_ ?_ _); rotate_left; exact (by (try simp only [World.size_alloc, Xk.exw_size, World.size_setCell, World.size_drew, World.heap_drewN]); omega)) | ((with_reducible refine Below.alloc ?_ ?_ _); rotate_left; exact (by (try simp only [World.size_alloc, Xk.exw_size, World.size_setCell, World.size_drew, World.heap_drewN]); omega)) | ((with_reducible refine Xk.below_exw ?_ ?_ _); rotate_left; exact (by (try simp only [World.size_alloc, Xk.exw_size, World.size_setCell, World.size_drew, World.heap_drewN]); omega)) | (with_reducible refine Below.drew ?_)))).mono ?_); exact fun e w' h => h))))); (go_simp; refine hK _ ?_; clear hK K)))
                  refine Xk.rel_nil (fun p _ => ?_)
                  go_wp2
                  go_roundw
                  case rel => exact ⟨q + 1, by omega, by go_num, (by repeat (first | with_reducible exact HB.out | with_reducible exact Below.refl _ _ | ((with_reducible refine Below.setCell ?_ ?_ _); rotate_left; exact (by (try simp only [World.size_alloc, Xk.exw_size, World.size_setCell, World.size_drew, World.heap_drewN]); omega)) | ((with_reducible refine Below.alloc ?_ ?_ _); rotate_left; exact (by (try simp only [World.size_alloc, Xk.exw_size, World.size_setCell, World.size_drew, World.heap_drewN]); omega)) | ((with_reducible refine Xk.below_exw ?_ ?_ _); rotate_left; exact (by (try simp only [World.size_alloc, Xk.exw_size, World.size_setCell, World.size_drew, World.heap_drewN]); omega)) | (with_reducible refine Below.drew ?_)))⟩
                  case measure => simp [intOf]; omega
                · obtain rfl : q = a + b := by omega
                  have hqb : ¬ ((a + b : Nat) : Int) < (a : Int) + (b : Int) := by omega
                  have HTf := Lib.hid (T8.out.ext hbw)
                  have hsz := hbw.size
                  clear hbw
                  go_wp2
                  refine Xk.wp_region_rel' 12 [] trivial (by kernel_rfl) (by kernel_rfl) ?_
                  simp only [List.take_succ_cons, List.take_zero, List.drop_succ_cons, List.drop_zero]
                  repeat (first
                    | (refine Xk.rel_det (Xk.wanted_none (by rfl)) (by rfl) (fun K hK => ?_); apply Exists.intro; refine ⟨fun p hp => ?_, ?_⟩; (go_simp; first | exact ⟨rfl, rfl⟩ | ((try refine ⟨by kernel_rfl, ?_⟩); (fail))); (go_simp; refine hK _ ?_; clear hK K))
                    | (refine Xk.rel_skip (by rfl) (fun K hK => ?_); go_simp; refine hK _ ?_; clear hK K)
                    | (refine Xk.rel_det (by rfl) (by rfl) (fun K hK => ?_); apply Exists.intro; refine ⟨fun p hp => ?_, ?_⟩; (go_simp; first | exact ⟨rfl, rfl⟩ | ((try refine ⟨by kernel_rfl, ?_⟩); (fail))); (go_simp; refine hK _ ?_; clear hK K)))
                  refine Xk.rel_nil (fun p _ => ?_)
                  go_wp2
                  go_roundw
                  case rel => exact .inr ⟨by go_num, HTf.out.ext (by repeat (first | with_reducible exact Below.refl _ _ | ((with_reducible refine Below.setCell ?_ ?_ _); rotate_left; exact (by (try simp only [World.size_alloc, Xk.exw_size, World.size_setCell, World.size_drew, World.heap_drewN]); omega)) | ((with_reducible refine Below.alloc ?_ ?_ _); rotate_left; exact (by (try simp only [World.size_alloc, Xk.exw_size, World.size_setCell, World.size_drew, World.heap_drewN]); omega)) | ((with_reducible refine Xk.below_exw ?_ ?_ _); rotate_left; exact (by (try simp only [World.size_alloc, Xk.exw_size, World.size_setCell, World.size_drew, World.heap_drewN]); omega)) | (with_reducible refine Below.drew ?_)))⟩
                  case measure => simp [intOf]; omega
            · have HTs := Lib.hid fun W (hx : Xk.Ext W7 W) => tell_some (.slice pu (numRow v).length cu) ((b : Int) - (a : Int)) v W1.heap.size (w.heap.size + 1 + 1) W (HE.out.ext (Xk.Ext.trans HW.out (Xk.Ext.trans E1.out (Xk.Ext.trans HX16.out (Xk.Ext.trans HX7.out hx))))) (by omega) (by omega) (by omega) (HRu.out.agree (HAg7.out.ext hx)) h0 h1 (Xk.ext_cell hx HT7.out) ((hx.block _ hbo).trans HQ7.out)
              have HS : Hid (toldOf a b v = some (P25.told (if (b : Int) - (a : Int) < 0 then 45 else 43) (if (b : Int) - (a : Int) < 0 then -((b : Int) - (a : Int)) else (b : Int) - (a : Int)) v)) := Lib.hid (by unfold toldOf; rw [if_neg hab])
              generalize P25.told (if (b : Int) - (a : Int) < 0 then 45 else 43) (if (b : Int) - (a : Int) < 0 then -((b : Int) - (a : Int)) else (b : Int) - (a : Int)) v = S at HTs HS
              go_wp2_with (first | (go_at_call 40; ((with_reducible refine (HTs.out _ (Xk.ext_exw _ _)).mono ?_); rintro e w' ⟨rfl, Wt, vo, rfl, hbt, hot⟩; obtain ⟨pz, cz, rfl⟩ := own_form hot (by omega); have HBt := Lib.hid (Xk.Ext.trans (Xk.ext_exw W7 _) hbt); have hpz := (hot.lt pz rfl).1; have hpc := hot.cellAt 0 (by omega); have HPc := Lib.hid hpc; clear hbt hot hpc)))
              rw [Xk.exw_size] at hpz
              have HOc : Hid (Wt.cell? ⟨w.heap.size + 1 + 1, 0, none⟩ = some (.slice none 0 0)) := Lib.hid (Xk.ext_cell HBt.out (by simp [World.cell?, HQ7.out]))
              generalize hW8 : World.setCell Wt _ _ = W8
              have ho8 : ∀ b o u, b ≠ w.heap.size + 1 + 1 → Wt.cell? ⟨b, o, none⟩ = some u → W8.cell? ⟨b, o, none⟩ = some u := fun b o u hb hu => by
                rw [← hW8, World.cell?_setCell_other _ _ _ _ (fun e => hb (by cases e; rfl))]
                exact hu
              have A8 := Lib.hid (show Agree w0 W8 from by rw [← hW8]; exact (HAg7.out.ext HBt.out).setCell (by omega) _)
              have R8 := Lib.hid (ho8 _ _ _ (by omega) (Xk.ext_cell HBt.out HR0.out))
              have S8 := Lib.hid (ho8 _ _ _ (by omega) (Xk.ext_cell HBt.out HS0.out))
              have B8 : Hid (∀ j, j < a + b → ∃ u, W8.cell? ⟨bb, ob + j, none⟩ = some u ∧ RowAt w0 u (numRow v)) := Lib.hid fun j hj => by
                obtain ⟨b', o', u, e, h1, h2⟩ := HBl.out j hj
                cases e
                exact ⟨u, ho8 _ _ _ (by omega) (Xk.ext_cell (Xk.Ext.trans HX7.out HBt.out) h1), h2⟩
              have T8 : Hid (Told w W8 (w.heap.size + 1 + 1) (toldOf a b v)) := Lib.hid (by
                rw [HS.out]
                refine ⟨by rw [← hW8]; exact (Xk.Ext.trans (Xk.Ext.trans (Xk.Ext.trans E1.out HX16.out) HX7.out) HBt.out).setCell (p := ⟨w.heap.size + 1 + 1, 0, none⟩) (by show w.heap.size ≤ w.heap.size + 1 + 1; omega) _, pz, cz, ?_, ?_⟩
                · rw [← hW8]; exact World.cell?_setCell_same _ _ _ HOc.out
                · refine ho8 _ _ _ (by omega) ?_
                  have h := HPc.out
                  simpa [scells] using h)
              clear hW8 HTs ho8 hpz
              clear HX7 HR0 HS0 HT7 HQ7 HCm HCl lr ls hbo
              go_loopw [11] (fun x wr2 => ∃ q : Nat, q ≤ a + b ∧ x = .int .i64 q ∧ Below W8.heap.size W8 wr2) (fun x _ => a + b - (intOf x).toNat)
              case atStart => exact ⟨0, Nat.zero_le _, rfl, Below.refl _ _⟩
              case round =>
                obtain ⟨q, hq, rfl, hbw⟩ := hrel
                have HB := Lib.hid hbw
                by_cases hlt : q < a + b
                · have hqb : (q : Int) < (a : Int) + (b : Int) := by omega
                  obtain ⟨u, hcu, hru2⟩ := B8.out q hlt
                  have c1 := Xk.ext_cell hbw hcu
                  have c2 := Xk.ext_cell hbw R8.out
                  have c3 := Xk.ext_cell hbw S8.out
                  have k1 := World.block_lt_of_cell? _ _ c1
                  have k2 := World.block_lt_of_cell? _ _ c2
                  have k3 := World.block_lt_of_cell? _ _ c3
                  have hsz := hbw.size
                  have HSm := Lib.hid fun W (hx : Xk.Ext wr W) => same_any w0 u (.slice pu (numRow v).length cu) (numRow v) _ W (A8.out.ext (Xk.Ext.trans hbw hx)) hru2 HRu.out (Xk.ext_cell hx c2) (by simp [numRow])
                  obtain ⟨pu2, cu2, rfl, -⟩ := hru2
                  clear hbw hcu
                  go_wp2
                  refine Xk.wp_region_rel' 12 [] trivial (by kernel_rfl) (by kernel_rfl) ?_
                  simp only [List.take_succ_cons, List.take_zero, List.drop_succ_cons, List.drop_zero]
                  repeat (first
                    | (refine Xk.rel_det (Xk.wanted_none (by rfl)) (by rfl) (fun K hK => ?_); apply Exists.intro; refine ⟨fun p hp => ?_, ?_⟩; (go_simp; first | exact ⟨rfl, rfl⟩ | ((try refine ⟨by kernel_rfl, ?_⟩); (first | (go_at_call 44; ((with_reducible refine (HSm.out _ (by repeat (first | with_reducible exact Below.refl _ _ | ((with_reducible refine Below.setCell ?_ ?_ _); rotate_left; exact (by (try simp only [World.size_alloc, Xk.exw_size, World.size_setCell, World.size_drew, World.heap_drewN]); omega)) | ((with_reducible refine Below.alloc ?_ ?_ _); rotate_left; exact (by (try simp only [World.size_alloc, Xk.exw_size, World.size_setCell, World.size_drew, World.heap_drewN]); omega)) | ((with_reducible refine Xk.below_exw ?_ ?_ _); rotate_left; exact (by (try simp only [World.size_alloc, Xk.exw_size, World.size_setCell, World.size_drew, World.heap_drewN]); omega)) | (with_reducible refine Below.drew ?_)))).mono ?_); exact fun e w' h => h))))); (go_simp; refine hK _ ?_; clear hK K))
                    | (refine Xk.rel_skip (by rfl) (fun K hK => ?_); go_simp; refine hK _ ?_; clear hK K)
                    | (refine Xk.rel_det (by rfl) (by rfl) (fun K hK => ?_); apply Exists.intro; refine ⟨fun p hp => ?_, ?_⟩; (go_simp; first | exact ⟨rfl, rfl⟩ | ((try refine ⟨by kernel_rfl, ?_⟩); (first | (go_at_call 44; ((with_reducible refine (HSm.out _ (by repeat (first | with_reducible exact Below.refl _ _ | ((with_reducible refine Below.setCell ?_ ?_ _); rotate_left; exact (by (try simp only [World.size_alloc, Xk.exw_size, World.size_setCell, World.size_drew, World.heap_drewN]); omega)) | ((with_reducible refine Below.alloc ?_ ?_ _); rotate_left; exact (by (try simp only [World.size_alloc, Xk.exw_size, World.size_setCell, World.size_drew, World.heap_drewN]); omega)) | ((with_reducible refine Xk.below_exw ?_ ?_ _); rotate_left; exact (by (try simp only [World.size_alloc, Xk.exw_size, World.size_setCell, World.size_drew, World.heap_drewN]); omega)) | (with_reducible refine Below.drew ?_)))).mono ?_); exact fun e w' h => h))))); (go_simp; refine hK _ ?_; clear hK K)))
                  refine Xk.rel_nil (fun p _ => ?_)
                  go_wp2
                  go_roundw
                  case rel => exact ⟨q + 1, by omega, by go_num, (by repeat (first | with_reducible exact HB.out | with_reducible exact Below.refl _ _ | ((with_reducible refine Below.setCell ?_ ?_ _); rotate_left; exact (by (try simp only [World.size_alloc, Xk.exw_size, World.size_setCell, World.size_drew, World.heap_drewN]); omega)) | ((with_reducible refine Below.alloc ?_ ?_ _); rotate_left; exact (by (try simp only [World.size_alloc, Xk.exw_size, World.size_setCell, World.size_drew, World.heap_drewN]); omega)) | ((with_reducible refine Xk.below_exw ?_ ?_ _); rotate_left; exact (by (try simp only [World.size_alloc, Xk.exw_size, World.size_setCell, World.size_drew, World.heap_drewN]); omega)) | (with_reducible refine Below.drew ?_)))⟩
                  case measure => simp [intOf]; omega
                · obtain rfl : q = a + b := by omega
                  have hqb : ¬ ((a + b : Nat) : Int) < (a : Int) + (b : Int) := by omega
                  have HTf := Lib.hid (T8.out.ext hbw)
                  have hsz := hbw.size
                  clear hbw
                  go_wp2
                  refine Xk.wp_region_rel' 12 [] trivial (by kernel_rfl) (by kernel_rfl) ?_
                  simp only [List.take_succ_cons, List.take_zero, List.drop_succ_cons, List.drop_zero]
                  repeat (first
                    | (refine Xk.rel_det (Xk.wanted_none (by rfl)) (by rfl) (fun K hK => ?_); apply Exists.intro; refine ⟨fun p hp => ?_, ?_⟩; (go_simp; first | exact ⟨rfl, rfl⟩ | ((try refine ⟨by kernel_rfl, ?_⟩); (fail))); (go_simp; refine hK _ ?_; clear hK K))
                    | (refine Xk.rel_skip (by rfl) (fun K hK => ?_); go_simp; refine hK _ ?_; clear hK K)
                    | (refine Xk.rel_det (by rfl) (by rfl) (fun K hK => ?_); apply Exists.intro; refine ⟨fun p hp => ?_, ?_⟩; (go_simp; first | exact ⟨rfl, rfl⟩ | ((try refine ⟨by kernel_rfl, ?_⟩); (fail))); (go_simp; refine hK _ ?_; clear hK K)))
                  refine Xk.rel_nil (fun p _ => ?_)
                  go_wp2
                  go_roundw
                  case rel => exact .inr ⟨by go_num, HTf.out.ext (by repeat (first | with_reducible exact Below.refl _ _ | ((with_reducible refine Below.setCell ?_ ?_ _); rotate_left; exact (by (try simp only [World.size_alloc, Xk.exw_size, World.size_setCell, World.size_drew, World.heap_drewN]); omega)) | ((with_reducible refine Below.alloc ?_ ?_ _); rotate_left; exact (by (try simp only [World.size_alloc, Xk.exw_size, World.size_setCell, World.size_drew, World.heap_drewN]); omega)) | ((with_reducible refine Xk.below_exw ?_ ?_ _); rotate_left; exact (by (try simp only [World.size_alloc, Xk.exw_size, World.size_setCell, World.size_drew, World.heap_drewN]); omega)) | (with_reducible refine Below.drew ?_)))⟩
                  case measure => simp [intOf]; omega
          · have HTl := Lib.hid h
            have hnl : ¬ (a : Int) + (b : Int) < (a : Int) + (b : Int) := by omega
            clear h
            go_wp2
            go_roundw
            case rel => exact .inr ⟨by go_num, HTl.out⟩
            case measure => simp [intOf]
    · have HTl := Lib.hid htl
      clear htl
      cases hS : toldOf a b v with
      | none =>
        rw [hS] at HTl
        have hq := HTl.out.2
        have lq := World.block_lt_of_cell? _ _ hq
        have HTb := Lib.hid HTl.out.1
        clear HTl
        go_wp2
        go_ret
        exact ⟨HTb.out, rfl⟩
      | some s =>
        rw [hS] at HTl
        obtain ⟨pz, cz, hq, hs⟩ := HTl.out.2
        have lq := World.block_lt_of_cell? _ _ hq
        have HTb := Lib.hid HTl.out.1
        have HSs := Lib.hid hs
        clear HTl hs
        go_wp2
        go_ret
        exact ⟨HTb.out, pz, ⟨cz, rfl⟩, HSs.out⟩
end Go.Proofs.YtmoippbmnanajaaGreatDoor
namespace Go.Proofs.YtmoippbmnanajaaGreatDoor
open Go.RowKit
/-- What Diff hands back. -/
def DiffOut (S : Option (List UInt8)) (v : Value) (w : World) : Prop := match S with
  | none => v = .slice none 0 0
  | some s => ∃ pz cz, v = .slice (some ⟨pz, 0, none⟩) 1 cz ∧ w.cell? ⟨pz, 0, none⟩ = some (.string ⟨s.toArray⟩)
theorem DiffOut.ext (S : Option (List UInt8)) (v : Value) (w w' : World) (hx : Xk.Ext w w') (h : DiffOut S v w) : DiffOut S v w' := by
  cases S with
  | none => exact h
  | some s =>
    obtain ⟨pz, cz, e, hc⟩ := h
    exact ⟨pz, cz, e, Xk.ext_cell hx hc⟩
theorem diff_out (w0 : World) (gx cx gy cy : Nat) (vx vy : Value) (a b : Nat) (v : Int) (w : World) (hE : Env w0) (hw : Xk.Ext w0 w) (hx : One w0 gx cx vx a (numRow v)) (hy : One w0 gy cy vy b (numRow v)) (ha : a ≤ 19) (hb : b ≤ 19)
    (h0 : -9223372036854775808 ≤ v) (h1 : v ≤ 9223372036854775807) :
    Calls Tryz.prog 18 #[.agg #[.slice (some ⟨gx, 0, none⟩) 1 cx], .agg #[.slice (some ⟨gy, 0, none⟩) 1 cy]] w (Xk.callPost w (DiffOut (toldOf a b v))) :=
  (diff_any w0 gx cx gy cy vx vy a b v w hE hw hx hy ha hb h0 h1).mono fun e w' ⟨h1, h2⟩ => by
    unfold Xk.callPost DiffOut
    cases hS : toldOf a b v with
    | none => rw [hS] at h2; exact ⟨_, h2, h1, rfl⟩
    | some s => rw [hS] at h2; obtain ⟨pz, cz, he, hc⟩ := h2; exact ⟨_, he, h1, pz, cz, rfl, hc⟩
abbrev K1 (g : Nat) : Xe.Specs := [(g, fun _ => True)]
theorem k1_refl (g : Nat) (w : World) : Xe.ES (K1 g) w w := (Xe.pre_ES _).refl w
theorem k1_ne {g b : Nat} (h : b ≠ g) : ∀ k ∈ K1 g, k.1 ≠ b := fun k hk => by
  simp only [List.mem_cons, List.not_mem_nil, or_false] at hk
  subst hk; exact Ne.symm h
theorem k1_set {g : Nat} {w0 w : World} (h : Xe.ES (K1 g) w0 w) (o : Nat) (u : Value) : Xe.ES (K1 g) w0 (w.setCell ⟨g, o, none⟩ u) := by
  obtain ⟨h1, h2, h3, h4, h5⟩ := h
  refine ⟨h1, h2, h3, by rw [World.size_setCell]; exact h4, fun b hb => ?_⟩
  by_cases hg : b = g
  · exact .inr ⟨(g, fun _ => True), by simp, hg.symm, trivial⟩
  · rw [heap_setCell_other w ⟨g, o, none⟩ b u (fun e => hg (by simpa using e))]
    exact h5 b hb
theorem k1_ext {g : Nat} {w0 w w' : World} (h : Xe.ES (K1 g) w0 w) (hx : Xk.Ext w w') : Xe.ES (K1 g) w0 w' := (Xe.pre_ES _).trans h ((Xe.pre_ES _).ext hx)
/-- .. where only blocks beyond turned. -/
theorem k1_beyond {g : Nat} {ks : Xe.Specs} {w0 w w' : World} (h : Xe.ES (K1 g) w0 w) (hs : Xe.ES ks w w') (hk : ∀ k ∈ ks, w0.heap.size ≤ k.1) : Xe.ES (K1 g) w0 w' := by
  obtain ⟨h1, h2, h3, h4, h5⟩ := h
  obtain ⟨g1, g2, g3, g4, g5⟩ := hs
  refine ⟨g1.trans h1, g2.trans h2, g3.trans h3, Nat.le_trans h4 g4, fun b hb => ?_⟩
  have e : w'.heap[b]? = w.heap[b]? := by
    rcases g5 b (Nat.lt_of_lt_of_le hb h4) with e | ⟨k, hk', e, -⟩
    · exact e
    · have := hk k hk'; omega
  rw [e]
  exact h5 b hb
theorem own_same {w w' : World} {base : Nat} {e : TypeId} {sz g n cap : Nat} {xs : List Value} (h : w.ownsRow base e sz (.slice (some ⟨g, 0, none⟩) n cap) n xs) (hb : w'.heap[g]? = w.heap[g]?) : w'.ownsRow base e sz (.slice (some ⟨g, 0, none⟩) n cap) n xs := by
  obtain ⟨h1, h2⟩ := h
  refine ⟨h1, ?_⟩
  rcases h2 with h2 | ⟨g', cap', cur, hv, hb', hg, r⟩
  · exact .inl h2
  · cases hv
    exact .inr ⟨_, _, cur, rfl, hb', by rw [hb]; exact hg, r⟩
theorem rows0_of_own {w : World} {B n : Nat} {vl u : Value} {l : List V} (h : w.ownsRow B 37 1 vl n (List.replicate n u)) (hu : RowAt w u l) : Rows0 w w vl n l := by
  rcases h.2 with ⟨rfl, rfl⟩ | ⟨g, cap, cur, rfl, hb, hg, hnc, r⟩
  · exact ⟨none, 0, rfl, Nat.le_refl _, fun j hj => by omega⟩
  · exact ⟨_, cap, rfl, hnc, fun j hj => ⟨g, 0, u, rfl, by have h2 := h.cells rfl j u (by simp [hj]); rw [Xk.addr_add] at h2; exact h2, hu⟩⟩
theorem row_num {w : World} {g : Nat} {v : Int} (h : w.heap[g]? = some (.cells #[.int .i64 2, .int .i64 v, .string ⟨#[]⟩] 36)) : RowAt w (.slice (some ⟨g, 0, none⟩) 1 1) (numRow v) := ⟨_, 1, rfl, fun j x hj => by
  match j, hj with
  | 0, hj =>
    simp [numRow] at hj
    subst hj
    exact ⟨g, 0, rfl, by simp [World.cell?, h], by simp [World.cell?, h], by simp [World.cell?, h], Nat.zero_le _⟩
  | j + 1, hj => simp [numRow] at hj⟩
theorem Tryz.infoRows : (Tryz.prog.info? 23).map (fun i => (i.zero, i.size, i.bytes)) = some (some (.slice none 0 0), 1, 24) := by kernel_rfl
set_option maxRecDepth 100000 in
set_option maxHeartbeats 8000000 in
theorem moves_any (nm mm : Nat) (v : Int) (w : World) (hE : EnvR w) (hv0 : -2147483648 ≤ v) (hv1 : v ≤ 2147483647) :
    Calls Tryz.prog 7 #[.int .u8 nm, .int .u8 mm, .int .i32 v] w fun e w' => e = .returned (.bool true) ∧ Below w.heap.size w w' := by
  have HKn := Lib.hid fun W (hx : Xk.Ext w W) => knownR_any W (hE.ext hx)
  have HE := Lib.hid hE
  obtain ⟨a, ha⟩ : ∃ a : Nat, (nm : Int) % 20 = (a : Int) := ⟨nm % 20, by omega⟩
  obtain ⟨b, hb⟩ : ∃ b : Nat, (mm : Int) % 20 = (b : Int) := ⟨mm % 20, by omega⟩
  have ha19 : a ≤ 19 := by omega
  have hb19 : b ≤ 19 := by omega
  have hwr : IntKind.i64.wrap v = v := IntWalk.i64_in _ (by omega)
  obtain ⟨i0, hi, hz0, hz1, hz2⟩ := info_parts Tryz.infoRows
  have Hi := Lib.hid hi
  have Hz0 := Lib.hid hz0
  have Hz1 := Lib.hid hz1
  have Hz2 := Lib.hid hz2
  clear hi hz0 hz1 hz2 hE
  go_enter Tryz.func7, Tryz.ntmps7
  go_wp2_with (first
    | ((go_at_call 8; (with_reducible refine (HKn.out _ (by repeat (first | with_reducible exact Below.refl _ _ | ((with_reducible refine Below.setCell ?_ ?_ _); rotate_left; exact (by (try simp only [World.size_alloc, Xk.exw_size, World.size_setCell, World.size_drew, World.heap_drewN]); omega)) | ((with_reducible refine Below.alloc ?_ ?_ _); rotate_left; exact (by (try simp only [World.size_alloc, Xk.exw_size, World.size_setCell, World.size_drew, World.heap_drewN]); omega)) | ((with_reducible refine Xk.below_exw ?_ ?_ _); rotate_left; exact (by (try simp only [World.size_alloc, Xk.exw_size, World.size_setCell, World.size_drew, World.heap_drewN]); omega)) | (with_reducible refine Below.drew ?_)))).mono ?_); rintro e w' ⟨rfl, hb⟩; obtain ⟨p, rfl⟩ := Xk.exw_of hb; clear hb); have HB1 : Hid (Xk.Ext w (Xk.exw w p)) := Lib.hid (Xk.ext_exw _ _); generalize Xk.exw w p = W1 at HB1 ⊢)
    | (at_builtin; refine Xo.wpList_appb (W1.heap.size + 2) rfl _ _ 42 rfl 23 i0 _ 1 24 Tryz.underlying42 Hi.out Hz0.out Hz1.out Hz2.out rfl (by decide) (.slice none 0 0) 0 [] rfl (World.ownsRow_nil _ _ _ _) (W1.heap.size + 1 + 1) 0 1 1 [.slice none 0 0] rfl (by decide) rfl (Xo.cells1 (by simp)) (Xo.one1 rfl) (by omega) (by simp) ?_; intro v' w1 ho' hg' hk'; obtain ⟨gx, cx, rfl⟩ := own_form ho' (by omega); have hxe := Xk.Ext.trans (ext_alloc ((W1.alloc (.cells #[.slice none 0 0] 44)).alloc (.cells #[.slice none 0 0] 44)) (.cells #[.slice none 0 0] 23)) (below_grown hg' (Nat.le_refl _)); have xb := (hxe.block W1.heap.size (by simp; omega)).trans (heap_alloc2_old W1 _ _); have yb := (hxe.block (W1.heap.size + 1) (by simp)).trans (heap_alloc2_new W1 _ _); have HO1 := Lib.hid ho'; have HXE := Lib.hid (Xk.Ext.trans (Xk.Ext.trans (ext_alloc W1 _) (ext_alloc _ _)) hxe); have XB1 := Lib.hid xb; have YB1 := Lib.hid yb; have xc : w1.cell? ⟨W1.heap.size, 0, none⟩ = some (.slice none 0 0) := (by simp [World.cell?, xb]); have yc : w1.cell? ⟨W1.heap.size + 1, 0, none⟩ = some (.slice none 0 0) := (by simp [World.cell?, yb]); have xf := frozen_of_row w1 W1.heap.size 0 _ _ xb; have lx := (Array.getElem?_eq_some_iff.1 xb).1; have ly := (Array.getElem?_eq_some_iff.1 yb).1; have lgx := (ho'.lt gx rfl).1; clear ho' hg' hk' hxe xb yb)
    | (at_builtin; refine Xo.wpList_appb w1.heap.size rfl _ _ 42 rfl 23 i0 _ 1 24 Tryz.underlying42 Hi.out Hz0.out Hz1.out Hz2.out rfl (by decide) (.slice none 0 0) 0 [] rfl (World.ownsRow_nil _ _ _ _) w1.heap.size 0 1 1 [.slice none 0 0] rfl (by decide) rfl (Xo.cells1 (by simp)) (Xo.one1 rfl) (by omega) (by simp) ?_; intro v' w2 ho' hg' hk'; obtain ⟨gy, cy, rfl⟩ := own_form ho' (by omega); have hx2 := Xk.Ext.trans (ext_alloc (w1.setCell ⟨W1.heap.size, 0, none⟩ (.slice (some ⟨gx, 0, none⟩) 1 cx)) (.cells #[.slice none 0 0] 23)) (below_grown hg' (Nat.le_refl _)); have yb := (hx2.block (W1.heap.size + 1) (by simp; omega)).trans ((heap_setCell_other w1 ⟨W1.heap.size, 0, none⟩ (W1.heap.size + 1) _ (fun e => by simp at e)).trans YB1.out); have xb := (hx2.block W1.heap.size (by simp; omega)).trans (heap_setCell_same w1 W1.heap.size 0 _ _ _ XB1.out); have OX2 := Lib.hid (Xo.own_ext (Xo.own_setCell HO1.out (b := W1.heap.size) (o := 0) (by omega) (.slice (some ⟨gx, 0, none⟩) 1 cx)) hx2); have XB2 := Lib.hid xb; have YB2 := Lib.hid yb; have HX2 := Lib.hid hx2; have yc2 : w2.cell? ⟨W1.heap.size + 1, 0, none⟩ = some (.slice none 0 0) := (by simp [World.cell?, yb]); have yf2 := frozen_of_row w2 (W1.heap.size + 1) 0 _ _ yb; have ly2 := (Array.getElem?_eq_some_iff.1 yb).1; have lgy := (ho'.lt gy rfl).1; have HO2 := Lib.hid ho'; have HS2 := Lib.hid hx2.size; clear ho' hg' hk' xb yb hx2))
  obtain ⟨Wd, hWd⟩ : ∃ Wd, Wd = (w2.setCell ⟨W1.heap.size + 1, 0, none⟩ (.slice (some ⟨gy, 0, none⟩) 1 cy)).alloc (.cells #[.int .i64 2, .int .i64 v, .string ⟨#[]⟩] 36) := ⟨_, rfl⟩
  have hsw : Wd.heap.size = w2.heap.size + 1 := by rw [hWd]; simp
  have HXd : Hid (Wd.heap[W1.heap.size]? = some (.cells #[.slice (some ⟨gx, 0, none⟩) 1 cx] 44)) := Lib.hid (by
    rw [hWd, heap_alloc_old _ _ (by simp; omega), heap_setCell_other w2 ⟨W1.heap.size + 1, 0, none⟩ W1.heap.size _ (fun e => by simp at e), XB2.out]; rfl)
  have HYd : Hid (Wd.heap[W1.heap.size + 1]? = some (.cells #[.slice (some ⟨gy, 0, none⟩) 1 cy] 44)) := Lib.hid (by
    rw [hWd, heap_alloc_old _ _ (by simp; omega)]
    exact heap_setCell_same w2 (W1.heap.size + 1) 0 _ _ _ YB2.out)
  have HBd : Hid (Wd.heap[w2.heap.size]? = some (.cells #[.int .i64 2, .int .i64 v, .string ⟨#[]⟩] 36)) := Lib.hid (by
    have h := heap_alloc_new (w2.setCell ⟨W1.heap.size + 1, 0, none⟩ (.slice (some ⟨gy, 0, none⟩) 1 cy)) (.cells #[.int .i64 2, .int .i64 v, .string ⟨#[]⟩] 36)
    rw [World.size_setCell] at h
    rw [hWd]; exact h)
  have HOxd : Hid (Wd.ownsRow (W1.heap.size + 2) 23 1 (.slice (some ⟨gx, 0, none⟩) 1 cx) 1 [.slice none 0 0]) := Lib.hid (by
    rw [hWd]; exact Xo.own_ext (Xo.own_setCell OX2.out (b := W1.heap.size + 1) (o := 0) (by omega) _) (ext_alloc _ _))
  have HOyd : Hid (Wd.ownsRow w1.heap.size 23 1 (.slice (some ⟨gy, 0, none⟩) 1 cy) 1 [.slice none 0 0]) := Lib.hid (by
    rw [hWd]; exact Xo.own_ext (Xo.own_setCell HO2.out (b := W1.heap.size + 1) (o := 0) (by omega) _) (ext_alloc _ _))
  have HWb : Hid (Below w.heap.size w Wd) := Lib.hid (by
    have hs1 := HB1.out.size
    have h1 : Below w.heap.size w w1 := Xk.Ext.trans HB1.out HXE.out
    have h2 : Below w.heap.size w (w1.setCell ⟨W1.heap.size, 0, none⟩ (.slice (some ⟨gx, 0, none⟩) 1 cx)) := h1.setCell (p := ⟨W1.heap.size, 0, none⟩) hs1 _
    have h3 : Below w.heap.size w w2 := h2.trans (HX2.out.mono h2.size)
    have h4 := h3.setCell (p := ⟨W1.heap.size + 1, 0, none⟩) (Nat.le_succ_of_le hs1) (.slice (some ⟨gy, 0, none⟩) 1 cy)
    rw [hWd]
    exact h4.alloc h4.size _)
  have hgx1 : gx < w1.heap.size := (HO1.out.lt gx rfl).2
  rw [← hWd]
  have HWd := Lib.hid hWd
  clear hWd Hi Hz0 Hz1 Hz2 i0
  obtain ⟨i0, hi, hz0, hz1, hz2⟩ := info_parts Tryz.infoRow
  have Hi := Lib.hid hi
  have Hz0 := Lib.hid hz0
  have Hz1 := Lib.hid hz1
  have Hz2 := Lib.hid hz2
  clear hi hz0 hz1 hz2 xc yc xf yc2 yf2
  go_loopw [12] (fun x wr => ∃ (q : Nat) (vl : Value), q ≤ a ∧ (q = 0 → vl = .slice none 0 0) ∧ x = .int .i64 q ∧ Xe.ES (K1 gx) Wd wr ∧ wr.ownsRow (W1.heap.size + 2) 23 1 (.slice (some ⟨gx, 0, none⟩) 1 cx) 1 [vl] ∧ wr.ownsRow Wd.heap.size 37 1 vl q (List.replicate q (.slice (some ⟨w2.heap.size, 0, none⟩) 1 1))) (fun x _ => a - (intOf x).toNat)
  case atStart => exact ⟨0, .slice none 0 0, Nat.zero_le _, fun _ => rfl, rfl, k1_refl _ _, HOxd.out, World.ownsRow_nil _ _ _ _⟩
  case round =>
    obtain ⟨q, vl, hq, hnone, rfl, hES, hO, hI⟩ := hrel
    have HES := Lib.hid hES
    have HO := Lib.hid hO
    have HI := Lib.hid hI
    have hsz := hES.2.2.2.1
    have hge := (hO.lt gx rfl).2
    by_cases hlt : q < a
    · have hql : (q : Int) < (a : Int) := by omega
      have HGE : Hid (Wd.heap.size ≤ wr.heap.size) := Lib.hid hsz
      have HG : Hid (gx < Wd.heap.size) := Lib.hid ((HOxd.out.lt gx rfl).2)
      have HX : Hid (wr.heap[W1.heap.size]? = some (.cells #[.slice (some ⟨gx, 0, none⟩) 1 cx] 44)) := Lib.hid ((hES.block (Array.getElem?_eq_some_iff.1 HXd.out).1 (fun k hk e => by simp only [List.mem_cons, List.not_mem_nil, or_false] at hk; subst hk; have := (HOxd.out.lt gx rfl).1; simp only at e; omega)).trans HXd.out)
      have HGC : Hid (wr.cell? ⟨gx, 0, none⟩ = some vl) := Lib.hid (by exact hO.cells rfl 0 vl rfl)
      have HV : Hid (∀ k, vl.ownBlock = some k → Wd.heap.size ≤ k ∧ k < wr.heap.size) := Lib.hid hI.lt
      obtain ⟨ks, hks⟩ : ∃ ks : Xe.Specs, ks = Xe.specOf 37 1 (q + 1) (List.replicate q (.slice (some ⟨w2.heap.size, 0, none⟩) 1 1) ++ [.slice (some ⟨w2.heap.size, 0, none⟩) 1 1]) vl := ⟨_, rfl⟩
      have HKS := Lib.hid hks
      have HSB : Hid (∀ k ∈ ks, Wd.heap.size ≤ k.1 ∧ k.1 < wr.heap.size) := Lib.hid fun k hk => by
        rw [hks] at hk
        exact HV.out _ (Xe.specOf_block hk)
      have HS6 : Hid (∀ k ∈ ks, vl.ownBlock = some k.1 → k ∈ Xe.specOf 37 1 (q + 1) (List.replicate q (.slice (some ⟨w2.heap.size, 0, none⟩) 1 1) ++ [.slice (some ⟨w2.heap.size, 0, none⟩) 1 1]) vl) := Lib.hid fun k hk _ => by rw [hks] at hk; exact hk
      have HF : Hid (∀ W, Xe.ES ks wr.drew W → W.cell? ⟨W1.heap.size, 0, none⟩ = some (.slice (some ⟨gx, 0, none⟩) 1 cx) ∧ W1.heap.size < W.heap.size ∧ W.cell? ⟨gx, 0, none⟩ = some vl ∧ gx < W.heap.size) := Lib.hid fun W hx => by
        have c1 : wr.drew.cell? ⟨W1.heap.size, 0, none⟩ = some (.slice (some ⟨gx, 0, none⟩) 1 cx) := by
          have h := HX.out
          have h2 : wr.cell? ⟨W1.heap.size, 0, none⟩ = some (.slice (some ⟨gx, 0, none⟩) 1 cx) := by simp [World.cell?, h]
          simpa using h2
        have c2 : wr.drew.cell? ⟨gx, 0, none⟩ = some vl := by simpa using HGC.out
        have lx := (Array.getElem?_eq_some_iff.1 HXd.out).1
        have d1 := hx.cell c1 (fun k hk e => by have := (HSB.out k hk).1; omega)
        have d2 := hx.cell c2 (fun k hk e => by have := (HSB.out k hk).1; have := HG.out; omega)
        exact ⟨d1, World.block_lt_of_cell? _ _ d1, d2, World.block_lt_of_cell? _ _ d2⟩
      clear hks hES hO hI hsz
      go_wp2
      have hrs : w2.heap.size < w2.heap.size + 1 := Nat.lt_succ_self _
      refine Xe.wp_region_rel (E := Xe.ES ks) (Xe.pre_ES _) 10 (Xe.O2 8 vl.ownBlock 99 none) (Xe.O2_lt (fun b hb => (HV.out b hb).2) (fun b hb => by cases hb)) (Xe.O2_ne (fun b hb e => by cases e)) [(7, Xe.newFact wr.heap.size (.slice (some ⟨w2.heap.size, 0, none⟩) 1 1)), (8, Xe.appFact Wd.heap.size 37 1 wr.heap.size vl q 1 (List.replicate q (.slice (some ⟨w2.heap.size, 0, none⟩) 1 1) ++ [.slice (some ⟨w2.heap.size, 0, none⟩) 1 1]))] (by kernel_rfl) (by kernel_rfl) (Xe.stable_es (by
              intro y hy
              simp only [List.mem_cons, List.not_mem_nil, or_false] at hy
              rcases hy with rfl | rfl
              · exact Xe.newFact.es fun k hk => (HSB.out k hk).2
              · exact Xe.appFact.es HS6.out fun k hk => (HSB.out k hk).2)) ?_
      simp only [List.take_succ_cons, List.take_zero, List.drop_succ_cons, List.drop_zero]
      repeat (first
        | (refine Xe.rel_det (Xe.pre_ES _) (Xk.wanted_none (by rfl)) (by rfl) (fun K hK => ?_); apply Exists.intro; refine ⟨fun W hx hp => ?_, ?_⟩; (obtain ⟨f1, f2, f3, f4⟩ := HF.out _ hx; go_simp; first | exact ⟨rfl, rfl⟩ | ((try refine ⟨by kernel_rfl, ?_⟩); (fail))); (go_simp; refine hK _ ?_; clear hK K))
        | (refine Xe.rel_skip (by rfl) (fun K hK => ?_); go_simp; refine hK _ ?_; clear hK K)
        | (refine Xe.rel_det (Xe.pre_ES _) (by rfl) (by rfl) (fun K hK => ?_); apply Exists.intro; refine ⟨fun W hx hp => ?_, ?_⟩; (obtain ⟨f1, f2, f3, f4⟩ := HF.out _ hx; go_simp; first | exact ⟨rfl, rfl⟩ | ((try refine ⟨by kernel_rfl, ?_⟩); (fail))); (go_simp; refine hK _ ?_; clear hK K)))
      (refine Xe.rel_make (Xe.pre_ES _) (by rfl) (by rfl) (fun W hx hp => ?_) (fun y K hK => ?_); (go_simp; exact Xe.new_one _ _ _ (by have := hx.2.2.2.1; simpa using this)); (go_simp; refine hK _ ?_; clear hK K))
      (refine Xe.rel_make (Xe.pre_ES _) (by rfl) (by rfl) (fun W hx hp => ?_) (fun z1 K hK => ?_); (obtain ⟨g, rfl, hg, hc⟩ := Xe.facts_head hp (by kernel_rfl); exact Xe.make_app _ _ _ _ 23 (by rfl) 37 i0 _ 1 24 Tryz.underlying23 Hi.out Hz0.out Hz1.out Hz2.out rfl (by decide) vl q (List.replicate q (.slice (some ⟨w2.heap.size, 0, none⟩) 1 1)) (by rfl) (hx.own (m := 1) (news := [.slice (some ⟨w2.heap.size, 0, none⟩) 1 1]) (Xo.own_drew HI.out) HS6.out ) ⟨g, 0, none⟩ 1 1 [.slice (some ⟨w2.heap.size, 0, none⟩) 1 1] (by rfl) (by decide) rfl (Xo.one_at hc) (Xo.one1 rfl) (by omega) (by have := HGE.out; have := hx.2.2.2.1; simp at this; omega) (by have := hx.2.2.2.1; simpa using this) (by rw [HKS.out]; exact fun k hk => hk) (by rfl)); (go_simp; refine hK _ ?_; clear hK K))
      repeat (first
        | (refine Xe.rel_det (Xe.pre_ES _) (Xk.wanted_none (by rfl)) (by rfl) (fun K hK => ?_); apply Exists.intro; refine ⟨fun W hx hp => ?_, ?_⟩; (obtain ⟨f1, f2, f3, f4⟩ := HF.out _ hx; go_simp; first | exact ⟨rfl, rfl⟩ | ((try refine ⟨by kernel_rfl, ?_⟩); (fail))); (go_simp; refine hK _ ?_; clear hK K))
        | (refine Xe.rel_skip (by rfl) (fun K hK => ?_); go_simp; refine hK _ ?_; clear hK K)
        | (refine Xe.rel_det (Xe.pre_ES _) (by rfl) (by rfl) (fun K hK => ?_); apply Exists.intro; refine ⟨fun W hx hp => ?_, ?_⟩; (obtain ⟨f1, f2, f3, f4⟩ := HF.out _ hx; go_simp; first | exact ⟨rfl, rfl⟩ | ((try refine ⟨by kernel_rfl, ?_⟩); (fail))); (go_simp; refine hK _ ?_; clear hK K)))
      refine Xe.rel_nil (fun W hx hp hg => ?_)
      simp only [Xk.factsAll] at hp
      obtain ⟨⟨p1, p2⟩, -, -⟩ := hp
      obtain ⟨zg, zc, rfl⟩ := own_form p1 (by omega)
      have hgd : gx < wr.drew.heap.size := by have := HG.out; have := HGE.out; simp; omega
      have ho2 : W.ownsRow (W1.heap.size + 2) 23 1 (.slice (some ⟨gx, 0, none⟩) 1 cx) 1 [vl] := own_same (Xo.own_drew HO.out) (hx.block hgd (fun k hk e => by have := (HSB.out k hk).1; have := HG.out; omega))
      have HO2' := Lib.hid (ho2.stored 0 (.slice (some ⟨zg, 0, none⟩) (q + 1) zc)).1
      have c2 : W.cell? ⟨gx, 0, none⟩ = some vl := ho2.cellAt 0 (by omega)
      have f2 := ho2.frozenAt 0
      have l2 := World.block_lt_of_cell? _ _ c2
      have zlt := (p1.lt zg rfl).1
      have HZ := Lib.hid (ownsRow_setCell_other p1 (a := ⟨gx, 0, none⟩) (by intro e; simp only [Value.ownBlock, Option.some.injEq] at e; have := HG.out; omega) (.slice (some ⟨zg, 0, none⟩) (q + 1) zc))
      have HES2 : Hid (Xe.ES (K1 gx) Wd (W.setCell ⟨gx, 0, none⟩ (.slice (some ⟨zg, 0, none⟩) (q + 1) zc))) := Lib.hid (k1_set (k1_beyond (w := wr.drew) (by have := HES.out; exact this) hx (fun k hk => (HSB.out k hk).1)) _ _)
      clear p1 p2 hg hx ho2 zlt hrs
      go_wp2
      go_roundw
      case rel => exact ⟨q + 1, _, by omega, fun h => absurd h (by omega), by go_num, HES2.out, HO2'.out, by rw [List.replicate_succ']; exact HZ.out⟩
      case measure => simp [intOf]; omega
    · have hqe : a = q := by omega
      subst hqe
      have hnl : ¬ (a : Int) < (a : Int) := by omega
      have HN := Lib.hid hnone
      clear hES hO hI hsz hge hnone hq hlt
      go_wp2
      obtain ⟨We, rfl⟩ : ∃ We, We = wr := ⟨wr, rfl⟩
      have hse := HES.out.2.2.2.1
      have hgy1 : w1.heap.size ≤ gy ∧ gy < Wd.heap.size := HOyd.out.lt gy rfl
      have HXe : Hid (We.heap[W1.heap.size]? = some (.cells #[.slice (some ⟨gx, 0, none⟩) 1 cx] 44)) := Lib.hid ((HES.out.block (by omega) (k1_ne (by omega))).trans HXd.out)
      have HYe : Hid (We.heap[W1.heap.size + 1]? = some (.cells #[.slice (some ⟨gy, 0, none⟩) 1 cy] 44)) := Lib.hid ((HES.out.block (by omega) (k1_ne (by omega))).trans HYd.out)
      have HBe : Hid (We.heap[w2.heap.size]? = some (.cells #[.int .i64 2, .int .i64 v, .string ⟨#[]⟩] 36)) := Lib.hid ((HES.out.block (by omega) (k1_ne (by omega))).trans HBd.out)
      have HOye : Hid (We.ownsRow w1.heap.size 23 1 (.slice (some ⟨gy, 0, none⟩) 1 cy) 1 [.slice none 0 0]) := Lib.hid (own_same HOyd.out (HES.out.block hgy1.2 (k1_ne (by omega))))
      have HBWe : Hid (Below w.heap.size w We) := Lib.hid (Xe.ES.below HWb.out HES.out (fun k hk => by simp only [List.mem_cons, List.not_mem_nil, or_false] at hk; subst hk; have := HB1.out.size; simp only; omega) HWb.out.size)
      obtain ⟨vx, rfl⟩ : ∃ vx, vx = vl := ⟨vl, rfl⟩
      have HOxe := HO
      have HIxe := HI
      have HNx := HN
      have HES1 := HES
      clear HO HI HN HES
      go_loopw [13] (fun x wr => ∃ (q : Nat) (vl : Value), q ≤ b ∧ (q = 0 → vl = .slice none 0 0) ∧ x = .int .i64 q ∧ Xe.ES (K1 gy) We wr ∧ wr.ownsRow (w1.heap.size) 23 1 (.slice (some ⟨gy, 0, none⟩) 1 cy) 1 [vl] ∧ wr.ownsRow We.heap.size 37 1 vl q (List.replicate q (.slice (some ⟨w2.heap.size, 0, none⟩) 1 1))) (fun x _ => b - (intOf x).toNat)
      case atStart => exact ⟨0, .slice none 0 0, Nat.zero_le _, fun _ => rfl, rfl, k1_refl _ _, HOye.out, World.ownsRow_nil _ _ _ _⟩
      case round =>
        obtain ⟨q, vl, hq, hnone, rfl, hES, hO, hI⟩ := hrel
        have HES := Lib.hid hES
        have HO := Lib.hid hO
        have HI := Lib.hid hI
        have hsz := hES.2.2.2.1
        have hge := (hO.lt gy rfl).2
        by_cases hlt : q < b
        · have hql : (q : Int) < (b : Int) := by omega
          have HGE : Hid (We.heap.size ≤ wr.heap.size) := Lib.hid hsz
          have HG : Hid (gy < We.heap.size) := Lib.hid ((HOye.out.lt gy rfl).2)
          have HX : Hid (wr.heap[W1.heap.size + 1]? = some (.cells #[.slice (some ⟨gy, 0, none⟩) 1 cy] 44)) := Lib.hid ((hES.block (Array.getElem?_eq_some_iff.1 HYe.out).1 (fun k hk e => by simp only [List.mem_cons, List.not_mem_nil, or_false] at hk; subst hk; have := (HOye.out.lt gy rfl).1; simp only at e; omega)).trans HYe.out)
          have HGC : Hid (wr.cell? ⟨gy, 0, none⟩ = some vl) := Lib.hid (by exact hO.cells rfl 0 vl rfl)
          have HV : Hid (∀ k, vl.ownBlock = some k → We.heap.size ≤ k ∧ k < wr.heap.size) := Lib.hid hI.lt
          obtain ⟨ks, hks⟩ : ∃ ks : Xe.Specs, ks = Xe.specOf 37 1 (q + 1) (List.replicate q (.slice (some ⟨w2.heap.size, 0, none⟩) 1 1) ++ [.slice (some ⟨w2.heap.size, 0, none⟩) 1 1]) vl := ⟨_, rfl⟩
          have HKS := Lib.hid hks
          have HSB : Hid (∀ k ∈ ks, We.heap.size ≤ k.1 ∧ k.1 < wr.heap.size) := Lib.hid fun k hk => by
            rw [hks] at hk
            exact HV.out _ (Xe.specOf_block hk)
          have HS6 : Hid (∀ k ∈ ks, vl.ownBlock = some k.1 → k ∈ Xe.specOf 37 1 (q + 1) (List.replicate q (.slice (some ⟨w2.heap.size, 0, none⟩) 1 1) ++ [.slice (some ⟨w2.heap.size, 0, none⟩) 1 1]) vl) := Lib.hid fun k hk _ => by rw [hks] at hk; exact hk
          have HF : Hid (∀ W, Xe.ES ks wr.drew W → W.cell? ⟨W1.heap.size + 1, 0, none⟩ = some (.slice (some ⟨gy, 0, none⟩) 1 cy) ∧ W1.heap.size + 1 < W.heap.size ∧ W.cell? ⟨gy, 0, none⟩ = some vl ∧ gy < W.heap.size) := Lib.hid fun W hx => by
            have c1 : wr.drew.cell? ⟨W1.heap.size + 1, 0, none⟩ = some (.slice (some ⟨gy, 0, none⟩) 1 cy) := by
              have h := HX.out
              have h2 : wr.cell? ⟨W1.heap.size + 1, 0, none⟩ = some (.slice (some ⟨gy, 0, none⟩) 1 cy) := by simp [World.cell?, h]
              simpa using h2
            have c2 : wr.drew.cell? ⟨gy, 0, none⟩ = some vl := by simpa using HGC.out
            have lx := (Array.getElem?_eq_some_iff.1 HYe.out).1
            have d1 := hx.cell c1 (fun k hk e => by have := (HSB.out k hk).1; omega)
            have d2 := hx.cell c2 (fun k hk e => by have := (HSB.out k hk).1; have := HG.out; omega)
            exact ⟨d1, World.block_lt_of_cell? _ _ d1, d2, World.block_lt_of_cell? _ _ d2⟩
          clear hks hES hO hI hsz
          go_wp2
          have hrs : w2.heap.size < w2.heap.size + 1 := Nat.lt_succ_self _
          refine Xe.wp_region_rel (E := Xe.ES ks) (Xe.pre_ES _) 10 (Xe.O2 8 vl.ownBlock 99 none) (Xe.O2_lt (fun b hb => (HV.out b hb).2) (fun b hb => by cases hb)) (Xe.O2_ne (fun b hb e => by cases e)) [(7, Xe.newFact wr.heap.size (.slice (some ⟨w2.heap.size, 0, none⟩) 1 1)), (8, Xe.appFact We.heap.size 37 1 wr.heap.size vl q 1 (List.replicate q (.slice (some ⟨w2.heap.size, 0, none⟩) 1 1) ++ [.slice (some ⟨w2.heap.size, 0, none⟩) 1 1]))] (by kernel_rfl) (by kernel_rfl) (Xe.stable_es (by
                      intro y hy
                      simp only [List.mem_cons, List.not_mem_nil, or_false] at hy
                      rcases hy with rfl | rfl
                      · exact Xe.newFact.es fun k hk => (HSB.out k hk).2
                      · exact Xe.appFact.es HS6.out fun k hk => (HSB.out k hk).2)) ?_
          simp only [List.take_succ_cons, List.take_zero, List.drop_succ_cons, List.drop_zero]
          repeat (first
            | (refine Xe.rel_det (Xe.pre_ES _) (Xk.wanted_none (by rfl)) (by rfl) (fun K hK => ?_); apply Exists.intro; refine ⟨fun W hx hp => ?_, ?_⟩; (obtain ⟨f1, f2, f3, f4⟩ := HF.out _ hx; go_simp; first | exact ⟨rfl, rfl⟩ | ((try refine ⟨by kernel_rfl, ?_⟩); (fail))); (go_simp; refine hK _ ?_; clear hK K))
            | (refine Xe.rel_skip (by rfl) (fun K hK => ?_); go_simp; refine hK _ ?_; clear hK K)
            | (refine Xe.rel_det (Xe.pre_ES _) (by rfl) (by rfl) (fun K hK => ?_); apply Exists.intro; refine ⟨fun W hx hp => ?_, ?_⟩; (obtain ⟨f1, f2, f3, f4⟩ := HF.out _ hx; go_simp; first | exact ⟨rfl, rfl⟩ | ((try refine ⟨by kernel_rfl, ?_⟩); (fail))); (go_simp; refine hK _ ?_; clear hK K)))
          (refine Xe.rel_make (Xe.pre_ES _) (by rfl) (by rfl) (fun W hx hp => ?_) (fun y K hK => ?_); (go_simp; exact Xe.new_one _ _ _ (by have := hx.2.2.2.1; simpa using this)); (go_simp; refine hK _ ?_; clear hK K))
          (refine Xe.rel_make (Xe.pre_ES _) (by rfl) (by rfl) (fun W hx hp => ?_) (fun z1 K hK => ?_); (obtain ⟨g, rfl, hg, hc⟩ := Xe.facts_head hp (by kernel_rfl); exact Xe.make_app _ _ _ _ 23 (by rfl) 37 i0 _ 1 24 Tryz.underlying23 Hi.out Hz0.out Hz1.out Hz2.out rfl (by decide) vl q (List.replicate q (.slice (some ⟨w2.heap.size, 0, none⟩) 1 1)) (by rfl) (hx.own (m := 1) (news := [.slice (some ⟨w2.heap.size, 0, none⟩) 1 1]) (Xo.own_drew HI.out) HS6.out ) ⟨g, 0, none⟩ 1 1 [.slice (some ⟨w2.heap.size, 0, none⟩) 1 1] (by rfl) (by decide) rfl (Xo.one_at hc) (Xo.one1 rfl) (by omega) (by have := HGE.out; have := hx.2.2.2.1; simp at this; omega) (by have := hx.2.2.2.1; simpa using this) (by rw [HKS.out]; exact fun k hk => hk) (by rfl)); (go_simp; refine hK _ ?_; clear hK K))
          repeat (first
            | (refine Xe.rel_det (Xe.pre_ES _) (Xk.wanted_none (by rfl)) (by rfl) (fun K hK => ?_); apply Exists.intro; refine ⟨fun W hx hp => ?_, ?_⟩; (obtain ⟨f1, f2, f3, f4⟩ := HF.out _ hx; go_simp; first | exact ⟨rfl, rfl⟩ | ((try refine ⟨by kernel_rfl, ?_⟩); (fail))); (go_simp; refine hK _ ?_; clear hK K))
            | (refine Xe.rel_skip (by rfl) (fun K hK => ?_); go_simp; refine hK _ ?_; clear hK K)
            | (refine Xe.rel_det (Xe.pre_ES _) (by rfl) (by rfl) (fun K hK => ?_); apply Exists.intro; refine ⟨fun W hx hp => ?_, ?_⟩; (obtain ⟨f1, f2, f3, f4⟩ := HF.out _ hx; go_simp; first | exact ⟨rfl, rfl⟩ | ((try refine ⟨by kernel_rfl, ?_⟩); (fail))); (go_simp; refine hK _ ?_; clear hK K)))
          refine Xe.rel_nil (fun W hx hp hg => ?_)
          simp only [Xk.factsAll] at hp
          obtain ⟨⟨p1, p2⟩, -, -⟩ := hp
          obtain ⟨zg, zc, rfl⟩ := own_form p1 (by omega)
          have hgd : gy < wr.drew.heap.size := by have := HG.out; have := HGE.out; simp; omega
          have ho2 : W.ownsRow (w1.heap.size) 23 1 (.slice (some ⟨gy, 0, none⟩) 1 cy) 1 [vl] := own_same (Xo.own_drew HO.out) (hx.block hgd (fun k hk e => by have := (HSB.out k hk).1; have := HG.out; omega))
          have HO2' := Lib.hid (ho2.stored 0 (.slice (some ⟨zg, 0, none⟩) (q + 1) zc)).1
          have c2 : W.cell? ⟨gy, 0, none⟩ = some vl := ho2.cellAt 0 (by omega)
          have f2 := ho2.frozenAt 0
          have l2 := World.block_lt_of_cell? _ _ c2
          have zlt := (p1.lt zg rfl).1
          have HZ := Lib.hid (ownsRow_setCell_other p1 (a := ⟨gy, 0, none⟩) (by intro e; simp only [Value.ownBlock, Option.some.injEq] at e; have := HG.out; omega) (.slice (some ⟨zg, 0, none⟩) (q + 1) zc))
          have HES2 : Hid (Xe.ES (K1 gy) We (W.setCell ⟨gy, 0, none⟩ (.slice (some ⟨zg, 0, none⟩) (q + 1) zc))) := Lib.hid (k1_set (k1_beyond (w := wr.drew) (by have := HES.out; exact this) hx (fun k hk => (HSB.out k hk).1)) _ _)
          clear p1 p2 hg hx ho2 zlt hrs
          go_wp2
          go_roundw
          case rel => exact ⟨q + 1, _, by omega, fun h => absurd h (by omega), by go_num, HES2.out, HO2'.out, by rw [List.replicate_succ']; exact HZ.out⟩
          case measure => simp [intOf]; omega
        · have hqe : b = q := by omega
          subst hqe
          have hnl : ¬ (b : Int) < (b : Int) := by omega
          have HN := Lib.hid hnone
          clear hES hO hI hsz hge hnone hq hlt
          go_wp2
          obtain ⟨Wf, rfl⟩ : ∃ Wf, Wf = wr := ⟨wr, rfl⟩
          have hsf := HES.out.2.2.2.1
          have hbx : Wf.heap[W1.heap.size]? = some (.cells #[.slice (some ⟨gx, 0, none⟩) 1 cx] 44) := (HES.out.block (by omega) (k1_ne (by omega))).trans HXe.out
          have hby : Wf.heap[W1.heap.size + 1]? = some (.cells #[.slice (some ⟨gy, 0, none⟩) 1 cy] 44) := (HES.out.block (by omega) (k1_ne (by omega))).trans HYe.out
          have hbr : Wf.heap[w2.heap.size]? = some (.cells #[.int .i64 2, .int .i64 v, .string ⟨#[]⟩] 36) := (HES.out.block (by omega) (k1_ne (by have := (HO2.out.lt gy rfl).2; omega))).trans HBe.out
          have hox : Wf.ownsRow (W1.heap.size + 2) 23 1 (.slice (some ⟨gx, 0, none⟩) 1 cx) 1 [vx] := own_same HOxe.out (HES.out.block (by omega) (k1_ne (by omega)))
          have hix := Xe.ES.own (m := 0) (news := []) HES.out HIxe.out (fun k hk e => by
            simp only [List.mem_cons, List.not_mem_nil, or_false] at hk
            subst hk
            have := (HIxe.out.lt _ e).1
            simp only at this
            omega)
          have HBWf : Hid (Below w.heap.size w Wf) := Lib.hid (Xe.ES.below HBWe.out HES.out (fun k hk => by simp only [List.mem_cons, List.not_mem_nil, or_false] at hk; subst hk; have := HB1.out.size; simp only; omega) HBWe.out.size)
          have hOneX : One Wf gx cx vx a (numRow v) := ⟨hox.cells rfl 0 vx rfl, rows0_of_own hix (row_num hbr), HNx.out⟩
          have hOneY : One Wf gy cy vl b (numRow v) := ⟨HO.out.cells rfl 0 vl rfl, rows0_of_own HI.out (row_num hbr), HN.out⟩
          have HD1 := Lib.hid fun W (hx : Xk.Ext Wf W) => diff_out Wf gx cx gy cy vx vl a b v W (HE.out.ext HBWf.out).env hx hOneX hOneY ha19 hb19 (by omega) (by omega)
          have HD2 := Lib.hid fun W (hx : Xk.Ext Wf W) => diff_out Wf gy cy gx cx vl vx b a v W (HE.out.ext HBWf.out).env hx hOneY hOneX hb19 ha19 (by omega) (by omega)
          have cbx : Wf.cell? ⟨W1.heap.size, 0, none⟩ = some (.slice (some ⟨gx, 0, none⟩) 1 cx) := by simp [World.cell?, hbx]
          have cby : Wf.cell? ⟨W1.heap.size + 1, 0, none⟩ = some (.slice (some ⟨gy, 0, none⟩) 1 cy) := by simp [World.cell?, hby]
          have lbx : W1.heap.size < Wf.heap.size := by omega
          have lby : W1.heap.size + 1 < Wf.heap.size := by omega
          clear hbx hby hbr hox hix hOneX hOneY HI HO HN HES HIxe HNx HOxe HES1 HXe HYe HBe HOye
          refine Xk.wp_region_rel' 7 [(2, DiffOut (toldOf a b v)), (5, DiffOut (toldOf b a v))] ⟨DiffOut.ext _, DiffOut.ext _, trivial⟩ (by kernel_rfl) (by kernel_rfl) ?_
          simp only [List.take_succ_cons, List.take_zero, List.drop_succ_cons, List.drop_zero]
          repeat (first
            | (refine Xk.rel_det (Xk.wanted_none (by rfl)) (by rfl) (fun K hK => ?_); apply Exists.intro; refine ⟨fun p hp => ?_, ?_⟩; (go_simp; first | exact ⟨rfl, rfl⟩ | ((try refine ⟨by kernel_rfl, ?_⟩); (fail))); (go_simp; refine hK _ ?_; clear hK K))
            | (refine Xk.rel_skip (by rfl) (fun K hK => ?_); go_simp; refine hK _ ?_; clear hK K)
            | (refine Xk.rel_det (by rfl) (by rfl) (fun K hK => ?_); apply Exists.intro; refine ⟨fun p hp => ?_, ?_⟩; (go_simp; first | exact ⟨rfl, rfl⟩ | ((try refine ⟨by kernel_rfl, ?_⟩); (fail))); (go_simp; refine hK _ ?_; clear hK K)))
          refine Xk.rel_make (by rfl) (by rfl) (fun p hp => ?_) (fun x K hK => ?_)
          · go_simp
            go_at_call 18
            exact HD1.out _ (by first | exact Xk.ext_exw _ _ | (have := Xk.ext_exw Wf p; simpa using this))
          go_simp
          refine hK _ ?_
          clear hK K
          repeat (first
            | (refine Xk.rel_det (Xk.wanted_none (by rfl)) (by rfl) (fun K hK => ?_); apply Exists.intro; refine ⟨fun p hp => ?_, ?_⟩; (go_simp; first | exact ⟨rfl, rfl⟩ | ((try refine ⟨by kernel_rfl, ?_⟩); (fail))); (go_simp; refine hK _ ?_; clear hK K))
            | (refine Xk.rel_skip (by rfl) (fun K hK => ?_); go_simp; refine hK _ ?_; clear hK K)
            | (refine Xk.rel_det (by rfl) (by rfl) (fun K hK => ?_); apply Exists.intro; refine ⟨fun p hp => ?_, ?_⟩; (go_simp; first | exact ⟨rfl, rfl⟩ | ((try refine ⟨by kernel_rfl, ?_⟩); (fail))); (go_simp; refine hK _ ?_; clear hK K)))
          refine Xk.rel_make (by rfl) (by rfl) (fun p hp => ?_) (fun y K hK => ?_)
          · go_simp
            go_at_call 18
            exact HD2.out _ (by first | exact Xk.ext_exw _ _ | (have := Xk.ext_exw Wf p; simpa using this))
          go_simp
          refine hK _ ?_
          clear hK K
          repeat (first
            | (refine Xk.rel_det (Xk.wanted_none (by rfl)) (by rfl) (fun K hK => ?_); apply Exists.intro; refine ⟨fun p hp => ?_, ?_⟩; (go_simp; first | exact ⟨rfl, rfl⟩ | ((try refine ⟨by kernel_rfl, ?_⟩); (fail))); (go_simp; refine hK _ ?_; clear hK K))
            | (refine Xk.rel_skip (by rfl) (fun K hK => ?_); go_simp; refine hK _ ?_; clear hK K)
            | (refine Xk.rel_det (by rfl) (by rfl) (fun K hK => ?_); apply Exists.intro; refine ⟨fun p hp => ?_, ?_⟩; (go_simp; first | exact ⟨rfl, rfl⟩ | ((try refine ⟨by kernel_rfl, ?_⟩); (fail))); (go_simp; refine hK _ ?_; clear hK K)))
          refine Xk.rel_nil (fun p hp => ?_)
          simp only [Xk.factsAll] at hp
          obtain ⟨hp2, hp1, -⟩ := hp
          have hbg : Below w.heap.size w (Xk.exw Wf.drew p) := by
            rw [Xk.exw_drew]
            exact HBWf.out.trans ((Xk.ext_exw _ _).mono HBWf.out.size)
          generalize Xk.exw Wf.drew p = Wg at hp1 hp2 hbg ⊢
          have HBG := Lib.hid hbg
          clear hbg HD1 HD2 cbx cby lbx lby
          by_cases hab : a = b
          · rw [show toldOf a b v = none from by unfold toldOf; rw [if_pos hab]] at hp1
            rw [show toldOf b a v = none from by unfold toldOf; rw [if_pos hab.symm]] at hp2
            obtain rfl : x = .slice none 0 0 := hp1
            obtain rfl : y = .slice none 0 0 := hp2
            have habi : ((a : Int) == (b : Int)) = true := by simp [hab]
            clear hab
            go_wp2
            go_ret
            exact ⟨rfl, (by repeat (first | with_reducible exact HBG.out | with_reducible exact Below.refl _ _ | ((with_reducible refine Below.setCell ?_ ?_ _); rotate_left; exact (by (try simp only [World.size_alloc, Xk.exw_size, World.size_setCell, World.size_drew, World.heap_drewN]); omega)) | ((with_reducible refine Below.alloc ?_ ?_ _); rotate_left; exact (by (try simp only [World.size_alloc, Xk.exw_size, World.size_setCell, World.size_drew, World.heap_drewN]); omega)) | ((with_reducible refine Xk.below_exw ?_ ?_ _); rotate_left; exact (by (try simp only [World.size_alloc, Xk.exw_size, World.size_setCell, World.size_drew, World.heap_drewN]); omega)) | (with_reducible refine Below.drew ?_)))⟩
          · have habi : ((a : Int) == (b : Int)) = false := by simp; omega
            by_cases hlt : b < a
            · have hneg : (b : Int) - (a : Int) < 0 := by omega
              obtain ⟨k, hsub⟩ : ∃ k : Nat, (b : Int) - (a : Int) = -(k : Int) := ⟨((a : Int) - (b : Int)).toNat, by omega⟩
              have hk0 : 0 < k := by omega
              have hk1 : k ≤ 19 := by omega
              rw [show toldOf a b v = some (P25.told 45 (k : Int) v) from by unfold toldOf; rw [if_neg (by omega)]; first | (rw [if_pos (by omega), if_pos (by omega)]; congr 2 <;> omega) | (rw [if_neg (by omega), if_neg (by omega)]; congr 2 <;> omega)] at hp1
              rw [show toldOf b a v = some (P25.told 43 (k : Int) v) from by unfold toldOf; rw [if_neg (by omega)]; first | (rw [if_pos (by omega), if_pos (by omega)]; congr 2 <;> omega) | (rw [if_neg (by omega), if_neg (by omega)]; congr 2 <;> omega)] at hp2
              obtain ⟨px, czx, rfl, hcx⟩ := hp1
              obtain ⟨py, czy, rfl, hcy⟩ := hp2
              have lpx := World.block_lt_of_cell? _ _ hcx
              have lpy := World.block_lt_of_cell? _ _ hcy
              have HDk := Lib.hid fun W => digits_any (k : Int) (by omega) (by omega) W
              have HDv := Lib.hid fun W => digits_any v (by omega) (by omega) W
              have hlk := Lib.itoa_length_le (k : Int) (by omega) (by omega)
              have hlv := Lib.itoa_length_le v (by omega) (by omega)
              have HT1 : Hid (P25.told 45 (k : Int) v = [48, 32, 45, 32] ++ Lib.itoa (k : Int) ++ [32] ++ Lib.itoa v) := Lib.hid rfl
              have HT2 : Hid (P25.told 43 (k : Int) v = [48, 32, 43, 32] ++ Lib.itoa (k : Int) ++ [32] ++ Lib.itoa v) := Lib.hid rfl
              generalize P25.told 45 (k : Int) v = T1 at hcx HT1
              generalize P25.told 43 (k : Int) v = T2 at hcy HT2
              generalize Lib.itoa (k : Int) = td at HDk hlk HT1 HT2
              generalize Lib.itoa v = tv at HDv hlv HT1 HT2
              have E1 : Hid ((⟨T1.toArray⟩ : ByteArray) = ⟨#[48, 32]⟩ ++ ⟨#[45]⟩ ++ (⟨#[32]⟩ ++ ⟨td.toArray⟩ ++ ⟨#[32]⟩ ++ ⟨tv.toArray⟩)) := Lib.hid (by apply bytes_ext; rw [HT1.out]; simp)
              have E2 : Hid ((⟨T2.toArray⟩ : ByteArray) = ⟨#[48, 32]⟩ ++ ⟨#[43]⟩ ++ (⟨#[32]⟩ ++ ⟨td.toArray⟩ ++ ⟨#[32]⟩ ++ ⟨tv.toArray⟩)) := Lib.hid (by apply bytes_ext; rw [HT2.out]; simp)
              go_wp2_with (first | (go_at_call 17; (with_reducible refine (HDk.out _).mono ?_); rintro e w' ⟨rfl, hb⟩; obtain ⟨p, rfl⟩ := Xk.exw_of hb; clear hb) | (go_at_call 17; (with_reducible refine (HDv.out _).mono ?_); rintro e w' ⟨rfl, hb⟩; obtain ⟨p, rfl⟩ := Xk.exw_of hb; clear hb))
              all_goals first
                | (rename_i hT; exact absurd (by rw [← E1.out]; simp) hT)
                | (rw [← E2.out]; go_ret; refine ⟨by simp, HBG.out.trans ((Xk.ext_exw _ _).mono HBG.out.size)⟩)
            · have hneg : ¬ (b : Int) - (a : Int) < 0 := by omega
              obtain ⟨k, hsub⟩ : ∃ k : Nat, (b : Int) - (a : Int) = (k : Int) := ⟨((b : Int) - (a : Int)).toNat, by omega⟩
              have hk0 : 0 < k := by omega
              have hk1 : k ≤ 19 := by omega
              rw [show toldOf a b v = some (P25.told 43 (k : Int) v) from by unfold toldOf; rw [if_neg (by omega)]; first | (rw [if_pos (by omega), if_pos (by omega)]; congr 2 <;> omega) | (rw [if_neg (by omega), if_neg (by omega)]; congr 2 <;> omega)] at hp1
              rw [show toldOf b a v = some (P25.told 45 (k : Int) v) from by unfold toldOf; rw [if_neg (by omega)]; first | (rw [if_pos (by omega), if_pos (by omega)]; congr 2 <;> omega) | (rw [if_neg (by omega), if_neg (by omega)]; congr 2 <;> omega)] at hp2
              obtain ⟨px, czx, rfl, hcx⟩ := hp1
              obtain ⟨py, czy, rfl, hcy⟩ := hp2
              have lpx := World.block_lt_of_cell? _ _ hcx
              have lpy := World.block_lt_of_cell? _ _ hcy
              have HDk := Lib.hid fun W => digits_any (k : Int) (by omega) (by omega) W
              have HDv := Lib.hid fun W => digits_any v (by omega) (by omega) W
              have hlk := Lib.itoa_length_le (k : Int) (by omega) (by omega)
              have hlv := Lib.itoa_length_le v (by omega) (by omega)
              have HT1 : Hid (P25.told 43 (k : Int) v = [48, 32, 43, 32] ++ Lib.itoa (k : Int) ++ [32] ++ Lib.itoa v) := Lib.hid rfl
              have HT2 : Hid (P25.told 45 (k : Int) v = [48, 32, 45, 32] ++ Lib.itoa (k : Int) ++ [32] ++ Lib.itoa v) := Lib.hid rfl
              generalize P25.told 43 (k : Int) v = T1 at hcx HT1
              generalize P25.told 45 (k : Int) v = T2 at hcy HT2
              generalize Lib.itoa (k : Int) = td at HDk hlk HT1 HT2
              generalize Lib.itoa v = tv at HDv hlv HT1 HT2
              have E1 : Hid ((⟨T1.toArray⟩ : ByteArray) = ⟨#[48, 32]⟩ ++ ⟨#[43]⟩ ++ (⟨#[32]⟩ ++ ⟨td.toArray⟩ ++ ⟨#[32]⟩ ++ ⟨tv.toArray⟩)) := Lib.hid (by apply bytes_ext; rw [HT1.out]; simp)
              have E2 : Hid ((⟨T2.toArray⟩ : ByteArray) = ⟨#[48, 32]⟩ ++ ⟨#[45]⟩ ++ (⟨#[32]⟩ ++ ⟨td.toArray⟩ ++ ⟨#[32]⟩ ++ ⟨tv.toArray⟩)) := Lib.hid (by apply bytes_ext; rw [HT2.out]; simp)
              go_wp2_with (first | (go_at_call 17; (with_reducible refine (HDk.out _).mono ?_); rintro e w' ⟨rfl, hb⟩; obtain ⟨p, rfl⟩ := Xk.exw_of hb; clear hb) | (go_at_call 17; (with_reducible refine (HDv.out _).mono ?_); rintro e w' ⟨rfl, hb⟩; obtain ⟨p, rfl⟩ := Xk.exw_of hb; clear hb))
              all_goals first
                | (rename_i hT; exact absurd (by rw [← E1.out]; simp) hT)
                | (rw [← E2.out]; go_ret; refine ⟨by simp, HBG.out.trans ((Xk.ext_exw _ _).mono HBG.out.size)⟩)
end Go.Proofs.YtmoippbmnanajaaGreatDoor
