/- Walks: report.cells. -/
import Derived.Test.YtmoippbmnanajaaGreatDoorRA
set_option linter.unusedSimpArgs false
set_option linter.unusedVariables false
namespace Go.Proofs.YtmoippbmnanajaaGreatDoor
open Go.RowKit
theorem below_grown {B : Nat} {w w' : World} (h : w.grownBy w' none) (hb : B ≤ w.heap.size) : Below B w w' := (Below.refl _ _).grown h hb (fun k hk => by cases hk)
theorem scells_set (l : List (List UInt8)) (q : Nat) (x : List UInt8) : (scells l).set q (.string ⟨x.toArray⟩) = scells (l.set q x) := by simp [scells, List.map_set]
theorem own_base {w : World} {B : Nat} {e : TypeId} {sz g n cap : Nat} {xs : List Value} (h : w.ownsRow B e sz (.slice (some ⟨g, 0, none⟩) n cap) n xs) : B ≤ g ∧ g < w.heap.size := h.lt g rfl
set_option maxRecDepth 100000 in
set_option maxHeartbeats 2000000 in
theorem cells_any (va : Value) (l : List V) (n : Nat) (w : World) (hE : Env w) (ha : RowAt w va l) (hI : IOk l) (hn : n ≤ 100000) (hl : l.length ≤ maxLen) :
    Calls Tryz.prog 21 #[va, .int .i64 n] w fun e w' => ∃ v, e = .returned v ∧ Xo.Lives w.heap.size [] w' (fun W => StrsAt W v (P25.cells (rowOf l) n)) ∧ Below w.heap.size w w' := by
  unfold maxLen at hl
  obtain ⟨pa, ca, rfl, ha⟩ := ha
  have HA := Lib.hid ha
  have HI := Lib.hid hI
  have HE := Lib.hid hE
  obtain ⟨i0, hi, hz0, hz1, hz2⟩ := info_parts Tryz.infoStr
  have Hi := Lib.hid hi
  have Hz0 := Lib.hid hz0
  have Hz1 := Lib.hid hz1
  have Hb : Hid (i0.bytes * n ≤ 281474976710656) := Lib.hid (by rw [hz2]; omega)
  clear hi hz0 hz1 hz2 ha hI hE
  go_enter Tryz.func21, Tryz.ntmps21
  go_wp2_with (at_make; refine wpList_make_full _ rfl _ _ 22 rfl w.heap.size 9 i0 _ 1 Tryz.underlying22 Hi.out Hz0.out Hz1.out .i64 .i64 _ _ n rfl rfl rfl rfl Hb.out (by unfold maxLen; omega) (Nat.le_refl _) ?_; intro w1 ho hgr; have HO := Lib.hid ho; have HB := Lib.hid (below_grown hgr (Nat.le_refl _)); clear ho hgr)
  go_loopw [13] (fun x wr => ∃ q : Nat, q ≤ min n l.length ∧ x = .int .i64 q ∧ Below w.heap.size w wr ∧ wr.ownsRow w.heap.size 9 1 (.slice (some ⟨w.heap.size, 0, none⟩) n n) n (scells (P25.cellsUpto (rowOf l) n q))) (fun x _ => min n l.length - (intOf x).toNat)
  case atStart => exact ⟨0, by omega, rfl, HB.out, by
    have h := HO.out
    rw [show (Value.string ⟨#[]⟩).cells = #[.string ⟨#[]⟩] from rfl, Nat.mul_one, toList_madeCells_one] at h
    rw [P25.cellsUpto_zero]
    simpa [scells] using h⟩
  case round =>
    clear HB HO
    obtain ⟨q, hq, rfl, hbw, ho⟩ := hrel
    by_cases hlt : q < min n l.length
    · have hql : q < l.length := by omega
      obtain ⟨b, off, rfl, a1, a2, a3, a4⟩ := HA.out q l[q] (by simp [hql])
      have hx := HI.out l[q] (by simp)
      have Hx := Lib.hid (show l[q]? = some l[q] by simp [hql])
      generalize l[q] = x at *
      have lb := World.block_lt_of_cell? w _ a1
      have lb' : b < wr.heap.size := Nat.lt_of_lt_of_le lb hbw.size
      have b1 := Xk.ext_cell hbw a1
      have b2 := Xk.ext_cell hbw a2
      have b3 := Xk.ext_cell hbw a3
      have hps := print_small x hx
      have HP := Lib.hid fun p => print_any x.k x.i x.s hx.1 hx.2 (Xk.exw wr p) ((HE.out.ext hbw).ext (Xk.ext_exw _ _))
      have HP0 := Lib.hid (print_any x.k x.i x.s hx.1 hx.2 wr (HE.out.ext hbw))
      have HC := Lib.hid fun p => clean_any ⟨(P6.printV x.k x.i x.s.data.toList).toArray⟩ (by show (P6.printV x.k x.i x.s.data.toList).length ≤ _; omega) (Xk.exw wr p) ((HE.out.ext hbw).ext (Xk.ext_exw _ _))
      have hc := ho.cellAt q (by omega)
      have hs : (scells (P25.cellsUpto (rowOf l) n q))[q]? = some ((scells (P25.cellsUpto (rowOf l) n q))[q]'(by rw [scells_length, P25.cellsUpto_length]; omega)) := List.getElem?_eq_getElem _
      rw [hs] at hc
      generalize (scells (P25.cellsUpto (rowOf l) n q))[q]'(by rw [scells_length, P25.cellsUpto_length]; omega) = u0 at hc
      have hf := ho.frozenAt q
      obtain ⟨-, hg⟩ := own_base ho
      have HB := Lib.hid hbw
      have HO := Lib.hid ho
      clear a1 a2 a3 hbw ho hs hx hps
      go_wp2_with (first | (go_at_call 48; (with_reducible refine (HP0.out).mono ?_); rintro e w' ⟨rfl, hb⟩; obtain ⟨p, rfl⟩ := Xk.exw_of hb; clear hb) | (go_at_call 23; (with_reducible refine (HC.out _).mono ?_); rintro e w' ⟨rfl, hb⟩; obtain ⟨p, rfl⟩ := Xk.exw_of hb; clear hb))
      go_roundw
      case rel => exact ⟨q + 1, by omega, by go_num, (by repeat (first | with_reducible exact HB.out | with_reducible exact Below.refl _ _ | ((with_reducible refine Below.setCell ?_ ?_ _); rotate_left; exact (by (try simp only [World.size_alloc, Xk.exw_size, World.size_setCell, World.size_drew, World.heap_drewN]); omega)) | ((with_reducible refine Below.alloc ?_ ?_ _); rotate_left; exact (by (try simp only [World.size_alloc, Xk.exw_size, World.size_setCell, World.size_drew, World.heap_drewN]); omega)) | ((with_reducible refine Xk.below_exw ?_ ?_ _); rotate_left; exact (by (try simp only [World.size_alloc, Xk.exw_size, World.size_setCell, World.size_drew, World.heap_drewN]); omega)) | (with_reducible refine Below.drew ?_))), by
        have h1 := (HO.out.stored q (.string ⟨(P25.clean (P6.printV x.k x.i x.s.data.toList)).toArray⟩)).1
        rw [scells_set, show (P25.cellsUpto (rowOf l) n q).set q (P25.clean (P6.printV x.k x.i x.s.data.toList)) = P25.cellsUpto (rowOf l) n (q + 1) by
          rw [← P25.cellsUpto_set _ _ _ (by omega), P25.text_some (c := cellOf x) (by simp [rowOf, Hx.out])]; rfl] at h1
        exact ownsRow_ext h1 (Xk.ext_exw _ _)⟩
      case measure => simp [intOf]; omega
    · have HB := Lib.hid hbw
      have HO := Lib.hid ho
      clear hbw ho
      go_wp2
      go_ret
      exact ⟨_, rfl, (Xo.lives_own HO.out (by simp)).imp fun W h => by have h := StrsAt.own h; rwa [P25.cellsUpto_end _ _ _ (by rw [rowOf_length]; omega)] at h, HB.out⟩
end Go.Proofs.YtmoippbmnanajaaGreatDoor
