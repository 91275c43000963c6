/- Walks: Quote and the reference's Print. -/
import Derived.Test.YtmoippbmnanajaaGreatDoorG
import Derived.Lib.SlBytesConst
set_option linter.unusedSimpArgs false
set_option linter.unusedVariables false
namespace Go.Proofs.YtmoippbmnanajaaGreatDoor
open Go.RowKit

theorem Tryz.infoB : (Tryz.prog.info? 5).map (fun i => (i.zero, i.size, i.bytes)) = some (some (.int .u8 0), 1, 1) := by kernel_rfl
theorem take_snoc (l : List UInt8) (k : Nat) (h : k < l.length) : l.take (k + 1) = l.take k ++ [l[k]] := List.take_succ_eq_append_getElem h
theorem dbl_snoc (l : List UInt8) (k : Nat) (h : k < l.length) : P6.dbl (l.take (k + 1)) = P6.dbl (l.take k) ++ (if l[k] = 39 then [39, 39] else [l[k]]) := by
  rw [take_snoc l k h, P6.dbl_append]
  congr 1

set_option maxRecDepth 100000 in
set_option maxHeartbeats 2000000 in
theorem quote_any (s : ByteArray) (hs : s.size ≤ 1000000) (w : World) :
    Calls Tryz.prog 39 #[.string s] w fun e w' => e = .returned (.string ⟨(P6.quote s.data.toList).toArray⟩) ∧ Below w.heap.size w w' := by
  have kc := fun (w : World) (C : Array Value) (n c : Nat) => Lib.run_convert_bytes_const (P := Tryz.prog) w 72 5 C n c Tryz.underlying72 Tryz.underlying5
  obtain ⟨i0, hi, hz0, hz1, hz2⟩ := info_parts Tryz.infoB
  have Hi := Lib.hid hi
  have Hz0 := Lib.hid hz0
  have Hz1 := Lib.hid hz1
  have Hz2 := Lib.hid hz2
  clear hi hz0 hz1 hz2
  go_enter Tryz.func39, Tryz.ntmps39
  go_wp2
  go_loopw [3, 4] (fun v x wr => ∃ q : Nat, q ≤ s.size ∧ x = .int .i64 q ∧ Below w.heap.size w wr ∧ Xk.Acc wr w.heap.size 5 1 v (39 :: P6.dbl (s.data.toList.take q)).length (Xk.bcells (39 :: P6.dbl (s.data.toList.take q)))) (fun _ x _ => s.size - (intOf x).toNat)
  case atStart => exact ⟨0, Nat.zero_le _, rfl, (by repeat (first | with_reducible exact Below.refl _ _ | ((with_reducible refine Below.setCell ?_ ?_ _); rotate_left; exact (by (try simp only [World.size_alloc, Xk.exw_size, World.size_setCell, World.size_drew, World.heap_drewN]); omega)) | ((with_reducible refine Below.alloc ?_ ?_ _); rotate_left; exact (by (try simp only [World.size_alloc, Xk.exw_size, World.size_setCell, World.size_drew, World.heap_drewN]); omega)) | ((with_reducible refine Xk.below_exw ?_ ?_ _); rotate_left; exact (by (try simp only [World.size_alloc, Xk.exw_size, World.size_setCell, World.size_drew, World.heap_drewN]); omega)) | (with_reducible refine Below.drew ?_))), .inr ⟨_, _, rfl, rfl, fun j u hj => by
    obtain rfl : j = 0 := by have := (List.getElem?_eq_some_iff.1 hj).1; simp [Xk.bcells, P6.dbl] at this; omega
    simp [Xk.bcells] at hj; subst hj; rw [World.cell?_alloc_mark]; rfl⟩⟩
  case round =>
    obtain ⟨q, hq, rfl, hb, hacc⟩ := hrel
    obtain ⟨p, rfl⟩ := Xk.exw_of hb
    have Hb := Lib.hid hb
    have Ha := Lib.hid hacc
    clear hb hacc
    by_cases hlt : q < s.size
    · have hl : q < s.data.toList.length := hlt
      have Hd := Lib.hid (dbl_snoc s.data.toList q hl)
      have HB : Hid ((39 :: P6.dbl (s.data.toList.take q)).length ≤ 3000000) := by
        show _ ≤ _
        have h1 := P6.dbl_length (s.data.toList.take q)
        have h2 : (s.data.toList.take q).length ≤ q := List.length_take_le _ _
        simp only [List.length_cons]; omega
      by_cases hc : s[q] = 39
      · have hb39 : ((s[q].toNat : Int) == 39) = true := by rw [hc]; rfl
        have Hc := Lib.hid hc
        clear hc
        go_wp2_with (first | (at_builtin; refine Xk.wpList_acc1 (w0 := w) rfl _ _ 72 rfl 5 i0 _ _ Tryz.underlying72 Hi.out Hz0.out Hz1.out Hz2.out rfl _ _ _ rfl (Ha.out.alloc _) _ _ _ rfl (Xk.cell_last (by simp)) rfl ⟨by have := HB.out; omega, by decide⟩ (by repeat (first | with_reducible exact Below.refl _ _ | ((with_reducible refine Below.setCell ?_ ?_ _); rotate_left; exact (by (try simp only [World.size_alloc, Xk.exw_size, World.size_setCell, World.size_drew, World.heap_drewN]); omega)) | ((with_reducible refine Below.alloc ?_ ?_ _); rotate_left; exact (by (try simp only [World.size_alloc, Xk.exw_size, World.size_setCell, World.size_drew, World.heap_drewN]); omega)) | ((with_reducible refine Xk.below_exw ?_ ?_ _); rotate_left; exact (by (try simp only [World.size_alloc, Xk.exw_size, World.size_setCell, World.size_drew, World.heap_drewN]); omega)) | (with_reducible refine Below.drew ?_))) ?_; intro v' p' hacc' hg'; have Ha1 := Lib.hid hacc'; clear hacc' hg') | (at_builtin; refine Xk.wpList_acc1 (w0 := w) rfl _ _ 72 rfl 5 i0 _ _ Tryz.underlying72 Hi.out Hz0.out Hz1.out Hz2.out rfl _ _ _ rfl (Ha1.out.alloc _) _ _ _ rfl (Xk.cell_last (by simp)) rfl ⟨by have := HB.out; omega, by decide⟩ (by repeat (first | with_reducible exact Below.refl _ _ | ((with_reducible refine Below.setCell ?_ ?_ _); rotate_left; exact (by (try simp only [World.size_alloc, Xk.exw_size, World.size_setCell, World.size_drew, World.heap_drewN]); omega)) | ((with_reducible refine Below.alloc ?_ ?_ _); rotate_left; exact (by (try simp only [World.size_alloc, Xk.exw_size, World.size_setCell, World.size_drew, World.heap_drewN]); omega)) | ((with_reducible refine Xk.below_exw ?_ ?_ _); rotate_left; exact (by (try simp only [World.size_alloc, Xk.exw_size, World.size_setCell, World.size_drew, World.heap_drewN]); omega)) | (with_reducible refine Below.drew ?_))) ?_; intro v' p' hacc' hg'; have Ha2 := Lib.hid hacc'; clear hacc' hg'))
        go_roundw
        case rel => exact ⟨q + 1, by omega, by go_num, (by repeat (first | with_reducible exact Below.refl _ _ | ((with_reducible refine Below.setCell ?_ ?_ _); rotate_left; exact (by (try simp only [World.size_alloc, Xk.exw_size, World.size_setCell, World.size_drew, World.heap_drewN]); omega)) | ((with_reducible refine Below.alloc ?_ ?_ _); rotate_left; exact (by (try simp only [World.size_alloc, Xk.exw_size, World.size_setCell, World.size_drew, World.heap_drewN]); omega)) | ((with_reducible refine Xk.below_exw ?_ ?_ _); rotate_left; exact (by (try simp only [World.size_alloc, Xk.exw_size, World.size_setCell, World.size_drew, World.heap_drewN]); omega)) | (with_reducible refine Below.drew ?_))), by
          have hd := Hd.out
          have h39 : s.data.toList[q] = 39 := Hc.out
          rw [h39, if_pos rfl] at hd
          have h2 := Ha2.out
          rw [show s[q] = 39 from Hc.out] at h2
          rw [hd, ← List.cons_append]; exact h2.snoc2⟩
        case measure => simp [intOf]; omega
      · have hb39 : ((s[q].toNat : Int) == 39) = false := by
          rw [beq_eq_false_iff_ne]; intro h; exact hc (UInt8.toNat_inj.1 (by rw [show (39 : UInt8).toNat = 39 from rfl]; omega))
        have Hc := Lib.hid hc
        clear hc
        go_wp2_with (first | (at_builtin; refine Xk.wpList_acc1 (w0 := w) rfl _ _ 72 rfl 5 i0 _ _ Tryz.underlying72 Hi.out Hz0.out Hz1.out Hz2.out rfl _ _ _ rfl (Ha.out.alloc _) _ _ _ rfl (Xk.cell_last (by simp)) rfl ⟨by have := HB.out; omega, by decide⟩ (by repeat (first | with_reducible exact Below.refl _ _ | ((with_reducible refine Below.setCell ?_ ?_ _); rotate_left; exact (by (try simp only [World.size_alloc, Xk.exw_size, World.size_setCell, World.size_drew, World.heap_drewN]); omega)) | ((with_reducible refine Below.alloc ?_ ?_ _); rotate_left; exact (by (try simp only [World.size_alloc, Xk.exw_size, World.size_setCell, World.size_drew, World.heap_drewN]); omega)) | ((with_reducible refine Xk.below_exw ?_ ?_ _); rotate_left; exact (by (try simp only [World.size_alloc, Xk.exw_size, World.size_setCell, World.size_drew, World.heap_drewN]); omega)) | (with_reducible refine Below.drew ?_))) ?_; intro v' p' hacc' hg'; have Ha1 := Lib.hid hacc'; clear hacc' hg'))
        go_roundw
        case rel => exact ⟨q + 1, by omega, by go_num, (by repeat (first | with_reducible exact Below.refl _ _ | ((with_reducible refine Below.setCell ?_ ?_ _); rotate_left; exact (by (try simp only [World.size_alloc, Xk.exw_size, World.size_setCell, World.size_drew, World.heap_drewN]); omega)) | ((with_reducible refine Below.alloc ?_ ?_ _); rotate_left; exact (by (try simp only [World.size_alloc, Xk.exw_size, World.size_setCell, World.size_drew, World.heap_drewN]); omega)) | ((with_reducible refine Xk.below_exw ?_ ?_ _); rotate_left; exact (by (try simp only [World.size_alloc, Xk.exw_size, World.size_setCell, World.size_drew, World.heap_drewN]); omega)) | (with_reducible refine Below.drew ?_))), by
          have hd := Hd.out
          rw [if_neg (show ¬ s.data.toList[q] = 39 from Hc.out)] at hd
          have h2 := Ha1.out
          rw [hd, ← List.cons_append]; exact h2.snoc⟩
        case measure => simp [intOf]; omega
    · have ht : s.data.toList.take q = s.data.toList := List.take_of_length_le (by show s.size ≤ q; omega)
      have hacc := Ha.out
      rw [ht] at hacc
      have Hb' := Lib.hid hacc
      have HB : Hid ((39 :: P6.dbl s.data.toList).length ≤ 3000000) := by
        show _ ≤ _
        have h1 := P6.dbl_length s.data.toList
        have h2 : s.data.toList.length = s.size := rfl
        simp only [List.length_cons]; omega
      have ks : ∀ (v : Value) (p : Regrown), Xk.Acc (Xk.exw w p) w.heap.size 5 1 v ((39 :: P6.dbl s.data.toList) ++ [39]).length (Xk.bcells ((39 :: P6.dbl s.data.toList) ++ [39])) →
          (convert 72 9 v).run Tryz.prog (Xk.exw w p) = .ok (.string ⟨((39 :: P6.dbl s.data.toList) ++ [39]).toArray⟩) (Xk.exw w p) := fun v p h => h.str _ _ _ Tryz.underlying72 Tryz.underlying5 Tryz.underlying9
      have Ks := Lib.hid ks
      clear ht hacc ks
      go_wp2_with (first | (at_builtin; refine Xk.wpList_acc1 (w0 := w) rfl _ _ 72 rfl 5 i0 _ _ Tryz.underlying72 Hi.out Hz0.out Hz1.out Hz2.out rfl _ _ _ rfl (Hb'.out.alloc _) _ _ _ rfl (Xk.cell_last (by simp)) rfl ⟨by have := HB.out; omega, by decide⟩ (by repeat (first | with_reducible exact Below.refl _ _ | ((with_reducible refine Below.setCell ?_ ?_ _); rotate_left; exact (by (try simp only [World.size_alloc, Xk.exw_size, World.size_setCell, World.size_drew, World.heap_drewN]); omega)) | ((with_reducible refine Below.alloc ?_ ?_ _); rotate_left; exact (by (try simp only [World.size_alloc, Xk.exw_size, World.size_setCell, World.size_drew, World.heap_drewN]); omega)) | ((with_reducible refine Xk.below_exw ?_ ?_ _); rotate_left; exact (by (try simp only [World.size_alloc, Xk.exw_size, World.size_setCell, World.size_drew, World.heap_drewN]); omega)) | (with_reducible refine Below.drew ?_))) ?_; intro v' p' hacc' hg'; have hk := Ks.out v' p' (Xk.Acc.snoc (c := 39) hacc'); clear hacc' hg'))
      go_ret
      exact ⟨retS (by simp [P6.quote]), (by repeat (first | with_reducible exact Below.refl _ _ | ((with_reducible refine Below.setCell ?_ ?_ _); rotate_left; exact (by (try simp only [World.size_alloc, Xk.exw_size, World.size_setCell, World.size_drew, World.heap_drewN]); omega)) | ((with_reducible refine Below.alloc ?_ ?_ _); rotate_left; exact (by (try simp only [World.size_alloc, Xk.exw_size, World.size_setCell, World.size_drew, World.heap_drewN]); omega)) | ((with_reducible refine Xk.below_exw ?_ ?_ _); rotate_left; exact (by (try simp only [World.size_alloc, Xk.exw_size, World.size_setCell, World.size_drew, World.heap_drewN]); omega)) | (with_reducible refine Below.drew ?_)))⟩
end Go.Proofs.YtmoippbmnanajaaGreatDoor
