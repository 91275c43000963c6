/- Walks: the lexer's words. -/
import Derived.Test.YteipafoiogkdoaaDoorLC
set_option linter.unusedSimpArgs false
set_option linter.unusedVariables false
namespace P11
def setW (n : Nat) : Go.DataW Unit := Go.Maps.setOf (.agg []) ((words.take n).map Go.Lit.string)
theorem has_setW (k : List UInt8) : Go.Maps.has (setW 43) (.string k) = words.contains k := by
  rw [setW, Go.Maps.has_setOf _ _ _ (fun x hx => by
    obtain ⟨y, -, rfl⟩ := List.mem_map.1 hx; trivial), List.take_of_length_le (by decide)]
  rw [Bool.eq_iff_iff]
  simp [Go.Lit.sameKey]
def wordOf (w : List UInt8) : Int × List UInt8 := if words.contains (w.map Go.Lib.upperB) then (2, w.map Go.Lib.upperB) else (1, w.map Go.Lib.lowerB)
end P11
namespace Go.Proofs.YteipafoiogkdoaaDoor
open Go.RowKit Go.Maps
theorem exw_alloc_exw (w : World) (p q : Regrown) (o : Obj) : Xk.exw ((Xk.exw w p).alloc o) q = Xk.exw w ⟨q.d, p.os.push o ++ q.os⟩ := by
  simp [Xk.exw, Go.Sort.grow, redrawn, World.alloc, Array.append_assoc]
attribute [local go_sem] exw_alloc_exw
theorem keyLaw : Keyed Tryd.prog 9 := string_keyed Tryd.underlying9
theorem zeroUnit (w : World) : (zeroValue 43).run Tryd.prog w = .ok (.agg #[]) w := by kernel_rfl
/-- Block B of w is the set of key words. -/
def WordsAt (w : World) (B n : Nat) : Prop := w.ownsMap Tryd.prog 9 (unitElem (H := Unit)) B n (P11.setW n)
theorem WordsAt.ext {w w' : World} {B n : Nat} (h : WordsAt w B n) (hx : Xk.Ext w w') : WordsAt w' B n := by
  have := h.lt
  unfold WordsAt World.ownsMap at *
  rw [hx.block B this]
  exact h
theorem alnum_ascii (c : UInt8) (h : P11.alnum c = true) : c.toNat < 128 := by
  have := P11.u8_imp (p := P11.alnum) (q := fun c => decide (c.toNat < 128)) (by decide +kernel) c h
  simpa using this

set_option maxRecDepth 100000 in
set_option maxHeartbeats 4000000 in
theorem word_any (s : ByteArray) (a : Int) (B : Nat) (w : World) (hw : WordsAt w B 43) (hs : s.size ≤ 1000000) (ha : s.data.toList.all P11.alnum = true) :
    Calls Tryd.prog 21 #[.string s, .int .i64 a, .map (some B)] w fun e w' => e = .returned (.agg #[.int .i64 (P11.wordOf s.data.toList).1, .string ⟨(P11.wordOf s.data.toList).2.toArray⟩, .int .i64 a]) ∧ Below w.heap.size w w' := by
  have hasc : ∀ (j : Nat) (b : UInt8), s.data.toList[j]? = some b → b.toNat < 128 := fun j b hj => alnum_ascii b (List.all_eq_true.1 ha b (List.mem_of_getElem? hj))
  have HU := Lib.hid (fun w => Tryd.strings_ToUpper_ascii s w (by omega) hasc)
  have HL := Lib.hid (fun w => Tryd.strings_ToLower_ascii s w (by omega) hasc)
  have hW := fun o p => hw.ext ((((Below.refl _ w).alloc (Nat.le_refl _) o)).trans ((Xk.ext_exw (w.alloc o) p).mono (by simp)))
  have HW := Lib.hid hW
  have hsz : (⟨(Lib.toUpperA s.data.toList).toArray⟩ : ByteArray).size ≤ maxLen := by
    have : (⟨(Lib.toUpperA s.data.toList).toArray⟩ : ByteArray).size = s.size := by
      show (Lib.toUpperA s.data.toList).toArray.size = s.data.size
      simp [Lib.toUpperA]
    unfold maxLen; omega
  have HK := Lib.hid (Go.WideMaps.keyOf_string_mk Tryd.underlying9 hsz)
  clear hW hsz hw ha
  cases hc : P11.words.contains (s.data.toList.map Lib.upperB)
  · have hv : Maps.has (P11.setW 43) (.string (Lib.toUpperA s.data.toList)) = false := (P11.has_setW _).trans hc
    have HR : Hid (P11.wordOf s.data.toList = (1, Lib.toLowerA s.data.toList)) := Lib.hid (by unfold P11.wordOf; rw [hc]; rfl)
    clear hc hasc
    go_enter Tryd.func21, Tryd.ntmps21
    go_wp2_with (first | (go_at_call 37; (with_reducible refine (HU.out _).mono ?_); rintro e w' ⟨rfl, hb⟩; obtain ⟨p, rfl⟩ := Xk.exw_of hb; clear hb) | (go_at_call 38; (with_reducible refine (HL.out _).mono ?_); rintro e w' ⟨rfl, hb⟩; obtain ⟨p, rfl⟩ := Xk.exw_of hb; clear hb) | (at_lookup; refine wpList_lookup_own_unit _ rfl _ _ 42 rfl 9 43 keyLaw Tryd.underlying42 (zeroUnit _) B 43 _ rfl (HW.out _ _) _ _ rfl HK.out ?_))
    rw [HR.out]
    exact bodyPost_ret (v := .agg #[.int .i64 1, .string ⟨(Lib.toLowerA s.data.toList).toArray⟩, .int .i64 a]) (by simp [results, Tryd.results21, go_sem]) rfl ⟨rfl, (by repeat (first | with_reducible exact Below.refl _ _ | ((with_reducible refine Below.setCell ?_ ?_ _); rotate_left; exact (by (try simp only [World.size_alloc, Xk.exw_size, World.size_setCell, World.size_drew, World.heap_drewN]); omega)) | ((with_reducible refine Below.alloc ?_ ?_ _); rotate_left; exact (by (try simp only [World.size_alloc, Xk.exw_size, World.size_setCell, World.size_drew, World.heap_drewN]); omega)) | ((with_reducible refine Xk.below_exw ?_ ?_ _); rotate_left; exact (by (try simp only [World.size_alloc, Xk.exw_size, World.size_setCell, World.size_drew, World.heap_drewN]); omega)) | (with_reducible refine Below.drew ?_)))⟩
  · have hv : Maps.has (P11.setW 43) (.string (Lib.toUpperA s.data.toList)) = true := (P11.has_setW _).trans hc
    have HR : Hid (P11.wordOf s.data.toList = (2, Lib.toUpperA s.data.toList)) := Lib.hid (by unfold P11.wordOf; rw [hc]; rfl)
    clear hc hasc
    go_enter Tryd.func21, Tryd.ntmps21
    go_wp2_with (first | (go_at_call 37; (with_reducible refine (HU.out _).mono ?_); rintro e w' ⟨rfl, hb⟩; obtain ⟨p, rfl⟩ := Xk.exw_of hb; clear hb) | (go_at_call 38; (with_reducible refine (HL.out _).mono ?_); rintro e w' ⟨rfl, hb⟩; obtain ⟨p, rfl⟩ := Xk.exw_of hb; clear hb) | (at_lookup; refine wpList_lookup_own_unit _ rfl _ _ 42 rfl 9 43 keyLaw Tryd.underlying42 (zeroUnit _) B 43 _ rfl (HW.out _ _) _ _ rfl HK.out ?_))
    rw [HR.out]
    exact bodyPost_ret (v := .agg #[.int .i64 2, .string ⟨(Lib.toUpperA s.data.toList).toArray⟩, .int .i64 a]) (by simp [results, Tryd.results21, go_sem]) rfl ⟨rfl, (by repeat (first | with_reducible exact Below.refl _ _ | ((with_reducible refine Below.setCell ?_ ?_ _); rotate_left; exact (by (try simp only [World.size_alloc, Xk.exw_size, World.size_setCell, World.size_drew, World.heap_drewN]); omega)) | ((with_reducible refine Below.alloc ?_ ?_ _); rotate_left; exact (by (try simp only [World.size_alloc, Xk.exw_size, World.size_setCell, World.size_drew, World.heap_drewN]); omega)) | ((with_reducible refine Xk.below_exw ?_ ?_ _); rotate_left; exact (by (try simp only [World.size_alloc, Xk.exw_size, World.size_setCell, World.size_drew, World.heap_drewN]); omega)) | (with_reducible refine Below.drew ?_)))⟩
end Go.Proofs.YteipafoiogkdoaaDoor
