/- Walks: the reference's letters turned. -/
import Derived.Test.YteipafoiogkdoaaDoorLU
import Derived.Lib.ConvBytes
import Derived.Lib.AtoiErrMem
set_option linter.unusedSimpArgs false
set_option linter.unusedVariables false
namespace Go.Proofs.YteipafoiogkdoaaDoor
open Go.RowKit Go.Maps
def caseB (cap : Bool) (c : UInt8) : UInt8 := if cap then Lib.upperB c else Lib.lowerB c
/-- The byte at a place, turned if it lies ahead of q. -/
def turned (cap : Bool) (l : List UInt8) (q j : Nat) : UInt8 := if j < q then caseB cap (l.getD j 0) else l.getD j 0
/-- The row of bytes, turned up to q. -/
structure CasedW (w : World) (b : Nat) (cap : Bool) (l : List UInt8) (q : Nat) (wr : World) : Prop where
  below : Below w.heap.size w wr
  hb : w.heap.size ≤ b
  lt : b < wr.heap.size
  cell : ∀ j, j < l.length → wr.cell? ⟨b, j, none⟩ = some (.int .u8 (turned cap l q j).toNat)
  free : ∀ j, j < l.length → wr.frozen? ⟨b, j, none⟩ = false
theorem CasedW.put {w wr : World} {b : Nat} {cap : Bool} {l : List UInt8} {q : Nat} (h : CasedW w b cap l q wr) (hq : q < l.length) : CasedW w b cap l (q + 1) (wr.setCell ⟨b, q, none⟩ (.int .u8 (caseB cap (l.getD q 0)).toNat)) where
  below := h.below.setCell h.hb _
  hb := h.hb
  lt := by simpa using h.lt
  cell := fun j hj => by
    by_cases hjq : j = q
    · subst hjq
      rw [World.cell?_setCell_same _ _ _ (h.cell j hj)]
      unfold turned; rw [if_pos (by omega)]
    · rw [World.cell?_setCell_other _ _ _ _ (by intro e; cases e; exact hjq rfl), h.cell j hj]
      unfold turned
      by_cases hlt : j < q
      · rw [if_pos hlt, if_pos (by omega)]
      · rw [if_neg hlt, if_neg (by omega)]
  free := fun j hj => by rw [World.frozen?_setCell]; exact h.free j hj
theorem CasedW.keep {w wr : World} {b : Nat} {cap : Bool} {l : List UInt8} {q : Nat} (h : CasedW w b cap l q wr) (hlt : q < l.length) (hq : caseB cap (l.getD q 0) = l.getD q 0) : CasedW w b cap l (q + 1) wr where
  below := h.below
  hb := h.hb
  lt := h.lt
  cell := fun j hj => by
    rw [h.cell j hj]
    unfold turned
    by_cases hlt : j < q
    · rw [if_pos hlt, if_pos (by omega)]
    · rw [if_neg hlt]
      by_cases hjq : j = q
      · subst hjq; rw [if_pos (by omega), hq]
      · rw [if_neg (by omega)]
  free := h.free
theorem CasedW.start (s : ByteArray) (cap : Bool) (w : World) : CasedW w w.heap.size cap s.data.toList 0 (Lib.bytesWorld w 5 s) where
  below := Lib.bytesWorld_below w _ s
  hb := Nat.le_refl _
  lt := by rw [Lib.bytesWorld_size]; omega
  cell := fun j hj => by rw [Lib.bytesWorld_cell _ _ _ _ hj]; rfl
  free := fun j hj => by
    have h1 : s.size ≤ (Lib.bytesCells w 5 s).size := by simp [Lib.bytesCells]
    have h2 : j < s.size := hj
    unfold World.frozen?
    rw [show (⟨w.heap.size, j, none⟩ : Addr).block = w.heap.size from rfl, Lib.bytesWorld_at_new]
    simp; omega
theorem upper_hit {c : UInt8} (h : 97 ≤ (c.toNat : Int) ∧ (c.toNat : Int) ≤ 122) : ((Lib.upperB c).toNat : Int) = c.toNat - 32 := by
  have := P11.u8_imp (p := fun c => decide (97 ≤ c.toNat ∧ c.toNat ≤ 122)) (q := fun c => (Lib.upperB c).toNat == c.toNat - 32) (by decide +kernel) c (by simp; omega)
  simp at this; omega
theorem upper_miss {c : UInt8} (h : ¬ (97 ≤ (c.toNat : Int) ∧ (c.toNat : Int) ≤ 122)) : Lib.upperB c = c := by
  have := P11.u8_imp (p := fun c => decide (¬ (97 ≤ c.toNat ∧ c.toNat ≤ 122))) (q := fun c => Lib.upperB c == c) (by decide +kernel) c (by simp; omega)
  simpa using this
theorem lower_hit {c : UInt8} (h : 65 ≤ (c.toNat : Int) ∧ (c.toNat : Int) ≤ 90) : ((Lib.lowerB c).toNat : Int) = c.toNat + 32 := by
  have := P11.u8_imp (p := fun c => decide (65 ≤ c.toNat ∧ c.toNat ≤ 90)) (q := fun c => (Lib.lowerB c).toNat == c.toNat + 32) (by decide +kernel) c (by simp; omega)
  simp at this; omega
theorem lower_miss {c : UInt8} (h : ¬ (65 ≤ (c.toNat : Int) ∧ (c.toNat : Int) ≤ 90)) : Lib.lowerB c = c := by
  have := P11.u8_imp (p := fun c => decide (¬ (65 ≤ c.toNat ∧ c.toNat ≤ 90))) (q := fun c => Lib.lowerB c == c) (by decide +kernel) c (by simp; omega)
  simpa using this
theorem CasedW.str {w wr : World} {b : Nat} {cap : Bool} {l : List UInt8} {q : Nat} (h : CasedW w b cap l q wr) (hq : l.length ≤ q) (k n : Nat) (hn : n = l.length) :
    (convert 22 9 (.slice (some ⟨b, 0, none⟩) n k)).run Tryd.prog wr = .ok (.string ⟨(l.map (caseB cap)).toArray⟩) wr := by
  subst hn
  have := Xk.run_bstr (P := Tryd.prog) wr 22 9 5 Tryd.underlying22 Tryd.underlying5 Tryd.underlying9 b 0 l.length k ((l.map (caseB cap)).map fun c => (c.toNat : Int)) (by simp) (fun j hj => by
    rw [Nat.zero_add, h.cell j hj]
    unfold turned
    rw [if_pos (by omega)]
    simp [List.getD_eq_getElem?_getD, hj])
  rw [this, List.map_map]
  have e : ((fun n : Int => UInt8.ofNat n.toNat) ∘ fun c : UInt8 => (c.toNat : Int)) = id := by funext c; simp
  rw [e, List.map_id]
set_option maxRecDepth 100000 in
set_option maxHeartbeats 4000000 in
theorem cased_any (s : ByteArray) (cap : Bool) (hs : s.size ≤ 1000000) (w : World) :
    Calls Tryd.prog 30 #[.string s, .bool cap] w fun e w' => e = .returned (.string ⟨(s.data.toList.map (caseB cap)).toArray⟩) ∧ Below w.heap.size w w' := by
  have kc := fun (w : World) (s : ByteArray) => Lib.run_convert_string_bytes (P := Tryd.prog) w 9 22 5 s Tryd.underlying9 Tryd.underlying22 Tryd.underlying5
  go_enter Tryd.func30, Tryd.ntmps30
  go_wp2
  have hL : s.data.toList.length = s.size := rfl
  go_loopw [6] (fun x wr => ∃ q : Nat, q ≤ s.size ∧ x = .int .i64 q ∧ CasedW w w.heap.size cap s.data.toList q wr) (fun x _ => s.size - (intOf x).toNat)
  case atStart => exact ⟨0, Nat.zero_le _, rfl, CasedW.start s cap w⟩
  case round =>
    obtain ⟨q, hq, rfl, hC⟩ := hrel
    have HC := Lib.hid hC
    have lt1 := hC.lt
    by_cases hlt : q < s.size
    · have c1 := hC.cell q hlt
      have f1 := hC.free q hlt
      unfold turned at c1
      rw [if_neg (Nat.lt_irrefl q)] at c1
      have hput := hC.put hlt
      have hkeep := hC.keep hlt
      have HP := Lib.hid hput
      have HK := Lib.hid hkeep
      clear hC hput hkeep
      have c8 : ((s.data.toList.getD q 0).toNat : Int) < 256 := by have := (s.data.toList.getD q 0).toNat_lt; omega
      have q1 : (q : Int) < (s.size : Int) := by omega
      generalize s.data.toList.getD q 0 = c at *
      cases cap
      · by_cases hr : 65 ≤ (c.toNat : Int) ∧ (c.toNat : Int) ≤ 90
        · obtain ⟨r1, r2⟩ := hr
          have hv := lower_hit ⟨r1, r2⟩
          have HV := Lib.hid hv
          clear hv
          go_wp2
          go_roundw
          case rel => exact ⟨q + 1, by omega, by go_num, by
            have h := HP.out
            rw [show ((caseB false c).toNat : Int) = c.toNat + 32 from HV.out] at h
            exact h⟩
          case measure => simp [intOf]; omega
        · have hv := lower_miss hr
          have HV := Lib.hid hv
          clear hv
          by_cases r1 : 65 ≤ (c.toNat : Int)
          · have r2 : ¬ (c.toNat : Int) ≤ 90 := fun h => hr ⟨r1, h⟩
            clear hr
            go_wp2
            go_roundw
            case rel => exact ⟨q + 1, by omega, by go_num, HK.out HV.out⟩
            case measure => simp [intOf]; omega
          · clear hr
            go_wp2
            go_roundw
            case rel => exact ⟨q + 1, by omega, by go_num, HK.out HV.out⟩
            case measure => simp [intOf]; omega
      · by_cases hr : 97 ≤ (c.toNat : Int) ∧ (c.toNat : Int) ≤ 122
        · obtain ⟨r1, r2⟩ := hr
          have hv := upper_hit ⟨r1, r2⟩
          have HV := Lib.hid hv
          clear hv
          go_wp2
          go_roundw
          case rel => exact ⟨q + 1, by omega, by go_num, by
            have h := HP.out
            rw [show ((caseB true c).toNat : Int) = c.toNat - 32 from HV.out] at h
            exact h⟩
          case measure => simp [intOf]; omega
        · have hv := upper_miss hr
          have HV := Lib.hid hv
          clear hv
          by_cases r1 : 97 ≤ (c.toNat : Int)
          · have r2 : ¬ (c.toNat : Int) ≤ 122 := fun h => hr ⟨r1, h⟩
            clear hr
            go_wp2
            go_roundw
            case rel => exact ⟨q + 1, by omega, by go_num, HK.out HV.out⟩
            case measure => simp [intOf]; omega
          · clear hr
            go_wp2
            go_roundw
            case rel => exact ⟨q + 1, by omega, by go_num, HK.out HV.out⟩
            case measure => simp [intOf]; omega
    · have hb := hC.str (by rw [hL]; omega) (grownCap w s.size 0 5) s.size hL.symm
      clear hC
      go_wp2
      go_ret
      exact ⟨rfl, HC.out.below⟩
end Go.Proofs.YteipafoiogkdoaaDoor
