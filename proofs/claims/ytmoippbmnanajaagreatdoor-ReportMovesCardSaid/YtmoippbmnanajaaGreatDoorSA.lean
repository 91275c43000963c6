/- Walks: pantilelaw25.few; pantileref25.trimmed. -/
import Derived.Test.YtmoippbmnanajaaGreatDoorRY
set_option linter.unusedSimpArgs false
set_option linter.unusedVariables false
namespace P25
/-- Is an answer looked at? -/
def fewA {α β : Type} (names : List α) (rows : List (List β)) : Bool := (rows.all fun r => decide (r.length ≤ 20)) && decide (names.length ≤ 12) && decide (rows.length ≤ 30)
theorem all_false {α : Type} {p : α → Bool} {l : List α} {q : Nat} {x : α} (h : l[q]? = some x) (hp : p x = false) : l.all p = false := by
  rw [List.all_eq_false]
  exact ⟨x, List.mem_of_getElem? h, by simp [hp]⟩
theorem all_true {α : Type} {p : α → Bool} {l : List α} (h : ∀ (j : Nat) y, l[j]? = some y → p y = true) : l.all p = true := by
  rw [List.all_eq_true]
  intro x hx
  obtain ⟨j, hj⟩ := List.mem_iff_getElem?.1 hx
  exact h j x hj
end P25
namespace Go.Proofs.YtmoippbmnanajaaGreatDoor
open Go.RowKit
set_option maxRecDepth 100000 in
set_option maxHeartbeats 4000000 in
theorem few_any (vc vr : Value) (names : List (List UInt8)) (L : List (List V)) (cnt : Int) (w : World) (hc : StrsAt w vc names) (hr : RowsAt w vr L) (hn : names.length ≤ maxLen) (hL : L.length ≤ maxLen) (hl : ∀ r ∈ L, r.length ≤ maxLen) :
    Calls Tryz.prog 9 #[.agg #[vc, vr, .int .i64 cnt]] w fun e w' => e = .returned (.bool (P25.fewA names L)) ∧ Below w.heap.size w w' := by
  obtain ⟨pc, cc, rfl, -⟩ := hc.parts
  obtain ⟨pr, cr, rfl, hr'⟩ := hr.parts
  have HR := Lib.hid hr'
  have HL := Lib.hid hl
  have HF : Hid (P25.fewA names L = ((L.all fun r => decide (r.length ≤ 20)) && decide (names.length ≤ 12) && decide (L.length ≤ 30))) := Lib.hid rfl
  unfold maxLen at hn hL
  clear hc hr hr' hl
  go_enter Tryz.func9, Tryz.ntmps9
  go_wp2
  generalize hW0 : w.alloc _ = W0
  have hx0 : Xk.Ext w W0 := by subst hW0; exact ext_alloc _ _
  have k0 : W0.cell? ⟨w.heap.size, 0, none⟩ = some (.slice pc names.length cc) := by subst hW0; go_simp
  have k1 : W0.cell? ⟨w.heap.size, 1, none⟩ = some (.slice pr L.length cr) := by subst hW0; go_simp
  have lt0 : w.heap.size < W0.heap.size := by subst hW0; go_simp
  have HX0 := Lib.hid hx0
  clear hW0 hx0
  go_loopw [3] (fun x wr => ∃ q : Nat, q ≤ L.length ∧ x = .int .i64 q ∧ Below W0.heap.size W0 wr ∧ Hid (∀ (j : Nat) y, j < q → L[j]? = some y → decide (y.length ≤ 20) = true)) (fun x _ => L.length - (intOf x).toNat)
  case atStart => exact ⟨0, Nat.zero_le _, rfl, Below.refl _ _, Lib.hid fun j y hj => by omega⟩
  case round =>
    obtain ⟨q, hq, rfl, hbw, HN⟩ := hrel
    have m0 := Xk.ext_cell hbw k0
    have m1 := Xk.ext_cell hbw k1
    have hsz := hbw.size
    by_cases hlt : q < L.length
    · have hx : L[q]? = some (L[q]'hlt) := List.getElem?_eq_getElem _
      have HX := Lib.hid hx
      obtain ⟨b, off, u, rfl, d1, r1⟩ := HR.out q _ hx
      have d1 := Xk.ext_cell HX0.out d1
      have d1 := Xk.ext_cell hbw d1
      have l1 := World.block_lt_of_cell? _ _ d1
      obtain ⟨pu, cu, rfl, -⟩ := r1
      have HB := Lib.hid hbw
      have hrl := HL.out _ (List.mem_of_getElem? hx)
      unfold maxLen at hrl
      clear hx hbw
      generalize L[q]'hlt = x at *
      by_cases h20 : x.length ≤ 20
      · have h20' : ¬ (20 : Int) < (x.length : Int) := by omega
        go_wp2
        go_roundw
        case rel => exact ⟨q + 1, by omega, by go_num, HB.out, Lib.hid fun j y hj hy => by
          by_cases hjq : j = q
          · subst hjq; rw [HX.out] at hy; cases hy; exact decide_eq_true h20
          · exact HN.out j y (by omega) hy⟩
        case measure => simp [intOf]; omega
      · have h20' : (20 : Int) < (x.length : Int) := by omega
        have hf : P25.fewA names L = false := by rw [HF.out, P25.all_false HX.out (decide_eq_false h20)]; rfl
        go_wp2
        go_ret
        exact ⟨rfl, Xk.Ext.trans HX0.out HB.out⟩
    · have HB := Lib.hid hbw
      have hall : (L.all fun r => decide (r.length ≤ 20)) = true := P25.all_true fun j y hy => HN.out j y (by have := (List.getElem?_eq_some_iff.1 hy).1; omega) hy
      have hf : P25.fewA names L = (decide (names.length ≤ 12) && decide (L.length ≤ 30)) := by rw [HF.out, hall]; rfl
      have HF2 := Lib.hid hf
      clear hbw hall hf
      by_cases h12 : names.length ≤ 12
      · have h12' : (names.length : Int) ≤ 12 := by omega
        by_cases h30 : L.length ≤ 30
        · have h30' : (L.length : Int) ≤ 30 := by omega
          go_wp2
          go_ret
          exact ⟨by rw [HF2.out, decide_eq_true h12, decide_eq_true h30]; rfl, Xk.Ext.trans HX0.out HB.out⟩
        · have h30' : ¬ (L.length : Int) ≤ 30 := by omega
          go_wp2
          go_ret
          exact ⟨by rw [HF2.out, decide_eq_true h12, decide_eq_false h30]; rfl, Xk.Ext.trans HX0.out HB.out⟩
      · have h12' : ¬ (names.length : Int) ≤ 12 := by omega
        go_wp2
        go_ret
        exact ⟨by rw [HF2.out, decide_eq_false h12]; rfl, Xk.Ext.trans HX0.out HB.out⟩
end Go.Proofs.YtmoippbmnanajaaGreatDoor
