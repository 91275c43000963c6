/- ValueSorted holds: for every rows of values the law answers true. Conditions: none but the row's own; the listed tables are tied by the card. -/
import Derived.Test.YtpikcjpimciniaaDoorCards
import Derived.Test.YtpikcjpimciniaaDoorTie
import Derived.Test.YtpikcjpimciniaaDoorW
import Derived.Test.YtpikcjpimciniaaDoorV
set_option linter.unusedSimpArgs false
set_option linter.unusedVariables false
namespace Go.Proofs.YtpikcjpimciniaaDoor
open Go.RowKit Go.Deep
theorem open_rows {H : Type} {enc : TypeId × Value → H} {w : World} {base : Nat} {spare : Nat → Bool} {held : Bool} {n : Nat} {v : Value} {y : DataW H × List MemPlace}
    (h : DataW.trod enc Tryd.prog w base spare held n 38 [v] = some y) : ∃ (pa : Option Addr) (cap : Nat) (L : List (Value × List V)), v = .slice pa L.length cap ∧
      (∀ j x, L[j]? = some x → ∃ b off, pa = some ⟨b, off, none⟩ ∧ w.cell? ⟨b, off + j, none⟩ = some x.1 ∧ RowAt w x.1 x.2 ∧ x.2.length ≤ maxLen) ∧ L.length ≤ maxLen := by
  rcases open_slice Tryd.underlying38 h with ⟨e, -⟩ | ⟨a, len, cap, m, f, D, Pl, e, -, hlc, hcm, hm, -, hi⟩
  · simp only [List.cons.injEq, and_true] at e
    exact ⟨none, 0, [], e, fun j x hx => by simp at hx, by simp⟩
  · simp only [List.cons.injEq, and_true] at e
    have hlm : len ≤ m := by rw [hm]; split <;> omega
    rw [show Tryd.prog.cellsOf 35 = 1 by kernel_rfl] at hi
    have hx : ∀ i, ∃ x : Value × List V, i < len → w.cell? (a.add i) = some x.1 ∧ RowAt w x.1 x.2 ∧ x.2.length ≤ maxLen := by
      intro i
      by_cases hil : i < len
      · obtain ⟨cs, hc, ht⟩ := hi i (by omega)
        obtain ⟨-, hl, hg⟩ := World.cells?_some hc
        match cs, hl with
        | [c], _ =>
          obtain ⟨l, hr, hl'⟩ := open_row ht
          exact ⟨(c, l), fun _ => ⟨by simpa [Addr.add] using hg 0 (by omega), hr, hl'⟩⟩
      · exact ⟨(.slice none 0 0, []), fun h => absurd h hil⟩
    obtain ⟨X, hX⟩ := Classical.axiomOfChoice hx
    refine ⟨some a, cap, (List.range len).map X, by simpa using e, fun j x hj => ?_, by simp; omega⟩
    have hjl : j < len := by
      have := (List.getElem?_eq_some_iff.1 hj).1
      simpa using this
    have hxj : X j = x := by
      have := (List.getElem?_eq_some_iff.1 hj).2
      simpa using this
    subst hxj
    have hsp : a.spot = none := by simpa [Addr.add] using World.cell?_spot (hX 0 (by omega)).1
    obtain ⟨b, off, sp⟩ := a
    cases hsp
    obtain ⟨h1, h2, h3⟩ := hX j hjl
    rw [add_cell] at h1
    exact ⟨b, off, rfl, h1, h2, h3⟩
end Go.Proofs.YtpikcjpimciniaaDoor
namespace Go.Proofs.YtpikcjpimciniaaDoor.valueSorted
open Go.ChangeShapes Go.WideShapes Go.ChangeAt Go.RowKit
open Go.ChangeMaps (open_string shut_string)

set_option maxRecDepth 100000 in
theorem lifted (os : Os) (started : os.Started) (H : Type) (enc : TypeId × Value → H) (F : Stop.Interp) :
    ReturnsInHanded {} Tryd.checked os 6 .any ((OpenSpec.ofChange Rows.valueSortedSpec).preRow enc Tryd.prog Tryd.f6 Rows.valueSortedRow.domain false Rows.valueSortedRow.laid) (((OpenSpec.ofChange Rows.valueSortedSpec).at F).post enc Tryd.prog Tryd.f6 false true false false) := by
  refine returnsInHanded_of_row (C := Tryd.checked) (s := OpenSpec.ofChange Rows.valueSortedSpec) Tryd.own started (by kernel_rfl) Tryd.func6
    (witness_law os #[.slice none 0 0] ([.nil], [], []) (by kernel_rfl) (by kernel_rfl) (by kernel_rfl) (by kernel_rfl) (fun k hk => by cases hk) (by kernel_rfl) (by kernel_rfl) (by kernel_rfl) rfl) ?_
  intro W base args ds gs before hval0 hW _ _ hsz hL hS _
  have hE : Env W := env_of (laid := Rows.valueSortedRow.laid) (by simp [Rows.valueSortedRow]) hL hS
  have hval : ∀ (j : Nat) t v, Tryd.f6.params[j]? = some t → args[j]? = some v → Value.okWide Tryd.prog W .any base t v := hval0
  have hW' := hW
  obtain ⟨p, q, hA0, hV, rfl, hfz, hnd⟩ := hW
  have hA : DataW.TrodAll enc Tryd.prog W 0 (fun _ => true) true Tryd.f6.params.toList args.toList ds p := hA0
  have hA1 := hA
  rw [Tryd.params6] at hA hval
  obtain ⟨v0, d0, rfl, rfl, h0⟩ := trodAll_one hA
  obtain ⟨rfl, rfl⟩ := trodVars_none hV
  obtain ⟨a0, l0, c0, rfl⟩ := okWide_slice Tryd.underlying38 (hval 0 38 v0 rfl rfl)
  obtain ⟨n0, f0⟩ := h0
  obtain ⟨pa, cap, L, e, hl, hl'⟩ := open_rows f0
  rw [e]
  rw [e] at hW' hA1
  exact (valueSorted_walk pa cap L W hE hl hl').mono fun e W' ⟨he, hb⟩ => ⟨_, he, post_true rfl rfl rfl (by kernel_rfl) hW' hA1 hb⟩

theorem said : Rows.ValueSortedSaid :=
  OpenClaim.holds_of_cond 6 Tryd.f6 rfl rfl rfl rfl rfl rfl rfl ⟨rfl, rfl, rfl, rfl, rfl⟩ rfl rfl rfl rfl rfl (by kernel_rfl) Tryd.func6 (by kernel_rfl)
    (of_decide_eq_true (by kernel_rfl)) (by unfold Func.isWrapper; first | (rw [if_pos (by decide +kernel)]; kernel_rfl) | (rw [if_neg (by decide +kernel)]; exact ⟨rfl, rfl⟩))
    (fun os started H enc _ F => by rw [OpenClaim.pre_eq_preRow]; exact lifted os started H enc F)
theorem plain (f : FuncId) (fn : Func) (hf : Tryd.pinned.checked.prog.funcNamed "pantile/pantilelaw6.ValueSorted" = some f) (hfn : Tryd.pinned.checked.prog.funcs[f]? = some fn) :
    false = Tryd.pinned.checked.prog.looks [] ∧ ∀ (j : Nat) t, fn.params[j]? = some t → Tryd.pinned.checked.prog.wantsStandIn t = false := by
  obtain rfl : f = 6 := Option.some.inj ((show Tryd.prog.funcNamed "pantile/pantilelaw6.ValueSorted" = some 6 by kernel_rfl).symm.trans hf) |>.symm
  obtain rfl : fn = Tryd.f6 := (Option.some.inj (Tryd.func6.symm.trans hfn)).symm
  refine ⟨by kernel_rfl, fun j t ht => ?_⟩
  have hm := Array.mem_of_getElem? ht
  have hall : (Tryd.f6.params.all fun u => !Tryd.prog.wantsStandIn u) = true := by kernel_rfl
  exact (show Tryd.prog.wantsStandIn t = false by simpa using Array.all_eq_true_iff_forall_mem.1 hall t hm)
theorem card : Rows.ValueSortedCardSaid :=
  Claim7.holds_tied_plain_at .later [] _ _ _ _ said (fun _ h => by cases h) (by kernel_rfl) (fun _ h => by cases h) valueSorted_row_tie rfl ⟨rfl, rfl⟩ (by kernel_rfl) rfl plain (by kernel_rfl)
end Go.Proofs.YtpikcjpimciniaaDoor.valueSorted
