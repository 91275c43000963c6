/- ReportWide holds, in its form with a bound: for every row of numbers and every name's length, of bulk at most 1048576, the law answers true. Conditions: the bulk; the listed tables are tied by the card. -/
import Derived.Test.YtmoippbmnanajaaGreatDoorCards
import Derived.Test.YtmoippbmnanajaaGreatDoorTie
import Derived.Test.YtmoippbmnanajaaGreatDoorRZ
import Derived.Test.YtmoippbmnanajaaGreatDoorSP
set_option linter.unusedSimpArgs false
set_option linter.unusedVariables false
namespace Go.Proofs.YtmoippbmnanajaaGreatDoor
open Go.RowKit Go.Deep Go.WideShapes Go.ChangeShapes
set_option maxRecDepth 100000 in
theorem open_ints32 {H : Type} {enc : TypeId × Value → H} {w : World} {base : Nat} {spare : Nat → Bool} {held : Bool} {n : Nat} {v : Value} {y : DataW H × List MemPlace} (h : DataW.trod enc Tryz.prog w base spare held n 34 [v] = some y) :
    ∃ l : List Int, Ints32 w v l ∧ l.length ≤ maxLen := by
  obtain ⟨l, h1, h2, -⟩ := open_sl (y := y) 1 (by decide) intR32 (fun _ _ => True) Tryz.underlying34 (by kernel_rfl) h fun m cs b o y' hl hg ht => by
    match cs, hl with
    | [c], _ =>
      obtain ⟨x, e, -, wx⟩ := DataW.trod_int Tryz.underlying21 ht
      simp only [List.cons.injEq, and_true] at e
      subst e
      have hi : -2147483648 ≤ x ∧ x ≤ 2147483647 := by simpa [Lit.wf, show IntKind.i32.min = -2147483648 from rfl, show IntKind.i32.max = 2147483647 from rfl] using wx
      exact ⟨x, ⟨hg 0 (by decide), hi⟩, trivial⟩
  exact ⟨l, h1, h2⟩
end Go.Proofs.YtmoippbmnanajaaGreatDoor
namespace Go.Proofs.YtmoippbmnanajaaGreatDoor.reportWide
open Go.ChangeShapes Go.WideShapes Go.ChangeAt Go.RowKit

set_option maxRecDepth 100000 in
theorem liftedUpto (os : Os) (started : os.Started) (H : Type) (enc : TypeId × Value → H) (F : Stop.Interp) :
    ReturnsInHanded {} Tryz.checked os 6 .any ((Rows.OpenSpec.upto Rows.reportWideSpec).preRow enc Tryz.prog Tryz.f6 Rows.reportWideUptoRow.domain false Rows.reportWideUptoRow.laid) (((Rows.OpenSpec.upto Rows.reportWideSpec).at F).post enc Tryz.prog Tryz.f6 false true false false) := by
  refine returnsInHanded_of_row (C := Tryz.checked) (s := Rows.OpenSpec.upto Rows.reportWideSpec) Tryz.own started (by kernel_rfl) Tryz.func6
    (witness_law os #[.slice none 0 0, .int .u8 0] ([.nil, .lit (.int .u8 0)], [], []) (by kernel_rfl) (by kernel_rfl) (by kernel_rfl) (by kernel_rfl) (fun k hk => by cases hk; kernel_rfl) (by kernel_rfl) (by kernel_rfl) (by kernel_rfl) rfl) ?_
  intro W base args ds gs before hval0 hW _ hk hsz hL hS _
  have hbulk : Rows.uptoBulkAll (ds ++ gs) ≤ 1048576 := of_decide_eq_true (hk _ rfl)
  have hE : EnvR W := env_of rfl rfl rfl hL hS
  have hval : ∀ (j : Nat) t v, Tryz.f6.params[j]? = some t → args[j]? = some v → Value.okWide Tryz.prog W .any base t v := hval0
  have hW' := hW
  obtain ⟨p, q, hA0, hV, rfl, hfz, hnd⟩ := hW
  have hA : DataW.TrodAll enc Tryz.prog W 0 (fun _ => true) true Tryz.f6.params.toList args.toList ds p := hA0
  have hA1 := hA
  rw [Tryz.params6] at hA hval
  obtain ⟨v0, v1, d0, d1, p0, p1, rfl, rfl, rfl, h0, h1⟩ := trodAll_two hA
  obtain ⟨rfl, rfl⟩ := trodVars_none hV
  obtain ⟨a0, l0, c0, rfl⟩ := okWide_slice Tryz.underlying34 (hval 0 34 v0 rfl rfl)
  obtain ⟨nm, rfl, rfl, rfl, wn⟩ := open_int Tryz.underlying5 (hval 1 5 v1 rfl rfl) h1
  have hn : 0 ≤ nm ∧ nm ≤ 255 := by simpa [Lit.wf, show IntKind.u8.min = 0 from rfl, show IntKind.u8.max = 255 from rfl] using wn
  obtain ⟨m, rfl⟩ := Int.eq_ofNat_of_zero_le hn.1
  obtain ⟨n0, f0⟩ := h0
  obtain ⟨l, hl, hl'⟩ := open_ints32 f0
  exact (reportWide_any _ l m W hE hl hl' (by omega)).mono fun e W' ⟨he, hb⟩ => ⟨_, he, post_true rfl rfl rfl (by kernel_rfl) hW' hA1 hb⟩

theorem saidUpto : Rows.ReportWideUptoSaid :=
  OpenClaim.holds_of_cond 6 Tryz.f6 rfl rfl rfl rfl rfl rfl rfl ⟨rfl, rfl, rfl, rfl, rfl⟩ rfl rfl rfl rfl rfl (by kernel_rfl) Tryz.func6 (by kernel_rfl)
    (of_decide_eq_true (by kernel_rfl)) (by unfold Func.isWrapper; first | (rw [if_pos (by decide +kernel)]; kernel_rfl) | (rw [if_neg (by decide +kernel)]; exact ⟨rfl, rfl⟩))
    (fun os started H enc _ F => by rw [OpenClaim.pre_eq_preRow]; exact liftedUpto os started H enc F)
theorem plain (f : FuncId) (fn : Func) (hf : Tryz.pinned.checked.prog.funcNamed "pantile/pantilelaw25.ReportWide" = some f) (hfn : Tryz.pinned.checked.prog.funcs[f]? = some fn) :
    true = Tryz.pinned.checked.prog.looks [] ∧ ∀ (j : Nat) t, fn.params[j]? = some t → Tryz.pinned.checked.prog.wantsStandIn t = false := by
  obtain rfl : f = 6 := Option.some.inj ((show Tryz.prog.funcNamed "pantile/pantilelaw25.ReportWide" = some 6 by kernel_rfl).symm.trans hf) |>.symm
  obtain rfl : fn = Tryz.f6 := (Option.some.inj (Tryz.func6.symm.trans hfn)).symm
  refine ⟨by kernel_rfl, fun j t ht => ?_⟩
  have hm := Array.mem_of_getElem? ht
  have hall : (Tryz.f6.params.all fun u => !Tryz.prog.wantsStandIn u) = true := by kernel_rfl
  exact (show Tryz.prog.wantsStandIn t = false by simpa using Array.all_eq_true_iff_forall_mem.1 hall t hm)
theorem cardUpto : Rows.ReportWideUptoCardSaid :=
  Claim7.holds_tied_plain_at .later [] _ _ _ _ saidUpto (fun _ h => by cases h) (by kernel_rfl) (fun _ h => by cases h) reportWideUpto_row_tie rfl ⟨rfl, rfl⟩ (by kernel_rfl) rfl plain (by kernel_rfl)
end Go.Proofs.YtmoippbmnanajaaGreatDoor.reportWide
