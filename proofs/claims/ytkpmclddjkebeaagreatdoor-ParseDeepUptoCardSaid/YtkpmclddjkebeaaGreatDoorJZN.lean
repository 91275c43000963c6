/- ParseDeep holds, in its form with a bound: for every number and every row of bytes of bulk at most 1048576 the law answers true. Conditions: the bulk; the listed tables are tied by the card. -/
import Derived.Test.YtkpmclddjkebeaaGreatDoorCards
import Derived.Test.YtkpmclddjkebeaaGreatDoorTie
import Derived.Test.YtkpmclddjkebeaaGreatDoorJZA
import Derived.Test.YtkpmclddjkebeaaGreatDoorJZD
import Derived.ChangeSlices
set_option linter.unusedSimpArgs false
set_option linter.unusedVariables false
set_option maxRecDepth 100000
set_option maxHeartbeats 8000000
namespace Go.Proofs.YtkpmclddjkebeaaGreatDoor.parseDeep
open Go.ChangeShapes Go.WideShapes Go.ChangeAt Go.RowKit
theorem liftedUpto (os : Os) (started : os.Started) (H : Type) (enc : TypeId × Value → H) (F : Stop.Interp) :
  ReturnsInHanded {} Tryz.checked os 5 .any ((Rows.OpenSpec.upto Rows.parseDeepSpec).preRow enc Tryz.prog Tryz.f5 Rows.parseDeepUptoRow.domain false Rows.parseDeepUptoRow.laid) (((Rows.OpenSpec.upto Rows.parseDeepSpec).at F).post enc Tryz.prog Tryz.f5 false true false false) := by
 refine returnsInHanded_of_row (C := Tryz.checked) (s := Rows.OpenSpec.upto Rows.parseDeepSpec) Tryz.own started (by kernel_rfl) Tryz.func5
  (witness_law os #[.int .i64 0, .slice none 0 0] ([.lit (.int .i64 0), .nil], [], []) (by kernel_rfl) (by kernel_rfl) (by kernel_rfl) (by kernel_rfl) (fun k hk => by cases hk; kernel_rfl) (by kernel_rfl) (by kernel_rfl) (by kernel_rfl) rfl) ?_
 intro W base args ds gs before hval0 hW _ hk hsz hL hS _
 have hbulk : Rows.uptoBulkAll (ds ++ gs) ≤ 1048576 := of_decide_eq_true (hk _ rfl)
 obtain ⟨hE, hP⟩ := env_of rfl rfl hL hS
 have hval : ∀ (j : Nat) t v, Tryz.f5.params[j]? = some t → args[j]? = some v → Value.okWide Tryz.prog W .any base t v := hval0
 have hW' := hW
 obtain ⟨p, q, hA0, hV, rfl, hfz, hnd⟩ := hW
 have hA : DataW.TrodAll enc Tryz.prog W 0 (fun _ => true) true Tryz.f5.params.toList args.toList ds p := hA0
 have hA1 := hA
 rw [Tryz.params5] at hA hval
 obtain ⟨v0, v1, d0, d1, p0, p1, rfl, rfl, rfl, h0, h1⟩ := trodAll_two hA
 obtain ⟨rfl, rfl⟩ := trodVars_none hV
 obtain ⟨a, rfl, rfl, rfl, wa⟩ := open_int Tryz.underlying3 (hval 0 3 v0 rfl rfl) h0
 obtain ⟨a1, l1, c1, rfl⟩ := okWide_slice Tryz.underlying51 (hval 1 51 v1 rfl rfl)
 obtain ⟨n1, f1⟩ := h1
 rcases Go.ChangeShapes.open_ints Tryz.underlying51 Tryz.underlying5 (by kernel_rfl) f1 with ⟨e1, -⟩ | ⟨r, len, cap, zs, e1, -, hlc, hcm, hzl, -, hcell, hwf⟩
 ·have e1 : [Value.slice a1 l1 c1] = [.slice none 0 0] := by simpa [Value.cells] using e1
  obtain ⟨rfl, rfl, rfl⟩ : a1 = none ∧ l1 = 0 ∧ c1 = 0 := by simpa using e1
  exact (deep_any a none 0 0 W (fun j hj => by omega) hE hP).mono fun e W' ⟨he, hbl⟩ => ⟨_, he, post_true rfl rfl rfl (by kernel_rfl) hW' hA1 hbl⟩
 ·have e1 : [Value.slice a1 l1 c1] = [.slice (some r) len cap] := by simpa [Value.cells] using e1
  obtain ⟨rfl, rfl, rfl⟩ : a1 = some r ∧ l1 = len ∧ c1 = cap := by simpa using e1
  have hlz : l1 ≤ zs.length := by rw [hzl]; split <;> omega
  refine (deep_any a (some r) l1 c1 W (fun j hj => ?_) hE hP).mono fun e W' ⟨he, hbl⟩ => ⟨_, he, post_true rfl rfl rfl (by kernel_rfl) hW' hA1 hbl⟩
  have hc := hcell j (by omega)
  obtain ⟨g, o, x⟩ := r
  have hx : x = none := by
   cases x with
   | none => rfl
   | some y =>
    exfalso
    have h0 := hcell 0 (by omega)
    rw [show (Addr.mk g o (some y)).add 0 = Addr.mk g o (some y) from rfl] at h0
    unfold World.cell? at h0
    split at h0
    ·simp at h0
    ·cases h0
  subst hx
  have hc2 : W.cell? ⟨g, o + j, none⟩ = some (.int .u8 (zs.getD j 0)) := by
   have ha : (Addr.mk g o none).add j = ⟨g, o + j, none⟩ := by
    unfold Addr.add
    split
    ·rename_i h0; rw [h0]; rfl
    ·rfl
   rwa [ha] at hc
  have hw := hwf (zs.getD j 0) (by rw [List.getD_eq_getElem?_getD, List.getElem?_eq_getElem (by omega)]; exact List.getElem_mem _)
  have hb : 0 ≤ zs.getD j 0 ∧ zs.getD j 0 ≤ 255 := by simpa [Lit.wf, show IntKind.u8.min = 0 from rfl, show IntKind.u8.max = 255 from rfl] using hw
  exact ⟨g, o, _, rfl, hc2, hb.1, hb.2⟩
theorem saidUpto : Rows.ParseDeepUptoSaid :=
 OpenClaim.holds_of_cond 5 Tryz.f5 rfl rfl rfl rfl rfl rfl rfl ⟨rfl, rfl, rfl, rfl, rfl⟩ rfl rfl rfl rfl rfl (by kernel_rfl) Tryz.func5 (by kernel_rfl)
  (of_decide_eq_true (by kernel_rfl)) (by unfold Func.isWrapper; first | (rw [if_pos (by decide +kernel)]; kernel_rfl) | (rw [if_neg (by decide +kernel)]; exact ⟨rfl, rfl⟩))
  (fun os started H enc _ F => by rw [OpenClaim.pre_eq_preRow]; exact liftedUpto os started H enc F)
theorem plain (f : FuncId) (fn : Func) (hf : Tryz.pinned.checked.prog.funcNamed "pantile/pantilelaw12.ParseDeep" = some f) (hfn : Tryz.pinned.checked.prog.funcs[f]? = some fn) :
  true = Tryz.pinned.checked.prog.looks [] ∧ ∀ (j : Nat) t, fn.params[j]? = some t → Tryz.pinned.checked.prog.wantsStandIn t = false := by
 obtain rfl : f = 5 := Option.some.inj ((show Tryz.prog.funcNamed "pantile/pantilelaw12.ParseDeep" = some 5 by kernel_rfl).symm.trans hf) |>.symm
 obtain rfl : fn = Tryz.f5 := (Option.some.inj (Tryz.func5.symm.trans hfn)).symm
 refine ⟨by kernel_rfl, fun j t ht => ?_⟩
 have hm := Array.mem_of_getElem? ht
 have hall : (Tryz.f5.params.all fun u => !Tryz.prog.wantsStandIn u) = true := by kernel_rfl
 exact (show Tryz.prog.wantsStandIn t = false by simpa using Array.all_eq_true_iff_forall_mem.1 hall t hm)
theorem cardUpto : Rows.ParseDeepUptoCardSaid :=
 Claim7.holds_tied_plain_at .later [] _ _ _ _ saidUpto (fun _ h => by cases h) (by kernel_rfl) (fun _ h => by cases h) parseDeepUpto_row_tie rfl ⟨rfl, rfl⟩ (by kernel_rfl) rfl plain (by kernel_rfl)
end Go.Proofs.YtkpmclddjkebeaaGreatDoor.parseDeep
