/- ParseNumbers holds: for every number, every count of noughts and every text the law answers true. Conditions: none but the row's own; the listed tables are tied by the card. -/
import Derived.Test.YtkpmclddjkebeaaGreatDoorCards
import Derived.Test.YtkpmclddjkebeaaGreatDoorTie
import Derived.Test.YtkpmclddjkebeaaGreatDoorUZA
import Derived.Test.YtkpmclddjkebeaaGreatDoorUZG
import Derived.Test.YtkpmclddjkebeaaGreatDoorUZI
set_option linter.unusedSimpArgs false
set_option linter.unusedVariables false
set_option maxRecDepth 100000
set_option maxHeartbeats 8000000
namespace Go.Proofs.YtkpmclddjkebeaaGreatDoor.parseNumbers
open Go.ChangeShapes Go.WideShapes Go.ChangeAt Go.RowKit
open Go.ChangeMaps (open_string shut_string)
theorem small_num (n : Int) : SmallS (P12.numS n) := by constructor <;> simp [P12.numS]
theorem lifted (os : Os) (started : os.Started) (H : Type) (enc : TypeId × Value → H) (F : Stop.Interp) :
  ReturnsInHanded {} Tryz.checked os 6 .any ((OpenSpec.ofChange Rows.parseNumbersSpec).preRow enc Tryz.prog Tryz.f6 Rows.parseNumbersRow.domain false Rows.parseNumbersRow.laid) (((OpenSpec.ofChange Rows.parseNumbersSpec).at F).post enc Tryz.prog Tryz.f6 false true false false) := by
 refine returnsInHanded_of_row (C := Tryz.checked) (s := OpenSpec.ofChange Rows.parseNumbersSpec) Tryz.own started (by kernel_rfl) Tryz.func6
  (witness_law os #[.int .i64 0, .int .u8 0, .string ⟨#[]⟩] ([.lit (.int .i64 0), .lit (.int .u8 0), .lit (.string [])], [], []) (by kernel_rfl) (by kernel_rfl) (by kernel_rfl) (by kernel_rfl) (fun k hk => by cases hk) (by kernel_rfl) (by kernel_rfl) (by kernel_rfl) rfl) ?_
 intro W base args ds gs before hval0 hW _ _ hsz hL hS _
 obtain ⟨hE, hP⟩ := env_of rfl rfl hL hS
 have hval : ∀ (j : Nat) t v, Tryz.f6.params[j]? = some t → args[j]? = some v → Value.okWide Tryz.prog W .any base t v := hval0
 have hW' := hW
 obtain ⟨p, q, hA0, hV, rfl, hfz, hnd⟩ := hW
 have hA : DataW.TrodAll enc Tryz.prog W 0 (fun _ => true) true Tryz.f6.params.toList args.toList ds p := hA0
 have hA1 := hA
 rw [Tryz.params6] at hA hval
 obtain ⟨v0, v1, v2, d0, d1, d2, p0, p1, p2, rfl, rfl, rfl, h0, h1, h2⟩ := trodAll_three hA
 obtain ⟨rfl, rfl⟩ := trodVars_none hV
 obtain ⟨n, rfl, rfl, rfl, wn⟩ := open_int Tryz.underlying2 (hval 0 2 v0 rfl rfl) h0
 obtain ⟨k, rfl, rfl, rfl, wk⟩ := open_int Tryz.underlying5 (hval 1 5 v1 rfl rfl) h1
 obtain ⟨s, rfl, rfl, rfl, hs⟩ := open_string Tryz.underlying9 (hval 2 9 v2 rfl rfl) h2
 have hn : -9223372036854775808 ≤ n ∧ n ≤ 9223372036854775807 := by simpa [Lit.wf, show IntKind.i64.min = -9223372036854775808 from rfl, show IntKind.i64.max = 9223372036854775807 from rfl] using wn
 have hk : 0 ≤ k ∧ k ≤ 255 := by simpa [Lit.wf, show IntKind.u8.min = 0 from rfl, show IntKind.u8.max = 255 from rfl] using wk
 obtain ⟨m, rfl⟩ : ∃ m : Nat, k = m := ⟨k.toNat, by omega⟩
 exact (numbers_any n hn.1 hn.2 m (by omega) s hs W hE hP (fun S S' W l l' h h' => sameStmt_any h h' (small_num n))).mono fun e W' ⟨he, hbl⟩ => ⟨_, he, post_true rfl rfl rfl (by kernel_rfl) hW' hA1 hbl⟩
theorem said : Rows.ParseNumbersSaid :=
 OpenClaim.holds_of_cond 6 Tryz.f6 rfl rfl rfl rfl rfl rfl rfl ⟨rfl, rfl, rfl, rfl, rfl⟩ rfl rfl rfl rfl rfl (by kernel_rfl) Tryz.func6 (by kernel_rfl)
  (of_decide_eq_true (by kernel_rfl)) (by unfold Func.isWrapper; first | (rw [if_pos (by decide +kernel)]; kernel_rfl) | (rw [if_neg (by decide +kernel)]; exact ⟨rfl, rfl⟩))
  (fun os started H enc _ F => by rw [OpenClaim.pre_eq_preRow]; exact lifted os started H enc F)
theorem plain (f : FuncId) (fn : Func) (hf : Tryz.pinned.checked.prog.funcNamed "pantile/pantilelaw12.ParseNumbers" = some f) (hfn : Tryz.pinned.checked.prog.funcs[f]? = some fn) :
  true = Tryz.pinned.checked.prog.looks [] ∧ ∀ (j : Nat) t, fn.params[j]? = some t → Tryz.pinned.checked.prog.wantsStandIn t = false := by
 obtain rfl : f = 6 := Option.some.inj ((show Tryz.prog.funcNamed "pantile/pantilelaw12.ParseNumbers" = some 6 by kernel_rfl).symm.trans hf) |>.symm
 obtain rfl : fn = Tryz.f6 := (Option.some.inj (Tryz.func6.symm.trans hfn)).symm
 refine ⟨by kernel_rfl, fun j t ht => ?_⟩
 have hm := Array.mem_of_getElem? ht
 have hall : (Tryz.f6.params.all fun u => !Tryz.prog.wantsStandIn u) = true := by kernel_rfl
 exact (show Tryz.prog.wantsStandIn t = false by simpa using Array.all_eq_true_iff_forall_mem.1 hall t hm)
theorem card : Rows.ParseNumbersCardSaid :=
 Claim7.holds_tied_plain_at .later [] _ _ _ _ said (fun _ h => by cases h) (by kernel_rfl) (fun _ h => by cases h) parseNumbers_row_tie rfl ⟨rfl, rfl⟩ (by kernel_rfl) rfl plain (by kernel_rfl)
end Go.Proofs.YtkpmclddjkebeaaGreatDoor.parseNumbers
