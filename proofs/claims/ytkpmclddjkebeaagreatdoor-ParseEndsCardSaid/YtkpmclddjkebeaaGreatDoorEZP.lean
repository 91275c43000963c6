/- ParseEnds holds: for every text and every count of blanks the law answers true. Conditions: none but the row's own; the listed tables are tied by the card. -/
import Derived.Test.YtkpmclddjkebeaaGreatDoorCards
import Derived.Test.YtkpmclddjkebeaaGreatDoorTie
import Derived.Test.YtkpmclddjkebeaaGreatDoorEZA
import Derived.Test.YtkpmclddjkebeaaGreatDoorEZG
import Derived.Test.YtkpmclddjkebeaaGreatDoorEZO
set_option linter.unusedSimpArgs false
set_option linter.unusedVariables false
set_option maxRecDepth 100000
set_option maxHeartbeats 8000000
namespace Go.Proofs.YtkpmclddjkebeaaGreatDoor.parseEnds
open Go.ChangeShapes Go.WideShapes Go.ChangeAt Go.RowKit
open Go.ChangeMaps (open_string shut_string)
theorem small_of {x : P12.St} (h : P12.isS x) : SmallS x := by
 obtain ⟨hx, h⟩ := h
 have kn : ∀ {α : Type} {l : List α} {m : Nat} {p : α → Bool}, P12.some l m p = true → l.length ≤ m ∧ ∀ a ∈ l, p a = true := fun h => by
  unfold P12.some at h
  simp only [Bool.and_eq_true, decide_eq_true_eq, List.all_eq_true] at h
  exact ⟨h.1.2, h.2⟩
 rcases h with ⟨hk, h⟩ | ⟨hk, h⟩ | ⟨hk, h⟩ | ⟨hk, h1, h2, h3⟩ | ⟨hk, h1, h2, h3⟩ | ⟨hk, h1, h2, h3⟩ | ⟨hk, h1, h2⟩ | ⟨hk, h⟩ | hk | hk | hk
 all_goals (unfold P12.keptOf at hx; simp only [hk] at hx; simp (config := { decide := true }) only [if_true, if_false] at hx)
 ·unfold P12.tabOk at h
  simp only [Bool.and_eq_true, decide_eq_true_eq, beq_iff_eq, List.all_eq_true] at h
  obtain ⟨⟨⟨⟨⟨⟨g1, g2⟩, g3⟩, g4⟩, g5⟩, g6⟩, g7⟩ := h
  constructor
  all_goals first
   | omega
   | (intro l hl; have := (kn (g5 l hl)).1; omega)
   | (rw [hx]; intro l hl; cases hl)
   | (rw [hx]; exact Nat.zero_le _)
 ·rw [hx]; constructor <;> simp
 ·rw [hx]; constructor <;> simp
 ·have := (kn h3).1
  rw [hx]; constructor <;> simp; omega
 ·have a1 : x.cols.length ≤ 16 := by rcases h2 with h2 | h2; rw [h2]; exact Nat.zero_le _; exact (kn h2).1
  have a2 := (kn h3).1
  have a3 : ∀ l ∈ x.rows, l.length ≤ 1000000 := fun l hl => by have := (kn ((kn h3).2 l hl)).1; omega
  constructor
  all_goals first
   | omega
   | exact a3
   | (rw [hx]; intro l hl; cases hl)
   | (rw [hx]; exact Nat.zero_le _)
 ·have a1 := (kn h2).1
  constructor
  all_goals first
   | omega
   | (rw [hx]; intro l hl; cases hl)
   | (rw [hx]; exact Nat.zero_le _)
 ·rw [hx]; constructor <;> simp
 ·unfold P12.selOk at h
  simp only [Bool.and_eq_true, decide_eq_true_eq] at h
  obtain ⟨⟨⟨⟨⟨⟨⟨⟨⟨g1, g2⟩, g3⟩, g4⟩, g5⟩, g6⟩, g7⟩, g8⟩, g9⟩, g10⟩ := h
  have a1 := (kn g1).1
  have a2 := (kn g2).1
  constructor
  all_goals first
   | omega
   | (rw [hx]; intro l hl; cases hl)
   | (rw [hx]; exact Nat.zero_le _)
 all_goals (rw [hx]; constructor <;> simp)
theorem lifted (os : Os) (started : os.Started) (H : Type) (enc : TypeId × Value → H) (F : Stop.Interp) :
  ReturnsInHanded {} Tryz.checked os 8 .any ((OpenSpec.ofChange Rows.parseEndsSpec).preRow enc Tryz.prog Tryz.f8 Rows.parseEndsRow.domain false Rows.parseEndsRow.laid) (((OpenSpec.ofChange Rows.parseEndsSpec).at F).post enc Tryz.prog Tryz.f8 false true false false) := by
 refine returnsInHanded_of_row (C := Tryz.checked) (s := OpenSpec.ofChange Rows.parseEndsSpec) Tryz.own started (by kernel_rfl) Tryz.func8
  (witness_law os #[.string ⟨#[]⟩, .int .u8 0] ([.lit (.string []), .lit (.int .u8 0)], [], []) (by kernel_rfl) (by kernel_rfl) (by kernel_rfl) (by kernel_rfl) (fun k hk => by cases hk) (by kernel_rfl) (by kernel_rfl) (by kernel_rfl) rfl) ?_
 intro W base args ds gs before hval0 hW _ _ hsz hL hS _
 obtain ⟨hE, hP⟩ := env_of rfl rfl hL hS
 have hval : ∀ (j : Nat) t v, Tryz.f8.params[j]? = some t → args[j]? = some v → Value.okWide Tryz.prog W .any base t v := hval0
 have hW' := hW
 obtain ⟨p, q, hA0, hV, rfl, hfz, hnd⟩ := hW
 have hA : DataW.TrodAll enc Tryz.prog W 0 (fun _ => true) true Tryz.f8.params.toList args.toList ds p := hA0
 have hA1 := hA
 rw [Tryz.params8] at hA hval
 obtain ⟨v0, v1, d0, d1, p0, p1, rfl, rfl, rfl, h0, h1⟩ := trodAll_two hA
 obtain ⟨rfl, rfl⟩ := trodVars_none hV
 obtain ⟨s, rfl, rfl, rfl, hs⟩ := open_string Tryz.underlying9 (hval 0 9 v0 rfl rfl) h0
 obtain ⟨k, rfl, rfl, rfl, wk⟩ := open_int Tryz.underlying5 (hval 1 5 v1 rfl rfl) h1
 have hk : 0 ≤ k ∧ k ≤ 255 := by simpa [Lit.wf, show IntKind.u8.min = 0 from rfl, show IntKind.u8.max = 255 from rfl] using wk
 obtain ⟨m, rfl⟩ : ∃ m : Nat, k = m := ⟨k.toNat, by omega⟩
 exact (ends_any s hs m (by omega) W hE hP (fun x S S' W l l' hx h h' => sameStmt_any h h' (small_of hx))).mono fun e W' ⟨he, hbl⟩ => ⟨_, he, post_true rfl rfl rfl (by kernel_rfl) hW' hA1 hbl⟩
theorem said : Rows.ParseEndsSaid :=
 OpenClaim.holds_of_cond 8 Tryz.f8 rfl rfl rfl rfl rfl rfl rfl ⟨rfl, rfl, rfl, rfl, rfl⟩ rfl rfl rfl rfl rfl (by kernel_rfl) Tryz.func8 (by kernel_rfl)
  (of_decide_eq_true (by kernel_rfl)) (by unfold Func.isWrapper; first | (rw [if_pos (by decide +kernel)]; kernel_rfl) | (rw [if_neg (by decide +kernel)]; exact ⟨rfl, rfl⟩))
  (fun os started H enc _ F => by rw [OpenClaim.pre_eq_preRow]; exact lifted os started H enc F)
theorem plain (f : FuncId) (fn : Func) (hf : Tryz.pinned.checked.prog.funcNamed "pantile/pantilelaw12.ParseEnds" = some f) (hfn : Tryz.pinned.checked.prog.funcs[f]? = some fn) :
  true = Tryz.pinned.checked.prog.looks [] ∧ ∀ (j : Nat) t, fn.params[j]? = some t → Tryz.pinned.checked.prog.wantsStandIn t = false := by
 obtain rfl : f = 8 := Option.some.inj ((show Tryz.prog.funcNamed "pantile/pantilelaw12.ParseEnds" = some 8 by kernel_rfl).symm.trans hf) |>.symm
 obtain rfl : fn = Tryz.f8 := (Option.some.inj (Tryz.func8.symm.trans hfn)).symm
 refine ⟨by kernel_rfl, fun j t ht => ?_⟩
 have hm := Array.mem_of_getElem? ht
 have hall : (Tryz.f8.params.all fun u => !Tryz.prog.wantsStandIn u) = true := by kernel_rfl
 exact (show Tryz.prog.wantsStandIn t = false by simpa using Array.all_eq_true_iff_forall_mem.1 hall t hm)
theorem card : Rows.ParseEndsCardSaid :=
 Claim7.holds_tied_plain_at .later [] _ _ _ _ said (fun _ h => by cases h) (by kernel_rfl) (fun _ h => by cases h) parseEnds_row_tie rfl ⟨rfl, rfl⟩ (by kernel_rfl) rfl plain (by kernel_rfl)
end Go.Proofs.YtkpmclddjkebeaaGreatDoor.parseEnds
