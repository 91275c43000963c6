/- ParseReads holds: for every text the law answers true. Conditions: none but the row's own; the listed tables are tied by the card. -/
import Derived.Test.YtkpmclddjkebeaaGreatDoorCards
import Derived.Test.YtkpmclddjkebeaaGreatDoorTie
import Derived.Test.YtkpmclddjkebeaaGreatDoorRZA
import Derived.Test.YtkpmclddjkebeaaGreatDoorRS
set_option linter.unusedSimpArgs false
set_option linter.unusedVariables false
set_option maxRecDepth 100000
set_option maxHeartbeats 80000000
open Go.DataW renaming TrodAll→BR
open Go.OpenSpec renaming ofChange→lL
open Go.Proofs.Tryz renaming f3→pO,prog→af,underlying9→ef
open Go.Proofs.YtkpmclddjkebeaaGreatDoor.Rows renaming parseReadsSpec→lx
open Option.some renaming inj→iy
namespace Go.Proofs.YtkpmclddjkebeaaGreatDoor.parseReads
open Go.ChangeShapes Go.WideShapes Go.ChangeAt Go.RowKit
open Go.ChangeMaps (open_string shut_string)
theorem lifted(os:Os)(started:os.Started)(H:Type)(enc:TypeId×Value->H)(F:Stop.Interp):
  ReturnsInHanded {} Tryz.checked os 3 .any ((lL lx).preRow enc af pO Rows.parseReadsRow.domain false Rows.parseReadsRow.laid) (((lL lx).at F).post enc af pO false true false false):=by
 refine returnsInHanded_of_row (C:=Tryz.checked) (s:=lL lx) Tryz.own started au Tryz.func3
  (xG os #[.string ⟨#[]⟩] ([.lit (.string [])],[],[]) au au au au (λk hk=>by cases hk) au au au rfl) ?_
 intro W base args ds gs before hval0 hW _ _ hsz hL hS _;obtain⟨hE,hP⟩:=JW rfl rfl hL hS;have hval:∀ (j:Nat) t v,pO.params[j]?=some t->args[j]?=some v->Value.okWide af W .any base t v:=hval0;have hW':=hW;obtain⟨p,q,hA0,hV,rfl,hfz,hnd⟩:=hW;have hA:BR enc af W 0 (λ_=>true) true pO.params.toList args.toList ds p:=hA0;have hA1:=hA;rw[Tryz.params3]at hA hval;obtain⟨v0,d0,rfl,rfl,h0⟩:=trodAll_one hA;obtain⟨rfl,rfl⟩:=trodVars_none hV;obtain⟨s,rfl,rfl,rfl,hs⟩:=open_string ef (hval 0 9 v0 rfl rfl) h0;exact(C6 s W hE hP).mono λe W' ⟨he,hbl⟩=>⟨_,he,Db rfl rfl rfl au hW' hA1 hbl⟩
theorem closed:joinedFacts af 3 pO (lL lx).bare Rows.parseReadsRow=true:=by
 unfold joinedFacts;repeat' with_reducible refine Bool.and_eq_true_iff.2 ⟨?_,?_⟩
 all_goals(as_aux_lemma=>kernel_rfl)
theorem said:Rows.ParseReadsSaid:=
 OpenClaim.holds_of_cond 3 pO rfl rfl rfl rfl rfl rfl rfl ⟨rfl,rfl,rfl,rfl,rfl⟩ rfl rfl rfl rfl rfl au Tryz.func3 closed
  (of_decide_eq_true au) (by unfold Func.isWrapper;first|(rw[if_pos (by decide +kernel)];kernel_rfl)|(rw[if_neg (by decide +kernel)];exact⟨rfl,rfl⟩))
  (λos started H enc _ F=>by rw[OpenClaim.pre_eq_preRow];exact lifted os started H enc F)
theorem plain (f : FuncId) (fn : Func) (hf : Tryz.pinned.checked.prog.funcNamed "pantile/pantilelaw12.ParseReads" = some f) (hfn : Tryz.pinned.checked.prog.funcs[f]? = some fn) :
  true=Tryz.pinned.checked.prog.looks []/\∀ (j:Nat) t,fn.params[j]?=some t->Tryz.pinned.checked.prog.wantsStandIn t=false:=by
 obtain rfl : f = 3 := Option.some.inj ((show Tryz.prog.funcNamed "pantile/pantilelaw12.ParseReads" = some 3 by kernel_rfl).symm.trans hf) |>.symm
 obtain rfl:fn=pO:=(iy (Tryz.func3.symm.trans hfn)).symm;refine⟨by kernel_rfl,λj t ht=>?_⟩;have hm:=Array.mem_of_getElem? ht;have hall:(pO.params.all λu => !af.wantsStandIn u)=true:=au;exact(show af.wantsStandIn t=false by simpa using Array.all_eq_true_iff_forall_mem.1 hall t hm)
theorem card:Rows.ParseReadsCardSaid:=
 Claim7.holds_tied_plain_at .later [] _ _ _ _ said (λ_ h=>by cases h) au (λ_ h=>by cases h) parseReads_row_tie rfl ⟨rfl,rfl⟩ au rfl plain au
end Go.Proofs.YtkpmclddjkebeaaGreatDoor.parseReads
