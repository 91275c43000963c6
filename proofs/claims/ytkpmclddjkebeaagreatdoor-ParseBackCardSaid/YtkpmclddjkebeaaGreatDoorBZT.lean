/- ParseBack holds: for every text the law answers true. Conditions: none but the row's own; the listed tables are tied by the card. -/
import Derived.Test.YtkpmclddjkebeaaGreatDoorCards
import Derived.Test.YtkpmclddjkebeaaGreatDoorTie
import Derived.Test.YtkpmclddjkebeaaGreatDoorBZA
import Derived.Test.YtkpmclddjkebeaaGreatDoorBZS
set_option linter.unusedSimpArgs false
set_option linter.unusedVariables false
set_option maxRecDepth 100000
set_option maxHeartbeats 8000000
open Bool renaming and_eq_true→aq
open Go.DataW renaming TrodAll→Bh
open Go.OpenSpec renaming ofChange→qB
open Go.Proofs.Tryz renaming f4→sn,prog→ab,underlying9→fy
open Go.Proofs.YtkpmclddjkebeaaGreatDoor.Rows renaming parseBackSpec→rD
open List renaming all_eq_true→bA
open Nat renaming zero_le→fP
open Option.some renaming inj→lP
open List renaming take_succ_cons→aA,drop_succ_cons→aG,take_zero→aS,drop_zero→aT
open Go.World renaming size_setCell→aQ,size_alloc→af,size_drew→cQ
open Go.Lib renaming hid→aa
open Exists renaming intro→ai
open Go.RowKit.Below renaming refl→aj
open Go.Region renaming wanted→bO
open Go.Code renaming region→gC
open Or renaming inl→oQ,inr→zc
namespace Go.Proofs.YtkpmclddjkebeaaGreatDoor.parseBack
open Go.ChangeShapes Go.WideShapes Go.ChangeAt Go.RowKit
open Go.ChangeMaps (open_string shut_string)
theorem Eb{x:P12.St}(h:P12.isS x):Be x:=by
 obtain⟨hx,h⟩:=h
 have kn:∀ {α:Type} {l:List α} {m:Nat} {p:α->Bool},P12.some l m p=true->l.length≤m/\∀a∈l,p a=true:=λh=>by
  unfold P12.some at h;simp only[aq,decide_eq_true_eq,bA]at h;exact⟨h.1.2,h.2⟩
 rcases h with⟨hk,h⟩|⟨hk,h⟩|⟨hk,h⟩|⟨hk,h1,h2,h3⟩|⟨hk,h1,h2,h3⟩|⟨hk,h1,h2,h3⟩|⟨hk,h1,h2⟩|⟨hk,h⟩|hk|hk|hk
 all_goals(unfold P12.eF at hx;simp only[hk]at hx;simp(config := { decide:=true }) only[if_true,if_false]at hx)
 ·unfold P12.oV at h;simp only[aq,decide_eq_true_eq,beq_iff_eq,bA]at h;obtain⟨⟨⟨⟨⟨⟨g1,g2⟩,g3⟩,g4⟩,g5⟩,g6⟩,g7⟩:=h;constructor
  all_goals first
   | omega
   | (intro l hl;have:=(kn (g5 l hl)).1;omega)
   | (rw[hx];intro l hl;cases hl)
   | (rw[hx];exact fP _)
 ·rw[hx];constructor<;>simp
 ·rw[hx];constructor<;>simp
 ·have:=(kn h3).1;rw[hx];constructor<;>simp;omega
 ·have a1:x.cols.length≤16:=by rcases h2 with h2|h2;rw[h2];exact fP _;exact(kn h2).1
  have a2:=(kn h3).1;have a3:∀l∈x.rows,l.length≤1000000:=λl hl=>by have:=(kn ((kn h3).2 l hl)).1;omega
  constructor
  all_goals first
   | omega
   | exact a3
   | (rw[hx];intro l hl;cases hl)
   | (rw[hx];exact fP _)
 ·have a1:=(kn h2).1;constructor
  all_goals first
   | omega
   | (rw[hx];intro l hl;cases hl)
   | (rw[hx];exact fP _)
 ·rw[hx];constructor<;>simp
 ·unfold P12.nG at h;simp only[aq,decide_eq_true_eq]at h;obtain⟨⟨⟨⟨⟨⟨⟨⟨⟨g1,g2⟩,g3⟩,g4⟩,g5⟩,g6⟩,g7⟩,g8⟩,g9⟩,g10⟩:=h;have a1:=(kn g1).1;have a2:=(kn g2).1;constructor
  all_goals first
   | omega
   | (rw[hx];intro l hl;cases hl)
   | (rw[hx];exact fP _)
 all_goals(rw[hx];constructor<;>simp)
theorem lifted(os:Os)(started:os.Started)(H:Type)(enc:TypeId×Value->H)(F:Stop.Interp):
  ReturnsInHanded {} Tryz.checked os 4 .any ((qB rD).preRow enc ab sn Rows.parseBackRow.domain false Rows.parseBackRow.laid) (((qB rD).at F).post enc ab sn false true false false):=by
 refine returnsInHanded_of_row (C:=Tryz.checked) (s:=qB rD) Tryz.own started (by kernel_rfl) Tryz.func4
  (wL os #[.string ⟨#[]⟩] ([.lit (.string [])],[],[]) (by kernel_rfl) (by kernel_rfl) (by kernel_rfl) (by kernel_rfl) (λk hk=>by cases hk) (by kernel_rfl) (by kernel_rfl) (by kernel_rfl) rfl) ?_
 intro W base args ds gs before hval0 hW _ _ hsz hL hS _;obtain⟨hE,hP⟩:=Kt rfl rfl hL hS;have hval:∀ (j:Nat) t v,sn.params[j]?=some t->args[j]?=some v->Value.okWide ab W .any base t v:=hval0;have hW':=hW;obtain⟨p,q,hA0,hV,rfl,hfz,hnd⟩:=hW;have hA:Bh enc ab W 0 (λ_=>true) true sn.params.toList args.toList ds p:=hA0;have hA1:=hA;rw[Tryz.params4]at hA hval;obtain⟨v0,d0,rfl,rfl,h0⟩:=trodAll_one hA;obtain⟨rfl,rfl⟩:=trodVars_none hV;obtain⟨s,rfl,rfl,rfl,hs⟩:=open_string fy (hval 0 9 v0 rfl rfl) h0
 exact(Gh s hs W hE hP (λx hx=>Eb hx)).mono λe W' ⟨he,hbl⟩=>⟨_,he,CO rfl rfl rfl (by kernel_rfl) hW' hA1 hbl⟩
theorem said:Rows.ParseBackSaid:=
 OpenClaim.holds_of_cond 4 sn rfl rfl rfl rfl rfl rfl rfl ⟨rfl,rfl,rfl,rfl,rfl⟩ rfl rfl rfl rfl rfl (by kernel_rfl) Tryz.func4 (by kernel_rfl)
  (of_decide_eq_true (by kernel_rfl)) (by unfold Func.isWrapper;first|(rw[if_pos (by decide +kernel)];kernel_rfl)|(rw[if_neg (by decide +kernel)];exact⟨rfl,rfl⟩))
  (λos started H enc _ F=>by rw[OpenClaim.pre_eq_preRow];exact lifted os started H enc F)
theorem plain (f : FuncId) (fn : Func) (hf : Tryz.pinned.checked.prog.funcNamed "pantile/pantilelaw12.ParseBack" = some f) (hfn : Tryz.pinned.checked.prog.funcs[f]? = some fn) :
  true=Tryz.pinned.checked.prog.looks []/\∀ (j:Nat) t,fn.params[j]?=some t->Tryz.pinned.checked.prog.wantsStandIn t=false:=by
 obtain rfl : f = 4 := Option.some.inj ((show Tryz.prog.funcNamed "pantile/pantilelaw12.ParseBack" = some 4 by kernel_rfl).symm.trans hf) |>.symm
 obtain rfl:fn=sn:=(lP (Tryz.func4.symm.trans hfn)).symm;refine⟨by kernel_rfl,λj t ht=>?_⟩;have hm:=Array.mem_of_getElem? ht;have hall:(sn.params.all λu => !ab.wantsStandIn u)=true:=by kernel_rfl
 exact(show ab.wantsStandIn t=false by simpa using Array.all_eq_true_iff_forall_mem.1 hall t hm)
theorem card:Rows.ParseBackCardSaid:=
 Claim7.holds_tied_plain_at .later [] _ _ _ _ said (λ_ h=>by cases h) (by kernel_rfl) (λ_ h=>by cases h) parseBack_row_tie rfl ⟨rfl,rfl⟩ (by kernel_rfl) rfl plain (by kernel_rfl)
end Go.Proofs.YtkpmclddjkebeaaGreatDoor.parseBack
