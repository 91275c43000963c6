/- Walks: the print of every statement. -/
import Derived.Test.YtkpmclddjkebeaaGreatDoorBZQ
set_option linter.unusedSimpArgs false
set_option linter.unusedVariables false
set_option maxRecDepth 100000
set_option maxHeartbeats 8000000
open Bool renaming and_eq_true→aq
open Go.Proofs.Tryz renaming prog→ab
open List renaming all_eq_true→bA,length_append→aB
open List renaming take_succ_cons→aA,drop_succ_cons→aG,take_zero→aS,drop_zero→aT
open Go.World renaming size_setCell→aQ,size_alloc→af,size_drew→cQ
open Go.Lib renaming hid→aa
open Exists renaming intro→ai
open Go.RowKit.Below renaming refl→aj
open Go.Region renaming wanted→bO
open Go.Code renaming region→gC
open Or renaming inl→oQ,inr→zc
namespace Go.Proofs.YtkpmclddjkebeaaGreatDoor
open Go.RowKit
theorem Eu{S:Nat->Prop}{w:World}{x:P12.St}{l:List Value}(hs:P12.isS x)(hE:Env w)(h:dn S w x l)(hb:(P12.print x).length≤1000000):
  Calls ab 15 #[.agg l.toArray] w λr w'=>r = .returned (.tuple #[bs (P12.print x),.int .i64 0])/\Xk.Ext w w':=by
 have hI:∀W,Xk.Ext w W->Calls ab 14 #[.agg l.toArray] W λe w'=>e = .returned (.bool true)/\Xk.Ext W w':=λW hx=>BI x hs S W l (h.at hx);obtain⟨hx,ho⟩:=hs;have hIn:=h;obtain⟨tc,tk,tq,kc,cols,rows,sets,wh,items,frm,jn,grp,ord,h⟩:=h;rcases ho with⟨hk,ho⟩|⟨hk,ho⟩|⟨hk,ho⟩|⟨hk,h1,h2,h3⟩|⟨hk,h1,h2,h3⟩|⟨hk,h1,h2,h3⟩|⟨hk,h1,h2⟩|⟨hk,ho⟩|hk|hk|hk
 ·have hp:P12.print x=P12.k9 x.tb x.keyCols:=by unfold P12.print;rw[if_pos hk]
  have hl:=FC h hx hk;obtain⟨p1,c1,rfl⟩:=h.tc.len;obtain⟨p2,c2,rfl⟩:=h.tk.len;obtain⟨p3,c3,rfl⟩:=h.tq.len;obtain⟨p4,c4,rfl⟩:=h.kc.len;rw[hp]at hb ⊢;have ht:=ho;unfold P12.oV at ht;simp only[aq,decide_eq_true_eq,beq_iff_eq,bA]at ht;obtain⟨⟨⟨⟨⟨⟨g1,g2⟩,g3⟩,g4⟩,g5⟩,g6⟩,g7⟩:=ht;refine CG _ hk x.tb.name p1 p2 p3 p4 _ _ _ _ c1 c2 c3 c4 l hl w _ (by omega) (λW hxW=>?_) hI
  have h4':aH S W 1 (pX S W) x.keyCols (.slice p4 x.keyCols.length c4):=h.kc.bC (λb _ hl=>hxW.block b hl) (λb hb _=>hb) (λa u hu=>by
   obtain⟨v,e,hv⟩:=hu;exact⟨v,e,hv.iQ hxW⟩)
  exact B9 x.tb.name x.tb.cols x.tb.keys x.keyCols x.tb.checks p1 p2 p3 p4 c1 c2 c3 c4 _ l hl W (hE.ext hxW) (h.tc.iQ hxW) (h.tk.iQ hxW) (h.tq.qt hxW) h4' g4 (λc hc=>⟨(g7 c hc).1.2,(g7 c hc).2⟩) (λk hk=>(dD (g5 k hk)).1.2) g6 g3 hb
 ·have hp:P12.print x = [68,82,79,80,32,84,65,66,76,69,32]++x.name:=by unfold P12.print;rw[if_neg (by omega),if_pos hk]
  rw[hp]at hb ⊢;rw[aB]at hb;exact xB _ hk _ (by omega) l (vZ h hx (.inl hk)) w hI
 ·have hp:P12.print x = [68,82,79,80,32,73,78,68,69,88,32]++x.name:=by unfold P12.print;rw[if_neg (by omega),if_neg (by omega),if_neg (by omega),if_pos hk]
  rw[hp]at hb ⊢;rw[aB]at hb;exact xC _ hk _ (by omega) l (vZ h hx (.inr hk)) w hI
 ·obtain⟨q1,q2⟩:=dD h3;have hne:x.cols ≠ []:=λe=>by rw[e]at q1;simp at q1
  have hc:P12.fF x.cols = [32,40]++P12.join x.cols ++ [41]:=by unfold P12.fF;rw[if_neg hne]
  have hl:=FB h hx hk;obtain⟨p1,c1,rfl⟩:=h.cols.len;have hn:=P12.mg q2;have b1:=P12.cT h1;have b2:=P12.cT h2;have hC:∀W,Xk.Ext w W->_:=λW hxW=>qZ h.cols q1.2 (by omega) hxW
  cases hu:x.unique with
  | true=>
   have hp:P12.print x = [67,82,69,65,84,69,32,85,78,73,81,85,69,32,73,78,68,69,88,32]++x.name ++ [32,79,78,32]++x.on++([32,40]++P12.join x.cols ++ [41]):=by
    unfold P12.print;rw[if_neg (by omega),if_neg (by omega),if_pos hk,hu,hc];rfl
   rw[hu]at hl;rw[hp];exact zW _ hk _ _ (by omega) (by omega) p1 _ c1 (by omega) l hl w _ (by omega) hC hI
  | false=>
   have hp:P12.print x = [67,82,69,65,84,69,32,73,78,68,69,88,32]++x.name ++ [32,79,78,32]++x.on++([32,40]++P12.join x.cols ++ [41]):=by
    unfold P12.print;rw[if_neg (by omega),if_neg (by omega),if_pos hk,hu,hc];rfl
   rw[hu]at hl;rw[hp];exact zX _ hk _ _ (by omega) (by omega) p1 _ c1 (by omega) l hl w _ (by omega) hC hI
 ·obtain⟨q1,q2⟩:=dD h3;have hl:=FA h hx hk;obtain⟨p1,c1,rfl⟩:=h.cols.len;obtain⟨p2,c2,rfl⟩:=h.rows.len;have b1:=P12.cT h1
  have hp:P12.print x = [73,78,83,69,82,84,32,73,78,84,79,32]++x.name++P12.fF x.cols ++ [32,86,65,76,85,69,83,32]++P12.join (x.rows.map P12.iz):=by
   unfold P12.print;rw[if_neg (by omega),if_neg (by omega),if_neg (by omega),if_neg (by omega),if_pos hk]
  rw[hp]at hb ⊢;simp only[aB]at hb;have hR:=λW (hxW:Xk.Ext w W)=>Eg hE h.rows q1.2 (λr hr=>q2 r hr) (by omega) hxW;rcases h2 with h2|h2
  ·have hl2:l=cA x.kind [] ah ah ah ah x.name [] false (.slice p1 0 c1) (.slice p2 x.rows.length c2) ah noE ah ah noE ah ah 0:=by rw[hl,h2];rfl
   have:=zV _ hk _ (by omega) p1 p2 c1 _ c2 l hl2 w _ (by omega) hR hI;rw[h2];simpa[P12.fF]using this
  ·obtain⟨q3,q4⟩:=dD h2;have hne:x.cols ≠ []:=λe=>by rw[e]at q3;simp at q3
   have hc:P12.fF x.cols = [32,40]++P12.join x.cols ++ [41]:=by unfold P12.fF;rw[if_neg hne]
   have hn:=P12.mg q4;rw[hc];exact zU _ hk _ (by omega) p1 p2 _ c1 _ c2 (by omega) l hl w _ (by omega) _ (by omega) (λW hxW=>qZ h.cols q3.2 (by omega) hxW) hR hI
 ·obtain⟨q1,q2⟩:=dD h2;have hl:=Fy h hx hk;obtain⟨p1,c1,rfl⟩:=h.sets.len;have b1:=P12.cT h1
  have hp:P12.print x = [85,80,68,65,84,69,32]++x.name ++ [32,83,69,84,32]++P12.join (x.sets.map P12.gX)++P12.dG x.wher:=by
   unfold P12.print;rw[if_neg (by omega),if_neg (by omega),if_neg (by omega),if_neg (by omega),if_neg (by omega),if_pos hk]
  rw[hp]at hb ⊢;simp only[aB]at hb;have hR:=λW (hxW:Xk.Ext w W)=>Ed hE h.sets q1.2 (λs hs=>by have:=q2 s hs;simp only[aq]at this;exact this.2) (by omega) hxW;have hW:=λW (hxW:Xk.Ext w W)=>sA hE h.wh h3 (by omega) hxW;obtain⟨k1,o1,vk1,vi1,vs1,tb1,nm1,q1,m1,d1,rfl⟩:=h.wh.form;exact CE _ hk _ (by omega) p1 _ c1 k1 o1 vk1 vi1 vs1 tb1 nm1 q1 m1 d1 l hl w _ (by omega) _ (by omega) hR hW hI
 ·exact xE ⟨hx,.inr (.inr (.inr (.inr (.inr (.inr (.inl ⟨hk,h1,h2⟩))))))⟩ hk hE hIn hb
 ·exact rT ⟨hx,.inr (.inr (.inr (.inr (.inr (.inr (.inr (.inl ⟨hk,ho⟩)))))))⟩ hk hE hIn hb
 ·have hp:P12.print x = [66,69,71,73,78]:=by unfold P12.print;rw[if_neg (by omega),if_neg (by omega),if_neg (by omega),if_neg (by omega),if_neg (by omega),if_neg (by omega),if_neg (by omega),if_neg (by omega),if_pos hk]
  rw[hp];exact xD _ hk l (vY h hx (.inl hk)) w hI
 ·have hp:P12.print x = [67,79,77,77,73,84]:=by unfold P12.print;rw[if_neg (by omega),if_neg (by omega),if_neg (by omega),if_neg (by omega),if_neg (by omega),if_neg (by omega),if_neg (by omega),if_neg (by omega),if_neg (by omega),if_pos hk]
  rw[hp];exact vI _ hk l (vY h hx (.inr (.inl hk))) w hI
 ·have hp:P12.print x = [82,79,76,76,66,65,67,75]:=by unfold P12.print;rw[if_neg (by omega),if_neg (by omega),if_neg (by omega),if_neg (by omega),if_neg (by omega),if_neg (by omega),if_neg (by omega),if_neg (by omega),if_neg (by omega),if_neg (by omega)]
  rw[hp];exact sT _ hk l (vY h hx (.inr (.inr hk))) w hI
end Go.Proofs.YtkpmclddjkebeaaGreatDoor
