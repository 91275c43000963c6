/- What the claim's proof leans on, part 19: walks of functions and plain laws. -/
import Derived.Test.YtkpmclddjkebeaaGreatDoorRR
import Derived.Test.YtkpmclddjkebeaaGreatDoorRE
import Derived.Test.YtkpmclddjkebeaaGreatDoorRZG
import Derived.Test.YtkpmclddjkebeaaGreatDoorRZI
set_option linter.unusedSimpArgs false
set_option linter.unusedVariables false
set_option maxRecDepth 100000
set_option maxHeartbeats 80000000
open Array renaming getD_eq_getD_getElem?→Eb,getElem?_eq_some_iff→ae
open Go.Ending renaming returned→cm
open Go.Instr renaming build→cR
open Go.Lib renaming hid→aa
open Go.Proofs.Tryz renaming prog→af,underlying40→aB
open Go.World renaming block_lt_of_cell?→ay,size_alloc→ag,size_drew→bM
open Go renaming bodyPost_ret→ar
open List renaming drop_succ_cons→aL,drop_zero→bd,getElem?_eq_getElem→aZ,mem_cons→aJ,mem_cons_self→cy,not_mem_nil→aF,size_toArray→aP,take_succ_cons→aG,take_zero→aY
open Nat renaming le_refl→ai
namespace Go.Proofs.YtkpmclddjkebeaaGreatDoor
open Go.RowKit
open _root_.P12 (PS Gd okB cH isK cf Nx bn bE bZ bR ew dA de cB Sk inS Rw dF gJ)
theorem uq(s:ByteArray)(l:List P11.Tok)(h:P11.eP s.data.toList = .inl l)(w:World):
  Calls af 23 #[.string s] w λe w'=>∃b cap,e = .returned (.tuple #[.slice (some ⟨b,0,none⟩) l.length cap,.int .i64 0,.int .i64 0])/\ud b 0 l w'/\l.length≤cap/\Below w.heap.size w w':=by
 refine(qb s w).mono ?_;rintro e w' ⟨hb,⟨l',v,h1,rfl,⟨pa,cap',hv,hc⟩,ho⟩|⟨a,k,h1,-⟩⟩
 ·rw[h]at h1
  cases h1;have hne:=yO h;obtain⟨g,cap,rfl⟩:=ho hne
  cases hv;have h0:l[0]?=some (l[0]'(List.length_pos_iff.2 hne)):=aZ _;obtain⟨b,off,e1,c1,-,-,hcap⟩:=hc 0 _ h0
  cases e1;refine⟨g,_,rfl,⟨ay w' _ c1,λj t hj=>?_⟩,hcap,hb⟩;obtain⟨b',off',e,h2,h3,h4,-⟩:=hc j t hj
  cases e;exact⟨h2,h3,h4⟩
 ·rw[h]at h1;cases h1
theorem ur(s:ByteArray)(a:Nat)(k:Int)(h:P11.eP s.data.toList = .inr (a,k))(w:World):
  Calls af 23 #[.string s] w λe w'=>e = .returned (.tuple #[.slice none 0 0,.int .i64 a,.int .i64 k])/\Below w.heap.size w w':=by
 refine(qb s w).mono ?_;rintro e w' ⟨hb,⟨l',v,h1,-⟩|⟨a',k',h1,rfl⟩⟩
 ·rw[h]at h1;cases h1
 ·rw[h]at h1;cases h1;exact⟨rfl,hb⟩
theorem lB{tmps:Array Value}{w:World}{g:Nat}{l:List Value}{a k:Int}(hl:l.length=37)(h0:tmps.getD 2 undef = .pointer (some ⟨g,0,none⟩))(h1:tmps.getD 3 undef = .int .i64 a)(h2:tmps.getD 4 undef = .int .i64 k)(h:w.heap[g]?=some (cL l)):
  (results Tryz.f12 tmps).run af w = .ok (.tuple #[.agg l.toArray,.int .i64 a,.int .i64 k]) w:=by
 have e0:=run_loadVar_row (P:=af) w g 40 40 l.toArray (0,0) _ h aB rfl (by simp only[aP,hl];kernel_rfl);simp only[Eb]at h0 h1 h2;simp[results,Tryz.results12,h0,h1,h2,asAddr,e0]
def DM(s:PS):PS:=match s with
 | .error e => .error e
 | .ok r=>if(P12.nxt r).kind≠0 then cH 120 (.ok r)else .ok r
theorem uu{l:List P11.Tok}{x:P12.St}{s3:PS}(h:Nx P12.cA (.ok ⟨l,0⟩) x s3):P12.fx l=match DM (bn [59] s3).2 with
  | .error e => .error e
  | .ok _ => .ok x:=by
 unfold Nx at h;dsimp only at h;unfold P12.fx
 cases hn:P12.cA ⟨l,0⟩with
 | error e=>
  rw[hn]at h;have h:s3 = .error e:=h;subst h;rfl
 | ok p=>
  obtain⟨y,r⟩:=p;rw[hn]at h;obtain⟨rfl,rfl⟩:=h;show(let r:=(P12.has [59] r).2;if(P12.nxt r).kind≠0 then P12.bU 120 r else .ok x)=_
  unfold DM bn;dsimp only;split<;>rfl
theorem wi(s:ByteArray)(a:Nat)(k:Int)(w:World)(h:P11.eP s.data.toList = .inr (a,k)):Calls af 12 #[.string s] w (jM w (.error (a,k))):=by
 have HT:=aa λW=>ur s a k h W
 have hk0:(k !=0)=true:=by
  have:=P11.tv h;simpa using this
 clear h;have hbz:∀W:World,(cR 40 #[]).run af W = .ok (.agg bC.toArray) W:=λW=>by kernel_rfl
 have HBZ:=aa hbz;clear hbz;go_enter Tryz.func12,Tryz.ntmps12;go_wp2_with fail;refine(HT.out _).mono ?_;rintro e w1 ⟨rfl,hx1⟩;have hz1:=(hx1.block _ (by rw[ag];omega)).trans (aw w (.cells bC.toArray 40));have hX1:Xk.Ext w w1:=Xk.Ext.trans (xal w _) hx1;clear hx1;go_wp2_with (first|(refine cU rfl 40 _ rfl _ rfl _ (HBZ.out _) ?_)|((refine pw hz1 ?_;intro w10 hp10)));refine ar (lB (l:=bC) rfl rfl rfl rfl hp10.blk) rfl ?_;exact⟨nK hX1 hp10 (ai _),rfl⟩
theorem yg(s:ByteArray)(l:List P11.Tok)(w:World)(h:P11.eP s.data.toList = .inl l):Calls af 12 #[.string s] w (jM w (P12.fx l)):=by
 have hgd:=P12.Fv h;have hpos:=hgd.good.pos;have hlen:=hgd.good.len;dsimp only at hpos hlen;have HGD:=aa hgd;have HT:=aa λW=>uq s l h W;have hbz:∀W:World,(cR 40 #[]).run af W = .ok (.agg bC.toArray) W:=λW=>by kernel_rfl
 have HBZ:=aa hbz;generalize hres:P12.fx l=res;have HRES:=aa hres;clear h hbz hgd hres;go_enter Tryz.func12,Tryz.ntmps12;go_wp2_with fail;refine(HT.out _).mono ?_;rintro e w1 ⟨b,cap,rfl,htk,hcap,hx1⟩;have hz1:=(hx1.block _ (by rw[ag];omega)).trans (aw w (.cells bC.toArray 40));have hX1:Xk.Ext w w1:=Xk.Ext.trans (xal w _) hx1;have hl1:=(ae.1 hz1).1;clear hx1;go_wp2_with fail
 have hP2:Ps w1.heap.size (.ok ⟨l,0⟩) (w1.alloc (.cells #[.slice (some ⟨b,0,none⟩) l.length cap,.int .i64 0,.int .i64 0,.int .i64 0,.int .i64 0] 79)):=
  ⟨b,cap,l,0,0,0,0,⟨aw w1 _,htk.1,hcap,htk.ext (xal w1 _),hpos,hlen⟩,rfl,rfl,rfl,HGD.out⟩
 have hX2:Xk.Ext w (w1.alloc (.cells #[.slice (some ⟨b,0,none⟩) l.length cap,.int .i64 0,.int .i64 0,.int .i64 0,.int .i64 0] 79)):=Xk.Ext.trans hX1 (xal w1 _);have hz2:=((xal w1 (.cells #[.slice (some ⟨b,0,none⟩) l.length cap,.int .i64 0,.int .i64 0,.int .i64 0,.int .i64 0] 79)).block _ hl1).trans hz1;generalize w1.alloc (.cells #[.slice (some ⟨b,0,none⟩) l.length cap,.int .i64 0,.int .i64 0,.int .i64 0,.int .i64 0] 79)=w2 at *
 generalize w1.heap.size=br at *
 have lbr:=hP2.lt;clear htk hcap hX1 hz1 HT HGD;refine(xS br (.ok ⟨l,0⟩) w2 hP2).mono ?_;rintro e w3 ⟨v,x,s3,rfl,⟨ls,rfl,hs⟩,ht3,hp3,hn3,-⟩;have hE:=HRES.out.symm.trans (uu hn3);have HE:=aa hE;have hl37:=hs.length;have hs3:=ht3.size;have hX3:=mv hX2 ht3 ab;have hz3:=ht3.held hz2 ab;have HS:=aa hs;clear hE hs ht3 hn3 HRES hP2 hX2 hz2;go_wp2_with ((refine bQ rfl 40 _ _ rfl (w3.heap.size) _ _ 40 rfl rfl (aw w3 (.cells bC.toArray 40)) ((by simp[hl37])) ((by simp only[aP,hl37];kernel_rfl)) (HS.out.one) ?_;intro w4 hp4));have hX4:Xk.Ext w w4:=nK (Xk.Ext.trans hX3 (xal w3 _)) hp4 ab
 have hz4:=(hp4.rest w.heap.size ab).trans (((xal w3 _).block _ ab).trans hz3);have hR4:=bt.ps hp4 (hp3.ext (xal w3 _)) ab;have hS4:dv (λb=>w2.heap.size≤b/\b<w3.heap.size) w4 x ls:=HS.out.bg (λb hb hl=>(hp4.rest b ab).trans ((xal w3 _).block b hl)) (λb hb hl=>⟨hb,hl⟩);have hb4:=hp4.blk;have hs4:=hp4.size;rw[ag]at hs4;clear hp4 hp3 HS hX3 hz3;generalize hgx:w3.heap.size=gx at *
 clear hgx;refine(eW br s3 [59] aq _ hR4).mono ?_;rintro e w5 ⟨rfl,ht5,hp5⟩;have hX5:=mv hX4 ht5 ab;have hz5:=ht5.held hz4 ab;have hb5:=ht5.held hb4 ab;have hS5:dv (λb=>w2.heap.size≤b/\b<gx) w5 x ls:=hS4.bg (λb hb hl=>ht5.block hl ab) (λb hb _=>hb);have HS5:=aa hS5;have hs5:=ht5.size;clear ht5 hX4 hz4 hb4 hS4 hR4 hS5;generalize (bn [59] s3).2=s5 at hp5 HE;have HO:=aa λW (hx:Xk.Ext w5 W)=>eK br s5 W (hp5.ext hx)
 cases s5 with
 | error er=>
  have HP5:=aa hp5;have hO:∀W,Xk.Ext w5 W->Calls af 26 #[rp br] W λe w'=>e = .returned (.bool false)/\W=w':=HO.out;have HO:=aa hO;obtain⟨b',cap',L,i,d,a,e',hA,-⟩:=hp5;obtain⟨l0,c0,c1,c2,c3,c4⟩:=hA.cells;clear hO hA;go_wp2_with fail;refine Xk.reg 16 (Xk.w1 HO.out λp=>?_);go_wp2_with fail;have hp6:=HP5.out.ext (show Xk.Ext w5 (Xk.exw w5 p)from Xk.xt);have hX6:=Xk.Ext.trans hX5 (show Xk.Ext w5 (Xk.exw w5 p)from Xk.xt);have hz6:=((show Xk.Ext w5 (Xk.exw w5 p)from Xk.xt).block _ ab).trans hz5;clear hX5 hz5 hb5 HP5 HO HS5 c0 c1 c2 c3 c4 l0;generalize Xk.exw w5 p=w6 at *
  refine(eK br _ _ hp6).mono ?_;rintro e w7 ⟨rfl,rfl⟩;obtain⟨b9,cap9,L9,i9,d9,a9,e9,hA9,hq1,hq2,hq3⟩:=hp6;obtain⟨l0,-,-,-,c3,c4⟩:=hA9.cells;have hE:res = .error (er):=HE.out;have HRE:=aa hE;have HQ1:=aa hq1;have HQ2:=aa hq2;clear HE hE hA9 hq1 hq2 hq3;have hlz:=(ae.1 hz6).1;obtain⟨ks,hks⟩:∃ks:Xe.gT,ks = [(w.heap.size,λo=>o=some (cL bC))]:=⟨_,rfl⟩;have HKS:=aa hks
  have hkb:∀k∈ks,k.1=w.heap.size:=λk hk=>by
   rw[hks]at hk;simp only[aJ,aF,or_false]at hk;subst hk;rfl
  have hq0:∀W,Xe.ES ks w6.drew W->W.heap[w.heap.size]?=some (cL bC):=λW hx=>by
   rcases hx.2.2.2.2 w.heap.size (by simpa using hlz)with e|⟨k,hk,e1,e2⟩
   ·exact e.trans hz6
   ·rw[hks]at hk;simp only[aJ,aF,or_false]at hk;subst hk;exact e2
  have HF:Hid (∀W,Xe.ES ks w6.drew W->br<W.heap.size/\W.cell? ⟨br,3,none⟩=some (.int .i64 a9)/\W.cell? ⟨br,4,none⟩=some (.int .i64 e9)):=aa λW hx=>by
   have hn:∀q∈ks,q.1≠br:=λq hq e=>by have:=hkb q hq;omega
   have hs:=hx.2.2.2.1;simp only[bM]at hs;exact⟨by omega,hx.cell (show w6.drew.cell? ⟨br,3,none⟩=some _ from c3) hn,hx.cell (show w6.drew.cell? ⟨br,4,none⟩=some _ from c4) hn⟩
  have HQ0:=aa hq0;have HX6:=aa hX6;clear hks hq0 hX6 hz6;go_upto_region 10 with fail
  refine Xe.bm (E:=Xe.ES ks) (Xe.bS _) 12 (λ_=>none) (λ_ _ h=>by cases h) (λ_ _ _ _ h=>by cases h) [(9,Xe.eD w.heap.size (cL bC))] au au (Xe.jD (by
     intro y hy;simp only[aJ,aF,or_false]at hy;subst hy
     exact Xe.eD.es λk hk e=>by
      rw[HKS.out]at hk;simp only[aJ,aF,or_false]at hk;subst hk;rfl)) ?_
  simp only[aG,aY,aL,bd];repeat(refine Xs.s3 HF.out ?_)
  refine Xe.bc (Xe.bS _) az az (λW hx hp=>?_) (λy K hK=>?_)
  ·exact Xe.oe _ _ _ rfl w.heap.size bC.toArray bC.toArray _ rfl rfl (HQ0.out W hx) rfl au au (by rw[HKS.out];exact cy ..)
  go_simp;refine hK _ ?_;clear hK K;repeat(refine Xs.s3 HF.out ?_)
  refine Xe.bD (λW hx hp hg=>?_);have r0:=HQ0.out W hx;have hXW:Xk.Ext w W:=⟨hx.1.trans HX6.out.os,hx.2.1.trans HX6.out.tape,hx.2.2.1.trans HX6.out.output,by have:=hx.2.2.2.1;have:=HX6.out.size;simp at *;omega,λb hb=>(hx.block (w:=w6.drew) (by have:=HX6.out.size;simp;omega) (λk hk e=>by have:=hkb k hk;omega)).trans (HX6.out.block b hb)⟩;go_wp2_with fail;refine ar (lB (l:=bC) rfl rfl rfl rfl r0) rfl ?_;rw[HRE.out];refine⟨hXW,?_⟩;show cm (.tuple #[.agg bC.toArray,.int .i64 a9,.int .i64 e9])=_
  rw[HQ1.out,HQ2.out]
 | ok r=>
  have HP5:=aa hp5;have hO:∀W,Xk.Ext w5 W->Calls af 26 #[rp br] W λe w'=>e = .returned (.bool true)/\W=w':=HO.out;have HO:=aa hO;obtain⟨b',cap',L,i,d,a,e',hA,hs⟩:=hp5;obtain⟨l0,c0,c1,c2,c3,c4⟩:=hA.cells;obtain⟨t,ht,lb,t0,t1,t2⟩:=hA.tok;have hi:=hA.hi;have hlenL:=hA.len;have hib:(i:Int)<(L.length:Int):=ab;have hnt:=hs.tok ht;clear hO hA hs ht;by_cases hk:t.kind=0
  ·have hkb:(t.kind !=0)=false:=by simp[hk]
   have hE:=HE.out;rw[show DM (.ok r) = .ok r by unfold DM;dsimp only;rw[if_neg (by rw[hnt];simpa using hk)]]at hE;have hE:res = .ok x:=hE;have HRE:=aa hE;clear HE hE;go_wp2_with fail;refine Xk.reg 16 (Xk.w1 HO.out λp=>?_);go_wp2_with fail;have hp6:=HP5.out.ext (show Xk.Ext w5 (Xk.exw w5 p)from Xk.xt);have hX6:=Xk.Ext.trans hX5 (show Xk.Ext w5 (Xk.exw w5 p)from Xk.xt);have hz6:=((show Xk.Ext w5 (Xk.exw w5 p)from Xk.xt).block _ ab).trans hz5;have hb6:=((show Xk.Ext w5 (Xk.exw w5 p)from Xk.xt).block _ ab).trans hb5
   have hS6:dv (λb=>w2.heap.size≤b/\b<gx) (Xk.exw w5 p) x ls:=HS5.out.bg (λb hb hl=>(show Xk.Ext w5 (Xk.exw w5 p)from Xk.xt).block b hl) (λb hb _=>hb);have HS6:=aa hS6;clear hX5 hz5 hb5 HP5 HO HS5 c0 c1 c2 c3 c4 l0 t0 t1 t2 lb hS6;generalize Xk.exw w5 p=w6 at *
   refine(eK br _ _ hp6).mono ?_;rintro e w7 ⟨rfl,rfl⟩;go_wp2_with (first|(refine bJ rfl 40 _ rfl (gx) _ 40 (0,0) _ rfl (hb6) aB rfl (by simp only[aP,hl37];kernel_rfl) ?_)|((refine bQ rfl 40 _ _ rfl (w.heap.size) _ _ 40 rfl rfl (hz6) ((by simp[hl37])) ((by simp only[aP,hl37];kernel_rfl)) (HS6.out.one) ?_;intro w10 hp10)));refine ar (lB (l:=ls) hl37 rfl rfl rfl hp10.blk) rfl ?_;rw[HRE.out];exact⟨nK hX6 hp10 (ai _),ls,rfl,HS6.out.bg (λb hb _=>hp10.rest b ab) (λb hb _=>by omega)⟩
  ·have hkb:(t.kind !=0)=true:=by simpa using hk
   rw[show DM (.ok r) = .error ((P12.nxt r).pos,120) by unfold DM;dsimp only;rw[if_pos (by rw[hnt];simpa using hk)];rfl]at HE;go_wp2_with fail;refine Xk.reg 16 (Xk.w1 HO.out λp=>?_);go_wp2_with fail;have hp6':=HP5.out.ext (show Xk.Ext w5 (Xk.exw w5 p)from Xk.xt);have hX6':=Xk.Ext.trans hX5 (show Xk.Ext w5 (Xk.exw w5 p)from Xk.xt);have hz6':=((show Xk.Ext w5 (Xk.exw w5 p)from Xk.xt).block _ ab).trans hz5;clear hX5 hz5 hb5 HP5 HO HS5 c0 c1 c2 c3 c4 l0 t0 t1 t2 lb;generalize Xk.exw w5 p=w7 at *
   refine(iG br _ 120 aq _ hp6').mono ?_;rintro e w6 ⟨rfl,ht6,hp6⟩;have hX6:=mv hX6' ht6 ab;have hz6:=ht6.held hz6' ab;clear ht6 hX6' hz6' hp6';go_wp2_with fail;refine(eK br _ _ hp6).mono ?_;rintro e w7 ⟨rfl,rfl⟩;obtain⟨b9,cap9,L9,i9,d9,a9,e9,hA9,hq1,hq2,hq3⟩:=hp6;obtain⟨l0,-,-,-,c3,c4⟩:=hA9.cells;have hE:res = .error (((P12.nxt r).pos,120)):=HE.out;have HRE:=aa hE;have HQ1:=aa hq1;have HQ2:=aa hq2;clear HE hE hA9 hq1 hq2 hq3;have hlz:=(ae.1 hz6).1;obtain⟨ks,hks⟩:∃ks:Xe.gT,ks = [(w.heap.size,λo=>o=some (cL bC))]:=⟨_,rfl⟩;have HKS:=aa hks
   have hkb:∀k∈ks,k.1=w.heap.size:=λk hk=>by
    rw[hks]at hk;simp only[aJ,aF,or_false]at hk;subst hk;rfl
   have hq0:∀W,Xe.ES ks w6.drew W->W.heap[w.heap.size]?=some (cL bC):=λW hx=>by
    rcases hx.2.2.2.2 w.heap.size (by simpa using hlz)with e|⟨k,hk,e1,e2⟩
    ·exact e.trans hz6
    ·rw[hks]at hk;simp only[aJ,aF,or_false]at hk;subst hk;exact e2
   have HF:Hid (∀W,Xe.ES ks w6.drew W->br<W.heap.size/\W.cell? ⟨br,3,none⟩=some (.int .i64 a9)/\W.cell? ⟨br,4,none⟩=some (.int .i64 e9)):=aa λW hx=>by
    have hn:∀q∈ks,q.1≠br:=λq hq e=>by have:=hkb q hq;omega
    have hs:=hx.2.2.2.1;simp only[bM]at hs;exact⟨by omega,hx.cell (show w6.drew.cell? ⟨br,3,none⟩=some _ from c3) hn,hx.cell (show w6.drew.cell? ⟨br,4,none⟩=some _ from c4) hn⟩
   have HQ0:=aa hq0;have HX6:=aa hX6;clear hks hq0 hX6 hz6;go_upto_region 10 with fail
   refine Xe.bm (E:=Xe.ES ks) (Xe.bS _) 12 (λ_=>none) (λ_ _ h=>by cases h) (λ_ _ _ _ h=>by cases h) [(9,Xe.eD w.heap.size (cL bC))] au au (Xe.jD (by
       intro y hy;simp only[aJ,aF,or_false]at hy;subst hy
       exact Xe.eD.es λk hk e=>by
        rw[HKS.out]at hk;simp only[aJ,aF,or_false]at hk;subst hk;rfl)) ?_
   simp only[aG,aY,aL,bd];repeat(refine Xs.s3 HF.out ?_)
   refine Xe.bc (Xe.bS _) az az (λW hx hp=>?_) (λy K hK=>?_)
   ·exact Xe.oe _ _ _ rfl w.heap.size bC.toArray bC.toArray _ rfl rfl (HQ0.out W hx) rfl au au (by rw[HKS.out];exact cy ..)
   go_simp;refine hK _ ?_;clear hK K;repeat(refine Xs.s3 HF.out ?_)
   refine Xe.bD (λW hx hp hg=>?_);have r0:=HQ0.out W hx;have hXW:Xk.Ext w W:=⟨hx.1.trans HX6.out.os,hx.2.1.trans HX6.out.tape,hx.2.2.1.trans HX6.out.output,by have:=hx.2.2.2.1;have:=HX6.out.size;simp at *;omega,λb hb=>(hx.block (w:=w6.drew) (by have:=HX6.out.size;simp;omega) (λk hk e=>by have:=hkb k hk;omega)).trans (HX6.out.block b hb)⟩;go_wp2_with fail;refine ar (lB (l:=bC) rfl rfl rfl rfl r0) rfl ?_;rw[HRE.out];refine⟨hXW,?_⟩;show cm (.tuple #[.agg bC.toArray,.int .i64 a9,.int .i64 e9])=_
   rw[HQ1.out,HQ2.out]
theorem wj(s:ByteArray)(w:World):Calls af 12 #[.string s] w (jM w (P12.parse s.data.toList)):=by
 unfold P12.parse;rcases hl:P11.eP s.data.toList with l|⟨a,k⟩
 ·exact yg s l w hl
 ·exact wi s a k w hl
def posOf:Except P12.Er P12.St->Int
 | .ok _=>0
 | .error er=>er.1
def codeOf:Except P12.Er P12.St->Int
 | .ok _=>0
 | .error er=>er.2
def Ao:Except P12.Er P12.St->P12.St
 | .ok x=>x
 | .error _=>P12.made 0
theorem Ed(S:Nat->Prop)(w:World):dv S w (P12.made 0) bC:=by
 have h:=pX S w 0;rw[show sK 0 (if(0:Int)=8 then -1 else 0)=bC by kernel_rfl]at h;exact h
theorem uV{w w':World}{r:Except P12.Er P12.St}{e:Ending}(h:jM w r e w'){p k:Int}(hp:p=posOf r)(hk:k=codeOf r):∃l:List Value,e = .returned (.tuple #[.agg l.toArray,.int .i64 p,.int .i64 k])/\Xk.Ext w w'/\l.length=37/\l.toArray.all (·.oneCell')=true/\(af.info? 40).map (·.size)=some l.toArray.size/\dv (λb=>w.heap.size≤b) w' (Ao r) l:=by
 subst hp hk;obtain⟨hx,h⟩:=h
 cases r with
 | ok x=>
  obtain⟨l,he,hs⟩:=h;obtain⟨h1,h2⟩:=xO hs;exact⟨l,he,hx,hs.length,h1,h2,hs⟩
 | error er=>exact⟨bC,h,hx,rfl,by kernel_rfl,by kernel_rfl,Ed _ _⟩
theorem ED(s:P12.T):k9 (Ao (P12.parse s)):=by
 cases h:P12.parse s with
 | ok x=>
  obtain⟨h1,h2,h3,h4,h5,h6,h7,h8,h9,h10,h11,h12,h13⟩:=P12.yr h;exact⟨h1,h2,h3,h4,h5,h6,h7,h8,h9,h10,h11,h12,h13⟩
 | error er=>unfold Ao P12.made;constructor<;>simp
theorem C6(s:ByteArray)(w:World)(hE:Env w)(hP:zV w):Calls af 3 #[.string s] w λe w'=>e = .returned (.bool true)/\Xk.Ext w w':=by
 have HK:=aa (Ba w hE hP);have HP:=aa hP;clear hE hP;by_cases h42:4200<s.size
 ·have b42:(4200:Int)<(s.size:Int):=ab;go_enter Tryz.func3,Tryz.ntmps3;go_wp2_with fail;refine(HK.out).mono ?_;rintro e w1 ⟨rfl,hx1⟩;go_wp2_with fail;go_ret;exact⟨rfl,hx1⟩
 have b42:¬ (4200:Int)<(s.size:Int):=ab;go_enter Tryz.func3,Tryz.ntmps3;go_wp2_with fail;refine(HK.out).mono ?_;rintro e w1 ⟨rfl,hx1⟩;have HX1:=aa hx1;have HS:=aa (ED s.data.toList);clear hx1 HK;go_wp2_with fail;obtain⟨p,hp⟩:∃p,p=posOf (P12.parse s.data.toList):=⟨_,rfl⟩;obtain⟨k,hk⟩:∃k,k=codeOf (P12.parse s.data.toList):=⟨_,rfl⟩;have HPP:=aa hp;have HKK:=aa hk;clear hp hk;refine(qN s _ (HP.out.ext HX1.out)).mono ?_;intro e w2 h;obtain⟨l,rfl,hx2,g1,g2,g3,hs2⟩:=uV h HPP.out HKK.out;have HX2:=aa (Xk.Ext.trans HX1.out hx2);have HS2:=aa hs2;have G1:=aa g1;have G2:=aa g2;have G3:=aa g3
 clear h hx2 g1 g2 g3 hs2 HX1 HP;go_wp2_with ((refine bQ rfl 40 _ _ rfl (w2.heap.size) _ _ 40 rfl rfl ((aw w2 _)) ((by rw[show l.toArray.size=37 by rw[aP,G1.out]];rfl)) (G3.out) (G2.out) ?_;intro w3 hp3));have hl3:=hp3.size;rw[ag]at hl3;have hS3:dv (λb=>b<w2.heap.size) w3 (Ao (P12.parse s.data.toList)) l:=HS2.out.bg (λb hb hl=>(hp3.rest b ab).trans ((xal w2 _).block b hl)) (λb hb hl=>hl);have hX3:Xk.Ext w w3:=Xk.Ext.trans HX2.out (jj hp3 (mY w2 _) (ai _));have hb3:=hp3.blk;clear hp3 HS2 HX2;refine(wj s _).mono ?_;intro e w4 h;obtain⟨l',rfl,hx4,g1',g2',g3',hs4⟩:=uV h HPP.out HKK.out
 have hl4:=hx4.size;have hb4:=(hx4.block _ ab).trans hb3;have hS4:dv (λb=>b<w2.heap.size) w4 (Ao (P12.parse s.data.toList)) l:=hS3.bg (λb hb hl=>hx4.block b hl) (λb hb _=>hb);have HX4:=aa (Xk.Ext.trans hX3 hx4);have HS4:=aa hS4;have HS4':=aa hs4;have G1':=aa g1';have G2':=aa g2';have G3':=aa g3';have HB4:=aa hb4;clear h hx4 g1' g2' g3' hs4 hS4 hS3 hX3 hb3 hb4
 go_wp2_with (first|((refine bQ rfl 40 _ _ rfl (w4.heap.size) _ _ 40 rfl rfl ((aw w4 _)) ((by rw[show l'.toArray.size=37 by rw[aP,G1'.out]];rfl)) (G3'.out) (G2'.out) ?_;intro w5 hp5);have hc5:=(hp5.rest w2.heap.size ab).trans (((xal w4 _).block _ ab).trans HB4.out);have hd5:=hp5.blk)|(refine pP az 40 _ rfl (w2.heap.size) _ 40 (0,0) _ rfl (hc5) aB rfl G3.out ?_)|(refine pP az 40 _ rfl (w4.heap.size) _ 40 (0,0) _ rfl (hd5) aB rfl G3'.out ?_));have hS5:dv (λb=>b<w2.heap.size) w5 (Ao (P12.parse s.data.toList)) l:=HS4.out.bg (λb hb hl=>(hp5.rest b ab).trans ((xal w4 _).block b hl)) (λb hb _=>hb)
 have hS5':dv (λb=>b<w4.heap.size) w5 (Ao (P12.parse s.data.toList)) l':=HS4'.out.bg (λb hb hl=>(hp5.rest b ab).trans ((xal w4 _).block b hl)) (λb hb hl=>hl);have hX5:Xk.Ext w w5:=Xk.Ext.trans HX4.out (jj hp5 (mY w4 _) (ai _));refine(vX hS5 hS5' HS.out).mono ?_;rintro e w6 ⟨rfl,hx6⟩;have hX6:=Xk.Ext.trans hX5 hx6;clear hS5 hS5' hX5 hx6 hp5 hc5 hd5;go_wp2_with fail;go_ret;exact⟨rfl,hX6⟩
end Go.Proofs.YtkpmclddjkebeaaGreatDoor
