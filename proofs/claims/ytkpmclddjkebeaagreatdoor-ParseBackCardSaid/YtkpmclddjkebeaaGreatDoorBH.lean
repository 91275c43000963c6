/- Walks: a constraint of a table. -/
import Derived.Test.YtkpmclddjkebeaaGreatDoorBG
set_option linter.unusedSimpArgs false
set_option linter.unusedVariables false
set_option maxRecDepth 100000
set_option maxHeartbeats 8000000
open Array renaming getElem?_eq_some_iff→ae
open Bool renaming false_eq_true→aV
open Exists renaming intro→ai
open Go.Ending renaming panicked→gT
open Go.Lib renaming hid→aa
open Go.Proofs.Tryz renaming prog→ab
open Go.RowKit.Below renaming refl→aj
open Go.World renaming cell?→ak,size_setCell→aQ
open Go renaming frozen_of_row→aN,heap_setCell_other→aw
open List renaming drop_succ_cons→aG,drop_zero→aT,mem_cons→aI,not_mem_nil→aC,take_succ_cons→aA,take_zero→aS
open Nat renaming le_refl→ag,le_trans→bH,lt_of_lt_of_le→aD,zero_le→fP
open Or renaming inl→oQ,inr→zc
namespace Go.Proofs.YtkpmclddjkebeaaGreatDoor
open Go.RowKit
structure Cf(br gx gm gc B n:Nat)(t:P12.Tb)(k:List (List P12.T))(w0:World)(r0 r:P12.R)(w:World):Prop where
 rd:Rd br r w
 tab:eA B gx gc t k w
 many:w.heap[gm]?=some (gd br n 16)
 kept:dc B gc [br,gx,gm] w0 w
 keeps:P12.bT r0 r
 h1:br<gx
 h2:br<gm
 h3:gm<B
 h4:gm≠gx
 h5:gc<w.heap.size
section
variable {br gx gm gc B n : Nat} {t : P12.Tb} {k : List (List P12.T)} {w0 : World} {r0 r r' : P12.R} {w w' : World}
theorem Cf.step(F:Cf br gx gm gc B n t k w0 r0 r w)(ht:ao br w w')(hr:Rd br r' w')(hk:P12.bT r r'):Cf br gx gm gc B n t k w0 r0 r' w':=by
 obtain⟨a1,a2,a3,a4,a5,a6,a7,a8,a9,a10⟩:=F;exact⟨hr,a2.turn ht a6,ht.held a3 (by omega),a4.trans (dc.cj ht (by simp) (by have:=a2.bounds;omega)),a5.trans hk,a6,a7,a8,a9,aD a10 ht.size⟩
theorem Cf.ext(F:Cf br gx gm gc B n t k w0 r0 r w)(hx:Xk.Ext w w'):Cf br gx gm gc B n t k w0 r0 r w':=F.step (ao.aY hx) (F.rd.ext hx) (P12.bT.refl _)
theorem Cf.after(F:Cf br gx gm gc B n t k w0 r0 r w)(ht:ao br w w'):dc B gc [br,gx,gm] w0 w':=F.kept.trans (dc.cj ht (by simp) (by have:=F.tab.bounds;have:=F.h1;omega))
theorem Cf.gxB(F:Cf br gx gm gc B n t k w0 r0 r w):gx<B/\B≤w.heap.size:=F.tab.bounds
end
def sw(br gx gm gc B n:Nat)(t:P12.Tb)(k:List (List P12.T))(w0:World)(r0:P12.R)(res:Except P12.Er (P12.Con×P12.R))(e:Ending)(w':World):Prop:=
 match res with
 | .error er=>e=aR er/\dc B gc [br,gx,gm] w0 w'
 | .ok (o,r')=>e = .returned (.tuple #[])/\eA B gx gc (P12.gS t o) (P12.jX k o) w'/\w'.heap[gm]?=some (gd br (n+1) 16)/\Rd br r' w'/\P12.bT (P12.ax r0) r'/\dc B gc [br,gx,gm] w0 w'
theorem rk(br gx gm gc B n:Nat)(t:P12.Tb)(k:List (List P12.T))(c:P12.T)(r:P12.R)(w:World)(h:Rd br r w)(hx:eA B gx gc t k w)(hm:w.heap[gm]?=some (gd br n 16))(h1:br<gx)(h2:br<gm)(h3:gm<B)(hne:gm≠gx)(hn:n≤16)
  (hl:t.checks.length≤100) (hcc:(decide (16<n+1)&&P12.bJ r)=false) (hck:P12.isT [67,72,69,67,75] r=true) (hb:gx<w.heap.size) (hgs:gc<w.heap.size) :
  Calls ab 199 #[rp br,rp gx,rp gm,bs c] w (sw br gx gm gc B n t k w r (match P12.within P12.expr (P12.ax r)with | .error e => .error e | .ok (e,r)=> .ok (.inl e,r))):=by
 have lr:=h.lt;have H:=aa h;have HX:=aa hx;have HM:=aa hm;have HB:=hx.bounds;clear h hx hm;obtain⟨i0,hi,hz0,hz1,hz2⟩:=du Tryz.pC;have Hi:=aa hi;have Hz0:=aa hz0;have Hz1:=aa hz1;have Hz2:=aa hz2;clear hi hz0 hz1 hz2
 cases hw:P12.within P12.expr (P12.ax r)with
 | error er=>
  go_enter Tryz.func199,Tryz.ntmps199;go_wp2_with fail;go_at_call 200;refine(iH br n 16 gm r _ (rp br) 198 (P12.bJ r) w H.out HM.out h2 (by omega) (by omega) (.inl rfl) i6 (λW hr _=>eM br r W hr)).mono ?_;rintro e w1 ⟨hx1,he1⟩;rw[if_neg (by rw[hcc];simp)]at he1;subst he1
  have hm1:w1.heap[gm]?=some (gd br (n+1) 16):=by
   rw[hx1.block _ (by rw[aQ];exact(ae.1 HM.out).1),heap_setCell_same w gm 1 _ _ _ HM.out];simp
  have F1:Cf br gx gm gc B (n+1) t k w r r w1:=⟨(Rd.setCell H.out (by omega) 1 _).ext hx1,(HX.out.setCell h3 hne 1 _).ext hx1,hm1,((dc.refl _ _ _ _).setCell (.inr ⟨by simp,h3⟩) 1 _).trans (dc.aY hx1),P12.bT.refl _,h1,h2,h3,hne,by have:=hx1.size;rw[aQ]at this;omega⟩;clear hx1 hm1;go_wp2_with fail;go_at_call 20;refine(iY br r [67,72,69,67,75] _ F1.rd).mono ?_;rw[hck];rintro e w2 ⟨rfl,ht2,hr2,hk2⟩;simp only[P12.has,hck,aV,if_true,if_false]at hr2 hk2;have F2:=F1.step ht2 hr2 hk2;clear ht2 hr2 hk2 F1;obtain⟨col,tc,tk,tq,kc,T0,h9⟩:=F2.tab;have T:=T0.Ek 2
  obtain⟨a1,a2,b1,b2,c1,c2,d1,d2,rfl,rfl,rfl,rfl⟩:=T.form;have hG1:w2.cell? ⟨gx,4,none⟩=some (.slice c1 t.checks.length c2):=by simp[ak,T.blk]
  have G1:=aa hG1;have hsz2:=F2.gxB;clear hG1 T0;go_wp2
  refine Xg.dW (E:=ao br) (Xe.bV _) (λch W=>gT ch=aR er/\ao br w2 W) 8 11 (λ_=>none) (λ_ _ h=>by cases h) (λ_ _ _ _ h=>by cases h) [(8,λ_ _=>False),(10,pz w2)] (by kernel_rfl) (by kernel_rfl) (Xg.cS ((by
     intro y hy;simp only[aI,aC,or_false]at hy;rcases hy with rfl|rfl
     ·rw[if_pos rfl];exact λ_ _ _ _ h=>h
     ·rw[if_neg (show ¬ (10=8) by decide)];exact pz.turn (by omega)))) ((λch a w' hd hX=>by exact⟨hd,hX.1,F2.after hX.2⟩)) 7 rfl ?_
  simp only[aA,aS,aG,aT];refine Xg.gs ?_;(refine Xg.ay (Xk.an (by rfl)) (by rfl) (λK hK=>?_);apply ai;refine⟨λW hx hp=>?_,?_⟩;(have c:=hx.cell (show w2.drew.cell? ⟨gx,4,none⟩=some (.slice c1 t.checks.length c2)from G1.out) (by omega);go_simp;exact⟨rfl,rfl⟩);(go_simp;refine hK _ ?_;clear hK K))
  refine Xg.gs ?_;(refine Xg.eY (by rfl) (by rfl) rfl (λW hx hp=>?_) (λu K hK=>?_);(go_simp;((refine(rH br (P12.ax r) _ (F2.rd.drew.ext hx)).mono ?_);intro e w2 h;rw[hw]at h;obtain⟨h1,h2⟩:=h;exact zc ⟨_,h1,by exact⟨rfl,(ao.drew (ao.refl _ _)).trans ((ao.aY hx).trans h2)⟩⟩));(go_simp;refine hK _ ?_;clear hK K))
  refine Xg.gs ?_;(refine Xg.bd (by rfl) (by rfl) (by decide) (λW hx hp=>?_) (λu2 K hK=>?_);((go_simp;exact⟨(aj _ _).alloc (ag _) _,⟨W.heap.size,rfl,by simpa using hx.size,az W _⟩,λb hb=>by cases hb;exact⟨.inr (ag _),by simp⟩⟩));(go_simp;refine hK _ ?_;clear hK K))
  refine Xg.bm (λW hx hp hg=>?_);exact hp.2.1.elim
 | ok p=>
  obtain⟨x,r4⟩:=p;go_enter Tryz.func199,Tryz.ntmps199;go_wp2_with fail;go_at_call 200;refine(iH br n 16 gm r _ (rp br) 198 (P12.bJ r) w H.out HM.out h2 (by omega) (by omega) (.inl rfl) i6 (λW hr _=>eM br r W hr)).mono ?_;rintro e w1 ⟨hx1,he1⟩;rw[if_neg (by rw[hcc];simp)]at he1;subst he1
  have hm1:w1.heap[gm]?=some (gd br (n+1) 16):=by
   rw[hx1.block _ (by rw[aQ];exact(ae.1 HM.out).1),heap_setCell_same w gm 1 _ _ _ HM.out];simp
  have F1:Cf br gx gm gc B (n+1) t k w r r w1:=⟨(Rd.setCell H.out (by omega) 1 _).ext hx1,(HX.out.setCell h3 hne 1 _).ext hx1,hm1,((dc.refl _ _ _ _).setCell (.inr ⟨by simp,h3⟩) 1 _).trans (dc.aY hx1),P12.bT.refl _,h1,h2,h3,hne,by have:=hx1.size;rw[aQ]at this;omega⟩;clear hx1 hm1;go_wp2_with fail;go_at_call 20;refine(iY br r [67,72,69,67,75] _ F1.rd).mono ?_;rw[hck];rintro e w2 ⟨rfl,ht2,hr2,hk2⟩;simp only[P12.has,hck,aV,if_true,if_false]at hr2 hk2;have F2:=F1.step ht2 hr2 hk2;clear ht2 hr2 hk2 F1;obtain⟨col,tc,tk,tq,kc,T0,h9⟩:=F2.tab;have T:=T0.Ek 2
  obtain⟨a1,a2,b1,b2,c1,c2,d1,d2,rfl,rfl,rfl,rfl⟩:=T.form;have hG1:w2.cell? ⟨gx,4,none⟩=some (.slice c1 t.checks.length c2):=by simp[ak,T.blk]
  have G1:=aa hG1;have hsz2:=F2.gxB;clear hG1 T0;go_wp2
  refine Xg.dW (E:=ao br) (Xe.bV _) (λch W=>False) 8 11 (λ_=>none) (λ_ _ h=>by cases h) (λ_ _ _ _ h=>by cases h) [(8,vX br w2 (P12.ax r) x r4),(10,pz w2)] (by kernel_rfl) (by kernel_rfl) (Xg.cS ((by
     intro y hy;simp only[aI,aC,or_false]at hy;rcases hy with rfl|rfl
     ·rw[if_pos rfl];exact vX.ext
     ·rw[if_neg (show ¬ (10=8) by decide)];exact pz.turn (by omega)))) ((λch a w' hd hX=>hX.elim)) 7 rfl ?_
  simp only[aA,aS,aG,aT];refine Xg.gs ?_;(refine Xg.ay (Xk.an (by rfl)) (by rfl) (λK hK=>?_);apply ai;refine⟨λW hx hp=>?_,?_⟩;(have c:=hx.cell (show w2.drew.cell? ⟨gx,4,none⟩=some (.slice c1 t.checks.length c2)from G1.out) (by omega);go_simp;exact⟨rfl,rfl⟩);(go_simp;refine hK _ ?_;clear hK K))
  refine Xg.gs ?_;(refine Xg.eY (by rfl) (by rfl) rfl (λW hx hp=>?_) (λu K hK=>?_);(go_simp;((refine(rH br (P12.ax r) _ (F2.rd.drew.ext hx)).mono ?_);intro e w2 h;rw[hw]at h;obtain⟨v',rfl,⟨l,rfl,he⟩,h1,h2,h3⟩:=h;exact oQ ⟨_,rfl,h1,⟨l,rfl,he.mono (λb hb _=>bH hx.size hb),h2,h3⟩,λb hb=>by cases hb⟩));(go_simp;refine hK _ ?_;clear hK K))
  refine Xg.gs ?_;(refine Xg.bd (by rfl) (by rfl) (by decide) (λW hx hp=>?_) (λu2 K hK=>?_);((go_simp;exact⟨(aj _ _).alloc (ag _) _,⟨W.heap.size,rfl,by simpa using hx.size,az W _⟩,λb hb=>by cases hb;exact⟨.inr (ag _),by simp⟩⟩));(go_simp;refine hK _ ?_;clear hK K))
  refine Xg.bm (λW hx hp hg=>?_);obtain⟨⟨g,rfl,hge,hgc⟩,⟨l,rfl,he,hr1,hk1⟩,-⟩:=hp;have hx':ao br w2 W:=(ao.drew (ao.refl _ _)).trans hx;have hsz:=hx'.size;have TW:=T.turn hx' F2.h1;have HTW:=aa TW;obtain⟨us,-,hown,hS,hu2,hu3,hu4⟩:=TW.tq;have HU:=aa hu4;have hlt0:=T.tq.lt;have hlt:=TW.tq.lt;have hcg:B≤gc->(λb=>if b<w2.heap.size then col b else 2) gc=9:=λh=>(if_pos F2.h5).trans (h9 h);have hnew:∀b,w2.heap.size≤b->(λb=>if b<w2.heap.size then col b else 2) b=2:=λb hb=>if_neg (by omega);clear hu4 hx hg TW;refine Xg.cu (k:=11) (by kernel_rfl) rfl ?_
  refine Xo.bS 0 rfl _ _ 25 rfl 35 i0 _ 10 120 Tryz.underlying25 Hi.out Hz0.out Hz1.out Hz2.out rfl (by decide) (.slice c1 t.checks.length c2) t.checks.length us.flatten rfl hown g 0 1 1 noE rfl (by decide) rfl (mm hgc) (dt (by kernel_rfl)) (by omega) (fP _) ?_;intro v' w7 ho' hg' hk';obtain⟨z,cz,rfl⟩:=iW ho' (by omega);have T7:=Tab.Lc (x:=P12.E.none) HTW.out (λb hb=>hnew b (by omega)) hu2 hu3 HU.out hg' ho' hk' rfl rfl;have HE7:=aa (he.bC (S':=λb=>w2.heap.size≤b/\b<W.heap.size) (w':=w7) (λb hb hl=>hg'.block b hl (λe=>by have:=(hlt0 b e.symm).2;omega)) (λb hb hl=>⟨hb,hl⟩))
  have HR7:=aa (hr1.grown hg' (λb hb=>by have:=(hlt b hb).1.1;omega));have HK7:=aa ((F2.after hx').grown hg' (λb hb=>⟨(hlt b hb).1.1,λhB e=>by have h2:=(hlt b hb).1.2;rw[e]at h2;have h3:=hcg hB;dsimp only at h2 h3;omega⟩));have HM7:=aa ((hg'.block gm (by omega) (λe=>by have:=(hlt gm e.symm).1.1;omega)).trans (hx'.held F2.many (by omega)));have HKP:=aa hk1;have hzB:B≤z:=(T7.tq.lt z rfl).1.1;have hzG:B≤z/\(B≤gc->z≠gc):=⟨hzB,λhB e=>by have h2:=(T7.tq.lt z rfl).1.2;rw[e]at h2;have h3:=hcg hB;dsimp only at h2 h3;omega⟩
  have hzW:∀b,w2.heap.size≤b->b<W.heap.size->¬ z=b:=λb h1 h2 e=>by
   subst e;rcases hk' z rfl with h|h
   ·have:=(hlt0 z h).2;omega
   ·omega
  obtain⟨-,cur,hcur,hcs0⟩:=T7.tq.mem
  have hcs:t.checks.length*10+10≤cur.size:=by
   have:(t.checks ++ [P12.E.none]).length=t.checks.length+1:=by simp
   rw[show({ t with checks:=t.checks ++ [P12.E.none] }:P12.Tb).checks=t.checks ++ [P12.E.none]from rfl,this]at hcs0;omega
  have HC7:=aa hcur;have hb7:w7.cell? ⟨gx,4,none⟩=some (.slice c1 t.checks.length c2):=by simp[ak,T7.blk]
  have f7:=aN w7 gx 4 _ _ T7.blk;have T7H:=aa T7;clear ho' hg' hk' hlt hown hu2 hu3 HU us HTW hx' hgc hge hr1 he hcur T7 T hS hcs0;show wpAny _ _ _ _ _ _ _ _
  obtain⟨kd,op',vk,vi,vs,tb,nm,pp,pm,pc,rfl⟩:=HE7.out.form;refine Xg.eJ (j:=12) (k:=14) (by kernel_rfl) rfl rfl ?_ ?_
  ·go_wp2;show wpAny _ _ _ _ _ _ _ _
   refine Xg.eJ (j:=13) (k:=14) (by kernel_rfl) rfl rfl ?_ ?_
   ·refine bt rfl 35 _ _ rfl z (t.checks.length*10) cur _ 35 rfl rfl HC7.out hcs (by kernel_rfl) (by kernel_rfl) ?_;intro w8 hp8;show wpAny _ _ _ _ _ _ _ _
    have T8:=Tab.px T7H.out HC7.out hp8 rfl (HE7.out.bC (λ_ _ _=>rfl) (λb hb _=>⟨⟨by omega,hnew b hb.1⟩,hzW b hb.1 hb.2⟩));have hb8:w8.cell? ⟨gx,4,none⟩=some (.slice c1 t.checks.length c2):=by simp[ak,T8.blk]
    have f8:=aN w8 gx 4 _ _ T8.blk;have T8H:=aa T8;have HP8:=aa hp8;clear T8 hp8;refine Xg.cu (k:=14) (by kernel_rfl) rfl ?_;go_wp2;show wpAny _ _ _ _ _ _ _ _
    refine Xg.cu (k:=15) (by kernel_rfl) rfl ?_;go_wp2;show wpAny _ _ _ _ _ _ _ _
    refine Xg.cu (k:=16) (by kernel_rfl) rfl ?_;go_wp2;show wpAny _ _ _ _ _ _ _ _
    refine Xg.cu (k:=17) (by kernel_rfl) rfl ?_;go_wp2;show wpAny _ _ _ _ _ _ _ _
    refine Xg.any_nil (by kernel_rfl) ?_;go_wp2;go_end0
    exact⟨rfl,⟨_,_,_,_,_,T8H.out.kv 4 (.slice (some ⟨z,0,none⟩) (t.checks.length+1) cz),hcg⟩,(aw w8 ⟨gx,4,none⟩ gm _ (λe=>F2.h4 (by simpa using e))).trans ((HP8.out.rest gm (by omega)).trans HM7.out),Rd.setCell (bN.rd HP8.out HR7.out (by omega)) F2.h1 _ _,HKP.out,(HK7.out.trans (dc.dE HP8.out hzG)).setCell (.inr ⟨by simp,hsz2.1⟩) _ _⟩
   ·go_wp2;show wpAny _ _ _ _ _ _ _ _
    refine Xg.eJ (j:=13) (k:=15) (by kernel_rfl) rfl rfl ?_ ?_
    ·refine bt rfl 35 _ _ rfl z (t.checks.length*10) cur _ 35 rfl rfl HC7.out hcs (by kernel_rfl) (by kernel_rfl) ?_;intro w8 hp8;show wpAny _ _ _ _ _ _ _ _
     have T8:=Tab.px T7H.out HC7.out hp8 rfl (HE7.out.bC (λ_ _ _=>rfl) (λb hb _=>⟨⟨by omega,hnew b hb.1⟩,hzW b hb.1 hb.2⟩));have hb8:w8.cell? ⟨gx,4,none⟩=some (.slice c1 t.checks.length c2):=by simp[ak,T8.blk]
     have f8:=aN w8 gx 4 _ _ T8.blk;have T8H:=aa T8;have HP8:=aa hp8;clear T8 hp8;refine Xg.cu (k:=15) (by kernel_rfl) rfl ?_;go_wp2;show wpAny _ _ _ _ _ _ _ _
     refine Xg.cu (k:=16) (by kernel_rfl) rfl ?_;go_wp2;show wpAny _ _ _ _ _ _ _ _
     refine Xg.cu (k:=17) (by kernel_rfl) rfl ?_;go_wp2;show wpAny _ _ _ _ _ _ _ _
     refine Xg.any_nil (by kernel_rfl) ?_;go_wp2;go_end0
     exact⟨rfl,⟨_,_,_,_,_,T8H.out.kv 4 (.slice (some ⟨z,0,none⟩) (t.checks.length+1) cz),hcg⟩,(aw w8 ⟨gx,4,none⟩ gm _ (λe=>F2.h4 (by simpa using e))).trans ((HP8.out.rest gm (by omega)).trans HM7.out),Rd.setCell (bN.rd HP8.out HR7.out (by omega)) F2.h1 _ _,HKP.out,(HK7.out.trans (dc.dE HP8.out hzG)).setCell (.inr ⟨by simp,hsz2.1⟩) _ _⟩
    ·go_wp2;show wpAny _ _ _ _ _ _ _ _
     refine Xg.eJ (j:=13) (k:=16) (by kernel_rfl) rfl rfl ?_ ?_
     ·refine bt rfl 35 _ _ rfl z (t.checks.length*10) cur _ 35 rfl rfl HC7.out hcs (by kernel_rfl) (by kernel_rfl) ?_;intro w8 hp8;show wpAny _ _ _ _ _ _ _ _
      have T8:=Tab.px T7H.out HC7.out hp8 rfl (HE7.out.bC (λ_ _ _=>rfl) (λb hb _=>⟨⟨by omega,hnew b hb.1⟩,hzW b hb.1 hb.2⟩));have hb8:w8.cell? ⟨gx,4,none⟩=some (.slice c1 t.checks.length c2):=by simp[ak,T8.blk]
      have f8:=aN w8 gx 4 _ _ T8.blk;have T8H:=aa T8;have HP8:=aa hp8;clear T8 hp8;refine Xg.cu (k:=16) (by kernel_rfl) rfl ?_;go_wp2;show wpAny _ _ _ _ _ _ _ _
      refine Xg.cu (k:=17) (by kernel_rfl) rfl ?_;go_wp2;show wpAny _ _ _ _ _ _ _ _
      refine Xg.any_nil (by kernel_rfl) ?_;go_wp2;go_end0
      exact⟨rfl,⟨_,_,_,_,_,T8H.out.kv 4 (.slice (some ⟨z,0,none⟩) (t.checks.length+1) cz),hcg⟩,(aw w8 ⟨gx,4,none⟩ gm _ (λe=>F2.h4 (by simpa using e))).trans ((HP8.out.rest gm (by omega)).trans HM7.out),Rd.setCell (bN.rd HP8.out HR7.out (by omega)) F2.h1 _ _,HKP.out,(HK7.out.trans (dc.dE HP8.out hzG)).setCell (.inr ⟨by simp,hsz2.1⟩) _ _⟩
     ·go_wp2;show wpAny _ _ _ _ _ _ _ _
      refine Xg.eJ (j:=13) (k:=17) (by kernel_rfl) rfl rfl ?_ ?_
      ·refine bt rfl 35 _ _ rfl z (t.checks.length*10) cur _ 35 rfl rfl HC7.out hcs (by kernel_rfl) (by kernel_rfl) ?_;intro w8 hp8;show wpAny _ _ _ _ _ _ _ _
       have T8:=Tab.px T7H.out HC7.out hp8 rfl (HE7.out.bC (λ_ _ _=>rfl) (λb hb _=>⟨⟨by omega,hnew b hb.1⟩,hzW b hb.1 hb.2⟩));have hb8:w8.cell? ⟨gx,4,none⟩=some (.slice c1 t.checks.length c2):=by simp[ak,T8.blk]
       have f8:=aN w8 gx 4 _ _ T8.blk;have T8H:=aa T8;have HP8:=aa hp8;clear T8 hp8;refine Xg.cu (k:=17) (by kernel_rfl) rfl ?_;go_wp2;show wpAny _ _ _ _ _ _ _ _
       refine Xg.any_nil (by kernel_rfl) ?_;go_wp2;go_end0
       exact⟨rfl,⟨_,_,_,_,_,T8H.out.kv 4 (.slice (some ⟨z,0,none⟩) (t.checks.length+1) cz),hcg⟩,(aw w8 ⟨gx,4,none⟩ gm _ (λe=>F2.h4 (by simpa using e))).trans ((HP8.out.rest gm (by omega)).trans HM7.out),Rd.setCell (bN.rd HP8.out HR7.out (by omega)) F2.h1 _ _,HKP.out,(HK7.out.trans (dc.dE HP8.out hzG)).setCell (.inr ⟨by simp,hsz2.1⟩) _ _⟩
      ·go_wp2;show wpAny _ _ _ _ _ _ _ _
       refine Xg.cu (k:=13) (by kernel_rfl) rfl ?_;refine bt rfl 35 _ _ rfl z (t.checks.length*10) cur _ 35 rfl rfl ((aw w7 ⟨gx,4,none⟩ z _ (λe=>by(have h:z=gx:=(by simpa using e));omega)).trans HC7.out) hcs (by kernel_rfl) (by kernel_rfl) ?_;intro w8 hp8;show wpAny _ _ _ _ _ _ _ _
       refine Xg.any_nil (by kernel_rfl) ?_;go_wp2;go_end0
       have hrst:∀b,b≠gx->(w7.setCell ⟨gx,4,none⟩ (.slice (some ⟨z,0,none⟩) (t.checks.length+1) cz)).heap[b]?=w7.heap[b]?:=λb hb=>aw w7 ⟨gx,4,none⟩ b _ (λe=>hb (by simpa using e))
       exact⟨rfl,⟨_,_,_,_,_,Tab.px (T7H.out.kv 4 (.slice (some ⟨z,0,none⟩) (t.checks.length+1) cz)) ((hrst z (by omega)).trans HC7.out) hp8 rfl (HE7.out.bC (λb hb hl=>hrst b (by omega)) (λb hb _=>⟨⟨by omega,hnew b hb.1⟩,hzW b hb.1 hb.2⟩)),hcg⟩,(hp8.rest gm (by omega)).trans ((hrst gm F2.h4).trans HM7.out),bN.rd hp8 (Rd.setCell HR7.out F2.h1 _ _) (by omega),HKP.out,(HK7.out.setCell (.inr ⟨by simp,hsz2.1⟩) _ _).trans (dc.dE hp8 hzG)⟩
  ·go_wp2;show wpAny _ _ _ _ _ _ _ _
   refine Xg.eJ (j:=12) (k:=15) (by kernel_rfl) rfl rfl ?_ ?_
   ·go_wp2;show wpAny _ _ _ _ _ _ _ _
    refine Xg.eJ (j:=13) (k:=15) (by kernel_rfl) rfl rfl ?_ ?_
    ·refine bt rfl 35 _ _ rfl z (t.checks.length*10) cur _ 35 rfl rfl HC7.out hcs (by kernel_rfl) (by kernel_rfl) ?_;intro w8 hp8;show wpAny _ _ _ _ _ _ _ _
     have T8:=Tab.px T7H.out HC7.out hp8 rfl (HE7.out.bC (λ_ _ _=>rfl) (λb hb _=>⟨⟨by omega,hnew b hb.1⟩,hzW b hb.1 hb.2⟩));have hb8:w8.cell? ⟨gx,4,none⟩=some (.slice c1 t.checks.length c2):=by simp[ak,T8.blk]
     have f8:=aN w8 gx 4 _ _ T8.blk;have T8H:=aa T8;have HP8:=aa hp8;clear T8 hp8;refine Xg.cu (k:=15) (by kernel_rfl) rfl ?_;go_wp2;show wpAny _ _ _ _ _ _ _ _
     refine Xg.cu (k:=16) (by kernel_rfl) rfl ?_;go_wp2;show wpAny _ _ _ _ _ _ _ _
     refine Xg.cu (k:=17) (by kernel_rfl) rfl ?_;go_wp2;show wpAny _ _ _ _ _ _ _ _
     refine Xg.any_nil (by kernel_rfl) ?_;go_wp2;go_end0
     exact⟨rfl,⟨_,_,_,_,_,T8H.out.kv 4 (.slice (some ⟨z,0,none⟩) (t.checks.length+1) cz),hcg⟩,(aw w8 ⟨gx,4,none⟩ gm _ (λe=>F2.h4 (by simpa using e))).trans ((HP8.out.rest gm (by omega)).trans HM7.out),Rd.setCell (bN.rd HP8.out HR7.out (by omega)) F2.h1 _ _,HKP.out,(HK7.out.trans (dc.dE HP8.out hzG)).setCell (.inr ⟨by simp,hsz2.1⟩) _ _⟩
    ·go_wp2;show wpAny _ _ _ _ _ _ _ _
     refine Xg.eJ (j:=13) (k:=16) (by kernel_rfl) rfl rfl ?_ ?_
     ·refine bt rfl 35 _ _ rfl z (t.checks.length*10) cur _ 35 rfl rfl HC7.out hcs (by kernel_rfl) (by kernel_rfl) ?_;intro w8 hp8;show wpAny _ _ _ _ _ _ _ _
      have T8:=Tab.px T7H.out HC7.out hp8 rfl (HE7.out.bC (λ_ _ _=>rfl) (λb hb _=>⟨⟨by omega,hnew b hb.1⟩,hzW b hb.1 hb.2⟩));have hb8:w8.cell? ⟨gx,4,none⟩=some (.slice c1 t.checks.length c2):=by simp[ak,T8.blk]
      have f8:=aN w8 gx 4 _ _ T8.blk;have T8H:=aa T8;have HP8:=aa hp8;clear T8 hp8;refine Xg.cu (k:=16) (by kernel_rfl) rfl ?_;go_wp2;show wpAny _ _ _ _ _ _ _ _
      refine Xg.cu (k:=17) (by kernel_rfl) rfl ?_;go_wp2;show wpAny _ _ _ _ _ _ _ _
      refine Xg.any_nil (by kernel_rfl) ?_;go_wp2;go_end0
      exact⟨rfl,⟨_,_,_,_,_,T8H.out.kv 4 (.slice (some ⟨z,0,none⟩) (t.checks.length+1) cz),hcg⟩,(aw w8 ⟨gx,4,none⟩ gm _ (λe=>F2.h4 (by simpa using e))).trans ((HP8.out.rest gm (by omega)).trans HM7.out),Rd.setCell (bN.rd HP8.out HR7.out (by omega)) F2.h1 _ _,HKP.out,(HK7.out.trans (dc.dE HP8.out hzG)).setCell (.inr ⟨by simp,hsz2.1⟩) _ _⟩
     ·go_wp2;show wpAny _ _ _ _ _ _ _ _
      refine Xg.eJ (j:=13) (k:=17) (by kernel_rfl) rfl rfl ?_ ?_
      ·refine bt rfl 35 _ _ rfl z (t.checks.length*10) cur _ 35 rfl rfl HC7.out hcs (by kernel_rfl) (by kernel_rfl) ?_;intro w8 hp8;show wpAny _ _ _ _ _ _ _ _
       have T8:=Tab.px T7H.out HC7.out hp8 rfl (HE7.out.bC (λ_ _ _=>rfl) (λb hb _=>⟨⟨by omega,hnew b hb.1⟩,hzW b hb.1 hb.2⟩));have hb8:w8.cell? ⟨gx,4,none⟩=some (.slice c1 t.checks.length c2):=by simp[ak,T8.blk]
       have f8:=aN w8 gx 4 _ _ T8.blk;have T8H:=aa T8;have HP8:=aa hp8;clear T8 hp8;refine Xg.cu (k:=17) (by kernel_rfl) rfl ?_;go_wp2;show wpAny _ _ _ _ _ _ _ _
       refine Xg.any_nil (by kernel_rfl) ?_;go_wp2;go_end0
       exact⟨rfl,⟨_,_,_,_,_,T8H.out.kv 4 (.slice (some ⟨z,0,none⟩) (t.checks.length+1) cz),hcg⟩,(aw w8 ⟨gx,4,none⟩ gm _ (λe=>F2.h4 (by simpa using e))).trans ((HP8.out.rest gm (by omega)).trans HM7.out),Rd.setCell (bN.rd HP8.out HR7.out (by omega)) F2.h1 _ _,HKP.out,(HK7.out.trans (dc.dE HP8.out hzG)).setCell (.inr ⟨by simp,hsz2.1⟩) _ _⟩
      ·go_wp2;show wpAny _ _ _ _ _ _ _ _
       refine Xg.cu (k:=13) (by kernel_rfl) rfl ?_;refine bt rfl 35 _ _ rfl z (t.checks.length*10) cur _ 35 rfl rfl ((aw w7 ⟨gx,4,none⟩ z _ (λe=>by(have h:z=gx:=(by simpa using e));omega)).trans HC7.out) hcs (by kernel_rfl) (by kernel_rfl) ?_;intro w8 hp8;show wpAny _ _ _ _ _ _ _ _
       refine Xg.any_nil (by kernel_rfl) ?_;go_wp2;go_end0
       have hrst:∀b,b≠gx->(w7.setCell ⟨gx,4,none⟩ (.slice (some ⟨z,0,none⟩) (t.checks.length+1) cz)).heap[b]?=w7.heap[b]?:=λb hb=>aw w7 ⟨gx,4,none⟩ b _ (λe=>hb (by simpa using e))
       exact⟨rfl,⟨_,_,_,_,_,Tab.px (T7H.out.kv 4 (.slice (some ⟨z,0,none⟩) (t.checks.length+1) cz)) ((hrst z (by omega)).trans HC7.out) hp8 rfl (HE7.out.bC (λb hb hl=>hrst b (by omega)) (λb hb _=>⟨⟨by omega,hnew b hb.1⟩,hzW b hb.1 hb.2⟩)),hcg⟩,(hp8.rest gm (by omega)).trans ((hrst gm F2.h4).trans HM7.out),bN.rd hp8 (Rd.setCell HR7.out F2.h1 _ _) (by omega),HKP.out,(HK7.out.setCell (.inr ⟨by simp,hsz2.1⟩) _ _).trans (dc.dE hp8 hzG)⟩
   ·go_wp2;show wpAny _ _ _ _ _ _ _ _
    refine Xg.eJ (j:=12) (k:=16) (by kernel_rfl) rfl rfl ?_ ?_
    ·go_wp2;show wpAny _ _ _ _ _ _ _ _
     refine Xg.eJ (j:=13) (k:=16) (by kernel_rfl) rfl rfl ?_ ?_
     ·refine bt rfl 35 _ _ rfl z (t.checks.length*10) cur _ 35 rfl rfl HC7.out hcs (by kernel_rfl) (by kernel_rfl) ?_;intro w8 hp8;show wpAny _ _ _ _ _ _ _ _
      have T8:=Tab.px T7H.out HC7.out hp8 rfl (HE7.out.bC (λ_ _ _=>rfl) (λb hb _=>⟨⟨by omega,hnew b hb.1⟩,hzW b hb.1 hb.2⟩));have hb8:w8.cell? ⟨gx,4,none⟩=some (.slice c1 t.checks.length c2):=by simp[ak,T8.blk]
      have f8:=aN w8 gx 4 _ _ T8.blk;have T8H:=aa T8;have HP8:=aa hp8;clear T8 hp8;refine Xg.cu (k:=16) (by kernel_rfl) rfl ?_;go_wp2;show wpAny _ _ _ _ _ _ _ _
      refine Xg.cu (k:=17) (by kernel_rfl) rfl ?_;go_wp2;show wpAny _ _ _ _ _ _ _ _
      refine Xg.any_nil (by kernel_rfl) ?_;go_wp2;go_end0
      exact⟨rfl,⟨_,_,_,_,_,T8H.out.kv 4 (.slice (some ⟨z,0,none⟩) (t.checks.length+1) cz),hcg⟩,(aw w8 ⟨gx,4,none⟩ gm _ (λe=>F2.h4 (by simpa using e))).trans ((HP8.out.rest gm (by omega)).trans HM7.out),Rd.setCell (bN.rd HP8.out HR7.out (by omega)) F2.h1 _ _,HKP.out,(HK7.out.trans (dc.dE HP8.out hzG)).setCell (.inr ⟨by simp,hsz2.1⟩) _ _⟩
     ·go_wp2;show wpAny _ _ _ _ _ _ _ _
      refine Xg.eJ (j:=13) (k:=17) (by kernel_rfl) rfl rfl ?_ ?_
      ·refine bt rfl 35 _ _ rfl z (t.checks.length*10) cur _ 35 rfl rfl HC7.out hcs (by kernel_rfl) (by kernel_rfl) ?_;intro w8 hp8;show wpAny _ _ _ _ _ _ _ _
       have T8:=Tab.px T7H.out HC7.out hp8 rfl (HE7.out.bC (λ_ _ _=>rfl) (λb hb _=>⟨⟨by omega,hnew b hb.1⟩,hzW b hb.1 hb.2⟩));have hb8:w8.cell? ⟨gx,4,none⟩=some (.slice c1 t.checks.length c2):=by simp[ak,T8.blk]
       have f8:=aN w8 gx 4 _ _ T8.blk;have T8H:=aa T8;have HP8:=aa hp8;clear T8 hp8;refine Xg.cu (k:=17) (by kernel_rfl) rfl ?_;go_wp2;show wpAny _ _ _ _ _ _ _ _
       refine Xg.any_nil (by kernel_rfl) ?_;go_wp2;go_end0
       exact⟨rfl,⟨_,_,_,_,_,T8H.out.kv 4 (.slice (some ⟨z,0,none⟩) (t.checks.length+1) cz),hcg⟩,(aw w8 ⟨gx,4,none⟩ gm _ (λe=>F2.h4 (by simpa using e))).trans ((HP8.out.rest gm (by omega)).trans HM7.out),Rd.setCell (bN.rd HP8.out HR7.out (by omega)) F2.h1 _ _,HKP.out,(HK7.out.trans (dc.dE HP8.out hzG)).setCell (.inr ⟨by simp,hsz2.1⟩) _ _⟩
      ·go_wp2;show wpAny _ _ _ _ _ _ _ _
       refine Xg.cu (k:=13) (by kernel_rfl) rfl ?_;refine bt rfl 35 _ _ rfl z (t.checks.length*10) cur _ 35 rfl rfl ((aw w7 ⟨gx,4,none⟩ z _ (λe=>by(have h:z=gx:=(by simpa using e));omega)).trans HC7.out) hcs (by kernel_rfl) (by kernel_rfl) ?_;intro w8 hp8;show wpAny _ _ _ _ _ _ _ _
       refine Xg.any_nil (by kernel_rfl) ?_;go_wp2;go_end0
       have hrst:∀b,b≠gx->(w7.setCell ⟨gx,4,none⟩ (.slice (some ⟨z,0,none⟩) (t.checks.length+1) cz)).heap[b]?=w7.heap[b]?:=λb hb=>aw w7 ⟨gx,4,none⟩ b _ (λe=>hb (by simpa using e))
       exact⟨rfl,⟨_,_,_,_,_,Tab.px (T7H.out.kv 4 (.slice (some ⟨z,0,none⟩) (t.checks.length+1) cz)) ((hrst z (by omega)).trans HC7.out) hp8 rfl (HE7.out.bC (λb hb hl=>hrst b (by omega)) (λb hb _=>⟨⟨by omega,hnew b hb.1⟩,hzW b hb.1 hb.2⟩)),hcg⟩,(hp8.rest gm (by omega)).trans ((hrst gm F2.h4).trans HM7.out),bN.rd hp8 (Rd.setCell HR7.out F2.h1 _ _) (by omega),HKP.out,(HK7.out.setCell (.inr ⟨by simp,hsz2.1⟩) _ _).trans (dc.dE hp8 hzG)⟩
    ·go_wp2;show wpAny _ _ _ _ _ _ _ _
     refine Xg.eJ (j:=12) (k:=17) (by kernel_rfl) rfl rfl ?_ ?_
     ·go_wp2;show wpAny _ _ _ _ _ _ _ _
      refine Xg.eJ (j:=13) (k:=17) (by kernel_rfl) rfl rfl ?_ ?_
      ·refine bt rfl 35 _ _ rfl z (t.checks.length*10) cur _ 35 rfl rfl HC7.out hcs (by kernel_rfl) (by kernel_rfl) ?_;intro w8 hp8;show wpAny _ _ _ _ _ _ _ _
       have T8:=Tab.px T7H.out HC7.out hp8 rfl (HE7.out.bC (λ_ _ _=>rfl) (λb hb _=>⟨⟨by omega,hnew b hb.1⟩,hzW b hb.1 hb.2⟩));have hb8:w8.cell? ⟨gx,4,none⟩=some (.slice c1 t.checks.length c2):=by simp[ak,T8.blk]
       have f8:=aN w8 gx 4 _ _ T8.blk;have T8H:=aa T8;have HP8:=aa hp8;clear T8 hp8;refine Xg.cu (k:=17) (by kernel_rfl) rfl ?_;go_wp2;show wpAny _ _ _ _ _ _ _ _
       refine Xg.any_nil (by kernel_rfl) ?_;go_wp2;go_end0
       exact⟨rfl,⟨_,_,_,_,_,T8H.out.kv 4 (.slice (some ⟨z,0,none⟩) (t.checks.length+1) cz),hcg⟩,(aw w8 ⟨gx,4,none⟩ gm _ (λe=>F2.h4 (by simpa using e))).trans ((HP8.out.rest gm (by omega)).trans HM7.out),Rd.setCell (bN.rd HP8.out HR7.out (by omega)) F2.h1 _ _,HKP.out,(HK7.out.trans (dc.dE HP8.out hzG)).setCell (.inr ⟨by simp,hsz2.1⟩) _ _⟩
      ·go_wp2;show wpAny _ _ _ _ _ _ _ _
       refine Xg.cu (k:=13) (by kernel_rfl) rfl ?_;refine bt rfl 35 _ _ rfl z (t.checks.length*10) cur _ 35 rfl rfl ((aw w7 ⟨gx,4,none⟩ z _ (λe=>by(have h:z=gx:=(by simpa using e));omega)).trans HC7.out) hcs (by kernel_rfl) (by kernel_rfl) ?_;intro w8 hp8;show wpAny _ _ _ _ _ _ _ _
       refine Xg.any_nil (by kernel_rfl) ?_;go_wp2;go_end0
       have hrst:∀b,b≠gx->(w7.setCell ⟨gx,4,none⟩ (.slice (some ⟨z,0,none⟩) (t.checks.length+1) cz)).heap[b]?=w7.heap[b]?:=λb hb=>aw w7 ⟨gx,4,none⟩ b _ (λe=>hb (by simpa using e))
       exact⟨rfl,⟨_,_,_,_,_,Tab.px (T7H.out.kv 4 (.slice (some ⟨z,0,none⟩) (t.checks.length+1) cz)) ((hrst z (by omega)).trans HC7.out) hp8 rfl (HE7.out.bC (λb hb hl=>hrst b (by omega)) (λb hb _=>⟨⟨by omega,hnew b hb.1⟩,hzW b hb.1 hb.2⟩)),hcg⟩,(hp8.rest gm (by omega)).trans ((hrst gm F2.h4).trans HM7.out),bN.rd hp8 (Rd.setCell HR7.out F2.h1 _ _) (by omega),HKP.out,(HK7.out.setCell (.inr ⟨by simp,hsz2.1⟩) _ _).trans (dc.dE hp8 hzG)⟩
     ·go_wp2;show wpAny _ _ _ _ _ _ _ _
      refine Xg.cu (k:=12) (by kernel_rfl) rfl ?_;go_wp2;show wpAny _ _ _ _ _ _ _ _
      refine Xg.cu (k:=13) (by kernel_rfl) rfl ?_;refine bt rfl 35 _ _ rfl z (t.checks.length*10) cur _ 35 rfl rfl ((aw w7 ⟨gx,4,none⟩ z _ (λe=>by(have h:z=gx:=(by simpa using e));omega)).trans HC7.out) hcs (by kernel_rfl) (by kernel_rfl) ?_;intro w8 hp8;show wpAny _ _ _ _ _ _ _ _
      refine Xg.any_nil (by kernel_rfl) ?_;go_wp2;go_end0
      have hrst:∀b,b≠gx->(w7.setCell ⟨gx,4,none⟩ (.slice (some ⟨z,0,none⟩) (t.checks.length+1) cz)).heap[b]?=w7.heap[b]?:=λb hb=>aw w7 ⟨gx,4,none⟩ b _ (λe=>hb (by simpa using e))
      exact⟨rfl,⟨_,_,_,_,_,Tab.px (T7H.out.kv 4 (.slice (some ⟨z,0,none⟩) (t.checks.length+1) cz)) ((hrst z (by omega)).trans HC7.out) hp8 rfl (HE7.out.bC (λb hb hl=>hrst b (by omega)) (λb hb _=>⟨⟨by omega,hnew b hb.1⟩,hzW b hb.1 hb.2⟩)),hcg⟩,(hp8.rest gm (by omega)).trans ((hrst gm F2.h4).trans HM7.out),bN.rd hp8 (Rd.setCell HR7.out F2.h1 _ _) (by omega),HKP.out,(HK7.out.setCell (.inr ⟨by simp,hsz2.1⟩) _ _).trans (dc.dE hp8 hzG)⟩
end Go.Proofs.YtkpmclddjkebeaaGreatDoor
