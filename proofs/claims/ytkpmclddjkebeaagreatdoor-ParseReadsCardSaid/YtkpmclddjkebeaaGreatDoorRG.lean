/- What the claim's proof leans on, part 7: walks of functions and plain laws. -/
import Derived.Test.YtkpmclddjkebeaaGreatDoorRF
set_option linter.unusedSimpArgs false
set_option linter.unusedVariables false
set_option maxRecDepth 100000
set_option maxHeartbeats 80000000
open Array renaming getElem?_eq_some_iff→ae
open Bool renaming false_eq_true→aS,false_or→im,or_false→mh,or_true→pJ,true_or→lu
open Except renaming bind→cG,pure→dz
open Exists renaming intro→aU
open Go.Ending renaming panicked→fU
open Go.Instr renaming build→cR
open Go.Lib renaming hid→aa
open Go.Proofs.Tryz renaming prog→af,underlying25→ku,underlying35→aA,underlying40→aB,underlying88→fJ
open Go.RowKit.Below renaming refl→al
open Go.Value renaming bool→bT,int→lK,ownBlock→gK,slice→gU
open Go.World renaming block_lt_of_cell?→ay,cell?→ak,ownsRow_nil→qA,size_alloc→ag,size_setCell→aM
open Go renaming bodyPost_ret→ar,frozen_of_row→aD,heap_setCell_other→an
open List renaming drop_succ_cons→aL,drop_zero→bd,eq_nil_of_length_eq_zero→iQ,getElem?_append_left→cb,getElem?_append_right→dB,getElem?_eq_getElem→aZ,getElem?_eq_some_iff→cr,getElem?_map→jA,getElem?_take→di,length_append→aN,length_cons→aW,length_singleton→bf,mem_append→kh,mem_cons→aJ,mem_singleton→dr,not_mem_nil→aF,take_left'→oI,take_succ_cons→aG,take_take→nd,take_zero→aY
open Nat renaming add_comm→sy,le_refl→ai,le_trans→bI,lt_of_lt_of_le→aK,lt_or_ge→jY,min_eq_left→mC,mul_le_mul_right→fe,succ_mul→gE,zero_le→gM
open Or renaming inl→kr,inr→rl
namespace Go.Proofs.YtkpmclddjkebeaaGreatDoor
open Go.RowKit
theorem FW(br:Nat):∀f,kq 140 br (λr=>101≤f+r.deep) (P12.kY f):=by
 intro f;induction f with
 | zero=>
  intro r w hp hr;have:=hr.good.deep;omega
 | succ f ih=>
  have hK:∀r r':P12.R,101≤f+1+r.deep->P12.bW r r'->101≤f+1+r'.deep:=λr r' h hk=>by rw[hk.deep];exact h
  have hD:∀r r':P12.R,101≤f+1+r.deep->r.deep≤r'.deep->101≤f+1+r'.deep:=λr r' h hk=>by omega
  have h1:kq 293 br (λr=>101≤f+1+r.deep) (P12.cZ (P12.kY f)):=λr w hp hr=>
   AB br (P12.kY f) r w hr (λr1 W hd hr1=>ih r1 W ab hr1)
  have h2:kq 291 br (λr=>101≤f+1+r.deep) (P12.dU (P12.kY f) (f+1)):=λr w hp hr=>
   DI (λr=>101≤f+1+r.deep) hD br (P12.kY f) h1 (f+1) r w hp hp hr
  have hB:=λpart ops r w hp hr=>IV (λr=>101≤f+1+r.deep) hK br part ops r w hp hr;have h5:=GA (λr=>101≤f+1+r.deep) hK br _ (λr w hp hr=>(hB _ _ r w hp hr).2.2.1 (λr w hp hr=>(hB _ _ r w hp hr).2.2.2 h2 rfl) rfl)
  have h6:kq 238 br (λr=>101≤f+1+r.deep) (P12.ly (P12.uN (P12.kY f) (f+1)) (f+1)):=λr w hp hr=>
   JE (λr=>101≤f+1+r.deep) hD br _ h5 (f+1) r w hp hp hr
  exact λr w hp hr=>(hB _ _ r w hp hr).1 (λr w hp hr=>(hB _ _ r w hp hr).2.1 h6 rfl) rfl
theorem jr(br:Nat)(r:P12.R)(w:World)(h:Rd br r w):Calls af 140 #[rp br] w (Got br w r (eN w) (P12.expr r)):=
 FW br 101 r w (Nat.le_add_right _ _) h
open Go.RowKit Go.WideMaps Go.Maps
theorem qG(br:Nat)(r:P12.R)(w:World)(h:Rd br r w):Calls af 143 #[rp br] w (Got br w r (eN w) (P12.wher r)):=by
 have HR:=aa h;have lr:=h.lt;clear h;unfold P12.wher
 cases hs:P12.isT [87,72,69,82,69] r
 ·rw[if_neg aI];go_enter Tryz.func143,Tryz.ntmps143;go_wp2_with fail;go_at_call 20;refine(fk br r [87,72,69,82,69] _ (rdx (HR.out)) hs).mono ?_;rintro e w1 ⟨rfl,hx1⟩;have hz1:w1.heap[w.heap.size]?=some (bu df.toList):=(hx1.block _ (by rw[ag];omega)).trans (aw w _);have hT1:ah br w w1:=ah.trans (tu trivial) (ah.aR hx1);have HT1:=aa hT1;have HR1:=aa ((HR.out.alloc _).ext hx1);clear hx1 hT1;go_wp2_with ((refine pw (hz1) ?_;intro wZ hpZ));exact ar (aH rfl rfl hpZ.blk aA rfl au) rfl (Got.expr hpZ ((show aC (λb=>w.heap.size<b) _ .none _ from rfl)) (HT1.out) (HR1.out) (P12.bW.refl r) ab ab)
 ·rw[if_pos rfl]
  cases hx:P12.expr (P12.ax r)with
  | error er=>
   go_enter Tryz.func143,Tryz.ntmps143;go_wp2_with fail;go_at_call 20;refine(dT br r [87,72,69,82,69] _ (rdx (HR.out)) hs).mono ?_;rintro e w1 ⟨rfl,ht1,hr1⟩;have hT1:ah br w w1:=ah.trans (tu trivial) ht1;go_wp2_with fail;refine(jr br _ _ hr1).mono ?_;rw[hx];rintro e w2 ⟨rfl,ht2⟩;simp only[bq];go_wp2;exact⟨rfl,rfl,ah.trans hT1 ht2⟩
  | ok p=>
   obtain⟨e9,r9⟩:=p;go_enter Tryz.func143,Tryz.ntmps143;go_wp2_with fail;go_at_call 20;refine(dT br r [87,72,69,82,69] _ (rdx (HR.out)) hs).mono ?_;rintro e w1 ⟨rfl,ht1,hr1⟩;have hT1:ah br w w1:=ah.trans (tu trivial) ht1;have hz1:w1.heap[w.heap.size]?=some (bu df.toList):=ht1.held (aw w _) ab;have hl1:=ht1.size;simp only[ag]at hl1;go_wp2_with fail;refine(jr br _ _ hr1).mono ?_;rw[hx];rintro e w2 ⟨v,rfl,⟨l,rfl,he⟩,ht2,hr2,hk2⟩;obtain⟨kd,op',vk,vi,vs,tb,nm,pp,pm,pc,rfl⟩:=he.form;have hz2:=ht2.held hz1 ab;have hl2:=ht2.size;have HT2:=aa (ah.trans hT1 ht2)
   have HE2:=aa (he.mono (S':=λb=>w.heap.size<b) (λb hb _=>by omega));have HR2:=aa hr2;have HK2:=aa ((P12.aO r).trans hk2);clear he ht2 hr2 hk2 ht1 hr1 hT1 hz1;go_wp2_with ((refine pw (hz2) ?_;intro wZ hpZ));exact ar (aH rfl rfl hpZ.blk aA rfl au) rfl (Got.expr hpZ (HE2.out) (HT2.out) (HR2.out) (HK2.out) ab ab)
theorem pC(br:Nat)(r:P12.R)(w:World)(h:Rd br r w):
  Calls af 145 #[rp br] w λe w'=>e = .returned (.bool (P12.dV r))/\Xk.Ext w w':=by
 have HR:=aa h;have HN:=aa (gI br r w h);have hok:=h.good.lR;have htl:=hok.len;have lr:=h.lt;have HOK:=aa hok;clear h hok;generalize hb:P12.dV r=bb;have HB:=aa hb;clear hb;by_cases h1:(P12.nxt r).kind=1
 ·have hE:=HB.out;simp only[P12.dV,h1,if_true]at hE;have h1b:((P12.nxt r).kind==1)=true:=by simpa using h1
  clear h1;go_enter Tryz.func145,Tryz.ntmps145;go_wp2_with (first|(go_at_call 21;with_reducible refine Xk.cl (HN.out) λp=>?_)|(go_at_call 141;with_reducible refine Xk.cl (kD br r _ (rdx (HR.out))) λp=>?_));go_wp2;go_ret;rw[← hE];exact⟨rfl,Xk.xt⟩
 have h1b:((P12.nxt r).kind==1)=false:=by simpa using h1
 have H1:=aa h1;clear h1;by_cases h3:(P12.nxt r).kind=3
 ·obtain⟨hne,hdg⟩:=HOK.out.digits h3;have hE:=HB.out;simp only[P12.dV,h3,if_neg (show ¬ ((3:Int)=1) by decide),if_true]at hE;have h3b:((P12.nxt r).kind==3)=true:=by simpa using h3
  clear h3;by_cases hle:P12.dec (P12.nxt r).text≤9223372036854775807
  ·have HU:=aa λW=>FL _ hne hdg ab hle W;rw[show decide (P12.dec (P12.nxt r).text≤9223372036854775807)=true by simpa using hle]at hE;subst hE;go_enter Tryz.func145,Tryz.ntmps145;go_wp2_with (first|(go_at_call 21;with_reducible refine Xk.cl (HN.out) λp=>?_)|(go_at_call 204;with_reducible refine Xk.cl (HU.out _) λp=>?_));go_wp2;go_ret;exact⟨rfl,Xk.xt⟩
  ·have HU:=aa λW hr=>IH _ hne hdg ab hle br r W hr;rw[show decide (P12.dec (P12.nxt r).text≤9223372036854775807)=false by simpa using hle]at hE;subst hE;go_enter Tryz.func145,Tryz.ntmps145;go_wp2_with (first|(go_at_call 21;with_reducible refine Xk.cl (HN.out) λp=>?_)|(go_at_call 204;(with_reducible refine(HU.out _ (rdx (HR.out))).mono ?_);rintro e w' ⟨nn,tp,ad,rfl,hb⟩;obtain⟨p,rfl⟩:=Xk.jq hb;clear hb));go_wp2;go_ret;exact⟨rfl,Xk.xt⟩
 have h3b:((P12.nxt r).kind==3)=false:=by simpa using h3
 have H3:=aa h3;clear h3;by_cases h4:(P12.nxt r).kind=4
 ·have hE:=HB.out;simp only[P12.dV,h4,if_neg (show ¬ ((4:Int)=1) by decide),if_neg (show ¬ ((4:Int)=3) by decide),if_true]at hE;have h4b:((P12.nxt r).kind==4)=true:=by simpa using h4
  clear h4;subst hE;go_enter Tryz.func145,Tryz.ntmps145;go_wp2_with (go_at_call 21;with_reducible refine Xk.cl (HN.out) λp=>?_);go_wp2;go_ret;exact⟨rfl,Xk.xt⟩
 have h4b:((P12.nxt r).kind==4)=false:=by simpa using h4
 have H4:=aa h4;clear h4;by_cases h5:(P12.nxt r).kind=5
 ·have hE:=HB.out;simp only[P12.dV,h5,if_neg (show ¬ ((5:Int)=1) by decide),if_neg (show ¬ ((5:Int)=3) by decide),if_neg (show ¬ ((5:Int)=4) by decide),if_true]at hE;have h5b:((P12.nxt r).kind==5)=true:=by simpa using h5
  clear h5
  cases hp:(P12.nxt r).text == [40]
  ·rw[hp,im]at hE;subst hE;go_enter Tryz.func145,Tryz.ntmps145;go_wp2_with (go_at_call 21;with_reducible refine Xk.cl (HN.out) λp=>?_);go_wp2;go_ret;exact⟨rfl,Xk.xt⟩
  ·rw[hp,lu]at hE;subst hE;go_enter Tryz.func145,Tryz.ntmps145;go_wp2_with (go_at_call 21;with_reducible refine Xk.cl (HN.out) λp=>?_);go_wp2;go_ret;exact⟨rfl,Xk.xt⟩
 have h5b:((P12.nxt r).kind==5)=false:=by simpa using h5
 have H5:=aa h5;clear h5;by_cases h2:(P12.nxt r).kind=2
 ·have h2b:((P12.nxt r).kind==2)=true:=by simpa using h2
  have hE:=HB.out;simp only[P12.dV,if_neg H1.out,if_neg H3.out,if_neg H4.out,if_neg H5.out,if_pos h2]at hE;clear h2;go_enter Tryz.func145,Tryz.ntmps145;go_wp2_with fail;go_at_call 21;refine HN.out.mono ?_;rintro e w1 ⟨rfl,hx1⟩;obtain⟨Wt,hWt⟩:∃W,W=w1.alloc (.cells #[.int .i64 (P12.nxt r).kind,.string ⟨(P12.nxt r).text.toArray⟩,.int .i64 (P12.nxt r).pos] 72):=⟨_,rfl⟩;have hxt:Xk.Ext w Wt:=by rw[hWt];exact Xk.Ext.trans hx1 ((al _ _).alloc (ai _) _)
  have gt:Wt.heap[w1.heap.size]?=some (.cells #[.int .i64 (P12.nxt r).kind,.string ⟨(P12.nxt r).text.toArray⟩,.int .i64 (P12.nxt r).pos] 72):=by rw[hWt];exact aw w1 _
  obtain⟨t0,t1,t2,-⟩:=Xe.i7 gt;have lt1:=ay _ _ t0;have HXT:=aa hxt;have HWT:=aa hWt;have GT:=aa gt;have lr2:br<Wt.heap.size:=aK lr hxt.size;clear hxt hWt gt hx1;go_wp2;rw[← HWT.out]
  refine Xg.bm (E:=Xk.Ext) AF (λ_ _=>False) 99 9 (λ_=>none) (λ_ _ h=>by cases h) (λ_ _ _ _ h=>by cases h) [(0,gF Wt.heap.size ig)] au au (Xg.cg ((by
     intro y hy;simp only[aJ,aF,or_false]at hy;rcases hy with rfl
     rw[if_neg (show ¬ (0=99) by decide)];exact λv w w' hx h=>gF.turn (br:=br) ab v w w' (ah.aR hx) h))) (λch a w' hd hX=>hX.elim) ?_
  simp only[aG,aY,aL,bd];(refine Xg.bc az az aq (λW hx hp=>?_) (λu0 K hK=>?_);(go_simp;exact(oU W).mono (λe w' h=>by obtain⟨rfl,hm,hx'⟩:=h;exact⟨_,rfl,hx',⟨W.heap.size,4,rfl,(by have:=hx.size;simpa using this),(by obtain⟨es,cl,hb,-⟩:=hm;exact(ae.1 hb).1),hm⟩,λb hb=>by cases hb⟩));(go_simp;refine hK _ ?_;clear hK K))
  refine Xg.gs ?_;(refine Xg.aX (Xk.aQ az) az (λK hK=>?_);apply aU;refine⟨λW hx hp=>?_,?_⟩;(have c:=Xk.bO hx (show Wt.drew.cell? ⟨w1.heap.size,1,none⟩=_ from t1);go_simp;exact⟨rfl,rfl⟩);(go_simp;refine hK _ ?_;clear hK K))
  (refine Xg.aX (Xk.aQ az) az (λK hK=>?_);apply aU;refine⟨λW hx hp=>?_,?_⟩;((obtain⟨b,n,hu,h1,h2,h3⟩:=Xe.bG hp au;have hlk:=B9 h3 (P12.nxt r).text ab;subst hu);go_simp;exact⟨rfl,rfl⟩);(go_simp;refine hK _ ?_;clear hK K))
  refine Xg.gs ?_;refine Xg.bD (λW hx hp hg=>?_);have hxW:Xk.Ext Wt W:=Xk.Ext.trans ((al _ _).drew) hx;obtain⟨s0,s1,s2,-⟩:=Xe.i7 ((hxW.block _ (ae.1 GT.out).1).trans GT.out);have ltW:=ay _ _ s0;have HXW:=aa (Xk.Ext.trans HXT.out hxW);clear hp hg hx hxW t0 t1 t2
  cases hf:(P12.lZ (P12.nxt r).text).isSome
  ·cases ha:(P12.nxt r).text == [78,79,84]
   ·cases hb:(P12.nxt r).text == [78,85,76,76]
    ·cases hc:(P12.nxt r).text == [84,82,85,69]
     ·cases hd:(P12.nxt r).text == [70,65,76,83,69]
      all_goals
       rw[hf,ha,hb,hc,hd]at hE;simp only[mh,pJ,im,lu]at hE;subst hE;go_wp2;go_ret;exact⟨rfl,HXW.out⟩
     ·rw[hf,ha,hb,hc]at hE;simp only[mh,pJ,im,lu]at hE;subst hE;go_wp2;go_ret;exact⟨rfl,HXW.out⟩
    ·rw[hf,ha,hb]at hE;simp only[mh,pJ,im,lu]at hE;subst hE;go_wp2;go_ret;exact⟨rfl,HXW.out⟩
   ·rw[hf,ha]at hE;simp only[mh,pJ,im,lu]at hE;subst hE;go_wp2;go_ret;exact⟨rfl,HXW.out⟩
  ·rw[hf]at hE;simp only[mh,pJ,im,lu]at hE;subst hE;go_wp2;go_ret;exact⟨rfl,HXW.out⟩
 ·have h2b:((P12.nxt r).kind==2)=false:=by simpa using h2
  have hE:=HB.out;simp only[P12.dV,if_neg H1.out,if_neg H3.out,if_neg H4.out,if_neg H5.out,if_neg h2]at hE;subst hE;clear h2;go_enter Tryz.func145,Tryz.ntmps145;go_wp2_with (go_at_call 21;with_reducible refine Xk.cl (HN.out) λp=>?_);go_wp2;go_ret;exact⟨rfl,Xk.xt⟩
abbrev sK(k lim:Int):List Value:=
  [.int .i64 k,.string ⟨#[]⟩,aj,aj,aj,aj,.string ⟨#[]⟩,.string ⟨#[]⟩,.bool false,aj,aj,aj,
   .int .i64 0,.int .i64 0,.int .i64 0,.int .i64 0,.string ⟨#[]⟩,.string ⟨#[]⟩,.string ⟨#[]⟩,.int .i64 0,.int .i64 0,aj,
   aj,aj,
   .int .i64 0,.int .i64 0,.int .i64 0,.int .i64 0,.string ⟨#[]⟩,.string ⟨#[]⟩,.string ⟨#[]⟩,.int .i64 0,.int .i64 0,aj,
   aj,aj,.int .i64 lim]
theorem jj{g:Nat}{c:Array Value}{T:TypeId}{w0 w w':World}(h:bt g c T w w')(hx:Xk.Ext w0 w)(hg:w0.heap.size≤g):Xk.Ext w0 w':=
 ⟨h.os.trans hx.os,h.tape.trans hx.tape,h.output.trans hx.output,by rw[h.size];exact hx.size,λk hk=>(h.rest k ab).trans (hx.block k hk)⟩
theorem iN(k:Int)(w:World):Calls af 76 #[.int .i64 k] w λe w'=>e = .returned (.agg (sK k (if k=8 then -1 else 0)).toArray)/\Xk.Ext w w':=by
 have HL:Hid (∀W,Calls af 153 #[.int .i64 k] W λe w'=>e = .returned (.int .i64 (if k=8 then -1 else 0))/\W=w'):=aa λW=>by
  by_cases h:k=8
  ·subst h;go_enter Tryz.func153,Tryz.ntmps153;go_wp2;go_ret;exact⟨rfl,rfl⟩
  ·rw[if_neg h];have hb:(k==8)=false:=by simpa using h
   go_enter Tryz.func153,Tryz.ntmps153;go_wp2;go_ret;exact⟨rfl,rfl⟩
 generalize (if k=8 then(-1:Int)else 0)=lim at HL ⊢;have hbd:∀ (lim:Int) (W:World),(cR 40 #[(0,lK .i64 k),(15,lK .i64 lim)]).run af W = .ok (.agg (sK k lim).toArray) W:=λlim W=>by kernel_rfl
 go_enter Tryz.func76,Tryz.ntmps76;go_wp2_with (first|(go_at_call 153;(with_reducible refine(HL.out _).mono ?_);rintro e w' ⟨rfl,rfl⟩)|(refine pw (aw w _) ?_;intro w3 hp3));go_wp2;refine ar (v := .agg (sK k lim).toArray) (aH (fn:=Tryz.f76) rfl rfl hp3.blk aB rfl au) rfl ⟨rfl,?_⟩;exact jj hp3 ((al _ _).alloc (ai _) _) (ai _)
def aE{α:Type}(S:Nat->Prop)(w:World)(sz:Nat)(R:α->List Value->Prop)(l:List α)(v:Value):Prop:=
 (l = []/\v=aj)∨∃ (g c:Nat) (us:List (List Value)),v = .slice (some ⟨g,0,none⟩) l.length c/\S g/\0<l.length/\l.length≤c/\us.length=l.length/\(∀u∈us,u.length=sz)/\0<sz/\w.rangeAt g 0 us.flatten/\∀ (j:Nat) x u,l[j]?=some x->us[j]?=some u->R x u
theorem aE.nil{α:Type}(S:Nat->Prop)(w:World)(sz:Nat)(R:α->List Value->Prop):aE S w sz R [] aj := .inl ⟨rfl,rfl⟩
theorem rZ{us:List (List Value)}{sz:Nat}(h:∀u∈us,u.length=sz)(hp:0<us.length)(hs:0<sz):0<us.flatten.length:=by
 cases us with
 | nil=>simp at hp
 | cons u us=>simp;have:=h u aI;omega
theorem aE.bg{α:Type}{S S':Nat->Prop}{w w':World}{sz:Nat}{R R':α->List Value->Prop}{l:List α}{v:Value}(h:aE S w sz R l v)(hb:∀b,S b->b<w.heap.size->w'.heap[b]?=w.heap[b]?)(hS:∀b,S b->b<w.heap.size->S' b)
  (hR:∀x u,R x u->R' x u):aE S' w' sz R' l v:=by
 rcases h with h|⟨g,c,us,h1,h2,h3,h4,h5,h6,h7,h8,h9⟩
 ·exact .inl h
 ·have hlt:=qd h8 (rZ h6 ab h7);exact .inr ⟨g,c,us,h1,hS g h2 hlt,h3,h4,h5,h6,h7,eV h8 (hb g h2 hlt),λj x u hx hu=>hR x u (h9 j x u hx hu)⟩
def lP(s:P12.T)(u:List Value):Prop:=u = [bs s]
def sM(s:P12.T×P12.T)(u:List Value):Prop:=u = [bs s.1,bs s.2]
def xq(c:P12.T×Int×Bool)(u:List Value):Prop:=u = [bs c.1,.int .i64 c.2.1,.bool c.2.2]
def yW(p:Bool)(u:List Value):Prop:=u = [.string ⟨#[]⟩,aj,.bool true,.bool p]
def dY(S:Nat->Prop)(w:World)(e:P12.E)(u:List Value):Prop:=aC S w e u
def Au(S:Nat->Prop)(w:World)(x:P12.T×P12.E)(u:List Value):Prop:=∃l,u = [bs x.1,.int .i64 0]++l/\aC S w x.2 l
def mq(S:Nat->Prop)(w:World)(x:Bool×P12.E×P12.T)(u:List Value):Prop:=∃l,u = [.bool x.1]++(l ++ [bs x.2.2])/\aC S w x.2.1 l
def se(S:Nat->Prop)(w:World)(x:P12.E×Bool)(u:List Value):Prop:=∃l,u=l ++ [.bool x.2]/\aC S w x.1 l
def Aw(S:Nat->Prop)(w:World)(x:List P12.E)(u:List Value):Prop:=∃v,u = [v]/\aE S w 10 (dY S w) x v
def rC(S:Nat->Prop)(w:World)(x:List P12.T)(u:List Value):Prop:=∃v,u = [v]/\aE S w 1 lP x v
abbrev cT(kind:Int)(tn:P12.T)(tc tk tq kc:Value)(nm on:P12.T)(un:Bool)(cols rows sets:Value)(wh:List Value)(items frm:Value)(jn:List Value)(grp ord:Value)(lim:Int):List Value:=
 .int .i64 kind::bs tn::tc::tk::tq::kc::bs nm::bs on :: .bool un::cols::rows::sets::(wh++(items::frm::(jn ++ [grp,ord,.int .i64 lim])))
structure BN(S:Nat->Prop)(w:World)(x:P12.St)(l:List Value)(tc tk tq kc cols rows sets:Value)(wh:List Value)(items frm:Value)(jn:List Value)(grp ord:Value):Prop where
 form:l=cT x.kind x.tb.name tc tk tq kc x.name x.on x.unique cols rows sets wh items frm jn grp ord x.limit
 tc:aE S w 3 xq x.tb.cols tc
 tk:aE S w 4 yW x.tb.keys tk
 tq:aE S w 10 (dY S w) x.tb.checks tq
 kc:aE S w 1 (rC S w) x.keyCols kc
 cols:aE S w 1 lP x.cols cols
 rows:aE S w 1 (Aw S w) x.rows rows
 sets:aE S w 12 (Au S w) x.sets sets
 wh:aC S w x.wher wh
 items:aE S w 12 (mq S w) x.items items
 frm:aE S w 2 sM x.frm frm
 jn:aC S w x.join jn
 grp:aE S w 10 (dY S w) x.group grp
 ord:aE S w 11 (se S w) x.order ord
def dv(S:Nat->Prop)(w:World)(x:P12.St)(l:List Value):Prop:=∃tc tk tq kc cols rows sets wh items frm jn grp ord,BN S w x l tc tk tq kc cols rows sets wh items frm jn grp ord
theorem dv.length{S:Nat->Prop}{w:World}{x:P12.St}{l:List Value}(h:dv S w x l):l.length=37:=by
 obtain⟨tc,tk,tq,kc,cols,rows,sets,wh,items,frm,jn,grp,ord,h⟩:=h;rw[h.form];simp[h.wh.length,h.jn.length]
theorem dv.bg{S S':Nat->Prop}{w w':World}{x:P12.St}{l:List Value}(h:dv S w x l)(hb:∀b,S b->b<w.heap.size->w'.heap[b]?=w.heap[b]?)(hS:∀b,S b->b<w.heap.size->S' b):dv S' w' x l:=by
 obtain⟨tc,tk,tq,kc,cols,rows,sets,wh,items,frm,jn,grp,ord,h⟩:=h;have hE:∀e u,dY S w e u->dY S' w' e u:=λe u h=>aC.bg hb hS h
 exact⟨tc,tk,tq,kc,cols,rows,sets,wh,items,frm,jn,grp,ord,h.form,h.tc.bg hb hS (λ_ _ h=>h),h.tk.bg hb hS (λ_ _ h=>h),h.tq.bg hb hS hE,
  h.kc.bg hb hS (λx u ⟨v,h1,h2⟩=>⟨v,h1,h2.bg hb hS (λ_ _ h=>h)⟩),h.cols.bg hb hS (λ_ _ h=>h),h.rows.bg hb hS (λx u ⟨v,h1,h2⟩=>⟨v,h1,h2.bg hb hS hE⟩),
  h.sets.bg hb hS (λx u ⟨l,h1,h2⟩=>⟨l,h1,h2.bg hb hS⟩),h.wh.bg hb hS,h.items.bg hb hS (λx u ⟨l,h1,h2⟩=>⟨l,h1,h2.bg hb hS⟩),h.frm.bg hb hS (λ_ _ h=>h),h.jn.bg hb hS,
  h.grp.bg hb hS hE,h.ord.bg hb hS (λx u ⟨l,h1,h2⟩=>⟨l,h1,h2.bg hb hS⟩)⟩
abbrev jC(w:World):Value->P12.St->World->Prop:=λv x w'=>∃l,v = .agg l.toArray/\dv (λb=>w.heap.size≤b) w' x l
theorem pX(S:Nat->Prop)(w:World)(k:Int):dv S w (P12.made k) (sK k (if k=8 then -1 else 0)):=
 ⟨aj,aj,aj,aj,aj,aj,aj,ao 0 0 0 0 [] [] [] aj,aj,aj,ao 0 0 0 0 [] [] [] aj,aj,aj,rfl,aE.nil _ _ _ _,aE.nil _ _ _ _,aE.nil _ _ _ _,aE.nil _ _ _ _,aE.nil _ _ _ _,aE.nil _ _ _ _,aE.nil _ _ _ _,rfl,aE.nil _ _ _ _,aE.nil _ _ _ _,rfl,aE.nil _ _ _ _,aE.nil _ _ _ _⟩
theorem mF:∀ (vs:List Value) (o:Nat) (c:Array Value),(fZ c o vs).size=c.size
 | [],_,_=>rfl
 | v::vs,o,c=>by rw[fZ,mF vs];simp
theorem aV{P:Program}{ops:Array Oper}{rest:List Oper}{o:Oper}{a:Act}{w:World}{Q:Exit->Act->World->Prop}(hgd:o.guard=none)(t:TypeId)(x y:Operand)(ho:o.op = .store t x y)
  (g off:Nat) (c c':Array Value) (T:TypeId) (hx:a.eval x = .pointer (some ⟨g,off,none⟩)) (hy:a.eval y = .agg c') (hg:w.heap[g]?=some (.cells c T)) (hs:off+c'.size≤c.size)
  (hi:(P.info? t).map (·.size)=some c'.size) (h1:c'.all (·.oneCell')=true)
  (h:∀w',bt g (fZ c off c'.toList) T w w'->wpList P ops Q rest (a.put o.dst undef) w'):wpList P ops Q (o::rest) a w:=by
 refine wpList_store_mid hgd t x y ho g off c' hx hy (λj hj=>?_) hi h1 (h _ (gZ hg c'.toList off));exact⟨by simp[ak,hg,show off+j<c.size by omega],aD w g (off+j) _ _ hg⟩
theorem bt.held{g b:Nat}{c:Array Value}{T:TypeId}{w w':World}{o:Obj}(h:bt g c T w w')(hb:w.heap[b]?=some o)(hne:b≠g):w'.heap[b]?=some o:=(h.rest b hne).trans hb
abbrev bC:List Value:=sK 0 0
abbrev cL(l:List Value):Obj := .cells l.toArray 40
theorem zy(br:Nat)(r:P12.R)(w:World)(h:Rd br r w):Calls af 73 #[rp br] w (Got br w r (jC w) (P12.iP r)):=by
 have HR:=aa h;have lr:=h.lt;clear h;generalize hres:P12.iP r=res;have HRES:=aa hres;clear hres;have HM:=aa λW=>iN 7 W;rw[if_neg aq]at HM;go_enter Tryz.func73,Tryz.ntmps73;go_wp2_with fail;go_at_call 76;refine(HM.out _).mono ?_;rintro e w1 ⟨rfl,hx1⟩;have hl1:=hx1.size;simp only[ag]at hl1;have hz1:w1.heap[w.heap.size]?=some (cL bC):=(hx1.block _ (by rw[ag];omega)).trans (aw w _);have hT1:ah br w w1:=ah.trans (tu trivial) (ah.aR hx1);have hr1:=(HR.out.alloc _).ext hx1;clear hx1;go_wp2_with (refine pw (aw w1 _) ?_;intro w2 hp2)
 have hl2:w2.heap.size=w1.heap.size+1:=by have:=hp2.size;rwa [ag]at this
 have hT2:ah br w w2:=bt.turn hp2 (ah.alloc hT1 _) ab;have hr2:Rd br r w2:=bt.rd hp2 (hr1.alloc _) ab;have hz2:w2.heap[w.heap.size]?=some (cL bC):=bt.held hp2 ((ah.alloc (ah.refl br w1) _).held hz1 ab) ab;have hb2:=hp2.blk;have hMu:=nE br r [70,82,79,77] w2.heap.size (w2.alloc (.cells #[bs [70,82,79,77]] 9)) (rdx (hr2)) (ju w2 _ _) ab;clear hp2 hz1 hT1 hr1
 cases hm:P12.isT [70,82,79,77] r
 ·rw[show P12.iz [70,82,79,77] r = .error ((P12.nxt r).pos,120) by unfold P12.iz;rw[hm];rfl]at hMu;have hE:=HRES.out;simp only[P12.iP,P12.bL,hm,P12.bU,bind,cG,aS,if_false]at hE;subst hE;refine hMu.mono ?_;rintro e w3 ⟨rfl,ht3⟩;simp only[bq];go_wp2;exact⟨rfl,rfl,ah.trans (ah.alloc hT2 _) ht3⟩
 rw[show P12.iz [70,82,79,77] r = .ok ((),P12.ax r) by unfold P12.iz;rw[hm];rfl]at hMu;have hE:=HRES.out;simp only[P12.iP,P12.bL,hm,bind,cG,if_true]at hE;have HE:=aa hE;clear hE HRES;refine hMu.mono ?_;rintro e w3 ⟨v3,rfl,rfl,ht3,hr3,hk3⟩;have hz3:=ht3.held ((ah.alloc (ah.refl br w2) _).held hz2 ab) ab;have hb3:=ht3.held ((ah.alloc (ah.refl br w2) _).held hb2 ab) ab;have hl3:=ht3.size;simp only[ag]at hl3;have hT3:=ah.trans (ah.alloc hT2 _) ht3;clear hMu hz2 hb2 ht3 hT2 hr2;go_wp2_with fail;go_at_call 131;refine(dG br _ _ hr3).mono ?_;intro e w4 h
 cases hn:P12.name (P12.ax r)with
 | error er=>
  rw[hn]at h;have hE:=HE.out;rw[hn]at hE;dsimp only at hE;subst hE;obtain⟨rfl,ht4⟩:=h;simp only[bq];go_wp2;exact⟨rfl,rfl,ah.trans hT3 ht4⟩
 | ok p=>
  obtain⟨a,r4⟩:=p;rw[hn]at h;have hE:=HE.out;rw[hn]at hE;dsimp only at hE;have HE2:=aa hE;clear hE HE;obtain⟨v4,rfl,rfl,ht4,hr4,hk4⟩:=h;have hz4:=ht4.held hz3 ab;have hb4:=ht4.held hb3 ab;have hl4:=ht4.size;have hT4:=ah.trans hT3 ht4;have c6:w4.cell? ⟨w1.heap.size,6,none⟩=some (.string ⟨#[]⟩):=by simp[ak,hb4]
  have f6:=aD w4 w1.heap.size 6 _ _ hb4;have l6:=ay _ _ c6;have hb5:=heap_setCell_same w4 w1.heap.size 6 _ _ (bs a) hb4;have hz5:=(an w4 ⟨w1.heap.size,6,none⟩ w.heap.size (bs a) (by show w.heap.size≠w1.heap.size;omega)).trans hz4;have hT5:=hT4.kO (g:=w1.heap.size) (.inl ab) 6 (bs a);have hr5:=Rd.setCell hr4 (g:=w1.heap.size) ab 6 (bs a);have hk5:P12.bW r r4:=(P12.aO r).trans hk4;have HB5:=aa hb5;have HZ5:=aa hz5;clear hb4 hz4 hb3 hz3 ht4 hr4 hT4 hb5 hz5 hT3 hr3;go_wp2_with fail;go_at_call 143;refine(qG br _ _ hr5).mono ?_;intro e w6 h
  cases hx:P12.wher r4 with
  | error er=>
   rw[hx]at h;have hE:=HE2.out;rw[hx]at hE;dsimp only at hE;subst hE;obtain⟨rfl,ht6⟩:=h;simp only[bq];go_wp2;exact⟨rfl,rfl,ah.trans hT5 ht6⟩
  | ok p=>
   obtain⟨x,r6⟩:=p;rw[hx]at h;have hE:=HE2.out;rw[hx]at hE;dsimp only at hE;obtain⟨v6,rfl,⟨l,rfl,he⟩,ht6,hr6,hk6⟩:=h;obtain⟨kd,op',vk,vi,vs,tb,nm,pp,pm,pc,rfl⟩:=he.form;have hb6:=ht6.held HB5.out ab;have hz6:=ht6.held HZ5.out ab;have hl6:=ht6.size;simp only[aM]at hl6;have HT6:=aa (ah.trans hT5 ht6);have HX6:=aa (he.mono (S':=λb=>w1.heap.size<b) (λb hb _=>by simp only[aM]at hb;omega));have HR6:=aa hr6;have HK6:=aa (hk5.trans hk6);clear ht6 hr6 he hT5 hr5
   go_wp2_with (first|((refine aV rfl 35 _ _ rfl (w1.heap.size) (12) _ _ 40 rfl rfl (hb6) (aI) (au) (au) ?_;intro w7 hp7);have hb7:w7.heap[w1.heap.size]?=some (cL (cT 7 [] aj aj aj aj a [] false aj aj aj (ao kd op' vk vi vs tb nm (.slice pp pm pc)) aj aj (ao 0 0 0 0 [] [] [] aj) aj aj 0)):=(by refine hp7.blk.trans (congrArg (λc=>some (Obj.cells c 40)) ?_);kernel_rfl);have hz7:=bt.held hp7 hz6 ab)|(refine lw hb7 aB ?_)|(refine pw hz7 ?_;intro w8 hp8));refine ar (aH (fn:=Tryz.f73) rfl rfl hp8.blk aB rfl au) rfl ?_;subst hE;have hx:=bt.expr hp8 (bt.expr hp7 HX6.out ab) ab
   refine⟨_,rfl,⟨_,rfl,aj,aj,aj,aj,aj,aj,aj,_,aj,aj,ao 0 0 0 0 [] [] [] aj,aj,aj,rfl,aE.nil _ _ _ _,aE.nil _ _ _ _,aE.nil _ _ _ _,aE.nil _ _ _ _,aE.nil _ _ _ _,aE.nil _ _ _ _,aE.nil _ _ _ _,hx.mono (λb hb _=>ab),aE.nil _ _ _ _,aE.nil _ _ _ _,rfl,aE.nil _ _ _ _,aE.nil _ _ _ _⟩,bt.turn hp8 (bt.turn hp7 HT6.out ab) ab,bt.rd hp8 (bt.rd hp7 HR6.out ab) ab,HK6.out⟩
abbrev k7{α:Type}(R:(Nat->Prop)->World->α->List Value->Prop):Prop:=
 ∀S S' w w' x u,R S w x u->(∀b,S b->b<w.heap.size->w'.heap[b]?=w.heap[b]?)->(∀b,S b->b<w.heap.size->S' b)->R S' w' x u
theorem iK:k7 (λ_ _=>lP):=λ_ _ _ _ _ _ h _ _=>h
theorem bj:k7 dY:=λ_ _ _ _ _ _ h hb hS=>aC.bg hb hS h
theorem eZ:k7 Au:=λ_ _ _ _ _ _ ⟨l,h1,h2⟩ hb hS=>⟨l,h1,h2.bg hb hS⟩
theorem cJ:k7 mq:=λ_ _ _ _ _ _ ⟨l,h1,h2⟩ hb hS=>⟨l,h1,h2.bg hb hS⟩
theorem dJ:k7 se:=λ_ _ _ _ _ _ ⟨l,h1,h2⟩ hb hS=>⟨l,h1,h2.bg hb hS⟩
theorem eA:k7 Aw:=λ_ _ _ _ _ _ ⟨v,h1,h2⟩ hb hS=>⟨v,h1,h2.bg hb hS (λ_ _ h=>aC.bg hb hS h)⟩
def dt{α:Type}(B:Nat)(e:TypeId)(sz:Nat)(R:(Nat->Prop)->World->α->List Value->Prop)(xs:List α)(v:Value)(w:World):Prop:=
 ∃us:List (List Value),w.ownsRow B e sz v xs.length us.flatten/\us.length=xs.length/\(∀u∈us,u.length=sz)/\∀ (j:Nat) x u,xs[j]?=some x->us[j]?=some u->R (λb=>B≤b/\¬ v.ownBlock=some b) w x u
section
variable {α : Type} {B : Nat} {e : TypeId} {sz : Nat} {R : (Nat → Prop) → World → α → List Value → Prop} {xs : List α} {v : Value} {w w' : World}
theorem dt.nil:dt B e sz R [] aj w:=⟨[],qA _ _ _ _,rfl,by simp,by simp⟩
theorem dt.lt(h:dt B e sz R xs v w):∀b,v.ownBlock=some b->B≤b/\b<w.heap.size:=by
 obtain⟨us,h1,-⟩:=h;exact h1.lt
theorem dt.same(h:dt B e sz R xs v w)(hR:k7 R)(hb:∀b,B≤b->b<w.heap.size->w'.heap[b]?=w.heap[b]?):dt B e sz R xs v w':=by
 obtain⟨us,h1,h2,h3,h4⟩:=h;exact⟨us,kb h1 λb hb'=>hb b (h1.lt b hb').1 (h1.lt b hb').2,h2,h3,λj x u hx hu=>hR _ _ _ _ _ _ (h4 j x u hx hu) (λb hs=>hb b hs.1) (λb hs _=>hs)⟩
theorem dt.turn{br:Nat}(h:dt B e sz R xs v w)(hR:k7 R)(ht:ah br w w')(hB:br<B):dt B e sz R xs v w':=
 h.same hR λb h1 h2=>ht.block h2 ab
theorem dt.set(h:dt B e sz R xs v w)(hR:k7 R){g:Nat}(hg:g<B)(o:Nat)(u:Value):dt B e sz R xs v (w.setCell ⟨g,o,none⟩ u):=
 h.same hR λb h1 h2=>an w ⟨g,o,none⟩ b u (λe=>by(have h:b=g:=(by simpa using e));omega)
theorem dt.push{us:List (List Value)}{v':Value}{x:α}{u:List Value}(hR:k7 R)(h2:us.length=xs.length)(h3:∀u∈us,u.length=sz)
  (h4:∀ (j:Nat) x u,xs[j]?=some x->us[j]?=some u->R (λb=>B≤b/\¬ v.ownBlock=some b) w x u) (hg:w.grownBy w' v.ownBlock) (ho:w'.ownsRow B e sz v' (xs.length+1) (us.flatten++u))
  (hk:∀b,v'.ownBlock=some b->v.ownBlock=some b∨w.heap.size≤b) (hu:u.length=sz) (hx:R (λb=>B≤b/\¬ v.ownBlock=some b) w x u):dt B e sz R (xs ++ [x]) v' w':=by
 have hmv:∀x u,R (λb=>B≤b/\¬ v.ownBlock=some b) w x u->R (λb=>B≤b/\¬ v'.ownBlock=some b) w' x u:=λx u h=>
  hR _ _ _ _ _ _ h (λb hb hl=>hg.block b hl (λe=>hb.2 e.symm)) (λb hb hl=>⟨hb.1,λe=>by
   rcases hk b e with h|h
   ·exact hb.2 h
   ·omega⟩)
 refine⟨us ++ [u],by simpa using ho,by simp[h2],λy hy=>?_,λj y c hy hc=>hmv _ _ ?_⟩
 ·rcases kh.1 hy with hy|hy
  ·exact h3 y hy
  ·rw[dr.1 hy];exact hu
 ·rcases jY j xs.length with hj|hj
  ·rw[cb hj]at hy;rw[cb ab]at hc;exact h4 j y c hy hc
  ·rw[dB hj]at hy;rw[dB ab,h2]at hc
   obtain⟨rfl,rfl⟩:x=y/\u=c:=by
    rcases hj0:j-xs.length with _|k
    ·rw[hj0]at hy hc;simp at hy hc;exact⟨hy,hc⟩
    ·rw[hj0]at hy;simp at hy
   exact hx
theorem dt.slc(h:dt B e sz R xs v w)(hR:k7 R)(hp:0<xs.length)(hs:0<sz):aE (λb=>B≤b) w sz (R (λb=>B≤b) w) xs v:=by
 obtain⟨us,h1,h2,h3,h4⟩:=h;rcases h1.2 with⟨-,h0⟩|⟨g,cap,cur,rfl,h5,h6,h7,h8,h9,h10⟩
 ·omega
 ·refine .inr ⟨g,cap,us,rfl,h5,hp,h7,h2,h3,hs,λj v hj=>?_,λj x u hx hu=>hR _ _ _ _ _ _ (h4 j x u hx hu) (λ_ _ _=>rfl) (λb hb _=>hb.1)⟩;rw[← h10]at hj
  have hj':cur.toList[j]?=some v:=by
   rw[di]at hj;split at hj
   ·exact hj
   ·cases hj
  simp[ak,h6];simpa using hj'
end
theorem DG{B:Nat}{e:TypeId}{xs:List P12.T}{v:Value}{w:World}(h:dt B e 1 (λ_ _=>lP) xs v w):w.ownsRow B e 1 v xs.length (oR xs):=by
 obtain⟨us,h1,h2,h3,h4⟩:=h
 have:us=xs.map λs => [bs s]:=List.ext_getElem? λj=>by
  rcases hx:xs[j]? with _|x
  ·rw[List.getElem?_eq_none (by rw[h2];exact List.getElem?_eq_none_iff.1 hx)];simp[hx]
  ·obtain⟨u,hu⟩:∃u,us[j]?=some u:=by
    have:=(cr.1 hx).1;exact⟨us[j],aZ ab⟩
   rw[hu,jA,hx,h4 j x u hx hu];rfl
 rw[this]at h1
 have h5:∀xs:List P12.T,(xs.map λs => [bs s]).flatten=oR xs:=λxs=>by
  induction xs with
  | nil=>rfl
  | cons x xs ih=>simp[oR]at ih ⊢;exact ih
 rwa [h5]at h1
theorem CK{B:Nat}{e:TypeId}{xs:List P12.T}{v:Value}{w:World}(h:w.ownsRow B e 1 v xs.length (oR xs)):dt B e 1 (λ_ _=>lP) xs v w:=by
 have h5:∀xs:List P12.T,(xs.map λs => [bs s]).flatten=oR xs:=λxs=>by
  induction xs with
  | nil=>rfl
  | cons x xs ih=>simp[oR]at ih ⊢;exact ih
 refine⟨xs.map λs => [bs s],by rw[h5];exact h,by simp,λu hu=>?_,λj x u hx hu=>?_⟩
 ·obtain⟨s,-,rfl⟩:=List.mem_map.1 hu;rfl
 ·rw[jA,hx]at hu;simp at hu;exact hu.symm
theorem P12.GW{α:Type}{most:Nat}{could:P12.R->Bool}{read:P12.R->Except P12.Er (α×P12.R)}:∀ {f n:Nat} {r:P12.R} {xs:List α} {r':P12.R},P12.eJ most could read f n r = .ok (xs,r')->0<xs.length
 | 0,_,_,_,_,h=>by simp[P12.eJ,P12.bU]at h
 | f+1,n,r,xs,r',h=>by
  rw[P12.eJ]at h;split at h
  ·simp[P12.bU]at h
  ·split at h
   ·cases h
   ·split at h
    ·split at h
     ·cases h
     ·cases h;simp
    ·cases h;simp
theorem kP{α:Type}(br most gx:Nat)(T e:TypeId)(sz:Nat)(mk:Value->Array Value)(R:(Nat->Prop)->World->α->List Value->Prop)(hR:k7 R)(hsz:0<sz)(r0:P12.R)(w:World)(cv cx ra rb:Value)(CF RF:FuncId)
  (could:P12.R->Bool) (read:P12.R->Except P12.Er (α×P12.R)) (hmost:most≤1000) (h:Rd br r0 w) (hbx:w.heap[gx]?=some (.cells (mk aj) T)) (hbg:br<gx) (hcv:ui cv CF cx) (hce:Ent CF) (hre:Ent RF)
  (hC:∀r W,Rd br r W->Kept w.heap.size [br,gx] w W->Calls af CF #[cx] W λe w'=>e = .returned (.bool (could r))/\Xk.Ext W w')
  (hRd:∀ (xs:List α) v r W,xs.length≤100000->Rd br r W->W.heap[gx]?=some (.cells (mk v) T)->dt (w.heap.size+1) e sz R xs v W->Kept w.heap.size [br,gx] w W->w.heap.size<W.heap.size ->
   Calls af RF #[ra,rb] W (dI br r (λx w'=>∃v',w'.heap[gx]?=some (.cells (mk v') T)/\dt (w.heap.size+1) e sz R (xs ++ [x]) v' w'/\Kept (w.heap.size+1) [br,gx] W w') (Kept w.heap.size [br,gx] W) (read r))) :
  Calls af 135 #[rp br,.int .i64 most,cv,.func (.func RF) #[] #[ra,rb]] w
   (dI br r0 (λxs w'=>∃v,w'.heap[gx]?=some (.cells (mk v) T)/\aE (λb=>w.heap.size<b) w' sz (R (λb=>w.heap.size<b) w') xs v/\0<xs.length/\Kept w.heap.size [br,gx] w w') (Kept w.heap.size [br,gx] w) (P12.eJ most could read r0.l.length 0 r0)):=by
 have hlt:=(ae.1 hbx).1;have hlen:=h.good.len
 refine(GS br most r0 w cv _ cx ra rb CF RF could read (λxs W=>w.heap.size<W.heap.size/\(∃v,W.heap[gx]?=some (.cells (mk v) T)/\dt (w.heap.size+1) e sz R xs v W)/\Kept w.heap.size [br,gx] w W) (Kept w.heap.size [br,gx] w)
  hmost h hcv hce (λxs r W hr hJ=>hC r W hr hJ.2.2) rfl hre (λxs r W hk hl hr hJ=>?_) ?_ (λxs W v hJ=>?_) (λxs W W' hJ ht=>?_) (λxs W hJ=>hJ.2.2)).mono ?_
 ·obtain⟨j1,⟨v,j2,j3⟩,j4⟩:=hJ;refine(hRd xs v r W ab hr j2 j3 j4 j1).mono ?_;intro e w' hp;unfold dI at hp ⊢;split at hp
  ·obtain⟨p1,⟨v',p2,p3,p4⟩,p5,p6⟩:=hp;exact⟨p1,⟨⟨aK j1 p4.size,⟨v',p2,p3⟩,j4.trans (p4.mono ab (λ_ h=>h))⟩,p4.block _ ab j1 (by simp;omega)⟩,p5,p6⟩
  ·exact⟨hp.1,j4.trans hp.2⟩
 ·exact⟨by rw[ag];omega,⟨aj,by rw[← hbx];exact(((al _ _).alloc (ai _) _:Below w.heap.size w (w.alloc _))).block gx hlt,dt.nil⟩,(Kept.refl _ _ _).alloc _⟩
 ·obtain⟨j1,⟨u,j2,j3⟩,j4⟩:=hJ;exact⟨by rw[aM];exact j1,⟨u,by rw[← j2];exact an W ⟨w.heap.size,1,none⟩ gx v (λe=>by(have h:gx=w.heap.size:=(by simpa using e));omega),j3.set hR ab _ _⟩,j4.setCell (.inl (ai _)) _ _⟩
 ·obtain⟨j1,⟨u,j2,j3⟩,j4⟩:=hJ;exact⟨aK j1 ht.size,⟨u,ht.held j2 ab,j3.turn hR ht (by have:=h.lt;omega)⟩,j4.trans (Kept.bB ht aI)⟩
 ·intro e w' hp;unfold dI at hp ⊢;split at hp
  ·rename_i xs r' heq;have hne:=P12.GW heq;obtain⟨p1,⟨p2,⟨v,p3,p4⟩,p5⟩,p6,p7⟩:=hp;exact⟨p1,⟨v,p3,p4.slc hR hne hsz,hne,p5⟩,p6,p7⟩
  ·exact hp
theorem eM{g:Nat}(W:World)(x:Value)(T:TypeId)(h:g=W.heap.size):(W.alloc (.cells #[x] T)).cell? ⟨g,0,none⟩=some x:=by
 subst h;exact ju W x T
theorem Cp{g:Nat}(W:World)(o:Obj)(h:g=W.heap.size):(W.alloc o).heap[g]?=some o:=by
 subst h;exact aw W o
theorem dN(br:Nat)(s:P12.T)(r:P12.R)(g:Nat)(w:World)(h:Rd br r w)(hc:w.cell? ⟨g,0,none⟩=some (bs s))(hg:br<g):
  Calls af 132 #[rp br,.slice (some ⟨g,0,none⟩) 1 1] w λe w'=>match P12.bL s r with | .error er=>e=bq er/\ah br w w' | .ok r'=>e = .returned (.tuple #[])/\ah br w w'/\Rd br r' w'/\P12.bW r r':=by
 refine(nE br r s g w h hc hg).mono ?_;intro e w' h;unfold P12.iz at h;unfold P12.bL
 cases hm:P12.isT s r
 ·rw[hm]at h;exact h
 ·rw[hm]at h;obtain⟨v,rfl,rfl,h1,h2,h3⟩:=h;exact⟨rfl,h1,h2,h3⟩
theorem Bt:Ent 201:=⟨λ_ _=>by go_simp,by decide⟩
theorem Kept.pD{br gx:Nat}{w0 w w':World}(h:Kept w.heap.size [br,gx] w w')(ht:ah br w0 w)(hg:w0.heap.size≤gx):ah br w0 w':=by
 obtain⟨h1,h2,h3,h4,h5⟩:=ht;refine⟨h.os.trans h1,h.tape.trans h2,h.output.trans h3,bI h4 h.size,λb hb=>?_⟩;by_cases hbr:b=br
 ·exact .inr ⟨(br,λ_=>True),by simp,hbr.symm,trivial⟩
 ·rw[h.block b ab ab (by simp;omega)];exact h5 b hb
theorem CZ(br gout grb:Nat)(r:P12.R)(w:World)(h:Rd br r w)(hgr:w.heap[grb]?=some (.cells #[rp br] 67))(hgo:w.heap[gout]?=some (.cells #[aj] 29))(h1:br<gout)(h2:br<grb)(hne:grb≠gout):
  Calls af 135 #[rp br,.int .i64 16,.func (.func 141) #[rp br] #[],.func (.func 201) #[] #[rp gout,rp grb]] w
   (dI br r (λxs w'=>∃v,w'.heap[gout]?=some (.cells #[v] 29)/\aE (λb=>w.heap.size<b) w' 1 lP xs v/\0<xs.length/\Kept w.heap.size [br,gout] w w') (Kept w.heap.size [br,gout] w) (P12.eJ 16 P12.named P12.name r.l.length 0 r)):=by
 have hlg:=(ae.1 hgo).1;have hlr:=(ae.1 hgr).1;refine kP br 16 gout 29 9 1 (λv => #[v]) (λ_ _=>lP) iK aq r w _ (rp br) (rp gout) (rp grb) 141 201 P12.named P12.name aq h hgo ab (.inl rfl) mx Bt (λr W hr _=>kD br r W hr) (λxs v r W hl hr hb hg hk hlt=>?_);refine(AX br gout grb (w.heap.size+1) xs r W hr ⟨v,hb,DG hg⟩ (hk.held hgr hlr (by simp;omega)) h1 h2 ab ab ab hl).mono ?_;intro e w' hp;unfold dI at hp ⊢;split at hp
 ·obtain⟨p1,⟨⟨v',p2,p3⟩,p4⟩,p5,p6⟩:=hp;exact⟨p1,⟨v',p2,CK p3,p4⟩,p5,p6⟩
 ·exact⟨hp.1,Kept.bB hp.2 aI⟩
theorem oo(br:Nat)(r:P12.R)(w:World)(h:Rd br r w):Calls af 134 #[rp br] w (Got br w r (λv x w'=>0<x.length/\aE (λb=>w.heap.size≤b) w' 1 lP x v) (P12.names r)):=by
 have HR:=aa h;have lr:=h.lt;clear h;generalize hres:P12.names r=res;have hE:=hres;simp only[P12.names,bind,cG,pure,dz]at hE;have HE:=aa hE;clear hE hres;go_enter Tryz.func134,Tryz.ntmps134;go_wp2_with fail;go_at_call 132;refine(dN br [40] r _ _ (rdx (HR.out)) (eM _ _ _ (by simp only[ag])) ab).mono ?_;intro e w1 h
 cases hn:P12.bL [40] r
 case error er=>
  rw[hn]at h;have hE:=HE.out;rw[hn]at hE;dsimp only at hE;subst hE;obtain⟨rfl,ht⟩:=h;simp only[bq];go_wp2;exact⟨rfl,rfl,ah.trans (tu trivial) ht⟩
 rename_i p;rw[hn]at h HE;dsimp only at HE;obtain⟨rfl,ht1,hr1,hk1⟩:=h;have hgr:=ht1.held ((ah.alloc (ah.alloc (ah.refl br (w.alloc (.cells #[rp br] 67))) (.cells #[aj] 29)) _).held (aw w _) (by simp[ag];omega)) ab;have hgo:=ht1.held ((ah.alloc (ah.refl br ((w.alloc (.cells #[rp br] 67)).alloc (.cells #[aj] 29))) _).held (aw (w.alloc (.cells #[rp br] 67)) _) (by simp[ag];omega)) (by simp[ag];omega);rw[ag]at hgo;have hl1:=ht1.size;simp only[ag]at hl1;have hT1:ah br w w1:=ah.trans (tu trivial) ht1;clear ht1;have c1:w1.cell? ⟨w.heap.size,0,none⟩=some (rp br):=by simp[ak,hgr]
 go_wp2_with fail;go_at_call 135;refine(CZ br (w.heap.size+1) w.heap.size p w1 hr1 hgr hgo ab ab ab).mono ?_;intro e w2 h
 cases hn:P12.eJ 16 P12.named P12.name p.l.length 0 p
 case error er=>
  rw[hn]at h;have hE:=HE.out;rw[hn]at hE;dsimp only at hE;subst hE;obtain⟨rfl,ht⟩:=h;simp only[bq];go_wp2;exact⟨rfl,rfl,ht.pD hT1 ab⟩
 rename_i p;rw[hn]at h HE;dsimp only at HE;rename P12.R=>r1
 obtain⟨xs,r2⟩:=p;obtain⟨rfl,⟨v,hgo2,hs2,hne2,hK2⟩,hr2,hk2⟩:=h;have hgr2:=hK2.held hgr ab (by simp;omega);have hl2:=hK2.size;have hT2:=hK2.pD hT1 ab;have c2:w2.cell? ⟨w.heap.size,0,none⟩=some (rp br):=by simp[ak,hgr2]
 clear hK2 hT1 hgo c1;go_wp2_with fail;go_at_call 132;refine(dN br [41] r2 _ _ (rdx (hr2)) (eM _ _ _ rfl) ab).mono ?_;intro e w3 h
 cases hn:P12.bL [41] r2
 case error er=>
  rw[hn]at h;have hE:=HE.out;rw[hn]at hE;dsimp only at hE;subst hE;obtain⟨rfl,ht⟩:=h;simp only[bq];go_wp2;exact⟨rfl,rfl,ah.trans (ah.alloc hT2 _) ht⟩
 rename_i p;rw[hn]at h HE;dsimp only at HE;obtain⟨rfl,ht3,hr3,hk3⟩:=h;have hgo3:=ht3.held ((ah.alloc (ah.refl br w2) _).held hgo2 ab) ab;have c3:w3.cell? ⟨w.heap.size+1,0,none⟩=some v:=by simp[ak,hgo3]
 have hs3:=hs2.bg (S':=λb=>w.heap.size≤b) (w':=w3) (R':=lP) (λb hb hl=>(ht3.block (by rw[ag];omega) ab).trans (((al _ _).alloc (ai _) _:Below w2.heap.size w2 (w2.alloc _)).block b hl)) (λb hb _=>by omega) (λ_ _ h=>h);go_wp2;go_ret;have hE:=HE.out;subst hE;exact⟨_,rfl,⟨hne2,hs3⟩,ah.trans (ah.alloc hT2 _) ht3,hr3,hk1.trans (hk2.trans hk3)⟩
abbrev noE:List Value:=ao 0 0 0 0 [] [] [] aj
theorem ey{g:Nat}(W:World)(l:List Value)(T:TypeId)(h:g=W.heap.size)(j:Nat)(u:Value)(hu:l[j]?=some u):(W.alloc (.cells l.toArray T)).cell? ⟨g,0+j,none⟩=some u:=by
 subst h;have hb:=aw W (.cells l.toArray T);unfold ak;rw[hb];simpa using hu
theorem Tryz.Ci:(af.info? 85).map (λi=>(i.zero,i.size,i.bytes))=some (some (.agg (.string ⟨#[]⟩ :: .int .i64 0::noE).toArray),12,144):=au
theorem dS{l:List Value}(h:l.all (·.oneCell')=true):∀u∈l,u.oneCell'=true:=by simpa using h
theorem xI(br gx grb B:Nat)(c:Array Value)(v:Value)(xs:List (P12.T×P12.E))(r:P12.R)(w:World)(h:Rd br r w)(hx:w.heap[gx]?=some (.cells c 40))(hc:c[11]?=some v)(hrb:w.heap[grb]?=some (.cells #[rp br] 67))
  (hg:dt B 85 12 Au xs v w) (h1:br<gx) (h2:br<grb) (h3:gx<B) (h4:grb<B) (h5:B≤w.heap.size) (h6:xs.length≤100000) (hne:grb≠gx) :
  Calls af 142 #[rp grb,rp gx] w (dI br r (λx w'=>∃v',w'.heap[gx]?=some (.cells (c.setIfInBounds 11 v') 40)/\dt B 85 12 Au (xs ++ [x]) v' w'/\Kept B [br,gx] w w') (ah br w) (P12.setOf r)):=by
 have HR:=aa h;have lr:=h.lt;clear h;generalize hres:P12.setOf r=res;have hE:=hres;simp only[P12.setOf,bind,cG,pure,dz]at hE;have HE:=aa hE;clear hE hres;have c0:w.cell? ⟨grb,0,none⟩=some (rp br):=by simp[ak,hrb]
 have hbd:∀ (a:P12.T) (W:World),(cR 85 #[(0,bs a)]).run af W = .ok (.agg (bs a :: .int .i64 0::noE).toArray) W:=λa W=>by kernel_rfl
 go_enter Tryz.func142,Tryz.ntmps142;go_wp2_with fail;go_at_call 131;refine(dG br _ _ HR.out).mono ?_;intro e w1 h
 cases hn:P12.name r
 case error er=>
  rw[hn]at h;have hE:=HE.out;rw[hn]at hE;dsimp only at hE;subst hE;obtain⟨rfl,ht⟩:=h;simp only[bq];go_wp2;exact⟨rfl,rfl,ht⟩
 rename_i p;rw[hn]at h HE;dsimp only at HE;obtain⟨a,r1⟩:=p;obtain⟨_,rfl,rfl,ht1,hr1,hk1⟩:=h;have hl1:=ht1.size;have hx1:=ht1.held hx ab;have hrb1:=ht1.held hrb ab;have hg1:=hg.turn eZ ht1 ab;have HG1:=aa hg1;have HX1:=aa hx1;have HB1:=aa hrb1;clear hg1 hx1 hrb1 hx hrb hg c0;go_wp2_with ((refine pw (aw w1 _) ?_;intro w2 hp2);have hrb2:=bt.held hp2 ((ah.alloc (ah.refl br w1) _).held HB1.out ab) ab;have c2:w2.cell? ⟨grb,0,none⟩=some (rp br):=(by simp[ak,hrb2]));have hl2:w2.heap.size=w1.heap.size+1:=by have:=hp2.size;rwa [ag]at this
 have hT2:ah br w w2:=bt.turn hp2 (ah.alloc ht1 _) ab;have hT12:ah br w1 w2:=bt.turn hp2 (ah.alloc (ah.refl _ _) _) ab;have hr2:Rd br r1 w2:=bt.rd hp2 (hr1.alloc _) ab;have hb2:=hp2.blk;clear hp2;go_wp2_with fail;go_at_call 132;refine(dN br [61] r1 _ _ (rdx (hr2)) (eM _ _ _ rfl) ab).mono ?_;intro e w3 h
 cases hn:P12.bL [61] r1
 case error er=>
  rw[hn]at h;have hE:=HE.out;rw[hn]at hE;dsimp only at hE;subst hE;obtain⟨rfl,ht⟩:=h;simp only[bq];go_wp2;exact⟨rfl,rfl,ah.trans (ah.alloc hT2 _) ht⟩
 rename_i p;rw[hn]at h HE;dsimp only at HE;rename P12.R=>r3
 obtain⟨rfl,ht3,hr3,hk3⟩:=h;have hl3:=ht3.size;simp only[ag]at hl3;have hrb3:=ht3.held ((ah.alloc (ah.refl br w2) _).held hrb2 ab) ab;have hb3:=ht3.held ((ah.alloc (ah.refl br w2) _).held hb2 ab) ab;have hT3:=ah.trans (ah.alloc hT2 _) ht3;have hT13:=ah.trans (ah.alloc hT12 _) ht3;have c3:w3.cell? ⟨grb,0,none⟩=some (rp br):=by simp[ak,hrb3]
 clear hb2 hrb2 c2 ht3 hT2 hT12 hr2;go_wp2_with fail;go_at_call 140;refine(jr br _ _ hr3).mono ?_;intro e w4 h
 cases hn:P12.expr r3
 case error er=>
  rw[hn]at h;have hE:=HE.out;rw[hn]at hE;dsimp only at hE;subst hE;obtain⟨rfl,ht⟩:=h;simp only[bq];go_wp2;exact⟨rfl,rfl,ah.trans hT3 ht⟩
 rename_i p;rw[hn]at h HE;dsimp only at HE;obtain⟨e,r4⟩:=p;obtain⟨_,rfl,⟨l,rfl,he⟩,ht4,hr4,hk4⟩:=h;obtain⟨kd,op',vk,vi,vs,tb,nm,pp,pm,pc,rfl⟩:=he.form;have hl4:=ht4.size;have hb4:=ht4.held hb3 ab;have hT4:=ah.trans hT3 ht4;have hT14:=ah.trans hT13 ht4;clear hT3 hT13 ht4 c3 hb3 hrb3;obtain⟨us,hown,hu2,hu3,hu4⟩:=HG1.out;have HO:=aa hown;have HU:=aa hu4;have hlt:=hown.lt;clear hown hu4 HG1;obtain⟨i0,hi,hz0,hz1,hz2⟩:=cP Tryz.Ci;have Hi:=aa hi;have Hz0:=aa hz0;have Hz1:=aa hz1;have Hz2:=aa hz2;clear hi hz0 hz1 hz2
 go_wp2_with (first|((refine aV rfl 35 _ _ rfl (w1.heap.size) (2) _ _ 85 rfl rfl (hb4) aI au au ?_;intro w5 hp5);have hb5:w5.heap[w1.heap.size]?=some (.cells (bs a :: .int .i64 0::ao kd op' vk vi vs tb nm (.slice pp pm pc)).toArray 85):=(by refine hp5.blk.trans (congrArg (λc=>some (Obj.cells c 85)) ?_);kernel_rfl);have hT15:ah br w1 w5:=bt.turn hp5 hT14 ab;have hx5:=hT15.held HX1.out ab;have c5:w5.cell? ⟨gx,11,none⟩=some v:=(by simp[ak,hx5,hc]))|(refine lw hb5 Tryz.underlying85 ?_)|(at_builtin;have hl5:=hT15.size;refine Xo.bY B rfl _ _ 31 rfl 85 i0 _ 12 144 Tryz.underlying31 Hi.out Hz0.out Hz1.out Hz2.out rfl aq v xs.length us.flatten rfl (fC HO.out (ah.alloc hT15 _) ab) w5.heap.size 0 1 1 (bs a :: .int .i64 0::ao kd op' vk vi vs tb nm (.slice pp pm pc)) rfl aq rfl (ey w5 _ _ rfl) (dS au) ab (by rw[ag];omega) ?_;intro v' w7 ho' hg' hk';obtain⟨z,cz,rfl⟩:=eR ho' ab;have hx7:=(hg'.block gx (by rw[ag];have:=(ae.1 hx5).1;omega) (λe=>by have:=(hlt gx e.symm).1;omega)).trans ((ah.alloc (ah.refl br w5) _).held hx5 ab);have c7:w7.cell? ⟨gx,11,none⟩=some v:=(by simp[ak,hx7,hc]);have f7:=aD w7 gx 11 _ _ hx7;have HO7:=aa ho';have HG7:=aa hg';have HK7:=aa hk';have HX7:=aa hx7;clear ho' hg' hk' hx7 hx5 c5))
 go_end0
 have hE:=HE.out;subst hE;have hl5:=hT15.size;have he5:=bt.expr hp5 he ab;have hr5:=bt.rd hp5 hr4 ab;have hk:P12.bW r r4:=hk1.trans (hk3.trans hk4);have hTx:∀o,ah br w (w5.alloc o):=λo=>ah.alloc (ah.trans ht1 hT15) _;refine⟨rfl,⟨.slice (some ⟨z,0,none⟩) (xs.length+1) cz,?_,?_,?_⟩,Rd.setCell ((hr5.alloc _).grown HG7.out (λb hb=>by have:=(hlt b hb).1;omega)) h1 _ _,hk⟩
 ·rw[heap_setCell_same w7 gx 11 _ _ _ HX7.out]
 ·refine(dt.push eZ hu2 hu3 (λj x u hx hu=>eZ _ _ _ _ _ _ (HU.out j x u hx hu) (λb hb hl=>(ah.alloc hT15 _).block hl ab) (λb hb _=>hb)) HG7.out HO7.out HK7.out rfl ⟨_,rfl,he5.bg (λb hb hl=>((al _ _).alloc (ai _) _:Below w5.heap.size w5 (w5.alloc _)).block b hl) (λb hb _=>⟨by omega,λe=>by have:=(hlt b e).2;omega⟩)⟩).set eZ h3 _ _
 ·exact((Kept.bB (hTx _) aI).grown HG7.out (λb hb=>(hlt b hb).1)).setCell (.inr (.inl aI)) _ _
abbrev mB(K:(Nat->Prop)->World->Prop):Prop:=∀S S' w w',K S w->(∀b,S b->b<w.heap.size->w'.heap[b]?=w.heap[b]?)->(∀b,S b->b<w.heap.size->S' b)->K S' w'
theorem bF{α:Type}{R:(Nat->Prop)->World->α->List Value->Prop}(hR:k7 R)(sz:Nat)(l:List α)(v:Value):mB λS w=>aE S w sz (R S w) l v:=
 λS S' w w' h hb hS=>h.bg hb hS λx u h=>hR _ _ _ _ _ _ h hb hS
theorem gy(l:List P12.T)(v:Value):mB λS w=>aE S w 1 lP l v:=λS S' w w' h hb hS=>h.bg hb hS λ_ _ h=>h
theorem kN(l:List (P12.T×P12.T))(v:Value):mB λS w=>aE S w 2 sM l v:=λS S' w w' h hb hS=>h.bg hb hS λ_ _ h=>h
theorem dE(e:P12.E)(l:List Value):mB λS w=>aC S w e l:=λS S' w w' h hb hS=>aC.bg hb hS h
structure Fq(br gb gz gx:Nat)(w0:World)(r0:P12.R)(K:(Nat->Prop)->World->Prop)(r:P12.R)(c:Array Value)(w:World):Prop where
 box:w.heap[gb]?=some (.cells #[rp br] 67)
 zero:w.heap[gz]?=some (.cells bC.toArray 40)
 blk:w.heap[gx]?=some (.cells c 40)
 turn:ah br w0 w
 rd:Rd br r w
 keeps:P12.bW r0 r
 stab:mB K
 piece:K (λb=>gx<b) w
 lo:br<w0.heap.size
 gbge:w0.heap.size≤gb
 gzge:w0.heap.size≤gz
 bx:gb<gx
 zx:gz<gx
 bz:gb≠gz
section
variable {br gb gz gx : Nat} {w0 : World} {r0 : P12.R} {K : (Nat → Prop) → World → Prop} {r r' : P12.R} {c c' : Array Value} {w w' : World}
theorem Fq.size(F:Fq br gb gz gx w0 r0 K r c w):gx<w.heap.size:=(ae.1 F.blk).1
theorem Fq.step(F:Fq br gb gz gx w0 r0 K r c w)(ht:ah br w w')(hr:Rd br r' w')(hk:P12.bW r r'):Fq br gb gz gx w0 r0 K r' c w':=by
 obtain⟨h1,h2,h3,h4,h5,h6,h7,h8,h9,h10,h11,h12,h13,h14⟩:=F;exact⟨ht.held h1 ab,ht.held h2 ab,ht.held h3 ab,ah.trans h4 ht,hr,h6.trans hk,h7,h7 _ _ _ _ h8 (λb hb hl=>ht.block hl ab) (λb hb _=>hb),h9,h10,h11,h12,h13,h14⟩
theorem Fq.ext(F:Fq br gb gz gx w0 r0 K r c w)(hx:Xk.Ext w w'):Fq br gb gz gx w0 r0 K r c w':=F.step (ah.aR hx) (F.rd.ext hx) (P12.bW.refl _)
theorem Fq.alloc(F:Fq br gb gz gx w0 r0 K r c w)(o:Obj):Fq br gb gz gx w0 r0 K r c (w.alloc o):=F.ext ((al _ _).alloc (ai _) _)
theorem Fq.qM(F:Fq br gb gz gx w0 r0 K r c w)(hp:bt gx c' 40 w w'):Fq br gb gz gx w0 r0 K r c' w':=by
 obtain⟨h1,h2,h3,h4,h5,h6,h7,h8,h9,h10,h11,h12,h13,h14⟩:=F;exact⟨(hp.rest _ ab).trans h1,(hp.rest _ ab).trans h2,hp.blk,bt.turn hp h4 ab,bt.rd hp h5 ab,h6,h7,h7 _ _ _ _ h8 (λb hb hl=>hp.rest b ab) (λb hb _=>hb),h9,h10,h11,h12,h13,h14⟩
theorem Fq.set(F:Fq br gb gz gx w0 r0 K r c w)(o:Nat)(u:Value):Fq br gb gz gx w0 r0 K r (c.setIfInBounds o u) (w.setCell ⟨gx,o,none⟩ u):=
 F.qM (gZ F.blk [u] o)
theorem Fq.row(F:Fq br gb gz gx w0 r0 K r c w)(hk:Kept w.heap.size [br,gx] w w')(hb:w'.heap[gx]?=some (.cells c' 40))(hr:Rd br r' w')(hkp:P12.bW r r'):Fq br gb gz gx w0 r0 K r' c' w':=by
 have hsz:=F.size;obtain⟨h1,h2,h3,h4,h5,h6,h7,h8,h9,h10,h11,h12,h13,h14⟩:=F;exact⟨hk.held h1 ab (by simp;omega),hk.held h2 ab (by simp;omega),hb,hk.pD h4 ab,hr,h6.trans hkp,h7,h7 _ _ _ _ h8 (λb hb hl=>hk.block b hl hl (by simp;omega)) (λb hb _=>hb),h9,h10,h11,h12,h13,h14⟩
theorem Fq.add(F:Fq br gb gz gx w0 r0 K r c w){A:(Nat->Prop)->World->Prop}(hs:mB A)(ha:A (λb=>gx<b) w):Fq br gb gz gx w0 r0 (λS w=>K S w/\A S w) r c w:=by
 obtain⟨h1,h2,h3,h4,h5,h6,h7,h8,h9,h10,h11,h12,h13,h14⟩:=F;exact⟨h1,h2,h3,h4,h5,h6,λS S' w w' h hb hS=>⟨h7 _ _ _ _ h.1 hb hS,hs _ _ _ _ h.2 hb hS⟩,⟨h8,ha⟩,h9,h10,h11,h12,h13,h14⟩
theorem Fq.cells(F:Fq br gb gz gx w0 r0 K r c w)(h:c=c'):Fq br gb gz gx w0 r0 K r c' w:=h▸F
theorem Fq.jf(F:Fq br gb gz gx w0 r0 K r c w):w.cell? ⟨gb,0,none⟩=some (rp br):=by simp[ak,F.box]
theorem Fq.cell(F:Fq br gb gz gx w0 r0 K r c w){o:Nat}{v:Value}(h:c[o]?=some v):w.cell? ⟨gx,o,none⟩=some v:=by simp[ak,F.blk,h]
theorem Fq.free(F:Fq br gb gz gx w0 r0 K r c w)(o:Nat):w.frozen? ⟨gx,o,none⟩=false:=aD w gx o _ _ F.blk
theorem Fq.after(F:Fq br gb gz gx w0 r0 K r c w)(ht:ah br w w'):ah br w0 w':=ah.trans F.turn ht
theorem Fq.mo(F:Fq br gb gz gx w0 r0 K r c w)(hk:Kept w.heap.size [br,gx] w w'):ah br w0 w':=hk.pD F.turn (by have:=F.gbge;have:=F.bx;omega)
theorem Fq.up(F:Fq br gb gz gx w0 r0 K r c w){A:(Nat->Prop)->World->Prop}(hs:mB A)(ha:A (λb=>w.heap.size≤b) w'):A (λb=>gx<b) w':=
 hs _ _ _ _ ha (λ_ _ _=>rfl) (λb hb _=>by have:=F.size;omega)
theorem Fq.start{br:Nat}{r:P12.R}{w w1 w2:World}{c:Array Value}{o:Obj}(h:Rd br r w)(hx:Xk.Ext ((w.alloc (.cells #[rp br] 67)).alloc (.cells bC.toArray 40)) w1)(hp:bt w1.heap.size c 40 (w1.alloc o) w2):
  Fq br w.heap.size (w.heap.size+1) w1.heap.size w r (λ_ _=>True) r c w2:=by
 have hlt:=h.lt;have hl:=hx.size;simp only[ag]at hl;have hb:=aw w (.cells #[rp br] 67);have hz:=aw (w.alloc (.cells #[rp br] 67)) (.cells bC.toArray 40);rw[ag]at hz;have ht:ah br (w.alloc (.cells #[rp br] 67)) ((w.alloc (.cells #[rp br] 67)).alloc (.cells bC.toArray 40)):=ah.alloc (ah.refl _ _) _;have h1:=((ah.alloc (ah.refl br w1) o).held ((ah.aR hx:ah br _ _).held (ht.held hb ab) ab) ab);have h2:=((ah.alloc (ah.refl br w1) o).held ((ah.aR hx:ah br _ _).held hz ab) ab)
 refine⟨(hp.rest _ ab).trans h1,(hp.rest _ ab).trans h2,hp.blk,bt.turn hp (ah.alloc (ah.trans (ah.alloc (ah.alloc (ah.refl br w) _) _) (ah.aR hx)) _) ab,bt.rd hp ((((h.alloc _).alloc _).ext hx).alloc _) ab,P12.bW.refl _,λ_ _ _ _ _ _ _=>trivial,trivial,hlt,ai _,by omega,by omega,by omega,by omega⟩
theorem Fq.finish{l:List Value}{x:P12.St}(F:Fq br gb gz gx w0 r0 K r c w)(hp:bt gz l.toArray 40 w w')(hst:K (λb=>w0.heap.size≤b) w'->dv (λb=>w0.heap.size≤b) w' x l):
  Got br w0 r0 (jC w0) (.ok (x,r)) (.returned (.agg l.toArray)) w':=by
 obtain⟨h1,h2,h3,h4,h5,h6,h7,h8,h9,h10,h11,h12,h13,h14⟩:=F;exact⟨_,rfl,⟨l,rfl,hst (h7 _ _ _ _ h8 (λb hb hl=>hp.rest b ab) (λb hb _=>by omega))⟩,bt.turn hp h4 h11,bt.rd hp h5 ab,h6⟩
end
theorem zp:Ent 142:=⟨λ_ _=>by go_simp,by decide⟩
theorem EK(br gx grb:Nat)(mk:Value->Array Value)(hmk:∀v,(mk v)[11]?=some v)(hmk2:∀v v',(mk v).setIfInBounds 11 v'=mk v')(r:P12.R)(w:World)(h:Rd br r w)(hgr:w.heap[grb]?=some (.cells #[rp br] 67))(hgo:w.heap[gx]?=some (.cells (mk aj) 40))(h1:br<gx)(h2:br<grb)(hne:grb≠gx):
  Calls af 135 #[rp br,.int .i64 16,.func (.func 141) #[rp br] #[],.func (.func 142) #[] #[rp grb,rp gx]] w
   (dI br r (λxs w'=>∃v,w'.heap[gx]?=some (.cells (mk v) 40)/\aE (λb=>w.heap.size<b) w' 12 (Au (λb=>w.heap.size<b) w') xs v/\0<xs.length/\Kept w.heap.size [br,gx] w w') (Kept w.heap.size [br,gx] w) (P12.eJ 16 P12.named P12.setOf r.l.length 0 r)):=by
 have hlg:=(ae.1 hgo).1;have hlr:=(ae.1 hgr).1;refine kP br 16 gx 40 85 12 mk Au eZ aq r w _ (rp br) (rp grb) (rp gx) 141 142 P12.named P12.setOf aq h hgo h1 (.inl rfl) mx zp (λr W hr _=>kD br r W hr) (λxs v r W hl hr hb hg hk hlt=>?_);refine(xI br gx grb (w.heap.size+1) (mk v) v xs r W hr hb (hmk v) (hk.held hgr hlr (by simp;omega)) hg h1 h2 ab ab ab hl hne).mono ?_;intro e w' hp;unfold dI at hp ⊢;split at hp
 ·obtain⟨p1,⟨v',p2,p3,p4⟩,p5,p6⟩:=hp;exact⟨p1,⟨v',by rw[p2,hmk2],p3,p4⟩,p5,p6⟩
 ·exact⟨hp.1,Kept.bB hp.2 aI⟩
theorem ee{α:Type}{S:Nat->Prop}{w:World}{sz:Nat}{R:α->List Value->Prop}{l:List α}{v:Value}(h:aE S w sz R l v):∃p n c,v = .slice p n c:=by
 rcases h with⟨-,rfl⟩|⟨g,c,us,rfl,-⟩
 ·exact⟨_,_,_,rfl⟩
 ·exact⟨_,_,_,rfl⟩
theorem Ae(br:Nat)(r:P12.R)(w:World)(h:Rd br r w):Calls af 72 #[rp br] w (Got br w r (jC w) (P12.update r)):=by
 have HR:=aa h;have lr:=h.lt;clear h;generalize hres:P12.update r=res;have hE:=hres;simp only[P12.update,bind,cG,pure,dz]at hE;have HE:=aa hE;clear hE hres;have HM:=aa λW=>iN 6 W;rw[if_neg aq]at HM;go_enter Tryz.func72,Tryz.ntmps72;go_wp2_with fail;go_at_call 76;refine(HM.out _).mono ?_;rintro e w1 ⟨rfl,hx1⟩;go_wp2_with ((refine pw (aw w1 _) ?_;intro w2 hp2);have F2:=Fq.start HR.out hx1 hp2;have c2:=F2.jf);have hbx:=F2.bx;go_at_call 131;refine(dG br _ _ F2.rd).mono ?_;intro e w3 h
 cases hn:P12.name r
 case error er=>exact ste F2.after
 rename_i p;rw[hn]at h HE;dsimp only at HE;obtain⟨a,r3⟩:=p;obtain⟨_,rfl,rfl,ht,hr,hk⟩:=h;have F3:=F2.step ht hr hk;have c3:=F3.cell (o:=6) rfl;have f3:=F3.free 6;have F4:=F3.set 6 (bs a);have c4:=F4.jf;clear ht hr hk c2 F2 hp2 hx1;have hW:=F3.size;go_wp2_with fail;go_at_call 132;refine(dN br [83,69,84] r3 _ _ (F4.alloc _).rd (eM _ _ _ (by rw[aM])) ab).mono ?_;intro e w5 h
 cases hn:P12.bL [83,69,84] r3
 case error er=>exact ste (F4.alloc _).after
 rename_i p;rw[hn]at h HE;dsimp only at HE;rename P12.R=>r5
 obtain⟨rfl,ht,hr,hk⟩:=h;have F5:=((F4.alloc _).step ht hr hk).cells (c':=(cT 6 [] aj aj aj aj a [] false aj aj aj noE aj aj noE aj aj 0).toArray) rfl;have c5:=F5.jf;clear ht hr hk c4 F4 F3 c3 f3 hW;go_wp2_with fail;go_at_call 135;refine(EK br w1.heap.size w.heap.size (λv=>(cT 6 [] aj aj aj aj a [] false aj aj v noE aj aj noE aj aj 0).toArray) (λ_=>rfl) (λ_ _=>rfl) r5 w5 F5.rd F5.box F5.blk ab ab (by have:=F5.bx;omega)).mono ?_;intro e w6 h
 cases hn:P12.eJ 16 P12.named P12.setOf r5.l.length 0 r5
 case error er=>exact ste F5.mo
 rename_i p;rw[hn]at h HE;dsimp only at HE;obtain⟨xs,r6⟩:=p;obtain⟨rfl,⟨v,hb,hs,hn6,hkt⟩,hr,hk⟩:=h;obtain⟨q1,q2,q3,rfl⟩:=ee hs;have F6:=(F5.row hkt hb hr hk);have F7:=F6.add (bF eZ 12 xs (.slice q1 q2 q3)) (bF eZ 12 xs (.slice q1 q2 q3) _ _ _ _ hs (λ_ _ _=>rfl) (λb hb _=>by have:=F5.size;omega));have c7:=F7.jf;clear hkt hb hs hr hk c5 F5 F6;go_wp2_with fail;go_at_call 143;refine(qG br _ _ F7.rd).mono ?_;intro e w8 h
 cases hn:P12.wher r6
 case error er=>exact ste F7.after
 rename_i p;rw[hn]at h HE;dsimp only at HE;obtain⟨x,r8⟩:=p;obtain⟨_,rfl,⟨l,rfl,he⟩,ht,hr,hk⟩:=h;obtain⟨kd,op',vk,vi,vs,tb,nm,pp,pm,pc,rfl⟩:=he.form;have F8:=(F7.step ht hr hk).add (dE x _) (F7.up (dE x _) he);have hb8:=F8.blk;clear ht hr hk he c7
 go_wp2_with (first|((refine aV rfl 35 _ _ rfl (w1.heap.size) (12) _ _ 40 rfl rfl (hb8) (aI) (au) (au) ?_;intro w9 hp9);have F9:=(F8.qM hp9).cells (c':=(cT 6 [] aj aj aj aj a [] false aj aj (.slice q1 q2 q3) (ao kd op' vk vi vs tb nm (.slice pp pm pc)) aj aj noE aj aj 0).toArray) au;have hb9:=F9.blk;have hz9:=F9.zero)|(refine lw hb9 aB ?_)|(refine pw hz9 ?_;intro w10 hp10));refine ar (aH (fn:=Tryz.f72) rfl rfl hp10.blk aB rfl au) rfl ?_;have hE:=HE.out;subst hE;refine Fq.finish F9 hp10 (λ⟨⟨_,hs⟩,hx⟩=>?_)
 exact⟨aj,aj,aj,aj,aj,aj,_,_,aj,aj,noE,aj,aj,rfl,aE.nil _ _ _ _,aE.nil _ _ _ _,aE.nil _ _ _ _,aE.nil _ _ _ _,aE.nil _ _ _ _,aE.nil _ _ _ _,hs,hx,aE.nil _ _ _ _,aE.nil _ _ _ _,rfl,aE.nil _ _ _ _,aE.nil _ _ _ _⟩
theorem mG:∀ (vs:List Value) (o:Nat) (c:Array Value),o+vs.length≤c.size->(fZ c o vs).toList=c.toList.take o++vs++c.toList.drop (o+vs.length)
 | [],o,c,h=>by simp[fZ]
 | v::vs,o,c,h=>by
  simp only[aW]at h;rw[fZ,mG vs (o+1) _ (by simp;omega)];have h1:o<c.toList.length:=by simp;omega
  simp only[Array.toList_setIfInBounds,aW];rw[List.take_add_one,List.getElem?_set_self h1,List.take_set_of_le (ai _),List.drop_set_of_lt ab];simp[Nat.add_assoc,sy 1]
theorem dt.iO{α:Type}{B:Nat}{e:TypeId}{sz:Nat}{R:(Nat->Prop)->World->α->List Value->Prop}{xs:List α}{x0 x:α}{z cz:Nat}{w w':World}{cur:Array Value}{l:List Value}(hR:k7 R)
  (h:dt B e sz R (xs ++ [x0]) (.slice (some ⟨z,0,none⟩) (xs.length+1) cz) w) (hc:w.heap[z]?=some (.cells cur e)) (hp:bt z (fZ cur (xs.length*sz) l) e w w') (hl:l.length=sz)
  (hx:R (λb=>B≤b/\¬ z=b) w x l):dt B e sz R (xs ++ [x]) (.slice (some ⟨z,0,none⟩) (xs.length+1) cz) w':=by
 obtain⟨us,h1,h2,h3,h4⟩:=h;have hS:∀b,(B≤b/\¬ (gU (some ⟨z,0,none⟩) (xs.length+1) cz).ownBlock=some b)->w'.heap[b]?=w.heap[b]?:=λb hb=>hp.rest b (λe=>hb.2 (by simp[gK,e]));rw[aN,bf]at h1 h2;obtain⟨ul,uz,rfl⟩:∃a b,us=a ++ [b]:=⟨us.dropLast,us.getLast (λe=>by simp[e]at h2),(List.dropLast_concat_getLast _).symm⟩;rw[aN,bf]at h2;have hul:ul.length=xs.length:=ab;have huz:uz.length=sz:=h3 uz aI
 have hfl:∀ (L:List (List Value)),(∀u∈L,u.length=sz)->L.flatten.length=L.length*sz:=λL=>by
  induction L with
  | nil=>simp
  | cons a L ih=>
   intro hL;simp only[List.flatten_cons,aN,aW];rw[ih (λu hu=>hL u (by simp[hu])),hL a aI,gE,sy]
 have hful:=hfl ul (λu hu=>h3 u (by simp[hu]));rw[hul]at hful;refine⟨ul ++ [l],?_,by simp[hul],λu hu=>?_,λj y u hy hu=>?_⟩
 ·rw[aN,bf];refine⟨by simp[hful,hl,gE],?_⟩;rcases h1.2 with⟨hv,-⟩|⟨g,cap,cur',hv,h5,h6,h7,h8,h9,h10⟩
  ·cases hv
  ·cases hv;obtain rfl:cur'=cur:=by rw[hc]at h6;cases h6;rfl
   refine .inr ⟨z,cz,_,rfl,h5,hp.blk,h7,h8,by rw[mF];exact h9,?_⟩
   have hle:xs.length*sz+sz≤cur'.size:=by
    rw[h9]
    calc xs.length*sz+sz=(xs.length+1)*sz:=by rw[gE]
     _≤cz*sz:=fe _ h7
   rw[mG _ _ _ ab,hl]
   have ht:cur'.toList.take (xs.length*sz)=ul.flatten:=by
    have:=congrArg (List.take (xs.length*sz)) h10;rw[nd,mC (by rw[gE];omega),List.flatten_append,oI hful]at this;exact this
   rw[ht,gE,List.append_assoc,List.take_append,hful,List.take_of_length_le ab,Nat.add_sub_cancel_left,oI hl];simp
 ·rcases kh.1 hu with hu|hu
  ·exact h3 u (by simp[hu])
  ·rw[dr.1 hu];exact hl
 ·rcases jY j xs.length with hj|hj
  ·rw[cb hj]at hy;rw[cb ab]at hu;exact hR _ _ _ _ _ _ (h4 j y u (by rw[cb hj];exact hy) (by rw[cb ab];exact hu)) (λb hb _=>hS b hb) (λb hb _=>hb)
  ·rw[dB hj]at hy;rw[dB ab,hul]at hu
   obtain⟨rfl,rfl⟩:x=y/\l=u:=by
    rcases hj0:j-xs.length with _|k
    ·rw[hj0]at hy hu;simp at hy hu;exact⟨hy,hu⟩
    ·rw[hj0]at hy;simp at hy
   exact hR _ _ _ _ _ _ hx (λb hb _=>hp.rest b (λe=>hb.2 e.symm)) (λb hb _=>⟨hb.1,λe=>hb.2 (by simpa[gK]using e)⟩)
theorem Tryz.jH:(af.info? 35).map (λi=>(i.zero,i.size,i.bytes))=some (some (.agg noE.toArray),10,120):=au
theorem jJ{g:Nat}{W:World}{l:List Value}{T:TypeId}(h:W.heap[g]?=some (.cells l.toArray T))(j:Nat)(u:Value)(hu:l[j]?=some u):W.cell? ⟨g,0+j,none⟩=some u:=by
 unfold ak;rw[h];simpa using hu
theorem Kept.dd{B z:Nat}{ks:List Nat}{c:Array Value}{T:TypeId}{w w':World}(hp:bt z c T w w')(hz:B≤z):Kept B ks w w':=
 ⟨hp.os,hp.tape,hp.output,Nat.le_of_eq hp.size.symm,λb hb _ _=>hp.rest b ab⟩
def nC(w:World)(u:Value)(W:World):Prop:=∃g,u = .slice (some ⟨g,0,none⟩) 1 1/\w.heap.size≤g/\W.heap[g]?=some (.cells noE.toArray 35)
theorem nC.turn{br:Nat}{w:World}(hb:br<w.heap.size):∀u W W',ah br W W'->nC w u W->nC w u W':=by
 rintro u W W' ht ⟨g,rfl,hg,hc⟩;exact⟨g,rfl,hg,ht.held hc ab⟩
def wW(br:Nat)(w:World)(r:P12.R)(e:P12.E)(r1:P12.R)(u:Value)(W:World):Prop:=∃l,u = .agg l.toArray/\aC (λb=>w.heap.size≤b) W e l/\Rd br r1 W/\P12.bW r r1
theorem wW.ext{br:Nat}{w:World}{r:P12.R}{e:P12.E}{r1:P12.R}:∀u W W',Xk.Ext W W'->wW br w r e r1 u W->wW br w r e r1 u W':=by
 rintro u W W' hx ⟨l,rfl,h1,h2,h3⟩;exact⟨l,rfl,h1.bg (λb _ hl=>hx.block b hl) (λb hb _=>hb),h2.ext hx,h3⟩
theorem Br(br gr grb B:Nat)(v:Value)(xs:List P12.E)(r:P12.R)(w:World)(h:Rd br r w)(hbx:w.heap[gr]?=some (.cells #[v] 25))(hrb:w.heap[grb]?=some (.cells #[rp br] 67))
  (hg:dt B 35 10 dY xs v w) (h1:br<gr) (h2:br<grb) (h3:gr<B) (h4:grb<B) (h5:B≤w.heap.size) (h6:xs.length≤100000) (hne:grb≠gr) :
  Calls af 139 #[rp gr,rp grb] w (dI br r (λx w'=>∃v',w'.heap[gr]?=some (.cells #[v'] 25)/\dt B 35 10 dY (xs ++ [x]) v' w'/\Kept B [br,gr] w w') (ah br w) (P12.expr r)):=by
 have HR:=aa h;have lr:=h.lt;have hg1:w.cell? ⟨gr,0,none⟩=some v:=by simp[ak,hbx]
 have hg2:w.cell? ⟨grb,0,none⟩=some (rp br):=by simp[ak,hrb]
 have G1:=aa hg1;have G2:=aa hg2;have HB:=aa hbx;have HG:=aa hg;clear h hbx hrb hg1 hg2
 obtain⟨q1,c1,rfl⟩:∃q c,v = .slice q xs.length c:=by
  obtain⟨us,ho,-⟩:=hg;rcases ho.2 with⟨rfl,h0⟩|⟨g,cap,cur,rfl,-⟩
  ·exact⟨none,0,by rw[h0]⟩
  ·exact⟨_,_,rfl⟩
 clear hg;obtain⟨i0,hi,hz0,hz1,hz2⟩:=cP Tryz.jH;have Hi:=aa hi;have Hz0:=aa hz0;have Hz1:=aa hz1;have Hz2:=aa hz2;clear hi hz0 hz1 hz2;rcases hn:P12.expr r with er|⟨x,r1⟩
 ·go_enter Tryz.func139,Tryz.ntmps139;go_wp2
  refine Xg.ed (E:=ah br) (Xe.bS _) (λch W=>fU ch=bq er/\ah br w W) 2 5 (λ_=>none) (λ_ _ h=>by cases h) (λ_ _ _ _ h=>by cases h) [(2,λ_ _=>False),(4,nC w)] au au (Xg.cg ((by
     intro y hy;simp only[aJ,aF,or_false]at hy;rcases hy with rfl|rfl
     ·rw[if_pos rfl];exact λ_ _ _ _ h=>h
     ·rw[if_neg (show ¬ (4=2) by decide)];exact nC.turn lr))) ((λch a w' hd hX=>by exact⟨hd,hX.1,hX.2⟩)) 4 rfl ?_
  simp only[aG,aY,aL,bd];refine Xs.gf (show w.drew.cell? ⟨gr,0,none⟩=some (.slice q1 xs.length c1)from G1.out) ?_;refine Xs.gf (show w.drew.cell? ⟨grb,0,none⟩=some (rp br)from G2.out) ?_;(refine Xg.dM az az rfl (λW hx hp=>?_) (λu K hK=>?_);(go_simp;((refine(jr br r _ (HR.out.drew.ext hx)).mono ?_);intro e w2 h;rw[hn]at h;obtain⟨h1,h2⟩:=h;exact rl ⟨_,h1,by exact⟨rfl,(ah.drew (ah.refl _ _)).trans ((ah.aR hx).trans h2)⟩⟩));(go_simp;refine hK _ ?_;clear hK K))
  refine Xg.gs ?_;(refine Xg.bc az az aq (λW hx hp=>?_) (λu2 K hK=>?_);((go_simp;exact⟨(al _ _).alloc (ai _) _,⟨W.heap.size,rfl,by simpa using hx.size,aw W _⟩,λb hb=>by cases hb;exact⟨.inr (ai _),by simp⟩⟩));(go_simp;refine hK _ ?_;clear hK K))
  refine Xg.bD (λW hx hp hg=>?_);exact hp.2.1.elim
 ·go_enter Tryz.func139,Tryz.ntmps139;go_wp2
  refine Xg.ed (E:=ah br) (Xe.bS _) (λch W=>False) 2 5 (λ_=>none) (λ_ _ h=>by cases h) (λ_ _ _ _ h=>by cases h) [(2,wW br w r x r1),(4,nC w)] au au (Xg.cg ((by
     intro y hy;simp only[aJ,aF,or_false]at hy;rcases hy with rfl|rfl
     ·rw[if_pos rfl];exact wW.ext
     ·rw[if_neg (show ¬ (4=2) by decide)];exact nC.turn lr))) ((λch a w' hd hX=>hX.elim)) 4 rfl ?_
  simp only[aG,aY,aL,bd];refine Xs.gf (show w.drew.cell? ⟨gr,0,none⟩=some (.slice q1 xs.length c1)from G1.out) ?_;refine Xs.gf (show w.drew.cell? ⟨grb,0,none⟩=some (rp br)from G2.out) ?_;(refine Xg.dM az az rfl (λW hx hp=>?_) (λu K hK=>?_);(go_simp;((refine(jr br r _ (HR.out.drew.ext hx)).mono ?_);intro e w2 h;rw[hn]at h;obtain⟨v',rfl,⟨l,rfl,he⟩,h1,h2,h3⟩:=h;exact kr ⟨_,rfl,h1,⟨l,rfl,he.mono (λb hb _=>bI hx.size hb),h2,h3⟩,λb hb=>by cases hb⟩));(go_simp;refine hK _ ?_;clear hK K))
  refine Xg.gs ?_;(refine Xg.bc az az aq (λW hx hp=>?_) (λu2 K hK=>?_);((go_simp;exact⟨(al _ _).alloc (ai _) _,⟨W.heap.size,rfl,by simpa using hx.size,aw W _⟩,λb hb=>by cases hb;exact⟨.inr (ai _),by simp⟩⟩));(go_simp;refine hK _ ?_;clear hK K))
  refine Xg.bD (λW hx hp hg=>?_);obtain⟨⟨g,rfl,hge,hgc⟩,⟨l,rfl,he,hr1,hk1⟩,-⟩:=hp;have hx':ah br w W:=(ah.drew (ah.refl _ _)).trans hx;have hsz:=hx'.size;have HGW:=aa (HG.out.turn bj hx' ab);have hbW:=hx'.held HB.out ab;obtain⟨us,hown,hu2,hu3,hu4⟩:=HGW.out;have HU:=aa hu4;have hlt:=hown.lt;clear hu4 hx hg;refine Xg.bK (k:=5) au rfl ?_;refine Xo.bY B rfl _ _ 25 rfl 35 i0 _ 10 120 ku Hi.out Hz0.out Hz1.out Hz2.out rfl aq (.slice q1 xs.length c1) xs.length us.flatten rfl hown g 0 1 1 noE rfl aq rfl (jJ hgc) (dS au) ab ab ?_;intro v' w7 ho' hg' hk';obtain⟨z,cz,rfl⟩:=eR ho' ab
  have HG7:=aa (dt.push (x:=P12.E.none) bj hu2 hu3 HU.out hg' ho' hk' rfl rfl);have HB7:=aa ((hg'.block gr ab (λe=>by have:=(hlt gr e.symm).1;omega)).trans hbW);have hown0:=HG.out.lt;have HE7:=aa (he.bg (S':=λb=>w.heap.size≤b/\b<W.heap.size) (w':=w7) (λb hb hl=>hg'.block b hl (λe=>by have:=(hown0 b e.symm).2;omega)) (λb hb hl=>⟨hb,hl⟩));have HR7:=aa (hr1.grown hg' (λb hb=>by have:=(hlt b hb).1;omega));have HK7:=aa ((Kept.bB (B:=B) (ks := [br,gr]) hx' aI).grown hg' (λb hb=>(hlt b hb).1));have hzB:B≤z/\z<w7.heap.size:=ho'.lt z rfl
  have hzW:∀b,w.heap.size≤b->b<W.heap.size->¬ z=b:=λb h1 h2 e=>by
   subst e;rcases hk' z rfl with h|h
   ·have:=(hown0 z h).2;omega
   ·omega
  obtain⟨cur,hcur,hcs⟩:∃cur,w7.heap[z]?=some (.cells cur 35)/\xs.length*10+10≤cur.size:=by
   rcases ho'.2 with⟨hv,-⟩|⟨g,cap,cur,hv,-,h6,h7,h8,h9,-⟩
   ·cases hv
   ·cases hv;exact⟨cur,h6,by omega⟩
  have HC7:=aa hcur;have hb7:w7.cell? ⟨gr,0,none⟩=some (.slice q1 xs.length c1):=by simp[ak,HB7.out]
  have f7:=aD w7 gr 0 _ _ HB7.out;clear ho' hg' hk' hlt hown hu2 hu3 HU us HGW hbW hx' hgc hge hr1 he hcur;show wpAny _ _ _ _ _ _ _ _
  obtain⟨kd,op',vk,vi,vs,tb,nm,pp,pm,pc,rfl⟩:=HE7.out.form;refine Xg.dC (j:=6) (k:=8) au rfl rfl ?_ ?_
  ·go_wp2;show wpAny _ _ _ _ _ _ _ _
   refine Xg.dC (j:=7) (k:=8) au rfl rfl ?_ ?_
   ·refine aV rfl 35 _ _ rfl z (xs.length*10) cur _ 35 rfl rfl HC7.out hcs au au ?_;intro w8 hp8;show wpAny _ _ _ _ _ _ _ _
    have hB8:=(hp8.rest gr ab).trans HB7.out;have hb8:w8.cell? ⟨gr,0,none⟩=some (.slice q1 xs.length c1):=by simp[ak,hB8]
    have f8:=aD w8 gr 0 _ _ hB8;have HG8:=aa ((dt.iO bj HG7.out HC7.out hp8 rfl (HE7.out.bg (λ_ _ _=>rfl) (λb hb _=>⟨by omega,hzW b hb.1 hb.2⟩))).set bj h3 0 (.slice (some ⟨z,0,none⟩) (xs.length+1) cz));have HX8:=aa hB8;have HP8:=aa hp8;clear hB8 hp8;refine Xg.bK (k:=8) au rfl ?_;go_wp2;show wpAny _ _ _ _ _ _ _ _
    refine Xg.any_nil au ?_;go_end0
    exact⟨rfl,⟨_,(by rw[heap_setCell_same w8 gr 0 _ _ _ HX8.out];simp),HG8.out,((HK7.out.trans (Kept.dd HP8.out hzB.1)).setCell (.inr (.inl aI)) _ _)⟩,Rd.setCell (bt.rd HP8.out HR7.out ab) h1 _ _,hk1⟩
   ·go_wp2;show wpAny _ _ _ _ _ _ _ _
    refine Xg.bK (k:=7) au rfl ?_;refine aV rfl 35 _ _ rfl z (xs.length*10) cur _ 35 rfl rfl ((an w7 ⟨gr,0,none⟩ z _ (λe=>by(have h:z=gr:=(by simpa using e));omega)).trans HC7.out) hcs au au ?_;intro w8 hp8;show wpAny _ _ _ _ _ _ _ _
    refine Xg.any_nil au ?_;go_end0
    have hrst:∀b,b≠gr->(w7.setCell ⟨gr,0,none⟩ (.slice (some ⟨z,0,none⟩) (xs.length+1) cz)).heap[b]?=w7.heap[b]?:=λb hb=>an w7 ⟨gr,0,none⟩ b _ (λe=>hb (by simpa using e));exact⟨rfl,⟨_,((hp8.rest gr ab).trans (by rw[heap_setCell_same w7 gr 0 _ _ _ HB7.out];simp)),dt.iO bj (HG7.out.set bj h3 0 _) ((hrst z ab).trans HC7.out) hp8 rfl (HE7.out.bg (λb hb hl=>hrst b ab) (λb hb _=>⟨by omega,hzW b hb.1 hb.2⟩)),((HK7.out.setCell (.inr (.inl aI)) _ _).trans (Kept.dd hp8 hzB.1))⟩,bt.rd hp8 (Rd.setCell HR7.out h1 _ _) ab,hk1⟩
  ·go_wp2;show wpAny _ _ _ _ _ _ _ _
   refine Xg.bK (k:=6) au rfl ?_;go_wp2;show wpAny _ _ _ _ _ _ _ _
   refine Xg.bK (k:=7) au rfl ?_;refine aV rfl 35 _ _ rfl z (xs.length*10) cur _ 35 rfl rfl ((an w7 ⟨gr,0,none⟩ z _ (λe=>by(have h:z=gr:=(by simpa using e));omega)).trans HC7.out) hcs au au ?_;intro w8 hp8;show wpAny _ _ _ _ _ _ _ _
   refine Xg.any_nil au ?_;go_end0
   have hrst:∀b,b≠gr->(w7.setCell ⟨gr,0,none⟩ (.slice (some ⟨z,0,none⟩) (xs.length+1) cz)).heap[b]?=w7.heap[b]?:=λb hb=>an w7 ⟨gr,0,none⟩ b _ (λe=>hb (by simpa using e));exact⟨rfl,⟨_,((hp8.rest gr ab).trans (by rw[heap_setCell_same w7 gr 0 _ _ _ HB7.out];simp)),dt.iO bj (HG7.out.set bj h3 0 _) ((hrst z ab).trans HC7.out) hp8 rfl (HE7.out.bg (λb hb hl=>hrst b ab) (λb hb _=>⟨by omega,hzW b hb.1 hb.2⟩)),((HK7.out.setCell (.inr (.inl aI)) _ _).trans (Kept.dd hp8 hzB.1))⟩,bt.rd hp8 (Rd.setCell HR7.out h1 _ _) ab,hk1⟩
theorem tO:Ent 145:=⟨λ_ _=>by go_simp,by decide⟩
theorem Bu:Ent 139:=⟨λ_ _=>by go_simp,by decide⟩
theorem zo{α:Type}(br:Nat)(r:P12.R)(w:World)(rv:Value)(J:α->World->Prop)(Z:World->Prop)(res:Except P12.Er (α×P12.R))
  (h:Calls af 135 #[rp br,.int .i64 16,.func (.func 145) #[rp br] #[],rv] w (dI br r J Z res)) :
  Calls af 138 #[rp br,rv] w (dI br r J Z res):=by
 have H:=aa h;clear h;rcases res with er|⟨x,r'⟩
 ·go_enter Tryz.func138,Tryz.ntmps138;go_wp2_with fail;go_at_call 135;refine H.out.mono ?_;intro e w1 h;obtain⟨rfl,hz⟩:=h;simp only[bq];go_wp2;exact⟨rfl,rfl,hz⟩
 ·go_enter Tryz.func138,Tryz.ntmps138;go_wp2_with fail;go_at_call 135;refine H.out.mono ?_;intro e w1 h;obtain⟨rfl,hz⟩:=h;go_wp2;go_end0
  exact⟨rfl,hz⟩
theorem Bq(br gr grb:Nat)(r:P12.R)(w:World)(h:Rd br r w)(hgr:w.heap[grb]?=some (.cells #[rp br] 67))(hgo:w.heap[gr]?=some (.cells #[aj] 25))(h1:br<gr)(h2:br<grb)(hne:grb≠gr):
  Calls af 138 #[rp br,.func (.func 139) #[] #[rp gr,rp grb]] w
   (dI br r (λxs w'=>∃v,w'.heap[gr]?=some (.cells #[v] 25)/\aE (λb=>w.heap.size<b) w' 10 (dY (λb=>w.heap.size<b) w') xs v/\0<xs.length/\Kept w.heap.size [br,gr] w w') (Kept w.heap.size [br,gr] w) (P12.exprs P12.expr r)):=by
 have hlg:=(ae.1 hgo).1;have hlr:=(ae.1 hgr).1;unfold P12.exprs;refine zo br r w _ _ _ _ (kP br 16 gr 25 35 10 (λv => #[v]) dY bj aq r w _ (rp br) (rp gr) (rp grb) 145 139 P12.dV P12.expr aq h hgo ab (.inl rfl) tO Bu (λr W hr _=>pC br r W hr) (λxs v r W hl hr hb hg hk hlt=>?_));refine(Br br gr grb (w.heap.size+1) v xs r W hr hb (hk.held hgr hlr (by simp;omega)) hg h1 h2 ab ab ab hl hne).mono ?_;intro e w' hp;unfold dI at hp ⊢;split at hp
 ·exact hp
 ·exact⟨hp.1,Kept.bB hp.2 aI⟩
theorem Tryz.vu:(af.info? 25).map (λi=>(i.zero,i.size,i.bytes))=some (some aj,1,24):=au
theorem zb(br gx grb B:Nat)(c:Array Value)(v:Value)(xs:List (List P12.E))(r:P12.R)(w:World)(h:Rd br r w)(hx:w.heap[gx]?=some (.cells c 40))(hc:c[10]?=some v)(hrb:w.heap[grb]?=some (.cells #[rp br] 67))
  (hg:dt B 25 1 Aw xs v w) (h1:br<gx) (h2:br<grb) (h3:gx<B) (h4:grb<B) (h5:B≤w.heap.size) (h6:xs.length≤100000) (hne:grb≠gx) :
  Calls af 137 #[rp grb,rp gx] w (dI br r (λx w'=>∃v',w'.heap[gx]?=some (.cells (c.setIfInBounds 10 v') 40)/\dt B 25 1 Aw (xs ++ [x]) v' w'/\Kept B [br,gx] w w') (ah br w) (P12.fg r)):=by
 have HR:=aa h;have lr:=h.lt;clear h;generalize hres:P12.fg r=res;have hE:=hres;simp only[P12.fg,bind,cG,pure,dz]at hE;have HE:=aa hE;clear hE hres;have c0:w.cell? ⟨grb,0,none⟩=some (rp br):=by simp[ak,hrb]
 have hlr:=(ae.1 hrb).1;have hlx:=(ae.1 hx).1;go_enter Tryz.func137,Tryz.ntmps137;go_wp2_with fail;go_at_call 132;refine(dN br [40] r _ _ (rdx (HR.out)) (eM _ _ _ (by simp only[ag])) ab).mono ?_;intro e w1 h
 cases hn:P12.bL [40] r
 case error er=>
  rw[hn]at h;have hE:=HE.out;rw[hn]at hE;dsimp only at hE;subst hE;obtain⟨rfl,ht⟩:=h;simp only[bq];go_wp2;exact⟨rfl,rfl,ah.trans (tu trivial) ht⟩
 rename_i p;rw[hn]at h HE;dsimp only at HE;rename P12.R=>r1
 obtain⟨rfl,ht1,hr1,hk1⟩:=h;have hT1:ah br w w1:=ah.trans (tu trivial) ht1;have hb1:=ht1.held ((ah.alloc (ah.refl br (w.alloc (.cells #[aj] 25))) _).held (aw w _) ab) ab;have hl1:=ht1.size;simp only[ag]at hl1;have hrb1:=hT1.held hrb ab;have c1:w1.cell? ⟨grb,0,none⟩=some (rp br):=by simp[ak,hrb1]
 clear ht1 c0;go_wp2_with fail;go_at_call 138;refine(Bq br w.heap.size grb r1 w1 hr1 hrb1 hb1 ab h2 ab).mono ?_;intro e w2 h
 cases hn:P12.exprs P12.expr r1
 case error er=>
  rw[hn]at h;have hE:=HE.out;rw[hn]at hE;dsimp only at hE;subst hE;obtain⟨rfl,ht⟩:=h;simp only[bq];go_wp2;exact⟨rfl,rfl,ht.pD hT1 (ai _)⟩
 rename_i p;rw[hn]at h HE;dsimp only at HE;obtain⟨es,r2⟩:=p;obtain⟨rfl,⟨v2,hb2,hs2,hn2,hK2⟩,hr2,hk2⟩:=h;obtain⟨q1,q2,q3,rfl⟩:=ee hs2;have hrb2:=hK2.held hrb1 ab (by simp;omega);have c2:w2.cell? ⟨grb,0,none⟩=some (rp br):=by simp[ak,hrb2]
 have hl2:=hK2.size;have hT2:=hK2.pD hT1 (ai _);clear hK2 hb1 hrb1 c1;go_wp2_with fail;go_at_call 132;refine(dN br [41] r2 _ _ (rdx (hr2)) (eM _ _ _ rfl) ab).mono ?_;intro e w3 h
 cases hn:P12.bL [41] r2
 case error er=>
  rw[hn]at h;have hE:=HE.out;rw[hn]at hE;dsimp only at hE;subst hE;obtain⟨rfl,ht⟩:=h;simp only[bq];go_wp2;exact⟨rfl,rfl,ah.trans (ah.alloc hT2 _) ht⟩
 rename_i p;rw[hn]at h HE;dsimp only at HE;rename P12.R=>r3
 obtain⟨rfl,ht3,hr3,hk3⟩:=h;have hl3:=ht3.size;simp only[ag]at hl3;have hb3:=ht3.held ((ah.alloc (ah.refl br w2) _).held hb2 ab) ab;have hT3:=ah.trans (ah.alloc hT2 _) ht3;have hs3:=hs2.bg (S':=λb=>w1.heap.size<b/\b<w2.heap.size) (w':=w3) (R':=dY (λb=>w1.heap.size<b/\b<w2.heap.size) w3) (λb hb hl=>(ht3.block (by rw[ag];omega) ab).trans (((al _ _).alloc (ai _) _:Below w2.heap.size w2 (w2.alloc _)).block b hl)) (λb hb hl=>⟨hb,hl⟩) (λe u h=>h.bg (λb hb hl=>(ht3.block (by rw[ag];omega) ab).trans (((al _ _).alloc (ai _) _:Below w2.heap.size w2 (w2.alloc _)).block b hl)) (λb hb hl=>⟨hb,hl⟩))
 have hx3:=hT3.held hx ab;have c3:w3.cell? ⟨w.heap.size,0,none⟩=some (.slice q1 q2 q3):=by simp[ak,hb3]
 have c4:w3.cell? ⟨gx,10,none⟩=some v:=by simp[ak,hx3,hc]
 obtain⟨us,hown,hu2,hu3,hu4⟩:=hg;have HO:=aa hown;have HU:=aa hu4;have hlt:=hown.lt;clear hown hu4 ht3 hT2 hs2 hb2 c2 hrb2;obtain⟨i0,hi,hz0,hz1,hz2⟩:=cP Tryz.vu;have Hi:=aa hi;have Hz0:=aa hz0;have Hz1:=aa hz1;have Hz2:=aa hz2;clear hi hz0 hz1 hz2
 go_wp2_with (at_builtin;refine Xo.bY B rfl _ _ 30 rfl 25 i0 _ 1 24 Tryz.underlying30 Hi.out Hz0.out Hz1.out Hz2.out rfl aq v xs.length us.flatten rfl (fC HO.out (ah.alloc hT3 _) ab) w3.heap.size 0 1 1 [.slice q1 q2 q3] rfl aq rfl (ey w3 _ _ rfl) (dS au) ab (by rw[ag];omega) ?_;intro v' w7 ho' hg' hk';obtain⟨z,cz,rfl⟩:=eR ho' ab;have hx7:=(hg'.block gx (by rw[ag];omega) (λe=>by have:=(hlt gx e.symm).1;omega)).trans ((ah.alloc (ah.refl br w3) _).held hx3 ab);have c7:w7.cell? ⟨gx,10,none⟩=some v:=(by simp[ak,hx7,hc]);have f7:=aD w7 gx 10 _ _ hx7;have HO7:=aa ho';have HG7:=aa hg';have HK7:=aa hk';have HX7:=aa hx7;clear ho' hg' hk' hx7)
 go_end0
 have hE:=HE.out;subst hE;refine⟨rfl,⟨.slice (some ⟨z,0,none⟩) (xs.length+1) cz,?_,?_,?_⟩,Rd.setCell ((hr3.alloc _).grown HG7.out (λb hb=>by have:=(hlt b hb).1;omega)) h1 _ _,hk1.trans (hk2.trans hk3)⟩
 ·rw[heap_setCell_same w7 gx 10 _ _ _ HX7.out]
 ·have hal:∀b,b<w3.heap.size->(w3.alloc (.cells #[.slice q1 q2 q3] 25)).heap[b]?=w3.heap[b]?:=λb hl=>((al _ _).alloc (ai _) _:Below w3.heap.size w3 (w3.alloc _)).block b hl;refine(dt.push eA hu2 hu3 (λj x u hx hu=>eA _ _ _ _ _ _ (HU.out j x u hx hu) (λb hb hl=>(ah.alloc hT3 _).block hl ab) (λb hb _=>hb)) HG7.out HO7.out HK7.out rfl (eA _ _ _ _ _ _ ⟨_,rfl,hs3⟩ (λb hb hl=>hal b hl) (λb hb _=>⟨by omega,λe=>by have:=(hlt b e).2;omega⟩))).set eA h3 _ _
 ·exact((Kept.bB (ah.alloc hT3 _) aI).grown HG7.out (λb hb=>(hlt b hb).1)).setCell (.inr (.inl aI)) _ _
theorem zr:Ent 136:=⟨λ_ _=>by go_simp,by decide⟩
theorem zq:Ent 137:=⟨λ_ _=>by go_simp,by decide⟩
theorem zc(br grb:Nat)(r:P12.R)(w:World)(h:Rd br r w)(hrb:w.heap[grb]?=some (.cells #[rp br] 67)):
  Calls af 136 #[rp grb] w λe w'=>e = .returned (.bool (P12.isT [40] r))/\Xk.Ext w w':=by
 have HI:=aa (ix br r [40] w h);have c0:w.cell? ⟨grb,0,none⟩=some (rp br):=by simp[ak,hrb]
 clear h hrb;go_enter Tryz.func136,Tryz.ntmps136;go_wp2_with fail;go_at_call 77;refine HI.out.mono ?_;rintro e w1 ⟨rfl,hx⟩;go_wp2;go_ret;exact⟨rfl,hx⟩
theorem sQ(br gx grb:Nat)(mk:Value->Array Value)(hmk:∀v,(mk v)[10]?=some v)(hmk2:∀v v',(mk v).setIfInBounds 10 v'=mk v')(r:P12.R)(w:World)(h:Rd br r w)(hgr:w.heap[grb]?=some (.cells #[rp br] 67))(hgo:w.heap[gx]?=some (.cells (mk aj) 40))(h1:br<gx)(h2:br<grb)(hne:grb≠gx):
  Calls af 135 #[rp br,.int .i64 32,.func (.func 136) #[] #[rp grb],.func (.func 137) #[] #[rp grb,rp gx]] w
   (dI br r (λxs w'=>∃v,w'.heap[gx]?=some (.cells (mk v) 40)/\aE (λb=>w.heap.size<b) w' 1 (Aw (λb=>w.heap.size<b) w') xs v/\0<xs.length/\Kept w.heap.size [br,gx] w w') (Kept w.heap.size [br,gx] w) (P12.eJ 32 (P12.isT [40]) P12.fg r.l.length 0 r)):=by
 have hlg:=(ae.1 hgo).1;have hlr:=(ae.1 hgr).1;refine kP br 32 gx 40 25 1 mk Aw eA aq r w _ (rp grb) (rp grb) (rp gx) 136 137 (P12.isT [40]) P12.fg aq h hgo h1 (.inr rfl) zr zq (λr W hr hk=>zc br grb r W hr (hk.held hgr hlr (by simp;omega))) (λxs v r W hl hr hb hg hk hlt=>?_);refine(zb br gx grb (w.heap.size+1) (mk v) v xs r W hr hb (hmk v) (hk.held hgr hlr (by simp;omega)) hg h1 h2 ab ab ab hl hne).mono ?_;intro e w' hp;unfold dI at hp ⊢;split at hp
 ·obtain⟨p1,⟨v',p2,p3,p4⟩,p5,p6⟩:=hp;exact⟨p1,⟨v',by rw[p2,hmk2],p3,p4⟩,p5,p6⟩
 ·exact⟨hp.1,Kept.bB hp.2 aI⟩
theorem Bi(br:Nat)(r:P12.R)(w:World)(h:Rd br r w):Calls af 71 #[rp br] w (Got br w r (jC w) (P12.insert r)):=by
 have HR:=aa h;have lr:=h.lt;clear h;generalize hres:P12.insert r=res;have hE:=hres;simp only[P12.insert,bind,cG,pure,dz]at hE;have HE:=aa hE;clear hE hres;have HM:=aa λW=>iN 5 W;rw[if_neg aq]at HM;go_enter Tryz.func71,Tryz.ntmps71;go_wp2_with fail;go_at_call 76;refine(HM.out _).mono ?_;rintro e w1 ⟨rfl,hx1⟩;go_wp2_with ((refine pw (aw w1 _) ?_;intro w2 hp2);have F2:=Fq.start HR.out hx1 hp2;have c2:=F2.jf);have hbx:=F2.bx;have hW:=F2.size;go_wp2_with fail;go_at_call 132;refine(dN br [73,78,84,79] r _ _ (F2.alloc _).rd (eM _ _ _ rfl) ab).mono ?_;intro e w3 h
 cases hn:P12.bL [73,78,84,79] r
 case error er=>exact ste (F2.alloc _).after
 rename_i p;rw[hn]at h HE;dsimp only at HE;rename P12.R=>r3
 obtain⟨rfl,ht,hr,hk⟩:=h;have F3:=(F2.alloc _).step ht hr hk;have c3:=F3.jf;clear ht hr hk c2 F2 hp2 hx1 hW;go_wp2_with fail;go_at_call 131;refine(dG br _ _ F3.rd).mono ?_;intro e w4 h
 cases hn:P12.name r3
 case error er=>exact ste F3.after
 rename_i p;rw[hn]at h HE;dsimp only at HE;obtain⟨a,r4⟩:=p;obtain⟨_,rfl,rfl,ht,hr,hk⟩:=h;have F4:=F3.step ht hr hk;have c4:=F4.cell (o:=6) rfl;have f4:=F4.free 6;have F5:=(F4.set 6 (bs a)).cells (c':=(cT 5 [] aj aj aj aj a [] false aj aj aj noE aj aj noE aj aj 0).toArray) rfl;have c5:=F5.jf;clear ht hr hk c3 F3;go_wp2_with fail;go_at_call 77;refine(ix br _ [40] _ F5.rd).mono ?_;rintro e w6 ⟨rfl,hx6⟩;have F6:=F5.ext hx6;have c6:=F6.jf;clear hx6 c5 F5 F4 c4 f4
 cases hb:P12.isT [40] r4
 ·have hE:=HE.out;rw[hb]at hE;clear HE;simp only[aS,if_false]at hE;have HE:=aa hE;clear hE;have hW:=F6.size;have F7:=F6.add (gy [] aj) (aE.nil _ _ _ _);have c7:=F7.jf;go_wp2_with fail;go_at_call 132;refine(dN br [86,65,76,85,69,83] r4 _ _ (F7.alloc _).rd (eM _ _ _ rfl) ab).mono ?_;intro e w8 h
  cases hn:P12.bL [86,65,76,85,69,83] r4
  case error er=>exact ste (F7.alloc _).after
  rename_i p;rw[hn]at h HE;dsimp only at HE;rename P12.R=>r8
  obtain⟨rfl,ht,hr,hk⟩:=h;have F8:=(F7.alloc _).step ht hr hk;have c8:=F8.jf;clear ht hr hk c7 F7;go_wp2_with fail;go_at_call 135;refine(sQ br w1.heap.size w.heap.size (λv=>(cT 5 [] aj aj aj aj a [] false aj v aj noE aj aj noE aj aj 0).toArray) (λ_=>rfl) (λ_ _=>rfl) r8 w8 F8.rd F8.box F8.blk ab ab ab).mono ?_;intro e w9 h
  cases hn:P12.eJ 32 (P12.isT [40]) P12.fg r8.l.length 0 r8
  case error er=>exact ste F8.mo
  rename_i p;rw[hn]at h HE;dsimp only at HE;obtain⟨xs,r9⟩:=p;obtain⟨rfl,⟨v,hb9,hs,hn9,hkt⟩,hr,hk⟩:=h;obtain⟨q1,q2,q3,rfl⟩:=ee hs;have F9:=(F8.row hkt hb9 hr hk).add (bF eA 1 xs (.slice q1 q2 q3)) (bF eA 1 xs (.slice q1 q2 q3) _ _ _ _ hs (λ_ _ _=>rfl) (λb hb _=>by have:=F8.size;omega));have hb:=F9.blk;have hz:=F9.zero;clear hkt hb9 hs hr hk c8 F8;go_wp2_with (first|(refine lw hb aB ?_)|(refine pw hz ?_;intro w10 hp10));refine ar (aH (fn:=Tryz.f71) rfl rfl hp10.blk aB rfl au) rfl ?_;have hE:=HE.out;subst hE;refine Fq.finish F9 hp10 (λ⟨⟨_,hcl⟩,hrw⟩=>?_)
  exact⟨aj,aj,aj,aj,_,_,aj,noE,aj,aj,noE,aj,aj,rfl,aE.nil _ _ _ _,aE.nil _ _ _ _,aE.nil _ _ _ _,aE.nil _ _ _ _,hcl,hrw,aE.nil _ _ _ _,rfl,aE.nil _ _ _ _,aE.nil _ _ _ _,rfl,aE.nil _ _ _ _,aE.nil _ _ _ _⟩
 ·have hE:=HE.out;rw[hb]at hE;clear HE;simp only[if_true]at hE;have HE:=aa hE;clear hE;go_wp2_with fail;go_at_call 134;refine(oo br _ _ F6.rd).mono ?_;intro e w7 h
  cases hn:P12.names r4
  case error er=>exact ste F6.after
  rename_i p;rw[hn]at h HE;dsimp only at HE;obtain⟨cl,r7⟩:=p;obtain⟨_,rfl,⟨hpos,hs⟩,ht,hr,hk⟩:=h;obtain⟨p1,p2,p3,rfl⟩:=ee hs;have F7:=(F6.step ht hr hk).add (gy cl (.slice p1 p2 p3)) (F6.up (gy cl (.slice p1 p2 p3)) hs);have cc7:=F7.cell (o:=9) rfl;have ff7:=F7.free 9;have hW:=F7.size;have F7s:=(F7.set 9 (.slice p1 p2 p3)).cells (c':=(cT 5 [] aj aj aj aj a [] false (.slice p1 p2 p3) aj aj noE aj aj noE aj aj 0).toArray) rfl;clear ht hr hk hs c6 F6;have c7:=F7s.jf;go_wp2_with fail;go_at_call 132;refine(dN br [86,65,76,85,69,83] r7 _ _ (F7s.alloc _).rd (eM _ _ _ (by rw[aM])) ab).mono ?_
  intro e w8 h
  cases hn:P12.bL [86,65,76,85,69,83] r7
  case error er=>exact ste (F7s.alloc _).after
  rename_i p;rw[hn]at h HE;dsimp only at HE;rename P12.R=>r8
  obtain⟨rfl,ht,hr,hk⟩:=h;have F8:=(F7s.alloc _).step ht hr hk;have c8:=F8.jf;clear ht hr hk c7 F7s;go_wp2_with fail;go_at_call 135;refine(sQ br w1.heap.size w.heap.size (λv=>(cT 5 [] aj aj aj aj a [] false (.slice p1 p2 p3) v aj noE aj aj noE aj aj 0).toArray) (λ_=>rfl) (λ_ _=>rfl) r8 w8 F8.rd F8.box F8.blk ab ab ab).mono ?_;intro e w9 h
  cases hn:P12.eJ 32 (P12.isT [40]) P12.fg r8.l.length 0 r8
  case error er=>exact ste F8.mo
  rename_i p;rw[hn]at h HE;dsimp only at HE;obtain⟨xs,r9⟩:=p;obtain⟨rfl,⟨v,hb9,hs,hn9,hkt⟩,hr,hk⟩:=h;obtain⟨q1,q2,q3,rfl⟩:=ee hs;have F9:=(F8.row hkt hb9 hr hk).add (bF eA 1 xs (.slice q1 q2 q3)) (bF eA 1 xs (.slice q1 q2 q3) _ _ _ _ hs (λ_ _ _=>rfl) (λb hb _=>by have:=F8.size;omega));have hb:=F9.blk;have hz:=F9.zero;clear hkt hb9 hs hr hk c8 F8;go_wp2_with (first|(refine lw hb aB ?_)|(refine pw hz ?_;intro w10 hp10));refine ar (aH (fn:=Tryz.f71) rfl rfl hp10.blk aB rfl au) rfl ?_;have hE:=HE.out;subst hE;refine Fq.finish F9 hp10 (λ⟨⟨_,hcl⟩,hrw⟩=>?_)
  exact⟨aj,aj,aj,aj,_,_,aj,noE,aj,aj,noE,aj,aj,rfl,aE.nil _ _ _ _,aE.nil _ _ _ _,aE.nil _ _ _ _,aE.nil _ _ _ _,hcl,hrw,aE.nil _ _ _ _,rfl,aE.nil _ _ _ _,aE.nil _ _ _ _,rfl,aE.nil _ _ _ _,aE.nil _ _ _ _⟩
abbrev qo(b:Bool)(l:List Value)(n:P12.T):List Value := .bool b::(l ++ [bs n])
theorem yY(br:Nat)(r:P12.R)(w:World)(h:Rd br r w):Calls af 147 #[rp br] w (Got br w r (λv x w'=>∃l,v = .agg l.toArray/\mq (λb=>w.heap.size≤b) w' x l) (P12.item r)):=by
 have hbd1:∀ (W:World),(cR 88 #[(0,bT true)]).run af W = .ok (.agg (qo true noE []).toArray) W:=λW=>by kernel_rfl
 have hbd2:∀ (kd op' vk vi:Int) (vs tb nm:P12.T) (pp:Option Addr) (pm pc:Nat) (W:World),(cR 88 #[(1,Value.agg (ao kd op' vk vi vs tb nm (.slice pp pm pc)).toArray)]).run af W = .ok (.agg (qo false (ao kd op' vk vi vs tb nm (.slice pp pm pc)) []).toArray) W:=λkd op' vk vi vs tb nm pp pm pc W=>by kernel_rfl
 cases hs:P12.isT [42] r
 ·have HR:=aa h;have lr:=h.lt;clear h;generalize hres:P12.item r=res;have hE:=hres;simp only[P12.item,hs,aS,if_false,bind,cG,pure,dz]at hE;have HE:=aa hE;clear hE hres;go_enter Tryz.func147,Tryz.ntmps147;go_wp2_with fail;go_at_call 20;refine(fk br r [42] _ (rdx (HR.out)) hs).mono ?_;rintro e w1 ⟨rfl,hx1⟩;have hz1:=hx1.block w.heap.size (by rw[ag];omega);rw[aw w _]at hz1;have hr1:Rd br r w1:=(HR.out.alloc _).ext hx1;have hT1:ah br w w1:=ah.trans (ah.alloc (ah.refl _ _) _) (ah.aR hx1);have hl1:=hx1.size;rw[ag]at hl1;clear hx1;go_wp2_with fail;go_at_call 140;refine(jr br _ _ hr1).mono ?_
  intro e w2 h
  cases hn:P12.expr r
  case error er=>
   rw[hn]at h;have hE:=HE.out;rw[hn]at hE;dsimp only at hE;subst hE;obtain⟨rfl,ht⟩:=h;simp only[bq];go_wp2;exact⟨rfl,rfl,ah.trans hT1 ht⟩
  rename_i p;rw[hn]at h HE;dsimp only at HE;obtain⟨e,r2⟩:=p;obtain⟨_,rfl,⟨l,rfl,he⟩,ht2,hr2,hk2⟩:=h;obtain⟨kd,op',vk,vi,vs,tb,nm,pp,pm,pc,rfl⟩:=he.form;have hz2:=ht2.held hz1 ab;have hT2:=ah.trans hT1 ht2;have hl2:=ht2.size;clear ht2 hr1 hT1 hz1;go_wp2_with ((refine pw (aw w2 _) ?_;intro w3 hp3));have hl3:w3.heap.size=w2.heap.size+1:=by have:=hp3.size;rwa [ag]at this
  have hT3:ah br w w3:=bt.turn hp3 (ah.alloc hT2 _) ab;have hr3:Rd br r2 w3:=bt.rd hp3 (hr2.alloc _) ab;have hz3:=bt.held hp3 ((ah.alloc (ah.refl br w2) _).held hz2 ab) ab;have he3:=bt.expr hp3 (he.bg (S':=λb=>w1.heap.size≤b/\b<w2.heap.size) (w':=w2.alloc _) (λb hb hl=>((al _ _).alloc (ai _) _:Below w2.heap.size w2 (w2.alloc _)).block b hl) (λb hb hl=>⟨hb,hl⟩)) ab;have hb3:=hp3.blk;have hb0:∀b,(w1.heap.size≤b/\b<w2.heap.size)->w.heap.size<b:=λb hb=>by omega
  clear hp3 hz2 hT2 hr2 he
  cases ha:P12.isT [65,83] r2
  ·have hE:=HE.out;rw[ha]at hE;clear HE;simp only[aS,if_false]at hE;go_at_call 20;refine(fk br r2 [65,83] _ hr3 ha).mono ?_;rintro e4 w4 ⟨rfl,hx4⟩;have hT4:=ah.trans hT3 (ah.aR hx4);have hr4:=hr3.ext hx4;have hb4:=(hx4.block w2.heap.size ab).trans hb3;have hz4:=(hx4.block w.heap.size ab).trans hz3;have he4:=he3.bg (S':=λb=>w.heap.size<b) (w':=w4) (λb _ hl=>hx4.block b hl) (λb hb _=>hb0 b hb);go_wp2_with (first|(refine lw hb4 fJ ?_)|(refine pw hz4 ?_;intro w5 hp5));refine ar (aH (fn:=Tryz.f147) rfl rfl hp5.blk fJ rfl au) rfl ?_;subst hE
   exact⟨_,rfl,⟨_,rfl,_,rfl,(bt.expr hp5 he4 ab).mono (λb hb _=>Nat.le_of_lt hb)⟩,bt.turn hp5 hT4 (ai _),bt.rd hp5 hr4 lr,hk2⟩
  ·have hE:=HE.out;rw[ha]at hE;clear HE;simp only[if_true]at hE;have HE:=aa hE;clear hE;go_at_call 20;refine(dT br r2 [65,83] _ hr3 ha).mono ?_;rintro e4 w4 ⟨rfl,ht4,hr4⟩;have hT4:=ah.trans hT3 ht4;have hb4:=ht4.held hb3 ab;have hz4:=ht4.held hz3 ab;have he4:=he3.bg (S':=λb=>w.heap.size<b/\b≠w2.heap.size) (w':=w4) (λb hb hl=>ht4.block hl (by have:=hb0 b hb;omega)) (λb hb _=>⟨hb0 b hb,by omega⟩);have hl4:=ht4.size;clear ht4 hb3 hz3 he3;go_wp2_with fail;go_at_call 131;refine(dG br _ _ hr4).mono ?_;intro e w5 h
   cases hn:P12.name (P12.ax r2)
   case error er=>
    rw[hn]at h;have hE:=HE.out;rw[hn]at hE;dsimp only at hE;subst hE;obtain⟨rfl,ht⟩:=h;simp only[bq];go_wp2;exact⟨rfl,rfl,ah.trans hT4 ht⟩
   rename_i p;rw[hn]at h HE;dsimp only at HE;obtain⟨n,r5⟩:=p;obtain⟨_,rfl,rfl,ht5,hr5,hk5⟩:=h;have hT5:=ah.trans hT4 ht5;have hb5:=ht5.held hb4 ab;have hz5:=ht5.held hz4 ab;have he5:=he4.bg (S':=λb=>w.heap.size<b/\b≠w2.heap.size) (w':=w5) (λb hb hl=>ht5.block hl ab) (λb hb _=>hb);have hl5:=ht5.size;have c5:w5.cell? ⟨w2.heap.size,11,none⟩=some (.string ⟨#[]⟩):=by simp[ak,hb5]
   have f5:=aD w5 w2.heap.size 11 _ _ hb5;have hp6:=gZ hb5 [bs n] 11;have hp6:bt w2.heap.size (qo false (ao kd op' vk vi vs tb nm (.slice pp pm pc)) n).toArray 88 w5 (w5.setCell ⟨w2.heap.size,11,none⟩ (bs n)):=hp6;have hb6:=hp6.blk;have hz6:=bt.held hp6 hz5 ab;have hT6:=bt.turn hp6 hT5 ab;have hr6:=bt.rd hp6 hr5 ab;have he6:=bt.expr hp6 he5 ab;clear hp6 hb5 hz5 hb4 hz4 hT5 hr5 he5 he4 ht5;go_wp2_with (first|(refine lw hb6 fJ ?_)|(refine pw hz6 ?_;intro w7 hp7));refine ar (aH (fn:=Tryz.f147) rfl rfl hp7.blk fJ rfl au) rfl ?_;have hE:=HE.out;subst hE
   exact⟨_,rfl,⟨_,rfl,_,rfl,(bt.expr hp7 he6 ab).mono (λb hb _=>Nat.le_of_lt hb.1)⟩,bt.turn hp7 hT6 (ai _),bt.rd hp7 hr6 lr,hk2.trans ((P12.aO r2).trans hk5)⟩
 ·have hI:P12.item r = .ok ((true,P12.E.none,[]),P12.ax r):=by simp[P12.item,hs]
  rw[hI];have HR:=aa h;have lr:=h.lt;clear h;go_enter Tryz.func147,Tryz.ntmps147;go_wp2_with fail;go_at_call 20;refine(dT br r [42] _ (rdx (HR.out)) hs).mono ?_;rintro e w1 ⟨rfl,ht1,hr1⟩;have hz1:=ht1.held (aw w _) ab;have hT1:ah br w w1:=ah.trans (ah.alloc (ah.refl _ _) _) ht1;go_wp2_with ((refine pw hz1 ?_;intro w3 hp3));refine ar (aH (fn:=Tryz.f147) rfl rfl hp3.blk fJ rfl au) rfl ?_;exact⟨_,rfl,⟨_,rfl,_,rfl,rfl⟩,bt.turn hp3 hT1 (ai _),bt.rd hp3 hr1 lr,P12.aO r⟩
theorem Tryz.tH:(af.info? 88).map (λi=>(i.zero,i.size,i.bytes))=some (some (.agg (qo false noE []).toArray),12,144):=au
theorem xi:Ent 144:=⟨λ_ _=>by go_simp,by decide⟩
theorem xh:Ent 146:=⟨λ_ _=>by go_simp,by decide⟩
theorem vV(br grb:Nat)(r:P12.R)(w:World)(h:Rd br r w)(hrb:w.heap[grb]?=some (.cells #[rp br] 67)):
  Calls af 144 #[rp grb] w λe w'=>e = .returned (.bool (P12.isT [42] r||P12.dV r))/\Xk.Ext w w':=by
 have HR:=aa h;have HI:=aa (ix br r [42] w h);have c0:w.cell? ⟨grb,0,none⟩=some (rp br):=by simp[ak,hrb]
 have C0:=aa c0;clear h hrb
 cases hs:P12.isT [42] r
 ·rw[hs]at HI;go_enter Tryz.func144,Tryz.ntmps144;go_wp2_with fail;go_at_call 77;refine HI.out.mono ?_;rintro e w1 ⟨rfl,hx⟩;have c1:=(hx.cell (ay _ _ C0.out)).trans C0.out;go_wp2_with fail;go_at_call 145;refine(pC br r _ (HR.out.ext hx)).mono ?_;rintro e w2 ⟨rfl,hx2⟩;go_wp2;go_ret;exact⟨by simp,Xk.Ext.trans hx hx2⟩
 ·rw[hs]at HI;go_enter Tryz.func144,Tryz.ntmps144;go_wp2_with fail;go_at_call 77;refine HI.out.mono ?_;rintro e w1 ⟨rfl,hx⟩;go_wp2;go_ret;exact⟨by simp,hx⟩
def FN(br:Nat)(w:World)(r:P12.R)(x:Bool×P12.E×P12.T)(r1:P12.R)(u:Value)(W:World):Prop:=∃l,u = .agg l.toArray/\mq (λb=>w.heap.size≤b) W x l/\Rd br r1 W/\P12.bW r r1
theorem FN.ext{br:Nat}{w:World}{r:P12.R}{x:Bool×P12.E×P12.T}{r1:P12.R}:∀u W W',Xk.Ext W W'->FN br w r x r1 u W->FN br w r x r1 u W':=by
 rintro u W W' hx ⟨l,rfl,h1,h2,h3⟩;exact⟨l,rfl,cJ _ _ _ _ _ _ h1 (λb _ hl=>hx.block b hl) (λb hb _=>hb),h2.ext hx,h3⟩
def Fi(w:World)(x:Bool×P12.E×P12.T)(u:Value)(W:World):Prop:=∃g l,u = .slice (some ⟨g,0,none⟩) 1 1/\w.heap.size≤g/\W.heap[g]?=some (.cells l.toArray 88)/\l.length=12/\(∀u∈l,u.oneCell'=true)/\mq (λb=>w.heap.size≤b/\b≠g) W x l
theorem Fi.turn{br:Nat}{w:World}{x:Bool×P12.E×P12.T}(hb:br<w.heap.size):∀u W W',ah br W W'->Fi w x u W->Fi w x u W':=by
 rintro u W W' ht ⟨g,l,rfl,hg,hc,hl,h1,hi⟩;exact⟨g,l,rfl,hg,ht.held hc ab,hl,h1,cJ _ _ _ _ _ _ hi (λb hb' hl=>ht.block hl ab) (λb hb _=>hb)⟩
theorem vU(br gx grb B:Nat)(c:Array Value)(v:Value)(xs:List (Bool×P12.E×P12.T))(r:P12.R)(w:World)(h:Rd br r w)(hx:w.heap[gx]?=some (.cells c 40))(hc:c[22]?=some v)(hrb:w.heap[grb]?=some (.cells #[rp br] 67))
  (hg:dt B 88 12 mq xs v w) (h1:br<gx) (h2:br<grb) (h3:gx<B) (h4:grb<B) (h5:B≤w.heap.size) (h6:xs.length≤100000) (hne:grb≠gx) :
  Calls af 146 #[rp gx,rp grb] w (dI br r (λx w'=>∃v',w'.heap[gx]?=some (.cells (c.setIfInBounds 22 v') 40)/\dt B 88 12 mq (xs ++ [x]) v' w'/\Kept B [br,gx] w w') (ah br w) (P12.item r)):=by
 have HR:=aa h;have lr:=h.lt;have hg1:w.cell? ⟨gx,22,none⟩=some v:=by simp[ak,hx,hc]
 have hg2:w.cell? ⟨grb,0,none⟩=some (rp br):=by simp[ak,hrb]
 have G1:=aa hg1;have G2:=aa hg2;have HB:=aa hx;have HG:=aa hg;have HC:=aa hc;clear h hx hrb hg1 hg2 hg hc;obtain⟨i0,hi,hz0,hz1,hz2⟩:=cP Tryz.tH;have Hi:=aa hi;have Hz0:=aa hz0;have Hz1:=aa hz1;have Hz2:=aa hz2;clear hi hz0 hz1 hz2;rcases hn:P12.item r with er|⟨x,r1⟩
 ·go_enter Tryz.func146,Tryz.ntmps146;go_wp2
  refine Xg.bm (E:=ah br) (Xe.bS _) (λch W=>fU ch=bq er/\ah br w W) 3 5 (λ_=>none) (λ_ _ h=>by cases h) (λ_ _ _ _ h=>by cases h) [(3,λ_ _=>False),(4,λ_ _=>False)] au au (Xg.cg ((by
     intro y hy;simp only[aJ,aF,or_false]at hy;rcases hy with rfl|rfl
     ·rw[if_pos rfl];exact λ_ _ _ _ h=>h
     ·rw[if_neg aq];exact λ_ _ _ _ h=>h))) ((λch a w' hd hX=>by exact⟨hd,hX.1,hX.2⟩)) ?_
  simp only[aG,aY,aL,bd];refine Xg.gs ?_;refine Xs.gf (show w.drew.cell? ⟨gx,22,none⟩=some v from G1.out) ?_;refine Xs.gf (show w.drew.cell? ⟨grb,0,none⟩=some (rp br)from G2.out) ?_;(refine Xg.dM az az rfl (λW hx hp=>?_) (λu K hK=>?_);(go_simp;((refine(yY br r _ (HR.out.drew.ext hx)).mono ?_);intro e w2 h;rw[hn]at h;obtain⟨h1,h2⟩:=h;exact rl ⟨_,h1,by exact⟨rfl,(ah.drew (ah.refl _ _)).trans ((ah.aR hx).trans h2)⟩⟩));(go_simp;refine hK _ ?_;clear hK K))
  (refine Xg.bc az az aq (λW hx hp=>?_) (λu2 K hK=>?_);(exact(Xe.bG hp au).elim);(go_simp;refine hK _ ?_;clear hK K))
  refine Xg.bD (λW hx hp hg=>?_);exact hp.1.elim
 ·go_enter Tryz.func146,Tryz.ntmps146;go_wp2
  refine Xg.bm (E:=ah br) (Xe.bS _) (λch W=>False) 3 5 (λ_=>none) (λ_ _ h=>by cases h) (λ_ _ _ _ h=>by cases h) [(3,FN br w r x r1),(4,Fi w x)] au au (Xg.cg ((by
     intro y hy;simp only[aJ,aF,or_false]at hy;rcases hy with rfl|rfl
     ·rw[if_pos rfl];exact FN.ext
     ·rw[if_neg (show ¬ (4=3) by decide)];exact Fi.turn lr))) ((λch a w' hd hX=>hX.elim)) ?_
  simp only[aG,aY,aL,bd];refine Xg.gs ?_;refine Xs.gf (show w.drew.cell? ⟨gx,22,none⟩=some v from G1.out) ?_;refine Xs.gf (show w.drew.cell? ⟨grb,0,none⟩=some (rp br)from G2.out) ?_;(refine Xg.dM az az rfl (λW hx hp=>?_) (λu K hK=>?_);(go_simp;((refine(yY br r _ (HR.out.drew.ext hx)).mono ?_);intro e w2 h;rw[hn]at h;obtain⟨v',rfl,⟨l,rfl,hi⟩,h1,h2,h3⟩:=h;exact kr ⟨_,rfl,h1,⟨l,rfl,cJ _ _ _ _ _ _ hi (λ_ _ _=>rfl) (λb hb _=>bI hx.size hb),h2,h3⟩,λb hb=>by cases hb⟩));(go_simp;refine hK _ ?_;clear hK K))
  (refine Xg.bc az az aq (λW hx hp=>?_) (λu2 K hK=>?_);((obtain⟨l,rfl,⟨l0,rfl,he⟩,hr1,hk1⟩:=Xe.bG hp au);(obtain⟨kd,op',vk,vi,vs,tb,nm,pp,pm,pc,rfl⟩:=he.form);go_simp;exact⟨(al _ _).alloc (ai _) _,⟨W.heap.size,_,rfl,by simpa using hx.size,aw W _,rfl,dS au,⟨_,rfl,he.bg (λb hb hl=>((al _ _).alloc (ai _) _:Below W.heap.size W (W.alloc _)).block b hl) (λb hb hl=>⟨hb,by omega⟩)⟩⟩,λb hb=>by cases hb;exact⟨.inr (ai _),by simp⟩⟩);(go_simp;refine hK _ ?_;clear hK K))
  refine Xg.bD (λW hx hp hg=>?_);obtain⟨⟨g,l,rfl,hge,hgc,hl12,hl1,hi⟩,⟨l',rfl,-,hr1,hk1⟩,-⟩:=hp;have hx':ah br w W:=(ah.drew (ah.refl _ _)).trans hx;have hsz:=hx'.size;have hbW:=hx'.held HB.out ab;have HGW:=aa (HG.out.turn cJ hx' ab);obtain⟨us,hown,hu2,hu3,hu4⟩:=HGW.out;have HU:=aa hu4;have hlt:=hown.lt;have hown0:=HG.out.lt;clear hu4
  go_wp2_with (at_builtin;refine Xo.bY B rfl _ _ 36 rfl 88 i0 _ 12 144 Tryz.underlying36 Hi.out Hz0.out Hz1.out Hz2.out rfl aq v xs.length us.flatten rfl hown g 0 1 1 l rfl aq hl12 (jJ hgc) hl1 ab ab ?_;intro v' w7 ho' hg' hk';obtain⟨z,cz,rfl⟩:=eR ho' ab;have hx7:=(hg'.block gx ab (λe=>by have:=(hlt gx e.symm).1;omega)).trans hbW;have c7:w7.cell? ⟨gx,22,none⟩=some v:=(by simp[ak,hx7,HC.out]);have f7:=aD w7 gx 22 _ _ hx7;have HO7:=aa ho';have HG7:=aa hg';have HK7:=aa hk';have HX7:=aa hx7;clear ho' hg' hk' hx7 hx);go_wp2;go_end0
  refine⟨rfl,⟨.slice (some ⟨z,0,none⟩) (xs.length+1) cz,?_,?_,?_⟩,Rd.setCell (hr1.grown HG7.out (λb hb=>by have:=(hlt b hb).1;omega)) h1 _ _,hk1⟩
  ·rw[heap_setCell_same w7 gx 22 _ _ _ HX7.out]
  ·exact(dt.push cJ hu2 hu3 HU.out HG7.out HO7.out HK7.out hl12 (cJ _ _ _ _ _ _ hi (λ_ _ _=>rfl) (λb hb _=>⟨by omega,λe=>by have:=(hown0 b e).2;omega⟩))).set cJ h3 _ _
  ·exact((Kept.bB hx' aI).grown HG7.out (λb hb=>(hlt b hb).1)).setCell (.inr (.inl aI)) _ _
theorem C1(br gx grb:Nat)(mk:Value->Array Value)(hmk:∀v,(mk v)[22]?=some v)(hmk2:∀v v',(mk v).setIfInBounds 22 v'=mk v')(r:P12.R)(w:World)(h:Rd br r w)(hgr:w.heap[grb]?=some (.cells #[rp br] 67))(hgo:w.heap[gx]?=some (.cells (mk aj) 40))(h1:br<gx)(h2:br<grb)(hne:grb≠gx):
  Calls af 135 #[rp br,.int .i64 16,.func (.func 144) #[] #[rp grb],.func (.func 146) #[] #[rp gx,rp grb]] w
   (dI br r (λxs w'=>∃v,w'.heap[gx]?=some (.cells (mk v) 40)/\aE (λb=>w.heap.size<b) w' 12 (mq (λb=>w.heap.size<b) w') xs v/\0<xs.length/\Kept w.heap.size [br,gx] w w') (Kept w.heap.size [br,gx] w) (P12.eJ 16 (λr=>P12.isT [42] r||P12.dV r) P12.item r.l.length 0 r)):=by
 have hlg:=(ae.1 hgo).1;have hlr:=(ae.1 hgr).1;refine kP br 16 gx 40 88 12 mk mq cJ aq r w _ (rp grb) (rp gx) (rp grb) 144 146 (λr=>P12.isT [42] r||P12.dV r) P12.item aq h hgo h1 (.inr rfl) xi xh (λr W hr hk=>vV br grb r W hr (hk.held hgr hlr (by simp;omega))) (λxs v r W hl hr hb hg hk hlt=>?_);refine(vU br gx grb (w.heap.size+1) (mk v) v xs r W hr hb (hmk v) (hk.held hgr hlr (by simp;omega)) hg h1 h2 ab ab ab hl hne).mono ?_;intro e w' hp;unfold dI at hp ⊢;split at hp
 ·obtain⟨p1,⟨v',p2,p3,p4⟩,p5,p6⟩:=hp;exact⟨p1,⟨v',by rw[p2,hmk2],p3,p4⟩,p5,p6⟩
 ·exact⟨hp.1,Kept.bB hp.2 aI⟩
theorem xg:Ent 149:=⟨λ_ _=>by go_simp,by decide⟩
theorem vT(br gx grb B:Nat)(c:Array Value)(v:Value)(xs:List P12.E)(r:P12.R)(w:World)(h:Rd br r w)(hx:w.heap[gx]?=some (.cells c 40))(hc:c[34]?=some v)(hrb:w.heap[grb]?=some (.cells #[rp br] 67))
  (hg:dt B 35 10 dY xs v w) (h1:br<gx) (h2:br<grb) (h3:gx<B) (h4:grb<B) (h5:B≤w.heap.size) (h6:xs.length≤100000) (hne:grb≠gx) :
  Calls af 149 #[rp gx,rp grb] w (dI br r (λx w'=>∃v',w'.heap[gx]?=some (.cells (c.setIfInBounds 34 v') 40)/\dt B 35 10 dY (xs ++ [x]) v' w'/\Kept B [br,gx] w w') (ah br w) (P12.column r)):=by
 have HR:=aa h;have lr:=h.lt;have hg1:w.cell? ⟨gx,34,none⟩=some v:=by simp[ak,hx,hc]
 have hg2:w.cell? ⟨grb,0,none⟩=some (rp br):=by simp[ak,hrb]
 have G1:=aa hg1;have G2:=aa hg2;have HB:=aa hx;have HG:=aa hg
 obtain⟨q1,c1,rfl⟩:∃q c,v = .slice q xs.length c:=by
  obtain⟨us,ho,-⟩:=hg;rcases ho.2 with⟨rfl,h0⟩|⟨g,cap,cur,rfl,-⟩
  ·exact⟨none,0,by rw[h0]⟩
  ·exact⟨_,_,rfl⟩
 have HCC:=aa hc;clear h hx hrb hg1 hg2 hg hc;obtain⟨i0,hi,hz0,hz1,hz2⟩:=cP Tryz.jH;have Hi:=aa hi;have Hz0:=aa hz0;have Hz1:=aa hz1;have Hz2:=aa hz2;clear hi hz0 hz1 hz2;rcases hn:P12.column r with er|⟨x,r1⟩
 ·go_enter Tryz.func149,Tryz.ntmps149;go_wp2
  refine Xg.ed (E:=ah br) (Xe.bS _) (λch W=>fU ch=bq er/\ah br w W) 3 6 (λ_=>none) (λ_ _ h=>by cases h) (λ_ _ _ _ h=>by cases h) [(3,λ_ _=>False),(5,nC w)] au au (Xg.cg ((by
     intro y hy;simp only[aJ,aF,or_false]at hy;rcases hy with rfl|rfl
     ·rw[if_pos rfl];exact λ_ _ _ _ h=>h
     ·rw[if_neg (show ¬ (5=3) by decide)];exact nC.turn lr))) ((λch a w' hd hX=>by exact⟨hd,hX.1,hX.2⟩)) 5 rfl ?_
  simp only[aG,aY,aL,bd];refine Xg.gs ?_;refine Xs.gf (show w.drew.cell? ⟨gx,34,none⟩=some (.slice q1 xs.length c1)from G1.out) ?_;refine Xs.gf (show w.drew.cell? ⟨grb,0,none⟩=some (rp br)from G2.out) ?_;(refine Xg.dM az az rfl (λW hx hp=>?_) (λu K hK=>?_);(go_simp;((refine(pA br r _ (HR.out.drew.ext hx)).mono ?_);intro e w2 h;rw[hn]at h;obtain⟨h1,h2⟩:=h;exact rl ⟨_,h1,by exact⟨rfl,(ah.drew (ah.refl _ _)).trans ((ah.aR hx).trans h2)⟩⟩));(go_simp;refine hK _ ?_;clear hK K))
  refine Xg.gs ?_;(refine Xg.bc az az aq (λW hx hp=>?_) (λu2 K hK=>?_);((go_simp;exact⟨(al _ _).alloc (ai _) _,⟨W.heap.size,rfl,by simpa using hx.size,aw W _⟩,λb hb=>by cases hb;exact⟨.inr (ai _),by simp⟩⟩));(go_simp;refine hK _ ?_;clear hK K))
  refine Xg.bD (λW hx hp hg=>?_);exact hp.2.1.elim
 ·go_enter Tryz.func149,Tryz.ntmps149;go_wp2
  refine Xg.ed (E:=ah br) (Xe.bS _) (λch W=>False) 3 6 (λ_=>none) (λ_ _ h=>by cases h) (λ_ _ _ _ h=>by cases h) [(3,wW br w r x r1),(5,nC w)] au au (Xg.cg ((by
     intro y hy;simp only[aJ,aF,or_false]at hy;rcases hy with rfl|rfl
     ·rw[if_pos rfl];exact wW.ext
     ·rw[if_neg (show ¬ (5=3) by decide)];exact nC.turn lr))) ((λch a w' hd hX=>hX.elim)) 5 rfl ?_
  simp only[aG,aY,aL,bd];refine Xg.gs ?_;refine Xs.gf (show w.drew.cell? ⟨gx,34,none⟩=some (.slice q1 xs.length c1)from G1.out) ?_;refine Xs.gf (show w.drew.cell? ⟨grb,0,none⟩=some (rp br)from G2.out) ?_;(refine Xg.dM az az rfl (λW hx hp=>?_) (λu K hK=>?_);(go_simp;((refine(pA br r _ (HR.out.drew.ext hx)).mono ?_);intro e w2 h;rw[hn]at h;obtain⟨v',rfl,⟨l,rfl,he⟩,h1,h2,h3⟩:=h;exact kr ⟨_,rfl,h1,⟨l,rfl,he.mono (λb hb _=>bI hx.size hb),h2,h3⟩,λb hb=>by cases hb⟩));(go_simp;refine hK _ ?_;clear hK K))
  refine Xg.gs ?_;(refine Xg.bc az az aq (λW hx hp=>?_) (λu2 K hK=>?_);((go_simp;exact⟨(al _ _).alloc (ai _) _,⟨W.heap.size,rfl,by simpa using hx.size,aw W _⟩,λb hb=>by cases hb;exact⟨.inr (ai _),by simp⟩⟩));(go_simp;refine hK _ ?_;clear hK K))
  refine Xg.bD (λW hx hp hg=>?_);obtain⟨⟨g,rfl,hge,hgc⟩,⟨l,rfl,he,hr1,hk1⟩,-⟩:=hp;have hx':ah br w W:=(ah.drew (ah.refl _ _)).trans hx;have hsz:=hx'.size;have HGW:=aa (HG.out.turn bj hx' ab);have hbW:=hx'.held HB.out ab;obtain⟨us,hown,hu2,hu3,hu4⟩:=HGW.out;have HU:=aa hu4;have hlt:=hown.lt;clear hu4 hx hg;refine Xg.bK (k:=6) au rfl ?_;refine Xo.bY B rfl _ _ 25 rfl 35 i0 _ 10 120 ku Hi.out Hz0.out Hz1.out Hz2.out rfl aq (.slice q1 xs.length c1) xs.length us.flatten rfl hown g 0 1 1 noE rfl aq rfl (jJ hgc) (dS au) ab ab ?_;intro v' w7 ho' hg' hk';obtain⟨z,cz,rfl⟩:=eR ho' ab
  have HG7:=aa (dt.push (x:=P12.E.none) bj hu2 hu3 HU.out hg' ho' hk' rfl rfl);have HB7:=aa ((hg'.block gx ab (λe=>by have:=(hlt gx e.symm).1;omega)).trans hbW);have hown0:=HG.out.lt;have HE7:=aa (he.bg (S':=λb=>w.heap.size≤b/\b<W.heap.size) (w':=w7) (λb hb hl=>hg'.block b hl (λe=>by have:=(hown0 b e.symm).2;omega)) (λb hb hl=>⟨hb,hl⟩));have HR7:=aa (hr1.grown hg' (λb hb=>by have:=(hlt b hb).1;omega));have HK7:=aa ((Kept.bB (B:=B) (ks := [br,gx]) hx' aI).grown hg' (λb hb=>(hlt b hb).1));have hzB:B≤z/\z<w7.heap.size:=ho'.lt z rfl
  have hzW:∀b,w.heap.size≤b->b<W.heap.size->¬ z=b:=λb h1 h2 e=>by
   subst e;rcases hk' z rfl with h|h
   ·have:=(hown0 z h).2;omega
   ·omega
  obtain⟨cur,hcur,hcs⟩:∃cur,w7.heap[z]?=some (.cells cur 35)/\xs.length*10+10≤cur.size:=by
   rcases ho'.2 with⟨hv,-⟩|⟨g,cap,cur,hv,-,h6,h7,h8,h9,-⟩
   ·cases hv
   ·cases hv;exact⟨cur,h6,by omega⟩
  have HC7:=aa hcur;have hb7:w7.cell? ⟨gx,34,none⟩=some (.slice q1 xs.length c1):=by simp[ak,HB7.out,HCC.out]
  have f7:=aD w7 gx 34 _ _ HB7.out;clear ho' hg' hk' hlt hown hu2 hu3 HU us HGW hbW hx' hgc hge hr1 he hcur;show wpAny _ _ _ _ _ _ _ _
  obtain⟨kd,op',vk,vi,vs,tb,nm,pp,pm,pc,rfl⟩:=HE7.out.form;refine Xg.dC (j:=7) (k:=9) au rfl rfl ?_ ?_
  ·go_wp2;show wpAny _ _ _ _ _ _ _ _
   refine Xg.dC (j:=8) (k:=9) au rfl rfl ?_ ?_
   ·refine aV rfl 35 _ _ rfl z (xs.length*10) cur _ 35 rfl rfl HC7.out hcs au au ?_;intro w8 hp8;show wpAny _ _ _ _ _ _ _ _
    have hB8:=(hp8.rest gx ab).trans HB7.out;have hb8:w8.cell? ⟨gx,34,none⟩=some (.slice q1 xs.length c1):=by simp[ak,hB8,HCC.out]
    have f8:=aD w8 gx 34 _ _ hB8;have HG8:=aa ((dt.iO bj HG7.out HC7.out hp8 rfl (HE7.out.bg (λ_ _ _=>rfl) (λb hb _=>⟨by omega,hzW b hb.1 hb.2⟩))).set bj h3 34 (.slice (some ⟨z,0,none⟩) (xs.length+1) cz));have HX8:=aa hB8;have HP8:=aa hp8;clear hB8 hp8;refine Xg.bK (k:=9) au rfl ?_;go_wp2;show wpAny _ _ _ _ _ _ _ _
    refine Xg.bK (k:=10) au rfl ?_;go_wp2;show wpAny _ _ _ _ _ _ _ _
    refine Xg.any_nil au ?_;go_end0
    exact⟨rfl,⟨_,heap_setCell_same w8 gx 34 _ _ _ HX8.out,HG8.out,((HK7.out.trans (Kept.dd HP8.out hzB.1)).setCell (.inr (.inl aI)) _ _)⟩,Rd.setCell (bt.rd HP8.out HR7.out ab) h1 _ _,hk1⟩
   ·go_wp2;show wpAny _ _ _ _ _ _ _ _
    refine Xg.dC (j:=8) (k:=10) au rfl rfl ?_ ?_
    ·refine aV rfl 35 _ _ rfl z (xs.length*10) cur _ 35 rfl rfl HC7.out hcs au au ?_;intro w8 hp8;show wpAny _ _ _ _ _ _ _ _
     have hB8:=(hp8.rest gx ab).trans HB7.out;have hb8:w8.cell? ⟨gx,34,none⟩=some (.slice q1 xs.length c1):=by simp[ak,hB8,HCC.out]
     have f8:=aD w8 gx 34 _ _ hB8;have HG8:=aa ((dt.iO bj HG7.out HC7.out hp8 rfl (HE7.out.bg (λ_ _ _=>rfl) (λb hb _=>⟨by omega,hzW b hb.1 hb.2⟩))).set bj h3 34 (.slice (some ⟨z,0,none⟩) (xs.length+1) cz));have HX8:=aa hB8;have HP8:=aa hp8;clear hB8 hp8;refine Xg.bK (k:=10) au rfl ?_;go_wp2;show wpAny _ _ _ _ _ _ _ _
     refine Xg.any_nil au ?_;go_end0
     exact⟨rfl,⟨_,heap_setCell_same w8 gx 34 _ _ _ HX8.out,HG8.out,((HK7.out.trans (Kept.dd HP8.out hzB.1)).setCell (.inr (.inl aI)) _ _)⟩,Rd.setCell (bt.rd HP8.out HR7.out ab) h1 _ _,hk1⟩
    ·go_wp2;show wpAny _ _ _ _ _ _ _ _
     refine Xg.bK (k:=8) au rfl ?_;refine aV rfl 35 _ _ rfl z (xs.length*10) cur _ 35 rfl rfl ((an w7 ⟨gx,34,none⟩ z _ (λe=>by(have h:z=gx:=(by simpa using e));omega)).trans HC7.out) hcs au au ?_;intro w8 hp8;show wpAny _ _ _ _ _ _ _ _
     refine Xg.any_nil au ?_;go_end0
     have hrst:∀b,b≠gx->(w7.setCell ⟨gx,34,none⟩ (.slice (some ⟨z,0,none⟩) (xs.length+1) cz)).heap[b]?=w7.heap[b]?:=λb hb=>an w7 ⟨gx,34,none⟩ b _ (λe=>hb (by simpa using e));exact⟨rfl,⟨_,((hp8.rest gx ab).trans (heap_setCell_same w7 gx 34 _ _ _ HB7.out)),dt.iO bj (HG7.out.set bj h3 34 _) ((hrst z ab).trans HC7.out) hp8 rfl (HE7.out.bg (λb hb hl=>hrst b ab) (λb hb _=>⟨by omega,hzW b hb.1 hb.2⟩)),((HK7.out.setCell (.inr (.inl aI)) _ _).trans (Kept.dd hp8 hzB.1))⟩,bt.rd hp8 (Rd.setCell HR7.out h1 _ _) ab,hk1⟩
  ·go_wp2;show wpAny _ _ _ _ _ _ _ _
   refine Xg.dC (j:=7) (k:=10) au rfl rfl ?_ ?_
   ·go_wp2;show wpAny _ _ _ _ _ _ _ _
    refine Xg.dC (j:=8) (k:=10) au rfl rfl ?_ ?_
    ·refine aV rfl 35 _ _ rfl z (xs.length*10) cur _ 35 rfl rfl HC7.out hcs au au ?_;intro w8 hp8;show wpAny _ _ _ _ _ _ _ _
     have hB8:=(hp8.rest gx ab).trans HB7.out;have hb8:w8.cell? ⟨gx,34,none⟩=some (.slice q1 xs.length c1):=by simp[ak,hB8,HCC.out]
     have f8:=aD w8 gx 34 _ _ hB8;have HG8:=aa ((dt.iO bj HG7.out HC7.out hp8 rfl (HE7.out.bg (λ_ _ _=>rfl) (λb hb _=>⟨by omega,hzW b hb.1 hb.2⟩))).set bj h3 34 (.slice (some ⟨z,0,none⟩) (xs.length+1) cz));have HX8:=aa hB8;have HP8:=aa hp8;clear hB8 hp8;refine Xg.bK (k:=10) au rfl ?_;go_wp2;show wpAny _ _ _ _ _ _ _ _
     refine Xg.any_nil au ?_;go_end0
     exact⟨rfl,⟨_,heap_setCell_same w8 gx 34 _ _ _ HX8.out,HG8.out,((HK7.out.trans (Kept.dd HP8.out hzB.1)).setCell (.inr (.inl aI)) _ _)⟩,Rd.setCell (bt.rd HP8.out HR7.out ab) h1 _ _,hk1⟩
    ·go_wp2;show wpAny _ _ _ _ _ _ _ _
     refine Xg.bK (k:=8) au rfl ?_;refine aV rfl 35 _ _ rfl z (xs.length*10) cur _ 35 rfl rfl ((an w7 ⟨gx,34,none⟩ z _ (λe=>by(have h:z=gx:=(by simpa using e));omega)).trans HC7.out) hcs au au ?_;intro w8 hp8;show wpAny _ _ _ _ _ _ _ _
     refine Xg.any_nil au ?_;go_end0
     have hrst:∀b,b≠gx->(w7.setCell ⟨gx,34,none⟩ (.slice (some ⟨z,0,none⟩) (xs.length+1) cz)).heap[b]?=w7.heap[b]?:=λb hb=>an w7 ⟨gx,34,none⟩ b _ (λe=>hb (by simpa using e));exact⟨rfl,⟨_,((hp8.rest gx ab).trans (heap_setCell_same w7 gx 34 _ _ _ HB7.out)),dt.iO bj (HG7.out.set bj h3 34 _) ((hrst z ab).trans HC7.out) hp8 rfl (HE7.out.bg (λb hb hl=>hrst b ab) (λb hb _=>⟨by omega,hzW b hb.1 hb.2⟩)),((HK7.out.setCell (.inr (.inl aI)) _ _).trans (Kept.dd hp8 hzB.1))⟩,bt.rd hp8 (Rd.setCell HR7.out h1 _ _) ab,hk1⟩
   ·go_wp2;show wpAny _ _ _ _ _ _ _ _
    refine Xg.bK (k:=7) au rfl ?_;go_wp2;show wpAny _ _ _ _ _ _ _ _
    refine Xg.bK (k:=8) au rfl ?_;refine aV rfl 35 _ _ rfl z (xs.length*10) cur _ 35 rfl rfl ((an w7 ⟨gx,34,none⟩ z _ (λe=>by(have h:z=gx:=(by simpa using e));omega)).trans HC7.out) hcs au au ?_;intro w8 hp8;show wpAny _ _ _ _ _ _ _ _
    refine Xg.any_nil au ?_;go_end0
    have hrst:∀b,b≠gx->(w7.setCell ⟨gx,34,none⟩ (.slice (some ⟨z,0,none⟩) (xs.length+1) cz)).heap[b]?=w7.heap[b]?:=λb hb=>an w7 ⟨gx,34,none⟩ b _ (λe=>hb (by simpa using e));exact⟨rfl,⟨_,((hp8.rest gx ab).trans (heap_setCell_same w7 gx 34 _ _ _ HB7.out)),dt.iO bj (HG7.out.set bj h3 34 _) ((hrst z ab).trans HC7.out) hp8 rfl (HE7.out.bg (λb hb hl=>hrst b ab) (λb hb _=>⟨by omega,hzW b hb.1 hb.2⟩)),((HK7.out.setCell (.inr (.inl aI)) _ _).trans (Kept.dd hp8 hzB.1))⟩,bt.rd hp8 (Rd.setCell HR7.out h1 _ _) ab,hk1⟩
theorem C2(br gx grb:Nat)(mk:Value->Array Value)(hmk:∀v,(mk v)[34]?=some v)(hmk2:∀v v',(mk v).setIfInBounds 34 v'=mk v')(r:P12.R)(w:World)(h:Rd br r w)(hgr:w.heap[grb]?=some (.cells #[rp br] 67))(hgo:w.heap[gx]?=some (.cells (mk aj) 40))(h1:br<gx)(h2:br<grb)(hne:grb≠gx):
  Calls af 135 #[rp br,.int .i64 16,.func (.func 141) #[rp br] #[],.func (.func 149) #[] #[rp gx,rp grb]] w
   (dI br r (λxs w'=>∃v,w'.heap[gx]?=some (.cells (mk v) 40)/\aE (λb=>w.heap.size<b) w' 10 (dY (λb=>w.heap.size<b) w') xs v/\0<xs.length/\Kept w.heap.size [br,gx] w w') (Kept w.heap.size [br,gx] w) (P12.eJ 16 P12.named P12.column r.l.length 0 r)):=by
 have hlg:=(ae.1 hgo).1;have hlr:=(ae.1 hgr).1;refine kP br 16 gx 40 35 10 mk dY bj aq r w _ (rp br) (rp gx) (rp grb) 141 149 P12.named P12.column aq h hgo h1 (.inl rfl) mx xg (λr W hr _=>kD br r W hr) (λxs v r W hl hr hb hg hk hlt=>?_);refine(vT br gx grb (w.heap.size+1) (mk v) v xs r W hr hb (hmk v) (hk.held hgr hlr (by simp;omega)) hg h1 h2 ab ab ab hl hne).mono ?_;intro e w' hp;unfold dI at hp ⊢;split at hp
 ·obtain⟨p1,⟨v',p2,p3,p4⟩,p5,p6⟩:=hp;exact⟨p1,⟨v',by rw[p2,hmk2],p3,p4⟩,p5,p6⟩
 ·exact⟨hp.1,Kept.bB hp.2 aI⟩
theorem jm(br:Nat)(r:P12.R)(s:List UInt8)(w:World)(h:Rd br r w):
  Calls af 20 #[rp br,.string ⟨s.toArray⟩] w λe w'=>e = .returned (.bool (P12.isT s r))/\ah br w w'/\Rd br (P12.has s r).2 w'/\P12.bW r (P12.has s r).2:=by
 cases hs:P12.isT s r
 ·refine(fk br r s w h hs).mono ?_;rintro e w' ⟨rfl,hx⟩;refine⟨rfl,?_⟩;simp only[P12.has,hs,aS,if_false];exact⟨ah.aR hx,h.ext hx,P12.bW.refl r⟩
 ·refine(dT br r s w h hs).mono ?_;rintro e w' ⟨rfl,ht,hr⟩;refine⟨rfl,?_⟩;simp only[P12.has,hs,if_true];exact⟨ht,hr,P12.aO r⟩
theorem xf:Ent 151:=⟨λ_ _=>by go_simp,by decide⟩
abbrev yw(b:Bool)(l:List Value):List Value:=l ++ [.bool b]
theorem Tryz.Cj:(af.info? 92).map (λi=>(i.zero,i.size,i.bytes))=some (some (.agg (yw false noE).toArray),11,128):=au
theorem vS(br gx grb B:Nat)(c:Array Value)(v:Value)(xs:List (P12.E×Bool))(r:P12.R)(w:World)(h:Rd br r w)(hx:w.heap[gx]?=some (.cells c 40))(hc:c[35]?=some v)(hrb:w.heap[grb]?=some (.cells #[rp br] 67))
  (hg:dt B 92 11 se xs v w) (h1:br<gx) (h2:br<grb) (h3:gx<B) (h4:grb<B) (h5:B≤w.heap.size) (h6:xs.length≤100000) (hne:grb≠gx) :
  Calls af 151 #[rp grb,rp gx] w (dI br r (λx w'=>∃v',w'.heap[gx]?=some (.cells (c.setIfInBounds 35 v') 40)/\dt B 92 11 se (xs ++ [x]) v' w'/\Kept B [br,gx] w w') (ah br w) (P12.fO r)):=by
 have HR:=aa h;have lr:=h.lt;clear h;generalize hres:P12.fO r=res;have hE:=hres;simp only[P12.fO,bind,cG,pure,dz]at hE;have HE:=aa hE;clear hE hres;have HX:=aa hx;have HG:=aa hg;have HRB:=aa hrb;have c0:w.cell? ⟨grb,0,none⟩=some (rp br):=by simp[ak,hrb]
 have hbd:∀ (kd op' vk vi:Int) (vs tb nm:P12.T) (pp:Option Addr) (pm pc:Nat) (W:World),(cR 92 #[(0,Value.agg (ao kd op' vk vi vs tb nm (.slice pp pm pc)).toArray)]).run af W = .ok (.agg (yw false (ao kd op' vk vi vs tb nm (.slice pp pm pc))).toArray) W:=λkd op' vk vi vs tb nm pp pm pc W=>by kernel_rfl
 clear hx hrb hg;obtain⟨i0,hi,hz0,hz1,hz2⟩:=cP Tryz.Cj;have Hi:=aa hi;have Hz0:=aa hz0;have Hz1:=aa hz1;have Hz2:=aa hz2;clear hi hz0 hz1 hz2;go_enter Tryz.func151,Tryz.ntmps151;go_wp2_with fail;go_at_call 140;refine(jr br _ _ HR.out).mono ?_;intro e w1 h
 cases hn:P12.expr r
 case error er=>
  rw[hn]at h;have hE:=HE.out;rw[hn]at hE;dsimp only at hE;subst hE;obtain⟨rfl,ht⟩:=h;simp only[bq];go_wp2;exact⟨rfl,rfl,ht⟩
 rename_i p;rw[hn]at h HE;dsimp only at HE;obtain⟨e,r1⟩:=p;obtain⟨_,rfl,⟨l,rfl,he⟩,ht1,hr1,hk1⟩:=h;obtain⟨kd,op',vk,vi,vs,tb,nm,pp,pm,pc,rfl⟩:=he.form;have hl1:=ht1.size;have hrb1:=ht1.held HRB.out ab;go_wp2_with ((refine pw (aw w1 _) ?_;intro w2 hp2);have hrb2:=bt.held hp2 ((ah.alloc (ah.refl br w1) _).held hrb1 ab) ab;have c2:w2.cell? ⟨grb,0,none⟩=some (rp br):=(by simp[ak,hrb2]));have hl2:w2.heap.size=w1.heap.size+1:=by have:=hp2.size;rwa [ag]at this
 have hT2:ah br w w2:=bt.turn hp2 (ah.alloc ht1 _) ab;have hr2:Rd br r1 w2:=bt.rd hp2 (hr1.alloc _) ab;have he2:=bt.expr hp2 (he.bg (S':=λb=>w.heap.size≤b/\b≠w1.heap.size) (w':=w1.alloc _) (λb hb hl=>((al _ _).alloc (ai _) _:Below w1.heap.size w1 (w1.alloc _)).block b hl) (λb hb hl=>⟨hb,by omega⟩)) ab;have hb2:=hp2.blk;clear hp2;obtain⟨d,hd⟩:∃d,P12.isT [68,69,83,67] r1=d:=⟨_,rfl⟩;go_at_call 20;refine(jm br r1 [68,69,83,67] _ hr2).mono ?_;rw[hd];rintro e3 w3 ⟨rfl,ht3,hr3,hk3⟩;have hT3:=ah.trans hT2 ht3;have hb3:=ht3.held hb2 ab;have hrb3:=ht3.held hrb2 ab
 have he3:=he2.bg (S':=λb=>w.heap.size≤b/\b≠w1.heap.size) (w':=w3) (λb hb hl=>ht3.block hl ab) (λb hb _=>hb);have c3:w3.cell? ⟨w1.heap.size,10,none⟩=some (.bool false):=by simp[ak,hb3]
 have f3:=aD w3 w1.heap.size 10 _ _ hb3;have hp4:=gZ hb3 [.bool d] 10;have hp4:bt w1.heap.size (yw d (ao kd op' vk vi vs tb nm (.slice pp pm pc))).toArray 92 w3 (w3.setCell ⟨w1.heap.size,10,none⟩ (.bool d)):=hp4;have HB4:=aa hp4.blk;have HRB4:=aa (bt.held hp4 hrb3 ab);have HT4:=aa (bt.turn hp4 hT3 ab);have HR4:=aa (bt.rd hp4 hr3 ab);have HE4:=aa (bt.expr hp4 he3 ab);have HK4:=aa (hk1.trans hk3);clear hp4 hb3 hrb3 hT3 hr3 he3 ht3 hb2 hrb2 hT2 hr2 he2 c2 hrb1 ht1 hr1 he;go_upto_if 11 with fail
 generalize w3.setCell ⟨w1.heap.size,10,none⟩ (.bool d)=W at *
 clear c3 f3;have c4:W.cell? ⟨grb,0,none⟩=some (rp br):=by simp[ak,HRB4.out]
 cases d
 ·go_wp2_with fail;go_at_call 20;refine(jm br _ [65,83,67] _ HR4.out).mono ?_;rintro e5 w5 ⟨rfl,ht5,hr5,hk5⟩;have hT5:=ah.trans HT4.out ht5;have hb5:=ht5.held HB4.out ab;have he5:=HE4.out.bg (S':=λb=>w.heap.size≤b/\b≠w1.heap.size) (w':=w5) (λb hb hl=>ht5.block hl ab) (λb hb _=>hb);have hk6:=HK4.out.trans hk5;clear c4;have hE:=HE.out;simp only[P12.has,hd,aS,if_false]at hE hr5 hk6;clear HE;have HE:=aa hE;clear hE;have hxW:=(hT5).held HX.out ab;have cW:(w5).cell? ⟨gx,35,none⟩=some v:=by simp[ak,hxW,hc]
  have lW:w.heap.size≤(w5).heap.size:=ah.size hT5;obtain⟨us,hown,hu2,hu3,hu4⟩:=HG.out.turn dJ hT5 ab;have HO:=aa hown;have HU:=aa hu4;have hlt:=hown.lt;have hlt0:=HG.out.lt;clear hown hu4
  go_wp2_with (first|(refine lw (hb5) Tryz.underlying92 ?_)|(at_builtin;refine Xo.bY B rfl _ _ 38 rfl 92 i0 _ 11 128 Tryz.underlying38 Hi.out Hz0.out Hz1.out Hz2.out rfl aq v xs.length us.flatten rfl (fC HO.out (ah.alloc (ah.refl br _) _) ab) (w5).heap.size 0 1 1 (yw false (ao kd op' vk vi vs tb nm (.slice pp pm pc))) rfl aq rfl (ey (w5) _ _ rfl) (dS au) ab (by rw[ag];omega) ?_;intro v' w7 ho' hg' hk';obtain⟨z,cz,rfl⟩:=eR ho' ab;have hx7:=(hg'.block gx (by rw[ag];have:=(ae.1 hxW).1;omega) (λe=>by have:=(hlt gx e.symm).1;omega)).trans ((ah.alloc (ah.refl br (w5)) _).held hxW ab);have c7:w7.cell? ⟨gx,35,none⟩=some v:=(by simp[ak,hx7,hc]);have f7:=aD w7 gx 35 _ _ hx7;have HO7:=aa ho';have HG7:=aa hg';have HK7:=aa hk';have HX7:=aa hx7;clear ho' hg' hk' hx7 hxW cW))
  go_end0
  have hE:=HE.out;subst hE;refine⟨rfl,⟨.slice (some ⟨z,0,none⟩) (xs.length+1) cz,?_,?_,?_⟩,Rd.setCell ((hr5).alloc _ |>.grown HG7.out (λb hb=>by have:=(hlt b hb).1;omega)) h1 _ _,hk6⟩
  ·rw[heap_setCell_same w7 gx 35 _ _ _ HX7.out]
  ·refine(dt.push dJ hu2 hu3 (λj x u hx hu=>dJ _ _ _ _ _ _ (HU.out j x u hx hu) (λb hb hl=>((al _ _).alloc (ai _) _:Below (w5).heap.size (w5) ((w5).alloc _)).block b hl) (λb hb _=>hb)) HG7.out HO7.out HK7.out rfl ⟨_,rfl,(he5).bg (λb hb hl=>((al _ _).alloc (ai _) _:Below (w5).heap.size (w5) ((w5).alloc _)).block b hl) (λb hb _=>⟨by have:=hb.1;omega,λe=>by have:=(hlt0 b e).2;have:=hb.1;omega⟩)⟩).set dJ h3 _ _
  ·exact((Kept.bB (ah.alloc hT5 _) aI).grown HG7.out (λb hb=>(hlt b hb).1)).setCell (.inr (.inl aI)) _ _
 ·have hT5:=HT4.out;have hb5:=HB4.out;have he5:=HE4.out;have hr5:=HR4.out;have hk6:=HK4.out;have hE:=HE.out;simp only[P12.has,hd,if_true]at hE hr5 hk6;clear HE;have HE:=aa hE;clear hE;have hxW:=(hT5).held HX.out ab;have cW:(W).cell? ⟨gx,35,none⟩=some v:=by simp[ak,hxW,hc]
  have lW:w.heap.size≤(W).heap.size:=ah.size hT5;obtain⟨us,hown,hu2,hu3,hu4⟩:=HG.out.turn dJ hT5 ab;have HO:=aa hown;have HU:=aa hu4;have hlt:=hown.lt;have hlt0:=HG.out.lt;clear hown hu4
  go_wp2_with (first|(refine lw (hb5) Tryz.underlying92 ?_)|(at_builtin;refine Xo.bY B rfl _ _ 38 rfl 92 i0 _ 11 128 Tryz.underlying38 Hi.out Hz0.out Hz1.out Hz2.out rfl aq v xs.length us.flatten rfl (fC HO.out (ah.alloc (ah.refl br _) _) ab) (W).heap.size 0 1 1 (yw true (ao kd op' vk vi vs tb nm (.slice pp pm pc))) rfl aq rfl (ey (W) _ _ rfl) (dS au) ab (by rw[ag];omega) ?_;intro v' w7 ho' hg' hk';obtain⟨z,cz,rfl⟩:=eR ho' ab;have hx7:=(hg'.block gx (by rw[ag];have:=(ae.1 hxW).1;omega) (λe=>by have:=(hlt gx e.symm).1;omega)).trans ((ah.alloc (ah.refl br (W)) _).held hxW ab);have c7:w7.cell? ⟨gx,35,none⟩=some v:=(by simp[ak,hx7,hc]);have f7:=aD w7 gx 35 _ _ hx7;have HO7:=aa ho';have HG7:=aa hg';have HK7:=aa hk';have HX7:=aa hx7;clear ho' hg' hk' hx7 hxW cW))
  go_end0
  have hE:=HE.out;subst hE;refine⟨rfl,⟨.slice (some ⟨z,0,none⟩) (xs.length+1) cz,?_,?_,?_⟩,Rd.setCell ((hr5).alloc _ |>.grown HG7.out (λb hb=>by have:=(hlt b hb).1;omega)) h1 _ _,hk6⟩
  ·rw[heap_setCell_same w7 gx 35 _ _ _ HX7.out]
  ·refine(dt.push dJ hu2 hu3 (λj x u hx hu=>dJ _ _ _ _ _ _ (HU.out j x u hx hu) (λb hb hl=>((al _ _).alloc (ai _) _:Below (W).heap.size (W) ((W).alloc _)).block b hl) (λb hb _=>hb)) HG7.out HO7.out HK7.out rfl ⟨_,rfl,(he5).bg (λb hb hl=>((al _ _).alloc (ai _) _:Below (W).heap.size (W) ((W).alloc _)).block b hl) (λb hb _=>⟨by have:=hb.1;omega,λe=>by have:=(hlt0 b e).2;have:=hb.1;omega⟩)⟩).set dJ h3 _ _
  ·exact((Kept.bB (ah.alloc hT5 _) aI).grown HG7.out (λb hb=>(hlt b hb).1)).setCell (.inr (.inl aI)) _ _
theorem CY(br gx grb:Nat)(mk:Value->Array Value)(hmk:∀v,(mk v)[35]?=some v)(hmk2:∀v v',(mk v).setIfInBounds 35 v'=mk v')(r:P12.R)(w:World)(h:Rd br r w)(hgr:w.heap[grb]?=some (.cells #[rp br] 67))(hgo:w.heap[gx]?=some (.cells (mk aj) 40))(h1:br<gx)(h2:br<grb)(hne:grb≠gx):
  Calls af 138 #[rp br,.func (.func 151) #[] #[rp grb,rp gx]] w
   (dI br r (λxs w'=>∃v,w'.heap[gx]?=some (.cells (mk v) 40)/\aE (λb=>w.heap.size<b) w' 11 (se (λb=>w.heap.size<b) w') xs v/\0<xs.length/\Kept w.heap.size [br,gx] w w') (Kept w.heap.size [br,gx] w) (P12.exprs P12.fO r)):=by
 have hlg:=(ae.1 hgo).1;have hlr:=(ae.1 hgr).1;unfold P12.exprs;refine zo br r w _ _ _ _ (kP br 16 gx 40 92 11 mk se dJ aq r w _ (rp br) (rp grb) (rp gx) 145 151 P12.dV P12.fO aq h hgo h1 (.inl rfl) tO xf (λr W hr _=>pC br r W hr) (λxs v r W hl hr hb hg hk hlt=>?_));refine(vS br gx grb (w.heap.size+1) (mk v) v xs r W hr hb (hmk v) (hk.held hgr hlr (by simp;omega)) hg h1 h2 ab ab ab hl hne).mono ?_;intro e w' hp;unfold dI at hp ⊢;split at hp
 ·obtain⟨p1,⟨v',p2,p3,p4⟩,p5,p6⟩:=hp;exact⟨p1,⟨v',by rw[p2,hmk2],p3,p4⟩,p5,p6⟩
 ·exact⟨hp.1,Kept.bB hp.2 aI⟩
end Go.Proofs.YtkpmclddjkebeaaGreatDoor
namespace P12
def qU(s:T×T)(r:R):Except Er ((List (T×T)×E)×R):=if isT [74,79,73,78] r then(do
   let(s2,r) ← source (ax r)
   let r ← bL [79,78] r
   let(e,r) ← expr r
   return (([s,s2],e),r))else .ok (([s],E.none),r)
def oA(r:R):Except Er (List E×R):=if isT [71,82,79,85,80] r then(do
   let r ← bL [66,89] (ax r)
   eJ 16 named column r.l.length 0 r)else .ok ([],r)
def om(r:R):Except Er (List (E×Bool)×R):=if isT [79,82,68,69,82] r then(do
   let r ← bL [66,89] (ax r)
   exprs fO r)else .ok ([],r)
def ox(r:R):Except Er (Int×R):=if isT [76,73,77,73,84] r then(if(nxt (ax r)).kind≠3 then bU 120 (ax r)else do
   let(n,r) ← int 9223372036854775807 (ax r)
   return ((n:Int),r))else .ok (-1,r)
theorem JB{α β:Type}(B:α)(F:α->Except Er β):cG (.ok B) F=F B:=rfl
theorem IC{α β:Type}{c:Prop}[Decidable c](A:Except Er α)(B:α)(F:α->Except Er β):cG (if c then A else .ok B) F=if c then cG A F else F B:=by
 split<;>rfl
theorem Av(r:R):ga r=(do
 let(items,r) ← eJ 16 (λr=>isT [42] r||dV r) item r.l.length 0 r
 let r ← bL [70,82,79,77] r
 let(s,r) ← source r
 let((frm,join),r) ← qU s r
 let(w,r) ← wher r
 let(group,r) ← oA r
 let(order,r) ← om r
 let(limit,r) ← ox r
 return ({ made 8 with items:=items,frm:=frm,join:=join,wher:=w,group:=group,order:=order,limit:=limit },r)):=by
 simp only[ga,qU,oA,om,ox,bind,pure,dz,IC,JB]
theorem uR{r r1 r2:R}{a b:T}(h:name r = .ok (a,r1))(k:maybe r1 = .ok (b,r2)):source r = .ok ((a,b),r2):=by
 simp only[source,bind,cG,pure,dz,h,k]
theorem xX{r:R}{e:Er}(h:name r = .error e):source r = .error e:=by
 simp only[source,bind,cG,pure,dz,h]
theorem xW{r r1:R}{a:T}{e:Er}(h:name r = .ok (a,r1))(k:maybe r1 = .error e):source r = .error e:=by
 simp only[source,bind,cG,pure,dz,h,k]
end P12
namespace Go.Proofs.YtkpmclddjkebeaaGreatDoor
open Go.RowKit
theorem vy{m i j:Nat}{p q:World->Prop}{r:Xk.fc}{w:World}(h:Xk.cd m ((i,p)::(j,q)::r) w)(hi:m.testBit i=true)(hj:m.testBit j=true):p w/\q w:=by
 unfold Xk.cd at h;rw[if_pos hi]at h;obtain⟨h1,h2⟩:=h;unfold Xk.cd at h2;rw[if_pos hj]at h2;exact⟨h1,h2.1⟩
def GI(r:P12.R)(u:Value)(_:World):Prop:=∃a r1,P12.name r = .ok (a,r1)/\u=bs a
def GJ(r:P12.R)(u:Value)(_:World):Prop:=∃a r1 b r2,P12.name r = .ok (a,r1)/\P12.maybe r1 = .ok (b,r2)/\u=bs b
def Km(r:P12.R)(u:Value)(_:World):Prop:=∃x r2,P12.source r = .ok (x,r2)/\u = .agg #[bs x.1,bs x.2]
def AW(r:P12.R)(B:Nat)(u:Value)(W:World):Prop:=∃x r2 g,P12.source r = .ok (x,r2)/\u = .slice (some ⟨g,0,none⟩) 1 1/\B≤g/\W.heap[g]?=some (.cells #[bs x.1,bs x.2] 90)
def pY(br:Nat)(r:P12.R)(W:World):Prop:=∃a r1,P12.name r = .ok (a,r1)/\Rd br r1 W/\P12.bW r r1
def rF(br:Nat)(r:P12.R)(W:World):Prop:=∃x r2,P12.source r = .ok (x,r2)/\Rd br r2 W/\P12.bW r r2
def GH(br:Nat)(r:P12.R)(w0:World)(ch:List PanicEntry)(W:World):Prop:=∃er,P12.source r = .error er/\fU ch=bq er/\ah br w0 W
theorem pY.ext{br:Nat}{r:P12.R}:∀w w',Xk.Ext w w'->pY br r w->pY br r w':=λ_ _ hx ⟨a,r1,h1,h2,h3⟩=>⟨a,r1,h1,h2.ext hx,h3⟩
theorem rF.ext{br:Nat}{r:P12.R}:∀w w',Xk.Ext w w'->rF br r w->rF br r w':=λ_ _ hx ⟨a,r1,h1,h2,h3⟩=>⟨a,r1,h1,h2.ext hx,h3⟩
theorem AW.turn{br:Nat}{r:P12.R}{B:Nat}(hB:br<B):∀u W W',ah br W W'->AW r B u W->AW r B u W':=by
 rintro u W W' ht ⟨x,r2,g,h1,rfl,hg,hc⟩;exact⟨x,r2,g,h1,rfl,hg,ht.held hc ab⟩
theorem vj(br:Nat)(r:P12.R)(w0 W:World)(h:Rd br r W)(ht:ah br w0 W):Calls af 131 #[rp br] W (Xh.kR (ah br) (GH br r w0) (pY br r) W none (GI r)):=by
 refine(dG br r W h).mono ?_;intro e w2 h;rcases hn:P12.name r with er|⟨a,r1⟩
 ·rw[hn]at h;obtain⟨rfl,h2⟩:=h;exact .inr ⟨_,rfl,er,P12.xX hn,rfl,ah.trans ht h2⟩
 ·rw[hn]at h;obtain⟨v,rfl,rfl,h2,h3,h4⟩:=h;exact .inl ⟨_,rfl,h2,⟨a,r1,hn,h3,h4⟩,⟨a,r1,hn,rfl⟩,λb hb=>by cases hb⟩
theorem tr(br:Nat)(r:P12.R)(w0 W:World)(h:pY br r W)(ht:ah br w0 W):Calls af 148 #[rp br] W (Xh.kR (ah br) (GH br r w0) (rF br r) W none (GJ r)):=by
 obtain⟨a,r1,hn,hr,hk⟩:=h;refine(Ds br r1 W hr).mono ?_;intro e w2 h;rcases hm:P12.maybe r1 with er|⟨b,r2⟩
 ·rw[hm]at h;obtain⟨rfl,h2⟩:=h;exact .inr ⟨_,rfl,er,P12.xW hn hm,rfl,ah.trans ht h2⟩
 ·rw[hm]at h;obtain⟨v,rfl,rfl,h2,h3,h4⟩:=h;exact .inl ⟨_,rfl,h2,⟨_,r2,P12.uR hn hm,h3,hk.trans h4⟩,⟨a,r1,b,r2,hn,hm,rfl⟩,λb hb=>by cases hb⟩
theorem BZ{r:P12.R}{u v:Value}{w:World}(h:GJ r v w/\GI r u w):∃a b r2,u=bs a/\v=bs b/\P12.source r = .ok ((a,b),r2):=by
 obtain⟨⟨a,r1,b,r2,h1,h2,rfl⟩,⟨a',r1',h3,rfl⟩⟩:=h;rw[h1]at h3
 cases h3;exact⟨a,b,r2,rfl,rfl,P12.uR h1 h2⟩
theorem Tryz.Ch:(af.info? 90).map (λi=>(i.zero,i.size,i.bytes))=some (some (.agg #[bs [],bs []]),2,32):=au
theorem Ia{w:World}{B g:Nat}{e:TypeId}{l:List Value}(h:w.heap[g]?=some (.cells l.toArray e))(hB:B≤g):w.ownsRow B e l.length (.slice (some ⟨g,0,none⟩) 1 1) 1 l:=by
 refine⟨by simp,.inr ⟨g,1,l.toArray,rfl,hB,h,by simp,by decide,by simp,by simp⟩⟩
theorem GL{w:World}{g:Nat}{x:P12.T×P12.T}{S:Nat->Prop}(h:w.heap[g]?=some (.cells #[bs x.1,bs x.2] 90))(hS:S g):aE S w 2 sM [x] (.slice (some ⟨g,0,none⟩) 1 1):=by
 refine .inr ⟨g,1,[[bs x.1,bs x.2]],rfl,hS,by simp,by simp,rfl,by simp,by decide,λj v hj=>?_,λj y u hy hu=>?_⟩
 ·have hj' : #[bs x.1,bs x.2][j]?=some v:=by simpa using hj
  unfold ak;rw[h];simpa using hj'
 ·match j,hy,hu with
  | 0,hy,hu=>cases hy;cases hu;rfl
theorem EZ{w:World}{B:Nat}{v:Value}{l:List (P12.T×P12.T)}{S:Nat->Prop}(hl:0<l.length)(h:w.ownsRow B 90 2 v l.length (l.map λx => [bs x.1,bs x.2]).flatten)(hS:∀b,v.ownBlock=some b->S b):aE S w 2 sM l v:=by
 rcases h.2 with⟨-,h0⟩|⟨g,cap,cur,rfl,h5,h6,h7,h8,h9,h10⟩
 ·omega
 ·refine .inr ⟨g,cap,l.map λx => [bs x.1,bs x.2],rfl,hS g rfl,hl,h7,by simp,λu hu=>(by obtain⟨y,-,rfl⟩:=List.mem_map.1 hu;rfl),by decide,λj v hj=>?_,λj x u hx hu=>?_⟩
  ·rw[← h10]at hj
   have hj':cur.toList[j]?=some v:=by
    rw[di]at hj;split at hj
    ·exact hj
    ·cases hj
   simp[ak,h6];simpa using hj'
  ·rw[jA,hx]at hu
   cases hu;rfl
section
variable {br gb gz gx : Nat} {w0 : World} {r0 : P12.R} {K : (Nat → Prop) → World → Prop} {r r' : P12.R} {c c' : Array Value} {w w' : World}
theorem Fq.drop(F:Fq br gb gz gx w0 r0 K r c w):Fq br gb gz gx w0 r0 (λ_ _=>True) r c w:=by
 obtain⟨h1,h2,h3,h4,h5,h6,h7,h8,h9,h10,h11,h12,h13,h14⟩:=F;exact⟨h1,h2,h3,h4,h5,h6,λ_ _ _ _ _ _ _=>trivial,trivial,h9,h10,h11,h12,h13,h14⟩
theorem Fq.grown(F:Fq br gb gz gx w0 r0 (λ_ _=>True) r c w){k:Option Nat}(hg:w.grownBy w' k)(hk:∀b,k=some b->gx<b):Fq br gb gz gx w0 r0 (λ_ _=>True) r c w':=by
 have hsz:=F.size;obtain⟨h1,h2,h3,h4,h5,h6,h7,h8,h9,h10,h11,h12,h13,h14⟩:=F;have hb:∀b,b≤gx->b<w.heap.size->w'.heap[b]?=w.heap[b]?:=λb hb hl=>hg.block b hl (λe=>by have:=hk b e.symm;omega);refine⟨(hb _ ab ab).trans h1,(hb _ ab ab).trans h2,(hb _ ab ab).trans h3,?_,h5.grown hg (λb e=>by have:=hk b e;omega),h6,h7,h8,h9,h10,h11,h12,h13,h14⟩;obtain⟨t1,t2,t3,t4,t5⟩:=h4;refine⟨hg.os.trans t1,hg.tape.trans t2,hg.output.trans t3,bI t4 hg.size,λb hb'=>?_⟩;rw[hb b ab ab];exact t5 b hb'
end
abbrev mA(K A:(Nat->Prop)->World->Prop):(Nat->Prop)->World->Prop:=λS w=>K S w/\A S w
abbrev iT(items frm:Value)(jn wh:List Value)(grp ord:Value)(lim:Int):Array Value:=(cT 8 [] aj aj aj aj [] [] false aj aj aj wh items frm jn grp ord lim).toArray
abbrev kI(items:List (Bool×P12.E×P12.T))(v:Value):(Nat->Prop)->World->Prop:=mA (λ_ _=>True) (λS w=>aE S w 12 (mq S w) items v)
abbrev kJ(items:List (Bool×P12.E×P12.T))(v:Value)(frm:List (P12.T×P12.T))(vf:Value)(je:P12.E)(jl:List Value):(Nat->Prop)->World->Prop:=mA (mA (kI items v) (λS w=>aE S w 2 sM frm vf)) (λS w=>aC S w je jl)
theorem yb(br:Nat)(r:P12.R)(w:World)(h:Rd br r w):Calls af 74 #[rp br] w (Got br w r (jC w) (P12.ga r)):=by
 have HR:=aa h;have lr:=h.lt;clear h;generalize hres:P12.ga r=res;have hE:=hres;rw[P12.Av]at hE;simp only[bind,cG,pure,dz]at hE;have HE:=aa hE;clear hE hres;have HM:=aa λW=>iN 8 W;rw[if_pos rfl]at HM;have hbs:∀ (a b:P12.T) (W:World),(cR 90 #[(0,bs a),(1,bs b)]).run af W = .ok (.agg #[bs a,bs b]) W:=λa b W=>by kernel_rfl
 obtain⟨i0,hi,hz0,hz1,hz2⟩:=cP Tryz.Ch;have Hi:=aa hi;have Hz0:=aa hz0;have Hz1:=aa hz1;have Hz2:=aa hz2;clear hi hz0 hz1 hz2;go_enter Tryz.func74,Tryz.ntmps74;go_wp2_with fail;go_at_call 76;refine(HM.out _).mono ?_;rintro e w1 ⟨rfl,hx1⟩;go_wp2_with ((refine pw (aw w1 _) ?_;intro w2 hp2);have F2:=(Fq.start HR.out hx1 hp2).cells (c':=iT aj aj noE noE aj aj (-1)) rfl;have c2:=F2.jf);have hbx:=F2.bx;have hzx:=F2.zx;clear hp2 hx1;go_at_call 135;refine(C1 br w1.heap.size w.heap.size (λv=>iT v aj noE noE aj aj (-1)) (λ_=>rfl) (λ_ _=>rfl) r w2 F2.rd F2.box F2.blk ab ab ab).mono ?_;intro e w3 h
 cases hn:P12.eJ 16 (λr=>P12.isT [42] r||P12.dV r) P12.item r.l.length 0 r
 case error er=>exact ste F2.mo
 rename_i p;rw[hn]at h HE;dsimp only at HE;obtain⟨items,r3⟩:=p;obtain⟨rfl,⟨v,hb,hs,hn3,hkt⟩,hr,hk⟩:=h;obtain⟨q1,q2,q3,rfl⟩:=ee hs;have F3:=(F2.row hkt hb hr hk).add (bF cJ 12 items (.slice q1 q2 q3)) (bF cJ 12 items (.slice q1 q2 q3) _ _ _ _ hs (λ_ _ _=>rfl) (λb hb _=>by have:=F2.size;omega));have c3:=F3.jf;have hW3:=F3.size;clear hkt hb hs hr hk c2 F2;go_wp2_with fail;go_at_call 132;refine(dN br [70,82,79,77] r3 _ _ (F3.alloc _).rd (eM _ _ _ rfl) ab).mono ?_;intro e w4 h
 cases hn:P12.bL [70,82,79,77] r3
 case error er=>exact ste (F3.alloc _).after
 rename_i p;rw[hn]at h HE;dsimp only at HE;rename P12.R=>r4
 obtain⟨rfl,ht,hr,hk⟩:=h;have F4:=(F3.alloc _).step ht hr hk;have c4:=F4.jf;have hW4:=F4.size;clear ht hr hk c3 F3 hW3;have F4H:=aa F4;go_wp2
 refine Xh.bm (E:=ah br) (Xe.bS _) (GH br r4 w) 1 3 (pY br r4) (rF br r4) 6 (λ_=>none) (λ_ _ h=>by cases h) (λ_ _ _ _ h=>by cases h) [(1,GI r4),(3,GJ r4),(4,Km r4),(5,AW r4 w4.heap.size)] au au (Xh.cg ((by
   intro y hy;simp only[aJ,aF,or_false]at hy;rcases hy with rfl|rfl|rfl|rfl
   ·exact λ_ _ _ _ h=>h
   ·exact λ_ _ _ _ h=>h
   ·exact λ_ _ _ _ h=>h
   ·exact AW.turn ab))) ((λch a w' hd ⟨er,h1,h2,h3⟩=>by
   have hE:=HE.out;rw[h1]at hE;dsimp only at hE;subst hE;exact⟨hd,h2,h3⟩)) pY.ext rF.ext ⟨by decide,by decide,by decide,by kernel_rfl,λo h=>(by cases h;rfl),λo h=>(by cases h;rfl),by simp[Xk.eg],by simp[Xk.eg]⟩ ?_
 simp only[List.take_succ_cons,List.take_zero,List.drop_succ_cons,List.drop_zero];(refine Xh.aX (Xk.aQ az) az (λK hK=>?_);apply aU;refine⟨λW hx hp=>?_,?_⟩;(have c:=hx.cell (show w4.drew.cell? ⟨w.heap.size,0,none⟩=some (rp br)from c4) ab;go_simp;exact⟨rfl,rfl⟩);(go_simp;refine hK _ ?_;clear hK K))
 (refine Xh.uY az az rfl (λW hx hp=>?_) (λu K hK=>?_);(go_simp;(refine(vj br r4 w _ (F4H.out.rd.drew.ext hx) (ah.trans (ah.drew F4H.out.turn) (ah.aR hx))).mono ?_;exact λ_ _ h=>h));(go_simp;refine hK _ ?_;clear hK K))
 (refine Xh.aX (Xk.aQ az) az (λK hK=>?_);apply aU;refine⟨λW hx hp=>?_,?_⟩;(have c:=hx.cell (show w4.drew.cell? ⟨w.heap.size,0,none⟩=some (rp br)from c4) ab;go_simp;exact⟨rfl,rfl⟩);(go_simp;refine hK _ ?_;clear hK K))
 (refine Xh.uX az az ⟨by decide,rfl⟩ (λW hx hs hp=>?_) (λu2 K hK=>?_);(go_simp;(refine(tr br r4 w _ hs (ah.trans (ah.drew F4H.out.turn) hx)).mono ?_;exact λ_ _ h=>h));(go_simp;refine hK _ ?_;clear hK K))
 (refine Xh.bc az az aq (λW hx hp=>?_) (λu3 K hK=>?_);((obtain⟨a,b,r5,rfl,rfl,hsrc⟩:=BZ (vy hp au au));go_simp;exact⟨al _ _,⟨_,_,hsrc,rfl⟩,λb hb=>by cases hb⟩);(go_simp;refine hK _ ?_;clear hK K))
 (refine Xh.bc az az aq (λW hx hp=>?_) (λu4 K hK=>?_);((obtain⟨x,r5,hsrc,rfl⟩:=Xe.bG hp au);go_simp;exact⟨(al _ _).alloc (ai _) _,⟨x,r5,W.heap.size,hsrc,rfl,by simpa using hx.size,aw W _⟩,λb hb=>by cases hb;exact⟨.inr (ai _),by simp⟩⟩);(go_simp;refine hK _ ?_;clear hK K))
 refine Xh.bD (λW hx hs hp hg=>?_);obtain⟨⟨x,r5,g,hsrc,rfl,hge,hgc⟩,-⟩:=hp;obtain⟨x',r5',hsrc',hr5,hk5⟩:=hs;rw[hsrc]at hsrc'
 cases hsrc';have F5:=F4.step ((ah.drew (ah.refl _ _)).trans hx) hr5 hk5;have hI5:=F5.stab _ (λb=>w1.heap.size<b/\b<w4.heap.size) _ W (F4.stab _ (λb=>w1.heap.size<b/\b<w4.heap.size) _ w4 F4.piece (λ_ _ _=>rfl) (λb h1 h2=>⟨h1,h2⟩)) (λb hb hl=>((ah.drew (ah.refl _ _)).trans hx:ah br w4 W).block hl ab) (λb hb _=>hb);have c5:=F5.cell (o:=23) rfl;have f5:=F5.free 23;have hW5:=F5.size;have hlW:=ah.size ((ah.drew (ah.refl _ _)).trans hx:ah br w4 W);have hE:=HE.out;rw[hsrc]at hE;clear HE;dsimp only at hE;have HE:=aa hE;clear hE hx hg c4 F4 F4H hsrc hr5 hk5
 have F6:=(F5.set 23 (.slice (some ⟨g,0,none⟩) 1 1)).cells (c':=iT (.slice q1 q2 q3) (.slice (some ⟨g,0,none⟩) 1 1) noE noE aj aj (-1)) rfl;have c6:=F6.jf;have hrst:∀b,b≠w1.heap.size->(W.setCell ⟨w1.heap.size,23,none⟩ (.slice (some ⟨g,0,none⟩) 1 1)).heap[b]?=W.heap[b]?:=λb hb=>an W ⟨w1.heap.size,23,none⟩ b _ (λe=>hb (by simpa using e));have hg6:=(hrst g ab).trans hgc;have hI6:=F5.stab _ (λb=>w1.heap.size<b/\b<w4.heap.size) _ _ hI5 (λb hb hl=>hrst b ab) (λb hb _=>hb);have HI6:=aa hI6;have HG6:=aa hg6;have hst:=F5.stab
 have hsz6:(W.setCell ⟨w1.heap.size,23,none⟩ (.slice (some ⟨g,0,none⟩) 1 1)).heap.size=W.heap.size:=aM _ _ _;clear hrst hg6 hI6 hI5 F5 hgc;go_wp2_with fail;go_at_call 20;refine(jm br r5 [74,79,73,78] _ F6.rd).mono ?_;rintro e w7 ⟨rfl,ht,hr,hk⟩;clear c6 c5 f5;have F7:=F6.step ht hr hk;have hW7:=F7.size;have hlg:g<w7.heap.size:=(ae.1 (ht.held HG6.out ab)).1;have hl7:=ht.size;rw[hsz6]at hl7;have HI7:=aa (hst _ (λb=>w1.heap.size<b/\b<w4.heap.size) _ _ HI6.out (λb hb hl=>ht.block hl ab) (λb hb _=>hb));have HG7:=aa (ht.held HG6.out ab);clear ht hr hk HI6 HG6 F6 hsz6;go_upto_if 20 with fail
 go_cut []from 4 (λw'=>∃ (frm:List (P12.T×P12.T)) (je:P12.E) (r':P12.R) (vf:Value) (jl:List Value),P12.qU x r5 = .ok ((frm,je),r')/\
  Fq br w.heap.size (w.heap.size+1) w1.heap.size w r (kJ items (.slice q1 q2 q3) frm vf je jl) r' (iT (.slice q1 q2 q3) vf jl noE aj aj (-1)) w')
 case first=>
  cases hj:P12.isT [74,79,73,78] r5
  ·simp only[P12.has,hj,aS,if_false]at F7;go_wp2_with fail;go_meet
   case rel=>
    refine⟨[x],.none,r5,.slice (some ⟨g,0,none⟩) 1 1,noE,by simp[P12.qU,hj],?_⟩;exact(F7.add (kN [x] _) (GL HG7.out ab)).add (dE .none noE) rfl
  ·simp only[P12.has,hj,if_true]at F7;have hE:=HE.out;generalize hJ:P12.qU x r5=resJ at hE;have H0:=aa hE;have HJ:=aa hJ;clear hE HE;simp only[P12.qU,hj]at hJ;try simp only[if_true,aS,if_false]at hJ
   try simp only[bind,cG,pure,dz]at hJ
   have HE:=aa hJ;clear hJ;have c7:=F7.jf;have d7:=F7.cell (o:=23) rfl;have C7:=aa c7;have D7:=aa d7;have F7H:=aa F7;go_wp2
   refine Xh.bm (E:=ah br) (Xe.bS _) (GH br (P12.ax r5) w) 3 5 (pY br (P12.ax r5)) (rF br (P12.ax r5)) 8 (λ_=>none) (λ_ _ h=>by cases h) (λ_ _ _ _ h=>by cases h) [(3,GI (P12.ax r5)),(5,GJ (P12.ax r5)),(6,Km (P12.ax r5)),(7,AW (P12.ax r5) w7.heap.size)] au au (Xh.cg ((by
       intro y hy;simp only[aJ,aF,or_false]at hy;rcases hy with rfl|rfl|rfl|rfl
       ·exact λ_ _ _ _ h=>h
       ·exact λ_ _ _ _ h=>h
       ·exact λ_ _ _ _ h=>h
       ·exact AW.turn ab))) ((λch a w' hd ⟨er,h1,h2,h3⟩=>by
       have hE:=HE.out;rw[h1]at hE;dsimp only at hE;subst hE;have h0:=H0.out;dsimp only at h0;subst h0;exact⟨hd,h2,h3⟩)) pY.ext rF.ext ⟨by decide,by decide,by decide,by kernel_rfl,λo h=>(by cases h;rfl),λo h=>(by cases h;rfl),by simp[Xk.eg],by simp[Xk.eg]⟩ ?_
   simp only[aG,aY,aL,bd];(refine Xh.aX (Xk.aQ az) az (λK hK=>?_);apply aU;refine⟨λW hx hp=>?_,?_⟩;(skip;go_simp;exact⟨rfl,rfl⟩);(go_simp;refine hK _ ?_;clear hK K))
   (refine Xh.aX (Xk.aQ az) az (λK hK=>?_);apply aU;refine⟨λW hx hp=>?_,?_⟩;(have c:=hx.cell (show w7.drew.cell? ⟨w1.heap.size,23,none⟩=some (.slice (some ⟨g,0,none⟩) 1 1)from D7.out) ab;go_simp;exact⟨rfl,rfl⟩);(go_simp;refine hK _ ?_;clear hK K))
   (refine Xh.aX (Xk.aQ az) az (λK hK=>?_);apply aU;refine⟨λW hx hp=>?_,?_⟩;(have c:=hx.cell (show w7.drew.cell? ⟨w.heap.size,0,none⟩=some (rp br)from C7.out) ab;go_simp;exact⟨rfl,rfl⟩);(go_simp;refine hK _ ?_;clear hK K))
   (refine Xh.uY az az rfl (λW hx hp=>?_) (λu K hK=>?_);(go_simp;(refine(vj br (P12.ax r5) w _ (F7H.out.rd.drew.ext hx) (ah.trans (ah.drew F7H.out.turn) (ah.aR hx))).mono ?_;exact λ_ _ h=>h));(go_simp;refine hK _ ?_;clear hK K))
   (refine Xh.aX (Xk.aQ az) az (λK hK=>?_);apply aU;refine⟨λW hx hp=>?_,?_⟩;(have c:=hx.cell (show w7.drew.cell? ⟨w.heap.size,0,none⟩=some (rp br)from C7.out) ab;go_simp;exact⟨rfl,rfl⟩);(go_simp;refine hK _ ?_;clear hK K))
   (refine Xh.uX az az ⟨by decide,rfl⟩ (λW hx hs hp=>?_) (λu2 K hK=>?_);(go_simp;(refine(tr br (P12.ax r5) w _ hs (ah.trans (ah.drew F7H.out.turn) hx)).mono ?_;exact λ_ _ h=>h));(go_simp;refine hK _ ?_;clear hK K))
   (refine Xh.bc az az aq (λW hx hp=>?_) (λu3 K hK=>?_);((obtain⟨a,b,r8,rfl,rfl,hsrc⟩:=BZ (vy hp au au));go_simp;exact⟨al _ _,⟨_,_,hsrc,rfl⟩,λb hb=>by cases hb⟩);(go_simp;refine hK _ ?_;clear hK K))
   (refine Xh.bc az az aq (λW hx hp=>?_) (λu4 K hK=>?_);((obtain⟨y,r8,hsrc,rfl⟩:=Xe.bG hp au);go_simp;exact⟨(al _ _).alloc (ai _) _,⟨y,r8,W.heap.size,hsrc,rfl,by simpa using hx.size,aw W _⟩,λb hb=>by cases hb;exact⟨.inr (ai _),by simp⟩⟩);(go_simp;refine hK _ ?_;clear hK K))
   refine Xh.bD (λW2 hx hs hp hg=>?_);obtain⟨⟨y,r8,g2,hsrc,rfl,hge2,hgc2⟩,-⟩:=hp;obtain⟨y',r8',hsrc',hr8,hk8⟩:=hs;rw[hsrc]at hsrc'
   cases hsrc';have hT8:ah br w7 W2:=(ah.drew (ah.refl _ _)).trans hx;have F8:=F7.drop.step hT8 hr8 hk8;have hI8:=hst _ (λb=>w1.heap.size<b/\b<w4.heap.size) _ _ HI7.out (λb hb hl=>hT8.block hl ab) (λb hb _=>hb);have hg8:=hT8.held HG7.out ab;have hW8:=F8.size;have hl8:=hT8.size;have hE:=HE.out;rw[hsrc]at hE;clear HE;dsimp only at hE;have HE:=aa hE;clear hE hx hg hsrc hr8 hk8 c7 C7 F7H F7 hT8 d7 D7 HI7 HG7
   go_wp2_with (at_builtin;go_loud (refine Xo.bY (w1.heap.size+1) rfl _ _ 37 rfl 90 i0 _ 2 32 Tryz.underlying37 Hi.out Hz0.out Hz1.out Hz2.out rfl aq (.slice (some ⟨g,0,none⟩) 1 1) 1 [bs x.1,bs x.2] rfl (Ia (l := [bs x.1,bs x.2]) hg8 ab) g2 0 1 1 [bs y.1,bs y.2] rfl aq rfl (jJ hgc2) (dS au) ab ab ?_;intro v' w9 ho' hg' hk';obtain⟨z,cz,rfl⟩:=eR ho' ab;have F9:=F8.grown hg' (λb hb=>by(have e2:g=b:=(by simpa[gK]using hb));omega);have c9:=F9.cell (o:=23) rfl;have f9:=F9.free 23;have HI9:=aa (hst _ (λb=>w1.heap.size<b/\b<w4.heap.size) _ _ hI8 (λb hb hl=>hg'.block b hl (λe=>by(have e2:b=g:=(by simpa[gK]using e));omega)) (λb hb _=>hb));have HO9:=aa (EZ (l := [x,y]) (S:=λb=>w1.heap.size<b) aI ho' (λb hb=>by have:=(ho'.lt b hb).1;omega));have F10:=(F9.set 23 (.slice (some ⟨z,0,none⟩) 2 cz)).cells (c':=iT (.slice q1 q2 q3) (.slice (some ⟨z,0,none⟩) 2 cz) noE noE aj aj (-1)) rfl;have c10:=F10.jf;clear ho' hg' hk' hI8 hg8 hgc2 F8))
   have hrst:∀b,b≠w1.heap.size->(w9.setCell ⟨w1.heap.size,23,none⟩ (.slice (some ⟨z,0,none⟩) 2 cz)).heap[b]?=w9.heap[b]?:=λb hb=>an w9 ⟨w1.heap.size,23,none⟩ b _ (λe=>hb (by simpa using e));have hI10:=hst _ (λb=>w1.heap.size<b) _ _ HI9.out (λb hb hl=>hrst b ab) (λb hb _=>hb.1);have hO10:=kN [x,y] (.slice (some ⟨z,0,none⟩) 2 cz) _ (λb=>w1.heap.size<b) _ _ HO9.out (λb hb hl=>hrst b ab) (λb hb _=>hb)
   have F11:Fq br w.heap.size (w.heap.size+1) w1.heap.size w r (mA (kI items (.slice q1 q2 q3)) (λS w=>aE S w 2 sM [x,y] (.slice (some ⟨z,0,none⟩) 2 cz))) r8 _ _:=((F10.add (bF cJ 12 items (.slice q1 q2 q3)) hI10.2).add (kN [x,y] _) hO10);have hW11:=F9.size;clear hrst hI10 hO10 HI9 HO9 c9 f9;go_at_call 132;refine(dN br [79,78] r8 _ _ (F11.alloc _).rd (eM _ _ _ (by rw[aM])) ab).mono ?_;intro e w12 h
   cases hn:P12.bL [79,78] r8
   case error er=>
    rw[hn]at h;have hE:=HE.out;rw[hn]at hE;try dsimp only at hE
    subst hE;have h0:=H0.out;try dsimp only at h0
    subst h0;obtain⟨rfl,ht⟩:=h;simp only[bq];go_wp2;exact⟨rfl,rfl,(F11.alloc _).after ht⟩
   rename_i p;rw[hn]at h;have hE:=HE.out;rw[hn]at hE;clear HE;try dsimp only at hE
   have HE:=aa hE;clear hE;rename P12.R=>r12
   obtain⟨rfl,ht,hr,hk⟩:=h;have F12:=(F11.alloc _).step ht hr hk;have c12:=F12.jf;clear ht hr hk c10 F11 F10 F9 hW11;go_wp2_with fail;go_at_call 140;refine(jr br _ _ F12.rd).mono ?_;intro e w13 h
   cases hn:P12.expr r12
   case error er=>
    rw[hn]at h;have hE:=HE.out;rw[hn]at hE;try dsimp only at hE
    subst hE;have h0:=H0.out;try dsimp only at h0
    subst h0;obtain⟨rfl,ht⟩:=h;simp only[bq];go_wp2;exact⟨rfl,rfl,F12.after ht⟩
   rename_i p;rw[hn]at h;have hE:=HE.out;rw[hn]at hE;clear HE;try dsimp only at hE
   have HE:=aa hE;clear hE;obtain⟨ex,r13⟩:=p;obtain⟨_,rfl,⟨l,rfl,he⟩,ht,hr,hk⟩:=h;obtain⟨kd,op',vk,vi,vs,tb,nm,pp,pm,pc,rfl⟩:=he.form;have F13:=(F12.step ht hr hk).add (dE ex _) (F12.up (dE ex _) he);have hb13:=F13.blk;clear ht hr hk he c12 F12;go_wp2_with ((refine aV rfl 35 _ _ rfl (w1.heap.size) (24) _ _ 40 rfl rfl (hb13) (aI) (au) (au) ?_;intro w14 hp14);have F14:=(F13.qM hp14).cells (c':=iT (.slice q1 q2 q3) (.slice (some ⟨z,0,none⟩) 2 cz) (ao kd op' vk vi vs tb nm (.slice pp pm pc)) noE aj aj (-1)) au);go_meet
   case rel=>
    exact⟨[x,y],ex,r13,.slice (some ⟨z,0,none⟩) 2 cz,ao kd op' vk vi vs tb nm (.slice pp pm pc),HJ.out.trans HE.out.symm,F14⟩
 case rest=>
  obtain⟨frm,je,r8,vf,jl,hj,F8⟩:=hcut;obtain⟨f1,f2,f3,rfl⟩:=ee F8.piece.1.2;obtain⟨jk,jo,j1,j2,j3,j4,j5,j6,j7,j8,rfl⟩:=F8.piece.2.form;have hE:=HE.out;rw[hj]at hE;clear HE hj;dsimp only at hE;have HE:=aa hE;have c8:=F8.jf;clear hE hst F7 HI7 HG7;go_wp2_with fail;go_at_call 143;refine(qG br _ _ F8.rd).mono ?_;intro e w9 h
  cases hn:P12.wher r8
  case error er=>exact ste F8.after
  rename_i p;rw[hn]at h HE;dsimp only at HE;obtain⟨we,r9⟩:=p;obtain⟨_,rfl,⟨l,rfl,he⟩,ht,hr,hk⟩:=h;obtain⟨kd,op',vk,vi,vs,tb,nm,pp,pm,pc,rfl⟩:=he.form;have F9:=(F8.step ht hr hk).add (dE we _) (F8.up (dE we _) he);have hb9:=F9.blk;clear ht hr hk he c8 F8;go_wp2_with ((refine aV rfl 35 _ _ rfl (w1.heap.size) (12) _ _ 40 rfl rfl (hb9) (aI) (au) (au) ?_;intro w10 hp10);have F10:=(F9.qM hp10).cells (c':=iT (.slice q1 q2 q3) (.slice f1 f2 f3) (ao jk jo j1 j2 j3 j4 j5 (.slice j6 j7 j8)) (ao kd op' vk vi vs tb nm (.slice pp pm pc)) aj aj (-1)) au;have c10:=F10.jf);go_at_call 20
  refine(jm br r9 [71,82,79,85,80] _ F10.rd).mono ?_;rintro e w11 ⟨rfl,ht,hr,hk⟩;have F11:=F10.step ht hr hk;clear ht hr hk F10 F9 hp10 hb9 c10;go_upto_if 41 with fail
  go_cut []from 4 (λw'=>∃ (gr:List P12.E) (r':P12.R) (vg:Value),P12.oA r9 = .ok (gr,r')/\
   Fq br w.heap.size (w.heap.size+1) w1.heap.size w r (mA (mA (kJ items (.slice q1 q2 q3) frm (.slice f1 f2 f3) je (ao jk jo j1 j2 j3 j4 j5 (.slice j6 j7 j8))) (λS w=>aC S w we (ao kd op' vk vi vs tb nm (.slice pp pm pc)))) (λS w=>aE S w 10 (dY S w) gr vg)) r' (iT (.slice q1 q2 q3) (.slice f1 f2 f3) (ao jk jo j1 j2 j3 j4 j5 (.slice j6 j7 j8)) (ao kd op' vk vi vs tb nm (.slice pp pm pc)) vg aj (-1)) w')
  case first=>
   cases hj:P12.isT [71,82,79,85,80] r9
   ·simp only[P12.has,hj,aS,if_false]at F11;go_wp2_with fail;go_meet
    case rel=>exact⟨[],r9,aj,by simp[P12.oA,hj],F11.add (bF bj 10 [] aj) (aE.nil _ _ _ _)⟩
   ·simp only[P12.has,hj,if_true]at F11;have hE:=HE.out;generalize hJ:P12.oA r9=resJ at hE;have H0:=aa hE;have HJ:=aa hJ;clear hE HE;simp only[P12.oA,hj]at hJ;try simp only[if_true,aS,if_false]at hJ
    try simp only[bind,cG,pure,dz]at hJ
    have HE:=aa hJ;clear hJ;have c11:=F11.jf;have hW11:=F11.size;go_wp2_with fail;go_at_call 132;refine(dN br [66,89] (P12.ax r9) _ _ (F11.alloc _).rd (eM _ _ _ rfl) ab).mono ?_;intro e w12 h
    cases hn:P12.bL [66,89] (P12.ax r9)
    case error er=>
     rw[hn]at h;have hE:=HE.out;rw[hn]at hE;try dsimp only at hE
     subst hE;have h0:=H0.out;try dsimp only at h0
     subst h0;obtain⟨rfl,ht⟩:=h;simp only[bq];go_wp2;exact⟨rfl,rfl,(F11.alloc _).after ht⟩
    rename_i p;rw[hn]at h;have hE:=HE.out;rw[hn]at hE;clear HE;try dsimp only at hE
    have HE:=aa hE;clear hE;rename P12.R=>r12
    obtain⟨rfl,ht,hr,hk⟩:=h;have F12:=(F11.alloc _).step ht hr hk;have c12:=F12.jf;clear ht hr hk c11 F11 hW11;go_wp2_with fail;go_at_call 135;refine(C2 br w1.heap.size w.heap.size (λv=>iT (.slice q1 q2 q3) (.slice f1 f2 f3) (ao jk jo j1 j2 j3 j4 j5 (.slice j6 j7 j8)) (ao kd op' vk vi vs tb nm (.slice pp pm pc)) v aj (-1)) (λ_=>rfl) (λ_ _=>rfl) r12 w12 F12.rd F12.box F12.blk ab ab ab).mono ?_;intro e w13 h
    cases hn:P12.eJ 16 P12.named P12.column r12.l.length 0 r12
    case error er=>
     rw[hn]at h;have hE:=HE.out;rw[hn]at hE;try dsimp only at hE
     subst hE;have h0:=H0.out;try dsimp only at h0
     subst h0;obtain⟨rfl,ht⟩:=h;simp only[bq];go_wp2;exact⟨rfl,rfl,F12.mo ht⟩
    rename_i p;rw[hn]at h;have hE:=HE.out;rw[hn]at hE;clear HE;try dsimp only at hE
    have HE:=aa hE;clear hE;obtain⟨gr,r13⟩:=p;obtain⟨rfl,⟨v,hb,hs,hn13,hkt⟩,hr,hk⟩:=h;have F13:=(F12.row hkt hb hr hk).add (bF bj 10 gr v) (bF bj 10 gr v _ _ _ _ hs (λ_ _ _=>rfl) (λb hb _=>by have:=F12.size;omega));clear hkt hb hs hr hk c12 F12;go_wp2_with fail;go_meet
    case rel=>exact⟨gr,r13,v,HJ.out.trans HE.out.symm,F13⟩
  case rest=>
   obtain⟨gr,r14,vg,hj,F14⟩:=hcut;obtain⟨g1,g2,g3,rfl⟩:=ee F14.piece.2;have hE:=HE.out;rw[hj]at hE;clear HE hj;dsimp only at hE;have HE:=aa hE;have c14:=F14.jf;clear hE F11;go_wp2_with fail;go_at_call 20;refine(jm br r14 [79,82,68,69,82] _ F14.rd).mono ?_;rintro e w15 ⟨rfl,ht,hr,hk⟩;have F15:=F14.step ht hr hk;clear ht hr hk F14 c14;go_upto_if 51 with fail
   go_cut []from 4 (λw'=>∃ (os:List (P12.E×Bool)) (r':P12.R) (vo:Value),P12.om r14 = .ok (os,r')/\
    Fq br w.heap.size (w.heap.size+1) w1.heap.size w r (mA (mA (mA (kJ items (.slice q1 q2 q3) frm (.slice f1 f2 f3) je (ao jk jo j1 j2 j3 j4 j5 (.slice j6 j7 j8))) (λS w=>aC S w we (ao kd op' vk vi vs tb nm (.slice pp pm pc)))) (λS w=>aE S w 10 (dY S w) gr (.slice g1 g2 g3))) (λS w=>aE S w 11 (se S w) os vo)) r' (iT (.slice q1 q2 q3) (.slice f1 f2 f3) (ao jk jo j1 j2 j3 j4 j5 (.slice j6 j7 j8)) (ao kd op' vk vi vs tb nm (.slice pp pm pc)) (.slice g1 g2 g3) vo (-1)) w')
   case first=>
    cases hj:P12.isT [79,82,68,69,82] r14
    ·simp only[P12.has,hj,aS,if_false]at F15;go_wp2_with fail;go_meet
     case rel=>exact⟨[],r14,aj,by simp[P12.om,hj],F15.add (bF dJ 11 [] aj) (aE.nil _ _ _ _)⟩
    ·simp only[P12.has,hj,if_true]at F15;have hE:=HE.out;generalize hJ:P12.om r14=resJ at hE;have H0:=aa hE;have HJ:=aa hJ;clear hE HE;simp only[P12.om,hj]at hJ;try simp only[if_true,aS,if_false]at hJ
     try simp only[bind,cG,pure,dz]at hJ
     have HE:=aa hJ;clear hJ;have c15:=F15.jf;have hW15:=F15.size;go_wp2_with fail;go_at_call 132;refine(dN br [66,89] (P12.ax r14) _ _ (F15.alloc _).rd (eM _ _ _ rfl) ab).mono ?_;intro e w16 h
     cases hn:P12.bL [66,89] (P12.ax r14)
     case error er=>
      rw[hn]at h;have hE:=HE.out;rw[hn]at hE;try dsimp only at hE
      subst hE;have h0:=H0.out;try dsimp only at h0
      subst h0;obtain⟨rfl,ht⟩:=h;simp only[bq];go_wp2;exact⟨rfl,rfl,(F15.alloc _).after ht⟩
     rename_i p;rw[hn]at h;have hE:=HE.out;rw[hn]at hE;clear HE;try dsimp only at hE
     have HE:=aa hE;clear hE;rename P12.R=>r16
     obtain⟨rfl,ht,hr,hk⟩:=h;have F16:=(F15.alloc _).step ht hr hk;have c16:=F16.jf;clear ht hr hk c15 F15 hW15;go_wp2_with fail;go_at_call 138;refine(CY br w1.heap.size w.heap.size (λv=>iT (.slice q1 q2 q3) (.slice f1 f2 f3) (ao jk jo j1 j2 j3 j4 j5 (.slice j6 j7 j8)) (ao kd op' vk vi vs tb nm (.slice pp pm pc)) (.slice g1 g2 g3) v (-1)) (λ_=>rfl) (λ_ _=>rfl) r16 w16 F16.rd F16.box F16.blk ab ab ab).mono ?_;intro e w17 h
     cases hn:P12.exprs P12.fO r16
     case error er=>
      rw[hn]at h;have hE:=HE.out;rw[hn]at hE;try dsimp only at hE
      subst hE;have h0:=H0.out;try dsimp only at h0
      subst h0;obtain⟨rfl,ht⟩:=h;simp only[bq];go_wp2;exact⟨rfl,rfl,F16.mo ht⟩
     rename_i p;rw[hn]at h;have hE:=HE.out;rw[hn]at hE;clear HE;try dsimp only at hE
     have HE:=aa hE;clear hE;obtain⟨os,r17⟩:=p;obtain⟨rfl,⟨v,hb,hs,hn17,hkt⟩,hr,hk⟩:=h;have F17:=(F16.row hkt hb hr hk).add (bF dJ 11 os v) (bF dJ 11 os v _ _ _ _ hs (λ_ _ _=>rfl) (λb hb _=>by have:=F16.size;omega));clear hkt hb hs hr hk c16 F16;go_wp2_with fail;go_meet
     case rel=>exact⟨os,r17,v,HJ.out.trans HE.out.symm,F17⟩
   case rest=>
    obtain⟨os,r18,vo,hj,F18⟩:=hcut;obtain⟨o1,o2,o3,rfl⟩:=ee F18.piece.2;have hE:=HE.out;rw[hj]at hE;clear HE hj;dsimp only at hE;have HE:=aa hE;have c18:=F18.jf;clear hE F15;go_wp2_with fail;go_at_call 20;refine(jm br r18 [76,73,77,73,84] _ F18.rd).mono ?_;rintro e w19 ⟨rfl,ht,hr,hk⟩;have F19:=F18.step ht hr hk;clear ht hr hk F18 c18;go_upto_if 59 with fail
    go_cut []from 4 (λw'=>∃ (n:Int) (r':P12.R),P12.ox r18 = .ok (n,r')/\
     Fq br w.heap.size (w.heap.size+1) w1.heap.size w r (mA (mA (mA (kJ items (.slice q1 q2 q3) frm (.slice f1 f2 f3) je (ao jk jo j1 j2 j3 j4 j5 (.slice j6 j7 j8))) (λS w=>aC S w we (ao kd op' vk vi vs tb nm (.slice pp pm pc)))) (λS w=>aE S w 10 (dY S w) gr (.slice g1 g2 g3))) (λS w=>aE S w 11 (se S w) os (.slice o1 o2 o3))) r' (iT (.slice q1 q2 q3) (.slice f1 f2 f3) (ao jk jo j1 j2 j3 j4 j5 (.slice j6 j7 j8)) (ao kd op' vk vi vs tb nm (.slice pp pm pc)) (.slice g1 g2 g3) (.slice o1 o2 o3) n) w')
    case first=>
     cases hj:P12.isT [76,73,77,73,84] r18
     ·simp only[P12.has,hj,aS,if_false]at F19;go_wp2_with fail;go_meet
      case rel=>exact⟨-1,r18,by simp[P12.ox,hj],F19⟩
     ·simp only[P12.has,hj,if_true]at F19;have hE:=HE.out;generalize hJ:P12.ox r18=resJ at hE;have H0:=aa hE;have HJ:=aa hJ;clear hE HE;simp only[P12.ox,hj]at hJ;try simp only[if_true,aS,if_false]at hJ
      try simp only[bind,cG,pure,dz]at hJ
      have HE:=aa hJ;clear hJ;have c19:=F19.jf;by_cases h3:(P12.nxt (P12.ax r18)).kind=3
      ·have h3b:((P12.nxt (P12.ax r18)).kind !=3)=false:=by simpa using h3
       have hE:=HE.out;simp only[h3,ne_eq,not_true_eq_false,if_false]at hE;clear HE;have HE:=aa hE;have H3:=aa h3;clear hE h3;go_wp2_with fail;go_at_call 21;refine(gI br _ _ F19.rd).mono ?_;rintro e w20 ⟨rfl,hx20⟩;have F20:=F19.ext hx20;have c20:=F20.jf;clear hx20 c19 F19;go_wp2_with fail;go_at_call 152;refine(wU br 9223372036854775807 (P12.ax r18) _ F20.rd H3.out ab).mono ?_;intro e w21 h
       cases hn:P12.int 9223372036854775807 (P12.ax r18)
       case error er=>
        rw[hn]at h;have hE:=HE.out;rw[hn]at hE;try dsimp only at hE
        subst hE;have h0:=H0.out;try dsimp only at h0
        subst h0;obtain⟨rfl,ht⟩:=h;simp only[bq];go_wp2;exact⟨rfl,rfl,F20.after ht⟩
       rename_i p;rw[hn]at h;have hE:=HE.out;rw[hn]at hE;clear HE;try dsimp only at hE
       have HE:=aa hE;clear hE;obtain⟨n,r21⟩:=p
       have hnle:n≤9223372036854775807:=by
        unfold P12.int at hn;split at hn
        ·cases hn
        ·cases hn;omega
       obtain⟨_,rfl,rfl,ht,hr,hk⟩:=h;have F21:=F20.step ht hr hk;have hwr:=wrap_small n hnle;have c21:=F21.cell (o:=36) rfl;have f21:=F21.free 36;have F22:=(F21.set 36 (.int .i64 n)).cells (c':=iT (.slice q1 q2 q3) (.slice f1 f2 f3) (ao jk jo j1 j2 j3 j4 j5 (.slice j6 j7 j8)) (ao kd op' vk vi vs tb nm (.slice pp pm pc)) (.slice g1 g2 g3) (.slice o1 o2 o3) n) rfl;go_wp2_with fail;go_meet
       case rel=>exact⟨n,r21,HJ.out.trans HE.out.symm,F22⟩
      ·have h3b:((P12.nxt (P12.ax r18)).kind !=3)=true:=by simpa using h3
       have hE:=HE.out;simp only[h3,ne_eq,not_false_eq_true,if_true,P12.bU]at hE;clear HE;subst hE;have h0:=H0.out;try dsimp only at h0
       subst h0;clear h3;go_wp2_with fail;go_at_call 21;refine(gI br _ _ F19.rd).mono ?_;rintro e w20 ⟨rfl,hx20⟩;have F20:=F19.ext hx20;have c20:=F20.jf;go_wp2_with fail;go_at_call 22;refine(eC br _ 120 _ F20.rd).mono ?_;rintro e w21 ⟨rfl,hx21⟩;simp only[bq];go_wp2;exact⟨rfl,rfl,F20.after (ah.aR hx21)⟩
    case rest=>
     obtain⟨n,r23,hj,F23⟩:=hcut;have hE:=HE.out;rw[hj]at hE;clear HE hj;dsimp only at hE;have HE:=aa hE;have hb23:=F23.blk;have hz23:=F23.zero;clear hE F19;go_wp2_with (first|(refine lw hb23 aB ?_)|(refine pw hz23 ?_;intro w24 hp24));refine ar (aH (fn:=Tryz.f74) rfl rfl hp24.blk aB rfl au) rfl ?_;have hE:=HE.out;subst hE;refine Fq.finish F23 hp24 (λ⟨⟨⟨⟨⟨⟨_,hi⟩,hf⟩,hjn⟩,hw⟩,hg⟩,ho⟩=>?_);exact⟨aj,aj,aj,aj,aj,aj,aj,_,_,_,_,_,_,rfl,aE.nil _ _ _ _,aE.nil _ _ _ _,aE.nil _ _ _ _,aE.nil _ _ _ _,aE.nil _ _ _ _,aE.nil _ _ _ _,aE.nil _ _ _ _,hw,hi,hf,hjn,hg,ho⟩
structure Fz(br gz gx:Nat)(w0:World)(r0:P12.R)(K:(Nat->Prop)->World->Prop)(r:P12.R)(c:Array Value)(w:World):Prop where
 zero:w.heap[gz]?=some (.cells bC.toArray 40)
 blk:w.heap[gx]?=some (.cells c 40)
 turn:ah br w0 w
 rd:Rd br r w
 keeps:P12.bW r0 r
 stab:mB K
 piece:K (λb=>gx<b) w
 lo:br<w0.heap.size
 gzge:w0.heap.size≤gz
 zx:gz<gx
section
variable {br gz gx : Nat} {w0 : World} {r0 : P12.R} {K : (Nat → Prop) → World → Prop} {r r' : P12.R} {c c' : Array Value} {w w' : World}
theorem Fz.size(F:Fz br gz gx w0 r0 K r c w):gx<w.heap.size:=(ae.1 F.blk).1
theorem Fz.step(F:Fz br gz gx w0 r0 K r c w)(ht:ah br w w')(hr:Rd br r' w')(hk:P12.bW r r'):Fz br gz gx w0 r0 K r' c w':=by
 obtain⟨h2,h3,h4,h5,h6,h7,h8,h9,h11,h13⟩:=F;exact⟨ht.held h2 ab,ht.held h3 ab,ah.trans h4 ht,hr,h6.trans hk,h7,h7 _ _ _ _ h8 (λb hb hl=>ht.block hl ab) (λb hb _=>hb),h9,h11,h13⟩
theorem Fz.ext(F:Fz br gz gx w0 r0 K r c w)(hx:Xk.Ext w w'):Fz br gz gx w0 r0 K r c w':=F.step (ah.aR hx) (F.rd.ext hx) (P12.bW.refl _)
theorem Fz.alloc(F:Fz br gz gx w0 r0 K r c w)(o:Obj):Fz br gz gx w0 r0 K r c (w.alloc o):=F.ext ((al _ _).alloc (ai _) _)
theorem Fz.qM(F:Fz br gz gx w0 r0 K r c w)(hp:bt gx c' 40 w w'):Fz br gz gx w0 r0 K r c' w':=by
 obtain⟨h2,h3,h4,h5,h6,h7,h8,h9,h11,h13⟩:=F;exact⟨(hp.rest _ ab).trans h2,hp.blk,bt.turn hp h4 ab,bt.rd hp h5 ab,h6,h7,h7 _ _ _ _ h8 (λb hb hl=>hp.rest b ab) (λb hb _=>hb),h9,h11,h13⟩
theorem Fz.set(F:Fz br gz gx w0 r0 K r c w)(o:Nat)(u:Value):Fz br gz gx w0 r0 K r (c.setIfInBounds o u) (w.setCell ⟨gx,o,none⟩ u):=
 F.qM (gZ F.blk [u] o)
theorem Fz.add(F:Fz br gz gx w0 r0 K r c w){A:(Nat->Prop)->World->Prop}(hs:mB A)(ha:A (λb=>gx<b) w):Fz br gz gx w0 r0 (λS w=>K S w/\A S w) r c w:=by
 obtain⟨h2,h3,h4,h5,h6,h7,h8,h9,h11,h13⟩:=F;exact⟨h2,h3,h4,h5,h6,λS S' w w' h hb hS=>⟨h7 _ _ _ _ h.1 hb hS,hs _ _ _ _ h.2 hb hS⟩,⟨h8,ha⟩,h9,h11,h13⟩
theorem Fz.cells(F:Fz br gz gx w0 r0 K r c w)(h:c=c'):Fz br gz gx w0 r0 K r c' w:=h▸F
theorem Fz.cell(F:Fz br gz gx w0 r0 K r c w){o:Nat}{v:Value}(h:c[o]?=some v):w.cell? ⟨gx,o,none⟩=some v:=by simp[ak,F.blk,h]
theorem Fz.free(F:Fz br gz gx w0 r0 K r c w)(o:Nat):w.frozen? ⟨gx,o,none⟩=false:=aD w gx o _ _ F.blk
theorem Fz.after(F:Fz br gz gx w0 r0 K r c w)(ht:ah br w w'):ah br w0 w':=ah.trans F.turn ht
theorem Fz.up(F:Fz br gz gx w0 r0 K r c w){A:(Nat->Prop)->World->Prop}(hs:mB A)(ha:A (λb=>w.heap.size≤b) w'):A (λb=>gx<b) w':=
 hs _ _ _ _ ha (λ_ _ _=>rfl) (λb hb _=>by have:=F.size;omega)
theorem Fz.start{br:Nat}{r r1:P12.R}{w wm w1 w2:World}{c:Array Value}{o:Obj}(h:Rd br r w)(ht:ah br (w.alloc (.cells bC.toArray 40)) w1)(hr:Rd br r1 w1)(hk:P12.bW r r1)(hp:bt w1.heap.size c 40 (w1.alloc o) w2):
  Fz br w.heap.size w1.heap.size w r (λ_ _=>True) r1 c w2:=by
 have hlt:=h.lt;have hl:=ht.size;simp only[ag]at hl;have hz:=aw w (.cells bC.toArray 40);have h2:=((ah.alloc (ah.refl br w1) o).held (ht.held hz ab) ab);refine⟨(hp.rest _ ab).trans h2,hp.blk,bt.turn hp (ah.alloc (ah.trans (ah.alloc (ah.refl br w) _) ht) _) ab,bt.rd hp (hr.alloc _) ab,hk,λ_ _ _ _ _ _ _=>trivial,trivial,hlt,ai _,by omega⟩
theorem Fz.finish{l:List Value}{x:P12.St}(F:Fz br gz gx w0 r0 K r c w)(hp:bt gz l.toArray 40 w w')(hst:K (λb=>w0.heap.size≤b) w'->dv (λb=>w0.heap.size≤b) w' x l):
  Got br w0 r0 (jC w0) (.ok (x,r)) (.returned (.agg l.toArray)) w':=by
 obtain⟨h2,h3,h4,h5,h6,h7,h8,h9,h11,h13⟩:=F;exact⟨_,rfl,⟨l,rfl,hst (h7 _ _ _ _ h8 (λb hb hl=>hp.rest b ab) (λb hb _=>by omega))⟩,bt.turn hp h4 h11,bt.rd hp h5 ab,h6⟩
end
theorem Ga(br:Nat)(r:P12.R)(w:World)(h:Rd br r w):Calls af 70 #[rp br] w (Got br w r (jC w) (P12.drop r)):=by
 have HR:=aa h;have lr:=h.lt;clear h;generalize hres:P12.drop r=res;have hE:=hres;simp only[P12.drop,bind,cG,pure,dz]at hE;have HE:=aa hE;clear hE hres;have HM:=aa λW=>iN 2 W;rw[if_neg aq]at HM;go_enter Tryz.func70,Tryz.ntmps70;go_wp2_with fail;go_at_call 76;refine(HM.out _).mono ?_;rintro e w1 ⟨rfl,hx1⟩;go_wp2_with ((refine pw (aw w1 _) ?_;intro w2 hp2);have F2:=(Fz.start (wm:=w1) HR.out (ah.aR hx1) ((HR.out.alloc _).ext hx1) (P12.bW.refl _) hp2).cells (c':=(cT 2 [] aj aj aj aj [] [] false aj aj aj noE aj aj noE aj aj 0).toArray) rfl);have hzx:=F2.zx;clear hp2 hx1
 cases hj:P12.isT [84,65,66,76,69] r
 ·have hE:=HE.out;simp only[P12.has,hj,aS,if_false]at hE;clear HE;have HE:=aa hE;clear hE;go_at_call 20;refine(fk br r [84,65,66,76,69] _ F2.rd hj).mono ?_;rintro e w3 ⟨rfl,hx3⟩;have F3:=F2.ext hx3;have c3:=F3.cell (o:=0) rfl;have f3:=F3.free 0;have hW3:=F3.size;have F4:=(F3.set 0 (.int .i64 4)).cells (c':=(cT 4 [] aj aj aj aj [] [] false aj aj aj noE aj aj noE aj aj 0).toArray) rfl;clear hx3 F2;go_wp2_with fail;go_at_call 132;refine(dN br [73,78,68,69,88] r _ _ (F4.alloc _).rd (eM _ _ _ (by rw[aM])) ab).mono ?_;intro e w5 h
  cases hn:P12.bL [73,78,68,69,88] r
  case error er=>exact ste (F4.alloc _).after
  rename_i p;rw[hn]at h HE;dsimp only at HE;rename P12.R=>r5
  obtain⟨rfl,ht,hr,hk⟩:=h;have F5:=(F4.alloc _).step ht hr hk;clear ht hr hk c3 f3 F3 F4 hW3;go_wp2_with fail;go_at_call 131;refine(dG br _ _ F5.rd).mono ?_;intro e w6 h
  cases hn:P12.name r5
  case error er=>exact ste F5.after
  rename_i p;rw[hn]at h HE;dsimp only at HE;obtain⟨a,r6⟩:=p;obtain⟨_,rfl,rfl,ht,hr,hk⟩:=h;have F6:=F5.step ht hr hk;have c6:=F6.cell (o:=6) rfl;have f6:=F6.free 6;have F7:=(F6.set 6 (bs a)).cells (c':=(cT 4 [] aj aj aj aj a [] false aj aj aj noE aj aj noE aj aj 0).toArray) rfl;have hb7:=F7.blk;have hz7:=F7.zero;clear ht hr hk;go_wp2_with (first|(refine lw hb7 aB ?_)|(refine pw hz7 ?_;intro w8 hp8));refine ar (aH (fn:=Tryz.f70) rfl rfl hp8.blk aB rfl au) rfl ?_;have hE:=HE.out;subst hE;refine Fz.finish F7 hp8 (λ_=>?_)
  exact⟨aj,aj,aj,aj,aj,aj,aj,noE,aj,aj,noE,aj,aj,rfl,aE.nil _ _ _ _,aE.nil _ _ _ _,aE.nil _ _ _ _,aE.nil _ _ _ _,aE.nil _ _ _ _,aE.nil _ _ _ _,aE.nil _ _ _ _,rfl,aE.nil _ _ _ _,aE.nil _ _ _ _,rfl,aE.nil _ _ _ _,aE.nil _ _ _ _⟩
 ·have hE:=HE.out;simp only[P12.has,hj,if_true]at hE;clear HE;have HE:=aa hE;clear hE;go_at_call 20;refine(dT br r [84,65,66,76,69] _ F2.rd hj).mono ?_;rintro e w3 ⟨rfl,ht,hr⟩;have F3:=F2.step ht hr (P12.aO r);clear ht hr F2;go_wp2_with fail;go_at_call 131;refine(dG br _ _ F3.rd).mono ?_;intro e w6 h
  cases hn:P12.name (P12.ax r)
  case error er=>exact ste F3.after
  rename_i p;rw[hn]at h HE;dsimp only at HE;obtain⟨a,r6⟩:=p;obtain⟨_,rfl,rfl,ht,hr,hk⟩:=h;have F6:=F3.step ht hr hk;have c6:=F6.cell (o:=6) rfl;have f6:=F6.free 6;have F7:=(F6.set 6 (bs a)).cells (c':=(cT 2 [] aj aj aj aj a [] false aj aj aj noE aj aj noE aj aj 0).toArray) rfl;have hb7:=F7.blk;have hz7:=F7.zero;clear ht hr hk;go_wp2_with (first|(refine lw hb7 aB ?_)|(refine pw hz7 ?_;intro w8 hp8));refine ar (aH (fn:=Tryz.f70) rfl rfl hp8.blk aB rfl au) rfl ?_;have hE:=HE.out;subst hE;refine Fz.finish F7 hp8 (λ_=>?_)
  exact⟨aj,aj,aj,aj,aj,aj,aj,noE,aj,aj,noE,aj,aj,rfl,aE.nil _ _ _ _,aE.nil _ _ _ _,aE.nil _ _ _ _,aE.nil _ _ _ _,aE.nil _ _ _ _,aE.nil _ _ _ _,aE.nil _ _ _ _,rfl,aE.nil _ _ _ _,aE.nil _ _ _ _,rfl,aE.nil _ _ _ _,aE.nil _ _ _ _⟩
def Own{α:Type}(S:Nat->Prop)(e:TypeId)(sz:Nat)(R:(Nat->Prop)->World->α->List Value->Prop)(xs:List α)(v:Value)(w:World):Prop:=
 ∃us:List (List Value),(xs = []->v=aj)/\w.ownsRow 0 e sz v xs.length us.flatten/\(∀b,v.ownBlock=some b->S b)/\us.length=xs.length/\(∀u∈us,u.length=sz)/\∀ (j:Nat) x u,xs[j]?=some x->us[j]?=some u->R (λb=>S b/\¬ v.ownBlock=some b) w x u
section
variable {α : Type} {S : Nat → Prop} {e : TypeId} {sz : Nat} {R : (Nat → Prop) → World → α → List Value → Prop} {xs : List α} {v : Value} {w w' : World}
theorem Own.nil:Own S e sz R [] aj w:=⟨[],λ_=>rfl,qA _ _ _ _,by simp[gK],rfl,by simp,by simp⟩
theorem Own.lt(h:Own S e sz R xs v w):∀b,v.ownBlock=some b->S b/\b<w.heap.size:=by
 obtain⟨us,-,h1,h2,-⟩:=h;exact λb hb=>⟨h2 b hb,(h1.lt b hb).2⟩
theorem Own.bg{S':Nat->Prop}(h:Own S e sz R xs v w)(hR:k7 R)(hb:∀b,S b->b<w.heap.size->w'.heap[b]?=w.heap[b]?)(hS:∀b,S b->b<w.heap.size->S' b):Own S' e sz R xs v w':=by
 obtain⟨us,h0,h1,h2,h3,h4,h5⟩:=h;exact⟨us,h0,kb h1 λb hb'=>hb b (h2 b hb') (h1.lt b hb').2,λb hb'=>hS b (h2 b hb') (h1.lt b hb').2,h3,h4,λj x u hx hu=>hR _ _ _ _ _ _ (h5 j x u hx hu) (λb hs=>hb b hs.1) (λb hs hl=>⟨hS b hs.1 hl,hs.2⟩)⟩
theorem Own.form(h:Own S e sz R xs v w):∃q c,v = .slice q xs.length c:=by
 obtain⟨us,-,ho,-⟩:=h;rcases ho.2 with⟨rfl,h0⟩|⟨g,cap,cur,rfl,-⟩
 ·exact⟨none,0,by rw[h0]⟩
 ·exact⟨_,_,rfl⟩
theorem Own.mem{z n cz:Nat}(h:Own S e sz R xs (.slice (some ⟨z,0,none⟩) n cz) w):n=xs.length/\∃cur,w.heap[z]?=some (.cells cur e)/\xs.length*sz≤cur.size:=by
 obtain⟨us,-,ho,-⟩:=h;rcases ho.2 with⟨hv,-⟩|⟨g,cap,cur,hv,-,h6,h7,h8,h9,-⟩
 ·cases hv
 ·cases hv;exact⟨rfl,cur,h6,by rw[h9];exact fe _ h7⟩
theorem Own.push{us:List (List Value)}{v':Value}{x:α}{u:List Value}(hR:k7 R)(h1:∀b,v.ownBlock=some b->S b)(hS:∀b,w.heap.size≤b->S b)(h2:us.length=xs.length)(h3:∀u∈us,u.length=sz)
  (h4:∀ (j:Nat) x u,xs[j]?=some x->us[j]?=some u->R (λb=>S b/\¬ v.ownBlock=some b) w x u) (hg:w.grownBy w' v.ownBlock) (ho:w'.ownsRow 0 e sz v' (xs.length+1) (us.flatten++u))
  (hk:∀b,v'.ownBlock=some b->v.ownBlock=some b∨w.heap.size≤b) (hu:u.length=sz) (hx:R (λb=>S b/\¬ v.ownBlock=some b) w x u):Own S e sz R (xs ++ [x]) v' w':=by
 have hmv:∀x u,R (λb=>S b/\¬ v.ownBlock=some b) w x u->R (λb=>S b/\¬ v'.ownBlock=some b) w' x u:=λx u h=>
  hR _ _ _ _ _ _ h (λb hb hl=>hg.block b hl (λe=>hb.2 e.symm)) (λb hb hl=>⟨hb.1,λe=>by
   rcases hk b e with h|h
   ·exact hb.2 h
   ·omega⟩)
 refine⟨us ++ [u],λe=>absurd e aI,by simpa using ho,λb hb=>(hk b hb).elim (h1 b) (hS b),by simp[h2],λy hy=>?_,λj y c hy hc=>hmv _ _ ?_⟩
 ·rcases kh.1 hy with hy|hy
  ·exact h3 y hy
  ·rw[dr.1 hy];exact hu
 ·rcases jY j xs.length with hj|hj
  ·rw[cb hj]at hy;rw[cb ab]at hc;exact h4 j y c hy hc
  ·rw[dB hj]at hy;rw[dB ab,h2]at hc
   obtain⟨rfl,rfl⟩:x=y/\u=c:=by
    rcases hj0:j-xs.length with _|k
    ·rw[hj0]at hy hc;simp at hy hc;exact⟨hy,hc⟩
    ·rw[hj0]at hy;simp at hy
   exact hx
theorem Own.slc(h:Own S e sz R xs v w)(hR:k7 R)(hs:0<sz):aE S w sz (R S w) xs v:=by
 obtain⟨us,h00,h1,hown,h2,h3,h4⟩:=h;rcases h1.2 with⟨rfl,h0⟩|⟨g,cap,cur,rfl,h5,h6,h7,h8,h9,h10⟩
 ·have:xs = []:=iQ h0
  subst this;exact .inl ⟨rfl,rfl⟩
 ·by_cases hp:0<xs.length
  ·refine .inr ⟨g,cap,us,rfl,hown g rfl,hp,h7,h2,h3,hs,λj v hj=>?_,λj x u hx hu=>hR _ _ _ _ _ _ (h4 j x u hx hu) (λ_ _ _=>rfl) (λb hb _=>hb.1)⟩;rw[← h10]at hj
   have hj':cur.toList[j]?=some v:=by
    rw[di]at hj;split at hj
    ·exact hj
    ·cases hj
   simp[ak,h6];simpa using hj'
  ·have hx:xs = []:=iQ ab;subst hx;exact .inl ⟨rfl,h00 rfl⟩
end
theorem Own.iO{α:Type}{S:Nat->Prop}{e:TypeId}{sz:Nat}{R:(Nat->Prop)->World->α->List Value->Prop}{xs:List α}{x0 x:α}{z cz:Nat}{w w':World}{cur:Array Value}{l:List Value}(hR:k7 R)
  (h:Own S e sz R (xs ++ [x0]) (.slice (some ⟨z,0,none⟩) (xs.length+1) cz) w) (hc:w.heap[z]?=some (.cells cur e)) (hp:bt z (fZ cur (xs.length*sz) l) e w w') (hl:l.length=sz)
  (hx:R (λb=>S b/\¬ z=b) w x l):Own S e sz R (xs ++ [x]) (.slice (some ⟨z,0,none⟩) (xs.length+1) cz) w':=by
 obtain⟨us,-,h1,hown,h2,h3,h4⟩:=h;have hSS:∀b,(S b/\¬ (gU (some ⟨z,0,none⟩) (xs.length+1) cz).ownBlock=some b)->w'.heap[b]?=w.heap[b]?:=λb hb=>hp.rest b (λe=>hb.2 (by simp[gK,e]));rw[aN,bf]at h1 h2;obtain⟨ul,uz,rfl⟩:∃a b,us=a ++ [b]:=⟨us.dropLast,us.getLast (λe=>by simp[e]at h2),(List.dropLast_concat_getLast _).symm⟩;rw[aN,bf]at h2;have hul:ul.length=xs.length:=ab;have huz:uz.length=sz:=h3 uz aI
 have hfl:∀ (L:List (List Value)),(∀u∈L,u.length=sz)->L.flatten.length=L.length*sz:=λL=>by
  induction L with
  | nil=>simp
  | cons a L ih=>
   intro hL;simp only[List.flatten_cons,aN,aW];rw[ih (λu hu=>hL u (by simp[hu])),hL a aI,gE,sy]
 have hful:=hfl ul (λu hu=>h3 u (by simp[hu]));rw[hul]at hful;refine⟨ul ++ [l],λe=>absurd e aI,?_,hown,by simp[hul],λu hu=>?_,λj y u hy hu=>?_⟩
 ·rw[aN,bf];refine⟨by simp[hful,hl,gE],?_⟩;rcases h1.2 with⟨hv,-⟩|⟨g,cap,cur',hv,h5,h6,h7,h8,h9,h10⟩
  ·cases hv
  ·cases hv;obtain rfl:cur'=cur:=by rw[hc]at h6;cases h6;rfl
   refine .inr ⟨z,cz,_,rfl,h5,hp.blk,h7,h8,by rw[mF];exact h9,?_⟩
   have hle:xs.length*sz+sz≤cur'.size:=by
    rw[h9]
    calc xs.length*sz+sz=(xs.length+1)*sz:=by rw[gE]
     _≤cz*sz:=fe _ h7
   rw[mG _ _ _ ab,hl]
   have ht:cur'.toList.take (xs.length*sz)=ul.flatten:=by
    have:=congrArg (List.take (xs.length*sz)) h10;rw[nd,mC (by rw[gE];omega),List.flatten_append,oI hful]at this;exact this
   rw[ht,gE,List.append_assoc,List.take_append,hful,List.take_of_length_le ab,Nat.add_sub_cancel_left,oI hl];simp
 ·rcases kh.1 hu with hu|hu
  ·exact h3 u (by simp[hu])
  ·rw[dr.1 hu];exact hl
 ·rcases jY j xs.length with hj|hj
  ·rw[cb hj]at hy;rw[cb ab]at hu;exact hR _ _ _ _ _ _ (h4 j y u (by rw[cb hj];exact hy) (by rw[cb ab];exact hu)) (λb hb _=>hSS b hb) (λb hb _=>hb)
  ·rw[dB hj]at hy;rw[dB ab,hul]at hu
   obtain⟨rfl,rfl⟩:x=y/\l=u:=by
    rcases hj0:j-xs.length with _|k
    ·rw[hj0]at hy hu;simp at hy hu;exact⟨hy,hu⟩
    ·rw[hj0]at hy;simp at hy
   exact hR _ _ _ _ _ _ hx (λb hb _=>hp.rest b (λe=>hb.2 e.symm)) (λb hb _=>⟨hb.1,λe=>hb.2 (by simpa[gK]using e)⟩)
theorem fm:k7 (λ_ _=>xq):=λ_ _ _ _ _ _ h _ _=>h
theorem fB:k7 (λ_ _=>yW):=λ_ _ _ _ _ _ h _ _=>h
theorem eT:k7 rC:=λ_ _ _ _ _ _ ⟨v,h1,h2⟩ hb hS=>⟨v,h1,h2.bg hb hS (λ_ _ h=>h)⟩
abbrev xL(name:P12.T)(tc tk tq kc:Value):Array Value:=(cT 1 name tc tk tq kc [] [] false aj aj aj noE aj aj noE aj aj 0).toArray
structure Tab(B gx:Nat)(t:P12.Tb)(k:List (List P12.T))(col:Nat->Nat)(tc tk tq kc:Value)(c:Array Value)(w:World):Prop where
 blk:w.heap[gx]?=some (.cells c 40)
 tc:Own (λb=>B≤b/\col b=0) 137 3 (λ_ _=>xq) t.cols tc w
 tk:Own (λb=>B≤b/\col b=1) 139 4 (λ_ _=>yW) t.keys tk w
 tq:Own (λb=>B≤b/\col b=2) 35 10 dY t.checks tq w
 kc:Own (λb=>B≤b/\col b=3) 29 1 rC k kc w
 bx:gx<B
 bs:B≤w.heap.size
section
variable {B gx : Nat} {t : P12.Tb} {k : List (List P12.T)} {col : Nat → Nat} {tc tk tq kc : Value} {c : Array Value} {w w' : World}
theorem Tab.same(h:Tab B gx t k col tc tk tq kc c w)(hx:w'.heap[gx]?=w.heap[gx]?)(hb:∀b,B≤b->b<w.heap.size->w'.heap[b]?=w.heap[b]?)(hs:w.heap.size≤w'.heap.size):Tab B gx t k col tc tk tq kc c w':=
 ⟨hx.trans h.blk,h.tc.bg fm (λb hb' hl=>hb b hb'.1 hl) (λb hb _=>hb),h.tk.bg fB (λb hb' hl=>hb b hb'.1 hl) (λb hb _=>hb),h.tq.bg bj (λb hb' hl=>hb b hb'.1 hl) (λb hb _=>hb),h.kc.bg eT (λb hb' hl=>hb b hb'.1 hl) (λb hb _=>hb),h.bx,bI h.bs hs⟩
theorem Tab.turn{br:Nat}(h:Tab B gx t k col tc tk tq kc c w)(ht:ah br w w')(h1:br<gx):Tab B gx t k col tc tk tq kc c w':=
 h.same (ht.block (by have:=h.bx;have:=h.bs;omega) ab) (λb hb hl=>ht.block hl (by have:=h.bx;omega)) ht.size
theorem Tab.ext(h:Tab B gx t k col tc tk tq kc c w)(hx:Xk.Ext w w'):Tab B gx t k col tc tk tq kc c w':=
 h.same (hx.block _ (by have:=h.bx;have:=h.bs;omega)) (λb hb hl=>hx.block b hl) hx.size
theorem Tab.setCell(h:Tab B gx t k col tc tk tq kc c w){g:Nat}(hg:g<B)(hne:g≠gx)(o:Nat)(u:Value):Tab B gx t k col tc tk tq kc c (w.setCell ⟨g,o,none⟩ u):=
 h.same (an w ⟨g,o,none⟩ gx u (λe=>hne (by have h:gx=g:=(by simpa using e);omega))) (λb hb hl=>an w ⟨g,o,none⟩ b u (λe=>by(have h:b=g:=(by simpa using e));omega)) (by rw[aM];omega)
theorem Tab.yh(h:Tab B gx t k col tc tk tq kc c w)(i:Nat):Tab B gx t k (λb=>if b<w.heap.size then col b else i) tc tk tq kc c w:=
 ⟨h.blk,h.tc.bg fm (λ_ _ _=>rfl) (λb hb hl=>⟨hb.1,by rw[if_pos hl];exact hb.2⟩),h.tk.bg fB (λ_ _ _=>rfl) (λb hb hl=>⟨hb.1,by rw[if_pos hl];exact hb.2⟩),h.tq.bg bj (λ_ _ _=>rfl) (λb hb hl=>⟨hb.1,by rw[if_pos hl];exact hb.2⟩),h.kc.bg eT (λ_ _ _=>rfl) (λb hb hl=>⟨hb.1,by rw[if_pos hl];exact hb.2⟩),h.bx,h.bs⟩
theorem Tab.form(h:Tab B gx t k col tc tk tq kc c w):∃a1 a2 b1 b2 c1 c2 d1 d2,tc = .slice a1 t.cols.length a2/\tk = .slice b1 t.keys.length b2/\tq = .slice c1 t.checks.length c2/\kc = .slice d1 k.length d2:=by
 obtain⟨a1,a2,ha⟩:=h.tc.form;obtain⟨b1,b2,hb⟩:=h.tk.form;obtain⟨c1,c2,hc⟩:=h.tq.form;obtain⟨d1,d2,hd⟩:=h.kc.form;exact⟨a1,a2,b1,b2,c1,c2,d1,d2,ha,hb,hc,hd⟩
end
section
variable {B gx : Nat} {t : P12.Tb} {k : List (List P12.T)} {col : Nat → Nat} {tc tk tq kc : Value} {c : Array Value} {w w' : World}
theorem Tab.gV(h:Tab B gx t k col tc tk tq kc c w)(o:Nat)(u:Value):Tab B gx t k col tc tk tq kc (c.setIfInBounds o u) (w.setCell ⟨gx,o,none⟩ u):=by
 have hb:∀b,B≤b->(w.setCell ⟨gx,o,none⟩ u).heap[b]?=w.heap[b]?:=λb hb=>an w ⟨gx,o,none⟩ b u (λe=>by(have h2:b=gx:=(by simpa using e));have:=h.bx;omega);exact⟨heap_setCell_same w gx o _ _ _ h.blk,h.tc.bg fm (λb hb' _=>hb b hb'.1) (λb hb _=>hb),h.tk.bg fB (λb hb' _=>hb b hb'.1) (λb hb _=>hb),h.tq.bg bj (λb hb' _=>hb b hb'.1) (λb hb _=>hb),h.kc.bg eT (λb hb' _=>hb b hb'.1) (λb hb _=>hb),h.bx,by rw[aM];exact h.bs⟩
theorem Tab.Jd(h:Tab B gx t k col tc tk tq kc c w)(hi:∀b,w.heap.size≤b->col b=0){us:List (List Value)}{v':Value}{x:P12.T×Int×Bool}{u:List Value}(h2:us.length=t.cols.length)(h3:∀u∈us,u.length=3)
  (h4:∀ (j:Nat) x u,t.cols[j]?=some x->us[j]?=some u->(λ_ _=>xq) (λb=>(B≤b/\col b=0)/\¬ tc.ownBlock=some b) w x u) (hg:w.grownBy w' tc.ownBlock) (ho:w'.ownsRow 0 137 3 v' (t.cols.length+1) (us.flatten++u))
  (hk:∀b,v'.ownBlock=some b->tc.ownBlock=some b∨w.heap.size≤b) (hu:u.length=3) (hx:(λ_ _=>xq) (λb=>(B≤b/\col b=0)/\¬ tc.ownBlock=some b) w x u):Tab B gx { t with cols:=t.cols ++ [x] } k col v' tk tq kc c w':=by
 have hS:∀b,tc.ownBlock=some b->B≤b/\col b=0:=λb hb=>(h.tc.lt b hb).1;have hoth:∀b,col b≠0->b<w.heap.size->w'.heap[b]?=w.heap[b]?:=λb hb hl=>hg.block b hl (λe=>hb (hS b e.symm).2);have hgx:=(hg.block gx (by have:=h.bx;have:=h.bs;omega) (λe=>by have:=(hS gx e.symm).1;have:=h.bx;omega)).trans h.blk
 exact⟨hgx,Own.push fm hS (λb hb=>⟨bI h.bs hb,hi b hb⟩) h2 h3 h4 hg ho hk hu hx,h.tk.bg fB (λb hb hl=>hoth b (by rw[hb.2];decide) hl) (λb hb _=>hb),h.tq.bg bj (λb hb hl=>hoth b (by rw[hb.2];decide) hl) (λb hb _=>hb),h.kc.bg eT (λb hb hl=>hoth b (by rw[hb.2];decide) hl) (λb hb _=>hb),h.bx,bI h.bs hg.size⟩
theorem Tab.Jc(h:Tab B gx t k col tc tk tq kc c w)(hi:∀b,w.heap.size≤b->col b=1){us:List (List Value)}{v':Value}{x:Bool}{u:List Value}(h2:us.length=t.keys.length)(h3:∀u∈us,u.length=4)
  (h4:∀ (j:Nat) x u,t.keys[j]?=some x->us[j]?=some u->(λ_ _=>yW) (λb=>(B≤b/\col b=1)/\¬ tk.ownBlock=some b) w x u) (hg:w.grownBy w' tk.ownBlock) (ho:w'.ownsRow 0 139 4 v' (t.keys.length+1) (us.flatten++u))
  (hk:∀b,v'.ownBlock=some b->tk.ownBlock=some b∨w.heap.size≤b) (hu:u.length=4) (hx:(λ_ _=>yW) (λb=>(B≤b/\col b=1)/\¬ tk.ownBlock=some b) w x u):Tab B gx { t with keys:=t.keys ++ [x] } k col tc v' tq kc c w':=by
 have hS:∀b,tk.ownBlock=some b->B≤b/\col b=1:=λb hb=>(h.tk.lt b hb).1;have hoth:∀b,col b≠1->b<w.heap.size->w'.heap[b]?=w.heap[b]?:=λb hb hl=>hg.block b hl (λe=>hb (hS b e.symm).2);have hgx:=(hg.block gx (by have:=h.bx;have:=h.bs;omega) (λe=>by have:=(hS gx e.symm).1;have:=h.bx;omega)).trans h.blk
 exact⟨hgx,h.tc.bg fm (λb hb hl=>hoth b (by rw[hb.2];decide) hl) (λb hb _=>hb),Own.push fB hS (λb hb=>⟨bI h.bs hb,hi b hb⟩) h2 h3 h4 hg ho hk hu hx,h.tq.bg bj (λb hb hl=>hoth b (by rw[hb.2];decide) hl) (λb hb _=>hb),h.kc.bg eT (λb hb hl=>hoth b (by rw[hb.2];decide) hl) (λb hb _=>hb),h.bx,bI h.bs hg.size⟩
theorem Tab.Jb(h:Tab B gx t k col tc tk tq kc c w)(hi:∀b,w.heap.size≤b->col b=2){us:List (List Value)}{v':Value}{x:P12.E}{u:List Value}(h2:us.length=t.checks.length)(h3:∀u∈us,u.length=10)
  (h4:∀ (j:Nat) x u,t.checks[j]?=some x->us[j]?=some u->dY (λb=>(B≤b/\col b=2)/\¬ tq.ownBlock=some b) w x u) (hg:w.grownBy w' tq.ownBlock) (ho:w'.ownsRow 0 35 10 v' (t.checks.length+1) (us.flatten++u))
  (hk:∀b,v'.ownBlock=some b->tq.ownBlock=some b∨w.heap.size≤b) (hu:u.length=10) (hx:dY (λb=>(B≤b/\col b=2)/\¬ tq.ownBlock=some b) w x u):Tab B gx { t with checks:=t.checks ++ [x] } k col tc tk v' kc c w':=by
 have hS:∀b,tq.ownBlock=some b->B≤b/\col b=2:=λb hb=>(h.tq.lt b hb).1;have hoth:∀b,col b≠2->b<w.heap.size->w'.heap[b]?=w.heap[b]?:=λb hb hl=>hg.block b hl (λe=>hb (hS b e.symm).2);have hgx:=(hg.block gx (by have:=h.bx;have:=h.bs;omega) (λe=>by have:=(hS gx e.symm).1;have:=h.bx;omega)).trans h.blk
 exact⟨hgx,h.tc.bg fm (λb hb hl=>hoth b (by rw[hb.2];decide) hl) (λb hb _=>hb),h.tk.bg fB (λb hb hl=>hoth b (by rw[hb.2];decide) hl) (λb hb _=>hb),Own.push bj hS (λb hb=>⟨bI h.bs hb,hi b hb⟩) h2 h3 h4 hg ho hk hu hx,h.kc.bg eT (λb hb hl=>hoth b (by rw[hb.2];decide) hl) (λb hb _=>hb),h.bx,bI h.bs hg.size⟩
theorem Tab.Ja(h:Tab B gx t k col tc tk tq kc c w)(hi:∀b,w.heap.size≤b->col b=3){us:List (List Value)}{v':Value}{x:List P12.T}{u:List Value}(h2:us.length=k.length)(h3:∀u∈us,u.length=1)
  (h4:∀ (j:Nat) x u,k[j]?=some x->us[j]?=some u->rC (λb=>(B≤b/\col b=3)/\¬ kc.ownBlock=some b) w x u) (hg:w.grownBy w' kc.ownBlock) (ho:w'.ownsRow 0 29 1 v' (k.length+1) (us.flatten++u))
  (hk:∀b,v'.ownBlock=some b->kc.ownBlock=some b∨w.heap.size≤b) (hu:u.length=1) (hx:rC (λb=>(B≤b/\col b=3)/\¬ kc.ownBlock=some b) w x u):Tab B gx t (k ++ [x]) col tc tk tq v' c w':=by
 have hS:∀b,kc.ownBlock=some b->B≤b/\col b=3:=λb hb=>(h.kc.lt b hb).1;have hoth:∀b,col b≠3->b<w.heap.size->w'.heap[b]?=w.heap[b]?:=λb hb hl=>hg.block b hl (λe=>hb (hS b e.symm).2);have hgx:=(hg.block gx (by have:=h.bx;have:=h.bs;omega) (λe=>by have:=(hS gx e.symm).1;have:=h.bx;omega)).trans h.blk
 exact⟨hgx,h.tc.bg fm (λb hb hl=>hoth b (by rw[hb.2];decide) hl) (λb hb _=>hb),h.tk.bg fB (λb hb hl=>hoth b (by rw[hb.2];decide) hl) (λb hb _=>hb),h.tq.bg bj (λb hb hl=>hoth b (by rw[hb.2];decide) hl) (λb hb _=>hb),Own.push eT hS (λb hb=>⟨bI h.bs hb,hi b hb⟩) h2 h3 h4 hg ho hk hu hx,h.bx,bI h.bs hg.size⟩
theorem Tab.kj{z cz:Nat}{x0 x:P12.E}{cur:Array Value}{l:List Value}(h:Tab B gx { t with checks:=t.checks ++ [x0] } k col tc tk (.slice (some ⟨z,0,none⟩) (t.checks.length+1) cz) kc c w)(hc:w.heap[z]?=some (.cells cur 35))(hp:bt z (fZ cur (t.checks.length*10) l) 35 w w')(hl:l.length=10)
  (hx:dY (λb=>(B≤b/\col b=2)/\¬ z=b) w x l):Tab B gx { t with checks:=t.checks ++ [x] } k col tc tk (.slice (some ⟨z,0,none⟩) (t.checks.length+1) cz) kc c w':=by
 have hz:B≤z/\col z=2:=(h.tq.lt z rfl).1;exact⟨(hp.rest gx (by have:=h.bx;omega)).trans h.blk,h.tc.bg fm (λb hb _=>hp.rest b (λe=>by rw[e,hz.2]at hb;exact absurd hb.2 aq)) (λb hb _=>hb),h.tk.bg fB (λb hb _=>hp.rest b (λe=>by rw[e,hz.2]at hb;exact absurd hb.2 aq)) (λb hb _=>hb),Own.iO bj h.tq hc hp hl hx,h.kc.bg eT (λb hb _=>hp.rest b (λe=>by rw[e,hz.2]at hb;exact absurd hb.2 aq)) (λb hb _=>hb),h.bx,by rw[hp.size];exact h.bs⟩
theorem Tab.KP{z cz:Nat}{x0 x:P12.T×Int×Bool}{cur:Array Value}{l:List Value}(h:Tab B gx { t with cols:=t.cols ++ [x0] } k col (.slice (some ⟨z,0,none⟩) (t.cols.length+1) cz) tk tq kc c w)(hc:w.heap[z]?=some (.cells cur 137))(hp:bt z (fZ cur (t.cols.length*3) l) 137 w w')(hl:l.length=3)
  (hx:(λ_ _=>xq) (λb=>(B≤b/\col b=0)/\¬ z=b) w x l):Tab B gx { t with cols:=t.cols ++ [x] } k col (.slice (some ⟨z,0,none⟩) (t.cols.length+1) cz) tk tq kc c w':=by
 have hz:B≤z/\col z=0:=(h.tc.lt z rfl).1;exact⟨(hp.rest gx (by have:=h.bx;omega)).trans h.blk,Own.iO fm h.tc hc hp hl hx,h.tk.bg fB (λb hb _=>hp.rest b (λe=>by rw[e,hz.2]at hb;exact absurd hb.2 aq)) (λb hb _=>hb),h.tq.bg bj (λb hb _=>hp.rest b (λe=>by rw[e,hz.2]at hb;exact absurd hb.2 aq)) (λb hb _=>hb),h.kc.bg eT (λb hb _=>hp.rest b (λe=>by rw[e,hz.2]at hb;exact absurd hb.2 aq)) (λb hb _=>hb),h.bx,by rw[hp.size];exact h.bs⟩
end
def dx(B gx gc:Nat)(t:P12.Tb)(k:List (List P12.T))(w:World):Prop:=∃col tc tk tq kc,Tab B gx t k col tc tk tq kc (xL t.name tc tk tq kc) w/\(B≤gc->col gc=9)
theorem dx.turn{B gx gc br:Nat}{t:P12.Tb}{k:List (List P12.T)}{w w':World}(h:dx B gx gc t k w)(ht:ah br w w')(h1:br<gx):dx B gx gc t k w':=by
 obtain⟨col,tc,tk,tq,kc,h,h9⟩:=h;exact⟨col,tc,tk,tq,kc,h.turn ht h1,h9⟩
theorem dx.ext{B gx gc:Nat}{t:P12.Tb}{k:List (List P12.T)}{w w':World}(h:dx B gx gc t k w)(ht:Xk.Ext w w'):dx B gx gc t k w':=by
 obtain⟨col,tc,tk,tq,kc,h,h9⟩:=h;exact⟨col,tc,tk,tq,kc,h.ext ht,h9⟩
theorem dx.setCell{B gx gc:Nat}{t:P12.Tb}{k:List (List P12.T)}{w:World}(h:dx B gx gc t k w){g:Nat}(hg:g<B)(hne:g≠gx)(o:Nat)(u:Value):dx B gx gc t k (w.setCell ⟨g,o,none⟩ u):=by
 obtain⟨col,tc,tk,tq,kc,h,h9⟩:=h;exact⟨col,tc,tk,tq,kc,h.setCell hg hne o u,h9⟩
theorem dx.bounds{B gx gc:Nat}{t:P12.Tb}{k:List (List P12.T)}{w:World}(h:dx B gx gc t k w):gx<B/\B≤w.heap.size:=by
 obtain⟨col,tc,tk,tq,kc,h,-⟩:=h;exact⟨h.bx,h.bs⟩
structure cD(B gc:Nat)(ks:List Nat)(w w':World):Prop where
 kept:Kept B ks w w'
 fore:B≤gc->gc<w.heap.size->w'.heap[gc]?=w.heap[gc]?
section
variable {B gc : Nat} {ks : List Nat} {w0 w w' : World}
theorem cD.refl(B gc:Nat)(ks:List Nat)(w:World):cD B gc ks w w:=⟨Kept.refl _ _ _,λ_ _=>rfl⟩
theorem cD.trans(h:cD B gc ks w0 w)(k:cD B gc ks w w'):cD B gc ks w0 w':=⟨h.kept.trans k.kept,λh1 h2=>(k.fore h1 (aK h2 h.kept.size)).trans (h.fore h1 h2)⟩
theorem cD.aR(h:Xk.Ext w w'):cD B gc ks w w':=⟨Kept.aR h,λ_ h2=>h.block _ h2⟩
theorem cD.bB{br:Nat}(h:ah br w w')(hk:br∈ks)(hb:br<B):cD B gc ks w w':=⟨Kept.bB h hk,λh1 h2=>h.block h2 ab⟩
theorem cD.setCell(h:cD B gc ks w0 w){g:Nat}(hg:(B≤g/\(B≤gc->g≠gc))∨(g∈ks/\g<B))(o:Nat)(u:Value):cD B gc ks w0 (w.setCell ⟨g,o,none⟩ u):=
 ⟨h.kept.setCell (hg.elim (λh => .inl h.1) (λh => .inr (.inl h.1))) o u,λh1 h2=>(an w ⟨g,o,none⟩ gc u (λe=>by
  have e:gc=g:=by simpa using e
  rcases hg with hg|hg
  ·exact hg.2 h1 e.symm
  ·omega)).trans (h.fore h1 h2)⟩
theorem cD.grown{k:Option Nat}(h:cD B gc ks w0 w)(hg:w.grownBy w' k)(hk:∀b,k=some b->B≤b/\(B≤gc->b≠gc)):cD B gc ks w0 w':=
 ⟨h.kept.grown hg (λb hb=>(hk b hb).1),λh1 h2=>(hg.block gc (aK h2 h.kept.size) (λe=>(hk gc e.symm).2 h1 rfl)).trans (h.fore h1 h2)⟩
theorem cD.dd{z:Nat}{c:Array Value}{T:TypeId}(hp:bt z c T w w')(hz:B≤z/\(B≤gc->z≠gc)):cD B gc ks w w':=
 ⟨Kept.dd hp hz.1,λh1 _=>hp.rest gc (λe=>hz.2 h1 e.symm)⟩
end
theorem dx.stmt{B gx gc:Nat}{t:P12.Tb}{k:List (List P12.T)}{w:World}(h:dx B gx gc t k w){S:Nat->Prop}(hS:∀b,B≤b->S b):∃tc tk tq kc,w.heap[gx]?=some (.cells (xL t.name tc tk tq kc) 40)/\
  aE S w 3 xq t.cols tc/\aE S w 4 yW t.keys tk/\aE S w 10 (dY S w) t.checks tq/\aE S w 1 (rC S w) k kc:=by
 obtain⟨col,tc,tk,tq,kc,h,-⟩:=h;have hs:∀i b,(B≤b/\col b=i)->b<w.heap.size->S b:=λi b hb _=>hS b hb.1;exact⟨tc,tk,tq,kc,h.blk,(h.tc.bg fm (λ_ _ _=>rfl) (hs 0)).slc fm aq,(h.tk.bg fB (λ_ _ _=>rfl) (hs 1)).slc fB aq,(h.tq.bg bj (λ_ _ _=>rfl) (hs 2)).slc bj aq,(h.kc.bg eT (λ_ _ _=>rfl) (hs 3)).slc eT aq⟩
theorem jt:Ent 198:=⟨λ_ _=>by go_simp,by decide⟩
theorem FY:Ent 140:=⟨λ_ _=>by go_simp,by decide⟩
theorem fb(br:Nat)(r:P12.R)(w:World)(h:Rd br r w):
  Calls af 198 #[rp br] w λe w'=>e = .returned (.bool (P12.bh r))/\Xk.Ext w w':=by
 have HR:=aa h;have HI:=aa λs W h=>ix br r s W h;clear h;unfold P12.bh
 cases h1:P12.isT [80,82,73,77,65,82,89] r
 ·cases h2:P12.isT [85,78,73,81,85,69] r
  ·generalize h3:P12.isT [67,72,69,67,75] r=b3;go_enter Tryz.func198,Tryz.ntmps198;go_wp2_with fail;go_at_call 77;refine(HI.out [80,82,73,77,65,82,89] _ HR.out).mono ?_;rw[h1];rintro e w1 ⟨rfl,hx1⟩;go_wp2_with fail;go_at_call 77;refine(HI.out [85,78,73,81,85,69] _ (HR.out.ext hx1)).mono ?_;rw[h2];rintro e w2 ⟨rfl,hx2⟩;go_wp2_with fail;go_at_call 77;refine(HI.out [67,72,69,67,75] _ ((HR.out.ext hx1).ext hx2)).mono ?_;rw[h3];rintro e w3 ⟨rfl,hx3⟩;go_wp2;go_ret;exact⟨by simp,Xk.Ext.trans hx1 (Xk.Ext.trans hx2 hx3)⟩
  ·go_enter Tryz.func198,Tryz.ntmps198;go_wp2_with fail;go_at_call 77;refine(HI.out [80,82,73,77,65,82,89] _ HR.out).mono ?_;rw[h1];rintro e w1 ⟨rfl,hx1⟩;go_wp2_with fail;go_at_call 77;refine(HI.out [85,78,73,81,85,69] _ (HR.out.ext hx1)).mono ?_;rw[h2];rintro e w2 ⟨rfl,hx2⟩;go_wp2;go_ret;exact⟨by simp,Xk.Ext.trans hx1 hx2⟩
 ·go_enter Tryz.func198,Tryz.ntmps198;go_wp2_with fail;go_at_call 77;refine(HI.out [80,82,73,77,65,82,89] _ HR.out).mono ?_;rw[h1];rintro e w1 ⟨rfl,hx1⟩;go_wp2;go_ret;exact⟨by simp,hx1⟩
theorem ru(br:Nat)(r:P12.R)(w:World)(h:Rd br r w):
  Calls af 236 #[rp br,.func (.func 140) #[rp br] #[]] w (Got br w r (eN w) (P12.within P12.expr r)):=by
 have lr:=h.lt
 refine(pd (α:=P12.E) br [] (.func (.func 140) #[rp br] #[]) 140 #[rp br] (.inl rfl) FY
   P12.expr (λv e W=>∃l,v = .agg l.toArray/\aC (λb=>w.heap.size<b) W e l) r w h (λk hk=>by cases hk)
   (λv x W hv=>by
    obtain⟨l,rfl,he⟩:=hv;obtain⟨kd,op,vk,vi,vs,tb,nm,pp,pm,pc,rfl⟩:=he.form;exact⟨_,_,_,_,_,_,_,_,_,_,rfl⟩)
   (λv x W W' hv ht=>by
    obtain⟨l,rfl,he⟩:=hv;exact⟨l,rfl,he.turn ht (λb hb=>by omega)⟩)
   (λv x W o u hv=>by
    obtain⟨l,rfl,he⟩:=hv;exact⟨l,rfl,he.set ab o u⟩)
   (λr1 W hd hd2 hr1 ht hlt=>(jr br r1 W hr1).mono (λe w' h=>by
    cases hx:P12.expr r1 with
    | error er=>
     rw[hx]at h;exact⟨h.1,Kept.bB h.2 aI⟩
    | ok p=>
     obtain⟨x,r'⟩:=p;rw[hx]at h;obtain⟨v,rfl,⟨l,rfl,he⟩,ht',hr',hk'⟩:=h;exact⟨_,rfl,⟨l,rfl,he.mono (λb hb _=>by omega)⟩,Kept.bB ht' aI,hr',hk'⟩))).mono ?_
 intro e w' h;rcases hw:P12.within P12.expr r with er|⟨a,r'⟩
 ·rw[hw]at h;exact⟨h.1,h.2.turn⟩
 ·rw[hw]at h;obtain⟨v,rfl,⟨l,rfl,he⟩,hk,hr,hkk⟩:=h;exact⟨_,rfl,⟨l,rfl,he.mono (λb hb _=>Nat.le_of_lt hb)⟩,hk.turn,hr,hkk⟩
structure Cf(br gx gm gc B n:Nat)(t:P12.Tb)(k:List (List P12.T))(w0:World)(r0 r:P12.R)(w:World):Prop where
 rd:Rd br r w
 tab:dx B gx gc t k w
 many:w.heap[gm]?=some (gu br n 16)
 kept:cD B gc [br,gx,gm] w0 w
 keeps:P12.bW r0 r
 h1:br<gx
 h2:br<gm
 h3:gm<B
 h4:gm≠gx
 h5:gc<w.heap.size
section
variable {br gx gm gc B n : Nat} {t : P12.Tb} {k : List (List P12.T)} {w0 : World} {r0 r r' : P12.R} {w w' : World}
theorem Cf.step(F:Cf br gx gm gc B n t k w0 r0 r w)(ht:ah br w w')(hr:Rd br r' w')(hk:P12.bW r r'):Cf br gx gm gc B n t k w0 r0 r' w':=by
 obtain⟨a1,a2,a3,a4,a5,a6,a7,a8,a9,a10⟩:=F;exact⟨hr,a2.turn ht a6,ht.held a3 ab,a4.trans (cD.bB ht aI (by have:=a2.bounds;omega)),a5.trans hk,a6,a7,a8,a9,aK a10 ht.size⟩
theorem Cf.ext(F:Cf br gx gm gc B n t k w0 r0 r w)(hx:Xk.Ext w w'):Cf br gx gm gc B n t k w0 r0 r w':=F.step (ah.aR hx) (F.rd.ext hx) (P12.bW.refl _)
theorem Cf.after(F:Cf br gx gm gc B n t k w0 r0 r w)(ht:ah br w w'):cD B gc [br,gx,gm] w0 w':=F.kept.trans (cD.bB ht aI (by have:=F.tab.bounds;have:=F.h1;omega))
theorem Cf.gxB(F:Cf br gx gm gc B n t k w0 r0 r w):gx<B/\B≤w.heap.size:=F.tab.bounds
end
def sA(br gx gm gc B n:Nat)(t:P12.Tb)(k:List (List P12.T))(w0:World)(r0:P12.R)(res:Except P12.Er (P12.Con×P12.R))(e:Ending)(w':World):Prop:=
 match res with
 | .error er=>e=bq er/\cD B gc [br,gx,gm] w0 w'
 | .ok (o,r')=>e = .returned (.tuple #[])/\dx B gx gc (P12.gq t o) (P12.jw k o) w'/\w'.heap[gm]?=some (gu br (n+1) 16)/\Rd br r' w'/\P12.bW (P12.ax r0) r'/\cD B gc [br,gx,gm] w0 w'
theorem rf(br gx gm gc B n:Nat)(t:P12.Tb)(k:List (List P12.T))(c:P12.T)(r:P12.R)(w:World)(h:Rd br r w)(hx:dx B gx gc t k w)(hm:w.heap[gm]?=some (gu br n 16))(h1:br<gx)(h2:br<gm)(h3:gm<B)(hne:gm≠gx)(hn:n≤16)
  (hl:t.checks.length≤100) (hcc:(decide (16<n+1)&&P12.bh r)=false) (hck:P12.isT [67,72,69,67,75] r=true) (hb:gx<w.heap.size) (hgs:gc<w.heap.size) :
  Calls af 199 #[rp br,rp gx,rp gm,bs c] w (sA br gx gm gc B n t k w r (match P12.within P12.expr (P12.ax r)with | .error e => .error e | .ok (e,r)=> .ok (.inl e,r))):=by
 have lr:=h.lt;have H:=aa h;have HX:=aa hx;have HM:=aa hm;have HB:=hx.bounds;clear h hx hm;obtain⟨i0,hi,hz0,hz1,hz2⟩:=cP Tryz.jH;have Hi:=aa hi;have Hz0:=aa hz0;have Hz1:=aa hz1;have Hz2:=aa hz2;clear hi hz0 hz1 hz2
 cases hw:P12.within P12.expr (P12.ax r)with
 | error er=>
  go_enter Tryz.func199,Tryz.ntmps199;go_wp2_with fail;go_at_call 200;refine(iW br n 16 gm r _ (rp br) 198 (P12.bh r) w H.out HM.out h2 ab ab (.inl rfl) jt (λW hr _=>fb br r W hr)).mono ?_;rintro e w1 ⟨hx1,he1⟩;rw[if_neg (by rw[hcc];simp)]at he1;subst he1
  have hm1:w1.heap[gm]?=some (gu br (n+1) 16):=by
   rw[hx1.block _ (by rw[aM];exact(ae.1 HM.out).1),heap_setCell_same w gm 1 _ _ _ HM.out];simp
  have F1:Cf br gx gm gc B (n+1) t k w r r w1:=⟨(Rd.setCell H.out ab 1 _).ext hx1,(HX.out.setCell h3 hne 1 _).ext hx1,hm1,((cD.refl _ _ _ _).setCell (.inr ⟨by simp,h3⟩) 1 _).trans (cD.aR hx1),P12.bW.refl _,h1,h2,h3,hne,by have:=hx1.size;rw[aM]at this;omega⟩;clear hx1 hm1;go_wp2_with fail;go_at_call 20;refine(jm br r [67,72,69,67,75] _ F1.rd).mono ?_;rw[hck];rintro e w2 ⟨rfl,ht2,hr2,hk2⟩;simp only[P12.has,hck,aS,if_true,if_false]at hr2 hk2;have F2:=F1.step ht2 hr2 hk2;clear ht2 hr2 hk2 F1;obtain⟨col,tc,tk,tq,kc,T0,h9⟩:=F2.tab;have T:=T0.yh 2
  obtain⟨a1,a2,b1,b2,c1,c2,d1,d2,rfl,rfl,rfl,rfl⟩:=T.form;have hG1:w2.cell? ⟨gx,4,none⟩=some (.slice c1 t.checks.length c2):=by simp[ak,T.blk]
  have G1:=aa hG1;have hsz2:=F2.gxB;clear hG1 T0;go_wp2
  refine Xg.ed (E:=ah br) (Xe.bS _) (λch W=>fU ch=bq er/\ah br w2 W) 8 11 (λ_=>none) (λ_ _ h=>by cases h) (λ_ _ _ _ h=>by cases h) [(8,λ_ _=>False),(10,nC w2)] au au (Xg.cg ((by
     intro y hy;simp only[aJ,aF,or_false]at hy;rcases hy with rfl|rfl
     ·rw[if_pos rfl];exact λ_ _ _ _ h=>h
     ·rw[if_neg (show ¬ (10=8) by decide)];exact nC.turn ab))) ((λch a w' hd hX=>by exact⟨hd,hX.1,F2.after hX.2⟩)) 7 rfl ?_
  simp only[aG,aY,aL,bd];refine Xg.gs ?_;refine Xs.gf (show w2.drew.cell? ⟨gx,4,none⟩=some (.slice c1 t.checks.length c2)from G1.out) ?_;refine Xg.gs ?_;(refine Xg.dM az az rfl (λW hx hp=>?_) (λu K hK=>?_);(go_simp;((refine(ru br (P12.ax r) _ (F2.rd.drew.ext hx)).mono ?_);intro e w2 h;rw[hw]at h;obtain⟨h1,h2⟩:=h;exact rl ⟨_,h1,by exact⟨rfl,(ah.drew (ah.refl _ _)).trans ((ah.aR hx).trans h2)⟩⟩));(go_simp;refine hK _ ?_;clear hK K))
  refine Xg.gs ?_;(refine Xg.bc az az aq (λW hx hp=>?_) (λu2 K hK=>?_);((go_simp;exact⟨(al _ _).alloc (ai _) _,⟨W.heap.size,rfl,by simpa using hx.size,aw W _⟩,λb hb=>by cases hb;exact⟨.inr (ai _),by simp⟩⟩));(go_simp;refine hK _ ?_;clear hK K))
  refine Xg.bD (λW hx hp hg=>?_);exact hp.2.1.elim
 | ok p=>
  obtain⟨x,r4⟩:=p;go_enter Tryz.func199,Tryz.ntmps199;go_wp2_with fail;go_at_call 200;refine(iW br n 16 gm r _ (rp br) 198 (P12.bh r) w H.out HM.out h2 ab ab (.inl rfl) jt (λW hr _=>fb br r W hr)).mono ?_;rintro e w1 ⟨hx1,he1⟩;rw[if_neg (by rw[hcc];simp)]at he1;subst he1
  have hm1:w1.heap[gm]?=some (gu br (n+1) 16):=by
   rw[hx1.block _ (by rw[aM];exact(ae.1 HM.out).1),heap_setCell_same w gm 1 _ _ _ HM.out];simp
  have F1:Cf br gx gm gc B (n+1) t k w r r w1:=⟨(Rd.setCell H.out ab 1 _).ext hx1,(HX.out.setCell h3 hne 1 _).ext hx1,hm1,((cD.refl _ _ _ _).setCell (.inr ⟨by simp,h3⟩) 1 _).trans (cD.aR hx1),P12.bW.refl _,h1,h2,h3,hne,by have:=hx1.size;rw[aM]at this;omega⟩;clear hx1 hm1;go_wp2_with fail;go_at_call 20;refine(jm br r [67,72,69,67,75] _ F1.rd).mono ?_;rw[hck];rintro e w2 ⟨rfl,ht2,hr2,hk2⟩;simp only[P12.has,hck,aS,if_true,if_false]at hr2 hk2;have F2:=F1.step ht2 hr2 hk2;clear ht2 hr2 hk2 F1;obtain⟨col,tc,tk,tq,kc,T0,h9⟩:=F2.tab;have T:=T0.yh 2
  obtain⟨a1,a2,b1,b2,c1,c2,d1,d2,rfl,rfl,rfl,rfl⟩:=T.form;have hG1:w2.cell? ⟨gx,4,none⟩=some (.slice c1 t.checks.length c2):=by simp[ak,T.blk]
  have G1:=aa hG1;have hsz2:=F2.gxB;clear hG1 T0;go_wp2
  refine Xg.ed (E:=ah br) (Xe.bS _) (λch W=>False) 8 11 (λ_=>none) (λ_ _ h=>by cases h) (λ_ _ _ _ h=>by cases h) [(8,wW br w2 (P12.ax r) x r4),(10,nC w2)] au au (Xg.cg ((by
     intro y hy;simp only[aJ,aF,or_false]at hy;rcases hy with rfl|rfl
     ·rw[if_pos rfl];exact wW.ext
     ·rw[if_neg (show ¬ (10=8) by decide)];exact nC.turn ab))) ((λch a w' hd hX=>hX.elim)) 7 rfl ?_
  simp only[aG,aY,aL,bd];refine Xg.gs ?_;refine Xs.gf (show w2.drew.cell? ⟨gx,4,none⟩=some (.slice c1 t.checks.length c2)from G1.out) ?_;refine Xg.gs ?_;(refine Xg.dM az az rfl (λW hx hp=>?_) (λu K hK=>?_);(go_simp;((refine(ru br (P12.ax r) _ (F2.rd.drew.ext hx)).mono ?_);intro e w2 h;rw[hw]at h;obtain⟨v',rfl,⟨l,rfl,he⟩,h1,h2,h3⟩:=h;exact kr ⟨_,rfl,h1,⟨l,rfl,he.mono (λb hb _=>bI hx.size hb),h2,h3⟩,λb hb=>by cases hb⟩));(go_simp;refine hK _ ?_;clear hK K))
  refine Xg.gs ?_;(refine Xg.bc az az aq (λW hx hp=>?_) (λu2 K hK=>?_);((go_simp;exact⟨(al _ _).alloc (ai _) _,⟨W.heap.size,rfl,by simpa using hx.size,aw W _⟩,λb hb=>by cases hb;exact⟨.inr (ai _),by simp⟩⟩));(go_simp;refine hK _ ?_;clear hK K))
  refine Xg.bD (λW hx hp hg=>?_);obtain⟨⟨g,rfl,hge,hgc⟩,⟨l,rfl,he,hr1,hk1⟩,-⟩:=hp;have hx':ah br w2 W:=(ah.drew (ah.refl _ _)).trans hx;have hsz:=hx'.size;have TW:=T.turn hx' F2.h1;have HTW:=aa TW;obtain⟨us,-,hown,hS,hu2,hu3,hu4⟩:=TW.tq;have HU:=aa hu4;have hlt0:=T.tq.lt;have hlt:=TW.tq.lt;have hcg:B≤gc->(λb=>if b<w2.heap.size then col b else 2) gc=9:=λh=>(if_pos F2.h5).trans (h9 h);have hnew:∀b,w2.heap.size≤b->(λb=>if b<w2.heap.size then col b else 2) b=2:=λb hb=>if_neg ab;clear hu4 hx hg TW;refine Xg.bK (k:=11) au rfl ?_
  refine Xo.bY 0 rfl _ _ 25 rfl 35 i0 _ 10 120 ku Hi.out Hz0.out Hz1.out Hz2.out rfl aq (.slice c1 t.checks.length c2) t.checks.length us.flatten rfl hown g 0 1 1 noE rfl aq rfl (jJ hgc) (dS au) ab (gM _) ?_;intro v' w7 ho' hg' hk';obtain⟨z,cz,rfl⟩:=eR ho' ab;have T7:=Tab.Jb (x:=P12.E.none) HTW.out (λb hb=>hnew b ab) hu2 hu3 HU.out hg' ho' hk' rfl rfl;have HE7:=aa (he.bg (S':=λb=>w2.heap.size≤b/\b<W.heap.size) (w':=w7) (λb hb hl=>hg'.block b hl (λe=>by have:=(hlt0 b e.symm).2;omega)) (λb hb hl=>⟨hb,hl⟩));have HR7:=aa (hr1.grown hg' (λb hb=>by have:=(hlt b hb).1.1;omega))
  have HK7:=aa ((F2.after hx').grown hg' (λb hb=>⟨(hlt b hb).1.1,λhB e=>by have h2:=(hlt b hb).1.2;rw[e]at h2;have h3:=hcg hB;dsimp only at h2 h3;omega⟩));have HM7:=aa ((hg'.block gm ab (λe=>by have:=(hlt gm e.symm).1.1;omega)).trans (hx'.held F2.many ab));have HKP:=aa hk1;have hzB:B≤z:=(T7.tq.lt z rfl).1.1;have hzG:B≤z/\(B≤gc->z≠gc):=⟨hzB,λhB e=>by have h2:=(T7.tq.lt z rfl).1.2;rw[e]at h2;have h3:=hcg hB;dsimp only at h2 h3;omega⟩
  have hzW:∀b,w2.heap.size≤b->b<W.heap.size->¬ z=b:=λb h1 h2 e=>by
   subst e;rcases hk' z rfl with h|h
   ·have:=(hlt0 z h).2;omega
   ·omega
  obtain⟨-,cur,hcur,hcs0⟩:=T7.tq.mem
  have hcs:t.checks.length*10+10≤cur.size:=by
   have:(t.checks ++ [P12.E.none]).length=t.checks.length+1:=aI
   rw[show({ t with checks:=t.checks ++ [P12.E.none] }:P12.Tb).checks=t.checks ++ [P12.E.none]from rfl,this]at hcs0;omega
  have HC7:=aa hcur;have hb7:w7.cell? ⟨gx,4,none⟩=some (.slice c1 t.checks.length c2):=by simp[ak,T7.blk]
  have f7:=aD w7 gx 4 _ _ T7.blk;have T7H:=aa T7;clear ho' hg' hk' hlt hown hu2 hu3 HU us HTW hx' hgc hge hr1 he hcur T7 T hS hcs0;show wpAny _ _ _ _ _ _ _ _
  obtain⟨kd,op',vk,vi,vs,tb,nm,pp,pm,pc,rfl⟩:=HE7.out.form;refine Xg.dC (j:=12) (k:=14) au rfl rfl ?_ ?_
  ·go_wp2;show wpAny _ _ _ _ _ _ _ _
   refine Xg.dC (j:=13) (k:=14) au rfl rfl ?_ ?_
   ·refine aV rfl 35 _ _ rfl z (t.checks.length*10) cur _ 35 rfl rfl HC7.out hcs au au ?_;intro w8 hp8;show wpAny _ _ _ _ _ _ _ _
    have T8:=Tab.kj T7H.out HC7.out hp8 rfl (HE7.out.bg (λ_ _ _=>rfl) (λb hb _=>⟨⟨by omega,hnew b hb.1⟩,hzW b hb.1 hb.2⟩));have hb8:w8.cell? ⟨gx,4,none⟩=some (.slice c1 t.checks.length c2):=by simp[ak,T8.blk]
    have f8:=aD w8 gx 4 _ _ T8.blk;have T8H:=aa T8;have HP8:=aa hp8;clear T8 hp8;refine Xg.bK (k:=14) au rfl ?_;go_wp2;show wpAny _ _ _ _ _ _ _ _
    refine Xg.bK (k:=15) au rfl ?_;go_wp2;show wpAny _ _ _ _ _ _ _ _
    refine Xg.bK (k:=16) au rfl ?_;go_wp2;show wpAny _ _ _ _ _ _ _ _
    refine Xg.bK (k:=17) au rfl ?_;go_wp2;show wpAny _ _ _ _ _ _ _ _
    refine Xg.any_nil au ?_;go_wp2;go_end0
    exact⟨rfl,⟨_,_,_,_,_,T8H.out.gV 4 (.slice (some ⟨z,0,none⟩) (t.checks.length+1) cz),hcg⟩,(an w8 ⟨gx,4,none⟩ gm _ (λe=>F2.h4 (by simpa using e))).trans ((HP8.out.rest gm ab).trans HM7.out),Rd.setCell (bt.rd HP8.out HR7.out ab) F2.h1 _ _,HKP.out,(HK7.out.trans (cD.dd HP8.out hzG)).setCell (.inr ⟨by simp,hsz2.1⟩) _ _⟩
   ·go_wp2;show wpAny _ _ _ _ _ _ _ _
    refine Xg.dC (j:=13) (k:=15) au rfl rfl ?_ ?_
    ·refine aV rfl 35 _ _ rfl z (t.checks.length*10) cur _ 35 rfl rfl HC7.out hcs au au ?_;intro w8 hp8;show wpAny _ _ _ _ _ _ _ _
     have T8:=Tab.kj T7H.out HC7.out hp8 rfl (HE7.out.bg (λ_ _ _=>rfl) (λb hb _=>⟨⟨by omega,hnew b hb.1⟩,hzW b hb.1 hb.2⟩));have hb8:w8.cell? ⟨gx,4,none⟩=some (.slice c1 t.checks.length c2):=by simp[ak,T8.blk]
     have f8:=aD w8 gx 4 _ _ T8.blk;have T8H:=aa T8;have HP8:=aa hp8;clear T8 hp8;refine Xg.bK (k:=15) au rfl ?_;go_wp2;show wpAny _ _ _ _ _ _ _ _
     refine Xg.bK (k:=16) au rfl ?_;go_wp2;show wpAny _ _ _ _ _ _ _ _
     refine Xg.bK (k:=17) au rfl ?_;go_wp2;show wpAny _ _ _ _ _ _ _ _
     refine Xg.any_nil au ?_;go_wp2;go_end0
     exact⟨rfl,⟨_,_,_,_,_,T8H.out.gV 4 (.slice (some ⟨z,0,none⟩) (t.checks.length+1) cz),hcg⟩,(an w8 ⟨gx,4,none⟩ gm _ (λe=>F2.h4 (by simpa using e))).trans ((HP8.out.rest gm ab).trans HM7.out),Rd.setCell (bt.rd HP8.out HR7.out ab) F2.h1 _ _,HKP.out,(HK7.out.trans (cD.dd HP8.out hzG)).setCell (.inr ⟨by simp,hsz2.1⟩) _ _⟩
    ·go_wp2;show wpAny _ _ _ _ _ _ _ _
     refine Xg.dC (j:=13) (k:=16) au rfl rfl ?_ ?_
     ·refine aV rfl 35 _ _ rfl z (t.checks.length*10) cur _ 35 rfl rfl HC7.out hcs au au ?_;intro w8 hp8;show wpAny _ _ _ _ _ _ _ _
      have T8:=Tab.kj T7H.out HC7.out hp8 rfl (HE7.out.bg (λ_ _ _=>rfl) (λb hb _=>⟨⟨by omega,hnew b hb.1⟩,hzW b hb.1 hb.2⟩));have hb8:w8.cell? ⟨gx,4,none⟩=some (.slice c1 t.checks.length c2):=by simp[ak,T8.blk]
      have f8:=aD w8 gx 4 _ _ T8.blk;have T8H:=aa T8;have HP8:=aa hp8;clear T8 hp8;refine Xg.bK (k:=16) au rfl ?_;go_wp2;show wpAny _ _ _ _ _ _ _ _
      refine Xg.bK (k:=17) au rfl ?_;go_wp2;show wpAny _ _ _ _ _ _ _ _
      refine Xg.any_nil au ?_;go_wp2;go_end0
      exact⟨rfl,⟨_,_,_,_,_,T8H.out.gV 4 (.slice (some ⟨z,0,none⟩) (t.checks.length+1) cz),hcg⟩,(an w8 ⟨gx,4,none⟩ gm _ (λe=>F2.h4 (by simpa using e))).trans ((HP8.out.rest gm ab).trans HM7.out),Rd.setCell (bt.rd HP8.out HR7.out ab) F2.h1 _ _,HKP.out,(HK7.out.trans (cD.dd HP8.out hzG)).setCell (.inr ⟨by simp,hsz2.1⟩) _ _⟩
     ·go_wp2;show wpAny _ _ _ _ _ _ _ _
      refine Xg.dC (j:=13) (k:=17) au rfl rfl ?_ ?_
      ·refine aV rfl 35 _ _ rfl z (t.checks.length*10) cur _ 35 rfl rfl HC7.out hcs au au ?_;intro w8 hp8;show wpAny _ _ _ _ _ _ _ _
       have T8:=Tab.kj T7H.out HC7.out hp8 rfl (HE7.out.bg (λ_ _ _=>rfl) (λb hb _=>⟨⟨by omega,hnew b hb.1⟩,hzW b hb.1 hb.2⟩));have hb8:w8.cell? ⟨gx,4,none⟩=some (.slice c1 t.checks.length c2):=by simp[ak,T8.blk]
       have f8:=aD w8 gx 4 _ _ T8.blk;have T8H:=aa T8;have HP8:=aa hp8;clear T8 hp8;refine Xg.bK (k:=17) au rfl ?_;go_wp2;show wpAny _ _ _ _ _ _ _ _
       refine Xg.any_nil au ?_;go_wp2;go_end0
       exact⟨rfl,⟨_,_,_,_,_,T8H.out.gV 4 (.slice (some ⟨z,0,none⟩) (t.checks.length+1) cz),hcg⟩,(an w8 ⟨gx,4,none⟩ gm _ (λe=>F2.h4 (by simpa using e))).trans ((HP8.out.rest gm ab).trans HM7.out),Rd.setCell (bt.rd HP8.out HR7.out ab) F2.h1 _ _,HKP.out,(HK7.out.trans (cD.dd HP8.out hzG)).setCell (.inr ⟨by simp,hsz2.1⟩) _ _⟩
      ·go_wp2;show wpAny _ _ _ _ _ _ _ _
       refine Xg.bK (k:=13) au rfl ?_;refine aV rfl 35 _ _ rfl z (t.checks.length*10) cur _ 35 rfl rfl ((an w7 ⟨gx,4,none⟩ z _ (λe=>by(have h:z=gx:=(by simpa using e));omega)).trans HC7.out) hcs au au ?_;intro w8 hp8;show wpAny _ _ _ _ _ _ _ _
       refine Xg.any_nil au ?_;go_wp2;go_end0
       have hrst:∀b,b≠gx->(w7.setCell ⟨gx,4,none⟩ (.slice (some ⟨z,0,none⟩) (t.checks.length+1) cz)).heap[b]?=w7.heap[b]?:=λb hb=>an w7 ⟨gx,4,none⟩ b _ (λe=>hb (by simpa using e));exact⟨rfl,⟨_,_,_,_,_,Tab.kj (T7H.out.gV 4 (.slice (some ⟨z,0,none⟩) (t.checks.length+1) cz)) ((hrst z ab).trans HC7.out) hp8 rfl (HE7.out.bg (λb hb hl=>hrst b ab) (λb hb _=>⟨⟨by omega,hnew b hb.1⟩,hzW b hb.1 hb.2⟩)),hcg⟩,(hp8.rest gm ab).trans ((hrst gm F2.h4).trans HM7.out),bt.rd hp8 (Rd.setCell HR7.out F2.h1 _ _) ab,HKP.out,(HK7.out.setCell (.inr ⟨by simp,hsz2.1⟩) _ _).trans (cD.dd hp8 hzG)⟩
  ·go_wp2;show wpAny _ _ _ _ _ _ _ _
   refine Xg.dC (j:=12) (k:=15) au rfl rfl ?_ ?_
   ·go_wp2;show wpAny _ _ _ _ _ _ _ _
    refine Xg.dC (j:=13) (k:=15) au rfl rfl ?_ ?_
    ·refine aV rfl 35 _ _ rfl z (t.checks.length*10) cur _ 35 rfl rfl HC7.out hcs au au ?_;intro w8 hp8;show wpAny _ _ _ _ _ _ _ _
     have T8:=Tab.kj T7H.out HC7.out hp8 rfl (HE7.out.bg (λ_ _ _=>rfl) (λb hb _=>⟨⟨by omega,hnew b hb.1⟩,hzW b hb.1 hb.2⟩));have hb8:w8.cell? ⟨gx,4,none⟩=some (.slice c1 t.checks.length c2):=by simp[ak,T8.blk]
     have f8:=aD w8 gx 4 _ _ T8.blk;have T8H:=aa T8;have HP8:=aa hp8;clear T8 hp8;refine Xg.bK (k:=15) au rfl ?_;go_wp2;show wpAny _ _ _ _ _ _ _ _
     refine Xg.bK (k:=16) au rfl ?_;go_wp2;show wpAny _ _ _ _ _ _ _ _
     refine Xg.bK (k:=17) au rfl ?_;go_wp2;show wpAny _ _ _ _ _ _ _ _
     refine Xg.any_nil au ?_;go_wp2;go_end0
     exact⟨rfl,⟨_,_,_,_,_,T8H.out.gV 4 (.slice (some ⟨z,0,none⟩) (t.checks.length+1) cz),hcg⟩,(an w8 ⟨gx,4,none⟩ gm _ (λe=>F2.h4 (by simpa using e))).trans ((HP8.out.rest gm ab).trans HM7.out),Rd.setCell (bt.rd HP8.out HR7.out ab) F2.h1 _ _,HKP.out,(HK7.out.trans (cD.dd HP8.out hzG)).setCell (.inr ⟨by simp,hsz2.1⟩) _ _⟩
    ·go_wp2;show wpAny _ _ _ _ _ _ _ _
     refine Xg.dC (j:=13) (k:=16) au rfl rfl ?_ ?_
     ·refine aV rfl 35 _ _ rfl z (t.checks.length*10) cur _ 35 rfl rfl HC7.out hcs au au ?_;intro w8 hp8;show wpAny _ _ _ _ _ _ _ _
      have T8:=Tab.kj T7H.out HC7.out hp8 rfl (HE7.out.bg (λ_ _ _=>rfl) (λb hb _=>⟨⟨by omega,hnew b hb.1⟩,hzW b hb.1 hb.2⟩));have hb8:w8.cell? ⟨gx,4,none⟩=some (.slice c1 t.checks.length c2):=by simp[ak,T8.blk]
      have f8:=aD w8 gx 4 _ _ T8.blk;have T8H:=aa T8;have HP8:=aa hp8;clear T8 hp8;refine Xg.bK (k:=16) au rfl ?_;go_wp2;show wpAny _ _ _ _ _ _ _ _
      refine Xg.bK (k:=17) au rfl ?_;go_wp2;show wpAny _ _ _ _ _ _ _ _
      refine Xg.any_nil au ?_;go_wp2;go_end0
      exact⟨rfl,⟨_,_,_,_,_,T8H.out.gV 4 (.slice (some ⟨z,0,none⟩) (t.checks.length+1) cz),hcg⟩,(an w8 ⟨gx,4,none⟩ gm _ (λe=>F2.h4 (by simpa using e))).trans ((HP8.out.rest gm ab).trans HM7.out),Rd.setCell (bt.rd HP8.out HR7.out ab) F2.h1 _ _,HKP.out,(HK7.out.trans (cD.dd HP8.out hzG)).setCell (.inr ⟨by simp,hsz2.1⟩) _ _⟩
     ·go_wp2;show wpAny _ _ _ _ _ _ _ _
      refine Xg.dC (j:=13) (k:=17) au rfl rfl ?_ ?_
      ·refine aV rfl 35 _ _ rfl z (t.checks.length*10) cur _ 35 rfl rfl HC7.out hcs au au ?_;intro w8 hp8;show wpAny _ _ _ _ _ _ _ _
       have T8:=Tab.kj T7H.out HC7.out hp8 rfl (HE7.out.bg (λ_ _ _=>rfl) (λb hb _=>⟨⟨by omega,hnew b hb.1⟩,hzW b hb.1 hb.2⟩));have hb8:w8.cell? ⟨gx,4,none⟩=some (.slice c1 t.checks.length c2):=by simp[ak,T8.blk]
       have f8:=aD w8 gx 4 _ _ T8.blk;have T8H:=aa T8;have HP8:=aa hp8;clear T8 hp8;refine Xg.bK (k:=17) au rfl ?_;go_wp2;show wpAny _ _ _ _ _ _ _ _
       refine Xg.any_nil au ?_;go_wp2;go_end0
       exact⟨rfl,⟨_,_,_,_,_,T8H.out.gV 4 (.slice (some ⟨z,0,none⟩) (t.checks.length+1) cz),hcg⟩,(an w8 ⟨gx,4,none⟩ gm _ (λe=>F2.h4 (by simpa using e))).trans ((HP8.out.rest gm ab).trans HM7.out),Rd.setCell (bt.rd HP8.out HR7.out ab) F2.h1 _ _,HKP.out,(HK7.out.trans (cD.dd HP8.out hzG)).setCell (.inr ⟨by simp,hsz2.1⟩) _ _⟩
      ·go_wp2;show wpAny _ _ _ _ _ _ _ _
       refine Xg.bK (k:=13) au rfl ?_;refine aV rfl 35 _ _ rfl z (t.checks.length*10) cur _ 35 rfl rfl ((an w7 ⟨gx,4,none⟩ z _ (λe=>by(have h:z=gx:=(by simpa using e));omega)).trans HC7.out) hcs au au ?_;intro w8 hp8;show wpAny _ _ _ _ _ _ _ _
       refine Xg.any_nil au ?_;go_wp2;go_end0
       have hrst:∀b,b≠gx->(w7.setCell ⟨gx,4,none⟩ (.slice (some ⟨z,0,none⟩) (t.checks.length+1) cz)).heap[b]?=w7.heap[b]?:=λb hb=>an w7 ⟨gx,4,none⟩ b _ (λe=>hb (by simpa using e));exact⟨rfl,⟨_,_,_,_,_,Tab.kj (T7H.out.gV 4 (.slice (some ⟨z,0,none⟩) (t.checks.length+1) cz)) ((hrst z ab).trans HC7.out) hp8 rfl (HE7.out.bg (λb hb hl=>hrst b ab) (λb hb _=>⟨⟨by omega,hnew b hb.1⟩,hzW b hb.1 hb.2⟩)),hcg⟩,(hp8.rest gm ab).trans ((hrst gm F2.h4).trans HM7.out),bt.rd hp8 (Rd.setCell HR7.out F2.h1 _ _) ab,HKP.out,(HK7.out.setCell (.inr ⟨by simp,hsz2.1⟩) _ _).trans (cD.dd hp8 hzG)⟩
   ·go_wp2;show wpAny _ _ _ _ _ _ _ _
    refine Xg.dC (j:=12) (k:=16) au rfl rfl ?_ ?_
    ·go_wp2;show wpAny _ _ _ _ _ _ _ _
     refine Xg.dC (j:=13) (k:=16) au rfl rfl ?_ ?_
     ·refine aV rfl 35 _ _ rfl z (t.checks.length*10) cur _ 35 rfl rfl HC7.out hcs au au ?_;intro w8 hp8;show wpAny _ _ _ _ _ _ _ _
      have T8:=Tab.kj T7H.out HC7.out hp8 rfl (HE7.out.bg (λ_ _ _=>rfl) (λb hb _=>⟨⟨by omega,hnew b hb.1⟩,hzW b hb.1 hb.2⟩));have hb8:w8.cell? ⟨gx,4,none⟩=some (.slice c1 t.checks.length c2):=by simp[ak,T8.blk]
      have f8:=aD w8 gx 4 _ _ T8.blk;have T8H:=aa T8;have HP8:=aa hp8;clear T8 hp8;refine Xg.bK (k:=16) au rfl ?_;go_wp2;show wpAny _ _ _ _ _ _ _ _
      refine Xg.bK (k:=17) au rfl ?_;go_wp2;show wpAny _ _ _ _ _ _ _ _
      refine Xg.any_nil au ?_;go_wp2;go_end0
      exact⟨rfl,⟨_,_,_,_,_,T8H.out.gV 4 (.slice (some ⟨z,0,none⟩) (t.checks.length+1) cz),hcg⟩,(an w8 ⟨gx,4,none⟩ gm _ (λe=>F2.h4 (by simpa using e))).trans ((HP8.out.rest gm ab).trans HM7.out),Rd.setCell (bt.rd HP8.out HR7.out ab) F2.h1 _ _,HKP.out,(HK7.out.trans (cD.dd HP8.out hzG)).setCell (.inr ⟨by simp,hsz2.1⟩) _ _⟩
     ·go_wp2;show wpAny _ _ _ _ _ _ _ _
      refine Xg.dC (j:=13) (k:=17) au rfl rfl ?_ ?_
      ·refine aV rfl 35 _ _ rfl z (t.checks.length*10) cur _ 35 rfl rfl HC7.out hcs au au ?_;intro w8 hp8;show wpAny _ _ _ _ _ _ _ _
       have T8:=Tab.kj T7H.out HC7.out hp8 rfl (HE7.out.bg (λ_ _ _=>rfl) (λb hb _=>⟨⟨by omega,hnew b hb.1⟩,hzW b hb.1 hb.2⟩));have hb8:w8.cell? ⟨gx,4,none⟩=some (.slice c1 t.checks.length c2):=by simp[ak,T8.blk]
       have f8:=aD w8 gx 4 _ _ T8.blk;have T8H:=aa T8;have HP8:=aa hp8;clear T8 hp8;refine Xg.bK (k:=17) au rfl ?_;go_wp2;show wpAny _ _ _ _ _ _ _ _
       refine Xg.any_nil au ?_;go_wp2;go_end0
       exact⟨rfl,⟨_,_,_,_,_,T8H.out.gV 4 (.slice (some ⟨z,0,none⟩) (t.checks.length+1) cz),hcg⟩,(an w8 ⟨gx,4,none⟩ gm _ (λe=>F2.h4 (by simpa using e))).trans ((HP8.out.rest gm ab).trans HM7.out),Rd.setCell (bt.rd HP8.out HR7.out ab) F2.h1 _ _,HKP.out,(HK7.out.trans (cD.dd HP8.out hzG)).setCell (.inr ⟨by simp,hsz2.1⟩) _ _⟩
      ·go_wp2;show wpAny _ _ _ _ _ _ _ _
       refine Xg.bK (k:=13) au rfl ?_;refine aV rfl 35 _ _ rfl z (t.checks.length*10) cur _ 35 rfl rfl ((an w7 ⟨gx,4,none⟩ z _ (λe=>by(have h:z=gx:=(by simpa using e));omega)).trans HC7.out) hcs au au ?_;intro w8 hp8;show wpAny _ _ _ _ _ _ _ _
       refine Xg.any_nil au ?_;go_wp2;go_end0
       have hrst:∀b,b≠gx->(w7.setCell ⟨gx,4,none⟩ (.slice (some ⟨z,0,none⟩) (t.checks.length+1) cz)).heap[b]?=w7.heap[b]?:=λb hb=>an w7 ⟨gx,4,none⟩ b _ (λe=>hb (by simpa using e));exact⟨rfl,⟨_,_,_,_,_,Tab.kj (T7H.out.gV 4 (.slice (some ⟨z,0,none⟩) (t.checks.length+1) cz)) ((hrst z ab).trans HC7.out) hp8 rfl (HE7.out.bg (λb hb hl=>hrst b ab) (λb hb _=>⟨⟨by omega,hnew b hb.1⟩,hzW b hb.1 hb.2⟩)),hcg⟩,(hp8.rest gm ab).trans ((hrst gm F2.h4).trans HM7.out),bt.rd hp8 (Rd.setCell HR7.out F2.h1 _ _) ab,HKP.out,(HK7.out.setCell (.inr ⟨by simp,hsz2.1⟩) _ _).trans (cD.dd hp8 hzG)⟩
    ·go_wp2;show wpAny _ _ _ _ _ _ _ _
     refine Xg.dC (j:=12) (k:=17) au rfl rfl ?_ ?_
     ·go_wp2;show wpAny _ _ _ _ _ _ _ _
      refine Xg.dC (j:=13) (k:=17) au rfl rfl ?_ ?_
      ·refine aV rfl 35 _ _ rfl z (t.checks.length*10) cur _ 35 rfl rfl HC7.out hcs au au ?_;intro w8 hp8;show wpAny _ _ _ _ _ _ _ _
       have T8:=Tab.kj T7H.out HC7.out hp8 rfl (HE7.out.bg (λ_ _ _=>rfl) (λb hb _=>⟨⟨by omega,hnew b hb.1⟩,hzW b hb.1 hb.2⟩));have hb8:w8.cell? ⟨gx,4,none⟩=some (.slice c1 t.checks.length c2):=by simp[ak,T8.blk]
       have f8:=aD w8 gx 4 _ _ T8.blk;have T8H:=aa T8;have HP8:=aa hp8;clear T8 hp8;refine Xg.bK (k:=17) au rfl ?_;go_wp2;show wpAny _ _ _ _ _ _ _ _
       refine Xg.any_nil au ?_;go_wp2;go_end0
       exact⟨rfl,⟨_,_,_,_,_,T8H.out.gV 4 (.slice (some ⟨z,0,none⟩) (t.checks.length+1) cz),hcg⟩,(an w8 ⟨gx,4,none⟩ gm _ (λe=>F2.h4 (by simpa using e))).trans ((HP8.out.rest gm ab).trans HM7.out),Rd.setCell (bt.rd HP8.out HR7.out ab) F2.h1 _ _,HKP.out,(HK7.out.trans (cD.dd HP8.out hzG)).setCell (.inr ⟨by simp,hsz2.1⟩) _ _⟩
      ·go_wp2;show wpAny _ _ _ _ _ _ _ _
       refine Xg.bK (k:=13) au rfl ?_;refine aV rfl 35 _ _ rfl z (t.checks.length*10) cur _ 35 rfl rfl ((an w7 ⟨gx,4,none⟩ z _ (λe=>by(have h:z=gx:=(by simpa using e));omega)).trans HC7.out) hcs au au ?_;intro w8 hp8;show wpAny _ _ _ _ _ _ _ _
       refine Xg.any_nil au ?_;go_wp2;go_end0
       have hrst:∀b,b≠gx->(w7.setCell ⟨gx,4,none⟩ (.slice (some ⟨z,0,none⟩) (t.checks.length+1) cz)).heap[b]?=w7.heap[b]?:=λb hb=>an w7 ⟨gx,4,none⟩ b _ (λe=>hb (by simpa using e));exact⟨rfl,⟨_,_,_,_,_,Tab.kj (T7H.out.gV 4 (.slice (some ⟨z,0,none⟩) (t.checks.length+1) cz)) ((hrst z ab).trans HC7.out) hp8 rfl (HE7.out.bg (λb hb hl=>hrst b ab) (λb hb _=>⟨⟨by omega,hnew b hb.1⟩,hzW b hb.1 hb.2⟩)),hcg⟩,(hp8.rest gm ab).trans ((hrst gm F2.h4).trans HM7.out),bt.rd hp8 (Rd.setCell HR7.out F2.h1 _ _) ab,HKP.out,(HK7.out.setCell (.inr ⟨by simp,hsz2.1⟩) _ _).trans (cD.dd hp8 hzG)⟩
     ·go_wp2;show wpAny _ _ _ _ _ _ _ _
      refine Xg.bK (k:=12) au rfl ?_;go_wp2;show wpAny _ _ _ _ _ _ _ _
      refine Xg.bK (k:=13) au rfl ?_;refine aV rfl 35 _ _ rfl z (t.checks.length*10) cur _ 35 rfl rfl ((an w7 ⟨gx,4,none⟩ z _ (λe=>by(have h:z=gx:=(by simpa using e));omega)).trans HC7.out) hcs au au ?_;intro w8 hp8;show wpAny _ _ _ _ _ _ _ _
      refine Xg.any_nil au ?_;go_wp2;go_end0
      have hrst:∀b,b≠gx->(w7.setCell ⟨gx,4,none⟩ (.slice (some ⟨z,0,none⟩) (t.checks.length+1) cz)).heap[b]?=w7.heap[b]?:=λb hb=>an w7 ⟨gx,4,none⟩ b _ (λe=>hb (by simpa using e));exact⟨rfl,⟨_,_,_,_,_,Tab.kj (T7H.out.gV 4 (.slice (some ⟨z,0,none⟩) (t.checks.length+1) cz)) ((hrst z ab).trans HC7.out) hp8 rfl (HE7.out.bg (λb hb hl=>hrst b ab) (λb hb _=>⟨⟨by omega,hnew b hb.1⟩,hzW b hb.1 hb.2⟩)),hcg⟩,(hp8.rest gm ab).trans ((hrst gm F2.h4).trans HM7.out),bt.rd hp8 (Rd.setCell HR7.out F2.h1 _ _) ab,HKP.out,(HK7.out.setCell (.inr ⟨by simp,hsz2.1⟩) _ _).trans (cD.dd hp8 hzG)⟩
end Go.Proofs.YtkpmclddjkebeaaGreatDoor
