/- Walks: parse.table; the print of every statement. -/
import Derived.Test.YtkpmclddjkebeaaGreatDoorBZE
import Derived.Test.YtkpmclddjkebeaaGreatDoorBZH
import Derived.Test.YtkpmclddjkebeaaGreatDoorBB
set_option linter.unusedSimpArgs false
set_option linter.unusedVariables false
set_option maxRecDepth 100000
set_option maxHeartbeats 8000000
open Go.Ending renaming returned→aP
open Go.Lib renaming hid→aa
open Go.Proofs.Tryz renaming prog→ab,underlying137→jR,underlying139→wH,underlying29→cN,underlying35→aW
open Go.RowKit.Below renaming grown→eg,refl→aj
open Go.Value renaming string→bp
open Go.World renaming block_lt_of_cell?→al,cell?→ak,ownsRow_nil→gL,size_alloc→af
open List renaming append_assoc→aJ,getElem?_eq_getElem→aU,getElem_mem→cp,length_append→aB,length_cons→aK,length_map→cH,length_nil→cM,map_append→iS,mem_append_left→np,take_length→fH,toArray→gE,zipWith→kS
open Nat renaming add_zero→jZ,lt_of_lt_of_le→aD,mul_one→nk
open List renaming take_succ_cons→aA,drop_succ_cons→aG,take_zero→aS,drop_zero→aT
open Go.World renaming size_setCell→aQ,size_drew→cQ
open Exists renaming intro→ai
open Go.Region renaming wanted→bO
open Go.Code renaming region→gC
open Or renaming inl→oQ,inr→zc
namespace Go.Proofs.YtkpmclddjkebeaaGreatDoor
open Go.RowKit
theorem s6{w:World}{l:List Value}{T:TypeId}{j:Nat}{v:Value}(hv:l[j]?=some v):(w.alloc (.cells l.toArray T)).cell? ⟨w.heap.size,j,none⟩=some v:=by
 have h:=az w (.cells l.toArray T);simp only[ak,h];simpa using hv
theorem qQ{α β:Type}{l:List α}{q:Nat}(h:q<l.length)(f:α->β):(l.take q).map f ++ [f l[q]]=(l.take (q+1)).map f:=fI (aU h) f
theorem B9{S:Nat->Prop}(tn:P12.T)(cols:List (P12.T×Int×Bool))(keys:List Bool)(kcs:List (List P12.T))(cks:List P12.E)(p1 p2 p3 p4:Option Addr)(c1 c2 c3 c4:Nat)(kind:Int)(l:List Value)
  (hl:l=cA kind tn (.slice p1 cols.length c1) (.slice p2 keys.length c2) (.slice p3 cks.length c3) (.slice p4 kcs.length c4) [] [] false ah ah ah noE ah ah noE ah ah 0) (w:World) (hE:Env w)
  (h1:aH S w 3 tV cols (.slice p1 cols.length c1)) (h2:aH S w 4 vQ keys (.slice p2 keys.length c2)) (h3:aH S w 10 (ez S w) cks (.slice p3 cks.length c3)) (h4:aH S w 1 (pX S w) kcs (.slice p4 kcs.length c4))
  (hk:kcs.length=keys.length) (ht:∀c∈cols,1≤c.2.1/\c.2.1≤3) (hn:∀k∈kcs,k.length≤16) (hi:∀e∈cks,P12.isE e=true) (hm:cols.length+keys.length+cks.length≤16)
  (hb:(P12.k9 { name:=tn,cols:=cols,keys:=keys,checks:=cks } kcs).length≤1000000) :
  Calls ab 47 #[.agg l.toArray] w λr w'=>r = .returned (bs (P12.k9 { name:=tn,cols:=cols,keys:=keys,checks:=cks } kcs))/\Xk.Ext w w':=by
 obtain⟨i0,hi,hz0,hz1,hz2⟩:=du Tryz.iG;have Hi:=aa hi;have Hz0:=aa hz0;have Hz1:=aa hz1;have Hz2:=aa hz2;clear hi hz0 hz1 hz2;have HL:=aa hl;have hll:l.length=37:=by rw[hl];rfl
 obtain⟨c0,hc0⟩:∃o,o=bq l:=⟨_,rfl⟩;clear hl;go_enter Tryz.func47,Tryz.ntmps47;go_upto_region 1 with fail
 have ha:(w.alloc (bq l)).heap[w.heap.size]?=some (bq l):=az w _;have hx0:Xk.Ext w (w.alloc (bq l)):=dz w _;generalize w.alloc (bq l)=w1 at *
 have g1:w1.cell? ⟨w.heap.size,1,none⟩=some (bs tn):=by rw[HL.out]at ha;simp[ak,ha]
 have g2:w1.cell? ⟨w.heap.size,2,none⟩=some (.slice p1 cols.length c1):=by rw[HL.out]at ha;simp[ak,ha]
 have g3:w1.cell? ⟨w.heap.size,3,none⟩=some (.slice p2 keys.length c2):=by rw[HL.out]at ha;simp[ak,ha]
 have g4:w1.cell? ⟨w.heap.size,4,none⟩=some (.slice p3 cks.length c3):=by rw[HL.out]at ha;simp[ak,ha]
 have g5:w1.cell? ⟨w.heap.size,5,none⟩=some (.slice p4 kcs.length c4):=by rw[HL.out]at ha;simp[ak,ha]
 have lb:=al _ _ g1;have HA:=aa ha;have HX0:=aa hx0;clear ha hx0;obtain⟨L1,hL1⟩:∃L:List P12.T,L=cols.map P12.dT:=⟨_,rfl⟩;have hlen1:L1.length=cols.length:=by rw[hL1,cH]
 have HL1:=aa hL1;have H1:=aa (h1.iQ HX0.out);have HT:=aa ht
 have hpt:∀a∈(cols.map P12.dT++(kS P12.fR keys kcs)++cks.map (λe => [67,72,69,67,75,32,40]++P12.text e ++ [41])),a.length≤1000000:=λa ha=>by
  have:=P12.tA ha;unfold P12.k9 at hb;simp only[aB]at hb;omega
 have HPT:=aa hpt;have hcl:∀ (c:P12.T×Int×Bool),c∈cols->(P12.dT c).length≤1000000:=λc hc=>hpt _ (np _ (np _ (List.mem_map_of_mem hc)));have HCL:=aa hcl;clear hL1 h1 ht hcl hpt;go_wp2_with fail;go_loopw [3,16] (λs x wr=>∃q:Nat,q≤cols.length/\x = .int .i64 q/\Xk.Ext w1 wr/\wr.ownsRow w1.heap.size 9 1 s q ((L1.take q).map bs)) (λ_ x _=>cols.length-(intOf x).toNat)
 case atStart=>exact⟨0,by omega,rfl,aj _ _,gL _ _ _ _⟩
 case round=>
  obtain⟨q,hq,rfl,hx,ho⟩:=hrel;obtain⟨ps,cs,rfl⟩:=gY ho;have HX:=aa hx;have HO:=aa ho;have hws:=hx.size;by_cases hlt:q<cols.length
  ·obtain⟨g,u,rfl,hg,hu,hr⟩:=dP H1.out hlt hx;have hu:u=_:=hu;subst hu;have HRJ:=aa hr;have hlb:(q:Int)<(cols.length:Int):=by omega
   have hmem:=cp hlt;have hty:=HT.out _ hmem;have hsz:=HCL.out _ hmem
   have hsnoc:(L1.take q).map bs ++ [bs (P12.dT cols[q])]=(L1.take (q+1)).map bs:=by
    have:=qQ (l:=L1) (q:=q) (by omega) bs;rw[← this];congr 3;simp[HL1.out]
   have HSN:=aa hsnoc;clear hx ho hr hmem hsnoc;generalize cols[q]=c at *
   obtain⟨cn,ct,cb⟩:=c;dsimp only at hty;have hnl:cn.length≤1000000:=by unfold P12.dT at hsz;simp at hsz;omega
   have m1:¬ 9223372036854775807<cn.length+1:=by omega
   have m2:¬ 9223372036854775807<cn.length+1+4:=by omega
   have m3:¬ 9223372036854775807<cn.length+1+3:=by omega
   have m4:¬ 9223372036854775807<cn.length+1+4+9:=by omega
   have m5:¬ 9223372036854775807<cn.length+1+3+9:=by omega
   have hty3:ct=1∨ct=2∨ct=3:=by omega
   rcases hty3 with rfl|rfl|rfl
   ·go_wp2_with (refine wpList_load_mid rfl 137 _ rfl g (q*3) rfl _ _ HRJ.out jR rfl (by kernel_rfl) ?_);refine Xk.reg 9 (Xk.w0 λp=>?_);generalize hWf:Xk.exw _ p=wf;have hxb:Xk.Ext (wr.alloc (.cells [bs cn,.int .i64 1,.bool cb].toArray 137)) wf:=by rw[← hWf];exact Xk.xt
    clear hWf;have k2:wf.cell? ⟨wr.heap.size,2,none⟩=some (.bool cb):=Xk.bn hxb (s6 rfl);have lk:=al _ _ k2;have hxf:Xk.Ext wr wf:=Xk.Ext.trans (dz wr _) hxb;have hlf:=hxf.size;have HOF:=aa (cF HO.out (λb hb=>hxf.block b (HO.out.lt b hb).2));have HXF:=aa (Xk.Ext.trans HX.out hxf);clear hxb hxf
    cases cb
    ·go_upto_region 8 with fail
     generalize htv:({ data:=gE cn }++ { data := #[32] }++ { data := #[66,79,79,76] }:ByteArray)=tv;have htb:bp tv=bs (P12.dT (cn,1,false)):=congrArg bp (by rw[← htv];apply bE;simp[P12.dT,P12.fB]);have HTB:=aa htb;clear htv htb k2
     go_wp2_with (at_builtin;refine Xo.bS w1.heap.size rfl _ _ 29 rfl 9 i0 _ 1 16 cN Hi.out Hz0.out Hz1.out Hz2.out rfl (by decide) (.slice ps q cs) q _ rfl (cF HOF.out (λb hb=>(dz wf (.cells #[bp tv] 9)).block b (HOF.out.lt b hb).2)) wf.heap.size 0 1 1 [bp tv] rfl (by decide) rfl (cV wf _ _ rfl) (dt (by kernel_rfl)) (by omega) (by rw[af];omega) ?_;intro v' w7 ho' hg' hk');have HO7:Hid (w7.ownsRow w1.heap.size 9 1 v' (q+1) ((L1.take (q+1)).map bs)):=aa (by rw[← HSN.out,← HTB.out];exact ho')
     have hx7:Xk.Ext w1 w7:=eg (Xk.Ext.trans HXF.out (dz wf _)) hg' (by rw[af];omega) (λj hj=>(HOF.out.lt j hj).1);have HX7:=aa hx7;clear ho' hg' hk' hx7;go_wp2_with fail;go_roundw
     case rel=>exact⟨q+1,by omega,by go_num,HX7.out,HO7.out⟩
     case measure=>simp[intOf];omega
    ·go_upto_region 8 with fail
     generalize htv:({ data:=gE cn }++ { data := #[32] }++ { data := #[66,79,79,76] }++ { data := #[32,78,79,84,32,78,85,76,76] }:ByteArray)=tv;have htb:bp tv=bs (P12.dT (cn,1,true)):=congrArg bp (by rw[← htv];apply bE;simp[P12.dT,P12.fB]);have HTB:=aa htb;clear htv htb k2
     go_wp2_with (at_builtin;refine Xo.bS w1.heap.size rfl _ _ 29 rfl 9 i0 _ 1 16 cN Hi.out Hz0.out Hz1.out Hz2.out rfl (by decide) (.slice ps q cs) q _ rfl (cF HOF.out (λb hb=>(dz wf (.cells #[bp tv] 9)).block b (HOF.out.lt b hb).2)) wf.heap.size 0 1 1 [bp tv] rfl (by decide) rfl (cV wf _ _ rfl) (dt (by kernel_rfl)) (by omega) (by rw[af];omega) ?_;intro v' w7 ho' hg' hk');have HO7:Hid (w7.ownsRow w1.heap.size 9 1 v' (q+1) ((L1.take (q+1)).map bs)):=aa (by rw[← HSN.out,← HTB.out];exact ho')
     have hx7:Xk.Ext w1 w7:=eg (Xk.Ext.trans HXF.out (dz wf _)) hg' (by rw[af];omega) (λj hj=>(HOF.out.lt j hj).1);have HX7:=aa hx7;clear ho' hg' hk' hx7;go_wp2_with fail;go_roundw
     case rel=>exact⟨q+1,by omega,by go_num,HX7.out,HO7.out⟩
     case measure=>simp[intOf];omega
   ·go_wp2_with (refine wpList_load_mid rfl 137 _ rfl g (q*3) rfl _ _ HRJ.out jR rfl (by kernel_rfl) ?_);refine Xk.reg 9 (Xk.w0 λp=>?_);generalize hWf:Xk.exw _ p=wf;have hxb:Xk.Ext (wr.alloc (.cells [bs cn,.int .i64 2,.bool cb].toArray 137)) wf:=by rw[← hWf];exact Xk.xt
    clear hWf;have k2:wf.cell? ⟨wr.heap.size,2,none⟩=some (.bool cb):=Xk.bn hxb (s6 rfl);have lk:=al _ _ k2;have hxf:Xk.Ext wr wf:=Xk.Ext.trans (dz wr _) hxb;have hlf:=hxf.size;have HOF:=aa (cF HO.out (λb hb=>hxf.block b (HO.out.lt b hb).2));have HXF:=aa (Xk.Ext.trans HX.out hxf);clear hxb hxf
    cases cb
    ·go_upto_region 8 with fail
     generalize htv:({ data:=gE cn }++ { data := #[32] }++ { data := #[73,78,84] }:ByteArray)=tv;have htb:bp tv=bs (P12.dT (cn,2,false)):=congrArg bp (by rw[← htv];apply bE;simp[P12.dT,P12.fB]);have HTB:=aa htb;clear htv htb k2;go_wp2_with (at_builtin;refine Xo.bS w1.heap.size rfl _ _ 29 rfl 9 i0 _ 1 16 cN Hi.out Hz0.out Hz1.out Hz2.out rfl (by decide) (.slice ps q cs) q _ rfl (cF HOF.out (λb hb=>(dz wf (.cells #[bp tv] 9)).block b (HOF.out.lt b hb).2)) wf.heap.size 0 1 1 [bp tv] rfl (by decide) rfl (cV wf _ _ rfl) (dt (by kernel_rfl)) (by omega) (by rw[af];omega) ?_;intro v' w7 ho' hg' hk')
     have HO7:Hid (w7.ownsRow w1.heap.size 9 1 v' (q+1) ((L1.take (q+1)).map bs)):=aa (by rw[← HSN.out,← HTB.out];exact ho');have hx7:Xk.Ext w1 w7:=eg (Xk.Ext.trans HXF.out (dz wf _)) hg' (by rw[af];omega) (λj hj=>(HOF.out.lt j hj).1);have HX7:=aa hx7;clear ho' hg' hk' hx7;go_wp2_with fail;go_roundw
     case rel=>exact⟨q+1,by omega,by go_num,HX7.out,HO7.out⟩
     case measure=>simp[intOf];omega
    ·go_upto_region 8 with fail
     generalize htv:({ data:=gE cn }++ { data := #[32] }++ { data := #[73,78,84] }++ { data := #[32,78,79,84,32,78,85,76,76] }:ByteArray)=tv;have htb:bp tv=bs (P12.dT (cn,2,true)):=congrArg bp (by rw[← htv];apply bE;simp[P12.dT,P12.fB]);have HTB:=aa htb;clear htv htb k2
     go_wp2_with (at_builtin;refine Xo.bS w1.heap.size rfl _ _ 29 rfl 9 i0 _ 1 16 cN Hi.out Hz0.out Hz1.out Hz2.out rfl (by decide) (.slice ps q cs) q _ rfl (cF HOF.out (λb hb=>(dz wf (.cells #[bp tv] 9)).block b (HOF.out.lt b hb).2)) wf.heap.size 0 1 1 [bp tv] rfl (by decide) rfl (cV wf _ _ rfl) (dt (by kernel_rfl)) (by omega) (by rw[af];omega) ?_;intro v' w7 ho' hg' hk');have HO7:Hid (w7.ownsRow w1.heap.size 9 1 v' (q+1) ((L1.take (q+1)).map bs)):=aa (by rw[← HSN.out,← HTB.out];exact ho')
     have hx7:Xk.Ext w1 w7:=eg (Xk.Ext.trans HXF.out (dz wf _)) hg' (by rw[af];omega) (λj hj=>(HOF.out.lt j hj).1);have HX7:=aa hx7;clear ho' hg' hk' hx7;go_wp2_with fail;go_roundw
     case rel=>exact⟨q+1,by omega,by go_num,HX7.out,HO7.out⟩
     case measure=>simp[intOf];omega
   ·go_wp2_with (refine wpList_load_mid rfl 137 _ rfl g (q*3) rfl _ _ HRJ.out jR rfl (by kernel_rfl) ?_);refine Xk.reg 9 (Xk.w0 λp=>?_);generalize hWf:Xk.exw _ p=wf;have hxb:Xk.Ext (wr.alloc (.cells [bs cn,.int .i64 3,.bool cb].toArray 137)) wf:=by rw[← hWf];exact Xk.xt
    clear hWf;have k2:wf.cell? ⟨wr.heap.size,2,none⟩=some (.bool cb):=Xk.bn hxb (s6 rfl);have lk:=al _ _ k2;have hxf:Xk.Ext wr wf:=Xk.Ext.trans (dz wr _) hxb;have hlf:=hxf.size;have HOF:=aa (cF HO.out (λb hb=>hxf.block b (HO.out.lt b hb).2));have HXF:=aa (Xk.Ext.trans HX.out hxf);clear hxb hxf
    cases cb
    ·go_upto_region 8 with fail
     generalize htv:({ data:=gE cn }++ { data := #[32] }++ { data := #[84,69,88,84] }:ByteArray)=tv;have htb:bp tv=bs (P12.dT (cn,3,false)):=congrArg bp (by rw[← htv];apply bE;simp[P12.dT,P12.fB]);have HTB:=aa htb;clear htv htb k2
     go_wp2_with (at_builtin;refine Xo.bS w1.heap.size rfl _ _ 29 rfl 9 i0 _ 1 16 cN Hi.out Hz0.out Hz1.out Hz2.out rfl (by decide) (.slice ps q cs) q _ rfl (cF HOF.out (λb hb=>(dz wf (.cells #[bp tv] 9)).block b (HOF.out.lt b hb).2)) wf.heap.size 0 1 1 [bp tv] rfl (by decide) rfl (cV wf _ _ rfl) (dt (by kernel_rfl)) (by omega) (by rw[af];omega) ?_;intro v' w7 ho' hg' hk');have HO7:Hid (w7.ownsRow w1.heap.size 9 1 v' (q+1) ((L1.take (q+1)).map bs)):=aa (by rw[← HSN.out,← HTB.out];exact ho')
     have hx7:Xk.Ext w1 w7:=eg (Xk.Ext.trans HXF.out (dz wf _)) hg' (by rw[af];omega) (λj hj=>(HOF.out.lt j hj).1);have HX7:=aa hx7;clear ho' hg' hk' hx7;go_wp2_with fail;go_roundw
     case rel=>exact⟨q+1,by omega,by go_num,HX7.out,HO7.out⟩
     case measure=>simp[intOf];omega
    ·go_upto_region 8 with fail
     generalize htv:({ data:=gE cn }++ { data := #[32] }++ { data := #[84,69,88,84] }++ { data := #[32,78,79,84,32,78,85,76,76] }:ByteArray)=tv;have htb:bp tv=bs (P12.dT (cn,3,true)):=congrArg bp (by rw[← htv];apply bE;simp[P12.dT,P12.fB]);have HTB:=aa htb;clear htv htb k2
     go_wp2_with (at_builtin;refine Xo.bS w1.heap.size rfl _ _ 29 rfl 9 i0 _ 1 16 cN Hi.out Hz0.out Hz1.out Hz2.out rfl (by decide) (.slice ps q cs) q _ rfl (cF HOF.out (λb hb=>(dz wf (.cells #[bp tv] 9)).block b (HOF.out.lt b hb).2)) wf.heap.size 0 1 1 [bp tv] rfl (by decide) rfl (cV wf _ _ rfl) (dt (by kernel_rfl)) (by omega) (by rw[af];omega) ?_;intro v' w7 ho' hg' hk');have HO7:Hid (w7.ownsRow w1.heap.size 9 1 v' (q+1) ((L1.take (q+1)).map bs)):=aa (by rw[← HSN.out,← HTB.out];exact ho')
     have hx7:Xk.Ext w1 w7:=eg (Xk.Ext.trans HXF.out (dz wf _)) hg' (by rw[af];omega) (λj hj=>(HOF.out.lt j hj).1);have HX7:=aa hx7;clear ho' hg' hk' hx7;go_wp2_with fail;go_roundw
     case rel=>exact⟨q+1,by omega,by go_num,HX7.out,HO7.out⟩
     case measure=>simp[intOf];omega
  ·have hlb:¬ (q:Int)<(cols.length:Int):=by omega
   obtain rfl:q=cols.length:=by omega
   have ho1:wr.ownsRow w1.heap.size 9 1 (.slice ps cols.length cs) cols.length (L1.map bs):=by
    have e:L1.take cols.length=L1:=by rw[← hlen1,fH]
    have:=HO.out;rw[e]at this;exact this
   have e3:=Xk.bn hx g3;have lw:=aD lb hx.size;have HO1:=aa ho1;have HX1:=aa hx;obtain⟨L2,hL2⟩:∃L:List P12.T,L=kS P12.fR keys kcs:=⟨_,rfl⟩;have hlen2:L2.length=keys.length:=by rw[hL2,List.length_zipWith,hk,Nat.min_self]
   have HL2:=aa hL2;have H2:=aa (h2.iQ HX0.out);have H4:=aa h4;have H3:=aa h3;have G1:=aa g1;have G4:=aa g4;have G5:=aa g5;clear hx ho ho1 hL2 HO HT HCL H1 g1 g2 g3 g4 g5 hlt hlb hws h2 h3 h4 HX;obtain⟨wA,hwA⟩:∃W,W=wr:=⟨_,rfl⟩;subst hwA;go_wp2_with fail;clear e3 lw;go_loopw [3,41] (λs x wr=>∃q:Nat,q≤keys.length/\x = .int .i64 q/\Xk.Ext w1 wr/\wr.ownsRow w1.heap.size 9 1 s (cols.length+q) ((L1++L2.take q).map bs)) (λ_ x _=>keys.length-(intOf x).toNat)
   case atStart=>exact⟨0,by omega,rfl,HX1.out,by simpa using HO1.out⟩
   case round=>
    obtain⟨q,hq,rfl,hx,ho⟩:=hrel;obtain⟨ps,cs,rfl⟩:=gY ho;have HXB:=aa hx;have HO:=aa ho;have hws:=hx.size;by_cases hlt:q<keys.length
    ·obtain⟨g,u,rfl,hg,hu,hr⟩:=dP H2.out hlt hx;obtain⟨g',u',rfl,hg',hu',hr'⟩:=dP H4.out (show q<kcs.length by omega) (Xk.Ext.trans HX0.out hx);have hu:u=_:=hu;subst hu;obtain⟨vk,rfl,hv⟩:=hu';obtain⟨pk,ck,rfl⟩:=hv.len;have HRJ:=aa hr;have cK:wr.cell? ⟨g',q,none⟩=some (.slice pk (kcs[q]).length ck):=by have:=hr' 0 _ rfl;rwa [nk,jZ]at this
     have e5:=Xk.bn hx G5.out;have lq:=aD lb hx.size;have hlb:(q:Int)<(keys.length:Int):=by omega
     have hlb4:(q:Int)<(kcs.length:Int):=by omega
     have hsnoc:(L1++L2.take q).map bs ++ [bs (P12.fR keys[q] kcs[q])]=(L1++L2.take (q+1)).map bs:=by
      have:=qQ (l:=L2) (q:=q) (by omega) bs;rw[iS,iS,← this,aJ];congr 4;simp[HL2.out]
     have hjl:(P12.join kcs[q]).length≤1000000:=by
      have h1:P12.fR keys[q] kcs[q]∈kS P12.fR keys kcs:=by
       rw[← HL2.out];refine List.mem_iff_getElem.2 ⟨q,by omega,?_⟩;simp[HL2.out]
      have:=HPT.out _ (np _ (List.mem_append_right _ h1));unfold P12.fR at this;simp only[aB]at this;omega
     have HSN:=aa hsnoc;have HN:=aa λW (hxW:Xk.Ext w W)=>qZ hv (hn _ (cp (show q<kcs.length by omega))) hjl hxW;clear hx ho hr hr' hsnoc hv;generalize keys[q]=kp at *
     generalize kcs[q]=kc at *
     have HKT:Hid (P12.fR kp kc=(if kp then[80,82,73,77,65,82,89,32,75,69,89]else[85,78,73,81,85,69])++ [32,40]++P12.join kc ++ [41]):=aa rfl;generalize P12.join kc=jt at *
     clear hu;have m1:¬ 9223372036854775807<13+jt.length:=by omega
     have m2:¬ 9223372036854775807<13+jt.length+1:=by omega
     have m3:¬ 9223372036854775807<8+jt.length:=by omega
     have m4:¬ 9223372036854775807<8+jt.length+1:=by omega
     cases kp
     ·go_wp2_with (refine wpList_load_mid rfl 139 _ rfl g (q*4) rfl _ _ HRJ.out wH rfl (by kernel_rfl) ?_);refine(HN.out _ (Xk.Ext.trans HX0.out (Xk.Ext.trans HXB.out (dz wr _)))).mono ?_;rintro e wf ⟨rfl,hxb⟩;have hxf:Xk.Ext wr wf:=Xk.Ext.trans (dz wr _) hxb;have hlf:=hxf.size;have HOF:=aa (cF HO.out (λb hb=>hxf.block b (HO.out.lt b hb).2));have HXF:=aa (Xk.Ext.trans HXB.out hxf);clear hxb hxf
      go_wp2_with (at_builtin;generalize htv:({ data := #[85,78,73,81,85,69] }++ { data := #[32,40] }++ { data:=gE jt }++ { data := #[41] }:ByteArray)=tv;have HTB:Hid (bp tv=bs (P12.fR _ kc)):=aa (congrArg bp (by rw[HKT.out,← htv];apply bE;simp));clear htv;refine Xo.bS w1.heap.size rfl _ _ 29 rfl 9 i0 _ 1 16 cN Hi.out Hz0.out Hz1.out Hz2.out rfl (by decide) (.slice ps (cols.length+q) cs) (cols.length+q) _ rfl (cF HOF.out (λb hb=>(dz wf (.cells #[bp tv] 9)).block b (HOF.out.lt b hb).2)) wf.heap.size 0 1 1 [bp tv] rfl (by decide) rfl (cV wf _ _ rfl) (dt (by kernel_rfl)) (by omega) (by rw[af];omega) ?_;intro v' w7 ho' hg' hk')
      have HO7:Hid (w7.ownsRow w1.heap.size 9 1 v' (cols.length+(q+1)) ((L1++L2.take (q+1)).map bs)):=aa (by rw[← HSN.out,← HTB.out];exact ho');have hx7:Xk.Ext w1 w7:=eg (Xk.Ext.trans HXF.out (dz wf _)) hg' (by rw[af];omega) (λj hj=>(HOF.out.lt j hj).1);have HX7:=aa hx7;clear ho' hg' hk' hx7;go_wp2_with fail;go_roundw
      case rel=>exact⟨q+1,by omega,by go_num,HX7.out,HO7.out⟩
      case measure=>simp[intOf];omega
     ·go_wp2_with (refine wpList_load_mid rfl 139 _ rfl g (q*4) rfl _ _ HRJ.out wH rfl (by kernel_rfl) ?_);refine(HN.out _ (Xk.Ext.trans HX0.out (Xk.Ext.trans HXB.out (dz wr _)))).mono ?_;rintro e wf ⟨rfl,hxb⟩;have hxf:Xk.Ext wr wf:=Xk.Ext.trans (dz wr _) hxb;have hlf:=hxf.size;have HOF:=aa (cF HO.out (λb hb=>hxf.block b (HO.out.lt b hb).2));have HXF:=aa (Xk.Ext.trans HXB.out hxf);clear hxb hxf
      go_wp2_with (at_builtin;generalize htv:({ data := #[80,82,73,77,65,82,89,32,75,69,89] }++ { data := #[32,40] }++ { data:=gE jt }++ { data := #[41] }:ByteArray)=tv;have HTB:Hid (bp tv=bs (P12.fR _ kc)):=aa (congrArg bp (by rw[HKT.out,← htv];apply bE;simp));clear htv;refine Xo.bS w1.heap.size rfl _ _ 29 rfl 9 i0 _ 1 16 cN Hi.out Hz0.out Hz1.out Hz2.out rfl (by decide) (.slice ps (cols.length+q) cs) (cols.length+q) _ rfl (cF HOF.out (λb hb=>(dz wf (.cells #[bp tv] 9)).block b (HOF.out.lt b hb).2)) wf.heap.size 0 1 1 [bp tv] rfl (by decide) rfl (cV wf _ _ rfl) (dt (by kernel_rfl)) (by omega) (by rw[af];omega) ?_;intro v' w7 ho' hg' hk')
      have HO7:Hid (w7.ownsRow w1.heap.size 9 1 v' (cols.length+(q+1)) ((L1++L2.take (q+1)).map bs)):=aa (by rw[← HSN.out,← HTB.out];exact ho');have hx7:Xk.Ext w1 w7:=eg (Xk.Ext.trans HXF.out (dz wf _)) hg' (by rw[af];omega) (λj hj=>(HOF.out.lt j hj).1);have HX7:=aa hx7;clear ho' hg' hk' hx7;go_wp2_with fail;go_roundw
      case rel=>exact⟨q+1,by omega,by go_num,HX7.out,HO7.out⟩
      case measure=>simp[intOf];omega
    ·have hlb:¬ (q:Int)<(keys.length:Int):=by omega
     obtain rfl:q=keys.length:=by omega
     have ho1:wr.ownsRow w1.heap.size 9 1 (.slice ps (cols.length+keys.length) cs) (cols.length+keys.length) ((L1++L2).map bs):=by
      have e:L2.take keys.length=L2:=by rw[← hlen2,fH]
      have:=HO.out;rw[e]at this;exact this
     have e4:=Xk.bn hx G4.out;have lw:=aD lb hx.size;have HO2:=aa ho1;have HX2:=aa hx;obtain⟨L3,hL3⟩:∃L:List P12.T,L=cks.map (λe => [67,72,69,67,75,32,40]++P12.text e ++ [41]):=⟨_,rfl⟩;have hlen3:L3.length=cks.length:=by rw[hL3,cH]
     have HL3:=aa hL3;have H3':=aa (H3.out.iQ HX0.out);have HI:=aa hi;have HEE:=aa hE;clear hx ho ho1 hL3 HO H2 H4 hlt hlb hws HO1 HX1 hi hE hn;obtain⟨wB,hwB⟩:∃W,W=wr:=⟨_,rfl⟩;subst hwB;go_wp2_with fail;clear e4 lw;go_loopw [3,66] (λs x wr=>∃q:Nat,q≤cks.length/\x = .int .i64 q/\Xk.Ext w1 wr/\wr.ownsRow w1.heap.size 9 1 s (cols.length+keys.length+q) ((L1++L2++L3.take q).map bs)) (λ_ x _=>cks.length-(intOf x).toNat)
     case atStart=>exact⟨0,by omega,rfl,HX2.out,by simpa using HO2.out⟩
     case round=>
      obtain⟨q,hq,rfl,hx,ho⟩:=hrel;obtain⟨ps,cs,rfl⟩:=gY ho;have HXB:=aa hx;have HO:=aa ho;have hws:=hx.size;by_cases hlt:q<cks.length
      ·obtain⟨g,u,rfl,hg,hu,hr⟩:=dP H3'.out hlt hx;have HRJ:=aa hr;have hmem:=cp hlt;have hlb:(q:Int)<(cks.length:Int):=by omega
       have hsnoc:(L1++L2++L3.take q).map bs ++ [bs ([67,72,69,67,75,32,40]++P12.text cks[q]++ [41])]=(L1++L2++L3.take (q+1)).map bs:=by
        have:=qQ (l:=L3) (q:=q) (by omega) bs;rw[show(L1++L2++L3.take (q+1)).map bs=(L1++L2).map bs++(L3.take (q+1)).map bs from iS ..,← this,show(L1++L2++L3.take q).map bs=(L1++L2).map bs++(L3.take q).map bs from iS ..,aJ];congr 4;simp[HL3.out]
       have hjl:(P12.text cks[q]).length≤1000000:=by
        have:=HPT.out _ (List.mem_append_right _ (List.mem_map_of_mem (f:=λe => [67,72,69,67,75,32,40]++P12.text e ++ [41]) hmem));simp only[aB]at this;omega
       have HSN:=aa hsnoc;have hu0:aF S w cks[q] u:=hu;have HN:=aa λW (hxW:Xk.Ext w W)=>mz HEE.out hu0 (HI.out _ hmem) hjl hxW;obtain⟨kd,op,vk,vi,vs,tb,nm,pp,pm,pc,rfl⟩:=aF.form hu0;clear hx ho hr hsnoc hu hu0 hmem;generalize P12.text cks[q]=jt at *
       have m1:¬ 9223372036854775807<7+jt.length:=by omega
       have m2:¬ 9223372036854775807<7+jt.length+1:=by omega
       have hga:=az wr (cd (au kd op vk vi vs tb nm (.slice pp pm pc)));go_wp2_with (first|(refine wpList_load_mid rfl 35 _ rfl g (q*10) rfl _ _ HRJ.out aW rfl (by kernel_rfl) ?_)|(refine aE rfl 35 _ rfl (wr.heap.size) _ 35 (0,0) _ rfl hga aW rfl (by kernel_rfl) ?_));refine(HN.out _ (Xk.Ext.trans HX0.out (Xk.Ext.trans HXB.out (dz wr _)))).mono ?_;rintro e wf ⟨rfl,hxb⟩;have hxf:Xk.Ext wr wf:=Xk.Ext.trans (dz wr _) hxb;have hlf:=hxf.size;have HOF:=aa (cF HO.out (λb hb=>hxf.block b (HO.out.lt b hb).2));have HXF:=aa (Xk.Ext.trans HXB.out hxf);clear hxb hxf hga
       go_wp2_with (at_builtin;generalize htv:({ data := #[67,72,69,67,75,32,40] }++ { data:=gE jt }++ { data := #[41] }:ByteArray)=tv;have HTB:Hid (bp tv=bs ([67,72,69,67,75,32,40]++jt ++ [41])):=aa (congrArg bp (by rw[← htv];apply bE;simp));clear htv;refine Xo.bS w1.heap.size rfl _ _ 29 rfl 9 i0 _ 1 16 cN Hi.out Hz0.out Hz1.out Hz2.out rfl (by decide) (.slice ps (cols.length+keys.length+q) cs) (cols.length+keys.length+q) _ rfl (cF HOF.out (λb hb=>(dz wf (.cells #[bp tv] 9)).block b (HOF.out.lt b hb).2)) wf.heap.size 0 1 1 [bp tv] rfl (by decide) rfl (cV wf _ _ rfl) (dt (by kernel_rfl)) (by omega) (by rw[af];omega) ?_;intro v' w7 ho' hg' hk')
       have HO7:Hid (w7.ownsRow w1.heap.size 9 1 v' (cols.length+keys.length+(q+1)) ((L1++L2++L3.take (q+1)).map bs)):=aa (by rw[← HSN.out,← HTB.out];exact ho');have hx7:Xk.Ext w1 w7:=eg (Xk.Ext.trans HXF.out (dz wf _)) hg' (by rw[af];omega) (λj hj=>(HOF.out.lt j hj).1);have HX7:=aa hx7;clear ho' hg' hk' hx7;go_wp2_with fail;go_roundw
       case rel=>exact⟨q+1,by omega,by go_num,HX7.out,HO7.out⟩
       case measure=>simp[intOf];omega
      ·have hlb:¬ (q:Int)<(cks.length:Int):=by omega
       obtain rfl:q=cks.length:=by omega
       obtain⟨LA,hLA⟩:∃L:List P12.T,L=L1++L2++L3:=⟨_,rfl⟩;have hlenA:LA.length=cols.length+keys.length+cks.length:=by rw[hLA,aB,aB];omega
       have ho1:wr.ownsRow w1.heap.size 9 1 (.slice ps (cols.length+keys.length+cks.length) cs) LA.length (LA.map bs):=by
        have e:L3.take cks.length=L3:=by rw[← hlen3,fH]
        have:=HO.out;rw[e,← hLA,← hlenA]at this;rw[← hlenA];exact this
       have htab:P12.k9 { name:=tn,cols:=cols,keys:=keys,checks:=cks } kcs = [67,82,69,65,84,69,32,84,65,66,76,69,32]++tn ++ [32,40]++P12.join LA ++ [41]:=by
        rw[hLA,HL1.out,HL2.out,HL3.out];rfl
       have hbb:=hb;rw[htab]at hbb;have HTAB:=aa htab;simp only[aB,aK,cM]at hbb;have HJ:=aa λW (hxW:Xk.Ext wr W)=>mN (.slice ps (cols.length+keys.length+cks.length) cs) w1.heap.size LA W (cF ho1 (λb hb=>hxW.block b (ho1.lt b hb).2)) (by omega) (by omega);have e1:=Xk.bn hx G1.out;have lw:=aD lb hx.size;generalize P12.join LA=jt at *
       have m1:¬ 9223372036854775807<13+tn.length:=by omega
       have m2:¬ 9223372036854775807<13+tn.length+2:=by omega
       have m3:¬ 9223372036854775807<13+tn.length+2+jt.length:=by omega
       have m4:¬ 9223372036854775807<13+tn.length+2+jt.length+1:=by omega
       clear hx ho ho1 htab hbb hb HPT;go_wp2_with fail;refine Xk.reg 10 (Xk.w1 HJ.out λp=>?_);go_wp2_with fail;go_ret;exact⟨by rw[HTAB.out];exact congrArg (λx=>aP (.string x)) (by apply bE;simp),Xk.Ext.trans HX0.out (Xk.Ext.trans HXB.out Xk.xt)⟩
end Go.Proofs.YtkpmclddjkebeaaGreatDoor
