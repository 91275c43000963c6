/- Walks: pantileref12's SameTable, of two that are the same. -/
import Derived.Test.YtkpmclddjkebeaaGreatDoorRZE
set_option linter.unusedSimpArgs false
set_option linter.unusedVariables false
set_option maxRecDepth 100000
set_option maxHeartbeats 80000000
open Array renaming getElem?_eq_some_iff→ae
open Exists renaming intro→aU
open Go.Lib renaming hid→aa
open Go.Proofs.Tryz renaming prog→af
open Go.RowKit.Below renaming refl→al
open Go.World renaming block_lt_of_cell?→ay,cell?→ak,size_alloc→ag,size_drew→bM
open List renaming drop_succ_cons→aL,drop_zero→bd,mem_cons→aJ,not_mem_nil→aF,take_succ_cons→aG,take_zero→aY
open Nat renaming le_refl→ai,lt_of_lt_of_le→aK
namespace Go.Xd
open Go.RowKit
open Go.Xk hiding law cj eE gS jv cQ aX bc bD
open Go.Xe hiding cj bm cQ aX bc bD bG
theorem ld{E:World->World->Prop}(hE:Pre E){P:Program}{ops:Array Oper}{w0:World}{O:Nat->Option Nat}{Ψ:Ps}{Q:Act->World->Prop}{o:Oper}{r:List Oper}{i:Nat}{a:Act}{F:fc}{G:Made}(t:TypeId)(b off:Nat)(cs:List Value){d:TypeDesc}(hu:P.underlying t=some d)(hc:∀w,E w0 w->w.rangeAt b off cs){x:Operand}(k:cj E P ops w0 O Ψ Q r (i+1) (a.put o.dst (.agg cs.toArray)) F G)
  (hg:o.guard=none:=by rfl) (ho:o.op = .load t x:=by rfl) (ht:fi Ψ i=none:=by rfl) (hx:a.eval x = .pointer (some ⟨b,off,none⟩):=by rfl) (hd:d.isRow=true:=by rfl) (hi:(P.info? t).map (·.size)=some cs.length:=by kernel_rfl):cj E P ops w0 O Ψ Q (o::r) i a F G:=
 aX hE (aQ hg) ht λK hK=>⟨.agg cs.toArray,λw h _=>nM t x ho b off cs d hx (hc w h) hu hd hi,hK _ k⟩
end Go.Xd
namespace Go.Proofs.YtkpmclddjkebeaaGreatDoor
open Go.RowKit
theorem BT{w W:World}{o1 o2:Obj}(hx:Xk.Ext ((w.alloc o1).alloc o2) W):W.heap[w.heap.size]?=some o1/\W.heap[w.heap.size+1]?=some o2/\Xk.Ext w W:=by
 refine⟨(hx.block _ (by rw[ag,ag];omega)).trans (((mY (w.alloc o1) o2).block _ (by rw[ag];omega)).trans (aw w o1)),?_,Xk.Ext.trans (mY w o1) (Xk.Ext.trans (mY (w.alloc o1) o2) hx)⟩;have:=(hx.block (w.heap.size+1) (by rw[ag,ag];omega));rw[this];have h:=aw (w.alloc o1) o2;rwa [ag]at h
def sl(T:TypeId)(n B:Nat)(_:List Value)(v:Value)(W:World):Prop:=∃g c,v = .pointer (some ⟨g,0,none⟩)/\B≤g/\c.size=n/\W.heap[g]?=some (.cells c T)
def ua(T:TypeId)(B:Nat)(l:List Value)(ls:List Value)(_:Value)(W:World):Prop:=∀g,ls.head?=some (.pointer (some ⟨g,0,none⟩))->B≤g->W.heap[g]?=some (.cells l.toArray T)
theorem sl.et{T:TypeId}{n B:Nat}{l:List Value}(hl:l.length=n):∀ls v w w',ET B (.cells l.toArray T) w w'->sl T n B ls v w->sl T n B ls v w':=by
 rintro ls v w w' h ⟨g,c,rfl,hg,hc,hw⟩;rcases h.2.2.2.2 g (ae.1 hw).1 with e|⟨-,e⟩
 ·exact⟨g,c,rfl,hg,hc,e.trans hw⟩
 ·exact⟨g,l.toArray,rfl,hg,by simpa using hl,e⟩
theorem ua.et{T:TypeId}{B:Nat}{l:List Value}:∀ls v w w',ET B (.cells l.toArray T) w w'->ua T B l ls v w->ua T B l ls v w':=by
 intro ls v w w' h hs g hg hb;have hw:=hs g hg hb;rcases h.2.2.2.2 g (ae.1 hw).1 with e|⟨-,e⟩
 ·exact e.trans hw
 ·exact e
theorem xd(T:TypeId){n B:Nat}(o:Obj)(c:Array Value){w2 W:World}(h:ET B o w2.drew W)(hB:B≤w2.heap.size)(hc:c.size=n)(ls:List Value):Xe.gS (ET B o) W none (sl T n B ls) (.pointer (some ⟨W.heap.size,0,none⟩)) (W.alloc (.cells c T)):=
 ⟨(eh _ _).ext ((al _ _).alloc (ai _) _),⟨W.heap.size,c,rfl,by have h1:=h.2.2.2.1;rw[bM]at h1;omega,hc,aw W _⟩,λb hb=>by cases hb⟩
theorem xc{B:Nat}{o:Obj}{w2 W:World}(h:ET B o w2.drew W)(hB:B=w2.heap.size){g off:Nat}{l:List Value}(hr:w2.rangeAt g off l)(hg:g<w2.heap.size):W.rangeAt g off l:=
 eV hr ((h.2.2.2.2 g (by simpa using hg)).resolve_right λe=>by omega)
theorem vq{a b c d:Value}{T:TypeId}{W:World}{g:Nat}(h:W.heap[g]?=some (.cells [a,b,c,d].toArray T)):
  g<W.heap.size/\W.cell? ⟨g,0,none⟩=some a/\W.cell? ⟨g,1,none⟩=some b/\W.cell? ⟨g,2,none⟩=some c/\W.cell? ⟨g,3,none⟩=some d:=by
 refine⟨(ae.1 h).1,?_,?_,?_,?_⟩<;>simp[ak,h]
theorem oD{B:Nat}{o:Obj}{w2 W:World}(h:ET B o w2.drew W)(hB:B=w2.heap.size){b i:Nat}{v:Value}(hc:w2.cell? ⟨b,i,none⟩=some v):W.cell? ⟨b,i,none⟩=some v:=by
 have hl:=ay _ _ hc;have:=(h.2.2.2.2 b (by simpa using hl)).resolve_right λe=>by have:=e.1;simp only at hl;omega
 unfold ak at hc ⊢;simp only at hc ⊢;rw[this];exact hc
theorem vW{S S':Nat->Prop}{w:World}(nm:P12.T){cols:List (P12.T×Int×Bool)}{keys:List Bool}{checks:List P12.E}{v1 v2 v3 u1 u2 u3:Value}(h1:aE S w 3 xq cols v1)(h2:aE S w 4 yW keys v2)(h3:aE S w 10 (dY S w) checks v3)(g1:aE S' w 3 xq cols u1)(g2:aE S' w 4 yW keys u2)(g3:aE S' w 10 (dY S' w) checks u3)(b1:cols.length≤1000000)(b2:keys.length≤1000000)(b3:checks.length≤1000000):
  Calls af 28 #[.agg #[bs nm,v1,v2,v3],.agg #[bs nm,u1,u2,u3]] w λe w'=>e = .returned (.bool true)/\Xk.Ext w w':=by
 have HC:=aa λW (hx:Xk.Ext w W)=>mL (h3.qX hx) (g3.qX hx) b3 (λe _=>j9 e);have H1:=aa h1;have H2:=aa h2;have G1:=aa g1;have G2:=aa g2;obtain⟨p1,c1,rfl⟩:=h1.len;obtain⟨p2,c2,rfl⟩:=h2.len;obtain⟨p3,c3,rfl⟩:=h3.len;obtain⟨q1,d1,rfl⟩:=g1.len;obtain⟨q2,d2,rfl⟩:=g2.len;obtain⟨q3,d3,rfl⟩:=g3.len;clear h1 h2 h3 g1 g2 g3;go_enter Tryz.func28,Tryz.ntmps28;go_wp2_with fail;refine(HC.out _ Xk.xt).mono ?_;rintro e W2 ⟨rfl,hx2⟩;obtain⟨ha,hb,hx0⟩:=BT hx2;obtain⟨la,a0,a1,a2,a3⟩:=oc ha;obtain⟨lb,b0,b4,b5,b6⟩:=oc hb;have HX0:=aa hx0;clear hx2 ha hb hx0 HC;go_wp2_with fail
 go_loopw [5] (λx wr=>∃q:Nat,q≤cols.length/\x = .int .i64 q/\Xk.Ext W2 wr) (λx _=>cols.length-(intOf x).toNat)
 case atStart=>exact⟨0,by omega,rfl,al _ _⟩
 case round=>
  obtain⟨q,hq,rfl,hx⟩:=hrel;have HX:=aa hx;have k1:=Xk.bO hx a1;have k4:=Xk.bO hx b4;have l1:=aK la hx.size;have l2:=aK lb hx.size;by_cases hlt:q<cols.length
  ·obtain⟨g,u,rfl,hg,rfl,hr⟩:=fh H1.out hlt (Xk.Ext.trans HX0.out hx);obtain⟨g',u',rfl,hg',rfl,hr'⟩:=fh G1.out hlt (Xk.Ext.trans HX0.out hx);have hlb:(q:Int)<(cols.length:Int):=ab;have HR:=aa hr;have HR':=aa hr';clear hr hr' hx;go_wp2_with fail;refine Xk.reg 11 (Xk.s0 ?_);refine Xk.ld 137 g (q*3) _ Tryz.underlying137 HR.out (by simpa using hg) ?_;go_simp;refine Xk.s0 ?_;refine Xk.ld 137 g' (q*3) _ Tryz.underlying137 HR'.out (by simpa using hg') ?_;go_simp;refine Xk.s0 (Xk.bD λp _=>?_);go_wp2_with fail;go_roundw
   case rel=>exact⟨q+1,by omega,by go_num,Xk.Ext.trans HX.out (Xk.cF _ _)⟩
   case measure=>simp[intOf];omega
  ·have hlb:¬ (q:Int)<(cols.length:Int):=ab;clear hx;go_wp2_with fail;have h2x:=Xk.Ext.trans HX0.out HX.out;clear k1 k4 l1 l2 hlt hlb hq a1 b4 la lb;obtain⟨W3,hW3⟩:∃W,W=wr:=⟨_,rfl⟩;rw[← hW3];have a2:=Xk.bO HX.out a2;have b5:=Xk.bO HX.out b5;have la:=ay _ _ a2;have lb:=ay _ _ b5;rw[← hW3]at h2x a2 b5 la lb;have HX3:=aa h2x;clear hW3 h2x HX;go_loopw [6] (λx wr=>∃q:Nat,q≤keys.length/\x = .int .i64 q/\Xk.Ext W3 wr) (λx _=>keys.length-(intOf x).toNat)
   case atStart=>exact⟨0,by omega,rfl,al _ _⟩
   case round=>
    obtain⟨q,hq,rfl,hx⟩:=hrel;have HX:=aa hx;have k1:=Xk.bO hx a2;have k4:=Xk.bO hx b5;have l1:=aK la hx.size;have l2:=aK lb hx.size;by_cases hlt:q<keys.length
    ·obtain⟨g,u,rfl,hg,rfl,hr⟩:=fh H2.out hlt (Xk.Ext.trans HX3.out hx);obtain⟨g',u',rfl,hg',rfl,hr'⟩:=fh G2.out hlt (Xk.Ext.trans HX3.out hx);have hlb:(q:Int)<(keys.length:Int):=ab;have HR:=aa hr;have HR':=aa hr';clear hr hr' hx;go_wp2_with fail;obtain⟨kl,hkl⟩:∃kl:List Value,kl = [.string ⟨#[]⟩,aj,.bool true,.bool keys[q]]:=⟨_,rfl⟩;have hra:=HR.out;have hrb:=HR'.out;rw[← hkl]at hra hrb;have HKL:=aa hkl;clear hkl
     refine Xd.bm (E:=ET wr.heap.size (.cells kl.toArray 139)) (eh _ _) 14 (λ_=>none) (λ_ _ h=>by cases h) (λ_ _ _ _ h=>by cases h) [(10,sl 139 4 wr.heap.size),(11,sl 139 4 wr.heap.size),(12,ua 139 wr.heap.size kl),(13,ua 139 wr.heap.size kl)] au au (Xd.mJ ?_) ?_
     ·intro y hy;simp only[aJ,aF,or_false]at hy;rcases hy with rfl|rfl|rfl|rfl
      ·exact sl.et (by rw[HKL.out];rfl)
      ·exact sl.et (by rw[HKL.out];rfl)
      ·exact ua.et
      ·exact ua.et
     simp only[aG,aY,aL,bd];(refine Xs.d ?_)
     (refine Xd.aX (eh _ _) (Xk.aQ az) az (λK hK=>?_);apply aU;refine⟨λW hx hp=>?_,?_⟩;((have c:=oD hx rfl k1);go_simp;exact⟨rfl,rfl⟩);(go_simp;refine hK _ ?_;clear hK K))
     (refine Xs.d ?_)
     (refine Xs.d ?_)
     refine Xd.ld (eh _ _) 139 g (q*4) kl Tryz.underlying139 (λW hx=>xc hx rfl hra hg) ?_ (hi:=by rw[HKL.out];kernel_rfl);go_simp;(refine Xs.d ?_)
     (refine Xd.aX (eh _ _) (Xk.aQ az) az (λK hK=>?_);apply aU;refine⟨λW hx hp=>?_,?_⟩;((have c:=oD hx rfl k4);go_simp;exact⟨rfl,rfl⟩);(go_simp;refine hK _ ?_;clear hK K))
     (refine Xs.d ?_)
     (refine Xs.d ?_)
     refine Xd.ld (eh _ _) 139 g' (q*4) kl Tryz.underlying139 (λW hx=>xc hx rfl hrb hg') ?_ (hi:=by rw[HKL.out];kernel_rfl);go_simp;(refine Xd.bc (eh _ _) az az (λW hx hp=>?_) (λr1 K hK=>?_);((go_simp;exact xd 139 _ _ hx (ai _) rfl _));(go_simp;refine hK _ ?_;clear hK K))
     (refine Xd.bc (eh _ _) az az (λW hx hp=>?_) (λr2 K hK=>?_);((go_simp;exact xd 139 _ _ hx (ai _) rfl _));(go_simp;refine hK _ ?_;clear hK K))
     (refine Xd.bc (eh _ _) az az (λW hx hp=>?_) (λr3 K hK=>?_);((obtain⟨g,c,rfl,hg,hc,hw⟩:=Xd.bG (Xe.mU hp) au;exact kz _ _ _ rfl g c _ _ rfl rfl hw (by rw[hc,HKL.out];rfl) (by rw[HKL.out];kernel_rfl) (by rw[HKL.out];kernel_rfl) hg (λW hW g' hg' _=>by cases hg';exact hW)));(go_simp;refine hK _ ?_;clear hK K))
     (refine Xd.bc (eh _ _) az az (λW hx hp=>?_) (λr4 K hK=>?_);((obtain⟨g,c,rfl,hg,hc,hw⟩:=Xd.bG (Xe.mU hp) au;exact kz _ _ _ rfl g c _ _ rfl rfl hw (by rw[hc,HKL.out];rfl) (by rw[HKL.out];kernel_rfl) (by rw[HKL.out];kernel_rfl) hg (λW hW g' hg' _=>by cases hg';exact hW)));(go_simp;refine hK _ ?_;clear hK K))
     refine Xd.bD (λW hx hp hG=>?_);obtain⟨f13,f12,f11,f10,-⟩:=hp;obtain⟨g6,c6,rfl,hg6,-,-⟩:=f11;obtain⟨g5,c5,rfl,hg5,-,-⟩:=f10;have hT5:=f12 g5 rfl hg5;have hT6:=f13 g6 rfl hg6;have hxW:=aa (xa (al _ _:Xk.Ext wr wr) hx);rw[HKL.out]at hT5 hT6;obtain⟨ha0,x0,x1,x2,x3⟩:=vq hT5;obtain⟨hb0,y0,y1,y2,y3⟩:=vq hT6;clear f12 f13 hG hT5 hT6 hx hra hrb;go_wp2_with fail;go_loopw [9] (λx wr2=>x = .int .i64 0/\Xk.Ext W wr2) (λx _=>0)
     case atStart=>exact⟨rfl,al _ _⟩
     case round=>
      obtain⟨rfl,hx2⟩:=hrel;have z1:=Xk.bO hx2 x1;have hz:¬ (0:Int)<0:=ab;have HX2:=aa hx2;clear hx2;go_wp2_with fail;go_roundw
      case rel=>exact⟨q+1,by omega,by go_num,Xk.Ext.trans HX.out (Xk.Ext.trans hxW.out HX2.out)⟩
      case measure=>simp[intOf];omega
    ·have hlb:¬ (q:Int)<(keys.length:Int):=ab;clear hx;go_wp2_with fail;go_ret;exact⟨rfl,Xk.Ext.trans HX3.out HX.out⟩
end Go.Proofs.YtkpmclddjkebeaaGreatDoor
