/- What the claim's proof leans on, part 6: walks of functions and plain laws. -/
import Derived.Test.YtkpmclddjkebeaaGreatDoorRA
import Derived.WalkSpells
import Derived.Test.YtkpmclddjkebeaaGreatDoorRB
import Derived.Deep.MidRow
import Derived.WalkLawsBesides
set_option linter.unusedSimpArgs false
set_option linter.unusedVariables false
set_option maxRecDepth 100000
set_option maxHeartbeats 80000000
open Array renaming getD_eq_getD_getElem?→Eb,getElem?_eq_none→eu,getElem?_eq_some_iff→ae
open Bool renaming false_eq_true→aS,true_eq_false→eO
open Exists renaming intro→aU
open Go.Addr renaming add→zU
open Go.DataW.lit renaming inj→oK
open Go.Ending renaming panicked→fU
open Go.Instr renaming field→CC,lookup→D9,mapUpdate→eG
open Go.Lib renaming hid→aa
open Go.Lit.int renaming inj→BQ
open Go.Proofs.Tryz renaming prog→af,results297→oJ,underlying220→rm,underlying3→jB,underlying35→aA,underlying9→ef
open Go.Result renaming andThen_ok→oZ
open Go.RowKit.Below renaming refl→al
open Go.WideMaps renaming keyOf_string_mk→vI
open Go.World renaming block_lt_of_cell?→ay,cell?→ak,cell?_of_block→kf,cell?_setCell_other→jz,ownsMap_made→uk,setCells→zT,size_alloc→ag,size_drew→bM,size_setCell→aM
open Go renaming bodyPost_ret→ar,frozen_of_row→aD,heap_setCell_other→an,results_none→uj
open List renaming drop_succ_cons→aL,drop_zero→bd,find?_cons→gG,getElem?_eq_getElem→aZ,getElem?_eq_some_iff→cr,headD_eq_head?_getD→D6,length_append→aN,length_cons→aW,length_singleton→bf,mem_cons→aJ,mem_of_getElem?→iY,mem_singleton→dr,not_mem_nil→aF,take_succ_cons→aG,take_zero→aY
open Nat renaming add_zero→oH,le_refl→ai,le_trans→bI,lt_of_lt_of_le→aK,zero_add→eF,zero_le→gM
open Option renaming map_some→oG
open Option.some renaming injEq→fq
open Or renaming inl→kr,inr→rl
namespace Go.Proofs.YtkpmclddjkebeaaGreatDoor
open Go.RowKit
abbrev ah(br:Nat)(w w':World):Prop:=Xe.ES [(br,λ_=>True)] w w'
theorem ah.refl(br:Nat)(w:World):ah br w w:=(Xe.bS _).refl w
theorem ah.trans{br:Nat}{w w' w'':World}(h:ah br w w')(h':ah br w' w''):ah br w w'':=(Xe.bS _).trans h h'
theorem ah.aR{br:Nat}{w w':World}(h:Xk.Ext w w'):ah br w w':=(Xe.bS _).ext h
theorem ah.size{br:Nat}{w w':World}(h:ah br w w'):w.heap.size≤w'.heap.size:=h.2.2.2.1
theorem ah.block{br:Nat}{w w':World}(h:ah br w w'){b:Nat}(hb:b<w.heap.size)(hn:b≠br):w'.heap[b]?=w.heap[b]?:=
 Xe.ES.block h hb (λk hk e=>by simp only[dr]at hk;subst hk;exact hn e.symm)
theorem ah.cell{br:Nat}{w w':World}(h:ah br w w'){b o:Nat}{v:Value}(hc:w.cell? ⟨b,o,none⟩=some v)(hn:b≠br):w'.cell? ⟨b,o,none⟩=some v:=
 Xe.ES.cell h hc (λk hk e=>by simp only[dr]at hk;subst hk;exact hn e.symm)
theorem ah.held{br:Nat}{w w':World}(h:ah br w w'){b:Nat}{o:Obj}(hc:w.heap[b]?=some o)(hn:b≠br):w'.heap[b]?=some o:=
 (h.block (ae.1 hc).1 hn).trans hc
theorem ah.alloc{br:Nat}{w0 w:World}(h:ah br w0 w)(o:Obj):ah br w0 (w.alloc o):=h.trans (ah.aR ((al _ _).alloc (ai _) _))
theorem ah.drew{br:Nat}{w0 w:World}(h:ah br w0 w):ah br w0 w.drew:=h.trans (ah.aR ((al _ _).drew))
theorem ah.exw{br:Nat}{w0 w:World}(h:ah br w0 w)(p:Regrown):ah br w0 (Xk.exw w p):=h.trans (ah.aR (Xk.cF _ _))
theorem ah.kO{br:Nat}{w0 w:World}(h:ah br w0 w){g:Nat}(hg:w0.heap.size≤g∨g=br)(o:Nat)(u:Value):ah br w0 (w.setCell ⟨g,o,none⟩ u):=by
 obtain⟨h1,h2,h3,h4,h5⟩:=h;refine⟨h1,h2,h3,by rw[aM];exact h4,λb hb=>?_⟩;by_cases hbr:b=br
 ·exact .inr ⟨(br,λ_=>True),by simp,hbr.symm,trivial⟩
 ·have hbg:b≠g:=λe=>by rcases hg with hg|hg<;>omega
  rw[an w ⟨g,o,none⟩ b u (λe=>hbg (by simpa using e))];exact h5 b hb
theorem ah.setCells{br:Nat}{w0:World}{g:Nat}(hg:w0.heap.size≤g∨g=br):∀ (vs:List Value) (o:Nat) {w:World},ah br w0 w->ah br w0 (w.setCells g o vs)
 | [],_,_,h=>h
 | v::vs,o,_,h=>ah.setCells hg vs (o+1) (ah.kO h hg o v)
def ud(b off:Nat)(l:List P11.Tok)(w:World):Prop:=
 b<w.heap.size/\∀ (j:Nat) (t:P11.Tok),l[j]?=some t ->
  w.cell? ⟨b,off+j*3,none⟩=some (.int .i64 t.kind)/\w.cell? ⟨b,off+j*3+1,none⟩=some (.string ⟨t.text.toArray⟩)/\w.cell? ⟨b,off+j*3+2,none⟩=some (.int .i64 t.pos)
theorem ud.ext{b off:Nat}{l:List P11.Tok}{w w':World}(h:ud b off l w)(hx:Xk.Ext w w'):ud b off l w':=
 ⟨aK h.1 hx.size,λj t hj=>by
  obtain⟨h1,h2,h3⟩:=h.2 j t hj;exact⟨Xk.bO hx h1,Xk.bO hx h2,Xk.bO hx h3⟩⟩
structure jy(br b off cap:Nat)(r:P12.R)(w:World):Prop where
 blk:w.heap[br]?=some (.cells #[.slice (some ⟨b,off,none⟩) r.l.length cap,.int .i64 r.deep] 69)
 lo:b<br
 cap:r.l.length≤cap
 toks:ud b off r.l w
 good:P12.Good r
 glo:6<br
 env:∃tp p,w.cell? ⟨6,0,none⟩=some (.iface tp p)
def Rd(br:Nat)(r:P12.R)(w:World):Prop:=∃b off cap,jy br b off cap r w
theorem jy.ext{br b off cap:Nat}{r:P12.R}{w w':World}(h:jy br b off cap r w)(hx:Xk.Ext w w'):jy br b off cap r w':=
 ⟨(hx.block br (ae.1 h.blk).1).trans h.blk,h.lo,h.cap,h.toks.ext hx,h.good,h.glo,let⟨tp,p,hc⟩:=h.env;⟨tp,p,Xk.bO hx hc⟩⟩
theorem Rd.ext{br:Nat}{r:P12.R}{w w':World}(h:Rd br r w)(hx:Xk.Ext w w'):Rd br r w':=by
 obtain⟨b,off,cap,h⟩:=h;exact⟨b,off,cap,h.ext hx⟩
theorem Rd.good{br:Nat}{r:P12.R}{w:World}(h:Rd br r w):P12.Good r:=by
 obtain⟨b,off,cap,h⟩:=h;exact h.good
theorem Rd.lt{br:Nat}{r:P12.R}{w:World}(h:Rd br r w):br<w.heap.size:=by
 obtain⟨b,off,cap,h⟩:=h;exact(ae.1 h.blk).1
theorem Rd.alloc{br:Nat}{r:P12.R}{w:World}(h:Rd br r w)(o:Obj):Rd br r (w.alloc o):=h.ext ((al _ _).alloc (ai _) _)
theorem Rd.drew{br:Nat}{r:P12.R}{w:World}(h:Rd br r w):Rd br r w.drew:=h.ext ((al _ _).drew)
theorem Rd.exw{br:Nat}{r:P12.R}{w:World}(h:Rd br r w)(p:Regrown):Rd br r (Xk.exw w p):=h.ext (Xk.cF _ _)
theorem jy.setCell{br b off cap:Nat}{r:P12.R}{w:World}(h:jy br b off cap r w){g:Nat}(hg:br<g)(o:Nat)(u:Value):jy br b off cap r (w.setCell ⟨g,o,none⟩ u):=by
 have hk:∀ {c o':Nat} {v:Value},c≠g->w.cell? ⟨c,o',none⟩=some v->(w.setCell ⟨g,o,none⟩ u).cell? ⟨c,o',none⟩=some v:=fun {c o' v} hne hc=>by
  rw[jz _ _ _ _ (λe=>hne (by cases e;rfl))];exact hc
 have hl:=h.lo;have hgl:=h.glo;refine⟨(an w ⟨g,o,none⟩ br u (λe=>by have:br=g:=(by simpa using e);omega)).trans h.blk,h.lo,h.cap,⟨by rw[aM];exact h.toks.1,λj t hj=>?_⟩,h.good,h.glo,let⟨tp,p,hc⟩:=h.env;⟨tp,p,hk ab hc⟩⟩;obtain⟨h1,h2,h3⟩:=h.toks.2 j t hj;exact⟨hk ab h1,hk ab h2,hk ab h3⟩
theorem jy.alloc{br b off cap:Nat}{r:P12.R}{w:World}(h:jy br b off cap r w)(o:Obj):jy br b off cap r (w.alloc o):=h.ext ((al _ _).alloc (ai _) _)
theorem jy.drew{br b off cap:Nat}{r:P12.R}{w:World}(h:jy br b off cap r w):jy br b off cap r w.drew:=h.ext ((al _ _).drew)
theorem jy.exw{br b off cap:Nat}{r:P12.R}{w:World}(h:jy br b off cap r w)(p:Regrown):jy br b off cap r (Xk.exw w p):=h.ext (Xk.cF _ _)
theorem jy.KM{br b off cap:Nat}{r:P12.R}{w:World}(h:jy br b off cap r w)(hk:(P12.nxt r).kind≠0):
  jy br b (off+3) (cap-1) (P12.ax r) (w.setCell ⟨br,0,none⟩ (.slice (some ⟨b,off+3,none⟩) (r.l.length-1) (cap-1))):=by
 have hl:=h.lo;have hgl:=h.glo;have hg:=h.good.ax;rw[P12.fj hk]at hg ⊢
 have hkp:∀ {c o':Nat} {v u:Value},c≠br->w.cell? ⟨c,o',none⟩=some v->(w.setCell ⟨br,0,none⟩ u).cell? ⟨c,o',none⟩=some v:=fun {c o' v u} hne hc=>by
  rw[jz _ _ _ _ (λe=>hne (by cases e;rfl))];exact hc
 refine⟨?_,h.lo,?_,⟨by rw[aM];exact h.toks.1,λj t hj=>?_⟩,hg,h.glo,let⟨tp,p,hc⟩:=h.env;⟨tp,p,hkp ab hc⟩⟩
 ·rw[heap_setCell_same w br 0 _ _ _ h.blk];simp
 ·have:=h.cap;simp only[List.length_tail];omega
 ·have hj':r.l[j+1]?=some t:=by rw[← hj];simp
  obtain⟨h1,h2,h3⟩:=h.toks.2 (j+1) t hj';refine⟨hkp ab ?_,hkp ab ?_,hkp ab ?_⟩
  ·rw[← h1];congr 2;omega
  ·rw[← h2];congr 2;omega
  ·rw[← h3];congr 2;omega
theorem jy.depth{br b off cap:Nat}{r:P12.R}{w:World}(h:jy br b off cap r w)(d:Nat)(hd:d≤100):
  jy br b off cap ⟨r.l,d⟩ (w.setCell ⟨br,1,none⟩ (.int .i64 d)):=by
 have hl:=h.lo;have hgl:=h.glo
 have hkp:∀ {c o':Nat} {v u:Value},c≠br->w.cell? ⟨c,o',none⟩=some v->(w.setCell ⟨br,1,none⟩ u).cell? ⟨c,o',none⟩=some v:=fun {c o' v u} hne hc=>by
  rw[jz _ _ _ _ (λe=>hne (by cases e;rfl))];exact hc
 refine⟨?_,h.lo,h.cap,⟨by rw[aM];exact h.toks.1,λj t hj=>?_⟩,⟨h.good.ends,h.good.toks,hd,h.good.len⟩,h.glo,let⟨tp,p,hc⟩:=h.env;⟨tp,p,hkp ab hc⟩⟩
 ·rw[heap_setCell_same w br 1 _ _ _ h.blk];simp
 ·obtain⟨h1,h2,h3⟩:=h.toks.2 j t hj;exact⟨hkp ab h1,hkp ab h2,hkp ab h3⟩
theorem jy.cells{br b off cap:Nat}{r:P12.R}{w:World}(h:jy br b off cap r w):
  w.cell? ⟨br,0,none⟩=some (.slice (some ⟨b,off,none⟩) r.l.length cap)/\w.cell? ⟨br,1,none⟩=some (.int .i64 r.deep)/\w.frozen? ⟨br,0,none⟩=false/\w.frozen? ⟨br,1,none⟩=false:=by
 refine⟨by simp[ak,h.blk],by simp[ak,h.blk],aD w br 0 _ _ h.blk,aD w br 1 _ _ h.blk⟩
theorem Rd.setCell{br:Nat}{r:P12.R}{w:World}(h:Rd br r w){g:Nat}(hg:br<g)(o:Nat)(u:Value):Rd br r (w.setCell ⟨g,o,none⟩ u):=by
 obtain⟨b,off,cap,h⟩:=h;exact⟨b,off,cap,h.setCell hg o u⟩
theorem Rd.setCells{br:Nat}{r:P12.R}{g:Nat}(hg:br<g):∀ (vs:List Value) (o:Nat) {w:World},Rd br r w->Rd br r (w.setCells g o vs)
 | [],_,_,h=>h
 | v::vs,o,_,h=>Rd.setCells hg vs (o+1) (Rd.setCell h hg o v)
def bq(e:P12.Er):Ending := .panicked [{ v := .iface 65 (.agg #[.int .i64 e.1,.int .i64 e.2]),recovered:=false }]
def Got{α:Type}(br:Nat)(w0:World)(r:P12.R)(V:Value->α->World->Prop)(res:Except P12.Er (α×P12.R))(e:Ending)(w':World):Prop:=
 match res with
 | .ok (x,r')=>∃v,e = .returned v/\V v x w'/\ah br w0 w'/\Rd br r' w'/\P12.bW r r'
 | .error er=>e=bq er/\ah br w0 w'
abbrev rp(br:Nat):Value := .pointer (some ⟨br,0,none⟩)
abbrev bs(s:List UInt8):Value := .string ⟨s.toArray⟩
theorem tu{A P:Prop}(a:A)(h:A->P:=by intro a;repeat(first|with_reducible exact a|with_reducible exact ah.refl _ _|((with_reducible refine ah.kO ?_ (Or.inl ?_) _ _);rotate_left;exact Go.Xk.sz)|(with_reducible refine ah.kO ?_ (Or.inr rfl) _ _)|((with_reducible refine ah.setCells (Or.inl ?_) _ _ ?_);exact Go.Xk.sz)|(with_reducible refine ah.alloc ?_ _)|(with_reducible refine ah.drew ?_)|(with_reducible refine ah.exw ?_ _))):P:=h a
theorem rdx{A P:Prop}(a:A)(h:A->P:=by intro a;repeat(first|with_reducible exact a|((with_reducible refine Rd.setCell ?_ ?_ _ _);rotate_left;exact Go.Xk.sz)|((with_reducible refine Rd.setCells ?_ _ _ ?_);exact Go.Xk.sz)|(with_reducible refine Rd.alloc ?_ _)|(with_reducible refine Rd.drew ?_)|(with_reducible refine Rd.exw ?_ _))):P:=h a
theorem rda{A P:Prop}(a:A)(h:A->P:=by intro a;repeat(first|with_reducible exact a|((with_reducible refine jy.setCell ?_ ?_ _ _);rotate_left;exact Go.Xk.sz)|(with_reducible refine jy.alloc ?_ _)|(with_reducible refine jy.drew ?_)|(with_reducible refine jy.exw ?_ _))):P:=h a
theorem nF:∀ (fn:Fn) (first cap:Array Value) (w:World),(Instr.makeFunc fn first cap).run af w = .ok (.func fn first cap) w:=λ_ _ _ _=>rfl
theorem mS:∀ (x:Bool) (w:World),(Op.unary .not (.bool x)).run af w = .ok (.bool (!x)) w:=λ_ _=>rfl
theorem Js(a b c:Value)(w:World):(CC 72 (.agg #[a,b,c]) 0).run af w = .ok a w:=au
theorem Jr(a b c:Value)(w:World):(CC 72 (.agg #[a,b,c]) 1).run af w = .ok b w:=au
theorem Jq(a b c:Value)(w:World):(CC 72 (.agg #[a,b,c]) 2).run af w = .ok c w:=au
attribute [go_sem] Js Jr Jq
theorem gI(br:Nat)(r:P12.R)(w:World)(h:Rd br r w):
  Calls af 21 #[rp br] w λe w'=>e = .returned (.agg #[.int .i64 (P12.nxt r).kind,.string ⟨(P12.nxt r).text.toArray⟩,.int .i64 (P12.nxt r).pos])/\Xk.Ext w w':=by
 obtain⟨b,off,cap,h⟩:=h;obtain⟨c1,c2,c3⟩:=h.toks.2 0 _ (P12.wy h.good);simp only[Nat.zero_mul,oH]at c1 c2 c3;have hn:(0:Int)<(r.l.length:Int):=by have:=h.good.pos;omega
 have hd:w.cell? ⟨br,0,none⟩=some (.slice (some ⟨b,off,none⟩) r.l.length cap):=by simp[ak,h.blk]
 have l1:=ay _ _ hd;have l2:=ay _ _ c1;clear h;generalize P12.nxt r=t at c1 c2 c3 ⊢;go_enter Tryz.func21,Tryz.ntmps21;go_wp2;refine ar (v := .agg #[.int .i64 (t).kind,.string ⟨(t).text.toArray⟩,.int .i64 (t).pos]) (by simp[results,Tryz.results21,go_sem]) rfl ⟨rfl,Xk.xt⟩
theorem eC(br:Nat)(r:P12.R)(n:Int)(w:World)(h:Rd br r w):
  Calls af 22 #[rp br,.int .i64 n] w λe w'=>e=bq ((P12.nxt r).pos,n)/\Xk.Ext w w':=by
 have HN:=aa (gI br r w h);clear h;go_enter Tryz.func22,Tryz.ntmps22;go_wp2_with (go_at_call 21;with_reducible refine Xk.cl (HN.out) λp=>?_);go_wp2;refine⟨rfl,rfl,?_⟩;exact Xk.xt
theorem eS(br:Nat)(r:P12.R)(w:World)(h:Rd br r w):
  Calls af 75 #[rp br] w λe w'=>e = .returned (.agg #[.int .i64 (P12.nxt r).kind,.string ⟨(P12.nxt r).text.toArray⟩,.int .i64 (P12.nxt r).pos])/\ah br w w'/\Rd br (P12.ax r) w':=by
 obtain⟨b,off,cap,h⟩:=h;obtain⟨c1,c2,c3⟩:=h.toks.2 0 _ (P12.wy h.good);simp only[Nat.zero_mul,oH]at c1 c2 c3;have hn:(0:Int)<(r.l.length:Int):=by have:=h.good.pos;omega
 obtain⟨d1,d2,f1,f2⟩:=h.cells;have l1:=ay _ _ d1;have l2:=ay _ _ c1;have hlo:=h.lo;by_cases hk:(P12.nxt r).kind=0
 ·rw[P12.ob hk];have HH:=aa h;clear h;rw[hk]at c1;have HK:=aa hk;clear hk;generalize P12.nxt r=t at c1 c2 c3 HK ⊢;go_enter Tryz.func75,Tryz.ntmps75;go_wp2;refine ar (v := .agg #[.int .i64 0,.string ⟨t.text.toArray⟩,.int .i64 t.pos]) (by simp[results,Tryz.results75,go_sem]) rfl ⟨by rw[← HK.out],(tu trivial),b,off,cap,(rda (HH.out))⟩
 ·have hcap:(1:Int)≤(cap:Int):=by have:=h.cap;omega
  have hl2:=h.good.xK hk;have hkb:((P12.nxt r).kind !=0)=true:=by simpa using hk
  have HT:=aa λW (h:jy br b off cap r W)=>h.KM hk;have HH:=aa h;have hlen:(1:Int)<(r.l.length:Int):=ab;clear h;generalize P12.ax r=r' at HT ⊢;generalize P12.nxt r=t at c1 c2 c3 hk hkb ⊢;go_enter Tryz.func75,Tryz.ntmps75;go_wp2
  all_goals first
   | (exfalso;have:=HH.out.cap;omega)
   | (refine ar (v := .agg #[.int .i64 (t).kind,.string ⟨(t).text.toArray⟩,.int .i64 (t).pos]) (by simp[results,Tryz.results75,go_sem]) rfl ⟨rfl,(tu trivial),b,off+3,cap-1,(rda ((HT.out _ HH.out)))⟩)
theorem ix(br:Nat)(r:P12.R)(s:List UInt8)(w:World)(h:Rd br r w):
  Calls af 77 #[rp br,.string ⟨s.toArray⟩] w λe w'=>e = .returned (.bool (P12.isT s r))/\Xk.Ext w w':=by
 have HN:=aa (gI br r w h);clear h;unfold P12.isT;generalize P12.nxt r=t at HN ⊢;obtain⟨kd,tx,ps⟩:=t;simp only at HN ⊢;by_cases h2:kd=2
 ·subst h2;go_enter Tryz.func77,Tryz.ntmps77;go_wp2_with (go_at_call 21;with_reducible refine Xk.cl (HN.out) λp=>?_);go_wp2;go_ret;exact⟨rfl,Xk.xt⟩
 ·by_cases h5:kd=5
  ·subst h5;go_enter Tryz.func77,Tryz.ntmps77;go_wp2_with (go_at_call 21;with_reducible refine Xk.cl (HN.out) λp=>?_);go_wp2;go_ret;exact⟨rfl,Xk.xt⟩
  ·have e2:(kd==2)=false:=by simpa using h2
   have e5:(kd==5)=false:=by simpa using h5
   rw[e2,e5];go_enter Tryz.func77,Tryz.ntmps77;go_wp2_with (go_at_call 21;with_reducible refine Xk.cl (HN.out) λp=>?_);go_wp2;go_ret;exact⟨rfl,Xk.xt⟩
theorem fk(br:Nat)(r:P12.R)(s:List UInt8)(w:World)(h:Rd br r w)(hs:P12.isT s r=false):
  Calls af 20 #[rp br,.string ⟨s.toArray⟩] w λe w'=>e = .returned (.bool false)/\Xk.Ext w w':=by
 have HI:=aa λw h=>ix br r s w h;have HH:=aa h;rw[hs]at HI;clear h hs;go_enter Tryz.func20,Tryz.ntmps20;go_wp2_with (go_at_call 77;with_reducible refine Xk.cl (HI.out _ (rdx (HH.out))) λp=>?_);go_ret;exact⟨rfl,Xk.xt⟩
theorem dT(br:Nat)(r:P12.R)(s:List UInt8)(w:World)(h:Rd br r w)(hs:P12.isT s r=true):
  Calls af 20 #[rp br,.string ⟨s.toArray⟩] w λe w'=>e = .returned (.bool true)/\ah br w w'/\Rd br (P12.ax r) w':=by
 have HI:=aa λw h=>ix br r s w h;have HT:=aa λw h=>eS br r w h;have HH:=aa h;rw[hs]at HI;clear h hs;go_enter Tryz.func20,Tryz.ntmps20;go_wp2_with (go_at_call 77;with_reducible refine Xk.cl (HI.out _ (rdx (HH.out))) λp=>?_);go_at_call 75;refine(HT.out _ (rdx (HH.out))).mono ?_;rintro e w1 ⟨rfl,ht,hr⟩;go_wp2;go_ret
 exact⟨rfl,(by repeat(first|with_reducible exact(ah.trans (tu trivial) ht)|with_reducible exact ah.refl _ _|((with_reducible refine ah.kO ?_ (kr ?_) _ _);rotate_left;exact Xk.sz)|(with_reducible refine ah.kO ?_ (rl rfl) _ _)|((with_reducible refine ah.setCells (kr ?_) _ _ ?_);exact Xk.sz)|(with_reducible refine ah.alloc ?_ _)|(with_reducible refine ah.drew ?_)|(with_reducible refine ah.exw ?_ _))),(rdx (hr))⟩
abbrev ao(kind op k i:Int)(s t n:P12.T)(args:Value):List Value:=
 [.int .i64 kind,.int .i64 op,.int .i64 k,.int .i64 i,bs s,bs t,bs n,.int .i64 0,.int .i64 0,args]
abbrev aj:Value := .slice none 0 0
def aC(S:Nat->Prop)(w:World):P12.E->List Value->Prop
 | .none,l=>l=ao 0 0 0 0 [] [] [] aj
 | .val k i s,l=>l=ao 1 0 k i s [] [] aj
 | .col t n,l=>l=ao 2 0 0 0 [] t n aj
 | .all,l=>l=ao 5 19 0 0 [] [] [] aj
 | .una op a,l=>∃g u,S g/\l=ao 3 op 0 0 [] [] [] (.slice (some ⟨g,0,none⟩) 1 1)/\w.rangeAt g 0 u/\u.length=10/\aC S w a u
 | .call op a,l=>∃g u,S g/\l=ao 5 op 0 0 [] [] [] (.slice (some ⟨g,0,none⟩) 1 1)/\w.rangeAt g 0 u/\u.length=10/\aC S w a u
 | .bin op a b,l=>∃g u v,S g/\l=ao 4 op 0 0 [] [] [] (.slice (some ⟨g,0,none⟩) 2 2)/\w.rangeAt g 0 (u++v)/\u.length=10/\v.length=10/\aC S w a u/\aC S w b v
theorem aC.length{S:Nat->Prop}{w:World}:∀ {e:P12.E} {l:List Value},aC S w e l->l.length=10
 | .none,_,h | .val _ _ _,_,h | .col _ _,_,h | .all,_,h=>by unfold aC at h;rw[h];rfl
 | .una _ _,_,h | .call _ _,_,h=>by unfold aC at h;obtain⟨g,u,-,rfl,-⟩:=h;rfl
 | .bin _ _ _,_,h=>by unfold aC at h;obtain⟨g,u,v,-,rfl,-⟩:=h;rfl
theorem aC.form{S:Nat->Prop}{w:World}:∀ {e:P12.E} {l:List Value},aC S w e l->∃kind op k i s t n p m c,l=ao kind op k i s t n (.slice p m c)
 | .none,_,h | .val _ _ _,_,h | .col _ _,_,h | .all,_,h=>by unfold aC at h;exact⟨_,_,_,_,_,_,_,_,_,_,h⟩
 | .una _ _,_,h | .call _ _,_,h=>by unfold aC at h;obtain⟨g,u,-,h,-⟩:=h;exact⟨_,_,_,_,_,_,_,_,_,_,h⟩
 | .bin _ _ _,_,h=>by unfold aC at h;obtain⟨g,u,v,-,h,-⟩:=h;exact⟨_,_,_,_,_,_,_,_,_,_,h⟩
theorem qd{w:World}{g o:Nat}{l:List Value}(h:w.rangeAt g o l)(hl:0<l.length):g<w.heap.size:=by
 have:=h 0 l[0] (by simp[hl]);exact ay _ _ this
theorem eV{w w':World}{g o:Nat}{l:List Value}(h:w.rangeAt g o l)(hb:w'.heap[g]?=w.heap[g]?):w'.rangeAt g o l:=λj v hj=>by
 have:=h j v hj;unfold ak at this ⊢;simp only at this ⊢;rw[hb];exact this
theorem aC.bg{S S':Nat->Prop}{w w':World}(hb:∀b,S b->b<w.heap.size->w'.heap[b]?=w.heap[b]?)(hS:∀b,S b->b<w.heap.size->S' b):∀ {e:P12.E} {l:List Value},aC S w e l->aC S' w' e l
 | .none,_,h | .val _ _ _,_,h | .col _ _,_,h | .all,_,h=>by unfold aC at h ⊢;exact h
 | .una _ a,_,h | .call _ a,_,h=>by
  unfold aC at h ⊢;obtain⟨g,u,h1,h2,h3,h4,h5⟩:=h;have hlt:=qd h3 ab;exact⟨g,u,hS g h1 hlt,h2,eV h3 (hb g h1 hlt),h4,aC.bg hb hS h5⟩
 | .bin _ a b,_,h=>by
  unfold aC at h ⊢;obtain⟨g,u,v,h1,h2,h3,h4,h4',h5,h6⟩:=h;have hlt:=qd h3 (by simp;omega);exact⟨g,u,v,hS g h1 hlt,h2,eV h3 (hb g h1 hlt),h4,h4',aC.bg hb hS h5,aC.bg hb hS h6⟩
abbrev eN(w:World):Value->P12.E->World->Prop:=λv e w'=>∃l,v = .agg l.toArray/\aC (λb=>w.heap.size≤b) w' e l
def P12.iz(s:P12.T)(r:P12.R):Except P12.Er (Unit×P12.R):=if P12.isT s r then .ok ((),P12.ax r)else .error ((P12.nxt r).pos,120)
theorem nE(br:Nat)(r:P12.R)(s:List UInt8)(g:Nat)(w:World)(h:Rd br r w)(hg:w.cell? ⟨g,0,none⟩=some (.string ⟨s.toArray⟩))(hgr:br<g):
  Calls af 132 #[rp br,.slice (some ⟨g,0,none⟩) 1 1] w (Got br w r (λv _ _=>v = .tuple #[]) (P12.iz s r)):=by
 have HR:=aa h;have lg:=ay _ _ hg;have lr:=h.lt;clear h
 cases hs:P12.isT s r
 ·rw[show P12.iz s r = .error ((P12.nxt r).pos,120) by unfold P12.iz;rw[hs];rfl];have HI:=aa λw h=>fk br r s w h hs;go_enter Tryz.func132,Tryz.ntmps132;go_wp2;go_loopw [8] (λx wr=>x = .int .i64 0/\wr=w) (λ_ _=>0)
  case atStart=>exact⟨rfl,rfl⟩
  case round=>
   obtain⟨rfl,rfl⟩:=hrel;go_wp2_with (go_at_call 20;with_reducible refine Xk.cl (HI.out _ (rdx (HR.out))) λp=>?_);go_at_call 22;refine(eC br (r) 120 _ (rdx (HR.out))).mono ?_;rintro e wF ⟨rfl,hxF⟩;simp only[bq];go_wp2;exact⟨rfl,rfl,ah.trans (tu ((ah.refl _ _))) (ah.aR hxF)⟩
 ·rw[show P12.iz s r = .ok ((),P12.ax r) by unfold P12.iz;rw[hs];rfl];have HI:=aa λw h=>dT br r s w h hs;go_enter Tryz.func132,Tryz.ntmps132;go_wp2;go_loopw [8] (λx wr=>(x = .int .i64 0/\wr=w)∨(x = .int .i64 1/\ah br w wr/\Rd br (P12.ax r) wr)) (λx _=>1-(intOf x).toNat)
  case atStart=>exact .inl ⟨rfl,rfl⟩
  case round=>
   rcases hrel with⟨rfl,rfl⟩|⟨rfl,ht,hr⟩
   ·go_wp2_with fail;go_at_call 20;refine(HI.out _ HR.out).mono ?_;rintro e w1 ⟨rfl,ht,hr⟩;go_wp2;go_roundw
    case rel=>exact .inr ⟨by go_num,ht,hr⟩
    case measure=>simp[intOf]
   ·go_wp2;go_end0
    exact⟨_,rfl,rfl,ht,hr,P12.aO r⟩
theorem dG(br:Nat)(r:P12.R)(w:World)(h:Rd br r w):
  Calls af 131 #[rp br] w (Got br w r (λv x _=>v=bs x) (P12.name r)):=by
 have HR:=aa h;have HN:=aa (gI br r w h);have lr:=h.lt;have hok:=h.good.lR;have hl:=hok.len;clear h hok;unfold P12.name;by_cases hk:(P12.nxt r).kind=1
 ·rw[if_neg (by simpa using hk)];rw[hk]at HN;by_cases hlen:24<(P12.nxt r).text.length
  ·rw[if_pos hlen];have hlb:(24:Int)<((P12.nxt r).text.length:Int):=ab;go_enter Tryz.func131,Tryz.ntmps131;go_wp2_with (go_at_call 21;with_reducible refine Xk.cl (HN.out) λp=>?_);go_at_call 22;refine(eC br (r) 124 _ (rdx (HR.out))).mono ?_;rintro e wF ⟨rfl,hxF⟩;simp only[bq];go_wp2;exact⟨rfl,rfl,ah.trans (tu ((ah.refl _ _))) (ah.aR hxF)⟩
  ·rw[if_neg hlen];have hlb:¬ (24:Int)<((P12.nxt r).text.length:Int):=ab;go_enter Tryz.func131,Tryz.ntmps131;go_wp2_with (go_at_call 21;with_reducible refine Xk.cl (HN.out) λp=>?_);go_at_call 75;refine(eS br r _ (rdx (HR.out))).mono ?_;rintro e w1 ⟨rfl,ht,hr⟩;go_wp2;go_ret;exact⟨_,rfl,rfl,ah.trans (tu trivial) ht,hr,P12.aO r⟩
 ·rw[if_pos (by simpa using hk)];have hkb:((P12.nxt r).kind !=1)=true:=by simpa using hk
  go_enter Tryz.func131,Tryz.ntmps131;go_wp2_with (go_at_call 21;with_reducible refine Xk.cl (HN.out) λp=>?_);go_at_call 22;refine(eC br (r) 120 _ (rdx (HR.out))).mono ?_;rintro e wF ⟨rfl,hxF⟩;simp only[bq];go_wp2;exact⟨rfl,rfl,ah.trans (tu ((ah.refl _ _))) (ah.aR hxF)⟩
theorem Ds(br:Nat)(r:P12.R)(w:World)(h:Rd br r w):
  Calls af 148 #[rp br] w (Got br w r (λv x _=>v=bs x) (P12.maybe r)):=by
 have HR:=aa h;have HN:=aa (gI br r w h);have lr:=h.lt;clear h;unfold P12.maybe;by_cases hk:(P12.nxt r).kind=1
 ·rw[if_neg (by simpa using hk)];rw[hk]at HN;rcases hn:P12.name r with er|⟨x,r1⟩
  ·go_enter Tryz.func148,Tryz.ntmps148;go_wp2_with (go_at_call 21;with_reducible refine Xk.cl (HN.out) λp=>?_);go_at_call 131;refine(dG br r _ (rdx (HR.out))).mono ?_;intro e w1 h;rw[hn]at h;obtain⟨rfl,ht⟩:=h;simp only[bq];go_wp2;exact⟨rfl,rfl,ah.trans (tu trivial) ht⟩
  ·go_enter Tryz.func148,Tryz.ntmps148;go_wp2_with (go_at_call 21;with_reducible refine Xk.cl (HN.out) λp=>?_);go_at_call 131;refine(dG br r _ (rdx (HR.out))).mono ?_;intro e w1 h;rw[hn]at h;obtain⟨v,rfl,rfl,ht,hr,hk⟩:=h;go_wp2;go_ret;exact⟨_,rfl,rfl,ah.trans (tu trivial) ht,hr,hk⟩
 ·rw[if_pos (by simpa using hk)];have hkb:((P12.nxt r).kind !=1)=true:=by simpa using hk
  go_enter Tryz.func148,Tryz.ntmps148;go_wp2_with (go_at_call 21;with_reducible refine Xk.cl (HN.out) λp=>?_);go_wp2;go_ret;exact⟨_,rfl,rfl,(tu trivial),(rdx (HR.out)),P12.bW.refl r⟩
theorem kD(br:Nat)(r:P12.R)(w:World)(h:Rd br r w):
  Calls af 141 #[rp br] w λe w'=>e = .returned (.bool (P12.named r))/\Xk.Ext w w':=by
 have HN:=aa (gI br r w h);have hl:=h.good.lR.len;clear h;unfold P12.named;by_cases hk:(P12.nxt r).kind=1
 ·rw[hk]at HN ⊢;by_cases hlen:(P12.nxt r).text.length≤24
  ·have hlb:((P12.nxt r).text.length:Int)≤24:=ab;rw[show decide ((P12.nxt r).text.length≤24)=true by simpa using hlen];go_enter Tryz.func141,Tryz.ntmps141;go_wp2_with (go_at_call 21;with_reducible refine Xk.cl (HN.out) λp=>?_);go_wp2;go_ret;exact⟨rfl,Xk.xt⟩
  ·have hlb:decide (((P12.nxt r).text.length:Int)≤24)=false:=by simp;omega
   rw[show decide ((P12.nxt r).text.length≤24)=false by simpa using hlen];go_enter Tryz.func141,Tryz.ntmps141;go_wp2_with (go_at_call 21;with_reducible refine Xk.cl (HN.out) λp=>?_);go_wp2;go_ret;exact⟨rfl,Xk.xt⟩
 ·have hkb:((P12.nxt r).kind==1)=false:=by simpa using hk
  rw[hkb];go_enter Tryz.func141,Tryz.ntmps141;go_wp2_with (go_at_call 21;with_reducible refine Xk.cl (HN.out) λp=>?_);go_wp2;go_ret;exact⟨rfl,Xk.xt⟩
theorem qO(br:Nat)(r:P12.R)(w:World)(h:Rd br r w)(hd:r.deep=100):
  Calls af 261 #[rp br] w λe w'=>e=bq ((P12.nxt r).pos,121)/\ah br w w':=by
 have HR:=aa h;have lr:=h.lt;obtain⟨b,off,cap,h⟩:=h;obtain⟨d1,d2,f1,f2⟩:=h.cells;rw[hd]at d2;clear h hd;go_enter Tryz.func261,Tryz.ntmps261;go_wp2_with fail;go_at_call 22;refine(eC br (r) 121 _ (rdx (HR.out))).mono ?_;rintro e wF ⟨rfl,hxF⟩;simp only[bq];go_wp2;exact⟨rfl,rfl,ah.trans (tu ((ah.refl _ _))) (ah.aR hxF)⟩
theorem sT(br:Nat)(r:P12.R)(w:World)(h:Rd br r w)(hd:r.deep≠100):
  Calls af 261 #[rp br] w λe w'=>e = .returned (.tuple #[])/\ah br w w'/\Rd br ⟨r.l,r.deep+1⟩ w':=by
 have lr:=h.lt;obtain⟨b,off,cap,h⟩:=h;obtain⟨d1,d2,f1,f2⟩:=h.cells;have hle:=h.good.deep;have hd2:((r.deep:Int)==100)=false:=by simpa using(by omega:¬ ((r.deep:Int)=100))
 have HD:=aa (h.depth (r.deep+1) ab);clear h hd;go_enter Tryz.func261,Tryz.ntmps261;go_wp2;go_end0
 exact⟨rfl,(tu trivial),b,off,cap,HD.out⟩
def ui(v:Value)(f:FuncId)(x:Value):Prop:=v = .func (.func f) #[x] #[]∨v = .func (.func f) #[] #[x]
structure Ent(f:FuncId):Prop where
 run:∀args W,(callFunc f args).run af W = .ok (.enter f args) W
 no:¬ 2=f
theorem mx:Ent 141:=⟨λ_ _=>by go_simp,by decide⟩
abbrev gu(br:Nat)(n most:Nat):Obj := .cells #[rp br,.int .i64 n,.int .i64 most] 179
theorem BC(br n most gm:Nat)(cv:Value)(w:World)(hm:w.heap[gm]?=some (gu br n most))(hn:n+1≤most)(hb:most≤1000):
  Calls af 200 #[rp gm,cv] w λe w'=>e = .returned (.tuple #[])/\Xk.Ext (w.setCell ⟨gm,1,none⟩ (.int .i64 ((n:Int)+1))) w':=by
 obtain⟨c0,c1,c2,f0,f1,f2⟩:=Xe.i7 hm;have hlt:=(ae.1 hm).1;have hnb:decide ((most:Int)<(n:Int)+1)=false:=by simp;omega
 clear hm;go_enter Tryz.func200,Tryz.ntmps200;go_wp2;refine Xk.reg 13 (Xk.w0 λp=>?_);go_wp2;go_end0
 exact⟨rfl,Xk.xt⟩
theorem DO(br n most gm:Nat)(r:P12.R)(cv x:Value)(CF:FuncId)(w:World)(h:Rd br r w)(hm:w.heap[gm]?=some (gu br n most))(hgm:br<gm)(hn:most<n+1)(hb:n≤100000)
  (hcv:ui cv CF x) (he:Ent CF) (hC:∀W,Rd br r W->Xk.Ext (w.setCell ⟨gm,1,none⟩ (.int .i64 ((n:Int)+1))) W->Calls af CF #[x] W λe w'=>e = .returned (.bool false)/\Xk.Ext W w') :
  Calls af 200 #[rp gm,cv] w λe w'=>e = .returned (.tuple #[])/\Xk.Ext (w.setCell ⟨gm,1,none⟩ (.int .i64 ((n:Int)+1))) w':=by
 obtain⟨c0,c1,c2,f0,f1,f2⟩:=Xe.i7 hm;have hlt:=(ae.1 hm).1;have hnb:(most:Int)<(n:Int)+1:=ab;have HR:=aa h;have HC:=aa hC;have hcf:=he.run;have hci:=he.no;clear hm h hC he;rcases hcv with rfl|rfl
 ·go_enter Tryz.func200,Tryz.ntmps200;go_wp2;refine Xk.eH 13 [] trivial au au ?_;simp only[aG,aY,aL,bd]
  repeat(first
   | ((first|refine Xk.aX (Xk.aQ az) az (λK hK=>?_)|refine Xk.aX az az (λK hK=>?_));apply aU;refine⟨λp hp=>?_,?_⟩;(go_simp;first|exact⟨rfl,rfl⟩|((try refine⟨by kernel_rfl,?_⟩);(first|((try refine⟨hci,?_⟩);(with_reducible refine(HC.out _ (rdx (HR.out)) Xk.xt).mono ?_);exact λe w' h=>h))));(go_simp;refine hK _ ?_;clear hK K))
   | (refine Xk.cQ az (λK hK=>?_);go_simp;refine hK _ ?_;clear hK K))
  refine Xk.bD (λp _=>?_);go_wp2;go_end0
  exact⟨rfl,Xk.xt⟩
 ·go_enter Tryz.func200,Tryz.ntmps200;go_wp2;refine Xk.eH 13 [] trivial au au ?_;simp only[aG,aY,aL,bd]
  repeat(first
   | ((first|refine Xk.aX (Xk.aQ az) az (λK hK=>?_)|refine Xk.aX az az (λK hK=>?_));apply aU;refine⟨λp hp=>?_,?_⟩;(go_simp;first|exact⟨rfl,rfl⟩|((try refine⟨by kernel_rfl,?_⟩);(first|((try refine⟨hci,?_⟩);(with_reducible refine(HC.out _ (rdx (HR.out)) Xk.xt).mono ?_);exact λe w' h=>h))));(go_simp;refine hK _ ?_;clear hK K))
   | (refine Xk.cQ az (λK hK=>?_);go_simp;refine hK _ ?_;clear hK K))
  refine Xk.bD (λp _=>?_);go_wp2;go_end0
  exact⟨rfl,Xk.xt⟩
def rM(br:Nat)(w:World):Nat:=match w.cell? ⟨br,0,none⟩with
 | some (.slice _ n _)=>n
 | _=>0
theorem Rd.len{br:Nat}{r:P12.R}{w:World}(h:Rd br r w):rM br w=r.l.length:=by
 obtain⟨b,off,cap,h⟩:=h;unfold rM;rw[h.cells.1]
theorem BB(br n most gm:Nat)(r:P12.R)(cv x:Value)(CF:FuncId)(w:World)(h:Rd br r w)(hm:w.heap[gm]?=some (gu br n most))(hgm:br<gm)(hn:most<n+1)(hb:n≤100000)
  (hcv:ui cv CF x) (he:Ent CF) (hC:∀W,Rd br r W->Xk.Ext (w.setCell ⟨gm,1,none⟩ (.int .i64 ((n:Int)+1))) W->Calls af CF #[x] W λe w'=>e = .returned (.bool true)/\Xk.Ext W w') :
  Calls af 200 #[rp gm,cv] w λe w'=>e=bq ((P12.nxt r).pos,122)/\Xk.Ext (w.setCell ⟨gm,1,none⟩ (.int .i64 ((n:Int)+1))) w':=by
 obtain⟨c0,c1,c2,f0,f1,f2⟩:=Xe.i7 hm;have hlt:=(ae.1 hm).1;have hnb:(most:Int)<(n:Int)+1:=ab;have HR:=aa h;have HC:=aa hC;have hcf:=he.run;have hci:=he.no;clear hm h hC he;rcases hcv with rfl|rfl
 ·go_enter Tryz.func200,Tryz.ntmps200;go_wp2;refine Xk.eH 13 [] trivial au au ?_;simp only[aG,aY,aL,bd]
  repeat(first
   | ((first|refine Xk.aX (Xk.aQ az) az (λK hK=>?_)|refine Xk.aX az az (λK hK=>?_));apply aU;refine⟨λp hp=>?_,?_⟩;(go_simp;first|exact⟨rfl,rfl⟩|((try refine⟨by kernel_rfl,?_⟩);(first|((try refine⟨hci,?_⟩);(with_reducible refine(HC.out _ (rdx (HR.out)) Xk.xt).mono ?_);exact λe w' h=>h))));(go_simp;refine hK _ ?_;clear hK K))
   | (refine Xk.cQ az (λK hK=>?_);go_simp;refine hK _ ?_;clear hK K))
  refine Xk.bD (λp _=>?_);go_wp2_with fail;go_at_call 22;refine(eC br r 122 _ (rdx (HR.out))).mono ?_;rintro e wF ⟨rfl,hxF⟩;simp only[bq];go_wp2;exact⟨rfl,rfl,Xk.Ext.trans Xk.xt hxF⟩
 ·go_enter Tryz.func200,Tryz.ntmps200;go_wp2;refine Xk.eH 13 [] trivial au au ?_;simp only[aG,aY,aL,bd]
  repeat(first
   | ((first|refine Xk.aX (Xk.aQ az) az (λK hK=>?_)|refine Xk.aX az az (λK hK=>?_));apply aU;refine⟨λp hp=>?_,?_⟩;(go_simp;first|exact⟨rfl,rfl⟩|((try refine⟨by kernel_rfl,?_⟩);(first|((try refine⟨hci,?_⟩);(with_reducible refine(HC.out _ (rdx (HR.out)) Xk.xt).mono ?_);exact λe w' h=>h))));(go_simp;refine hK _ ?_;clear hK K))
   | (refine Xk.cQ az (λK hK=>?_);go_simp;refine hK _ ?_;clear hK K))
  refine Xk.bD (λp _=>?_);go_wp2_with fail;go_at_call 22;refine(eC br r 122 _ (rdx (HR.out))).mono ?_;rintro e wF ⟨rfl,hxF⟩;simp only[bq];go_wp2;exact⟨rfl,rfl,Xk.Ext.trans Xk.xt hxF⟩
def BS(r:P12.R)(gm n most:Nat)(c:Bool)(w:World)(e:Ending)(w':World):Prop:=
 Xk.Ext (w.setCell ⟨gm,1,none⟩ (.int .i64 ((n:Int)+1))) w'/\if(decide (most<n+1)&&c)=true then e=bq ((P12.nxt r).pos,122)else e = .returned (.tuple #[])
theorem iW(br n most gm:Nat)(r:P12.R)(cv x:Value)(CF:FuncId)(c:Bool)(w:World)(h:Rd br r w)(hm:w.heap[gm]?=some (gu br n most))(hgm:br<gm)(hb:n≤100000)(hb2:most≤1000)
  (hcv:ui cv CF x) (he:Ent CF) (hC:∀W,Rd br r W->Xk.Ext (w.setCell ⟨gm,1,none⟩ (.int .i64 ((n:Int)+1))) W->Calls af CF #[x] W λe w'=>e = .returned (.bool c)/\Xk.Ext W w') :
  Calls af 200 #[rp gm,cv] w (BS r gm n most c w):=by
 by_cases hn:most<n+1
 ·cases c
  ·exact(DO br n most gm r cv x CF w h hm hgm hn hb hcv he hC).mono λe w' ⟨h1,h2⟩=>⟨h2,by rw[if_neg aI];exact h1⟩
  ·exact(BB br n most gm r cv x CF w h hm hgm hn hb hcv he hC).mono λe w' ⟨h1,h2⟩=>⟨h2,by rw[if_pos (by simpa using hn)];exact h1⟩
 ·exact(BC br n most gm cv w hm ab hb2).mono λe w' ⟨h1,h2⟩=>⟨h2,by rw[if_neg (by simp;omega)];exact h1⟩
theorem aw(w:World)(o:Obj):(w.alloc o).heap[w.heap.size]?=some o:=by
 show(w.heap.push o)[w.heap.size]?=some o
 simp
def dI{α:Type}(br:Nat)(r:P12.R)(J:α->World->Prop)(Z:World->Prop)(res:Except P12.Er (α×P12.R))(e:Ending)(w':World):Prop:=
 match res with
 | .ok (x,r')=>e = .returned (.tuple #[])/\J x w'/\Rd br r' w'/\P12.bW r r'
 | .error er=>e=bq er/\Z w'
def P12.JA{α:Type}(xs:List α):Except P12.Er (List α×P12.R)->Except P12.Er (List α×P12.R)
 | .ok (ys,r)=> .ok (xs++ys,r)
 | .error e => .error e
theorem GS{α:Type}(br most:Nat)(r0:P12.R)(w:World)(cv rv cx ra rb:Value)(CF RF:FuncId)(could:P12.R->Bool)(read:P12.R->Except P12.Er (α×P12.R))(J:List α->World->Prop)(Z:World->Prop)
  (hmost:most≤1000) (hr:Rd br r0 w) (hcv:ui cv CF cx) (hce:Ent CF) (hC:∀xs r W,Rd br r W->J xs W->Calls af CF #[cx] W λe w'=>e = .returned (.bool (could r))/\Xk.Ext W w')
  (hrv:rv = .func (.func RF) #[] #[ra,rb]) (hre:Ent RF)
  (hR:∀xs r W,P12.bW r0 r->xs.length+r.l.length≤r0.l.length->Rd br r W->J xs W->Calls af RF #[ra,rb] W λe w'=>dI br r (λx w'=>J (xs ++ [x]) w'/\w'.heap[w.heap.size]?=W.heap[w.heap.size]?) Z (read r) e w')
  (hJ:J [] (w.alloc (gu br 0 most))) (hJm:∀xs W v,J xs W->J xs (W.setCell ⟨w.heap.size,1,none⟩ v)) (hJt:∀xs W W',J xs W->ah br W W'->J xs W') (hZ:∀xs W,J xs W->Z W) :
  Calls af 135 #[rp br,.int .i64 most,cv,rv] w (dI br r0 J Z (P12.eJ most could read r0.l.length 0 r0)):=by
 subst hrv;have lr:=hr.lt;have HR:=aa hr;have HRR:=aa hR;have HC:=aa hC;have HJ:=aa hJ;have HJm:=aa hJm;have HJt:=aa hJt;have HZ:=aa hZ;have hcf:=hre.run;have hci:=hre.no;clear hr hR hC hJ hJm hJt hZ;generalize hres:P12.eJ most could read r0.l.length 0 r0=res;have HRES:=aa hres;clear hres;go_enter Tryz.func135,Tryz.ntmps135;go_wp2;go_loopw [20] (λ_ wr=>∃ (xs:List α) (r1:P12.R) (f:Nat),Rd br r1 wr/\P12.bW r0 r1/\wr.heap[w.heap.size]?=some (gu br xs.length most)/\J xs wr/\r1.l.length≤f/\xs.length+r1.l.length≤r0.l.length/\P12.JA xs (P12.eJ most could read f xs.length r1)=res) (λ_ wr=>rM br wr)
 case atStart=>exact⟨[],r0,r0.l.length,(rdx (HR.out)),P12.bW.refl _,aw w _,HJ.out,ai _,by simp,by
  have:=HRES.out;show P12.JA [] (P12.eJ most could read r0.l.length 0 r0)=res
  rw[this];rcases res with e|⟨ys,r⟩<;>rfl⟩
 case round=>
  obtain⟨xs,r1,f,hr1,hk1,hm,hJ,hf,hxl,hres⟩:=hrel;have hgood:=hr1.good;have hpos:=hgood.pos;have h0len:=HR.out.good.len;have hlen1:=hr1.len;obtain⟨f,rfl⟩:∃k,f=k+1:=⟨f-1,by omega⟩;have HR1:=aa hr1;have HM:=aa hm;have HJ1:=aa hJ;have HK1:=aa hk1;have HE:=aa hres;have hlw:=(ae.1 hm).1;clear hr1 hm hJ hk1 hres;go_wp2_with fail;go_at_call 200;refine(iW br xs.length most w.heap.size r1 cv cx CF (could r1) wr HR1.out HM.out ab ab hmost hcv hce (λW h hx=>HC.out xs r1 W h (HJt.out _ _ _ (HJm.out _ _ _ HJ1.out) (ah.aR hx)))).mono ?_;rintro e w1 ⟨hx,hce1⟩
  have hr1:Rd br r1 w1:=(Rd.setCell HR1.out ab 1 _).ext hx;have hj1:J xs w1:=HJt.out _ _ _ (HJm.out _ _ _ HJ1.out) (ah.aR hx)
  cases hmc:decide (most<xs.length+1)&&could r1
  ·rw[if_neg (by rw[hmc];simp)]at hce1;subst hce1
   have hm1:w1.heap[w.heap.size]?=some (gu br (xs.length+1) most):=by
    rw[hx.block _ (by rw[aM];exact hlw),heap_setCell_same wr w.heap.size 1 _ _ _ HM.out];simp
   have HE1:=HE.out;rw[P12.eJ,hmc,if_neg aI]at HE1;have HRd:=HRR.out xs r1 w1 HK1.out hxl hr1 hj1;have HM1:=aa hm1;clear hx hm1;go_wp2_with fail;refine HRd.mono ?_;intro e w2 h
   cases hrd:read r1 with
   | error er=>
    rw[hrd]at h HE1;obtain⟨rfl,hz⟩:=h;simp only[bq];go_wp2;refine⟨rfl,?_⟩;rw[← HE1];exact⟨rfl,hz⟩
   | ok p=>
    obtain⟨x,r2⟩:=p;rw[hrd]at h HE1;obtain⟨rfl,⟨hj2,hm2⟩,hr2,hk2⟩:=h;dsimp only at HE1;have HR2:=aa hr2;have hm2:=hm2.trans HM1.out;have HK2:=aa hk2
    cases hs:P12.isT [44] r2
    ·rw[hs,if_neg aI]at HE1;go_wp2_with fail;go_at_call 20;refine(fk br r2 [44] w2 HR2.out hs).mono ?_;rintro e w3 ⟨rfl,hx3⟩;go_wp2;refine ar (uj rfl _ _ _) rfl ?_;rw[← HE1];exact⟨rfl,HJt.out _ _ _ hj2 (ah.aR hx3),HR2.out.ext hx3,HK1.out.trans HK2.out⟩
    ·rw[hs,if_pos rfl]at HE1;go_wp2_with fail;go_at_call 20;refine(dT br r2 [44] w2 HR2.out hs).mono ?_;rintro e w3 ⟨rfl,ht3,hr3⟩;have hlt:=P12.fz HR2.out.good (P12.el hs);have hle:=HK2.out.le;have hm3:=ht3.held hm2 ab;have hl3:=hr3.len;go_wp2;go_roundw
     case rel=>exact⟨xs ++ [x],P12.ax r2,f,hr3,HK1.out.trans (HK2.out.trans (P12.aO r2)),by simpa using hm3,HJt.out _ _ _ hj2 ht3,by omega,by simp;omega,by
      rw[← HE1];simp only[aN,bf];rcases P12.eJ most could read f (xs.length+1) (P12.ax r2)with e|⟨ys,r⟩
      ·rfl
      ·simp[P12.JA]⟩
     case measure=>(rw[hl3,hlen1];omega)
  ·rw[if_pos hmc]at hce1;subst hce1;simp only[bq];go_wp2;refine⟨rfl,?_⟩;have HE1:=HE.out;rw[P12.eJ,hmc,if_pos rfl]at HE1;rw[← HE1];exact⟨rfl,HZ.out _ _ hj1⟩
end Go.Proofs.YtkpmclddjkebeaaGreatDoor
namespace Go.Xo
open Go.RowKit Go.Xk
theorem bY{P:Program}{w:World}{ops:Array Oper}{rest:List Oper}{o:Oper}{a:Act}{Q:Exit->Act->World->Prop}(B:Nat)(hgd:o.guard=none)(s x:Operand)(t:TypeId)
  (ho:o.op = .call { callee := .builtin .append,args := #[s,x],argTypes := #[t,t] })
  (e:TypeId) (i:TypeInfo) (z:Value) (size bytes:Nat) (ht:P.underlying t=some (.slice e)) (hi:P.info? e=some i) (hz:i.zero=some z)
  (hsize:i.size=size) (hby:i.bytes=bytes) (hzs:z.cells.size=size) (hsz:0<size)
  (v:Value) (n:Nat) (xs:List Value) (hs:a.eval s=v) (hown:w.ownsRow B e size v n xs)
  (g goff m c:Nat) (news:List Value) (hx:a.eval x = .slice (some ⟨g,goff,none⟩) m c) (hm:0<m) (hl:news.length=m*size) (hnews0:∀j u,news[j]?=some u->w.cell? ⟨g,goff+j,none⟩=some u) (h1:∀u∈news,u.oneCell'=true)
  (hb:n≤4000000/\m≤4000000/\bytes≤1000) (hbel:B≤w.heap.size)
  (h:∀v' w',w'.ownsRow B e size v' (n+m) (xs++news)->w.grownBy w' v.ownBlock->(∀b,v'.ownBlock=some b->v.ownBlock=some b∨w.heap.size≤b)->wpList P ops Q rest (a.put o.dst v') w'):wpList P ops Q (o::rest) a w:=by
 have hnews:∀j u,news[j]?=some u->w.cell? (zU ⟨g,goff,none⟩ j)=some u:=λj u hj=>by rw[addr_add];exact hnews0 j u hj
 obtain⟨v',w',hrun,r1,r2⟩:=B2 (P:=P) w B t o.type e i z size bytes ht hi hz hsize hby hzs hsz v n xs hown _ m c news hm hl hnews h1 hb hbel;refine wpList_plain hgd λK hK'=>?_
 have hg:w.grownBy w' v.ownBlock/\(∀b,v'.ownBlock=some b->v.ownBlock=some b∨w.heap.size≤b):=by
  rcases r2 with⟨g,cap,rfl,rfl,hg⟩|⟨hg,b,hb',e1⟩
  ·exact⟨hg,λb h => .inl h⟩
  ·exact⟨⟨hg.os,hg.tape,hg.output,hg.size,λk hk _=>hg.block k hk aI⟩,λc h=>by rw[e1]at h;cases h;exact .inr hb'⟩
 unfold Oper.wp;simp[execOp,ho,resolve,invoke,builtin,hs,hx,hrun,Result.andThen];exact hK' _ _ (h v' w' r1 hg.1 hg.2)
end Go.Xo
namespace Go.Proofs.YtkpmclddjkebeaaGreatDoor
open Go.RowKit
structure Kept(B:Nat)(ks:List Nat)(w w':World):Prop where
 os:w'.os=w.os
 tape:w'.tape=w.tape
 output:w'.output=w.output
 size:w.heap.size≤w'.heap.size
 block:∀b,b<B->b<w.heap.size->b∉ks->w'.heap[b]?=w.heap[b]?
theorem Kept.refl(B:Nat)(ks:List Nat)(w:World):Kept B ks w w:=⟨rfl,rfl,rfl,ai _,λ_ _ _ _=>rfl⟩
theorem Kept.trans{B:Nat}{ks:List Nat}{a b c:World}(h:Kept B ks a b)(k:Kept B ks b c):Kept B ks a c:=
 ⟨k.os.trans h.os,k.tape.trans h.tape,k.output.trans h.output,bI h.size k.size,λx h1 h2 h3=>(k.block x h1 (aK h2 h.size) h3).trans (h.block x h1 h2 h3)⟩
theorem Kept.aR{B:Nat}{ks:List Nat}{w w':World}(h:Xk.Ext w w'):Kept B ks w w':=
 let t:ah 0 w w':=ah.aR h
 ⟨t.1,t.2.1,t.2.2.1,h.size,λx _ h2 _=>h.block x h2⟩
theorem Kept.bB{B br:Nat}{ks:List Nat}{w w':World}(h:ah br w w')(hk:br∈ks):Kept B ks w w':=
 ⟨h.1,h.2.1,h.2.2.1,h.size,λx _ h2 h3=>h.block h2 (λe=>h3 (e▸hk))⟩
theorem Kept.mono{B B':Nat}{ks ks':List Nat}{w w':World}(h:Kept B ks w w')(hB:B'≤B)(hk:∀x,x∈ks->x∈ks'):Kept B' ks' w w':=
 ⟨h.os,h.tape,h.output,h.size,λx h1 h2 h3=>h.block x (aK h1 hB) h2 (λe=>h3 (hk x e))⟩
theorem Kept.alloc{B:Nat}{ks:List Nat}{w0 w:World}(h:Kept B ks w0 w)(o:Obj):Kept B ks w0 (w.alloc o):=h.trans (Kept.aR ((al _ _).alloc (ai _) _))
theorem Kept.drew{B:Nat}{ks:List Nat}{w0 w:World}(h:Kept B ks w0 w):Kept B ks w0 w.drew:=h.trans (Kept.aR ((al _ _).drew))
theorem Kept.exw{B:Nat}{ks:List Nat}{w0 w:World}(h:Kept B ks w0 w)(p:Regrown):Kept B ks w0 (Xk.exw w p):=h.trans (Kept.aR (Xk.cF _ _))
theorem Kept.setCell{B:Nat}{ks:List Nat}{w0 w:World}(h:Kept B ks w0 w){g:Nat}(hg:B≤g∨g∈ks∨w0.heap.size≤g)(o:Nat)(u:Value):Kept B ks w0 (w.setCell ⟨g,o,none⟩ u):=
 ⟨h.os,h.tape,h.output,by rw[aM];exact h.size,λx h1 h2 h3=>by
  have hne:x≠g:=λe=>by
   subst e;rcases hg with hg|hg|hg
   ·omega
   ·exact h3 hg
   ·omega
  rw[an w ⟨g,o,none⟩ x u (λe=>hne (by simpa using e))];exact h.block x h1 h2 h3⟩
theorem Kept.grown{B:Nat}{ks:List Nat}{w0 w w':World}{k:Option Nat}(h:Kept B ks w0 w)(hg:w.grownBy w' k)(hk:∀b,k=some b->B≤b):Kept B ks w0 w':=
 ⟨hg.os.trans h.os,hg.tape.trans h.tape,hg.output.trans h.output,bI h.size hg.size,λx h1 h2 h3=>(hg.block x (aK h2 h.size) (λe=>by have:=hk x e.symm;omega)).trans (h.block x h1 h2 h3)⟩
theorem Kept.turn{br:Nat}{w w':World}(h:Kept w.heap.size [br] w w'):ah br w w':=
 ⟨h.os,h.tape,h.output,h.size,λb hb=>by
  by_cases hbr:b=br
  ·exact .inr ⟨(br,λ_=>True),by simp,hbr.symm,trivial⟩
  ·exact .inl (h.block b hb hb (by simpa using hbr))⟩
theorem Kept.held{B:Nat}{ks:List Nat}{w w':World}(h:Kept B ks w w'){b:Nat}{o:Obj}(hc:w.heap[b]?=some o)(hB:b<B)(hn:b∉ks):w'.heap[b]?=some o:=
 (h.block b hB (ae.1 hc).1 hn).trans hc
theorem kb{w w':World}{B:Nat}{e:TypeId}{size n:Nat}{v:Value}{xs:List Value}(h:w.ownsRow B e size v n xs)(hb:∀b,v.ownBlock=some b->w'.heap[b]?=w.heap[b]?):w'.ownsRow B e size v n xs:=by
 refine⟨h.1,?_⟩;rcases h.2 with h2|⟨g,cap,cur,rfl,h3,h4,h5⟩
 ·exact .inl h2
 ·exact .inr ⟨g,cap,cur,rfl,h3,(hb g rfl).trans h4,h5⟩
theorem fC{br:Nat}{w w':World}{B:Nat}{e:TypeId}{size n:Nat}{v:Value}{xs:List Value}(h:w.ownsRow B e size v n xs)(ht:ah br w w')(hB:br<B):w'.ownsRow B e size v n xs:=
 kb h λb hb=>ht.block (h.lt b hb).2 (by have:=(h.lt b hb).1;omega)
theorem G0{w:World}{B:Nat}{e:TypeId}{size n:Nat}{v:Value}{xs:List Value}(h:w.ownsRow B e size v n xs){g:Nat}(hg:g<B)(o:Nat)(u:Value):(w.setCell ⟨g,o,none⟩ u).ownsRow B e size v n xs:=
 kb h λb hb=>an w ⟨g,o,none⟩ b u (λe=>by
  have h1:=(h.lt b hb).1;have e':b=g:=by simpa using e
  omega)
theorem eR{w:World}{B:Nat}{e:TypeId}{size n:Nat}{v:Value}{xs:List Value}(h:w.ownsRow B e size v n xs)(hn:0<n):∃g cap,v = .slice (some ⟨g,0,none⟩) n cap:=by
 rcases h.2 with⟨-,h2⟩|⟨g,cap,cur,h2,-⟩
 ·omega
 ·exact⟨g,cap,h2⟩
theorem Rd.grown{br:Nat}{r:P12.R}{w w':World}{k:Option Nat}(h:Rd br r w)(hg:w.grownBy w' k)(hk:∀b,k=some b->br<b):Rd br r w':=by
 obtain⟨b,off,cap,h⟩:=h;have hl:=h.lo;have hgl:=h.glo;have hb:∀x,x≤br->x<w.heap.size->w'.heap[x]?=w.heap[x]?:=λx hx hlt=>hg.block x hlt (λe=>by have:=hk x e.symm;omega)
 have hc:∀ {c o:Nat} {v:Value},c≤br->w.cell? ⟨c,o,none⟩=some v->w'.cell? ⟨c,o,none⟩=some v:=fun {c o v} hle hc=>by
  rw[kf (hb c hle (ay _ _ hc))];exact hc
 refine⟨b,off,cap,(hb br (ai _) (ae.1 h.blk).1).trans h.blk,h.lo,h.cap,⟨aK h.toks.1 hg.size,λj t hj=>?_⟩,h.good,h.glo,let⟨tp,p,h1⟩:=h.env;⟨tp,p,hc ab h1⟩⟩;obtain⟨h1,h2,h3⟩:=h.toks.2 j t hj;exact⟨hc ab h1,hc ab h2,hc ab h3⟩
def Jo(gb:Nat)(T e:TypeId)(sz B n:Nat)(xs:List Value)(w:World):Prop:=∃v,w.heap[gb]?=some (.cells #[v] T)/\w.ownsRow B e sz v n xs
theorem kpx{A P:Prop}(a:A)(h:A->P:=by intro a;repeat(first|with_reducible exact a|with_reducible exact Kept.refl _ _ _|((with_reducible refine Kept.setCell ?_ (Or.inl ?_) _ _);rotate_left;exact Go.Xk.sz)|((with_reducible refine Kept.setCell ?_ (Or.inr (Or.inl (by simp))) _ _))|(with_reducible refine Kept.alloc ?_ _)|(with_reducible refine Kept.drew ?_)|(with_reducible refine Kept.exw ?_ _))):P:=h a
theorem Tryz.Cg:(af.info? 9).map (λi=>(i.zero,i.size,i.bytes))=some (some (.string ⟨#[]⟩),1,16):=au
theorem cP{o:Option TypeInfo}{z:Option Value}{n b:Nat}(h:o.map (λi=>(i.zero,i.size,i.bytes))=some (z,n,b)):∃i,o=some i/\i.zero=z/\i.size=n/\i.bytes=b:=by
 cases o with
 | none=>cases h
 | some i=>
  simp only[oG,fq,Prod.mk.injEq]at h;exact⟨i,rfl,h.1,h.2.1,h.2.2⟩
abbrev oR(l:List (List UInt8)):List Value:=l.map λs=>bs s
theorem AX(br gout grb B:Nat)(xs:List P12.T)(r:P12.R)(w:World)(h:Rd br r w)(hb:Jo gout 29 9 1 B xs.length (oR xs) w)(hrb:w.heap[grb]?=some (.cells #[rp br] 67))
  (h1:br<gout) (h2:br<grb) (h3:gout<B) (h4:grb<B) (h5:B≤w.heap.size) (h6:xs.length≤100000) :
  Calls af 201 #[rp gout,rp grb] w (dI br r (λx w'=>Jo gout 29 9 1 B (xs ++ [x]).length (oR (xs ++ [x])) w'/\Kept B [br,gout] w w') (ah br w) (P12.name r)):=by
 obtain⟨v,hbx,hown⟩:=hb;have HR:=aa h;have hg1:w.cell? ⟨gout,0,none⟩=some v:=by simp[ak,hbx]
 have hg2:w.cell? ⟨grb,0,none⟩=some (rp br):=by simp[ak,hrb]
 have G1:=aa hg1;have G2:=aa hg2;have HB:=aa hbx;have HO:=aa hown;clear h hbx hrb hown hg1 hg2;obtain⟨i0,hi,hz0,hz1,hz2⟩:=cP Tryz.Cg;have Hi:=aa hi;have Hz0:=aa hz0;have Hz1:=aa hz1;have Hz2:=aa hz2;clear hi hz0 hz1 hz2;rcases hn:P12.name r with er|⟨x,r1⟩
 ·go_enter Tryz.func201,Tryz.ntmps201;go_wp2
  refine Xg.bm (E:=ah br) (Xe.bS _) (λch W=>fU ch=bq er/\ah br w W) 2 4 (λ_=>none) (λ_ _ h=>by cases h) (λ_ _ _ _ h=>by cases h) [(2,λ_ _=>False),(3,λ_ _=>False)] au au (Xg.cg ((by
     intro y hy;simp only[aJ,aF,or_false]at hy;rcases hy with rfl|rfl
     ·rw[if_pos rfl];exact λ_ _ _ _ h=>h
     ·rw[if_neg aq];exact λ_ _ _ _ h=>h))) ((λch a w' hd hX=>by exact⟨hd,hX.1,hX.2⟩)) ?_
  simp only[aG,aY,aL,bd];refine Xs.gf (show w.drew.cell? ⟨gout,0,none⟩=some v from G1.out) ?_;refine Xs.gf (show w.drew.cell? ⟨grb,0,none⟩=some (rp br)from G2.out) ?_;(refine Xg.dM az az rfl (λW hx hp=>?_) (λu K hK=>?_);(go_simp;((refine(dG br r _ (HR.out.drew.ext hx)).mono ?_);intro e w2 h;rw[hn]at h;obtain⟨h1,h2⟩:=h;exact rl ⟨_,h1,by exact⟨rfl,(ah.drew (ah.refl _ _)).trans ((ah.aR hx).trans h2)⟩⟩));(go_simp;refine hK _ ?_;clear hK K))
  (refine Xg.bc az az aq (λW hx hp=>?_) (λu2 K hK=>?_);(exact(Xe.bG hp au).elim);(go_simp;refine hK _ ?_;clear hK K))
  refine Xg.bD (λW hx hp hg=>?_);exact hp.1.elim
 ·go_enter Tryz.func201,Tryz.ntmps201;go_wp2
  refine Xg.bm (E:=ah br) (Xe.bS _) (λch W=>False) 2 4 (λ_=>none) (λ_ _ h=>by cases h) (λ_ _ _ _ h=>by cases h) [(2,λu W=>u=bs x/\Rd br r1 W/\P12.bW r r1),(3,Xe.qk w.heap.size (bs x))] au au (Xg.cg ((by
     intro y hy;simp only[aJ,aF,or_false]at hy;rcases hy with rfl|rfl
     ·rw[if_pos rfl];exact λ_ _ _ hx h=>⟨h.1,h.2.1.ext hx,h.2.2⟩
     ·rw[if_neg (show ¬ (3=2) by decide)];exact Xe.qk.es (by intro k hk;simp only[dr]at hk;subst hk;show br<w.heap.size;omega)))) ((λch a w' hd hX=>hX.elim)) ?_
  simp only[aG,aY,aL,bd];refine Xs.gf (show w.drew.cell? ⟨gout,0,none⟩=some v from G1.out) ?_;refine Xs.gf (show w.drew.cell? ⟨grb,0,none⟩=some (rp br)from G2.out) ?_;(refine Xg.dM az az rfl (λW hx hp=>?_) (λu K hK=>?_);(go_simp;((refine(dG br r _ (HR.out.drew.ext hx)).mono ?_);intro e w2 h;rw[hn]at h;obtain⟨v',rfl,rfl,h1,h2,h3⟩:=h;exact kr ⟨_,rfl,h1,⟨rfl,h2,h3⟩,λb hb=>by cases hb⟩));(go_simp;refine hK _ ?_;clear hK K))
  (refine Xg.bc az az aq (λW hx hp=>?_) (λu2 K hK=>?_);((obtain⟨rfl,-⟩:=Xe.bG hp au);go_simp;exact⟨(al _ _).alloc (ai _) _,⟨W.heap.size,rfl,by simpa using hx.size,by simp⟩,λb hb=>by cases hb;exact⟨.inr (ai _),by simp⟩⟩);(go_simp;refine hK _ ?_;clear hK K))
  refine Xg.bD (λW hx hp hg=>?_);obtain⟨⟨g,rfl,hge,hgc⟩,⟨rfl,hr1,hk1⟩,-⟩:=hp;have hx':ah br w W:=(ah.drew (ah.refl _ _)).trans hx;have hsz:=hx'.size;have hoW:=fC HO.out hx' ab;have hbW:=hx'.held HB.out ab
  go_wp2_with (at_builtin;refine Xo.bY B rfl _ _ 29 rfl 9 i0 _ 1 16 Tryz.underlying29 Hi.out Hz0.out Hz1.out Hz2.out rfl aq v xs.length (oR xs) rfl hoW g 0 1 1 [bs x] rfl aq rfl (λj u hj=>by match j,hj with|0,hj=>(simp at hj;subst hj;exact hgc)) (Xo.Kq rfl) ab ab ?_;intro v' w' ho' hg' hk';obtain⟨z,cz,rfl⟩:=eR ho' ab;have hlt:=hoW.lt;have hbW':=(hg'.block gout (ae.1 hbW).1 (λe=>by have:=(hlt gout e.symm).1;omega)).trans hbW;have hgc':w'.cell? ⟨gout,0,none⟩=some v:=(by simp[ak,hbW']);have hgf:=aD w' gout 0 _ _ hbW';have HK:=aa ((Kept.bB (B:=B) (ks := [br,gout]) hx' aI).grown hg' (λb hb=>(hlt b hb).1));have HR1:=aa (hr1.grown hg' (λb hb=>by have:=(hlt b hb).1;omega));have HO':=aa ho';have HB':=aa hbW';clear hg' hk' ho' hbW' hx hx' hbW hoW hlt hr1)
  go_wp2;go_end0
  refine⟨rfl,⟨⟨.slice (some ⟨z,0,none⟩) (xs.length+1) cz,?_,?_⟩,HK.out.setCell aI _ _⟩,Rd.setCell HR1.out h1 _ _,hk1⟩
  ·rw[heap_setCell_same w' gout 0 _ _ _ HB'.out];simp
  ·have:=G0 HO'.out h3 0 (.slice (some ⟨z,0,none⟩) (xs.length+1) cz);simpa[oR]using this
end Go.Proofs.YtkpmclddjkebeaaGreatDoor
namespace Go.Proofs.YtkpmclddjkebeaaGreatDoor
open Go.RowKit Go.WideMaps Go.Maps
def dR:List (P12.T×Int)->DataW Unit
 | []=> .map []
 | x::l=>(dR l).put (.string x.1) (.lit (.int .i64 x.2))
theorem xp:∀l,IsMap (dR l)
 | []=>isMap_empty
 | x::l=>(xp l).put _ _
theorem Gf(s:P12.T):∀l,(dR l).atKey (.string s) (.lit (.int .i64 0)) = .lit (.int .i64 (((l.find? λx=>x.1==s).map (·.2)).getD 0))
 | []=>rfl
 | x::l=>by
  rw[dR,gG];by_cases h:x.1=s
  ·subst h;rw[atKey_put_same (xp l) (by trivial)];simp
  ·rw[atKey_put_other (by intro e;cases e;exact h rfl),Gf s l,show(x.1==s)=false by simpa using h]
theorem Bx(s:P12.T):∀l,Maps.has (dR l) (.string s)=(l.find? λx=>x.1==s).isSome
 | []=>rfl
 | x::l=>by
  rw[dR,gG];by_cases h:x.1=s
  ·subst h;rw[has_put_same (xp l) (by trivial)];simp only[beq_self_eq_true,Option.isSome_some]
  ·rw[has_put_other (by intro e;cases e;exact h rfl),Bx s l,show(x.1==s)=false by simpa using h]
theorem Fy:Keyed af 9:=string_keyed ef
theorem IY(w:World):(zeroValue 3).run af w = .ok (.int .i64 0) w:=au
abbrev sh(w:World)(b n:Nat)(D:DataW Unit):Prop:=w.ownsMap af 9 (plainElem af 3) b n D
theorem fE{w:World}{b n:Nat}{l:List (P12.T×Int)}(h:sh w b n (dR l))(hn:n≤100)(s:P12.T)(k:Int)(hs:s.length≤100)(hk:(Lit.int .i64 k).wf=true):
  ∃w',(eG 220 (.map (some b)) (.string ⟨s.toArray⟩) (.int .i64 k)).run af w = .ok () w'/\sh w' b (n+1) (dR ((s,k)::l))/\w.grownBy w' (some b):=by
 have hkey:keyOf af 9 (.string ⟨s.toArray⟩)=some (.string s):=by
  have:=vI ef (s:=⟨s.toArray⟩) (by show s.length≤_;unfold maxLen;omega);simpa using this
 exact h.update Fy rm (by unfold maxLen;omega) hkey (plainElem_int jB hk)
def numOf(l:List (P12.T×Int))(s:P12.T):Int:=((l.find? λx=>x.1==s).map (·.2)).getD 0
theorem ql{w:World}{b n:Nat}{l:List (P12.T×Int)}(h:sh w b n (dR l))(s:P12.T)(hs:s.length≤100000):
  (D9 220 (.map (some b)) (.string ⟨s.toArray⟩) false).run af w = .ok (.int .i64 (numOf l s)) w:=by
 have hkey:keyOf af 9 (.string ⟨s.toArray⟩)=some (.string s):=by
  have:=vI ef (s:=⟨s.toArray⟩) (by show s.length≤_;unfold maxLen;omega);simpa using this
 obtain⟨c,hr,hc,-⟩:=h.lookup_int Fy rm jB (IY _) hkey;rw[Gf]at hc;rw[hr]
 have:c=numOf l s:=by
  have h1:=oK hc;have h2:=(BQ h1).2;exact h2.symm
 rw[this]
theorem look_ok{w:World}{b n:Nat}{l:List (P12.T×Int)}(h:sh w b n (dR l))(s:P12.T)(hs:s.length≤100000):
  (D9 220 (.map (some b)) (.string ⟨s.toArray⟩) true).run af w = .ok (.tuple #[.int .i64 (numOf l s),.bool (l.find? λx=>x.1==s).isSome]) w:=by
 have hkey:keyOf af 9 (.string ⟨s.toArray⟩)=some (.string s):=by
  have:=vI ef (s:=⟨s.toArray⟩) (by show s.length≤_;unfold maxLen;omega);simpa using this
 obtain⟨v,ps,hr,hv⟩:=h.look_ok Fy rm (IY _) (plainElem_int (q := .i64) (a:=0) jB aq) hkey;obtain⟨c,rfl,hc,-⟩:=plainElem_int_inv jB hv;have hc:=congrArg Prod.fst hc;rw[Gf]at hc;rw[hr,Bx]
 have:c=numOf l s:=by
  have h1:=oK hc;have h2:=(BQ h1).2;exact h2.symm
 rw[this]
theorem bP{B:Nat}{w w' w'':World}(h:Below B w w')(hs:B≤w'.heap.size)(hg:w'.grownBy w'' (some B)):Below B w w'':=
 h.grown hg hs (λj hj=>by cases hj;exact ai _)
def ig:List (P12.T×Int):= [([77,65,88],23),([77,73,78],22),([83,85,77],21),([67,79,85,78,84],20)]
theorem oU(w:World):Calls af 205 #[] w λe w'=>e = .returned (.map (some w.heap.size))/\sh w' w.heap.size 4 (dR ig)/\Xk.Ext w w':=by
 have hmm:=@run_makeMap af;have o0:sh (w.alloc (.map #[] 0)) w.heap.size 0 (dR []):=uk _ _ _ _;have x0:Below w.heap.size w (w.alloc (.map #[] 0)):=(al _ _).alloc (ai _) _;obtain⟨w1,h1,o1,g1⟩:=fE o0 aq [67,79,85,78,84] 20 aq aq;have x1:=bP x0 x0.size g1;obtain⟨w2,h2,o2,g2⟩:=fE o1 aq [83,85,77] 21 aq aq;have x2:=bP x1 x1.size g2;obtain⟨w3,h3,o3,g3⟩:=fE o2 aq [77,73,78] 22 aq aq;have x3:=bP x2 x2.size g3;obtain⟨w4,h4,o4,g4⟩:=fE o3 aq [77,65,88] 23 aq aq;have x4:=bP x3 x3.size g4;have O:=aa o4;have X:=aa x4;clear o0 x0 o1 x1 o2 x2 o3 x3 o4 x4 g1 g2 g3 g4;go_enter Tryz.func205,Tryz.ntmps205;go_wp2
 go_ret;exact⟨rfl,O.out,X.out⟩
def ia:List (P12.T×Int):= [([124,124],14),([37],13),([47],12),([42],11),([45],10),([43],9),([62,61],8),([62],7),([60,61],6),([60],5),([60,62],4),([61],3),([65,78,68],2),([79,82],1)]
theorem jS(w:World):Calls af 237 #[] w λe w'=>e = .returned (.map (some w.heap.size))/\sh w' w.heap.size 14 (dR ia)/\Xk.Ext w w':=by
 have hmm:=@run_makeMap af;have o0:sh (w.alloc (.map #[] 0)) w.heap.size 0 (dR []):=uk _ _ _ _;have x0:Below w.heap.size w (w.alloc (.map #[] 0)):=(al _ _).alloc (ai _) _;obtain⟨w1,h1,o1,g1⟩:=fE o0 aq [79,82] 1 aq aq;have x1:=bP x0 x0.size g1;obtain⟨w2,h2,o2,g2⟩:=fE o1 aq [65,78,68] 2 aq aq;have x2:=bP x1 x1.size g2;obtain⟨w3,h3,o3,g3⟩:=fE o2 aq [61] 3 aq aq;have x3:=bP x2 x2.size g3;obtain⟨w4,h4,o4,g4⟩:=fE o3 aq [60,62] 4 aq aq;have x4:=bP x3 x3.size g4;obtain⟨w5,h5,o5,g5⟩:=fE o4 aq [60] 5 aq aq;have x5:=bP x4 x4.size g5;obtain⟨w6,h6,o6,g6⟩:=fE o5 aq [60,61] 6 aq aq;have x6:=bP x5 x5.size g6
 obtain⟨w7,h7,o7,g7⟩:=fE o6 aq [62] 7 aq aq;have x7:=bP x6 x6.size g7;obtain⟨w8,h8,o8,g8⟩:=fE o7 aq [62,61] 8 aq aq;have x8:=bP x7 x7.size g8;obtain⟨w9,h9,o9,g9⟩:=fE o8 aq [43] 9 aq aq;have x9:=bP x8 x8.size g9;obtain⟨w10,h10,o10,g10⟩:=fE o9 aq [45] 10 aq aq;have x10:=bP x9 x9.size g10;obtain⟨w11,h11,o11,g11⟩:=fE o10 aq [42] 11 aq aq;have x11:=bP x10 x10.size g11;obtain⟨w12,h12,o12,g12⟩:=fE o11 aq [47] 12 aq aq;have x12:=bP x11 x11.size g12;obtain⟨w13,h13,o13,g13⟩:=fE o12 aq [37] 13 aq aq;have x13:=bP x12 x12.size g13;obtain⟨w14,h14,o14,g14⟩:=fE o13 aq [124,124] 14 aq aq
 have x14:=bP x13 x13.size g14;have O:=aa o14;have X:=aa x14;clear o0 x0 o1 x1 o2 x2 o3 x3 o4 x4 o5 x5 o6 x6 o7 x7 o8 x8 o9 x9 o10 x10 o11 x11 o12 x12 o13 x13 o14 x14 g1 g2 g3 g4 g5 g6 g7 g8 g9 g10 g11 g12 g13 g14;go_enter Tryz.func237,Tryz.ntmps237;go_wp2;go_ret;exact⟨rfl,O.out,X.out⟩
theorem setCells_size(g:Nat):∀ (vs:List Value) (o:Nat) (W:World),(W.setCells g o vs).heap.size=W.heap.size
 | [],_,_=>rfl
 | v::vs,o,W=>by rw[zT,setCells_size g vs,aM]
theorem dL(g:Nat):∀ (vs:List Value) (o:Nat) (W:World) {b:Nat},b≠g->(W.setCells g o vs).heap[b]?=W.heap[b]?
 | [],_,_,_,_=>rfl
 | v::vs,o,W,b,hb=>by rw[zT,dL g vs _ _ hb,an W ⟨g,o,none⟩ b v (λe=>hb (by simpa using e))]
theorem lQ{g:Nat}{T:TypeId}:∀ (vs:List Value) (o:Nat) (W:World) (c:Array Value),W.heap[g]?=some (.cells c T)->o+vs.length≤c.size ->
  ∃c',(W.setCells g o vs).heap[g]?=some (.cells c' T)/\c'.size=c.size/\(∀j,j<vs.length->c'[o+j]?=vs[j]?)/\∀j,(j<o∨o+vs.length≤j)->c'[j]?=c[j]?
 | [],o,W,c,h,_=>⟨c,h,rfl,λj hj=>absurd hj aI,λ_ _=>rfl⟩
 | v::vs,o,W,c,h,hl=>by
  simp only[aW]at hl;have h1:=heap_setCell_same W g o c T v h;obtain⟨c',e1,e2,e3,e4⟩:=lQ vs (o+1) (W.setCell ⟨g,o,none⟩ v) _ h1 (by simp;omega);refine⟨c',e1,by rw[e2];simp,λj hj=>?_,λj hj=>?_⟩
  ·cases j with
   | zero=>
    rw[oH,e4 o ab];simp[show o<c.size by omega]
   | succ j=>
    have:=e3 j (by simpa using hj);rw[show o+(j+1)=o+1+j by omega,this];simp
  ·simp only[aW]at hj;rw[e4 j ab];rw[Array.getElem?_setIfInBounds_ne ab]
theorem ir{g:Nat}{T:TypeId}{W:World}{c:Array Value}(h:W.heap[g]?=some (.cells c T))(vs:List Value)(hl:vs.length=c.size):(W.setCells g 0 vs).heap[g]?=some (.cells vs.toArray T):=by
 obtain⟨c',e1,e2,e3,-⟩:=lQ vs 0 W c h ab;rw[e1];congr 2;apply Array.ext_getElem?;intro i;by_cases hi:i<vs.length
 ·have:=e3 i hi;rw[eF]at this;rw[this];simp
 ·rw[eu ab,eu (by simp;omega)]
abbrev bu(l:List Value):Obj := .cells l.toArray 35
theorem bA{W:World}{b:Nat}{a0 a1 a2 a3 a4 a5 a6 a7 a8 a9:Value}{T:TypeId}(h:W.heap[b]?=some (.cells #[a0,a1,a2,a3,a4,a5,a6,a7,a8,a9] T)):
  W.cell? ⟨b,0,none⟩=some a0/\W.cell? ⟨b,1,none⟩=some a1/\W.cell? ⟨b,2,none⟩=some a2/\W.cell? ⟨b,3,none⟩=some a3/\W.cell? ⟨b,4,none⟩=some a4 /\
  W.cell? ⟨b,5,none⟩=some a5/\W.cell? ⟨b,6,none⟩=some a6/\W.cell? ⟨b,7,none⟩=some a7/\W.cell? ⟨b,8,none⟩=some a8/\W.cell? ⟨b,9,none⟩=some a9:=by
 refine⟨?_,?_,?_,?_,?_,?_,?_,?_,?_,?_⟩<;>simp[ak,h]
theorem dH{W:World}{b:Nat}{c:Array Value}{T:TypeId}(h:W.heap[b]?=some (.cells c T)):
  W.frozen? ⟨b,0,none⟩=false/\W.frozen? ⟨b,1,none⟩=false/\W.frozen? ⟨b,2,none⟩=false/\W.frozen? ⟨b,3,none⟩=false/\W.frozen? ⟨b,4,none⟩=false /\
  W.frozen? ⟨b,5,none⟩=false/\W.frozen? ⟨b,6,none⟩=false/\W.frozen? ⟨b,7,none⟩=false/\W.frozen? ⟨b,8,none⟩=false/\W.frozen? ⟨b,9,none⟩=false:=
 ⟨aD W b 0 _ _ h,aD W b 1 _ _ h,aD W b 2 _ _ h,aD W b 3 _ _ h,aD W b 4 _ _ h,aD W b 5 _ _ h,aD W b 6 _ _ h,aD W b 7 _ _ h,aD W b 8 _ _ h,aD W b 9 _ _ h⟩
theorem dh{W:World}{g:Nat}{l:List Value}{T:TypeId}(h:W.heap[g]?=some (.cells l.toArray T)):W.rangeAt g 0 l:=λj v hj=>by
 unfold ak;simp only[h,eF];simpa using hj
theorem aC.turn{S:Nat->Prop}{br:Nat}{w w':World}{e:P12.E}{l:List Value}(h:aC S w e l)(ht:ah br w w')(hS:∀b,S b->b≠br):aC S w' e l:=
 h.bg (λb hb hlt=>ht.block hlt (hS b hb)) (λb hb _=>hb)
theorem aC.ext{S:Nat->Prop}{w w':World}{e:P12.E}{l:List Value}(h:aC S w e l)(hx:Xk.Ext w w'):aC S w' e l:=
 h.bg (λb hb hlt=>hx.block b hlt) (λb hb _=>hb)
theorem aC.mono{S S':Nat->Prop}{w:World}{e:P12.E}{l:List Value}(h:aC S w e l)(hS:∀b,S b->b<w.heap.size->S' b):aC S' w e l:=
 h.bg (λb _ _=>rfl) hS
theorem aC.set{S:Nat->Prop}{w:World}{e:P12.E}{l:List Value}(h:aC S w e l){g:Nat}(hg:¬ S g)(o:Nat)(u:Value):aC S (w.setCell ⟨g,o,none⟩ u) e l:=
 h.bg (λb hb hlt=>an w ⟨g,o,none⟩ b u (λe=>hg ((show b=g by simpa using e)▸hb))) (λb hb _=>hb)
theorem aC.sets{S:Nat->Prop}{w:World}{e:P12.E}{l:List Value}(h:aC S w e l){g:Nat}(hg:¬ S g)(vs:List Value)(o:Nat):aC S (w.setCells g o vs) e l:=
 h.bg (λb hb hlt=>dL g vs o w (λe=>hg (e▸hb))) (λb hb _=>hb)
end Go.Proofs.YtkpmclddjkebeaaGreatDoor
namespace Go.Proofs.YtkpmclddjkebeaaGreatDoor
open Go.RowKit Go.WideMaps Go.Maps
structure vH(gs br:Nat)(ops:List (P12.T×Int))(w:World):Prop where
 cell:∀ (j:Nat) (o:P12.T×Int),ops[j]?=some o->w.cell? ⟨gs,j,none⟩=some (bs o.1)
 lo:br<gs
 num:∀o∈ops,numOf ia o.1=o.2/\o.1 ≠ []/\o.1.length≤100
 lt:gs<w.heap.size
theorem vH.turn{gs br:Nat}{ops:List (P12.T×Int)}{w w':World}(h:vH gs br ops w)(ht:ah br w w'):vH gs br ops w':=
 ⟨λj o hj=>ht.cell (h.cell j o hj) (by have:=h.lo;omega),h.lo,h.num,aK h.lt ht.size⟩
theorem Fs{w w':World}{b n:Nat}{D:DataW Unit}(h:sh w b n D)(e:w'.heap[b]?=w.heap[b]?):sh w' b n D:=by
 obtain⟨es,clock,hb,hr⟩:=h;exact⟨es,clock,e.trans hb,hr⟩
def gF(B:Nat)(l:List (P12.T×Int))(v:Value)(W:World):Prop:=∃b n,v = .map (some b)/\B≤b/\b<W.heap.size/\sh W b n (dR l)
theorem gF.turn{B br:Nat}{l:List (P12.T×Int)}(hB:br<B):∀v w w',ah br w w'->gF B l v w->gF B l v w':=by
 rintro v w w' ht ⟨b,n,rfl,h1,h2,h3⟩;exact⟨b,n,rfl,h1,aK h2 ht.size,Fs h3 (ht.block h2 ab)⟩
def lf(B:Nat)(e:P12.E)(l:List Value)(v:Value)(W:World):Prop:=∃g l2,v = .slice (some ⟨g,0,none⟩) 2 2/\B≤g/\W.heap[g]?=some (.cells (l++l2).toArray 35)/\aC (λb=>B≤b) W e l2
theorem lf.turn{B br:Nat}{e:P12.E}{l:List Value}(hB:br<B):∀v w w',ah br w w'->lf B e l v w->lf B e l v w':=by
 rintro v w w' ht ⟨g,l2,rfl,h1,h2,h3⟩;exact⟨g,l2,rfl,h1,ht.held h2 ab,h3.turn ht (λb hb=>by omega)⟩
def lp(br B:Nat)(e:P12.E)(r r2:P12.R)(v:Value)(W:World):Prop:=∃l2,v = .agg l2.toArray/\aC (λb=>B≤b) W e l2/\Rd br r2 W/\P12.bW r r2
theorem lp.ext{br B:Nat}{e:P12.E}{r r2:P12.R}:∀v w w',Xk.Ext w w'->lp br B e r r2 v w->lp br B e r r2 v w':=by
 rintro v w w' hx ⟨l2,rfl,h1,h2,h3⟩;exact⟨l2,rfl,h1.ext hx,h2.ext hx,h3⟩
abbrev df:Array Value := #[.int .i64 0,.int .i64 0,.int .i64 0,.int .i64 0,.string ⟨#[]⟩,.string ⟨#[]⟩,.string ⟨#[]⟩,.int .i64 0,.int .i64 0,.slice none 0 0]
theorem vx{ops:List (P12.T×Int)}{r:P12.R}(h:∀ (j:Nat) (o:P12.T×Int),ops[j]?=some o->P12.isT o.1 r=false):ops.find? (λo:P12.T×Int=>P12.isT o.1 r)=none:=by
 rw[List.find?_eq_none];intro o ho;obtain⟨j,hj,e⟩:=List.mem_iff_getElem.1 ho;rw[h j o (by rw[aZ hj,e])];simp
theorem Cu{ops:List (P12.T×Int)}{r:P12.R}:∀ {k:Nat} {o:P12.T×Int},ops[k]?=some o->P12.isT o.1 r=true->(∀ (j:Nat) (o':P12.T×Int),j<k->ops[j]?=some o'->P12.isT o'.1 r=false)->ops.find? (λo:P12.T×Int=>P12.isT o.1 r)=some o:=by
 induction ops with
 | nil=>intro k o h;simp at h
 | cons x l ih=>
  intro k o h ht hb;rw[gG]
  cases k with
  | zero=>
   simp only[List.getElem?_cons_zero,fq]at h;subst h;rw[ht]
  | succ k=>
   rw[hb 0 x ab rfl];exact ih (by simpa using h) ht λj o' hj ho=>hb (j+1) o' ab (by simpa using ho)
theorem BI(br gs:Nat)(F:FuncId)(hF:Ent F)(part:P12.R->Except P12.Er (P12.E×P12.R))(ops:List (P12.T×Int))(r0:P12.R)(w:World)(h:Rd br r0 w)(ho:vH gs br ops w)(hn:ops.length≤100)
  (HP:∀r W,P12.bW r0 r->Rd br r W->Calls af F #[rp br] W (Got br W r (eN W) (part r))) :
  Calls af 202 #[rp br,.func (.func F) #[rp br] #[],.slice (some ⟨gs,0,none⟩) ops.length ops.length] w (Got br w r0 (eN w) (P12.binary part ops r0)):=by
 have HR:=aa h;have HO:=aa ho;have HPP:=aa HP;have lr:=h.lt;have hcf:=hF.run;have hci:=hF.no;clear h ho HP hF
 cases hp:part r0 with
 | error er=>
  rw[show P12.binary part ops r0 = .error er by unfold P12.binary;rw[hp]];go_enter Tryz.func202,Tryz.ntmps202;go_wp2_with fail;refine(HPP.out r0 _ (P12.bW.refl _) (rdx (HR.out))).mono ?_;intro e w1 h;rw[hp]at h;obtain⟨rfl,ht⟩:=h;simp only[bq];go_wp2;exact⟨rfl,rfl,ah.trans (tu trivial) ht⟩
 | ok p=>
  obtain⟨e0,r1⟩:=p;rw[show P12.binary part ops r0=P12.nh part ops r1.l.length e0 r1 by unfold P12.binary;rw[hp]];generalize hres:P12.nh part ops r1.l.length e0 r1=res;have HRES:=aa hres;clear hres;go_enter Tryz.func202,Tryz.ntmps202;go_wp2_with fail;refine(HPP.out r0 _ (P12.bW.refl _) (rdx (HR.out))).mono ?_;intro e w1 h;rw[hp]at h;obtain⟨v1,rfl,⟨l1,rfl,he1⟩,ht1,hr1,hk1⟩:=h;obtain⟨kd,op,vk,vi,vs,tb,nm,pp,pm,pc,rfl⟩:=he1.form;go_wp2;have lw1:=ht1.size;simp only[ag]at lw1
  go_loopw [8] (λ_ wr=>∃ (e:P12.E) (l:List Value) (r:P12.R) (f:Nat),Rd br r wr/\P12.bW r0 r/\ah br w wr/\wr.heap[w.heap.size]?=some (bu df.toList)/\wr.heap[w1.heap.size]?=some (bu l)/\aC (λb=>w.heap.size<b/\b≠w1.heap.size) wr e l/\r.l.length≤f/\P12.nh part ops f e r=res) (λ_ wr=>rM br wr)
  case atStart=>exact⟨e0,_,r1,r1.l.length,(rdx (hr1)),hk1,(by repeat(first|with_reducible exact(ah.trans (tu trivial) ht1)|with_reducible exact ah.refl _ _|((with_reducible refine ah.kO ?_ (kr ?_) _ _);rotate_left;exact Xk.sz)|(with_reducible refine ah.kO ?_ (rl rfl) _ _)|((with_reducible refine ah.setCells (kr ?_) _ _ ?_);exact Xk.sz)|(with_reducible refine ah.alloc ?_ _)|(with_reducible refine ah.drew ?_)|(with_reducible refine ah.exw ?_ _))),by
   have h1:=ht1.held (aw w (bu df.toList)) ab;exact((ah.alloc (ah.refl br w1) _).held h1 ab),aw w1 _,(he1.mono (λb hb hlt=>⟨by simp only[ag]at hb;omega,by omega⟩)).ext ((al _ _).alloc (ai _) _),ai _,HRES.out⟩
  case round=>
   obtain⟨Wo,hwo⟩:∃W,W=wr:=⟨_,rfl⟩;subst hwo;obtain⟨e,l,r,f,hr,hk,ht,hz,hb7,he,hf,hres⟩:=hrel;obtain⟨kd,op,vk,vi,vs,tb,nm,pp,pm,pc,rfl⟩:=he.form;have HR1:=aa hr;have HK:=aa hk;have HT:=aa ht;have HZ:=aa hz;have HB7:=aa hb7;have HE:=aa he;have HF:=aa hf;have HRS:=aa hres;have hlenr:=hr.len;have hpos:=hr.good.pos;have hO2:=HO.out.turn ht;have HO2:=aa hO2;have lwr:=ht.size;have lg:=hO2.lt;have lrr:=hr.lt;have l7:=(ae.1 hb7).1;clear hr hk ht hz hb7 he hf hres hO2;go_wp2
   go_loopw [15,8] (λx s wr2=>∃k:Nat,k≤ops.length/\x = .int .i64 k/\s = .string ⟨#[]⟩/\Xk.Ext Wo wr2/\∀ (j:Nat) (o:P12.T×Int),j<k->ops[j]?=some o->P12.isT o.1 r=false) (λx _ _=>ops.length-(intOf x).toNat)
   case atStart=>exact⟨0,gM _,rfl,rfl,al _ _,λj o hj=>absurd hj ab⟩
   case round=>
    obtain⟨k,hkn,rfl,rfl,hx,hno⟩:=hrel;have HX:=aa hx;have HNO:=aa hno;have hsx:=hx.size;clear hx hno;by_cases hlt:k<ops.length
    ·obtain⟨o,hok⟩:∃o,ops[k]?=some o:=⟨_,aZ hlt⟩;have hkb:(k:Int)<(ops.length:Int):=ab;have hc:=Xk.bO HX.out (HO2.out.cell k o hok);obtain⟨hnum,hne,hol⟩:=HO2.out.num o (iY hok);have HOK:=aa hok;clear hok
     cases hs:P12.isT o.1 r
     ·go_wp2_with (go_at_call 20;refine(fk br r o.1 _ (HR1.out.ext HX.out) hs).mono ?_;rintro e w' ⟨rfl,hb⟩;obtain⟨p,rfl⟩:=Xk.jq hb;clear hb);go_roundw
      case rel=>exact⟨k+1,by omega,by go_num,rfl,Xk.Ext.trans HX.out (Xk.cF _ _),λj o' hj ho'=>by
       by_cases hjk:j=k
       ·subst hjk;rw[HOK.out]at ho'
        cases ho';exact hs
       ·exact HNO.out j o' ab ho'⟩
      case measure=>simp[intOf];omega
     ·go_wp2_with fail;go_at_call 20;refine(dT br r o.1 _ (HR1.out.ext HX.out) hs).mono ?_;rintro e w3 ⟨rfl,ht3,hr3⟩
      have hemp:o.1.isEmpty=false:=by
       cases ho:o.1 with
       | nil=>exact absurd ho hne
       | cons a b=>rfl
      go_wp2;have hx3:ah br Wo w3:=ah.trans (ah.aR HX.out) ht3;have hb3:=hx3.held HB7.out ab;have hz3:=hx3.held HZ.out ab;have he3:=HE.out.turn hx3 (λb hb=>by omega);have HB3:=aa hb3;have HZ3:=aa hz3;have HE3:=aa he3;have HR3:=aa hr3;have HT3:=aa (ah.trans HT.out hx3);have HK3:=aa (HK.out.trans (P12.aO r));have ls3:=hx3.size;have l73:=(ae.1 hb3).1;have hRS:=HRS.out;have hf1:=HF.out;obtain⟨f,rfl⟩:∃k,f=k+1:=⟨f-1,by omega⟩;rw[P12.nh,Cu HOK.out hs (λj o' hj ho'=>HNO.out j o' hj ho')]at hRS;dsimp only at hRS;have hlt3:=P12.fz HR1.out.good (P12.el hs);clear hb3 hz3 he3 hr3 hx3 ht3 hc
      cases hp2:part (P12.ax r)with
      | error er=>
       rw[hp2]at hRS;dsimp only at hRS;subst hRS
       refine Xg.bm (E:=ah br) (Xe.bS _) (λch W=>fU ch=bq er/\ah br w3 W) 5 7 (λ_=>none) (λ_ _ h=>by cases h) (λ_ _ _ _ h=>by cases h) [(0,gF w3.heap.size ia),(5,λ_ _=>False),(6,λ_ _=>False)] au au (Xg.cg ((by
               intro y hy;simp only[aJ,aF,or_false]at hy;rcases hy with rfl|rfl|rfl
               ·rw[if_neg (show ¬ (0=5) by decide)];exact gF.turn ab
               ·rw[if_pos rfl];exact λ_ _ _ _ h=>h
               ·rw[if_neg (show ¬ (6=5) by decide)];exact λ_ _ _ _ h=>h))) ((λch a w' hd hX=>⟨hd,hX.1,ah.trans HT3.out hX.2⟩)) ?_
       simp only[aG,aY,aL,bd];(refine Xg.bc az az aq (λW hx hp=>?_) (λu0 K hK=>?_);(go_simp;exact(jS W).mono (λe w' h=>by obtain⟨rfl,hm,hx'⟩:=h;exact⟨_,rfl,hx',⟨W.heap.size,14,rfl,(by have:=hx.size;simpa using this),(by obtain⟨es,cl,hb,-⟩:=hm;exact(ae.1 hb).1),hm⟩,λb hb=>by cases hb⟩));(go_simp;refine hK _ ?_;clear hK K))
       refine Xg.gs ?_;(refine Xg.aX (Xk.aQ az) az (λK hK=>?_);apply aU;refine⟨λW hx hp=>?_,?_⟩;((obtain⟨b,n,hu,h1,h2,h3⟩:=Xe.bG hp au;have hlk:=ql h3 o.1 ab;subst hu);go_simp;exact⟨rfl,rfl⟩);(go_simp;refine hK _ ?_;clear hK K))
       refine Xs.gc (show w3.drew.heap[w1.heap.size]?=_ from HB3.out) ?_;refine Xg.gs ?_;(refine Xg.dM az az rfl (λW hx hp=>?_) (λu5 K hK=>?_);(go_simp;((refine(HPP.out (P12.ax r) W HK3.out (HR3.out.drew.ext hx)).mono ?_);intro e w2 h;rw[hp2]at h;obtain⟨h1,h2⟩:=h;exact rl ⟨_,h1,⟨rfl,(ah.drew (ah.refl _ _)).trans ((ah.aR hx).trans h2)⟩⟩));(go_simp;refine hK _ ?_;clear hK K))
       (refine Xg.bc az az aq (λW hx hp=>?_) (λu6 K hK=>?_);(exact(Xe.bG hp au).elim);(go_simp;refine hK _ ?_;clear hK K))
       refine Xg.bD (λW hx hp hg=>?_);exact hp.1.elim
      | ok p2=>
       obtain⟨e2,r2⟩:=p2;rw[hp2]at hRS;dsimp only at hRS;have HRS2:=aa hRS;clear hRS
       refine Xg.bm (E:=ah br) (Xe.bS _) (λch W=>False) 5 7 (λ_=>none) (λ_ _ h=>by cases h) (λ_ _ _ _ h=>by cases h) [(0,gF w3.heap.size ia),(5,lp br w3.heap.size e2 (P12.ax r) r2),(6,lf w3.heap.size e2 (ao kd op vk vi vs tb nm (.slice pp pm pc)))] au au (Xg.cg ((by
               intro y hy;simp only[aJ,aF,or_false]at hy;rcases hy with rfl|rfl|rfl
               ·rw[if_neg (show ¬ (0=5) by decide)];exact gF.turn ab
               ·rw[if_pos rfl];exact lp.ext
               ·rw[if_neg (show ¬ (6=5) by decide)];exact lf.turn ab))) ((λch a w' hd hX=>hX.elim)) ?_
       simp only[aG,aY,aL,bd];(refine Xg.bc az az aq (λW hx hp=>?_) (λu0 K hK=>?_);(go_simp;exact(jS W).mono (λe w' h=>by obtain⟨rfl,hm,hx'⟩:=h;exact⟨_,rfl,hx',⟨W.heap.size,14,rfl,(by have:=hx.size;simpa using this),(by obtain⟨es,cl,hb,-⟩:=hm;exact(ae.1 hb).1),hm⟩,λb hb=>by cases hb⟩));(go_simp;refine hK _ ?_;clear hK K))
       refine Xg.gs ?_;(refine Xg.aX (Xk.aQ az) az (λK hK=>?_);apply aU;refine⟨λW hx hp=>?_,?_⟩;((obtain⟨b,n,hu,h1,h2,h3⟩:=Xe.bG hp au;have hlk:=ql h3 o.1 ab;subst hu);go_simp;exact⟨rfl,rfl⟩);(go_simp;refine hK _ ?_;clear hK K))
       refine Xs.gc (show w3.drew.heap[w1.heap.size]?=_ from HB3.out) ?_;refine Xg.gs ?_;(refine Xg.dM az az rfl (λW hx hp=>?_) (λu5 K hK=>?_);(go_simp;((refine(HPP.out (P12.ax r) W HK3.out (HR3.out.drew.ext hx)).mono ?_);intro e w2 h;rw[hp2]at h;obtain⟨v2,rfl,⟨l2,rfl,he2⟩,h1,h2,h3⟩:=h;exact kr ⟨_,rfl,h1,⟨l2,rfl,he2.mono (λb hb _=>by have:=hx.size;simp only[bM]at this;omega),h2,h3⟩,λb hb=>by cases hb⟩));(go_simp;refine hK _ ?_;clear hK K))
       (refine Xg.bc az az aq (λW hx hp=>?_) (λu6 K hK=>?_);((obtain⟨l2,hu,he2,-,-⟩:=Xe.bG hp au;obtain⟨kd2,op2,vk2,vi2,vs2,tb2,nm2,pp2,pm2,pc2,rfl⟩:=he2.form;subst hu;go_simp;exact⟨(al _ _).alloc (ai _) _,⟨W.heap.size,_,rfl,(by have:=hx.size;simpa using this),aw W _,he2.ext ((al _ _).alloc (ai _) _)⟩,λb hb=>by cases hb;exact⟨.inr (ai _),by simp⟩⟩));(go_simp;refine hK _ ?_;clear hK K))
       refine Xg.bD (λW hx hp hg=>?_);obtain⟨⟨g,l2,rfl,hge,hgc,he2⟩,⟨l2',rfl,-,hr2,hk2⟩,-⟩:=hp;have hxW:ah br w3 W:=(ah.drew (ah.refl _ _)).trans hx;have hbW:=hxW.held HB3.out ab;have hzW:=hxW.held HZ3.out ab;obtain⟨d0,d1,d2,d3,d4,d5,d6,d7,d8,d9⟩:=bA hbW;obtain⟨f0,f1,f2,f3,f4,f5,f6,f7,f8,f9⟩:=dH hbW;have HBW:=aa hbW;have HZW:=aa hzW;have HEW:=aa (HE3.out.turn hxW (λb hb=>by omega));have HE2:=aa he2;have HR2:=aa hr2;have HK2:=aa hk2;have HGC:=aa hgc;have HTW:=aa (ah.trans HT3.out hxW);have hle2:=hk2.le;have hlr2:=hr2.len;clear hx hg hxW hbW hzW he2 hr2 hk2 hgc;go_wp2;go_roundw
       case rel=>
        refine⟨.bin o.2 e e2,ao 4 o.2 0 0 [] [] [] (.slice (some ⟨g,0,none⟩) 2 2),r2,f,?_,HK3.out.trans HK2.out,?_,?_,?_,?_,by omega,HRS2.out⟩
        ·exact Rd.setCells (g:=w1.heap.size) ab (ao 4 o.2 0 0 [] [] [] (.slice (some ⟨g,0,none⟩) 2 2)) 0 HR2.out
        ·exact ah.setCells (g:=w1.heap.size) (.inl ab) (ao 4 o.2 0 0 [] [] [] (.slice (some ⟨g,0,none⟩) 2 2)) 0 HTW.out
        ·exact(dL w1.heap.size (ao 4 o.2 0 0 [] [] [] (.slice (some ⟨g,0,none⟩) 2 2)) 0 W ab).trans HZW.out
        ·exact ir HBW.out (ao 4 o.2 0 0 [] [] [] (.slice (some ⟨g,0,none⟩) 2 2)) rfl
        ·refine⟨g,ao kd op vk vi vs tb nm (.slice pp pm pc),l2,⟨by omega,by omega⟩,rfl,?_,rfl,HE2.out.length,?_,?_⟩
         ·exact eV (dh HGC.out) (dL w1.heap.size (ao 4 o.2 0 0 [] [] [] (.slice (some ⟨g,0,none⟩) 2 2)) 0 W ab)
         ·exact aC.sets (g:=w1.heap.size) HEW.out ab (ao 4 o.2 0 0 [] [] [] (.slice (some ⟨g,0,none⟩) 2 2)) 0
         ·exact(aC.sets (g:=w1.heap.size) (S:=λb=>w3.heap.size≤b) HE2.out ab (ao 4 o.2 0 0 [] [] [] (.slice (some ⟨g,0,none⟩) 2 2)) 0).mono (λb hb _=>⟨by omega,by omega⟩)
       case measure=>
        have:=(Rd.setCells (g:=w1.heap.size) ab (ao 4 o.2 0 0 [] [] [] (.slice (some ⟨g,0,none⟩) 2 2)) 0 HR2.out).len;rw[hlenr];show rM br (zT W w1.heap.size 0 (ao 4 o.2 0 0 [] [] [] (.slice (some ⟨g,0,none⟩) 2 2)))<_
        omega
    ·obtain rfl:k=ops.length:=ab;have hkb:¬ (ops.length:Int)<(ops.length:Int):=ab;have hz2:=(HX.out.block _ (ae.1 HZ.out).1).trans HZ.out;have hb2:=(HX.out.block _ l7).trans HB7.out;obtain⟨c0,c1,c2,c3,c4,c5,c6,c7,c8,c9⟩:=bA hb2;obtain⟨d0,d1,d2,d3,d4,d5,d6,d7,d8,d9⟩:=bA hz2;obtain⟨f0,f1,f2,f3,f4,f5,f6,f7,f8,f9⟩:=dH hz2;have HZ2:=aa hz2;have HE2:=aa (HE.out.ext HX.out);clear hz2 hb2;go_wp2;refine ar (v := .agg (ao kd op vk vi vs tb nm (.slice pp pm pc)).toArray) (by simp[results,Tryz.results202,go_sem,d0,d1,d2,d3,d4,d5,d6,d7,d8,d9]) rfl ?_;have hRS:=HRS.out
     obtain⟨f,rfl⟩:∃k,f=k+1:=⟨f-1,by have:=HF.out;omega⟩;rw[P12.nh,vx (λj o hj=>HNO.out j o (cr.1 hj).1 hj)]at hRS;dsimp only at hRS;rw[← hRS];refine⟨_,rfl,⟨_,rfl,?_⟩,?_,?_,HK.out⟩
     ·exact(aC.sets (g:=w.heap.size) HE2.out ab (ao kd op vk vi vs tb nm (.slice pp pm pc)) 0).mono (λb hb _=>by omega)
     ·exact ah.setCells (.inl (ai _)) (ao kd op vk vi vs tb nm (.slice pp pm pc)) 0 (ah.trans HT.out (ah.aR HX.out))
     ·exact Rd.setCells lr (ao kd op vk vi vs tb nm (.slice pp pm pc)) 0 (HR1.out.ext HX.out)
end Go.Proofs.YtkpmclddjkebeaaGreatDoor
namespace Go
theorem aH{P:Program}{fn:Func}{k:Tmp}{t:TypeId}(h:fn.results = #[.cell k t]){tmps:Array Value}{w:World}{g:Nat}{cs:Array Value}{T:TypeId}{fr:Nat×Nat}{d:TypeDesc}
  (ht:tmps.getD k undef = .pointer (some ⟨g,0,none⟩)) (hg:w.heap[g]?=some (.cells cs T fr)) (hu:P.underlying t=some d) (hd:(match d with | .struct _ | .array _ _=>true|_=>false)=true) (hi:(P.info? t).map (·.size)=some cs.size) :
  (results fn tmps).run P w = .ok (.agg cs) w:=by
 have hl:=run_loadVar_row (P:=P) w g T t cs fr d hg hu hd hi;simp only[Eb]at ht;simp[results,h,ht,asAddr,hl]
theorem bJ{P:Program}{ops:Array Oper}{rest:List Oper}{o:Oper}{a:Act}{w:World}{Q:Exit->Act->World->Prop}(hgd:o.guard=none)(t:TypeId)(x:Operand)(ho:o.op = .load t x)
  (g:Nat) (cs:Array Value) (T:TypeId) (fr:Nat×Nat) (d:TypeDesc) (hx:a.eval x = .pointer (some ⟨g,0,none⟩)) (hg:w.heap[g]?=some (.cells cs T fr))
  (hu:P.underlying t=some d) (hd:(match d with | .struct _ | .array _ _=>true|_=>false)=true) (hi:(P.info? t).map (·.size)=some cs.size)
  (h:wpList P ops Q rest (a.put o.dst (.agg cs)) w):wpList P ops Q (o::rest) a w:=
 wpList_plain hgd λ_ hK=>by
  unfold Oper.wp execOp;simp only[ho,hx,Instr.loadAt,Instr.sureAddr,Sem.run_bind,Sem.run_pure,oZ,run_loadVar_row (P:=P) w g T t cs fr d hg hu hd hi];exact hK _ _ h
theorem lw{P:Program}{ops:Array Oper}{rest:List Oper}{o:Oper}{a:Act}{w:World}{Q:Exit->Act->World->Prop}{t:TypeId}{x:Operand}{g:Nat}{cs:Array Value}{T:TypeId}{fr:Nat×Nat}{d:TypeDesc}(hg:w.heap[g]?=some (.cells cs T fr))(hu:P.underlying t=some d)(h:wpList P ops Q rest (a.put o.dst (.agg cs)) w)
  (hgd:o.guard=none:=by rfl) (ho:o.op = .load t x:=by rfl) (hx:a.eval x = .pointer (some ⟨g,0,none⟩):=by rfl) (hd:(match d with | .struct _ | .array _ _=>true|_=>false)=true:=by rfl) (hi:(P.info? t).map (·.size)=some cs.size:=by kernel_rfl):wpList P ops Q (o::rest) a w:=
 bJ hgd t x ho g cs T fr d hx hg hu hd hi h
structure bt(g:Nat)(c:Array Value)(T:TypeId)(w w':World):Prop where
 blk:w'.heap[g]?=some (.cells c T)
 rest:∀b,b≠g->w'.heap[b]?=w.heap[b]?
 size:w'.heap.size=w.heap.size
 os:w'.os=w.os
 tape:w'.tape=w.tape
 output:w'.output=w.output
def fZ(c:Array Value):Nat->List Value->Array Value
 | _,[]=>c
 | o,v::vs=>fZ (c.setIfInBounds o v) (o+1) vs
end Go
namespace Go.Proofs.YtkpmclddjkebeaaGreatDoor
open Go.RowKit
theorem nw{g:Nat}{T:TypeId}:∀ (vs:List Value) (o:Nat) {W:World} {c:Array Value},W.heap[g]?=some (.cells c T)->(W.setCells g o vs).heap[g]?=some (.cells (fZ c o vs) T)
 | [],_,_,_,h=>h
 | v::vs,o,W,c,h=>nw vs (o+1) (heap_setCell_same W g o c T v h)
theorem jZ(g:Nat):∀ (vs:List Value) (o:Nat) (W:World),(W.setCells g o vs).os=W.os/\(W.setCells g o vs).tape=W.tape/\(W.setCells g o vs).output=W.output
 | [],_,_=>⟨rfl,rfl,rfl⟩
 | v::vs,o,W=>jZ g vs (o+1) (W.setCell ⟨g,o,none⟩ v)
theorem gZ{g:Nat}{T:TypeId}{W:World}{c:Array Value}(h:W.heap[g]?=some (.cells c T))(vs:List Value)(o:Nat):bt g (fZ c o vs) T W (W.setCells g o vs):=
 ⟨nw vs o h,λb hb=>dL g vs o W hb,setCells_size g vs o W,(jZ g vs o W).1,(jZ g vs o W).2.1,(jZ g vs o W).2.2⟩
theorem bQ{P:Program}{ops:Array Oper}{rest:List Oper}{o:Oper}{a:Act}{w:World}{Q:Exit->Act->World->Prop}(hgd:o.guard=none)(t:TypeId)(x y:Operand)(ho:o.op = .store t x y)
  (g:Nat) (c c':Array Value) (T:TypeId) (hx:a.eval x = .pointer (some ⟨g,0,none⟩)) (hy:a.eval y = .agg c') (hg:w.heap[g]?=some (.cells c T)) (hs:c.size=c'.size)
  (hi:(P.info? t).map (·.size)=some c'.size) (h1:c'.all (·.oneCell')=true)
  (h:∀w',bt g c' T w w'->wpList P ops Q rest (a.put o.dst undef) w'):wpList P ops Q (o::rest) a w:=by
 refine wpList_store_mid hgd t x y ho g 0 c' hx hy (λj hj=>?_) hi h1 (h _ ?_)
 ·rw[eF];exact⟨by simp[ak,hg,show j<c.size by omega],aD w g j _ _ hg⟩
 ·have hp:=gZ hg c'.toList 0;have hw:=ir hg c'.toList (by simpa using hs.symm);exact⟨by simpa using hw,hp.rest,hp.size,hp.os,hp.tape,hp.output⟩
theorem pw{P:Program}{ops:Array Oper}{rest:List Oper}{o:Oper}{a:Act}{w:World}{Q:Exit->Act->World->Prop}{t:TypeId}{x y:Operand}{g:Nat}{c c':Array Value}{T:TypeId}(hg:w.heap[g]?=some (.cells c T))(h:∀w',bt g c' T w w'->wpList P ops Q rest (a.put o.dst undef) w')
  (hgd:o.guard=none:=by rfl) (ho:o.op = .store t x y:=by rfl) (hx:a.eval x = .pointer (some ⟨g,0,none⟩):=by rfl) (hy:a.eval y = .agg c':=by rfl) (hs:c.size=c'.size:=by kernel_rfl) (hi:(P.info? t).map (·.size)=some c'.size:=by kernel_rfl) (h1:c'.all (·.oneCell')=true:=by kernel_rfl):wpList P ops Q (o::rest) a w:=
 bQ hgd t x y ho g c c' T hx hy hg hs hi h1 h
theorem ste{A P:Prop}(a:A)(q:A->P:=by
 intro a;rw[hn]at h;have hE:=HE.out;rw[hn]at hE;dsimp only at hE;subst hE;obtain⟨rfl,ht⟩:=h;simp only[bq];go_wp2;exact⟨rfl,rfl,a ht⟩):P:=q a
theorem bt.turn{g br:Nat}{c:Array Value}{T:TypeId}{w0 w w':World}(h:bt g c T w w')(ht:ah br w0 w)(hg:w0.heap.size≤g):ah br w0 w':=by
 obtain⟨h1,h2,h3,h4,h5⟩:=ht;refine⟨h.os.trans h1,h.tape.trans h2,h.output.trans h3,by rw[h.size];exact h4,λb hb=>?_⟩;by_cases hbr:b=br
 ·exact .inr ⟨(br,λ_=>True),by simp,hbr.symm,trivial⟩
 ·rw[h.rest b ab];exact h5 b hb
theorem bt.rd{g br:Nat}{c:Array Value}{T:TypeId}{r:P12.R}{w w':World}(h:bt g c T w w')(hr:Rd br r w)(hg:br<g):Rd br r w':=by
 obtain⟨b,off,cap,hr⟩:=hr;have hl:=hr.lo;have hgl:=hr.glo
 have hk:∀ {c o':Nat} {v:Value},c≠g->w.cell? ⟨c,o',none⟩=some v->w'.cell? ⟨c,o',none⟩=some v:=fun {c o' v} hne hc=>by
  rw[kf (h.rest c hne)];exact hc
 refine⟨b,off,cap,(h.rest br ab).trans hr.blk,hr.lo,hr.cap,⟨by rw[h.size];exact hr.toks.1,λj t hj=>?_⟩,hr.good,hr.glo,let⟨tp,p,hc⟩:=hr.env;⟨tp,p,hk ab hc⟩⟩;obtain⟨h1,h2,h3⟩:=hr.toks.2 j t hj;exact⟨hk ab h1,hk ab h2,hk ab h3⟩
theorem bt.expr{g:Nat}{c:Array Value}{T:TypeId}{S:Nat->Prop}{w w':World}{e:P12.E}{l:List Value}(h:bt g c T w w')(he:aC S w e l)(hg:¬ S g):aC S w' e l:=
 he.bg (λb hb _=>h.rest b (λe=>hg (e▸hb))) (λb hb _=>hb)
theorem Got.expr{br g:Nat}{w0 w1 w2:World}{r r':P12.R}{x:P12.E}{L:List Value}{T:TypeId}(hp:bt g L.toArray T w1 w2)(he:aC (λb=>g<b) w1 x L)(ht:ah br w0 w1)(hr:Rd br r' w1)(hk:P12.bW r r')(hg:w0.heap.size≤g)(hb:br<g):Got br w0 r (eN w0) (.ok (x,r')) (.returned (.agg L.toArray)) w2:=
 ⟨_,rfl,⟨_,rfl,(bt.expr hp he ab).mono (λb hb _=>by omega)⟩,bt.turn hp ht hg,bt.rd hp hr hb,hk⟩
def kq(F:FuncId)(br:Nat)(P:P12.R->Prop)(part:P12.R->Except P12.Er (P12.E×P12.R)):Prop:=
 ∀r W,P r->Rd br r W->Calls af F #[rp br] W (Got br W r (eN W) (part r))
theorem vd{br:Nat}{ops:List (P12.T×Int)}{W:World}(hl:br<W.heap.size)(hn:∀o∈ops,numOf ia o.1=o.2/\o.1 ≠ []/\o.1.length≤100):
  vH W.heap.size br ops (W.alloc (.cells (ops.map λo=>bs o.1).toArray 9)):=by
 refine⟨λj o hj=>?_,hl,hn,by rw[ag];omega⟩;have h:=aw W (.cells (ops.map λo=>bs o.1).toArray 9);unfold ak;simp only[h];simp[hj]
theorem IV(P:P12.R->Prop)(hP:∀r r',P r->P12.bW r r'->P r')(br:Nat)(part:P12.R->Except P12.Er (P12.E×P12.R))(ops:List (P12.T×Int))(r:P12.R)(w:World)(hp:P r)(hr:Rd br r w):
  (kq 203 br P part->ops=P12.vc->Calls af 140 #[rp br] w (Got br w r (eN w) (P12.binary part ops r)))/\
  (kq 238 br P part->ops=P12.uc->Calls af 203 #[rp br] w (Got br w r (eN w) (P12.binary part ops r)))/\
  (kq 287 br P part->ops=P12.pG->Calls af 280 #[rp br] w (Got br w r (eN w) (P12.binary part ops r)))/\
  (kq 291 br P part->ops=P12.po->Calls af 287 #[rp br] w (Got br w r (eN w) (P12.binary part ops r))):=by
 have hmf:=nF;have HR:=aa hr;have lr:=hr.lt;clear hr;refine⟨?a,?b,?c,?d⟩
 case' a=>have hE:Ent 203:=⟨λ_ _=>by go_simp,by decide⟩
 case' b=>have hE:Ent 238:=⟨λ_ _=>by go_simp,by decide⟩
 case' c=>have hE:Ent 287:=⟨λ_ _=>by go_simp,by decide⟩
 case' d=>have hE:Ent 291:=⟨λ_ _=>by go_simp,by decide⟩
 case' a|b|c|d=>
  intro h ho;have hd:∀o∈ops,numOf ia o.1=o.2/\o.1 ≠ []/\o.1.length≤100:=by subst ho;decide
  have hl:ops.length≤100:=by subst ho;decide
  have HB:=aa λW gs hr ho=>BI br gs _ hE part ops r W hr ho hl (λr' W' hk hr'=>h r' W' (hP _ _ hp hk) hr');have HO:=aa (vd (br:=br) (ops:=ops) (W:=w.alloc (bu df.toList)) (by rw[ag];omega) hd);have HQ:=aa ho;obtain⟨X,hres⟩:∃X,P12.binary part ops r=X:=⟨_,rfl⟩;rw[hres];have HX:=aa hres;clear h hE hd hl ho hres
 case' a=>go_enter Tryz.func140,Tryz.ntmps140
 case' b=>go_enter Tryz.func203,Tryz.ntmps203
 case' c=>go_enter Tryz.func280,Tryz.ntmps280
 case' d=>go_enter Tryz.func287,Tryz.ntmps287
 all_goals
  go_wp2_with fail;obtain rfl:=HQ.out;refine(HB.out _ (w.heap.size+1) (rdx (HR.out)) (by have:=HO.out;rw[ag]at this;exact this)).mono ?_;intro e w1 h;rw[HX.out]at h
  cases X with
  | error er=>
   obtain⟨rfl,ht⟩:=h;simp only[bq];go_wp2;exact⟨rfl,rfl,ah.trans (tu trivial) ht⟩
  | ok p=>
   obtain⟨e,r'⟩:=p;obtain⟨v,rfl,⟨l,rfl,he⟩,ht,hr',hk⟩:=h;obtain⟨kd,op,vk,vi,vs,tb,nm,pp,pm,pc,rfl⟩:=he.form;have hsz:=ht.size;simp only[ag]at hsz;have hz:w1.heap[w.heap.size]?=some (bu df.toList):=ht.held (((ah.alloc (ah.refl br _) _)).held (aw w _) ab) ab;have HT:Hid (ah br w w1):=aa (ah.trans (tu trivial) ht);have HE:=aa (he.mono (S':=λb=>w.heap.size<b) (λb hb _=>by simp only[ag]at hb;omega));have HR':=aa hr';have HK:=aa hk;clear he ht hr' hk;go_wp2_with ((refine pw (hz) ?_;intro wZ hpZ));exact ar (aH rfl rfl hpZ.blk aA rfl au) rfl (Got.expr hpZ (HE.out) (HT.out) (HR'.out) (HK.out) ab ab)
def Jn(kd op:Int)(l:List Value)(w:World)(e:Ending)(w':World):Prop:=
 ∃g,e = .returned (.agg (ao kd op 0 0 [] [] [] (.slice (some ⟨g,0,none⟩) 1 1)).toArray)/\w.heap.size≤g/\w'.heap[g]?=some (.cells l.toArray 35)/\Xk.Ext w w'
theorem nW(op:Int)(kd o vk vi:Int)(vs tb nm:P12.T)(pp:Option Addr)(pm pc:Nat)(w:World):
  Calls af 263 #[.int .i64 op,.agg (ao kd o vk vi vs tb nm (.slice pp pm pc)).toArray] w (Jn 3 op (ao kd o vk vi vs tb nm (.slice pp pm pc)) w):=by
 have H:=aa (aw ((w.alloc (bu (ao kd o vk vi vs tb nm (.slice pp pm pc)))).alloc (bu (ao 3 op 0 0 [] [] [] (.slice (some ⟨w.heap.size+1+1,0,none⟩) 1 1)))) (bu (ao kd o vk vi vs tb nm (.slice pp pm pc))));go_enter Tryz.func263,Tryz.ntmps263;go_wp2;refine ar (v := .agg (ao 3 op 0 0 [] [] [] (.slice (some ⟨w.heap.size+1+1,0,none⟩) 1 1)).toArray) (by simp[results,Tryz.results263,go_sem]) rfl ⟨w.heap.size+1+1,rfl,by omega,?_,Xk.xt⟩;have:=H.out;simpa only[ag]using this
theorem rT(n:Int)(w:World):Calls af 294 #[.int .i64 n] w λe w'=>e = .returned (.agg (ao 1 0 2 n [] [] [] aj).toArray)/\Xk.Ext w w':=by
 go_enter Tryz.func294,Tryz.ntmps294;go_wp2;refine ar (v := .agg (ao 1 0 2 n [] [] [] aj).toArray) (by simp[results,Tryz.results294,go_sem]) rfl ⟨rfl,Xk.xt⟩
theorem pA(br:Nat)(r:P12.R)(w:World)(h:Rd br r w):Calls af 150 #[rp br] w (Got br w r (eN w) (P12.column r)):=by
 have HR:=aa h;have lr:=h.lt;clear h;unfold P12.column;rcases hn:P12.name r with er|⟨a,r1⟩
 ·go_enter Tryz.func150,Tryz.ntmps150;go_wp2_with fail;go_at_call 131;refine(dG br r _ (rdx (HR.out))).mono ?_;intro e w1 h;rw[hn]at h;obtain⟨rfl,ht⟩:=h;simp only[bq];go_wp2;exact⟨rfl,rfl,ah.trans (tu trivial) ht⟩
 ·dsimp only
  cases hd:P12.isT [46] r1
  ·rw[if_neg aI];go_enter Tryz.func150,Tryz.ntmps150;go_wp2_with fail;go_at_call 131;refine(dG br r _ (rdx (HR.out))).mono ?_;intro e w1 h;rw[hn]at h;obtain⟨v,rfl,rfl,ht,hr1,hk1⟩:=h;have hsz:=ht.size;simp only[ag]at hsz;have HR1:=aa hr1;have hz:w1.heap[w.heap.size]?=some (bu df.toList):=ht.held (aw w _) ab;have HT:Hid (ah br w w1):=aa (ah.trans (tu trivial) ht);have hz1:=hz;clear ht hr1 hz;go_wp2_with fail;go_at_call 20;refine(fk br r1 [46] _ (rdx (HR1.out)) hd).mono ?_;rintro e w2 ⟨rfl,hx2⟩;have hx2':Xk.Ext w1 w2:=Xk.Ext.trans ((al _ _).alloc (ai _) _) hx2
   have hc2:=(hx2.block w1.heap.size (by rw[ag];omega)).trans (aw w1 _);obtain⟨c0,c1,c2,c3,c4,c5,c6,c7,c8,c9⟩:=bA hc2;have hz2:=(hx2'.block _ (ae.1 hz1).1).trans hz1;have HT2:=aa (ah.trans HT.out (ah.aR hx2'));have HR2:=aa (HR1.out.ext hx2');clear hx2 hx2' hc2;go_wp2_with ((refine pw (hz2) ?_;intro wZ hpZ));exact ar (aH rfl rfl hpZ.blk aA rfl au) rfl (Got.expr hpZ ((show aC (λb=>w.heap.size<b) _ (.col [] a) _ from rfl)) (HT2.out) (HR2.out) (hk1) ab ab)
  ·rw[if_pos rfl];rcases hn2:P12.name (P12.ax r1)with er|⟨b,r2⟩
   ·go_enter Tryz.func150,Tryz.ntmps150;go_wp2_with fail;go_at_call 131;refine(dG br r _ (rdx (HR.out))).mono ?_;intro e w1 h;rw[hn]at h;obtain⟨v,rfl,rfl,ht,hr1,hk1⟩:=h;have hsz:=ht.size;simp only[ag]at hsz;have HR1:=aa hr1;have HT:Hid (ah br w w1):=aa (ah.trans (tu trivial) ht);clear ht hr1;go_wp2_with fail;go_at_call 20;refine(dT br r1 [46] _ (rdx (HR1.out)) hd).mono ?_;rintro e w2 ⟨rfl,ht2,hr2⟩;have hc3:=ht2.held (aw w1 _) ab;obtain⟨c0,c1,c2,c3,c4,c5,c6,c7,c8,c9⟩:=bA hc3;have HR2:=aa hr2;have HT2:Hid (ah br w w2):=aa (ah.trans (tu (HT.out)) ht2);go_wp2
    refine Xg.bm (E:=ah br) (Xe.bS _) (λch W=>fU ch=bq er/\ah br w2 W) 3 5 (λ_=>none) (λ_ _ h=>by cases h) (λ_ _ _ _ h=>by cases h) [(3,λ_ _=>False)] au au (Xg.cg ((by
         intro y hy;simp only[aJ,aF,or_false]at hy;rcases hy with rfl
         rw[if_pos rfl];exact λ_ _ _ _ h=>h))) ((λch a w' hd hX=>⟨hd,hX.1,ah.trans HT2.out hX.2⟩)) ?_
    simp only[aG,aY,aL,bd];refine Xg.gs ?_;refine Xs.gf (show w2.drew.cell? ⟨w1.heap.size,6,none⟩=_ from c6) ?_;refine Xg.gs ?_;(refine Xg.dM az az rfl (λW hx hp=>?_) (λu K hK=>?_);(go_simp;((refine(dG br (P12.ax r1) _ (HR2.out.drew.ext hx)).mono ?_);intro e w2 h;rw[hn2]at h;obtain⟨h1,h2⟩:=h;exact rl ⟨_,h1,by exact⟨rfl,(ah.drew (ah.refl _ _)).trans ((ah.aR hx).trans h2)⟩⟩));(go_simp;refine hK _ ?_;clear hK K))
    refine Xg.gs ?_;refine Xg.bD (λW hx hp hg=>?_);exact hp.1.elim
   ·go_enter Tryz.func150,Tryz.ntmps150;go_wp2_with fail;go_at_call 131;refine(dG br r _ (rdx (HR.out))).mono ?_;intro e w1 h;rw[hn]at h;obtain⟨v,rfl,rfl,ht,hr1,hk1⟩:=h;have hsz:=ht.size;simp only[ag]at hsz;have HR1:=aa hr1;have hz1:w1.heap[w.heap.size]?=some (bu df.toList):=ht.held (aw w _) ab;have HT:Hid (ah br w w1):=aa (ah.trans (tu trivial) ht);clear ht hr1;go_wp2_with fail;go_at_call 20;refine(dT br r1 [46] _ (rdx (HR1.out)) hd).mono ?_;rintro e w2 ⟨rfl,ht2,hr2⟩;have HC3:=aa (ht2.held (aw w1 (bu (ao 2 0 0 0 [] [] a aj))) ab)
    have HZ2:=aa (ht2.held ((ah.alloc (ah.refl br w1) _).held hz1 ab) ab);have hsz2:=ht2.size;simp only[ag]at hsz2;have HR2:=aa hr2;have HT2:Hid (ah br w w2):=aa (ah.trans (tu (HT.out)) ht2);clear ht2 hr2 hz1;go_wp2
    refine Xg.bm (E:=ah br) (Xe.bS _) (λch W=>False) 3 5 (λ_=>none) (λ_ _ h=>by cases h) (λ_ _ _ _ h=>by cases h) [(3,λu W=>u=bs b/\Rd br r2 W/\P12.bW (P12.ax r1) r2)] au au (Xg.cg ((by
         intro y hy;simp only[aJ,aF,or_false]at hy;rcases hy with rfl
         rw[if_pos rfl];exact λ_ _ _ hx h=>⟨h.1,h.2.1.ext hx,h.2.2⟩))) ((λch a w' hd hX=>hX.elim)) ?_
    simp only[aG,aY,aL,bd];refine Xg.gs ?_;refine Xs.gc (show w2.drew.heap[w1.heap.size]?=_ from HC3.out) ?_;refine Xg.gs ?_;(refine Xg.dM az az rfl (λW hx hp=>?_) (λu K hK=>?_);(go_simp;((refine(dG br (P12.ax r1) _ (HR2.out.drew.ext hx)).mono ?_);intro e w2 h;rw[hn2]at h;obtain⟨v',rfl,rfl,h1,h2,h3⟩:=h;exact kr ⟨_,rfl,h1,⟨rfl,h2,h3⟩,λb hb=>by cases hb⟩));(go_simp;refine hK _ ?_;clear hK K))
    refine Xg.gs ?_;refine Xg.bD (λW hx hp hg=>?_);obtain⟨⟨rfl,hr3,hk3⟩,-⟩:=hp;have hxW:ah br w2 W:=(ah.drew (ah.refl _ _)).trans hx;have hcW:=hxW.held HC3.out ab;have hzW:=hxW.held HZ2.out ab;obtain⟨c0,c1,c2,c3,c4,c5,c6,c7,c8,c9⟩:=bA hcW;obtain⟨g0,g1,g2,g3,g4,g5,g6,g7,g8,g9⟩:=dH hcW;have lC:=(ae.1 hcW).1;have lRet:=(ae.1 (hzW)).1;obtain⟨d0,d1,d2,d3,d4,d5,d6,d7,d8,d9⟩:=bA (hzW);obtain⟨f0,f1,f2,f3,f4,f5,f6,f7,f8,f9⟩:=dH (hzW);have HTW:=aa (ah.trans HT2.out hxW);have HR3:=aa hr3;have hne:¬ w1.heap.size=w.heap.size:=ab;have hne2:¬ w.heap.size=w1.heap.size:=ab;clear hx hg hxW hcW hzW hr3
    go_wp2_with fail;refine ar (v := .agg (ao 2 0 0 0 [] a b aj).toArray) (by simp[results,Tryz.results150,go_sem,hne,hne2,d0,d1,d2,d3,d4,d5,d6,d7,d8,d9]) rfl ⟨_,rfl,⟨_,rfl,?_⟩,?_,?_,(hk1.trans ((P12.aO r1).trans hk3))⟩
    ·exact(aC.sets (g:=w.heap.size) (S:=λb=>w.heap.size<b) ((show aC (λb=>w.heap.size<b) _ (.col a b) _ from rfl)) ab (ao 2 0 0 0 [] a b aj) 0).mono (λb hb _=>by omega)
    ·exact ah.setCells (g:=w.heap.size) (.inl ab) (ao 2 0 0 0 [] a b aj) 0 ((tu (HTW.out)))
    ·exact Rd.setCells (g:=w.heap.size) ab (ao 2 0 0 0 [] a b aj) 0 ((rdx (HR3.out)))
def J8{α:Type}(br:Nat)(ks:List Nat)(w0:World)(r:P12.R)(V:Value->α->World->Prop)(res:Except P12.Er (α×P12.R))(e:Ending)(w':World):Prop:=
 match res with
 | .ok (x,r')=>∃v,e = .returned v/\V v x w'/\Kept w0.heap.size (br::ks) w0 w'/\Rd br r' w'/\P12.bW r r'
 | .error er=>e=bq er/\Kept w0.heap.size (br::ks) w0 w'
theorem Kept.setCells{B:Nat}{ks:List Nat}{w0:World}{g:Nat}(hg:B≤g∨g∈ks∨w0.heap.size≤g):∀ (vs:List Value) (o:Nat) {w:World},Kept B ks w0 w->Kept B ks w0 (w.setCells g o vs)
 | [],_,_,h=>h
 | v::vs,o,_,h=>Kept.setCells hg vs (o+1) (Kept.setCell h hg o v)
theorem ju(W:World)(x:Value)(T:TypeId):(W.alloc (.cells #[x] T)).cell? ⟨W.heap.size,0,none⟩=some x:=by
 have h:=aw W (.cells #[x] T);simp only[ak,h];rfl
theorem stays{V:World->Prop}{g:Nat}(hVs:∀W o u,V W->V (W.setCell ⟨g,o,none⟩ u)):∀ (vs:List Value) (o:Nat) {W:World},V W->V (W.setCells g o vs)
 | [],_,_,h=>h
 | v::vs,o,W,h=>stays hVs vs (o+1) (hVs W o v h)
def J9(v:Value)(f:FuncId)(A:Array Value):Prop:=v = .func (.func f) A #[]∨v = .func (.func f) #[] A
theorem pd{α:Type}(br:Nat)(ks:List Nat)(cv:Value)(F:FuncId)(A:Array Value)(hcv:J9 cv F A)(hF:Ent F)(read:P12.R->Except P12.Er (α×P12.R))(V:Value->α->World->Prop)(r:P12.R)(w:World)(h:Rd br r w)
  (hks:∀k∈ks,k<w.heap.size)
  (hV1:∀v x W,V v x W->∃kd op vk vi vs tb nm pp pm pc,v = .agg (ao kd op vk vi vs tb nm (.slice pp pm pc)).toArray)
  (hVt:∀v x W W',V v x W->ah br W W'->V v x W') (hVs:∀v x W o u,V v x W->V v x (W.setCell ⟨w.heap.size,o,none⟩ u))
  (hR:∀r1 W,r1.deep=r.deep+1->r1.deep≤100->Rd br r1 W->ah br w W->w.heap.size<W.heap.size->Calls af F A W (J8 br ks W r1 V (read r1))) :
  Calls af 236 #[rp br,cv] w (J8 br ks w r V (P12.within read r)):=by
 have HR:=aa h;have HRR:=aa hR;have HV1:=aa hV1;have HVt:=aa hVt;have HVs:=aa hVs;have HKS:=aa hks;have lr:=h.lt;have hcf:=hF.run;have hci:=hF.no;clear h hR hV1 hVt hVs hF hks;generalize hres:P12.within read r=res;have HRES:=aa hres;clear hres
 cases hs:P12.isT [40] r
 ·go_enter Tryz.func236,Tryz.ntmps236;go_wp2_with fail;go_at_call 77;refine(ix br r [40] _ (rdx (HR.out))).mono ?_;rw[hs];rintro e w1 ⟨rfl,hx1⟩;have hT1:ah br w w1:=ah.trans (tu trivial) (ah.aR hx1);have hr1:=(HR.out.alloc _).ext hx1;go_wp2_with fail;go_at_call 22;refine(eC br r 120 _ hr1).mono ?_;rintro e wF ⟨rfl,hxF⟩;simp only[bq];go_wp2;have hE:=HRES.out;simp only[P12.within,P12.bU,hs,if_true]at hE;subst hE;exact⟨rfl,rfl,Kept.bB (ah.trans hT1 (ah.aR hxF)) aI⟩
 ·go_enter Tryz.func236,Tryz.ntmps236;go_wp2_with fail;go_at_call 77;refine(ix br r [40] _ (rdx (HR.out))).mono ?_;rw[hs];rintro e w1 ⟨rfl,hx1⟩;have hT1:ah br w w1:=ah.trans (tu trivial) (ah.aR hx1);have hr1:=(HR.out.alloc _).ext hx1;have hz1:w1.heap[w.heap.size]?=some (bu df.toList):=(hx1.block _ (by rw[ag];omega)).trans (aw w _);have hl1:=hx1.size;simp only[ag]at hl1;by_cases hd:r.deep=100
  ·go_wp2_with fail;go_at_call 261;refine(qO br r _ hr1 hd).mono ?_;rintro e w2 ⟨rfl,ht2⟩;simp only[bq];go_wp2;have hE:=HRES.out;simp only[P12.within,P12.opens,P12.bU,hs,hd,if_true,eO,if_false]at hE;subst hE;exact⟨rfl,rfl,Kept.bB (ah.trans hT1 ht2) aI⟩
  ·have hE:=HRES.out;simp only[P12.within,P12.opens,P12.bU,hs,hd,if_true,eO,if_false]at hE;have HE:=aa hE;clear hE HRES;go_wp2_with fail;go_at_call 261;refine(sT br r _ hr1 hd).mono ?_;rintro e w2 ⟨rfl,ht2,hr2⟩;go_wp2_with fail;go_at_call 75;refine(eS br _ _ hr2).mono ?_;rintro e w3 ⟨rfl,ht3,hr3⟩;have hT3:ah br w w3:=ah.trans hT1 (ah.trans ht2 ht3);have hz3:=ht3.held (ht2.held hz1 ab) ab;have hl3:=bI ht2.size ht3.size;have hd3:(P12.ax ⟨r.l,r.deep+1⟩).deep=r.deep+1:=(P12.aO ⟨r.l,r.deep+1⟩).deep;have hks3:=(P12.aO ⟨r.l,r.deep+1⟩).suf;have hgd:=hr3.good.deep
   have hRd:=HRR.out _ w3 hd3 ab hr3 hT3 ab;have HT3:=aa hT3;have HZ3:=aa hz3;clear hx1 hr1 hz1 ht2 hr2 ht3 hT1 hT3 hz3 hr3
   cases hrd:read (P12.ax ⟨r.l,r.deep+1⟩)with
   | error er=>
    rw[hrd]at hRd;have hE:=HE.out;rw[hrd]at hE;dsimp only at hE;subst hE;have HRd:=aa hRd;clear hRd;rcases hcv with rfl|rfl
    all_goals
     go_wp2_with fail;refine HRd.out.mono ?_;rintro e w4 ⟨rfl,hk4⟩;simp only[bq];go_wp2;exact⟨rfl,rfl,(Kept.bB HT3.out aI).trans (hk4.mono ab (λx h=>h))⟩
   | ok p=>
    obtain⟨x,r4⟩:=p;rw[hrd]at hRd;have hE:=HE.out;rw[hrd]at hE;dsimp only at hE;have HE2:=aa hE;have HRd:=aa hRd;clear hRd hE HE;rcases hcv with rfl|rfl
    all_goals
     go_wp2_with fail;refine HRd.out.mono ?_;rintro e w4 ⟨v,rfl,hv4,hk4,hr4,hkk4⟩;obtain⟨kd,op,vk,vi,vs,tb,nm,pp,pm,pc,rfl⟩:=HV1.out _ _ _ hv4;have hl4:=hk4.size;have hz4:=hk4.held HZ3.out ab (by simp only[aJ,not_or];exact⟨by omega,λhm=>by have:=HKS.out _ hm;omega⟩);have hK4:Kept w.heap.size (br::ks) w w4:=(Kept.bB HT3.out aI).trans (hk4.mono ab (λx h=>h));have HV4:=aa hv4;have HZ4:=aa hz4;have HK4:=aa hK4;have HR4:=aa hr4;have HKK:=aa hkk4;clear hv4 hz4 hK4 hr4 hkk4 hk4;have hMu:=nE br r4 [41]
     cases hm:P12.isT [41] r4
     ·rw[show P12.iz [41] r4 = .error ((P12.nxt r4).pos,120) by unfold P12.iz;rw[hm];rfl]at hMu;have HMu:=aa hMu;clear hMu;go_wp2_with fail;refine(HMu.out (w4.heap.size+1) _ (rdx (HR4.out)) (by simpa only[ag]using ju (w4.alloc _) (bs [41]) 9) ab).mono ?_;rintro e w6 ⟨rfl,ht6⟩;simp only[bq];go_wp2;have hE:=HE2.out;simp only[P12.bL,P12.bU,hm,aS,if_false]at hE;subst hE;exact⟨rfl,rfl,Kept.trans (kpx (HK4.out)) (Kept.bB ht6 aI)⟩
     ·rw[show P12.iz [41] r4 = .ok ((),P12.ax r4) by unfold P12.iz;rw[hm];rfl]at hMu;have HMu:=aa hMu;clear hMu;go_wp2_with fail;refine(HMu.out (w4.heap.size+1) _ (rdx (HR4.out)) (by simpa only[ag]using ju (w4.alloc _) (bs [41]) 9) ab).mono ?_;rintro e w6 ⟨v6,rfl,rfl,ht6,hr6,hk6⟩;have hK6:Kept w.heap.size (br::ks) w w6:=Kept.trans (kpx (HK4.out)) (Kept.bB ht6 aI);have hT46:ah br w4 w6:=ah.trans (tu trivial) ht6;have hz6:=hT46.held HZ4.out ab;have hc6:=ht6.held ((ah.alloc (ah.refl br (w4.alloc (bu (ao kd op vk vi vs tb nm (.slice pp pm pc))))) _).held (aw w4 _) ab) ab
      have hv6:=HVt.out _ _ _ _ HV4.out hT46;have hdd:(P12.ax r4).deep=r.deep+1:=by rw[hk6.deep,HKK.out.deep,hd3]
      obtain⟨tb6,off6,cap6,hA⟩:=hr6;obtain⟨e1,e2,e3,e4⟩:=hA.cells;have hD:=hA.depth r.deep ab;rw[hdd]at e2;have e2':w6.cell? ⟨br,1,none⟩=some (.int .i64 ((r.deep:Int)+1)):=by rw[e2];rfl
      have l6:=ht6.size;simp only[ag]at l6;have hT7:ah br w6 (w6.setCell ⟨br,1,none⟩ (.int .i64 r.deep)):=(ah.refl br w6).kO (.inr rfl) _ _;have hz7:=hT7.held hz6 ab;have hc7:=hT7.held hc6 ab;have hv7:=HVt.out _ _ _ _ hv6 hT7;obtain⟨c0,c1,c2,c3,c4,c5,c6,c7,c8,c9⟩:=bA hc6;have lRet:=(ae.1 (hz6)).1;obtain⟨d0,d1,d2,d3,d4,d5,d6,d7,d8,d9⟩:=bA (hz6);obtain⟨f0,f1,f2,f3,f4,f5,f6,f7,f8,f9⟩:=dH (hz6);have lbr:br<w6.heap.size:=ay _ _ e1;have lC:=(ae.1 hc6).1;have hne1:¬ br=w.heap.size:=ab;have hne2:¬ br=w4.heap.size:=ab;have hsuf:(P12.ax r4).l <:+ r.l:=hk6.suf.trans (HKK.out.suf.trans hks3)
      have HV7:=aa hv7;have HK6:=aa hK6;have HD:=aa hD;clear hv7 hv6 hK6 hD hT46 hT7 ht6 hz6 hc6 hz7 hc7 hk6 hA e2;go_wp2;have hcl:P12.il (P12.ax r4)=⟨(P12.ax r4).l,r.deep⟩:=by unfold P12.il;rw[hdd];rfl
      have hE:=HE2.out;simp only[P12.bL,P12.bU,hm,if_true,hcl]at hE;subst hE;refine ar (v := .agg (ao kd op vk vi vs tb nm (.slice pp pm pc)).toArray) (by simp[results,Tryz.results236,go_sem,hne1,d0,d1,d2,d3,d4,d5,d6,d7,d8,d9]) rfl ⟨_,rfl,?_,?_,?_,⟨hsuf,rfl⟩⟩
      ·exact stays (V:=V _ x) (λW o u h=>HVs.out _ _ _ _ _ h) (ao kd op vk vi vs tb nm (.slice pp pm pc)) 0 HV7.out
      ·exact Kept.setCells (g:=w.heap.size) (.inl (ai _)) (ao kd op vk vi vs tb nm (.slice pp pm pc)) 0 (HK6.out.setCell (.inr (.inl aI)) _ _)
      ·exact Rd.setCells (g:=w.heap.size) lr (ao kd op vk vi vs tb nm (.slice pp pm pc)) 0 ⟨tb6,off6,cap6,HD.out⟩
end Go.Proofs.YtkpmclddjkebeaaGreatDoor
namespace P12
open Go.Lib (parseUintM parseUintB parseIntB)
def lF(a:Nat)(s:T):Nat:=s.foldl (λa c=>10*a+(c.toNat-48)) a
theorem tS:∀ (s:T) (a:Nat),a≤lF a s
 | [],a=>ai _
 | c::s,a=>by
  have:=tS s (10*a+(c.toNat-48));unfold lF at this ⊢;simp only[List.foldl_cons];omega
theorem mQ:∀ (s:T) (a:Nat),(∀c∈s,48≤c.toNat/\c.toNat≤57)->parseUintM 18446744073709551615 a s=if lF a s≤18446744073709551615∨s = []then .ok (lF a s)else .range
 | [],a,_=>by rw[if_pos (.inr rfl)];rfl
 | c::s,a,h=>by
  have hc:=h c aI;have hs:∀c∈s,48≤c.toNat/\c.toNat≤57:=λx hx=>h x (by simp[hx]);have hd:lF a (c::s)=lF (10*a+(c.toNat-48)) s:=rfl;have hge:=tS s (10*a+(c.toNat-48));rw[parseUintM,if_pos hc,hd];by_cases h1:1844674407370955162≤a
  ·rw[if_pos h1,if_neg (by simp;omega)]
  ·rw[if_neg h1];by_cases h2:18446744073709551615<a*10+(c.toNat-48)
   ·rw[if_pos h2,if_neg (by simp;omega)]
   ·rw[if_neg h2,show a*10+(c.toNat-48)=10*a+(c.toNat-48) by omega,mQ s _ hs];by_cases h3:lF (10*a+(c.toNat-48)) s≤18446744073709551615
    ·rw[if_pos (.inl h3),if_pos (.inl h3)]
    ·cases s with
     | nil=>exact absurd (by unfold lF;simp;omega) h3
     | cons x y=>rw[if_neg (by simp;omega),if_neg (by simp;omega)]
theorem vL{s:T}(h:s ≠ [])(hd:∀c∈s,48≤c.toNat/\c.toNat≤57)(hle:dec s≤18446744073709551615):parseUintB 64 s = .ok (dec s):=by
 unfold parseUintB;rw[if_neg h,show(2:Nat) ^ 64-1=18446744073709551615 by decide,mQ s 0 hd,if_pos (.inl hle)];rfl
theorem sD{s:T}(h:s ≠ [])(hd:∀c∈s,48≤c.toNat/\c.toNat≤57)(hle:¬ dec s≤18446744073709551615):parseUintB 64 s = .range:=by
 unfold parseUintB;rw[if_neg h,show(2:Nat) ^ 64-1=18446744073709551615 by decide,mQ s 0 hd,if_neg (by rintro(h1|h1);exact hle h1;exact h h1)]
theorem JR{s:T}(h:s ≠ [])(hd:∀c∈s,48≤c.toNat/\c.toNat≤57)(hle:dec s≤9223372036854775807):parseIntB 64 s = .ok (dec s):=by
 cases s with
 | nil=>exact absurd rfl h
 | cons c r=>
  have hc:=hd c aI;unfold parseIntB;simp only;rw[if_neg ab,vL h hd ab];simp only;rw[if_neg (by intro h1;have:=h1.2;simp at this;omega),if_neg (by intro h1;omega),if_neg ab]
theorem DE{s:T}(h:s ≠ [])(hd:∀c∈s,48≤c.toNat/\c.toNat≤57)(hle:¬ dec s≤9223372036854775807):parseIntB 64 s = .range:=by
 cases s with
 | nil=>exact absurd rfl h
 | cons c r=>
  have hc:=hd c aI;unfold parseIntB;simp only;rw[if_neg ab];by_cases h2:dec (c::r)≤18446744073709551615
  ·rw[vL h hd h2];simp only;rw[if_pos ⟨by omega,by simp;omega⟩]
  ·rw[sD h hd h2]
end P12
namespace Go.Proofs.YtkpmclddjkebeaaGreatDoor
open Go.RowKit
theorem tZ{w w':World}{e:TypeId}(h:w'=w∨∃t,w'=Lib.bytesWorld w e t):Below w.heap.size w w':=by
 rcases h with rfl|⟨t,rfl⟩
 ·exact al _ _
 ·exact Lib.bytesWorld_below _ _ _
theorem Rd.range{br:Nat}{r:P12.R}{w:World}(h:Rd br r w):∃tp p,w.cell? ⟨6,0,none⟩=some (.iface tp p):=by
 obtain⟨b,off,cap,h⟩:=h;exact h.env
theorem CI(s:P12.T)(h:s ≠ [])(hd:∀c∈s,48≤c.toNat/\c.toNat≤57)(hl:s.length≤100000)(hle:P12.dec s≤18446744073709551615)(w:World):
  Calls af 206 #[.string ⟨s.toArray⟩,.int .i64 10,.int .i64 64] w λe w'=>e = .returned (.tuple #[.int .u64 (P12.dec s),.nilIface])/\Xk.Ext w w':=
 (Tryz.strconv_ParseUint_10_at64_ok ⟨s.toArray⟩ (by show s.length≤_;omega) (P12.dec s) (by simpa using P12.vL h hd hle) w).mono λe w' ⟨h1,h2⟩=>⟨h1,tZ (h2.imp id λh=>⟨_,h⟩)⟩
theorem El(s:P12.T)(h:s ≠ [])(hd:∀c∈s,48≤c.toNat/\c.toNat≤57)(hl:s.length≤100000)(hle:¬ P12.dec s≤18446744073709551615)(br:Nat)(r:P12.R)(w:World)(hr:Rd br r w):
  Calls af 206 #[.string ⟨s.toArray⟩,.int .i64 10,.int .i64 64] w λe w'=>∃tp a,e = .returned (.tuple #[.int .u64 18446744073709551615,.iface tp (.pointer (some a))])/\Xk.Ext w w':=by
 obtain⟨tp,p,hc⟩:=hr.range
 exact(Tryz.strconv_ParseUint_10_at64_range ⟨s.toArray⟩ (by show s.length≤_;omega) (by simpa using P12.sD h hd hle) (.iface tp p) w hc (.inr ⟨tp,p,rfl⟩)).mono λe w' h=>by
  obtain⟨N,h1,-,-,h2⟩:=h;exact⟨_,_,h1,h2⟩
theorem FL(s:P12.T)(h:s ≠ [])(hd:∀c∈s,48≤c.toNat/\c.toNat≤57)(hl:s.length≤100000)(hle:P12.dec s≤9223372036854775807)(w:World):
  Calls af 204 #[.string ⟨s.toArray⟩,.int .i64 10,.int .i64 64] w λe w'=>e = .returned (.tuple #[.int .i64 (P12.dec s),.nilIface])/\Xk.Ext w w':=
 (Tryz.strconv_ParseInt_10_at64_ok ⟨s.toArray⟩ (by show s.length≤_;omega) (P12.dec s) (by simpa using P12.JR h hd hle) w).mono λe w' ⟨h1,h2⟩=>⟨h1,tZ h2⟩
theorem IH(s:P12.T)(h:s ≠ [])(hd:∀c∈s,48≤c.toNat/\c.toNat≤57)(hl:s.length≤100000)(hle:¬ P12.dec s≤9223372036854775807)(br:Nat)(r:P12.R)(w:World)(hr:Rd br r w):
  Calls af 204 #[.string ⟨s.toArray⟩,.int .i64 10,.int .i64 64] w λe w'=>∃n tp a,e = .returned (.tuple #[.int .i64 n,.iface tp (.pointer (some a))])/\Xk.Ext w w':=by
 obtain⟨tp,p,hc⟩:=hr.range
 exact(Tryz.strconv_ParseInt_10_at64_range ⟨s.toArray⟩ (by show s.length≤_;omega) (by simpa using P12.DE h hd hle) (.iface tp p) w hc (.inr ⟨tp,p,rfl⟩)).mono λe w' h=>by
  obtain⟨N,h1,-,-,h2⟩:=h;exact⟨_,_,_,h1,h2⟩
theorem wU(br most:Nat)(r:P12.R)(w:World)(h:Rd br r w)(hk:(P12.nxt r).kind=3)(hm:most≤9223372036854775808):
  Calls af 152 #[rp br,.int .u64 most] w (Got br w r (λv x _=>v = .int .u64 (x:Nat)) (P12.int most r)):=by
 have HR:=aa h;have HN:=aa (gI br r w h);have lr:=h.lt;have hok:=h.good.lR;obtain⟨hne,hdg⟩:=hok.digits hk;have hl:=hok.len;clear h hok hk;unfold P12.int;by_cases h64:P12.dec (P12.nxt r).text≤18446744073709551615
 ·have HU:=aa λW=>CI _ hne hdg ab h64 W;by_cases hmost:most<P12.dec (P12.nxt r).text
  ·rw[if_pos hmost];have hmb:(most:Int)<(P12.dec (P12.nxt r).text:Int):=ab;go_enter Tryz.func152,Tryz.ntmps152;go_wp2_with (first|(go_at_call 21;with_reducible refine Xk.cl (HN.out) λp=>?_)|(go_at_call 206;with_reducible refine Xk.cl (HU.out _) λp=>?_));go_at_call 22;refine(eC br (r) 123 _ (rdx (HR.out))).mono ?_;rintro e wF ⟨rfl,hxF⟩;simp only[bq];go_wp2;exact⟨rfl,rfl,ah.trans (tu ((ah.refl _ _))) (ah.aR hxF)⟩
  ·rw[if_neg hmost];have hmb:decide ((most:Int)<(P12.dec (P12.nxt r).text:Int))=false:=by simp;omega
   go_enter Tryz.func152,Tryz.ntmps152;go_wp2_with (first|(go_at_call 21;with_reducible refine Xk.cl (HN.out) λp=>?_)|(go_at_call 206;with_reducible refine Xk.cl (HU.out _) λp=>?_));go_at_call 75;refine(eS br r _ (rdx (HR.out))).mono ?_;rintro e w1 ⟨rfl,ht,hr⟩;go_wp2;go_ret;exact⟨_,rfl,rfl,ah.trans (tu trivial) ht,hr,P12.aO r⟩
 ·rw[if_pos ab];have HU:=aa λW hr=>El _ hne hdg ab h64 br r W hr;go_enter Tryz.func152,Tryz.ntmps152;go_wp2_with (first|(go_at_call 21;with_reducible refine Xk.cl (HN.out) λp=>?_)|(go_at_call 206;(with_reducible refine(HU.out _ (rdx (HR.out))).mono ?_);rintro e w' ⟨tp,ad,rfl,hb⟩;obtain⟨p,rfl⟩:=Xk.jq hb;clear hb));go_at_call 22;refine(eC br (r) 123 _ (rdx (HR.out))).mono ?_;rintro e wF ⟨rfl,hxF⟩;simp only[bq];go_wp2;exact⟨rfl,rfl,ah.trans (tu ((ah.refl _ _))) (ah.aR hxF)⟩
theorem JE(P:P12.R->Prop)(hPd:∀r r':P12.R,P r->r.deep≤r'.deep->P r')(br:Nat)(tst:P12.R->Except P12.Er (P12.E×P12.R))(h:kq 262 br P tst):
  ∀ (f:Nat) (r:P12.R) (w:World),101≤f+r.deep->P r->Rd br r w->Calls af 238 #[rp br] w (Got br w r (eN w) (P12.ly tst f r)):=by
 intro f;induction f with
 | zero=>intro r w hf hp hr;have:=hr.good.deep;omega
 | succ f ih=>
  intro r w hf hp hr;have HR:=aa hr;have lr:=hr.lt;have HI:=aa λW (hx:Rd br r W)=>h r W hp hx;have HIH:=aa λr' W h1 h2 h3=>ih r' W h1 (hPd r r' hp h2) h3;clear hr h ih;generalize hres:P12.ly tst (f+1) r=res;have HRES:=aa hres;clear hres;go_enter Tryz.func238,Tryz.ntmps238;go_wp2_with fail;go_at_call 77;refine(ix br r [78,79,84] _ (rdx (HR.out))).mono ?_;rintro e w1 ⟨rfl,hx1⟩;have hT1:ah br w w1:=ah.trans (tu trivial) (ah.aR hx1);have hr1:=(HR.out.alloc _).ext hx1;have hz1:w1.heap[w.heap.size]?=some (bu df.toList):=(hx1.block _ (by rw[ag];omega)).trans (aw w _);have hl1:=hx1.size
  simp only[ag]at hl1
  cases hs:P12.isT [78,79,84] r
  ·have hE:=HRES.out;simp only[P12.ly,hs,if_true]at hE;go_wp2_with fail;refine(HI.out _ hr1).mono ?_;intro e' w2 h
   cases ht:tst r with
   | error er=>
    rw[ht]at h hE;subst hE;obtain⟨rfl,ht2⟩:=h;simp only[bq];go_wp2;exact⟨rfl,rfl,ah.trans hT1 ht2⟩
   | ok p=>
    obtain⟨e,r'⟩:=p;rw[ht]at h hE;subst hE;obtain⟨v,rfl,⟨l,rfl,he⟩,ht2,hr2,hk2⟩:=h;obtain⟨kd,op,vk,vi,vs,tb,nm,pp,pm,pc,rfl⟩:=he.form;have hsz:=ht2.size;have hz2:=ht2.held hz1 ab;have HT:=aa (ah.trans hT1 ht2);have HE:=aa (he.mono (S':=λb=>w.heap.size<b) (λb hb _=>by omega));have HR':=aa hr2;have HK:=aa hk2;clear he ht2 hr2 hk2 hx1 hr1 hz1 hT1;go_wp2_with ((refine pw (hz2) ?_;intro wZ hpZ));exact ar (aH rfl rfl hpZ.blk aA rfl au) rfl (Got.expr hpZ (HE.out) (HT.out) (HR'.out) (HK.out) ab ab)
  ·by_cases hd:r.deep=100
   ·have hE:=HRES.out;simp only[P12.ly,P12.opens,P12.bU,hs,hd,if_true,eO,if_false]at hE;subst hE;go_wp2_with fail;go_at_call 261;refine(qO br r _ hr1 hd).mono ?_;rintro e w2 ⟨rfl,ht2⟩;simp only[bq];go_wp2;exact⟨rfl,rfl,ah.trans hT1 ht2⟩
   ·have hE:=HRES.out;simp only[P12.ly,P12.opens,P12.bU,hs,hd,if_true,eO,if_false]at hE;have HE:=aa hE;clear hE HRES;go_wp2_with fail;go_at_call 261;refine(sT br r _ hr1 hd).mono ?_;rintro e w2 ⟨rfl,ht2,hr2⟩;go_wp2_with fail;go_at_call 75;refine(eS br _ _ hr2).mono ?_;rintro e w3 ⟨rfl,ht3,hr3⟩;have hT3:ah br w w3:=ah.trans hT1 (ah.trans ht2 ht3);have hz3:=ht3.held (ht2.held hz1 ab) ab;have hl3:=bI ht2.size ht3.size;have hd3:(P12.ax ⟨r.l,r.deep+1⟩).deep=r.deep+1:=(P12.aO ⟨r.l,r.deep+1⟩).deep;have hks3:=(P12.aO ⟨r.l,r.deep+1⟩).suf;have hgd:=hr3.good.deep;have HT3:=aa hT3;have HZ3:=aa hz3
    have hRd:=HIH.out _ w3 ab ab hr3;clear hx1 hr1 hz1 ht2 hr2 ht3 hT1 hT3 hz3 hr3
    cases hrd:P12.ly tst f (P12.ax ⟨r.l,r.deep+1⟩)with
    | error er=>
     rw[hrd]at hRd;have hE:=HE.out;rw[hrd]at hE;dsimp only at hE;subst hE;have HRd:=aa hRd;clear hRd;go_wp2_with fail;refine HRd.out.mono ?_;rintro e w4 ⟨rfl,ht4⟩;simp only[bq];go_wp2;exact⟨rfl,rfl,ah.trans HT3.out ht4⟩
    | ok p=>
     obtain⟨x,r4⟩:=p;rw[hrd]at hRd;have hE:=HE.out;rw[hrd]at hE;dsimp only at hE;have HRd:=aa hRd;clear hRd HE;go_wp2_with fail;refine HRd.out.mono ?_;rintro e w4 ⟨v,rfl,⟨l4,rfl,he4⟩,ht4,hr4,hkk4⟩;obtain⟨kd,op,vk,vi,vs,tb,nm,pp,pm,pc,rfl⟩:=he4.form;have hl4:=ht4.size;have hz4:=ht4.held HZ3.out ab;go_wp2_with fail;go_at_call 263;refine(nW 15 kd op vk vi vs tb nm pp pm pc _).mono ?_;rintro e w5 ⟨g,rfl,hg,hgc,hx5⟩;have hT5:ah br w w5:=ah.trans HT3.out (ah.trans ht4 (ah.aR hx5));have hl5:=hx5.size;have hz5:=(hx5.block _ (ae.1 hz4).1).trans hz4
     have hu5:aC (λb=>w.heap.size<b) w5 (.una 15 x) (ao 3 15 0 0 [] [] [] (.slice (some ⟨g,0,none⟩) 1 1)):=
      ⟨g,ao kd op vk vi vs tb nm (.slice pp pm pc),by omega,rfl,dh hgc,rfl,(he4.ext hx5).mono (λb hb _=>by omega)⟩
     obtain⟨tb6,off6,cap6,hA⟩:=hr4.ext hx5;have hdd:r4.deep=r.deep+1:=by rw[hkk4.deep,hd3]
     obtain⟨e1,e2,e3,e4⟩:=hA.cells;have hD:=hA.depth r.deep ab;rw[hdd]at e2;have e2':w5.cell? ⟨br,1,none⟩=some (.int .i64 ((r.deep:Int)+1)):=by rw[e2];rfl
     have lRet:=(ae.1 (hz5)).1;obtain⟨d0,d1,d2,d3,d4,d5,d6,d7,d8,d9⟩:=bA (hz5);obtain⟨f0,f1,f2,f3,f4,f5,f6,f7,f8,f9⟩:=dH (hz5);have lbr:br<w5.heap.size:=ay _ _ e1;have hne1:¬ br=w.heap.size:=ab;have hsuf:r4.l <:+ r.l:=hkk4.suf.trans hks3;have hcl:P12.il r4=⟨r4.l,r.deep⟩:=by unfold P12.il;rw[hdd];rfl
     have HU5:=aa hu5;have HT5:=aa hT5;have HD:=aa hD;have HZ5:=aa hz5;clear hu5 hT5 hD hz5 hz4 ht4 hr4 hkk4 hx5 hA e2 hgc he4;go_wp2;rw[hcl]at hE;subst hE;refine ar (v := .agg (ao 3 15 0 0 [] [] [] (.slice (some ⟨g,0,none⟩) 1 1)).toArray) (by simp[results,Tryz.results238,go_sem,hne1,lRet,d0,d1,d2,d3,d4,d5,d6,d7,d8,d9]) rfl ⟨_,rfl,⟨_,rfl,?_⟩,?_,?_,⟨hsuf,rfl⟩⟩
     ·exact(((aC.sets (g:=w.heap.size) (S:=λb=>w.heap.size<b) (HU5.out.set (g:=br) ab 1 _) ab (ao 3 15 0 0 [] [] [] (.slice (some ⟨g,0,none⟩) 1 1)) 0).ext ((al _ _).alloc (ai _) _))).mono (λb hb _=>by omega)
     ·exact ah.alloc (ah.setCells (g:=w.heap.size) (.inl (ai _)) (ao 3 15 0 0 [] [] [] (.slice (some ⟨g,0,none⟩) 1 1)) 0 (HT5.out.kO (.inr rfl) _ _)) _
     ·exact Rd.alloc (Rd.setCells (g:=w.heap.size) lr (ao 3 15 0 0 [] [] [] (.slice (some ⟨g,0,none⟩) 1 1)) 0 ⟨tb6,off6,cap6,HD.out⟩) _
theorem Fj(n:Nat)(h:n≤9223372036854775808):wrap64 (-wrap64 (n:Int)) = -(n:Int):=by
 unfold wrap64;omega
theorem DI(P:P12.R->Prop)(hPd:∀r r':P12.R,P r->r.deep≤r'.deep->P r')(br:Nat)(ex:P12.R->Except P12.Er (P12.E×P12.R))(h:kq 293 br P (P12.cZ ex)):
  ∀ (f:Nat) (r:P12.R) (w:World),101≤f+r.deep->P r->Rd br r w->Calls af 291 #[rp br] w (Got br w r (eN w) (P12.dU ex f r)):=by
 intro f;induction f with
 | zero=>intro r w hf hp hr;have:=hr.good.deep;omega
 | succ f ih=>
  intro r w hf hp hr;have HR:=aa hr;have lr:=hr.lt;have hgood:=hr.good;have HI:=aa λW (hx:Rd br r W)=>h r W hp hx;have HIH:=aa λr' W h1 h2 h3=>ih r' W h1 (hPd r r' hp h2) h3;clear hr h ih;generalize hres:P12.dU ex (f+1) r=res;have HRES:=aa hres;clear hres;go_enter Tryz.func291,Tryz.ntmps291;go_wp2_with fail;go_at_call 77;refine(ix br r [45] _ (rdx (HR.out))).mono ?_;rintro e w1 ⟨rfl,hx1⟩;have hT1:ah br w w1:=ah.trans (tu trivial) (ah.aR hx1);have hr1:=(HR.out.alloc _).ext hx1;have hz1:w1.heap[w.heap.size]?=some (bu df.toList):=(hx1.block _ (by rw[ag];omega)).trans (aw w _);have hl1:=hx1.size
  simp only[ag]at hl1
  cases hs:P12.isT [45] r
  ·have hE:=HRES.out;simp only[P12.dU,hs,if_true]at hE;go_wp2_with fail;refine(HI.out _ hr1).mono ?_;intro e' w2 h
   cases ht:P12.cZ ex r with
   | error er=>
    rw[ht]at h hE;subst hE;obtain⟨rfl,ht2⟩:=h;simp only[bq];go_wp2;exact⟨rfl,rfl,ah.trans hT1 ht2⟩
   | ok p=>
    obtain⟨e,r'⟩:=p;rw[ht]at h hE;subst hE;obtain⟨v,rfl,⟨l,rfl,he⟩,ht2,hr2,hk2⟩:=h;obtain⟨kd,op,vk,vi,vs,tb,nm,pp,pm,pc,rfl⟩:=he.form;have hsz:=ht2.size;have hz2:=ht2.held hz1 ab;have HT:=aa (ah.trans hT1 ht2);have HE:=aa (he.mono (S':=λb=>w.heap.size<b) (λb hb _=>by omega));have HR':=aa hr2;have HK:=aa hk2;clear he ht2 hr2 hk2 hx1 hr1 hz1 hT1;go_wp2_with ((refine pw (hz2) ?_;intro wZ hpZ));exact ar (aH rfl rfl hpZ.blk aA rfl au) rfl (Got.expr hpZ (HE.out) (HT.out) (HR'.out) (HK.out) ab ab)
  ·have hkd:=P12.el hs;have h2:=hgood.xK hkd;have htk:=P12.fj hkd;obtain⟨t1,ht1⟩:∃t,r.l[1]?=some t:=⟨_,aZ h2⟩
   have hnx:P12.nxt ⟨r.l.tail,r.deep⟩=t1:=by
    unfold P12.nxt;rw[D6,List.head?_tail,ht1];rfl
   obtain⟨tb,off,cap,hA⟩:=hr1;obtain⟨e1,e2,e3,e4⟩:=hA.cells;obtain⟨q1,q2,q3⟩:=hA.toks.2 1 t1 ht1;simp only[Nat.one_mul]at q1;have hr1:Rd br r w1:=⟨tb,off,cap,hA⟩;have lb1:=ay _ _ e1;have lb2:=ay _ _ q1;have hb2:(1:Int)<(r.l.length:Int):=ab;clear hA q2 q3;by_cases hk3:t1.kind=3
   ·rw[hk3]at q1;have hE:=HRES.out;simp only[P12.dU,hs,hnx,hk3,if_true,eO,if_false]at hE;have HE:=aa hE;clear hE HRES;go_wp2_with fail;go_at_call 75;refine(eS br _ _ hr1).mono ?_;rintro e w2 ⟨rfl,ht2,hr2⟩;have hk3':(P12.nxt (P12.ax r)).kind=3:=by rw[htk,hnx];exact hk3
    have hz2:=ht2.held hz1 ab;have hl2:=ht2.size;have hT2:=ah.trans hT1 ht2;clear e1 e2 e3 e4 q1 ht2 hx1 hr1 hz1 hT1;go_wp2_with fail;refine(wU br 9223372036854775808 (P12.ax r) _ hr2 hk3' (ai _)).mono ?_;intro e w3 h
    cases hi:P12.int 9223372036854775808 (P12.ax r)with
    | error er=>
     rw[hi]at h;have hE:=HE.out;rw[hi]at hE;dsimp only at hE;subst hE;obtain⟨rfl,ht3⟩:=h;simp only[bq];go_wp2;exact⟨rfl,rfl,ah.trans hT2 ht3⟩
    | ok p=>
     obtain⟨n,r3⟩:=p;rw[hi]at h;have hE:=HE.out;rw[hi]at hE;dsimp only at hE;subst hE;obtain⟨v,rfl,rfl,ht3,hr3,hk4⟩:=h
     have hnle:n≤9223372036854775808:=by
      unfold P12.int at hi;split at hi
      ·cases hi
      ·cases hi;omega
     have hz3:=ht3.held hz2 ab;have hl3:=ht3.size;have HT3:=aa (ah.trans hT2 ht3);have HZ3:=aa hz3;have HR3:=aa hr3;have HK:=aa ((P12.aO r).trans hk4);clear ht3 hr3 hk4 hz2 hz3 hT2 hr2;go_wp2_with fail;rw[Fj n hnle];refine(rT _ _).mono ?_;rintro e w4 ⟨rfl,hx4⟩;have hz4:=(hx4.block _ (ae.1 HZ3.out).1).trans HZ3.out;have HT4:=aa (ah.trans HT3.out (ah.aR hx4));have HR4:=aa (HR3.out.ext hx4);clear hx4;go_wp2_with ((refine pw (hz4) ?_;intro wZ hpZ))
     exact ar (aH rfl rfl hpZ.blk aA rfl au) rfl (Got.expr hpZ ((show aC (λb=>w.heap.size<b) _ (.val 2 (-(n:Int)) []) _ from rfl)) (HT4.out) (HR4.out) (HK.out) ab ab)
   ·have hk3b:(t1.kind==3)=false:=by simpa using hk3
    by_cases hd:r.deep=100
    ·have hE:=HRES.out;simp only[P12.dU,P12.opens,P12.bU,hs,hnx,hk3,hd,(show P12.nxt ⟨r.l.tail,100⟩=t1 from by rw[← hd];exact hnx),if_true,eO,if_false]at hE;subst hE;go_wp2_with fail;go_at_call 261;refine(qO br r _ hr1 hd).mono ?_;rintro e w2 ⟨rfl,ht2⟩;simp only[bq];go_wp2;exact⟨rfl,rfl,ah.trans hT1 ht2⟩
    ·have hE:=HRES.out;simp only[P12.dU,P12.opens,P12.bU,hs,hnx,hk3,hd,if_true,eO,if_false]at hE;have HE:=aa hE;clear hE HRES;go_wp2_with fail;go_at_call 261;refine(sT br r _ hr1 hd).mono ?_;rintro e w2 ⟨rfl,ht2,hr2⟩;go_wp2_with fail;go_at_call 75;refine(eS br _ _ hr2).mono ?_;rintro e w3 ⟨rfl,ht3,hr3⟩;have hT3:ah br w w3:=ah.trans hT1 (ah.trans ht2 ht3);have hz3:=ht3.held (ht2.held hz1 ab) ab;have hl3:=bI ht2.size ht3.size;have hd3:(P12.ax ⟨r.l,r.deep+1⟩).deep=r.deep+1:=(P12.aO ⟨r.l,r.deep+1⟩).deep;have hks3:=(P12.aO ⟨r.l,r.deep+1⟩).suf;have hgd:=hr3.good.deep;have HT3:=aa hT3
     have HZ3:=aa hz3;have hRd:=HIH.out _ w3 ab ab hr3;clear hx1 hr1 hz1 ht2 hr2 ht3 hT1 hT3 hz3 hr3
     cases hrd:P12.dU ex f (P12.ax ⟨r.l,r.deep+1⟩)with
     | error er=>
      rw[hrd]at hRd;have hE:=HE.out;rw[hrd]at hE;dsimp only at hE;subst hE;have HRd:=aa hRd;clear hRd;go_wp2_with fail;refine HRd.out.mono ?_;rintro e w4 ⟨rfl,ht4⟩;simp only[bq];go_wp2;exact⟨rfl,rfl,ah.trans HT3.out ht4⟩
     | ok p=>
      obtain⟨x,r4⟩:=p;rw[hrd]at hRd;have hE:=HE.out;rw[hrd]at hE;dsimp only at hE;have HRd:=aa hRd;clear hRd HE;go_wp2_with fail;refine HRd.out.mono ?_;rintro e w4 ⟨v,rfl,⟨l4,rfl,he4⟩,ht4,hr4,hkk4⟩;obtain⟨kd,op,vk,vi,vs,tb,nm,pp,pm,pc,rfl⟩:=he4.form;have hl4:=ht4.size;have hz4:=ht4.held HZ3.out ab;go_wp2_with fail;go_at_call 263;refine(nW 16 kd op vk vi vs tb nm pp pm pc _).mono ?_;rintro e w5 ⟨g,rfl,hg,hgc,hx5⟩;have hT5:ah br w w5:=ah.trans HT3.out (ah.trans ht4 (ah.aR hx5));have hl5:=hx5.size;have hz5:=(hx5.block _ (ae.1 hz4).1).trans hz4
      have hu5:aC (λb=>w.heap.size<b) w5 (.una 16 x) (ao 3 16 0 0 [] [] [] (.slice (some ⟨g,0,none⟩) 1 1)):=
       ⟨g,ao kd op vk vi vs tb nm (.slice pp pm pc),by omega,rfl,dh hgc,rfl,(he4.ext hx5).mono (λb hb _=>by omega)⟩
      obtain⟨tb6,off6,cap6,hA⟩:=hr4.ext hx5;have hdd:r4.deep=r.deep+1:=by rw[hkk4.deep,hd3]
      obtain⟨e1,e2,e3,e4⟩:=hA.cells;have hD:=hA.depth r.deep ab;rw[hdd]at e2;have e2':w5.cell? ⟨br,1,none⟩=some (.int .i64 ((r.deep:Int)+1)):=by rw[e2];rfl
      have lRet:=(ae.1 (hz5)).1;obtain⟨d0,d1,d2,d3,d4,d5,d6,d7,d8,d9⟩:=bA (hz5);obtain⟨f0,f1,f2,f3,f4,f5,f6,f7,f8,f9⟩:=dH (hz5);have lbr:br<w5.heap.size:=ay _ _ e1;have hne1:¬ br=w.heap.size:=ab;have hsuf:r4.l <:+ r.l:=hkk4.suf.trans hks3;have hcl:P12.il r4=⟨r4.l,r.deep⟩:=by unfold P12.il;rw[hdd];rfl
      have HU5:=aa hu5;have HT5:=aa hT5;have HD:=aa hD;have HZ5:=aa hz5;clear hu5 hT5 hD hz5 hz4 ht4 hr4 hkk4 hx5 hA e2 hgc he4;go_wp2;rw[hcl]at hE;subst hE;refine ar (v := .agg (ao 3 16 0 0 [] [] [] (.slice (some ⟨g,0,none⟩) 1 1)).toArray) (by simp[results,Tryz.results291,go_sem,hne1,lRet,d0,d1,d2,d3,d4,d5,d6,d7,d8,d9]) rfl ⟨_,rfl,⟨_,rfl,?_⟩,?_,?_,⟨hsuf,rfl⟩⟩
      ·exact(((aC.sets (g:=w.heap.size) (S:=λb=>w.heap.size<b) (HU5.out.set (g:=br) ab 1 _) ab (ao 3 16 0 0 [] [] [] (.slice (some ⟨g,0,none⟩) 1 1)) 0).ext ((al _ _).alloc (ai _) _))).mono (λb hb _=>by omega)
      ·exact ah.alloc (ah.setCells (g:=w.heap.size) (.inl (ai _)) (ao 3 16 0 0 [] [] [] (.slice (some ⟨g,0,none⟩) 1 1)) 0 (HT5.out.kO (.inr rfl) _ _)) _
      ·exact Rd.alloc (Rd.setCells (g:=w.heap.size) lr (ao 3 16 0 0 [] [] [] (.slice (some ⟨g,0,none⟩) 1 1)) 0 ⟨tb6,off6,cap6,HD.out⟩) _
end Go.Proofs.YtkpmclddjkebeaaGreatDoor
namespace Go.Proofs.YtkpmclddjkebeaaGreatDoor
open Go.RowKit Go.WideMaps Go.Maps
theorem GA(P:P12.R->Prop)(hP:∀r r',P r->P12.bW r r'->P r')(br:Nat)(sm:P12.R->Except P12.Er (P12.E×P12.R))(h:kq 280 br P sm):
  kq 262 br P (P12.test sm):=by
 intro r0 w hp hr;have HR:=aa hr;have lr:=hr.lt;have HPP:=aa λr W hk hx=>h r W (hP r0 r hp hk) hx;clear hr h;generalize hres:P12.test sm r0=res;have HRES:=aa hres;clear hres;go_enter Tryz.func262,Tryz.ntmps262;go_wp2_with fail;refine(HPP.out r0 _ (P12.bW.refl _) (rdx (HR.out))).mono ?_;intro e w1 h
 cases hs0:sm r0 with
 | error er=>
  rw[hs0]at h;have hE:=HRES.out;simp only[P12.test,hs0]at hE;subst hE;obtain⟨rfl,ht⟩:=h;simp only[bq];go_wp2;exact⟨rfl,rfl,ah.trans (tu trivial) ht⟩
 | ok p=>
  obtain⟨e0,r⟩:=p;rw[hs0]at h;have hE:=HRES.out;simp only[P12.test,hs0]at hE;have HE0:=aa hE;clear hE HRES;obtain⟨v1,rfl,⟨l1,rfl,he1⟩,ht1,hr1,hk1⟩:=h;obtain⟨kd,op,vk,vi,vs,tb,nm,pp,pm,pc,rfl⟩:=he1.form;have hl1:=ht1.size;simp only[ag]at hl1;have hz1:w1.heap[w.heap.size]?=some (bu df.toList):=ht1.held (aw w _) ab;have HT1:Hid (ah br w w1):=aa (ah.trans (tu trivial) ht1);have HE1:=aa (he1.mono (S':=λb=>w.heap.size<b/\b≠w1.heap.size) (λb hb hlt=>⟨by simp only[ag]at hb;omega,by omega⟩));have HR1:=aa hr1;have HZ1:=aa hz1;have HK1:=aa hk1
  have hO:=vd (br:=br) (ops:=P12.kp) (W:=w1.alloc (bu (ao kd op vk vi vs tb nm (.slice pp pm pc)))) (by rw[ag];omega) aq;have hb7:=aw w1 (bu (ao kd op vk vi vs tb nm (.slice pp pm pc)));rw[ag]at hO;clear ht1 he1 hr1 hk1 hz1;go_wp2;generalize hWo:World.alloc (World.alloc w1 _) _=Wo;have hxo:Xk.Ext w1 Wo:=by rw[← hWo];exact Xk.xt
  have hO:vH (w1.heap.size+1) br P12.kp Wo:=by rw[← hWo];exact hO
  have hbo:Wo.heap[w1.heap.size]?=some (bu (ao kd op vk vi vs tb nm (.slice pp pm pc))):=by
   rw[← hWo];exact(ah.alloc (ah.refl br _) _).held hb7 ab
  have hlo:Wo.heap.size=w1.heap.size+2:=by rw[← hWo];simp only[ag]
  clear hWo hb7;have HO2:=aa hO;have HB7:=aa hbo;have HZ:=aa ((hxo.block _ (ae.1 HZ1.out).1).trans HZ1.out);have HE:=aa (HE1.out.ext hxo);have HR2:=aa (HR1.out.ext hxo);have HT:=aa (ah.trans HT1.out (ah.aR hxo));have lgo:=hO.lt;clear hO hbo hxo;go_loopw [11] (λx wr2=>∃k:Nat,k≤6/\x = .int .i64 k/\Xk.Ext Wo wr2/\∀ (j:Nat) (o:P12.T×Int),j<k->P12.kp[j]?=some o->P12.isT o.1 r=false) (λx _=>6-(intOf x).toNat)
  case atStart=>exact⟨0,gM _,rfl,al _ _,λj o hj=>absurd hj ab⟩
  case round=>
   obtain⟨k,hkn,rfl,hx,hno⟩:=hrel;have HX:=aa hx;have HNO:=aa hno;have hsx:=hx.size;clear hx hno;by_cases hlt:k<6
   ·obtain⟨o,hok⟩:∃o,P12.kp[k]?=some o:=⟨_,aZ (by show k<6;exact hlt)⟩;have hkb:(k:Int)<6:=ab;have hc:=Xk.bO HX.out (HO2.out.cell k o hok);obtain⟨hnum,hne,hol⟩:=HO2.out.num o (iY hok);have HOK:=aa hok;clear hok
    cases hs:P12.isT o.1 r
    ·go_wp2_with (go_at_call 20;refine(fk br r o.1 _ (HR2.out.ext HX.out) hs).mono ?_;rintro e w' ⟨rfl,hb⟩;obtain⟨p,rfl⟩:=Xk.jq hb;clear hb);go_roundw
     case rel=>exact⟨k+1,by omega,by go_num,Xk.Ext.trans HX.out (Xk.cF _ _),λj o' hj ho'=>by
      by_cases hjk:j=k
      ·subst hjk;rw[HOK.out]at ho'
       cases ho';exact hs
      ·exact HNO.out j o' ab ho'⟩
     case measure=>simp[intOf];omega
    ·go_wp2_with fail;go_at_call 20;refine(dT br r o.1 _ (HR2.out.ext HX.out) hs).mono ?_;rintro e w3 ⟨rfl,ht3,hr3⟩;have hx3:ah br Wo w3:=ah.trans (ah.aR HX.out) ht3;have HB3:=aa (hx3.held HB7.out ab);have HZ3:=aa (hx3.held HZ.out ab);have HE3:=aa (HE.out.turn hx3 (λb hb=>by omega));have HR3:=aa hr3;have HT3:=aa (ah.trans HT.out hx3);have HK3:=aa (HK1.out.trans (P12.aO r));have ls3:=hx3.size;have l73:=(ae.1 HB3.out).1;have hE:=HE0.out;rw[Cu HOK.out hs (λj o' hj ho'=>HNO.out j o' hj ho')]at hE;dsimp only at hE;clear hr3 hx3 ht3 hc HE0
     cases hp2:sm (P12.ax r)with
     | error er=>
      rw[hp2]at hE;dsimp only at hE;subst hE;go_wp2
      refine Xg.bm (E:=ah br) (Xe.bS _) (λch W=>fU ch=bq er/\ah br w3 W) 5 7 (λ_=>none) (λ_ _ h=>by cases h) (λ_ _ _ _ h=>by cases h) [(0,gF w3.heap.size ia),(5,λ_ _=>False),(6,λ_ _=>False)] au au (Xg.cg ((by
             intro y hy;simp only[aJ,aF,or_false]at hy;rcases hy with rfl|rfl|rfl
             ·rw[if_neg (show ¬ (0=5) by decide)];exact gF.turn ab
             ·rw[if_pos rfl];exact λ_ _ _ _ h=>h
             ·rw[if_neg (show ¬ (6=5) by decide)];exact λ_ _ _ _ h=>h))) ((λch a w' hd hX=>⟨hd,hX.1,ah.trans HT3.out hX.2⟩)) ?_
      simp only[aG,aY,aL,bd];(refine Xg.bc az az aq (λW hx hp=>?_) (λu0 K hK=>?_);(go_simp;exact(jS W).mono (λe w' h=>by obtain⟨rfl,hm,hx'⟩:=h;exact⟨_,rfl,hx',⟨W.heap.size,14,rfl,(by have:=hx.size;simpa using this),(by obtain⟨es,cl,hb,-⟩:=hm;exact(ae.1 hb).1),hm⟩,λb hb=>by cases hb⟩));(go_simp;refine hK _ ?_;clear hK K))
      refine Xg.gs ?_;(refine Xg.aX (Xk.aQ az) az (λK hK=>?_);apply aU;refine⟨λW hx hp=>?_,?_⟩;((obtain⟨b,n,hu,h1,h2,h3⟩:=Xe.bG hp au;have hlk:=ql h3 o.1 ab;subst hu);go_simp;exact⟨rfl,rfl⟩);(go_simp;refine hK _ ?_;clear hK K))
      refine Xs.gc (show w3.drew.heap[w1.heap.size]?=_ from HB3.out) ?_;refine Xg.gs ?_;(refine Xg.dM az az rfl (λW hx hp=>?_) (λu5 K hK=>?_);(go_simp;((refine(HPP.out (P12.ax r) W HK3.out (HR3.out.drew.ext hx)).mono ?_);intro e w2 h;rw[hp2]at h;obtain⟨h1,h2⟩:=h;exact rl ⟨_,h1,⟨rfl,(ah.drew (ah.refl _ _)).trans ((ah.aR hx).trans h2)⟩⟩));(go_simp;refine hK _ ?_;clear hK K))
      (refine Xg.bc az az aq (λW hx hp=>?_) (λu6 K hK=>?_);(exact(Xe.bG hp au).elim);(go_simp;refine hK _ ?_;clear hK K))
      refine Xg.bD (λW hx hp hg=>?_);exact hp.1.elim
     | ok p2=>
      obtain⟨e2,r2⟩:=p2;rw[hp2]at hE;dsimp only at hE;subst hE;go_wp2
      refine Xg.bm (E:=ah br) (Xe.bS _) (λch W=>False) 5 7 (λ_=>none) (λ_ _ h=>by cases h) (λ_ _ _ _ h=>by cases h) [(0,gF w3.heap.size ia),(5,lp br w3.heap.size e2 (P12.ax r) r2),(6,lf w3.heap.size e2 (ao kd op vk vi vs tb nm (.slice pp pm pc)))] au au (Xg.cg ((by
             intro y hy;simp only[aJ,aF,or_false]at hy;rcases hy with rfl|rfl|rfl
             ·rw[if_neg (show ¬ (0=5) by decide)];exact gF.turn ab
             ·rw[if_pos rfl];exact lp.ext
             ·rw[if_neg (show ¬ (6=5) by decide)];exact lf.turn ab))) ((λch a w' hd hX=>hX.elim)) ?_
      simp only[aG,aY,aL,bd];(refine Xg.bc az az aq (λW hx hp=>?_) (λu0 K hK=>?_);(go_simp;exact(jS W).mono (λe w' h=>by obtain⟨rfl,hm,hx'⟩:=h;exact⟨_,rfl,hx',⟨W.heap.size,14,rfl,(by have:=hx.size;simpa using this),(by obtain⟨es,cl,hb,-⟩:=hm;exact(ae.1 hb).1),hm⟩,λb hb=>by cases hb⟩));(go_simp;refine hK _ ?_;clear hK K))
      refine Xg.gs ?_;(refine Xg.aX (Xk.aQ az) az (λK hK=>?_);apply aU;refine⟨λW hx hp=>?_,?_⟩;((obtain⟨b,n,hu,h1,h2,h3⟩:=Xe.bG hp au;have hlk:=ql h3 o.1 ab;subst hu);go_simp;exact⟨rfl,rfl⟩);(go_simp;refine hK _ ?_;clear hK K))
      refine Xs.gc (show w3.drew.heap[w1.heap.size]?=_ from HB3.out) ?_;refine Xg.gs ?_;(refine Xg.dM az az rfl (λW hx hp=>?_) (λu5 K hK=>?_);(go_simp;((refine(HPP.out (P12.ax r) W HK3.out (HR3.out.drew.ext hx)).mono ?_);intro e w2 h;rw[hp2]at h;obtain⟨v2,rfl,⟨l2,rfl,he2⟩,h1,h2,h3⟩:=h;exact kr ⟨_,rfl,h1,⟨l2,rfl,he2.mono (λb hb _=>by have:=hx.size;simp only[bM]at this;omega),h2,h3⟩,λb hb=>by cases hb⟩));(go_simp;refine hK _ ?_;clear hK K))
      (refine Xg.bc az az aq (λW hx hp=>?_) (λu6 K hK=>?_);((obtain⟨l2,hu,he2,-,-⟩:=Xe.bG hp au;obtain⟨kd2,op2,vk2,vi2,vs2,tb2,nm2,pp2,pm2,pc2,rfl⟩:=he2.form;subst hu;go_simp;exact⟨(al _ _).alloc (ai _) _,⟨W.heap.size,_,rfl,(by have:=hx.size;simpa using this),aw W _,he2.ext ((al _ _).alloc (ai _) _)⟩,λb hb=>by cases hb;exact⟨.inr (ai _),by simp⟩⟩));(go_simp;refine hK _ ?_;clear hK K))
      refine Xg.bD (λW hx hp hg=>?_);obtain⟨⟨g,l2,rfl,hge,hgc,he2⟩,⟨l2',rfl,-,hr2,hk2⟩,-⟩:=hp;have hxW:ah br w3 W:=(ah.drew (ah.refl _ _)).trans hx;have hzW:=hxW.held HZ3.out ab
      have hU:aC (λb=>w.heap.size<b) W (.bin o.2 e0 e2) (ao 4 o.2 0 0 [] [] [] (.slice (some ⟨g,0,none⟩) 2 2)):=
       ⟨g,ao kd op vk vi vs tb nm (.slice pp pm pc),l2,by omega,rfl,dh hgc,rfl,he2.length,(HE3.out.turn hxW (λb hb=>by omega)).mono (λb hb _=>hb.1),he2.mono (λb hb _=>by omega)⟩
      have HU:=aa hU;have HTW:=aa (ah.trans HT3.out hxW);have HRW:=aa hr2;have HKW:=aa (HK3.out.trans hk2);clear hx hg hxW he2 hr2 hk2 hgc hU;go_wp2_with ((refine pw (hzW) ?_;intro wZ hpZ));exact ar (aH rfl rfl hpZ.blk aA rfl au) rfl (Got.expr hpZ (HU.out) (HTW.out) (HRW.out) (HKW.out) ab ab)
   ·obtain rfl:k=6:=ab;have hz2:=(HX.out.block _ (ae.1 HZ.out).1).trans HZ.out;have hb2:=(HX.out.block _ (ae.1 HB7.out).1).trans HB7.out;have HRX:=aa (HR2.out.ext HX.out);have hfn:P12.kp.find? (λo=>P12.isT o.1 r)=none:=vx (λj o hj=>HNO.out j o (cr.1 hj).1 hj);have hE:=HE0.out;rw[hfn]at hE;dsimp only at hE;have HE2:=aa hE;have HEX:=aa (HE.out.ext HX.out);have HTX:=aa (ah.trans HT.out (ah.aR HX.out));clear hE HE0 hfn
    cases hi:P12.isT [73,83] r
    ·go_wp2_with fail;go_at_call 20;refine(fk br r [73,83] _ HRX.out hi).mono ?_;rintro e w4 ⟨rfl,hx4⟩;have hE:=HE2.out;simp only[hi,if_true]at hE;subst hE;have hz4:=(hx4.block _ (ae.1 hz2).1).trans hz2;have hb4:=(hx4.block _ (ae.1 hb2).1).trans hb2;obtain⟨c0,c1,c2,c3,c4,c5,c6,c7,c8,c9⟩:=bA hb4;have lC:=(ae.1 hb4).1;have HEY:=aa (HEX.out.ext hx4);have HTY:=aa (ah.trans HTX.out (ah.aR hx4));have HRY:=aa (HRX.out.ext hx4);clear hx4 hz2 hb2 hb4;go_wp2_with ((refine pw (hz4) ?_;intro wZ hpZ))
     exact ar (aH rfl rfl hpZ.blk aA rfl au) rfl (Got.expr hpZ (HEY.out.mono (S':=λb=>w.heap.size<b) (λb hb _=>hb.1)) (HTY.out) (HRY.out) (HK1.out) ab ab)
    ·go_wp2_with fail;go_at_call 20;refine(dT br r [73,83] _ HRX.out hi).mono ?_;rintro e w4 ⟨rfl,ht4,hr4⟩;have hE:=HE2.out;simp only[hi,eO,if_false]at hE;have hz4:=ht4.held hz2 ab;have hb4:=ht4.held hb2 ab;have HE4:=aa (HEX.out.turn ht4 (λb hb=>by omega));have HT4:=aa (ah.trans HTX.out ht4);have l4:=ht4.size;have HK4:=aa (HK1.out.trans (P12.aO r));clear hz2 hb2 ht4
     cases hnt:P12.isT [78,79,84] (P12.ax r)
     ·simp only[P12.has,hnt,aS,if_false]at hE;have HE5:=aa hE;clear hE HE2;go_wp2_with fail;go_at_call 20;refine(fk br _ [78,79,84] _ hr4 hnt).mono ?_;rintro e w5 ⟨rfl,hx5⟩;have HZ5:=aa ((hx5.block _ (ae.1 hz4).1).trans hz4);have HB5:=aa ((hx5.block _ (ae.1 hb4).1).trans hb4);have HEX5:=aa (HE4.out.ext hx5);have HT5:=aa (ah.trans HT4.out (ah.aR hx5));have HR5:=aa (hr4.ext hx5);have HK5:=aa HK4.out;have l5:=hx5.size;clear hz4 hb4 hx5 hr4;have hMu:=nE br (P12.ax r) [78,85,76,76] w5.heap.size (w5.alloc (.cells #[bs [78,85,76,76]] 9)) (rdx (HR5.out)) (ju w5 _ _) ab
      cases hm:P12.isT [78,85,76,76] (P12.ax r)
      ·rw[show P12.iz [78,85,76,76] (P12.ax r) = .error ((P12.nxt (P12.ax r)).pos,120) by unfold P12.iz;rw[hm];rfl]at hMu;have HMu:=aa hMu;clear hMu;have hE:=HE5.out;simp only[P12.bL,hm,P12.bU,aS,if_false]at hE;subst hE;go_wp2_with fail;refine HMu.out.mono ?_;rintro e w6 ⟨rfl,ht6⟩;simp only[bq];go_wp2;exact⟨rfl,rfl,ah.trans (tu (HT5.out)) ht6⟩
      ·rw[show P12.iz [78,85,76,76] (P12.ax r) = .ok ((),P12.ax (P12.ax r)) by unfold P12.iz;rw[hm];rfl]at hMu;have HMu:=aa hMu;clear hMu;have hE:=HE5.out;simp only[P12.bL,hm,P12.bU,if_true]at hE;subst hE;go_wp2_with fail;refine HMu.out.mono ?_;rintro e w6 ⟨v6,rfl,rfl,ht6,hr6,hk6⟩;have hT56:ah br w5 w6:=ah.trans (tu trivial) ht6;have hz6:=hT56.held HZ5.out ab;have hb6:=hT56.held HB5.out ab;obtain⟨c0,c1,c2,c3,c4,c5,c6,c7,c8,c9⟩:=bA hb6;have HT6:=aa (ah.trans HT5.out hT56);have HE6:=aa (HEX5.out.turn hT56 (λb hb=>by omega));have HR6:=aa hr6;have HK6:=aa hk6;have l6:=hT56.size
       clear hT56 ht6 hr6 hk6 hb6;go_wp2_with fail;go_at_call 263;refine(nW 17 kd op vk vi vs tb nm pp pm pc _).mono ?_;rintro e w7 ⟨g,rfl,hg,hgc,hx7⟩;have hz7:=(hx7.block _ (ae.1 hz6).1).trans hz6;have hl7:=hx7.size
       have hu7:aC (λb=>w.heap.size<b) w7 (.una 17 e0) (ao 3 17 0 0 [] [] [] (.slice (some ⟨g,0,none⟩) 1 1)):=
        ⟨g,ao kd op vk vi vs tb nm (.slice pp pm pc),by omega,rfl,dh hgc,rfl,(HE6.out.ext hx7).mono (λb hb _=>hb.1)⟩
       have HU7:=aa hu7;have HT7:=aa (ah.trans HT6.out (ah.aR hx7));have HR7:=aa (HR6.out.ext hx7);have HKK:=aa (HK5.out.trans HK6.out);clear hu7 hx7 hgc c0 c1 c2 c3 c4 c5 c6 c7 c8 c9;go_wp2_with ((refine pw (hz7) ?_;intro wZ hpZ));exact ar (aH rfl rfl hpZ.blk aA rfl au) rfl (Got.expr hpZ (HU7.out) (HT7.out) (HR7.out) (HKK.out) ab ab)
     ·simp only[P12.has,hnt,if_true]at hE;have HE5:=aa hE;clear hE HE2;go_wp2_with fail;go_at_call 20;refine(dT br _ [78,79,84] _ hr4 hnt).mono ?_;rintro e w5 ⟨rfl,ht5,hr5⟩;have HZ5:=aa (ht5.held hz4 ab);have HB5:=aa (ht5.held hb4 ab);have HEX5:=aa (HE4.out.turn ht5 (λb hb=>by omega));have HT5:=aa (ah.trans HT4.out ht5);have HR5:=aa hr5;have HK5:=aa (HK4.out.trans (P12.aO (P12.ax r)));have l5:=ht5.size;clear hz4 hb4 ht5 hr4 hr5;have hMu:=nE br (P12.ax (P12.ax r)) [78,85,76,76] w5.heap.size (w5.alloc (.cells #[bs [78,85,76,76]] 9)) (rdx (HR5.out)) (ju w5 _ _) ab
      cases hm:P12.isT [78,85,76,76] (P12.ax (P12.ax r))
      ·rw[show P12.iz [78,85,76,76] (P12.ax (P12.ax r)) = .error ((P12.nxt (P12.ax (P12.ax r))).pos,120) by unfold P12.iz;rw[hm];rfl]at hMu;have HMu:=aa hMu;clear hMu;have hE:=HE5.out;simp only[P12.bL,hm,P12.bU,aS,if_false]at hE;subst hE;go_wp2_with fail;refine HMu.out.mono ?_;rintro e w6 ⟨rfl,ht6⟩;simp only[bq];go_wp2;exact⟨rfl,rfl,ah.trans (tu (HT5.out)) ht6⟩
      ·rw[show P12.iz [78,85,76,76] (P12.ax (P12.ax r)) = .ok ((),P12.ax (P12.ax (P12.ax r))) by unfold P12.iz;rw[hm];rfl]at hMu;have HMu:=aa hMu;clear hMu;have hE:=HE5.out;simp only[P12.bL,hm,P12.bU,if_true]at hE;subst hE;go_wp2_with fail;refine HMu.out.mono ?_;rintro e w6 ⟨v6,rfl,rfl,ht6,hr6,hk6⟩;have hT56:ah br w5 w6:=ah.trans (tu trivial) ht6;have hz6:=hT56.held HZ5.out ab;have hb6:=hT56.held HB5.out ab;obtain⟨c0,c1,c2,c3,c4,c5,c6,c7,c8,c9⟩:=bA hb6;have HT6:=aa (ah.trans HT5.out hT56);have HE6:=aa (HEX5.out.turn hT56 (λb hb=>by omega));have HR6:=aa hr6;have HK6:=aa hk6;have l6:=hT56.size
       clear hT56 ht6 hr6 hk6 hb6;go_wp2_with fail;go_at_call 263;refine(nW 18 kd op vk vi vs tb nm pp pm pc _).mono ?_;rintro e w7 ⟨g,rfl,hg,hgc,hx7⟩;have hz7:=(hx7.block _ (ae.1 hz6).1).trans hz6;have hl7:=hx7.size
       have hu7:aC (λb=>w.heap.size<b) w7 (.una 18 e0) (ao 3 18 0 0 [] [] [] (.slice (some ⟨g,0,none⟩) 1 1)):=
        ⟨g,ao kd op vk vi vs tb nm (.slice pp pm pc),by omega,rfl,dh hgc,rfl,(HE6.out.ext hx7).mono (λb hb _=>hb.1)⟩
       have HU7:=aa hu7;have HT7:=aa (ah.trans HT6.out (ah.aR hx7));have HR7:=aa (HR6.out.ext hx7);have HKK:=aa (HK5.out.trans HK6.out);clear hu7 hx7 hgc c0 c1 c2 c3 c4 c5 c6 c7 c8 c9;go_wp2_with ((refine pw (hz7) ?_;intro wZ hpZ));exact ar (aH rfl rfl hpZ.blk aA rfl au) rfl (Got.expr hpZ (HU7.out) (HT7.out) (HR7.out) (HKK.out) ab ab)
theorem nV(br grb:Nat)(k i:Int)(s:P12.T)(r:P12.R)(w:World)(h:Rd br r w)(hb:w.heap[grb]?=some (.cells #[rp br] 67))(hg:br<grb):
  Calls af 296 #[.agg #[.int .i64 k,.int .i64 i,.string ⟨s.toArray⟩],rp grb] w λe w'=>e = .returned (.agg (ao 1 0 k i s [] [] aj).toArray)/\ah br w w'/\Rd br (P12.ax r) w':=by
 have HR:=aa h;have hg2:w.cell? ⟨grb,0,none⟩=some (rp br):=by simp[ak,hb]
 have lg:=ay _ _ hg2;have lr:=h.lt;clear h hb;go_enter Tryz.func296,Tryz.ntmps296;go_wp2_with fail;go_at_call 75;refine(eS br r _ (rdx (HR.out))).mono ?_;rintro e w1 ⟨rfl,ht,hr⟩;have hl:=ht.size;simp only[ag]at hl;have hz:w1.heap[w.heap.size+1]?=some (bu df.toList):=ht.held (by have:=aw (w.alloc (.cells #[.int .i64 k,.int .i64 i,.string ⟨s.toArray⟩] 33)) (bu df.toList);rwa [ag]at this) ab;have hv:w1.heap[w.heap.size]?=some (.cells #[.int .i64 k,.int .i64 i,.string ⟨s.toArray⟩] 33):=ht.held ((ah.alloc (ah.refl br _) _).held (aw w _) ab) ab;obtain⟨c0,c1,c2,-⟩:=Xe.i7 hv
 have hT:ah br w w1:=ah.trans (tu trivial) ht;have lRet:=(ae.1 (hz)).1;obtain⟨d0,d1,d2,d3,d4,d5,d6,d7,d8,d9⟩:=bA (hz);obtain⟨f0,f1,f2,f3,f4,f5,f6,f7,f8,f9⟩:=dH (hz);have HT:=aa hT;have HR1:=aa hr;clear hz hv ht hr hT;go_wp2;refine ar (v := .agg (ao 1 0 k i s [] [] aj).toArray) (by simp[results,Tryz.results296,go_sem,d0,d1,d2,d3,d4,d5,d6,d7,d8,d9]) rfl ⟨rfl,?_,?_⟩
 ·exact ah.setCells (g:=w.heap.size+1) (.inl ab) (ao 1 0 k i s [] [] aj) 0 HT.out
 ·exact Rd.setCells (g:=w.heap.size+1) ab (ao 1 0 k i s [] [] aj) 0 HR1.out
def KF(B g5:Nat)(v:Value)(x:Bool×P12.E)(W:World):Prop:=∃l,v = .agg l.toArray/\aC (λb=>B<b) W x.2 l/\W.heap[g5]?=some (.cells #[.bool x.1] 4)
theorem IW(br B g2 g3 g5:Nat)(op:Int)(ex:P12.R->Except P12.Er (P12.E×P12.R))(r:P12.R)(w:World)(h:Rd br r w)(h2:w.heap[g2]?=some (.cells #[rp br] 67))(h3:w.heap[g3]?=some (.cells #[.int .i64 op] 3))(h5:w.heap[g5]?=some (.cells #[.bool false] 4))
  (l2:br<g2) (l3:br<g3) (l5:br<g5) (hB:B<w.heap.size) (hB5:g5≤B)
  (hX:∀W,Rd br r W->Calls af 140 #[rp br] W (Got br W r (eN W) (ex r))) :
  Calls af 300 #[rp g3,rp g2,rp g5] w (J8 br [g5] w r (KF B g5) (P12.gD ex op r)):=by
 have HR:=aa h;have c2:w.cell? ⟨g2,0,none⟩=some (rp br):=by simp[ak,h2]
 have c3:w.cell? ⟨g3,0,none⟩=some (.int .i64 op):=by simp[ak,h3]
 have c5:w.cell? ⟨g5,0,none⟩=some (.bool false):=by simp[ak,h5]
 have f5:=aD w g5 0 _ _ h5;have lw2:=ay _ _ c2;have lw3:=ay _ _ c3;have lw5:=ay _ _ c5;have lr:=h.lt;have H2:=aa h2;have H5:=aa h5;have HX:=aa hX;clear h h2 h3 h5 hX;generalize hres:P12.gD ex op r=res;have HRES:=aa hres;clear hres;by_cases ho:op=20
 ·subst ho
  cases hs:P12.isT [42] r
  ·have hE:=HRES.out;simp only[P12.gD,hs,aS,and_false,if_false]at hE;go_enter Tryz.func300,Tryz.ntmps300;go_wp2_with fail;go_at_call 20;refine(fk br r [42] _ (rdx (HR.out)) hs).mono ?_;rintro e w1 ⟨rfl,hx1⟩;have hxw:Xk.Ext w w1:=Xk.Ext.trans ((al _ _).alloc (ai _) _) hx1;have hT1:ah br w w1:=ah.aR hxw;have hr1:=HR.out.ext hxw;have hz1:w1.heap[w.heap.size]?=some (bu df.toList):=(hx1.block _ (by rw[ag];omega)).trans (aw w _);have hl1:=hx1.size;simp only[ag]at hl1;have h51:=(hxw.block _ (ae.1 H5.out).1).trans H5.out;have c2':=Xk.bO hxw c2;clear hxw hx1;go_wp2_with fail
   refine(HX.out _ hr1).mono ?_;intro e w2 h
   cases hx2:ex r with
   | error er=>
    rw[hx2]at h hE;dsimp only at hE;subst hE;obtain⟨rfl,ht2⟩:=h;simp only[bq];go_wp2;exact⟨rfl,rfl,(Kept.bB (ah.trans hT1 ht2) aI)⟩
   | ok p=>
    obtain⟨a,r2⟩:=p;rw[hx2]at h hE;dsimp only at hE;subst hE;obtain⟨v,rfl,⟨l,rfl,he⟩,ht2,hr2,hk2⟩:=h;obtain⟨kd,op',vk,vi,vs,tb,nm,pp,pm,pc,rfl⟩:=he.form;have hl2:=ht2.size;have hz2:=ht2.held hz1 ab;have h52:=ht2.held h51 ab;have HT2:=aa (ah.trans hT1 ht2);have HE2:=aa (he.mono (S':=λb=>w.heap.size<b) (λb hb _=>by omega));have H52:=aa h52;have HR2:=aa hr2;have hne:¬ g5=w.heap.size:=ab;have lRet:=(ae.1 (hz2)).1;obtain⟨d0,d1,d2,d3,d4,d5,d6,d7,d8,d9⟩:=bA (hz2);obtain⟨f0,f1,f2,f3,f4,f5,f6,f7,f8,f9⟩:=dH (hz2);clear he ht2 hr2 hz1 hz2 h51 h52 hr1 hT1;go_wp2
    refine ar (v := .agg (ao kd op' vk vi vs tb nm (.slice pp pm pc)).toArray) (by simp[results,oJ,go_sem,d0,d1,d2,d3,d4,d5,d6,d7,d8,d9]) rfl ⟨_,rfl,⟨_,rfl,?_,?_⟩,?_,?_,hk2⟩
    ·exact(aC.sets (g:=w.heap.size) (S:=λb=>w.heap.size<b) HE2.out ab (ao kd op' vk vi vs tb nm (.slice pp pm pc)) 0).mono (λb hb _=>by omega)
    ·exact(dL w.heap.size (ao kd op' vk vi vs tb nm (.slice pp pm pc)) 0 w2 hne).trans H52.out
    ·exact Kept.setCells (g:=w.heap.size) (.inl (ai _)) (ao kd op' vk vi vs tb nm (.slice pp pm pc)) 0 (Kept.bB HT2.out aI)
    ·exact Rd.setCells (g:=w.heap.size) lr (ao kd op' vk vi vs tb nm (.slice pp pm pc)) 0 HR2.out
  ·have hE:=HRES.out;simp only[P12.gD,hs,and_self,if_true]at hE;subst hE;go_enter Tryz.func300,Tryz.ntmps300;go_wp2_with fail;go_at_call 20;refine(dT br r [42] _ (rdx (HR.out)) hs).mono ?_;rintro e w1 ⟨rfl,ht,hr⟩;have hl:=ht.size;simp only[ag]at hl;have hz:w1.heap[w.heap.size]?=some (bu df.toList):=ht.held (aw w _) ab;have h51:=ht.held ((ah.alloc (ah.refl br w) _).held H5.out ab) ab;have d5':w1.cell? ⟨g5,0,none⟩=some (.bool false):=by simp[ak,h51]
   have f5':=aD w1 g5 0 _ _ h51;have lw51:=ay _ _ d5';have hne:¬ g5=w.heap.size:=ab;have hT:ah br w w1:=ah.trans (tu trivial) ht;have lRet:=(ae.1 (hz)).1;obtain⟨d0,d1,d2,d3,d4,d5,d6,d7,d8,d9⟩:=bA (hz);obtain⟨f0,f1,f2,f3,f4,f5,f6,f7,f8,f9⟩:=dH (hz);have HT:=aa hT;have HR1:=aa hr;have H51:=aa h51;clear hz ht hr hT h51;go_wp2;refine ar (v := .agg (ao 0 0 0 0 [] [] [] aj).toArray) (by simp[results,Tryz.results300,go_sem,hne,d0,d1,d2,d3,d4,d5,d6,d7,d8,d9]) rfl ⟨_,rfl,⟨ao 0 0 0 0 [] [] [] aj,rfl,rfl,?_⟩,?_,?_,P12.aO r⟩
   ·refine(dL w.heap.size (ao 0 0 0 0 [] [] [] aj) 0 (w1.setCell ⟨g5,0,none⟩ (.bool true)) hne).trans ?_;rw[heap_setCell_same w1 g5 0 _ _ _ H51.out];simp
   ·exact Kept.setCells (g:=w.heap.size) (.inl (ai _)) (ao 0 0 0 0 [] [] [] aj) 0 ((Kept.bB HT.out aI).setCell (.inr (.inl aI)) _ _)
   ·exact Rd.setCells (g:=w.heap.size) lr (ao 0 0 0 0 [] [] [] aj) 0 (Rd.setCell HR1.out l5 _ _)
 ·have hE:=HRES.out;simp only[P12.gD,ho,false_and,if_false]at hE;have hob:(op==20)=false:=by simpa using ho
  go_enter Tryz.func300,Tryz.ntmps300;go_wp2_with fail;generalize hW1:World.alloc w _=w1;have hxw:Xk.Ext w w1:=by rw[← hW1];exact(al _ _).alloc (ai _) _
  have hT1:ah br w w1:=ah.aR hxw;have hr1:=HR.out.ext hxw;have hz1:w1.heap[w.heap.size]?=some (bu df.toList):=by rw[← hW1];exact aw w _
  have hl1:w.heap.size+1≤w1.heap.size:=by rw[← hW1,ag];omega
  have h51:=(hxw.block _ (ae.1 H5.out).1).trans H5.out;clear hxw hW1;refine(HX.out _ hr1).mono ?_;intro e w2 h
  cases hx2:ex r with
  | error er=>
   rw[hx2]at h hE;dsimp only at hE;subst hE;obtain⟨rfl,ht2⟩:=h;simp only[bq];go_wp2;exact⟨rfl,rfl,(Kept.bB (ah.trans hT1 ht2) aI)⟩
  | ok p=>
   obtain⟨a,r2⟩:=p;rw[hx2]at h hE;dsimp only at hE;subst hE;obtain⟨v,rfl,⟨l,rfl,he⟩,ht2,hr2,hk2⟩:=h;obtain⟨kd,op',vk,vi,vs,tb,nm,pp,pm,pc,rfl⟩:=he.form;have hl2:=ht2.size;have hz2:=ht2.held hz1 ab;have h52:=ht2.held h51 ab;have HT2:=aa (ah.trans hT1 ht2);have HE2:=aa (he.mono (S':=λb=>w.heap.size<b) (λb hb _=>by omega));have H52:=aa h52;have HR2:=aa hr2;have hne:¬ g5=w.heap.size:=ab;have lRet:=(ae.1 (hz2)).1;obtain⟨d0,d1,d2,d3,d4,d5,d6,d7,d8,d9⟩:=bA (hz2);obtain⟨f0,f1,f2,f3,f4,f5,f6,f7,f8,f9⟩:=dH (hz2);clear he ht2 hr2 hz1 hz2 h51 h52 hr1 hT1;go_wp2
   refine ar (v := .agg (ao kd op' vk vi vs tb nm (.slice pp pm pc)).toArray) (by simp[results,oJ,go_sem,d0,d1,d2,d3,d4,d5,d6,d7,d8,d9]) rfl ⟨_,rfl,⟨_,rfl,?_,?_⟩,?_,?_,hk2⟩
   ·exact(aC.sets (g:=w.heap.size) (S:=λb=>w.heap.size<b) HE2.out ab (ao kd op' vk vi vs tb nm (.slice pp pm pc)) 0).mono (λb hb _=>by omega)
   ·exact(dL w.heap.size (ao kd op' vk vi vs tb nm (.slice pp pm pc)) 0 w2 hne).trans H52.out
   ·exact Kept.setCells (g:=w.heap.size) (.inl (ai _)) (ao kd op' vk vi vs tb nm (.slice pp pm pc)) 0 (Kept.bB HT2.out aI)
   ·exact Rd.setCells (g:=w.heap.size) lr (ao kd op' vk vi vs tb nm (.slice pp pm pc)) 0 HR2.out
theorem Kept.drop{B B':Nat}{ks ks':List Nat}{w w':World}(h:Kept B ks w w')(hB:B'≤B)(hk:∀x,x∈ks->x∈ks'∨B'≤x):Kept B' ks' w w':=
 ⟨h.os,h.tape,h.output,h.size,λx h1 h2 h3=>h.block x (aK h1 hB) h2 (λe=>by
  rcases hk x e with h4|h4
  ·exact h3 h4
  ·omega)⟩
theorem IS(br:Nat)(op:Int)(ex:P12.R->Except P12.Er (P12.E×P12.R))(r:P12.R)(w:World)(h:Rd br r w)
  (hX:∀r1 W,r1.deep=r.deep+1->Rd br r1 W->Calls af 140 #[rp br] W (Got br W r1 (eN W) (ex r1))) :
  Calls af 297 #[rp br,.int .i64 op] w (Got br w r (eN w) (P12.call ex op r)):=by
 have HR:=aa h;have lr:=h.lt;have hmf:=nF;obtain⟨W0,hW0⟩:∃W0,W0=((((w.alloc (.cells #[rp br] 67)).alloc (.cells #[.int .i64 op] 3)).alloc (bu df.toList)).alloc (.cells #[.bool false] 4)):=⟨_,rfl⟩;have hx0:Xk.Ext w W0:=by rw[hW0];exact Xk.xt
 have hs0:W0.heap.size=w.heap.size+4:=by rw[hW0];simp only[ag]
 have g2:W0.heap[w.heap.size]?=some (.cells #[rp br] 67):=by
  rw[hW0];exact(ah.alloc (ah.alloc (ah.alloc (ah.refl br _) _) _) _).held (aw w _) ab
 have g3:W0.heap[w.heap.size+1]?=some (.cells #[.int .i64 op] 3):=by
  rw[hW0];exact(ah.alloc (ah.alloc (ah.refl br _) _) _).held (by have:=aw (w.alloc (.cells #[rp br] 67)) (.cells #[.int .i64 op] 3);rwa [ag]at this) ab
 have g4:W0.heap[w.heap.size+2]?=some (bu df.toList):=by
  rw[hW0];exact(ah.alloc (ah.refl br _) _).held (by have:=aw ((w.alloc (.cells #[rp br] 67)).alloc (.cells #[.int .i64 op] 3)) (bu df.toList);simpa only[ag]using this) ab
 have g5:W0.heap[w.heap.size+3]?=some (.cells #[.bool false] 4):=by
  rw[hW0];have:=aw (((w.alloc (.cells #[rp br] 67)).alloc (.cells #[.int .i64 op] 3)).alloc (bu df.toList)) (.cells #[.bool false] 4);simpa only[ag]using this
 have hE:Ent 300:=⟨λ_ _=>by go_simp,by decide⟩
 have HW:=aa (pd (α:=Bool×P12.E) br [w.heap.size+3] (.func (.func 300) #[] #[rp (w.heap.size+1),rp w.heap.size,rp (w.heap.size+3)]) 300 #[rp (w.heap.size+1),rp w.heap.size,rp (w.heap.size+3)] (.inr rfl) hE
  (P12.gD ex op) (KF W0.heap.size (w.heap.size+3)) r W0 (h.ext hx0) (λk hk=>by simp only[dr]at hk;omega)
  (λv x W hv=>by
   obtain⟨l,rfl,he,-⟩:=hv;obtain⟨kd,op,vk,vi,vs,tb,nm,pp,pm,pc,rfl⟩:=he.form;exact⟨_,_,_,_,_,_,_,_,_,_,rfl⟩)
  (λv x W W' hv ht=>by
   obtain⟨l,rfl,he,h5⟩:=hv;exact⟨l,rfl,he.turn ht (λb hb=>by omega),ht.held h5 ab⟩)
  (λv x W o u hv=>by
   obtain⟨l,rfl,he,h5⟩:=hv;exact⟨l,rfl,he.set ab o u,(an W ⟨W0.heap.size,o,none⟩ _ u (by show w.heap.size+3≠W0.heap.size;omega)).trans h5⟩)
  (λr1 W hd hd2 hr1 ht hlt=>IW br W0.heap.size w.heap.size (w.heap.size+1) (w.heap.size+3) op ex r1 W hr1 (ht.held g2 ab) (ht.held g3 ab) (ht.held g5 ab) ab ab ab hlt ab (λW' hr'=>hX r1 W' hd hr')))
 have G3:=aa g3;have G4:=aa g4;have HX0:=aa hx0;have hc2:W0.cell? ⟨w.heap.size,0,none⟩=some (rp br):=by simp[ak,g2]
 have lc2:=ay _ _ hc2;clear h hX g2 g3 g4 g5 hE hx0;generalize hres:P12.call ex op r=res;have HRES:=aa hres;clear hres;go_enter Tryz.func297,Tryz.ntmps297;go_wp2_with fail;rw[← hW0];refine HW.out.mono ?_;intro e w6 h
 cases hw:P12.within (P12.gD ex op) r with
 | error er=>
  rw[hw]at h;have hE:=HRES.out;simp only[P12.call,hw]at hE;subst hE;obtain⟨rfl,hk6⟩:=h;simp only[bq];go_wp2;exact⟨rfl,rfl,((Kept.aR HX0.out).trans (hk6.drop (B':=w.heap.size) (ks' := [br]) ab (λx hx=>by simp only[aJ,aF,or_false]at hx ⊢;omega))).turn⟩
 | ok p=>
  obtain⟨⟨all,a⟩,r6⟩:=p;rw[hw]at h;have hE:=HRES.out;simp only[P12.call,hw]at hE;obtain⟨v,rfl,⟨l,rfl,he,h56⟩,hk6,hr6,hkk⟩:=h;obtain⟨kd,op',vk,vi,vs,tb,nm,pp,pm,pc,rfl⟩:=he.form;have HT6:Hid (ah br w w6):=aa ((Kept.aR HX0.out).trans (hk6.drop (B':=w.heap.size) (ks' := [br]) ab (λx hx=>by simp only[aJ,aF,or_false]at hx ⊢;omega))).turn;have hz6:=hk6.held G4.out ab (by simp only[aJ,aF,or_false];omega);have ho6:=hk6.held G3.out ab (by simp only[aJ,aF,or_false];omega);have c5:w6.cell? ⟨w.heap.size+3,0,none⟩=some (.bool all):=by simp[ak,h56]
  have c3:w6.cell? ⟨w.heap.size+1,0,none⟩=some (.int .i64 op):=by simp[ak,ho6]
  have lc5:=ay _ _ c5;have lc3:=ay _ _ c3;have hl6:=hk6.size;have HE:=aa he;have HR6:=aa hr6;have lRet:=(ae.1 (hz6)).1;obtain⟨d0,d1,d2,d3,d4,d5,d6,d7,d8,d9⟩:=bA (hz6);obtain⟨f0,f1,f2,f3,f4,f5,f6,f7,f8,f9⟩:=dH (hz6);have HZ6:=aa hz6;have lRetB:w.heap.size+2<w6.heap.size+1:=ab;clear he hr6 hk6 hz6 ho6 h56 hW0
  cases all
  ·simp only[aS,if_false]at hE;subst hE;go_wp2;refine ar (v := .agg (ao 5 op 0 0 [] [] [] (.slice (some ⟨w6.heap.size+1,0,none⟩) 1 1)).toArray) (by simp[results,oJ,go_sem,lRet,lRetB,d0,d1,d2,d3,d4,d5,d6,d7,d8,d9]) rfl ⟨_,rfl,⟨_,rfl,?_⟩,?_,?_,hkk⟩
   ·refine⟨w6.heap.size+1,(ao kd op' vk vi vs tb nm (.slice pp pm pc)),by omega,rfl,?_,rfl,?_⟩
    ·have h:=aw ((w6.setCells (w.heap.size+2) 0 (ao 5 op 0 0 [] [] [] (.slice (some ⟨w6.heap.size+1,0,none⟩) 1 1))).alloc (bu (ao kd op' vk vi vs tb nm (.slice pp pm pc)))) (bu (ao kd op' vk vi vs tb nm (.slice pp pm pc)));rw[ag,setCells_size]at h;exact dh h
    ·exact(((aC.sets (g:=w.heap.size+2) (S:=λb=>W0.heap.size<b) HE.out ab (ao 5 op 0 0 [] [] [] (.slice (some ⟨w6.heap.size+1,0,none⟩) 1 1)) 0).ext ((al _ _).alloc (ai _) _)).ext ((al _ _).alloc (ai _) _)).mono (λb hb _=>by omega)
   ·exact ah.alloc (ah.alloc (ah.setCells (g:=w.heap.size+2) (.inl ab) (ao 5 op 0 0 [] [] [] (.slice (some ⟨w6.heap.size+1,0,none⟩) 1 1)) 0 HT6.out) _) _
   ·exact Rd.alloc (Rd.alloc (Rd.setCells (g:=w.heap.size+2) ab (ao 5 op 0 0 [] [] [] (.slice (some ⟨w6.heap.size+1,0,none⟩) 1 1)) 0 HR6.out) _) _
  ·simp only[if_true]at hE;subst hE;go_wp2;refine ar (v := .agg (ao 5 19 0 0 [] [] [] aj).toArray) (by simp[results,oJ,go_sem,lRet,lRetB,d0,d1,d2,d3,d4,d5,d6,d7,d8,d9]) rfl ⟨_,rfl,⟨ao 5 19 0 0 [] [] [] aj,rfl,rfl⟩,?_,?_,hkk⟩
   ·exact ah.alloc (ah.setCells (g:=w.heap.size+2) (.inl ab) (ao 5 19 0 0 [] [] [] aj) 0 HT6.out) _
   ·exact Rd.alloc (Rd.setCells (g:=w.heap.size+2) ab (ao 5 19 0 0 [] [] [] aj) 0 HR6.out) _
end Go.Proofs.YtkpmclddjkebeaaGreatDoor
namespace Go.Proofs.YtkpmclddjkebeaaGreatDoor
open Go.RowKit Go.WideMaps Go.Maps
theorem zi(s:P12.T):(ig.find? λx=>x.1==s).isSome=(P12.lZ s).isSome/\∀op,P12.lZ s=some op->numOf ig s=op:=by
 unfold P12.lZ;by_cases h1:s = [67,79,85,78,84]
 ·subst h1;exact⟨by decide,λop h=>by rw[if_pos rfl]at h;cases h;decide⟩
 rw[if_neg h1];by_cases h2:s = [83,85,77]
 ·subst h2;exact⟨by decide,λop h=>by rw[if_pos rfl]at h;cases h;decide⟩
 rw[if_neg h2];by_cases h3:s = [77,73,78]
 ·subst h3;exact⟨by decide,λop h=>by rw[if_pos rfl]at h;cases h;decide⟩
 rw[if_neg h3];by_cases h4:s = [77,65,88]
 ·subst h4;exact⟨by decide,λop h=>by rw[if_pos rfl]at h;cases h;decide⟩
 rw[if_neg h4];refine⟨?_,λop h=>by cases h⟩;have e:∀x:P12.T,¬ s=x->(x==s)=false:=λx h=>by simpa using λe=>h e.symm
 unfold ig;simp only[gG,List.find?_nil,e _ h1,e _ h2,e _ h3,e _ h4,Option.isSome_none]
theorem AF:Xe.Pre Xk.Ext:=⟨λw=>al _ _,λh k=>Xk.Ext.trans h k,λh=>h,λh=>Below.size h⟩
theorem B9{w:World}{b n:Nat}(h:sh w b n (dR ig))(s:P12.T)(hs:s.length≤100000):
  (D9 220 (.map (some b)) (.string ⟨s.toArray⟩) true).run af w = .ok (.tuple #[.int .i64 (numOf ig s),.bool (P12.lZ s).isSome]) w:=by
 rw[look_ok h s hs,(zi s).1]
theorem wrap_small(n:Nat)(h:n≤9223372036854775807):wrap64 (n:Int)=(n:Int):=by
 unfold wrap64;omega
theorem AB(br:Nat)(ex:P12.R->Except P12.Er (P12.E×P12.R))(r:P12.R)(w:World)(h:Rd br r w)
  (hX:∀r1 W,r1.deep=r.deep+1->Rd br r1 W->Calls af 140 #[rp br] W (Got br W r1 (eN W) (ex r1))) :
  Calls af 293 #[rp br] w (Got br w r (eN w) (P12.cZ ex r)):=by
 have HR:=aa h;have lr:=h.lt;have hok:=h.good.lR;have HX:=aa hX;have hmf:=nF;have htl:=hok.len;have HOK:=aa hok;clear h hX hok;generalize hres:P12.cZ ex r=res;have HRES:=aa hres;clear hres;go_enter Tryz.func293,Tryz.ntmps293;go_wp2_with fail;go_at_call 21;refine(gI br r _ (rdx (HR.out))).mono ?_;rintro e w1 ⟨rfl,hx1⟩;have hl1:=hx1.size;simp only[ag]at hl1;obtain⟨Wt,hWt⟩:∃W,W=w1.alloc (.cells #[.int .i64 (P12.nxt r).kind,.string ⟨(P12.nxt r).text.toArray⟩,.int .i64 (P12.nxt r).pos] 72):=⟨_,rfl⟩;have hw0:Xk.Ext w ((w.alloc (.cells #[rp br] 67)).alloc (bu df.toList)):=Xk.xt
 have hxw:Xk.Ext w w1:=Xk.Ext.trans hw0 hx1;have hx1t:Xk.Ext w1 Wt:=by rw[hWt];exact(al _ _).alloc (ai _) _
 have hxt:Xk.Ext w Wt:=Xk.Ext.trans hxw hx1t;have gb1:w1.heap[w.heap.size]?=some (.cells #[rp br] 67):=(hx1.block _ (by simp only[ag];omega)).trans ((ah.alloc (ah.refl br _) _).held (aw w _) ab);have gz1:w1.heap[w.heap.size+1]?=some (bu df.toList):=(hx1.block _ (by simp only[ag];omega)).trans (by have:=aw (w.alloc (.cells #[rp br] 67)) (bu df.toList);rwa [ag]at this);have gb:Wt.heap[w.heap.size]?=some (.cells #[rp br] 67):=(hx1t.block _ ab).trans gb1;have gz:Wt.heap[w.heap.size+1]?=some (bu df.toList):=(hx1t.block _ ab).trans gz1
 have gt:Wt.heap[w1.heap.size]?=some (.cells #[.int .i64 (P12.nxt r).kind,.string ⟨(P12.nxt r).text.toArray⟩,.int .i64 (P12.nxt r).pos] 72):=by rw[hWt];exact aw w1 _
 have lt2:w1.heap.size<Wt.heap.size:=(ae.1 gt).1;have hTt:ah br w Wt:=ah.aR hxt;have hrt:=HR.out.ext hxt;have c1:w1.cell? ⟨w.heap.size,0,none⟩=some (rp br):=by simp[ak,gb1]
 have lc1:=ay _ _ c1;have HWT:=aa hWt;have GB:=aa gb;have GZ:=aa gz;have GT:=aa gt;have HTT:=aa hTt;have HRT:=aa hrt;clear hw0 hxw hx1t hxt gb1 gz1 gb gz gt hTt hrt hWt hx1;by_cases h3:(P12.nxt r).kind=3
 ·have hE:=HRES.out;simp only[P12.cZ,h3,if_true]at hE;have h3b:((P12.nxt r).kind==3)=true:=by simpa using h3
  have H3:=aa h3;clear h3;go_wp2_with fail;rw[← HWT.out];refine(wU br 9223372036854775807 r _ HRT.out H3.out ab).mono ?_
  cases hi:P12.int 9223372036854775807 r with
  | error er=>
   intro e w9 h;try rw[hi]at h
   rw[hi]at hE;try dsimp only at hE
   subst hE;obtain⟨rfl,ht9⟩:=h;simp only[bq];go_wp2;exact⟨rfl,rfl,ah.trans HTT.out ht9⟩
  | ok p=>
   obtain⟨n,r3⟩:=p;intro e w3 h;rw[hi]at hE;dsimp only at hE;subst hE;obtain⟨v,rfl,rfl,ht3,hr3,hk4⟩:=h
   have hnle:n≤9223372036854775807:=by
    unfold P12.int at hi;split at hi
    ·cases hi
    ·cases hi;omega
   have hz3:=ht3.held GZ.out ab;have HT3:=aa (ah.trans HTT.out ht3);have HR3:=aa hr3;have hl3:=ht3.size;clear ht3 hr3;go_wp2_with fail;refine(rT _ _).mono ?_;rintro e w4 ⟨rfl,hx4⟩;have hz4:=(hx4.block _ (ae.1 hz3).1).trans hz3;have HT4:=aa (ah.trans HT3.out (ah.aR hx4));have HR4:=aa (HR3.out.ext hx4);clear hx4 hz3;go_wp2_with ((refine pw (hz4) ?_;intro wZ hpZ));exact ar (aH rfl rfl hpZ.blk aA rfl au) rfl (Got.expr hpZ ((show aC (λb=>w.heap.size+1<b) _ (.val 2 (n:Int) []) _ from rfl)) (HT4.out) (HR4.out) (hk4) ab ab)
 have h3b:((P12.nxt r).kind==3)=false:=by simpa using h3
 have H3:=aa h3;clear h3;by_cases h4:(P12.nxt r).kind=4
 ·have h4b:((P12.nxt r).kind==4)=true:=by simpa using h4
  have h43:¬ ((4:Int)=3):=aq;by_cases hlen:40<(P12.nxt r).text.length
  ·have hE:=HRES.out;simp only[P12.cZ,h4,h43,hlen,P12.bU,if_true,if_false]at hE;have hlb:(40:Int)<((P12.nxt r).text.length:Int):=ab;clear h4;subst hE;go_wp2_with fail;rw[← HWT.out];refine(eC br r 122 _ HRT.out).mono ?_;rintro e w9 ⟨rfl,hx9⟩;simp only[bq];go_wp2;exact⟨rfl,rfl,ah.trans HTT.out (ah.aR hx9)⟩
  ·have hE:=HRES.out;simp only[P12.cZ,h4,h43,hlen,P12.bU,if_true,if_false]at hE;have hlb:¬ (40:Int)<((P12.nxt r).text.length:Int):=ab;clear h4;subst hE;go_wp2_with fail;rw[← HWT.out];refine(nV br w.heap.size 3 (0) ((P12.nxt r).text) r _ HRT.out GB.out ab).mono ?_;rintro e w9 ⟨rfl,ht9,hr9⟩;have hz9:=ht9.held GZ.out ab;have HT9:=aa (ah.trans HTT.out ht9);have HR9:=aa hr9;clear ht9 hr9;go_wp2_with ((refine pw (hz9) ?_;intro wZ hpZ))
   exact ar (aH rfl rfl hpZ.blk aA rfl au) rfl (Got.expr hpZ ((show aC (λb=>w.heap.size+1<b) _ (.val 3 (0) ((P12.nxt r).text)) _ from rfl)) (HT9.out) (HR9.out) (P12.aO r) ab ab)
 have h4b:((P12.nxt r).kind==4)=false:=by simpa using h4
 have H4:=aa h4;clear h4;by_cases h1:(P12.nxt r).kind=1
 ·have h1b:((P12.nxt r).kind==1)=true:=by simpa using h1
  have hE:=HRES.out;simp only[P12.cZ,h1,show ¬ ((1:Int)=3) by decide,show ¬ ((1:Int)=4) by decide,if_true,if_false]at hE;clear h1;go_wp2_with fail;rw[← HWT.out];refine(pA br r _ HRT.out).mono ?_
  cases hc:P12.column r with
  | error er=>
   intro e w9 h;try rw[hc]at h
   rw[hc]at hE;try dsimp only at hE
   subst hE;obtain⟨rfl,ht9⟩:=h;simp only[bq];go_wp2;exact⟨rfl,rfl,ah.trans HTT.out ht9⟩
  | ok p=>
   obtain⟨a,r9⟩:=p;intro e w9 h;try rw[hc]at h
   rw[hc]at hE;try dsimp only at hE
   subst hE;obtain⟨v9,rfl,⟨l9,rfl,he9⟩,ht9,hr9,hk9⟩:=h;obtain⟨kd,op',vk,vi,vs,tb,nm,pp,pm,pc,rfl⟩:=he9.form;have hz9:=ht9.held GZ.out ab;have hl9:=ht9.size;have HT9:=aa (ah.trans HTT.out ht9);have HE9:=aa (he9.mono (S':=λb=>w.heap.size+1<b) (λb hb _=>by omega));have HR9:=aa hr9;have HK9:=aa hk9;clear he9 ht9 hr9 hk9;go_wp2_with ((refine pw (hz9) ?_;intro wZ hpZ));exact ar (aH rfl rfl hpZ.blk aA rfl au) rfl (Got.expr hpZ (HE9.out) (HT9.out) (HR9.out) (HK9.out) ab ab)
 have h1b:((P12.nxt r).kind==1)=false:=by simpa using h1
 have H1:=aa h1;clear h1;go_wp2_with fail;rw[← HWT.out];refine(ix br r [40] _ HRT.out).mono ?_;rintro e w2 ⟨rfl,hx2⟩;have GB2:=aa ((hx2.block _ (ae.1 GB.out).1).trans GB.out);have GZ2:=aa ((hx2.block _ (ae.1 GZ.out).1).trans GZ.out);have gt2:=(hx2.block _ (ae.1 GT.out).1).trans GT.out;have HT2:=aa (ah.trans HTT.out (ah.aR hx2));have HR2:=aa (HRT.out.ext hx2);have ls2:=hx2.size;have c2:w2.cell? ⟨w.heap.size,0,none⟩=some (rp br):=by have h:=GB2.out;simp[ak,h]
 obtain⟨t0,t1,t2,-⟩:=Xe.i7 gt2;have lt3:=ay _ _ t0;have lc2:=ay _ _ c2;have GT2:=aa gt2;clear hx2 gt2
 cases hs:P12.isT [40] r
 ·by_cases h2:(P12.nxt r).kind=2
  ·have h2b:((P12.nxt r).kind==2)=true:=by simpa using h2
   have hE:=HRES.out;simp only[P12.cZ,if_neg H3.out,if_neg H4.out,if_neg H1.out,hs,if_pos h2,aS,if_false]at hE;have HE:=aa hE;clear h2 hE HRES;go_wp2
   refine Xg.bm (E:=Xk.Ext) AF (λ_ _=>False) 99 9 (λ_=>none) (λ_ _ h=>by cases h) (λ_ _ _ _ h=>by cases h) [(0,gF w2.heap.size ig)] au au (Xg.cg ((by
       intro y hy;simp only[aJ,aF,or_false]at hy;rcases hy with rfl
       rw[if_neg (show ¬ (0=99) by decide)];exact λv w w' hx h=>gF.turn (br:=br) ab v w w' (ah.aR hx) h))) (λch a w' hd hX=>hX.elim) ?_
   simp only[aG,aY,aL,bd];(refine Xg.bc az az aq (λW hx hp=>?_) (λu0 K hK=>?_);(go_simp;exact(oU W).mono (λe w' h=>by obtain⟨rfl,hm,hx'⟩:=h;exact⟨_,rfl,hx',⟨W.heap.size,4,rfl,(by have:=hx.size;simpa using this),(by obtain⟨es,cl,hb,-⟩:=hm;exact(ae.1 hb).1),hm⟩,λb hb=>by cases hb⟩));(go_simp;refine hK _ ?_;clear hK K))
   refine Xg.gs ?_;(refine Xg.aX (Xk.aQ az) az (λK hK=>?_);apply aU;refine⟨λW hx hp=>?_,?_⟩;(have c:=Xk.bO hx (show w2.drew.cell? ⟨w1.heap.size,1,none⟩=_ from t1);go_simp;exact⟨rfl,rfl⟩);(go_simp;refine hK _ ?_;clear hK K))
   (refine Xg.aX (Xk.aQ az) az (λK hK=>?_);apply aU;refine⟨λW hx hp=>?_,?_⟩;((obtain⟨b,n,hu,h1,h2,h3⟩:=Xe.bG hp au;have hlk:=B9 h3 (P12.nxt r).text ab;subst hu);go_simp;exact⟨rfl,rfl⟩);(go_simp;refine hK _ ?_;clear hK K))
   refine Xg.gs ?_;refine Xg.bD (λW hx hp hg=>?_);have hxW:Xk.Ext w2 W:=Xk.Ext.trans ((al _ _).drew) hx;have GBW:=aa ((hxW.block _ (ae.1 GB2.out).1).trans GB2.out);have GZW:=aa ((hxW.block _ (ae.1 GZ2.out).1).trans GZ2.out);have gtW:=(hxW.block _ (ae.1 GT2.out).1).trans GT2.out;have HTW:=aa (ah.trans HT2.out (ah.aR hxW));have HRW:=aa (HR2.out.ext hxW);have lsW:=hxW.size;have cW:W.cell? ⟨w.heap.size,0,none⟩=some (rp br):=by have h:=GBW.out;simp[ak,h]
   obtain⟨s0,s1,s2,-⟩:=Xe.i7 gtW;have ltW:=ay _ _ s0;have lcW:=ay _ _ cW;clear hp hg hx hxW gtW c1 c2 t0 t1 t2
   cases hf:P12.lZ (P12.nxt r).text with
   | some op=>
    have hnum:=(zi (P12.nxt r).text).2 op hf;have hE:=HE.out;rw[hf]at hE;dsimp only at hE;have HE2:=aa hE;have hsm:(P12.lZ (P12.nxt r).text).isSome=true:=by rw[hf];rfl
    rw[hnum];clear hE HE hf;go_wp2_with fail;go_at_call 75;refine(eS br _ _ HRW.out).mono ?_;rintro e w3 ⟨rfl,ht3,hr3⟩;have hb3:=ht3.held GBW.out ab;have hz3:=ht3.held GZW.out ab;have HT3:=aa (ah.trans HTW.out ht3);have c3:w3.cell? ⟨w.heap.size,0,none⟩=some (rp br):=by simp[ak,hb3]
    have lc3:=ay _ _ c3;have hl3:=ht3.size;have HZ3:=aa hz3;have HC:=aa (IS br op ex (P12.ax r) w3 hr3 (λr1 W' hd hr'=>HX.out r1 W' (by rw[hd,(P12.aO r).deep]) hr'));clear hb3 hz3 ht3 hr3;go_wp2_with fail;refine HC.out.mono ?_;have hE:=HE2.out
    cases hc:P12.call ex op (P12.ax r)with
    | error er=>
     intro e w9 h;try rw[hc]at h
     rw[hc]at hE;try dsimp only at hE
     subst hE;obtain⟨rfl,ht9⟩:=h;simp only[bq];go_wp2;exact⟨rfl,rfl,ah.trans HT3.out ht9⟩
    | ok p=>
     obtain⟨a,r9⟩:=p;intro e w9 h;try rw[hc]at h
     rw[hc]at hE;try dsimp only at hE
     subst hE;obtain⟨v9,rfl,⟨l9,rfl,he9⟩,ht9,hr9,hk9⟩:=h;obtain⟨kd,op',vk,vi,vs,tb,nm,pp,pm,pc,rfl⟩:=he9.form;have hz9:=ht9.held HZ3.out ab;have hl9:=ht9.size;have HT9:=aa (ah.trans HT3.out ht9);have HE9:=aa (he9.mono (S':=λb=>w.heap.size+1<b) (λb hb _=>by omega));have HR9:=aa hr9;have HK9:=aa hk9;clear he9 ht9 hr9 hk9;go_wp2_with ((refine pw (hz9) ?_;intro wZ hpZ));exact ar (aH rfl rfl hpZ.blk aA rfl au) rfl (Got.expr hpZ (HE9.out) (HT9.out) (HR9.out) (((P12.aO r).trans HK9.out)) ab ab)
   | none=>
    have hE:=HE.out;rw[hf]at hE;dsimp only at hE;have hsm:(P12.lZ (P12.nxt r).text).isSome=false:=by rw[hf];rfl
    clear HE hf;by_cases hN:(P12.nxt r).text = [78,85,76,76]
    ·rw[if_pos hN]at hE;subst hE;have hNb:((P12.nxt r).text == [78,85,76,76])=true:=by simpa using hN
     clear hN;go_wp2_with fail;refine(nV br w.heap.size 0 (0) ([]) r _ HRW.out GBW.out ab).mono ?_;rintro e w9 ⟨rfl,ht9,hr9⟩;have hz9:=ht9.held GZW.out ab;have HT9:=aa (ah.trans HTW.out ht9);have HR9:=aa hr9;clear ht9 hr9;go_wp2_with ((refine pw (hz9) ?_;intro wZ hpZ));exact ar (aH rfl rfl hpZ.blk aA rfl au) rfl (Got.expr hpZ ((show aC (λb=>w.heap.size+1<b) _ (.val 0 (0) ([])) _ from rfl)) (HT9.out) (HR9.out) (P12.aO r) ab ab)
    rw[if_neg hN]at hE;have hNb:((P12.nxt r).text == [78,85,76,76])=false:=by simpa using hN
    clear hN;by_cases hTr:(P12.nxt r).text = [84,82,85,69]
    ·rw[if_pos hTr]at hE;subst hE;have hTb:((P12.nxt r).text == [84,82,85,69])=true:=by simpa using hTr
     clear hTr;go_wp2_with fail;refine(nV br w.heap.size 1 (1) ([]) r _ (rdx (HRW.out)) ((ah.alloc (ah.refl br W) _).held GBW.out ab) ab).mono ?_;rintro e w9 ⟨rfl,ht9,hr9⟩;have hz9:=ht9.held ((ah.alloc (ah.refl br W) _).held GZW.out ab) ab;have HT9:=aa (ah.trans (ah.alloc HTW.out _) ht9);have HR9:=aa hr9;clear ht9 hr9;go_wp2_with ((refine pw (hz9) ?_;intro wZ hpZ));exact ar (aH rfl rfl hpZ.blk aA rfl au) rfl (Got.expr hpZ ((show aC (λb=>w.heap.size+1<b) _ (.val 1 (1) ([])) _ from rfl)) (HT9.out) (HR9.out) (P12.aO r) ab ab)
    rw[if_neg hTr]at hE;have hTb:((P12.nxt r).text == [84,82,85,69])=false:=by simpa using hTr
    clear hTr;by_cases hFa:(P12.nxt r).text = [70,65,76,83,69]
    ·rw[if_pos hFa]at hE;subst hE;have hFb:((P12.nxt r).text == [70,65,76,83,69])=true:=by simpa using hFa
     clear hFa;go_wp2_with fail;refine(nV br w.heap.size 1 (0) ([]) r _ (rdx (HRW.out)) ((ah.alloc (ah.refl br W) _).held GBW.out ab) ab).mono ?_;rintro e w9 ⟨rfl,ht9,hr9⟩;have hz9:=ht9.held ((ah.alloc (ah.refl br W) _).held GZW.out ab) ab;have HT9:=aa (ah.trans (ah.alloc HTW.out _) ht9);have HR9:=aa hr9;clear ht9 hr9;go_wp2_with ((refine pw (hz9) ?_;intro wZ hpZ));exact ar (aH rfl rfl hpZ.blk aA rfl au) rfl (Got.expr hpZ ((show aC (λb=>w.heap.size+1<b) _ (.val 1 (0) ([])) _ from rfl)) (HT9.out) (HR9.out) (P12.aO r) ab ab)
    rw[if_neg hFa]at hE;have hFb:((P12.nxt r).text == [70,65,76,83,69])=false:=by simpa using hFa
    simp only[P12.bU]at hE;subst hE;clear hFa;go_wp2_with fail;refine(eC br r 120 _ HRW.out).mono ?_;rintro e w9 ⟨rfl,hx9⟩;simp only[bq];go_wp2;exact⟨rfl,rfl,ah.trans HTW.out (ah.aR hx9)⟩
  ·have h2b:((P12.nxt r).kind==2)=false:=by simpa using h2
   have hE:=HRES.out;simp only[P12.cZ,P12.bU,if_neg H3.out,if_neg H4.out,if_neg H1.out,hs,if_neg h2,aS,if_false]at hE;subst hE;clear h2;go_wp2_with fail;refine(eC br r 120 _ HR2.out).mono ?_;rintro e w9 ⟨rfl,hx9⟩;simp only[bq];go_wp2;exact⟨rfl,rfl,ah.trans HT2.out (ah.aR hx9)⟩
 ·have hE:=HRES.out;simp only[P12.cZ,if_neg H3.out,if_neg H4.out,if_neg H1.out,hs,if_true]at hE;have hEnt:Ent 140:=⟨λ_ _=>by go_simp,by decide⟩
  have HW:=aa (pd (α:=P12.E) br [] (.func (.func 140) #[rp br] #[]) 140 #[rp br] (.inl rfl) hEnt
   ex (λv e W=>∃l,v = .agg l.toArray/\aC (λb=>w2.heap.size<b) W e l) r w2 HR2.out (λk hk=>by cases hk)
   (λv x W hv=>by
    obtain⟨l,rfl,he⟩:=hv;obtain⟨kd,op,vk,vi,vs,tb,nm,pp,pm,pc,rfl⟩:=he.form;exact⟨_,_,_,_,_,_,_,_,_,_,rfl⟩)
   (λv x W W' hv ht=>by
    obtain⟨l,rfl,he⟩:=hv;exact⟨l,rfl,he.turn ht (λb hb=>by omega)⟩)
   (λv x W o u hv=>by
    obtain⟨l,rfl,he⟩:=hv;exact⟨l,rfl,he.set ab o u⟩)
   (λr1 W hd hd2 hr1 ht hlt=>(HX.out r1 W hd hr1).mono (λe w' h=>by
    cases hx:ex r1 with
    | error er=>
     rw[hx]at h;exact⟨h.1,Kept.bB h.2 aI⟩
    | ok p=>
     obtain⟨x,r'⟩:=p;rw[hx]at h;obtain⟨v,rfl,⟨l,rfl,he⟩,ht',hr',hk'⟩:=h;exact⟨_,rfl,⟨l,rfl,he.mono (λb hb _=>by omega)⟩,Kept.bB ht' aI,hr',hk'⟩)))
  go_wp2_with fail;refine HW.out.mono ?_
  cases hw:P12.within ex r with
  | error er=>
   rw[hw]at hE;subst hE;rintro e w9 ⟨rfl,hk9⟩;simp only[bq];go_wp2;exact⟨rfl,rfl,ah.trans HT2.out hk9.turn⟩
  | ok p=>
   obtain⟨a,r9⟩:=p;rw[hw]at hE;subst hE;rintro e w9 ⟨v9,rfl,⟨l9,rfl,he9⟩,hk9,hr9,hkk9⟩;obtain⟨kd,op',vk,vi,vs,tb,nm,pp,pm,pc,rfl⟩:=he9.form;have ht9:=hk9.turn;have hz9:=ht9.held GZ2.out ab;have hl9:=ht9.size;have HT9:=aa (ah.trans HT2.out ht9);have HE9:=aa (he9.mono (S':=λb=>w.heap.size+1<b) (λb hb _=>by omega));have HR9:=aa hr9;clear he9 ht9 hr9 hk9;go_wp2_with ((refine pw (hz9) ?_;intro wZ hpZ));exact ar (aH rfl rfl hpZ.blk aA rfl au) rfl (Got.expr hpZ (HE9.out) (HT9.out) (HR9.out) (hkk9) ab ab)
end Go.Proofs.YtkpmclddjkebeaaGreatDoor
