/- Walks: pantileref12's sameTexts, sameAll, Same, SameTable and SameStmt, of two that are the same. -/
import Derived.Test.YtkpmclddjkebeaaGreatDoorRI
set_option linter.unusedSimpArgs false
set_option linter.unusedVariables false
set_option maxRecDepth 100000
set_option maxHeartbeats 80000000
open Go.Lib renaming hid→aa
open Go.Proofs.Tryz renaming prog→af,underlying35→aA
open Go.Result renaming andThen_ok→oZ
open Go.RowKit.Below renaming refl→al
open Go.World renaming block_lt_of_cell?→ay
open List renaming getElem?_append_left→cb,getElem?_append_right→dB,getElem?_eq_getElem→aZ,getElem?_eq_some_iff→cr,getElem_mem→i6
open Nat renaming add_zero→oH,lt_of_lt_of_le→aK,mul_one→sn
namespace Go.Xk
open Go.RowKit
theorem nM{P:Program}{o:Oper}{a:Act}{w:World}(t:TypeId)(x:Operand)(ho:o.op = .load t x)(b off:Nat)(cs:List Value)(d:TypeDesc)(hx:a.eval x = .pointer (some ⟨b,off,none⟩))(hc:w.rangeAt b off cs)
  (hu:P.underlying t=some d) (hd:d.isRow=true) (hi:(P.info? t).map (·.size)=some cs.length):ko P o a w (.agg cs.toArray):=by
 unfold ko execOp;simp only[ho,hx,Instr.loadAt,Instr.sureAddr,Sem.run_bind,Sem.run_pure,oZ,run_loadVar_mid (P:=P) w b off t cs d hc hu hd hi];exact⟨rfl,rfl⟩
theorem s0{P Q:Prop}(k:Q)(h:Q->P:=by
 intro k;have KQ:=Lib.hid k;clear k;try simp only[List.take_succ_cons,List.take_zero,List.drop_succ_cons,List.drop_zero]
 repeat(first
  | (refine Go.Xk.aX (Go.Xk.aQ az) az (λK hK=>?_);apply Exists.intro;refine⟨λp hp=>?_,?_⟩;(go_simp;exact⟨rfl,rfl⟩);(go_simp;refine hK _ ?_;clear hK K))
  | (refine Go.Xk.cQ az (λK hK=>?_);go_simp;refine hK _ ?_;clear hK K)
  | (refine Go.Xk.aX az az (λK hK=>?_);apply Exists.intro;refine⟨λp hp=>?_,?_⟩;(go_simp;exact⟨rfl,rfl⟩);(go_simp;refine hK _ ?_;clear hK K)))
 exact KQ.out):P:=h k
theorem ld{P:Program}{ops:Array Oper}{w0:World}{Ψ:List (Nat×Fct)}{Q:Act->World->Prop}{o:Oper}{r:List Oper}{i:Nat}{a:Act}{F:fc}(t:TypeId)(b off:Nat)(cs:List Value){d:TypeDesc}(hu:P.underlying t=some d)(hc:w0.rangeAt b off cs)(hb:b<w0.heap.size){x:Operand}(k:cj P ops w0 Ψ Q r (i+1) (a.put o.dst (.agg cs.toArray)) F)
  (hg:Region.wanted o (yielded ops a.tmps)=true:=by first|exact Go.Xk.aQ az|rfl) (ho:o.op = .load t x:=by rfl) (ht:eg Ψ i=none:=by rfl) (hx:a.eval x = .pointer (some ⟨b,off,none⟩):=by rfl) (hd:d.isRow=true:=by rfl) (hi:(P.info? t).map (·.size)=some cs.length:=by kernel_rfl):cj P ops w0 Ψ Q (o::r) i a F:=
 aX hg ht λK hK=>⟨.agg cs.toArray,λp _=>nM t x ho b off cs d hx (λj v hj=>bO (cF w0 p) (hc j v hj)) hu hd hi,hK _ k⟩
theorem dp{P:Program}{f:FuncId}{args:Array Value}{w:World}{v:Value}(h:Calls P f args w λe w'=>e = .returned v/\Ext w w'):Calls P f args w (xl w v):=h
theorem s1{A P Q:Prop}(a:A)(k:Q)(h:A->Q->P:=by
 intro a k;have AH:=Lib.hid a;have KQ:=Lib.hid k;clear a k;try simp only[List.take_succ_cons,List.take_zero,List.drop_succ_cons,List.drop_zero]
 repeat(first
  | (refine Go.Xk.aX (Go.Xk.aQ az) az (λK hK=>?_);apply Exists.intro;refine⟨λp hp=>?_,?_⟩;(go_simp;first|exact⟨rfl,rfl⟩|((try refine⟨by kernel_rfl,?_⟩);first|(with_reducible exact Go.Xk.dp (AH.out _))|(with_reducible exact Go.Xk.dp (AH.out _ Go.Xk.xt))));(go_simp;refine hK _ ?_;clear hK K))
  | (refine Go.Xk.cQ az (λK hK=>?_);go_simp;refine hK _ ?_;clear hK K)
  | (refine Go.Xk.aX az az (λK hK=>?_);apply Exists.intro;refine⟨λp hp=>?_,?_⟩;(go_simp;first|exact⟨rfl,rfl⟩|((try refine⟨by kernel_rfl,?_⟩);first|(with_reducible exact Go.Xk.dp (AH.out _))|(with_reducible exact Go.Xk.dp (AH.out _ Go.Xk.xt))));(go_simp;refine hK _ ?_;clear hK K)))
 exact KQ.out):P:=h a k
end Go.Xk
namespace Go.Proofs.YtkpmclddjkebeaaGreatDoor
open Go.RowKit
theorem fh{α:Type}{S:Nat->Prop}{w wr:World}{sz:Nat}{R:α->List Value->Prop}{l:List α}{p:Option Addr}{n c q:Nat}(h:aE S w sz R l (.slice p n c))(hq:q<l.length)(hx:Xk.Ext w wr):
  ∃g u,p=some ⟨g,0,none⟩/\g<wr.heap.size/\R l[q] u/\wr.rangeAt g (q*sz) u:=by
 obtain⟨g,rfl⟩:=h.root ab;obtain⟨-,-,he⟩:=h.elem;obtain⟨u,hu,hul,hr⟩:=he q _ (aZ hq)
 have hsz:0<sz:=by
  rcases h with⟨-,h⟩|⟨g',c',us,h1,h2,h3,h4,h5,h6,h7,h8,h9⟩
  ·cases h
  ·exact h7
 have hg:=ay _ _ (hr 0 _ (aZ ab));exact⟨g,u,rfl,aK hg hx.size,hu,eV hr (hx.block g hg)⟩
theorem mN{w:World}{g o:Nat}{a b:List Value}(h:w.rangeAt g o (a++b)):w.rangeAt g (o+a.length) b:=λj v hj=>by
 have:=h (a.length+j) v (by rw[dB ab];simpa using hj);rwa [← Nat.add_assoc]at this
theorem mO{w:World}{g o:Nat}{a b:List Value}(h:w.rangeAt g o (a++b)):w.rangeAt g o a:=λj v hj=>h j v (by rw[cb (cr.1 hj).1];exact hj)
theorem oS{S S':Nat->Prop}{w:World}{l:List P12.T}{v v':Value}(h:aE S w 1 lP l v)(h':aE S' w 1 lP l v')(hl:l.length≤1000000):
  Calls af 29 #[v,v'] w λe w'=>e = .returned (.bool true)/\Xk.Ext w w':=by
 have HS:=aa h;have HS':=aa h';obtain⟨p,c,rfl⟩:=h.len;obtain⟨p',c',rfl⟩:=h'.len;clear h h';go_enter Tryz.func29,Tryz.ntmps29;go_wp2_with fail;go_loopw [5] (λx wr=>∃q:Nat,q≤l.length/\x = .int .i64 q/\Xk.Ext w wr) (λx _=>l.length-(intOf x).toNat)
 case atStart=>exact⟨0,by omega,rfl,al _ _⟩
 case round=>
  obtain⟨q,hq,rfl,hx⟩:=hrel;have HX:=aa hx;by_cases hlt:q<l.length
  ·obtain⟨g,u,rfl,hg,rfl,hr⟩:=fh HS.out hlt hx;obtain⟨g',u',rfl,hg',rfl,hr'⟩:=fh HS'.out hlt hx;have hlb:(q:Int)<(l.length:Int):=ab;have c1:wr.cell? ⟨g,q,none⟩=some (bs l[q]):=by have:=hr 0 _ rfl;rwa [sn,oH]at this
   have c2:wr.cell? ⟨g',q,none⟩=some (bs l[q]):=by have:=hr' 0 _ rfl;rwa [sn,oH]at this
   clear hr hr' hx;go_wp2_with fail;refine Xk.reg 9 (Xk.w0 λp=>?_);go_wp2_with fail;go_roundw
   case rel=>exact⟨q+1,by omega,by go_num,Xk.Ext.trans HX.out (Xk.cF _ _)⟩
   case measure=>simp[intOf];omega
  ·have hlb:¬ (q:Int)<(l.length:Int):=ab;go_wp2_with fail;go_ret;exact⟨rfl,HX.out⟩
def xM:P12.E->List P12.E
 | .una _ a => [a]
 | .call _ a => [a]
 | .bin _ a b => [a,b]
 | _ => []
theorem aC.parts(e:P12.E):∃ (kd op k i:Int) (s t n:P12.T),∀ (S:Nat->Prop) (w:World) (l:List Value),aC S w e l->∃v,l=ao kd op k i s t n v/\aE S w 10 (dY S w) (xM e) v:=by
 cases e with
 | none=>exact⟨_,_,_,_,_,_,_,λS w l h=>⟨_,h,aE.nil _ _ _ _⟩⟩
 | val k i s=>exact⟨_,_,_,_,_,_,_,λS w l h=>⟨_,h,aE.nil _ _ _ _⟩⟩
 | col t n=>exact⟨_,_,_,_,_,_,_,λS w l h=>⟨_,h,aE.nil _ _ _ _⟩⟩
 | all=>exact⟨_,_,_,_,_,_,_,λS w l h=>⟨_,h,aE.nil _ _ _ _⟩⟩
 | una op a=>exact⟨3,op,0,0,[],[],[],λS w l h=>by
   unfold aC at h;obtain⟨g,u,hg,rfl,hr,hl,he⟩:=h;exact⟨_,rfl,CA hg hr hl he⟩⟩
 | call op a=>exact⟨5,op,0,0,[],[],[],λS w l h=>by
   unfold aC at h;obtain⟨g,u,hg,rfl,hr,hl,he⟩:=h;exact⟨_,rfl,CA hg hr hl he⟩⟩
 | bin op a b=>exact⟨4,op,0,0,[],[],[],λS w l h=>by
   unfold aC at h;obtain⟨g,u,v,hg,rfl,hr,hl,hl2,he,he2⟩:=h;exact⟨_,rfl,Jm hg hr hl hl2 he he2⟩⟩
abbrev CB(e:P12.E):Prop:=∀ (S S':Nat->Prop) (w:World) (l l':List Value),aC S w e l->aC S' w e l'->Calls af 31 #[.agg l.toArray,.agg l'.toArray] w λe w'=>e = .returned (.bool true)/\Xk.Ext w w'
theorem mL{S S':Nat->Prop}{w:World}{l:List P12.E}{v v':Value}(h:aE S w 10 (dY S w) l v)(h':aE S' w 10 (dY S' w) l v')(hl:l.length≤1000000)(hE:∀e∈l,CB e):
  Calls af 30 #[v,v'] w λe w'=>e = .returned (.bool true)/\Xk.Ext w w':=by
 have HS:=aa h;have HS':=aa h';have HE:=aa hE;obtain⟨p,c,rfl⟩:=h.len;obtain⟨p',c',rfl⟩:=h'.len;clear h h' hE;go_enter Tryz.func30,Tryz.ntmps30;go_wp2_with fail;go_loopw [5] (λx wr=>∃q:Nat,q≤l.length/\x = .int .i64 q/\Xk.Ext w wr) (λx _=>l.length-(intOf x).toNat)
 case atStart=>exact⟨0,by omega,rfl,al _ _⟩
 case round=>
  obtain⟨q,hq,rfl,hx⟩:=hrel;have HX:=aa hx;by_cases hlt:q<l.length
  ·obtain⟨g,u,rfl,hg,hu,hr⟩:=fh HS.out hlt hx;obtain⟨g',u',rfl,hg',hu',hr'⟩:=fh HS'.out hlt hx;have hlb:(q:Int)<(l.length:Int):=ab;have HC:=aa λW (hxw:Xk.Ext wr W)=>HE.out _ (i6 hlt) S S' W u u' (aC.kn hu (Xk.Ext.trans hx hxw)) (aC.kn hu' (Xk.Ext.trans hx hxw));have hul:=aC.length hu;have hul':=aC.length hu';obtain⟨kd,op,vk,vi,vs,tb,nm,pp,pm,pc,rfl⟩:=aC.form hu;obtain⟨kd',op',vk',vi',vs',tb',nm',pp',pm',pc',rfl⟩:=aC.form hu';have HR:=aa hr;have HR':=aa hr';have hq10:(q:Int)*10=((q*10:Nat):Int):=ab;clear hr hr' hx hu hu' hul hul';go_wp2_with fail;refine Xk.reg 9 (Xk.s0 ?_)
   refine Xk.ld 35 g (q*10) _ aA HR.out (by simpa using hg) ?_;go_simp;refine Xk.s0 ?_;refine Xk.ld 35 g' (q*10) _ aA HR'.out (by simpa using hg') ?_;go_simp;refine Xk.s1 HC.out ?_;refine Xk.bD λp _=>?_;go_wp2_with fail;go_roundw
   case rel=>exact⟨q+1,by omega,by go_num,Xk.Ext.trans HX.out (Xk.cF _ _)⟩
   case measure=>simp[intOf];omega
  ·have hlb:¬ (q:Int)<(l.length:Int):=ab;go_wp2_with fail;go_ret;exact⟨rfl,HX.out⟩
theorem GP(kd op k i:Int)(s t n:P12.T)(p p':Option Addr)(m m' c c':Nat)(w:World)(hA:∀W,Xk.Ext w W->Calls af 30 #[.slice p m c,.slice p' m' c'] W λe w'=>e = .returned (.bool true)/\Xk.Ext W w'):
  Calls af 31 #[.agg (ao kd op k i s t n (.slice p m c)).toArray,.agg (ao kd op k i s t n (.slice p' m' c')).toArray] w λe w'=>e = .returned (.bool true)/\Xk.Ext w w':=by
 have HA:=aa hA;clear hA;go_enter Tryz.func31,Tryz.ntmps31;go_wp2_with fail;refine(HA.out _ Xk.xt).mono ?_;rintro e w' ⟨rfl,hx⟩;go_wp2_with fail;go_ret;exact⟨rfl,Xk.Ext.trans Xk.xt hx⟩
theorem sq(e:P12.E)(h:∀x∈xM e,CB x):CB e:=by
 intro S S' w l l' h1 h2;obtain⟨kd,op,k,i,s,t,n,hp⟩:=aC.parts e;obtain⟨v,rfl,hv⟩:=hp _ _ _ h1;obtain⟨v',rfl,hv'⟩:=hp _ _ _ h2;have hl:(xM e).length≤1000000:=by cases e<;>simp[xM]
 have hA:=λW (hx:Xk.Ext w W)=>mL (hv.qX hx) (hv'.qX hx) hl h;obtain⟨p,c,rfl⟩:=hv.len;obtain⟨p',c',rfl⟩:=hv'.len;exact GP kd op k i s t n p p' _ _ c c' w hA
theorem j9(e:P12.E):CB e:=by
 induction e with
 | una op a h=>exact sq _ λx hx=>by rw[show x=a by simpa[xM]using hx];exact h
 | call op a h=>exact sq _ λx hx=>by rw[show x=a by simpa[xM]using hx];exact h
 | bin op a b h h'=>
  refine sq _ λx hx=>?_
  ·rcases(show x=a∨x=b by simpa[xM]using hx)with e|e
   ·rw[e];exact h
   ·rw[e];exact h'
 | _=>exact sq _ (by simp[xM])
end Go.Proofs.YtkpmclddjkebeaaGreatDoor
