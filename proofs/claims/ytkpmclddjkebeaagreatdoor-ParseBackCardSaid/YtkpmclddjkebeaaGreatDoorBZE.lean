/- Walks: pantileref12's sameTexts, sameAll, Same, SameTable and SameStmt, of two that are the same. -/
import Derived.Test.YtkpmclddjkebeaaGreatDoorBK
set_option linter.unusedSimpArgs false
set_option linter.unusedVariables false
set_option maxRecDepth 100000
set_option maxHeartbeats 8000000
open Exists renaming intro→ai
open Go.Lib renaming hid→aa
open Go.Proofs.Tryz renaming prog→ab,underlying35→aW
open Go.Region renaming wanted→bO
open Go.Result renaming andThen_ok→oK
open Go.RowKit.Below renaming refl→aj
open Go.World renaming block_lt_of_cell?→al
open List renaming drop_succ_cons→aG,drop_zero→aT,getElem?_append_left→bU,getElem?_append_right→db,getElem?_eq_getElem→aU,getElem?_eq_some_iff→cP,getElem_mem→cp,take_succ_cons→aA,take_zero→aS
open Nat renaming add_zero→jZ,lt_of_lt_of_le→aD,mul_one→nk
namespace Go.Xk
open Go.RowKit
theorem nT{P:Program}{o:Oper}{a:Act}{w:World}(t:TypeId)(x:Operand)(ho:o.op = .load t x)(b off:Nat)(cs:List Value)(d:TypeDesc)(hx:a.eval x = .pointer (some ⟨b,off,none⟩))(hc:w.rangeAt b off cs)
  (hu:P.underlying t=some d) (hd:d.isRow=true) (hi:(P.info? t).map (·.size)=some cs.length):jP P o a w (.agg cs.toArray):=by
 unfold jP execOp;simp only[ho,hx,Instr.loadAt,Instr.sureAddr,Sem.run_bind,Sem.run_pure,oK,run_loadVar_mid (P:=P) w b off t cs d hc hu hd hi];exact⟨rfl,rfl⟩
theorem s0{P Q:Prop}(k:Q)(h:Q->P:=by
 intro k;have KQ:=aa k;clear k;try simp only[aA,aS,aG,aT]
 repeat(first
  | (refine Go.Xk.ay (Go.Xk.an (by rfl)) (by rfl) (λK hK=>?_);apply ai;refine⟨λp hp=>?_,?_⟩;(go_simp;exact⟨rfl,rfl⟩);(go_simp;refine hK _ ?_;clear hK K))
  | (refine Go.Xk.bu (by rfl) (λK hK=>?_);go_simp;refine hK _ ?_;clear hK K)
  | (refine Go.Xk.ay (by rfl) (by rfl) (λK hK=>?_);apply ai;refine⟨λp hp=>?_,?_⟩;(go_simp;exact⟨rfl,rfl⟩);(go_simp;refine hK _ ?_;clear hK K)))
 exact KQ.out):P:=h k
theorem ld{P:Program}{ops:Array Oper}{w0:World}{Ψ:List (Nat×Fct)}{Q:Act->World->Prop}{o:Oper}{r:List Oper}{i:Nat}{a:Act}{F:eU}(t:TypeId)(b off:Nat)(cs:List Value){d:TypeDesc}(hu:P.underlying t=some d)(hc:w0.rangeAt b off cs)(hb:b<w0.heap.size){x:Operand}(k:bX P ops w0 Ψ Q r (i+1) (a.put o.dst (.agg cs.toArray)) F)
  (hg:bO o (yielded ops a.tmps)=true:=by first|exact Go.Xk.an (by rfl)|rfl) (ho:o.op = .load t x:=by rfl) (ht:dH Ψ i=none:=by rfl) (hx:a.eval x = .pointer (some ⟨b,off,none⟩):=by rfl) (hd:d.isRow=true:=by rfl) (hi:(P.info? t).map (·.size)=some cs.length:=by kernel_rfl):bX P ops w0 Ψ Q (o::r) i a F:=
 ay hg ht λK hK=>⟨.agg cs.toArray,λp _=>nT t x ho b off cs d hx (λj v hj=>bn (cm w0 p) (hc j v hj)) hu hd hi,hK _ k⟩
theorem dp{P:Program}{f:FuncId}{args:Array Value}{w:World}{v:Value}(h:Calls P f args w λe w'=>e = .returned v/\Ext w w'):Calls P f args w (wo w v):=h
theorem s1{A P Q:Prop}(a:A)(k:Q)(h:A->Q->P:=by
 intro a k;have AH:=aa a;have KQ:=aa k;clear a k;try simp only[aA,aS,aG,aT]
 repeat(first
  | (refine Go.Xk.ay (Go.Xk.an (by rfl)) (by rfl) (λK hK=>?_);apply ai;refine⟨λp hp=>?_,?_⟩;(go_simp;first|exact⟨rfl,rfl⟩|((try refine⟨by kernel_rfl,?_⟩);first|(with_reducible exact Go.Xk.dp (AH.out _))|(with_reducible exact Go.Xk.dp (AH.out _ Go.Xk.xt))));(go_simp;refine hK _ ?_;clear hK K))
  | (refine Go.Xk.bu (by rfl) (λK hK=>?_);go_simp;refine hK _ ?_;clear hK K)
  | (refine Go.Xk.ay (by rfl) (by rfl) (λK hK=>?_);apply ai;refine⟨λp hp=>?_,?_⟩;(go_simp;first|exact⟨rfl,rfl⟩|((try refine⟨by kernel_rfl,?_⟩);first|(with_reducible exact Go.Xk.dp (AH.out _))|(with_reducible exact Go.Xk.dp (AH.out _ Go.Xk.xt))));(go_simp;refine hK _ ?_;clear hK K)))
 exact KQ.out):P:=h a k
end Go.Xk
namespace Go.Proofs.YtkpmclddjkebeaaGreatDoor
open Go.RowKit
theorem dP{α:Type}{S:Nat->Prop}{w wr:World}{sz:Nat}{R:α->List Value->Prop}{l:List α}{p:Option Addr}{n c q:Nat}(h:aH S w sz R l (.slice p n c))(hq:q<l.length)(hx:Xk.Ext w wr):
  ∃g u,p=some ⟨g,0,none⟩/\g<wr.heap.size/\R l[q] u/\wr.rangeAt g (q*sz) u:=by
 obtain⟨g,rfl⟩:=h.root (by omega);obtain⟨-,-,he⟩:=h.elem;obtain⟨u,hu,hul,hr⟩:=he q _ (aU hq)
 have hsz:0<sz:=by
  rcases h with⟨-,h⟩|⟨g',c',us,h1,h2,h3,h4,h5,h6,h7,h8,h9⟩
  ·cases h
  ·exact h7
 have hg:=al _ _ (hr 0 _ (aU (by omega)));exact⟨g,u,rfl,aD hg hx.size,hu,cI hr (hx.block g hg)⟩
theorem mF{w:World}{g o:Nat}{a b:List Value}(h:w.rangeAt g o (a++b)):w.rangeAt g (o+a.length) b:=λj v hj=>by
 have:=h (a.length+j) v (by rw[db (by omega)];simpa using hj);rwa [← Nat.add_assoc]at this
theorem mG{w:World}{g o:Nat}{a b:List Value}(h:w.rangeAt g o (a++b)):w.rangeAt g o a:=λj v hj=>h j v (by rw[bU (cP.1 hj).1];exact hj)
theorem oX{S S':Nat->Prop}{w:World}{l:List P12.T}{v v':Value}(h:aH S w 1 oO l v)(h':aH S' w 1 oO l v')(hl:l.length≤1000000):
  Calls ab 29 #[v,v'] w λe w'=>e = .returned (.bool true)/\Xk.Ext w w':=by
 have HS:=aa h;have HS':=aa h';obtain⟨p,c,rfl⟩:=h.len;obtain⟨p',c',rfl⟩:=h'.len;clear h h';go_enter Tryz.func29,Tryz.ntmps29;go_wp2_with fail;go_loopw [5] (λx wr=>∃q:Nat,q≤l.length/\x = .int .i64 q/\Xk.Ext w wr) (λx _=>l.length-(intOf x).toNat)
 case atStart=>exact⟨0,by omega,rfl,aj _ _⟩
 case round=>
  obtain⟨q,hq,rfl,hx⟩:=hrel;have HX:=aa hx;by_cases hlt:q<l.length
  ·obtain⟨g,u,rfl,hg,rfl,hr⟩:=dP HS.out hlt hx;obtain⟨g',u',rfl,hg',rfl,hr'⟩:=dP HS'.out hlt hx;have hlb:(q:Int)<(l.length:Int):=by omega
   have c1:wr.cell? ⟨g,q,none⟩=some (bs l[q]):=by have:=hr 0 _ rfl;rwa [nk,jZ]at this
   have c2:wr.cell? ⟨g',q,none⟩=some (bs l[q]):=by have:=hr' 0 _ rfl;rwa [nk,jZ]at this
   clear hr hr' hx;go_wp2_with fail;refine Xk.reg 9 (Xk.w0 λp=>?_);go_wp2_with fail;go_roundw
   case rel=>exact⟨q+1,by omega,by go_num,Xk.Ext.trans HX.out (Xk.cm _ _)⟩
   case measure=>simp[intOf];omega
  ·have hlb:¬ (q:Int)<(l.length:Int):=by omega
   go_wp2_with fail;go_ret;exact⟨rfl,HX.out⟩
def wU:P12.E->List P12.E
 | .una _ a => [a]
 | .call _ a => [a]
 | .bin _ a b => [a,b]
 | _ => []
theorem aF.parts(e:P12.E):∃ (kd op k i:Int) (s t n:P12.T),∀ (S:Nat->Prop) (w:World) (l:List Value),aF S w e l->∃v,l=au kd op k i s t n v/\aH S w 10 (ez S w) (wU e) v:=by
 cases e with
 | none=>exact⟨_,_,_,_,_,_,_,λS w l h=>⟨_,h,aH.nil _ _ _ _⟩⟩
 | val k i s=>exact⟨_,_,_,_,_,_,_,λS w l h=>⟨_,h,aH.nil _ _ _ _⟩⟩
 | col t n=>exact⟨_,_,_,_,_,_,_,λS w l h=>⟨_,h,aH.nil _ _ _ _⟩⟩
 | all=>exact⟨_,_,_,_,_,_,_,λS w l h=>⟨_,h,aH.nil _ _ _ _⟩⟩
 | una op a=>exact⟨3,op,0,0,[],[],[],λS w l h=>by
   unfold aF at h;obtain⟨g,u,hg,rfl,hr,hl,he⟩:=h;exact⟨_,rfl,BZ hg hr hl he⟩⟩
 | call op a=>exact⟨5,op,0,0,[],[],[],λS w l h=>by
   unfold aF at h;obtain⟨g,u,hg,rfl,hr,hl,he⟩:=h;exact⟨_,rfl,BZ hg hr hl he⟩⟩
 | bin op a b=>exact⟨4,op,0,0,[],[],[],λS w l h=>by
   unfold aF at h;obtain⟨g,u,v,hg,rfl,hr,hl,hl2,he,he2⟩:=h;exact⟨_,rfl,Jw hg hr hl hl2 he he2⟩⟩
abbrev B2(e:P12.E):Prop:=∀ (S S':Nat->Prop) (w:World) (l l':List Value),aF S w e l->aF S' w e l'->Calls ab 31 #[.agg l.toArray,.agg l'.toArray] w λe w'=>e = .returned (.bool true)/\Xk.Ext w w'
theorem mD{S S':Nat->Prop}{w:World}{l:List P12.E}{v v':Value}(h:aH S w 10 (ez S w) l v)(h':aH S' w 10 (ez S' w) l v')(hl:l.length≤1000000)(hE:∀e∈l,B2 e):
  Calls ab 30 #[v,v'] w λe w'=>e = .returned (.bool true)/\Xk.Ext w w':=by
 have HS:=aa h;have HS':=aa h';have HE:=aa hE;obtain⟨p,c,rfl⟩:=h.len;obtain⟨p',c',rfl⟩:=h'.len;clear h h' hE;go_enter Tryz.func30,Tryz.ntmps30;go_wp2_with fail;go_loopw [5] (λx wr=>∃q:Nat,q≤l.length/\x = .int .i64 q/\Xk.Ext w wr) (λx _=>l.length-(intOf x).toNat)
 case atStart=>exact⟨0,by omega,rfl,aj _ _⟩
 case round=>
  obtain⟨q,hq,rfl,hx⟩:=hrel;have HX:=aa hx;by_cases hlt:q<l.length
  ·obtain⟨g,u,rfl,hg,hu,hr⟩:=dP HS.out hlt hx;obtain⟨g',u',rfl,hg',hu',hr'⟩:=dP HS'.out hlt hx;have hlb:(q:Int)<(l.length:Int):=by omega
   have HC:=aa λW (hxw:Xk.Ext wr W)=>HE.out _ (cp hlt) S S' W u u' (aF.ik hu (Xk.Ext.trans hx hxw)) (aF.ik hu' (Xk.Ext.trans hx hxw));have hul:=aF.length hu;have hul':=aF.length hu';obtain⟨kd,op,vk,vi,vs,tb,nm,pp,pm,pc,rfl⟩:=aF.form hu;obtain⟨kd',op',vk',vi',vs',tb',nm',pp',pm',pc',rfl⟩:=aF.form hu';have HR:=aa hr;have HR':=aa hr';have hq10:(q:Int)*10=((q*10:Nat):Int):=by omega
   clear hr hr' hx hu hu' hul hul';go_wp2_with fail;refine Xk.reg 9 (Xk.s0 ?_);refine Xk.ld 35 g (q*10) _ aW HR.out (by simpa using hg) ?_;go_simp;refine Xk.s0 ?_;refine Xk.ld 35 g' (q*10) _ aW HR'.out (by simpa using hg') ?_;go_simp;refine Xk.s1 HC.out ?_;refine Xk.bm λp _=>?_;go_wp2_with fail;go_roundw
   case rel=>exact⟨q+1,by omega,by go_num,Xk.Ext.trans HX.out (Xk.cm _ _)⟩
   case measure=>simp[intOf];omega
  ·have hlb:¬ (q:Int)<(l.length:Int):=by omega
   go_wp2_with fail;go_ret;exact⟨rfl,HX.out⟩
theorem Ib(kd op k i:Int)(s t n:P12.T)(p p':Option Addr)(m m' c c':Nat)(w:World)(hA:∀W,Xk.Ext w W->Calls ab 30 #[.slice p m c,.slice p' m' c'] W λe w'=>e = .returned (.bool true)/\Xk.Ext W w'):
  Calls ab 31 #[.agg (au kd op k i s t n (.slice p m c)).toArray,.agg (au kd op k i s t n (.slice p' m' c')).toArray] w λe w'=>e = .returned (.bool true)/\Xk.Ext w w':=by
 have HA:=aa hA;clear hA;go_enter Tryz.func31,Tryz.ntmps31;go_wp2_with fail;refine(HA.out _ Xk.xt).mono ?_;rintro e w' ⟨rfl,hx⟩;go_wp2_with fail;go_ret;exact⟨rfl,Xk.Ext.trans Xk.xt hx⟩
theorem sq(e:P12.E)(h:∀x∈wU e,B2 x):B2 e:=by
 intro S S' w l l' h1 h2;obtain⟨kd,op,k,i,s,t,n,hp⟩:=aF.parts e;obtain⟨v,rfl,hv⟩:=hp _ _ _ h1;obtain⟨v',rfl,hv'⟩:=hp _ _ _ h2;have hl:(wU e).length≤1000000:=by cases e<;>simp[wU]
 have hA:=λW (hx:Xk.Ext w W)=>mD (hv.qt hx) (hv'.qt hx) hl h;obtain⟨p,c,rfl⟩:=hv.len;obtain⟨p',c',rfl⟩:=hv'.len;exact Ib kd op k i s t n p p' _ _ c c' w hA
theorem jH(e:P12.E):B2 e:=by
 induction e with
 | una op a h=>exact sq _ λx hx=>by rw[show x=a by simpa[wU]using hx];exact h
 | call op a h=>exact sq _ λx hx=>by rw[show x=a by simpa[wU]using hx];exact h
 | bin op a b h h'=>
  refine sq _ λx hx=>?_
  ·rcases(show x=a∨x=b by simpa[wU]using hx)with e|e
   ·rw[e];exact h
   ·rw[e];exact h'
 | _=>exact sq _ (by simp[wU])
end Go.Proofs.YtkpmclddjkebeaaGreatDoor
