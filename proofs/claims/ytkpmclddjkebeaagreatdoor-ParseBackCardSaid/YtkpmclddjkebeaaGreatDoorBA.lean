/- What the claim's proof leans on, part 1: walks of functions and plain laws. -/
import GoSem.Op.String
import Derived.Lib.Replace
import Derived.Lib.CountLaws
import Derived.Lib.ItoaNum
import Derived.Lib.Strings
import Derived.Lib.Bytealg
import Derived.Lib.Case
import Derived.Lib.SlTrimSet
import Derived.KernelRfl
import Derived.Lib.Join
set_option linter.unusedSimpArgs false
set_option linter.unusedVariables false
set_option maxRecDepth 100000
set_option maxHeartbeats 8000000
open Bool renaming and_eq_false_iff→fz,and_eq_true→aq,and_true→zj,false_eq_true→aV,false_or→iC,not_eq_true'→dF,or_eq_false_iff→kZ,or_eq_true→dM,or_true→gU
open Classical renaming not_not→zl
open Except renaming ok→dB
open Go.Lib renaming decDigits→bQ,itoa→ee,join→nj,lowerB→qH,upperB→qG
open List renaming all_cons→lT,all_eq_true→bA,append_assoc→aJ,append_nil→zg,cons_append→aL,find?_eq_none→ua,find?_some→pP,foldl_cons→pO,headD_cons→dV,isPrefixOf→cL,length_append→aB,length_cons→aK,length_drop→dh,length_map→cH,length_singleton→cU,map_append→iS,map_cons→fX,map_map→iq,mem_append→ef,mem_append_left→np,mem_cons→aI,mem_cons_of_mem→cO,mem_map→DL,mem_of_find?_eq_some→mq,mem_range→kT,mem_singleton→bW,nil_append→bM,not_mem_nil→aC,range→pL,suffix_cons→gp,suffix_refl→tZ,sum_cons→zf,takeWhile→cX,takeWhile_prefix→im,take_left'→pN,take_succ_cons→aA,zipWith→kS
open Nat renaming add_comm→sv,le_refl→ag,le_trans→bH,mul_le_mul_right→ni,zero_add→fe,zero_le→fP
open Option renaming map_eq_some_iff→fx
open UInt8 renaming le_iff_toNat_le→eT,ofNat→kQ,toNat_inj→ph
namespace P6
open Go.Op (bytesLess)
def isV(k i:Int)(s:List UInt8):Bool:=
 if k=0 then i==0&&s == []else if k=1 then(i==0||i==1)&&s == []else if k=2 then s == []
 else if k=3 then i==0&&decide (s.length≤40) && !s.contains 0 else false
open Go.Lib
def dbl:List UInt8->List UInt8
 | []=> []
 | c::l=>if c=39 then 39::39::dbl l else c::dbl l
theorem tE(b:UInt8)(l:List UInt8):index (b::l) [39]=if b=39 then 0 else if index l [39] = -1 then -1 else index l [39]+1:=by
 rw[index];by_cases h:b=39
 ·subst h;simp[cL]
 ·have:([39]:List UInt8).isPrefixOf (b::l)=false:=by simp[cL];exact λe=>h e.symm
  simp[h,this]
theorem rP:∀s:List UInt8,replaceK [39] [39,39] (count s [39]) s=dbl s
 | []=>rfl
 | b::l=>by
  have ih:=rP l;have hi:=tE b l;by_cases hb:b=39
  ·rw[if_pos hb]at hi;have hi0:index (b::l) [39]=((0:Nat):Int):=hi;rw[count_hit (i:=0) (by simp) hi0,sv 1,replaceK_hit _ _ _ _ 0 hi0,dbl,if_pos hb];simpa using ih
  ·rw[if_neg hb]at hi;rw[dbl,if_neg hb];by_cases hm:index l [39] = -1
   ·rw[if_pos hm]at hi;rw[count_miss hi,replaceK,← ih,count_miss hm,replaceK]
   ·rw[if_neg hm]at hi;have hge:=index_ge l [39];obtain⟨i,hl⟩:=Int.eq_ofNat_of_zero_le (show 0≤index l [39] by omega);have hi':index (b::l) [39]=((i+1:Nat):Int):=by rw[hi,hl];rfl
    rw[count_hit (i:=i+1) (by simp) hi',sv 1,replaceK_hit _ _ _ _ _ hi'];rw[count_hit (i:=i) (by simp) hl,sv 1,replaceK_hit _ _ _ _ _ hl]at ih;rw[← ih];simp
theorem sP(s:List UInt8):replaceAll s [39] [39,39]=dbl s:=by
 unfold replaceAll replace replaceNum;simp only[show(([39]:List UInt8) == [39,39])=false from rfl];simpa using rP s
def quote(s:List UInt8):List UInt8:=39::(dbl s ++ [39])
def fU(k i:Int)(s:List UInt8):List UInt8:=
 if isV k i s then(if k=0 then[78,85,76,76]else if k=1 then(if i=1 then[84,82,85,69]else[70,65,76,83,69])else if k=2 then itoa i else quote s)else[63]
theorem pF:∀s,(dbl s).length≤2*s.length
 | []=>by simp[dbl]
 | c::l=>by have:=pF l;rw[dbl];split<;>simp<;>omega
end P6
namespace P11
open Go.Lib (upperB lowerB)
structure Tok where
 kind:Int
 text:List UInt8
 pos:Nat
def dm(c:UInt8):Bool:=(97≤c&&c≤122)||(65≤c&&c≤90)||c==95
def digit(c:UInt8):Bool:=48≤c&&c≤57
def dq(c:UInt8):Bool:=dm c||digit c
def blank(c:UInt8):Bool:=c==32||c==9||c==10||c==13
def words:List (List UInt8):= [[65,78,68],[65,83],[65,83,67],[66,69,71,73,78],[66,79,79,76],[66,89],[67,72,69,67,75],[67,79,77,77,73,84],[67,79,85,78,84],[67,82,69,65,84,69],[68,69,76,69,84,69],[68,69,83,67],[68,82,79,80],[70,65,76,83,69],[70,82,79,77],[71,82,79,85,80],[73,78,68,69,88],[73,78,83,69,82,84],[73,78,84],[73,78,84,79],[73,83],[74,79,73,78],[75,69,89],[76,73,77,73,84],[77,65,88],[77,73,78],[78,79,84],[78,85,76,76],[79,78],[79,82],[79,82,68,69,82],[80,82,73,77,65,82,89],[82,79,76,76,66,65,67,75],[83,69,76,69,67,84],[83,69,84],[83,85,77],[84,65,66,76,69],[84,69,88,84],[84,82,85,69],[85,78,73,81,85,69],[85,80,68,65,84,69],[86,65,76,85,69,83],[87,72,69,82,69]]
def ga:List (List UInt8):= [[60,62],[60,61],[62,61],[124,124],[40],[41],[44],[46],[42],[61],[60],[62],[43],[45],[47],[37],[59]]
def fb(r:List UInt8):Option (List UInt8):=ga.find? λx=>x.isPrefixOf r
def numOf:List UInt8->List UInt8
 | []=> []
 | [c]=> [c]
 | c::d::l=>if c=48 then numOf (d::l)else c::d::l
def cR:List UInt8->Option (List UInt8×Nat)
 | []=>none
 | [c]=>if c=39 then some ([],1)else none
 | c::d::l=>if c=39 then(if d=39 then(cR l).map λx=>(39::x.1,x.2+2)else some ([],1))else(cR (d::l)).map λx=>(c::x.1,x.2+1)
def jA(r:List UInt8):Nat:=(r.takeWhile (· !=10)).length
def step:List UInt8->(Nat×Option (Int×List UInt8)) ⊕ (Nat×Int)
 | []=> .inr (0,0)
 | c::t=>
  if blank c then .inl (1,none)
  else if[45,45].isPrefixOf (c::t)then .inl (jA (c::t),none)
  else if c=39 then
   match cR t with
   | none => .inr (0,112)
   | some x=>if((c::t).take (x.2+1)).contains 0 then .inr (((c::t).take (x.2+1)).idxOf 0,111)else .inl (x.2+1,some (4,x.1))
  else if dm c then
   let w:=(c::t).takeWhile dq
   .inl (w.length,some (if words.contains (w.map upperB)then(2,w.map upperB)else(1,w.map lowerB)))
  else if digit c then
   let w:=(c::t).takeWhile digit
   .inl (w.length,some (3,numOf w))
  else match fb (c::t)with
   | none => .inr (0,111)
   | some x => .inl (x.length,some (5,x))
def pT(t:Option (Int×List UInt8))(p:Nat)(l:List Tok):List Tok:=
 match t with
 | none=>l
 | some x=>⟨x.1,x.2,p⟩::l
def rJ:Nat->List UInt8->Nat->List Tok ⊕ (Nat×Int)
 | 0,_,_ => .inr (0,0)
 | _+1,[],p => .inl [⟨0,[],p⟩]
 | f+1,c::t,p=>
  match step (c::t)with
  | .inr x => .inr (p+x.1,x.2)
  | .inl x=>match rJ f ((c::t).drop x.1) (p+x.1)with
   | .inr y => .inr y
   | .inl l => .inl (pT x.2 p l)
def toks(r:List UInt8)(p:Nat):List Tok ⊕ (Nat×Int):=rJ (r.length+1) r p
def ff(s:List UInt8):List Tok ⊕ (Nat×Int):=if 4096<s.length then .inr (0,110)else toks s 0
theorem mA:∀ (n:Nat) (l:List UInt8),l.length≤n->∀x,cR l=some x->0<x.2/\x.2≤l.length
 | _,[],_,x,h=>by simp[cR]at h
 | _,[c],_,x,h=>by
  rw[cR]at h;split at h
  ·cases h;simp
  ·cases h
 | 0,_::_::_,hn,_,_=>by simp at hn
 | n+1,c::d::l,hn,x,h=>by
  rw[cR]at h;simp only[aK]at hn;split at h
  ·split at h
   ·obtain⟨y,hy,rfl⟩:=fx.1 h;have:=mA n l (by omega) y hy;simp only[aK];omega
   ·cases h;simp
  ·obtain⟨y,hy,rfl⟩:=fx.1 h;have:=mA n (d::l) (by simp;omega) y hy;simp only[aK]at this ⊢;omega
theorem mM{c:UInt8}(h:dm c=true):dq c=true:=by simp[dq,h]
theorem uB:∀x∈ga,0<x.length:=by decide
theorem sL{r x:List UInt8}(h:fb r=some x):0<x.length/\x.isPrefixOf r=true:=
 ⟨uB x (mq h),by simpa using pP h⟩
theorem step_pos{c:UInt8}{t:List UInt8}{x}(h:step (c::t) = .inl x):0<x.1/\x.1≤(c::t).length:=by
 rw[step]at h;split at h
 ·cases h;simp
 split at h
 ·rename_i h1 h2
  cases h;constructor
  ·unfold jA;have hc:c=45:=by simp[cL]at h2;exact h2.1.symm
   subst hc;simp[cX]
  ·exact(im _).length_le
 split at h
 ·split at h
  ·cases h
  ·rename_i y hy;split at h
   ·cases h
   ·cases h;have:=mA _ t (ag _) y hy;simp only[aK];omega
 split at h
 ·rename_i h4
  cases h;refine⟨?_,(im _).length_le⟩;simp[cX,mM h4]
 split at h
 ·rename_i h5
  cases h;refine⟨?_,(im _).length_le⟩;simp[cX,h5]
 split at h
 ·cases h
 ·rename_i x hx
  cases h;obtain⟨h1,h2⟩:=sL hx;exact⟨h1,(List.isPrefixOf_iff_prefix.1 h2).length_le⟩
theorem sC:∀ (f g:Nat) (r:List UInt8) (p:Nat),r.length<f->r.length<g->rJ f r p=rJ g r p
 | 0,_,_,_,h,_=>by omega
 | _+1,0,_,_,_,h=>by omega
 | f+1,g+1,[],p,_,_=>rfl
 | f+1,g+1,c::t,p,hf,hg=>by
  rw[rJ,rJ]
  cases hs:step (c::t)with
  | inr x=>rfl
  | inl x=>
   have:=step_pos hs;simp only[aK]at hf hg this;have e:=sC f g ((c::t).drop x.1) (p+x.1) (by simp only[dh,aK];omega) (by simp only[dh,aK];omega);simp only[e]
theorem kq(p:Nat):toks [] p = .inl [⟨0,[],p⟩]:=rfl
theorem lU{c:UInt8}{t:List UInt8}{x}(p:Nat)(h:step (c::t) = .inr x):toks (c::t) p = .inr (p+x.1,x.2):=by
 rw[toks,rJ,h]
theorem ji{c:UInt8}{t:List UInt8}{x}(p:Nat)(h:step (c::t) = .inl x):toks (c::t) p=match toks ((c::t).drop x.1) (p+x.1)with
  | .inr y => .inr y
  | .inl l => .inl (pT x.2 p l):=by
 have:=step_pos h;simp only[aK]at this;have e:=sC (c::t).length (((c::t).drop x.1).length+1) ((c::t).drop x.1) (p+x.1) (by simp only[dh,aK];omega) (by omega);rw[toks,rJ,h];simp only[e];rfl
def after(acc:List Tok):List Tok ⊕ (Nat×Int)->List Tok ⊕ (Nat×Int)
 | .inr y => .inr y
 | .inl l => .inl (acc++l)
theorem mn(x):after [] x=x:=by cases x<;>rfl
theorem pK{c:UInt8}{t:List UInt8}{n:Nat}{p:Nat}{acc:List Tok}(h:step (c::t) = .inl (n,none)):after acc (toks (c::t) p)=after acc (toks ((c::t).drop n) (p+n)):=by
 rw[ji p h];dsimp only;cases toks ((c::t).drop n) (p+n)<;>rfl
theorem iI{c:UInt8}{t:List UInt8}{n:Nat}{p:Nat}{k:Int}{u:List UInt8}{acc:List Tok}(h:step (c::t) = .inl (n,some (k,u))):after acc (toks (c::t) p)=after (acc ++ [⟨k,u,p⟩]) (toks ((c::t).drop n) (p+n)):=by
 rw[ji p h];dsimp only;cases toks ((c::t).drop n) (p+n)<;>simp[after,pT]
theorem rz{c:UInt8}{t:List UInt8}{n:Nat}{p:Nat}{e:Int}{acc:List Tok}(h:step (c::t) = .inr (n,e)):after acc (toks (c::t) p) = .inr (p+n,e):=by
 rw[lU p h];rfl
end P11
namespace P11
open Go.Lib (upperB lowerB)
open P6 (dbl)
theorem lF{p:UInt8->Bool}(h:(pL 256).all (λn=>p (kQ n))=true)(c:UInt8):p c=true:=by
 have:=bA.1 h c.toNat (kT.2 c.toNat_lt);simpa using this
theorem zu{p q:UInt8->Bool}(h:(pL 256).all (λn => !p (kQ n)||q (kQ n))=true)(c:UInt8)(hp:p c=true):q c=true:=by
 have:=lF (p:=λc => !p c||q c) h c;simpa[hp]using this
theorem qO(c:UInt8)(x:List UInt8)(h:c≠39):cR (c::x)=(cR x).map λy=>(c::y.1,y.2+1):=by
 cases x with
 | nil=>simp[cR,h]
 | cons d l=>rw[cR,if_neg h]
theorem uv(x:List UInt8):cR (39::39::x)=(cR x).map λy=>(39::y.1,y.2+2):=by
 rw[cR,if_pos rfl,if_pos rfl]
theorem sF(r:List UInt8)(h:r.head?≠some 39):cR (39::r)=some ([],1):=by
 cases r with
 | nil=>rfl
 | cons d l=>rw[cR,if_pos rfl,if_neg (by simpa using h)]
theorem sG(r:List UInt8)(h:r.head?≠some 39):∀s:List UInt8,cR (dbl s++39::r)=some (s,(dbl s).length+1)
 | []=>by simpa[dbl]using sF r h
 | c::s=>by
  rw[dbl];have ih:=sG r h s;split
  ·rename_i hc;subst hc;simp only[aL];rw[uv,ih];simp
  ·rename_i hc;simp only[aL];rw[qO _ _ hc,ih];simp
theorem yK:∀s:List UInt8,(dbl s).contains 0=s.contains 0
 | []=>rfl
 | c::s=>by
  rw[dbl];have ih:=yK s;split
  ·rename_i hc;subst hc;simp_all
  ·simp_all
theorem zD(s r:List UInt8)(h0:s.contains 0=false)(h:r.head?≠some 39):step (39::(dbl s++39::r)) = .inl ((dbl s).length+2,some (4,s)):=by
 rw[step,if_neg (by decide),if_neg (by simp[cL]),if_pos rfl,sG r h s]
 have e:(39::(dbl s++39::r)).take ((dbl s).length+1+1)=39::(dbl s ++ [39]):=by
  rw[aA,show dbl s++39::r=(dbl s ++ [39])++r by simp,pN (by simp)]
 simp only[e];rw[if_neg];have:=yK s;rw[h0]at this;simp_all
theorem za{c:UInt8}(h:blank c=true)(r:List UInt8)(p:Nat)(acc:List Tok):after acc (toks (c::r) p)=after acc (toks r (p+1)):=
 pK (n:=1) (by rw[step,if_pos h])
def good(x:Int×List UInt8):Prop:=
 (x.1=1/\(∃c l,x.2=c::l/\dm c=true)/\x.2.all dq=true/\x.2.map lowerB=x.2/\words.contains (x.2.map upperB)=false)∨
 (x.1=2/\(∃c l,x.2=c::l/\dm c=true)/\x.2.all dq=true/\x.2.map upperB=x.2/\words.contains x.2=true)∨
 (x.1=3/\x.2 ≠ []/\x.2.all digit=true/\numOf x.2=x.2)∨(x.1=4/\x.2.contains 0=false)∨(x.1=5/\x.2∈ga)
def pr(x:Int×List UInt8):List UInt8:=if x.1=4 then P6.quote x.2 else x.2
theorem C4(c:UInt8):dm (upperB c)=dm c:=by simpa using lF (p:=λc=>dm (upperB c)==dm c) (by decide +kernel) c
theorem C5(c:UInt8):dm (lowerB c)=dm c:=by simpa using lF (p:=λc=>dm (lowerB c)==dm c) (by decide +kernel) c
theorem Gk(c:UInt8):dq (upperB c)=dq c:=by simpa using lF (p:=λc=>dq (upperB c)==dq c) (by decide +kernel) c
theorem Gl(c:UInt8):dq (lowerB c)=dq c:=by simpa using lF (p:=λc=>dq (lowerB c)==dq c) (by decide +kernel) c
theorem KS(c:UInt8):upperB (upperB c)=upperB c:=by simpa using lF (p:=λc=>upperB (upperB c)==upperB c) (by decide +kernel) c
theorem lo_lo(c:UInt8):lowerB (lowerB c)=lowerB c:=by simpa using lF (p:=λc=>lowerB (lowerB c)==lowerB c) (by decide +kernel) c
theorem KT(c:UInt8):upperB (lowerB c)=upperB c:=by simpa using lF (p:=λc=>upperB (lowerB c)==upperB c) (by decide +kernel) c
theorem fJ(p:UInt8->Bool):∀l:List UInt8,(l.takeWhile p).all p=true
 | []=>rfl
 | c::l=>by
  rw[cX];split
  ·rename_i h;simp only[lT,h,Bool.true_and];exact fJ p l
  ·rfl
theorem oU(p:UInt8->Bool)(d:UInt8)(r:List UInt8)(hd:p d=false):∀l:List UInt8,l.all p=true->(l++d::r).takeWhile p=l
 | [],_=>by simp[cX,hd]
 | c::l,h=>by
  simp only[lT,aq]at h;rw[aL,cX,h.1];simp only;rw[oU p d r hd l h.2]
theorem sY:∀l:List UInt8,numOf (numOf l)=numOf l
 | []=>rfl
 | [c]=>rfl
 | c::d::l=>by
  rw[numOf];split
  ·exact sY (d::l)
  ·rename_i h;rw[numOf,if_neg h]
theorem xN:∀l:List UInt8,l ≠ []->numOf l ≠ []
 | [],h=>absurd rfl h
 | [c],_=>by simp[numOf]
 | c::d::l,_=>by
  rw[numOf];split
  ·exact xN (d::l) (by simp)
  ·simp
theorem uL(p:UInt8->Bool):∀l:List UInt8,l.all p=true->(numOf l).all p=true
 | [],_=>rfl
 | [c],h=>h
 | c::d::l,h=>by
  rw[numOf];split
  ·exact uL p (d::l) (by simp only[lT,aq]at h ⊢;exact h.2)
  ·exact h
theorem ny:∀ (n:Nat) (l:List UInt8),l.length≤n->∀x,cR l=some x->(l.take x.2).contains 0=false->x.1.contains 0=false
 | _,[],_,x,h,_=>by simp[cR]at h
 | _,[c],_,x,h,_=>by
  rw[cR]at h;split at h
  ·cases h;rfl
  ·cases h
 | 0,_::_::_,hn,_,_,_=>by simp at hn
 | n+1,c::d::l,hn,x,h,h0=>by
  rw[cR]at h;simp only[aK]at hn;split at h
  ·split at h
   ·obtain⟨y,hy,rfl⟩:=fx.1 h;dsimp only at h0 ⊢;rw[aA,aA]at h0;have:=ny n l (by omega) y hy (by simp_all);simp_all
   ·cases h;rfl
  ·obtain⟨y,hy,rfl⟩:=fx.1 h;dsimp only at h0 ⊢;rw[aA]at h0;have:=ny n (d::l) (by simp;omega) y hy (by simp_all);simp_all
theorem Bz{f:UInt8->UInt8}{p:UInt8->Bool}(h:∀c,p (f c)=p c)(l:List UInt8):(l.map f).all p=l.all p:=by
 rw[List.all_map];congr 1;funext c;exact h c
theorem Ch{c:UInt8}{t:List UInt8}{n:Nat}{x:Int×List UInt8}(h:step (c::t) = .inl (n,some x)):good x:=by
 rw[step]at h;split at h
 ·cases h
 split at h
 ·cases h
 split at h
 ·split at h
  ·cases h
  ·rename_i y hy;split at h
   ·cases h
   ·rename_i h0
    cases h;refine .inr (.inr (.inr (.inl ⟨rfl,?_⟩)));rw[aA]at h0;exact ny _ t (ag _) y hy (by simp_all)
 split at h
 ·rename_i h4;have ha:=fJ dq (c::t);have hh:∃c' l,(c::t).takeWhile dq=c'::l/\dm c'=true:=⟨c,t.takeWhile dq,by rw[cX,mM h4],h4⟩;generalize (c::t).takeWhile dq=w at *
  obtain⟨c',l,rfl,hl⟩:=hh;dsimp only at h;split at h
  ·rename_i hw
   cases h;exact .inr (.inl ⟨rfl,⟨_,_,rfl,by rw[C4];exact hl⟩,by dsimp only;rw[Bz Gk];exact ha,by simp[KS],hw⟩)
  ·rename_i hw
   cases h;refine .inl ⟨rfl,⟨_,_,rfl,by rw[C5];exact hl⟩,by dsimp only;rw[Bz Gl];exact ha,by simp[lo_lo],?_⟩;dsimp only;rw[iq,show upperB∘lowerB=upperB from funext KT];simpa using hw
 split at h
 ·rename_i h5;have ha:=fJ digit (c::t);have hh:(c::t).takeWhile digit ≠ []:=by simp[cX,h5]
  cases h;exact .inr (.inr (.inl ⟨rfl,xN _ hh,uL _ _ ha,sY _⟩))
 split at h
 ·cases h
 ·rename_i y hy
  cases h;exact .inr (.inr (.inr (.inr ⟨rfl,mq hy⟩)))
theorem mL(c:UInt8)(h:dm c=true):(!blank c&&c !=45&&c !=39)=true:=zu (p:=dm) (q:=λc => !blank c&&c !=45&&c !=39) (by decide +kernel) c h
theorem nS(c:UInt8)(h:digit c=true):(!blank c&&c !=45&&c !=39 && !dm c)=true:=zu (p:=digit) (q:=λc => !blank c&&c !=45&&c !=39 && !dm c) (by decide +kernel) c h
theorem Ik{x:Int×List UInt8}(h:good x):∃c l,pr x=c::l:=by
 obtain⟨k,u⟩:=x;rcases h with⟨rfl,⟨c,l,rfl,_⟩,_⟩|⟨rfl,⟨c,l,rfl,_⟩,_⟩|⟨rfl,hh,_⟩|⟨rfl,h0⟩|⟨rfl,hs⟩
 ·exact⟨c,l,rfl⟩
 ·exact⟨c,l,rfl⟩
 ·cases u with
  | nil=>exact absurd rfl hh
  | cons c l=>exact⟨c,l,rfl⟩
 ·exact⟨_,_,rfl⟩
 ·have:=uB u hs
  cases u with
  | nil=>simp at this
  | cons c l=>exact⟨c,l,rfl⟩
def kt(t:Tok):Int×List UInt8:=(t.kind,t.text)
theorem od:∀ (n:Nat) (r:List UInt8) (p:Nat) (l:List Tok),r.length≤n->toks r p = .inl l->∃l',l=l' ++ [⟨0,[],p+r.length⟩]/\∀t∈l',good (kt t)
 | _,[],p,l,_,h=>by rw[kq]at h;cases h;exact⟨[],rfl,λt ht=>by cases ht⟩
 | 0,_::_,_,_,hn,_=>by simp at hn
 | n+1,c::t,p,l,hn,h=>by
  cases hs:step (c::t)with
  | inr x=>rw[lU p hs]at h;cases h
  | inl x=>
   have hp:=step_pos hs;rw[ji p hs]at h
   cases hr:toks ((c::t).drop x.1) (p+x.1)with
   | inr y=>simp only[hr]at h;cases h
   | inl m=>
    simp only[hr,Sum.inl.injEq]at h;obtain⟨l',rfl,hg⟩:=od n _ _ _ (by simp only[dh,aK]at hn hp ⊢;omega) hr;have e:p+x.1+((c::t).drop x.1).length=p+(c::t).length:=by rw[dh];omega
    rw[e]at h;obtain⟨k,o⟩:=x
    cases o with
    | none=>exact⟨l',by rw[← h];rfl,hg⟩
    | some y=>
     refine⟨⟨y.1,y.2,p⟩::l',by rw[← h];rfl,λt' ht'=>?_⟩;rcases aI.1 ht' with rfl|h'
     ·exact Ch hs
     ·exact hg t' h'
def written(l:List (Int×List UInt8)):List UInt8:=(l.map λx=>pr x ++ [32]).flatten
end P11
namespace P12
open P11 (Tok)
abbrev T:=List UInt8
inductive E where
 | none
 | val (k i:Int) (s:T)
 | col (t n:T)
 | una (op:Int) (a:E)
 | bin (op:Int) (a b:E)
 | call (op:Int) (a:E)
 | all
structure R where
 l:List Tok
 deep:Nat
abbrev Er:=Nat×Int
def nxt(r:R):Tok:=r.l.headD ⟨0,[],0⟩
def bj{α:Type}(e:Int)(r:R):Except Er α := .error ((nxt r).pos,e)
def ax(r:R):R:=if(nxt r).kind=0 then r else⟨r.l.tail,r.deep⟩
def isT(s:T)(r:R):Bool:=((nxt r).kind==2||(nxt r).kind==5)&&(nxt r).text==s
def has(s:T)(r:R):Bool×R:=if isT s r then(true,ax r)else(false,r)
def bc(s:T)(r:R):Except Er R:=if isT s r then .ok (ax r)else bj 120 r
def name(r:R):Except Er (T×R):=if(nxt r).kind≠1 then bj 120 r else if 24<(nxt r).text.length then bj 124 r else .ok ((nxt r).text,ax r)
def maybe(r:R):Except Er (T×R):=if(nxt r).kind≠1 then .ok ([],r)else name r
def named(r:R):Bool:=(nxt r).kind==1&&decide ((nxt r).text.length≤24)
def opens(r:R):Except Er R:=if r.deep=100 then bj 121 r else .ok ⟨r.l,r.deep+1⟩
def fc(r:R):R:=⟨r.l,r.deep-1⟩
def dec(s:T):Nat:=s.foldl (λa c=>10*a+(c.toNat-48)) 0
def int(most:Nat)(r:R):Except Er (Nat×R):=if most<dec (nxt r).text then bj 123 r else .ok (dec (nxt r).text,ax r)
def eO{α:Type}(most:Nat)(could:R->Bool)(read:R->Except Er (α×R)):Nat->Nat->R->Except Er (List α×R)
 | 0,_,r=>bj 120 r
 | f+1,n,r=>
  if most<n+1&&could r then bj 122 r else
  match read r with
  | .error e => .error e
  | .ok (x,r)=>
   if isT [44] r then
    match eO most could read f (n+1) (ax r)with
    | .error e => .error e
    | .ok (xs,r)=> .ok (x::xs,r)
   else .ok ([x],r)
def nQ(s:T):Option Int:=if s = [67,79,85,78,84]then some 20 else if s = [83,85,77]then some 21 else if s = [77,73,78]then some 22 else if s = [77,65,88]then some 23 else none
def dI(r:R):Bool:=
 let t:=nxt r
 if t.kind=1 then named r else if t.kind=3 then decide (dec t.text≤9223372036854775807)else if t.kind=4 then true
 else if t.kind=5 then t.text == [40]||t.text == [45]
 else if t.kind=2 then(nQ t.text).isSome||t.text == [78,79,84]||t.text == [78,85,76,76]||t.text == [84,82,85,69]||t.text == [70,65,76,83,69]else false
def within{α:Type}(read:R->Except Er (α×R))(r:R):Except Er (α×R):=
 if isT [40] r=false then bj 120 r else
 match opens r with
 | .error e => .error e
 | .ok r=>
  match read (ax r)with
  | .error e => .error e
  | .ok (x,r)=>
   match bc [41] r with
   | .error e => .error e
   | .ok r => .ok (x,fc r)
def column(r:R):Except Er (E×R):=
 match name r with
 | .error e => .error e
 | .ok (a,r)=>
  if isT [46] r then
   match name (ax r)with
   | .error e => .error e
   | .ok (b,r)=> .ok (.col a b,r)
  else .ok (.col [] a,r)
def en(ex:R->Except Er (E×R))(op:Int)(r:R):Except Er ((Bool×E)×R):=
 if op=20/\isT [42] r=true then .ok ((true,E.none),ax r)else
 match ex r with
 | .error e => .error e
 | .ok (a,r)=> .ok ((false,a),r)
def call(ex:R->Except Er (E×R))(op:Int)(r:R):Except Er (E×R):=
 match within (en ex op) r with
 | .error e => .error e
 | .ok ((all,a),r)=> .ok (if all then .all else .call op a,r)
def dZ(ex:R->Except Er (E×R))(r:R):Except Er (E×R):=
 let t:=nxt r
 if t.kind=3 then
  match int 9223372036854775807 r with
  | .error e => .error e
  | .ok (n,r)=> .ok (E.val 2 n [],r)
 else if t.kind=4 then(if 40<t.text.length then bj 122 r else .ok (E.val 3 0 t.text,ax r))
 else if t.kind=1 then column r
 else if isT [40] r then within ex r
 else if t.kind=2 then
  match nQ t.text with
  | some op=>call ex op (ax r)
  | none=>
   if t.text = [78,85,76,76]then .ok (E.val 0 0 [],ax r)
   else if t.text = [84,82,85,69]then .ok (E.val 1 1 [],ax r)
   else if t.text = [70,65,76,83,69]then .ok (E.val 1 0 [],ax r)
   else bj 120 r
 else bj 120 r
def dS(ex:R->Except Er (E×R)):Nat->R->Except Er (E×R)
 | 0,r=>bj 120 r
 | f+1,r=>
  if isT [45] r=false then dZ ex r else
  if(nxt ⟨r.l.tail,r.deep⟩).kind=3 then
   match int 9223372036854775808 (ax r)with
   | .error e => .error e
   | .ok (n,r)=> .ok (E.val 2 (-(n:Int)) [],r)
  else
   match opens r with
   | .error e => .error e
   | .ok r=>
    match dS ex f (ax r)with
    | .error e => .error e
    | .ok (a,r)=> .ok (E.una 16 a,fc r)
def kY(part:R->Except Er (E×R))(ops:List (T×Int)):Nat->E->R->Except Er (E×R)
 | 0,_,r=>bj 120 r
 | f+1,e,r=>
  match ops.find? λo=>isT o.1 r with
  | none => .ok (e,r)
  | some o=>
   match part (ax r)with
   | .error x => .error x
   | .ok (b,r)=>kY part ops f (E.bin o.2 e b) r
def binary(part:R->Except Er (E×R))(ops:List (T×Int))(r:R):Except Er (E×R):=
 match part r with
 | .error e => .error e
 | .ok (a,r)=>kY part ops r.l.length a r
def re:List (T×Int):= [([42],11),([47],12),([37],13)]
def rA:List (T×Int):= [([43],9),([45],10),([124,124],14)]
def kP:List (T×Int):= [([61],3),([60,62],4),([60],5),([60,61],6),([62],7),([62,61],8)]
def test(sum:R->Except Er (E×R))(r:R):Except Er (E×R):=
 match sum r with
 | .error e => .error e
 | .ok (a,r)=>
  match kP.find? λo=>isT o.1 r with
  | some o=>
   match sum (ax r)with
   | .error e => .error e
   | .ok (b,r)=> .ok (E.bin o.2 a b,r)
  | none=>
   if isT [73,83] r=false then .ok (a,r)else
   let n:=has [78,79,84] (ax r)
   match bc [78,85,76,76] n.2 with
   | .error e => .error e
   | .ok r => .ok (E.una (if n.1 then 18 else 17) a,r)
def lH(tst:R->Except Er (E×R)):Nat->R->Except Er (E×R)
 | 0,r=>bj 120 r
 | f+1,r=>
  if isT [78,79,84] r=false then tst r else
  match opens r with
  | .error e => .error e
  | .ok r=>
   match lH tst f (ax r)with
   | .error e => .error e
   | .ok (a,r)=> .ok (E.una 15 a,fc r)
def sW:List (T×Int):= [([79,82],1)]
def ry:List (T×Int):= [([65,78,68],2)]
def sS(ex:R->Except Er (E×R))(f:Nat):R->Except Er (E×R):=binary (dS ex f) re
def GL(ex:R->Except Er (E×R))(f:Nat):R->Except Er (E×R):=binary (sS ex f) rA
def oS(ex:R->Except Er (E×R))(f:Nat):R->Except Er (E×R):=test (GL ex f)
def Jk(ex:R->Except Er (E×R))(f:Nat):R->Except Er (E×R):=binary (lH (oS ex f) f) ry
def eG:Nat->R->Except Er (E×R)
 | 0,r=>bj 120 r
 | f+1,r=>binary (Jk (eG f) (f+1)) sW r
def expr(r:R):Except Er (E×R):=eG 101 r
structure Tb where
 name:T := []
 cols:List (T×Int×Bool):= []
 keys:List Bool := []
 checks:List E := []
structure St where
 kind:Int:=0
 tb:Tb := {}
 keyCols:List (List T):= []
 name:T := []
 on:T := []
 unique:Bool:=false
 cols:List T := []
 rows:List (List E):= []
 sets:List (T×E):= []
 wher:E:=E.none
 items:List (Bool×E×T):= []
 frm:List (T×T):= []
 join:E:=E.none
 group:List E := []
 order:List (E×Bool):= []
 limit:Int:=0
def made(k:Int):St := { kind:=k,limit:=if k=8 then -1 else 0 }
def names(r:R):Except Er (List T×R):=do
 let r ← bc [40] r
 let(l,r) ← eO 16 named name r.l.length 0 r
 let r ← bc [41] r
 return (l,r)
def bJ(r:R):Bool:=isT [80,82,73,77,65,82,89] r||isT [85,78,73,81,85,69] r||isT [67,72,69,67,75] r
abbrev Con:=Sum E (Bool×List T)
def jB(r:R):Except Er R:=if(has [80,82,73,77,65,82,89] r).1 then bc [75,69,89] (has [80,82,73,77,65,82,89] r).2 else bc [85,78,73,81,85,69] (has [80,82,73,77,65,82,89] r).2
def dv(c:T)(r:R):Except Er (List T×R):=if c = []then names r else .ok ([c],r)
def ie(n:Nat)(c:T)(r:R):Except Er (Con×R):=
 if 16<n+1&&bJ r then bj 122 r else
 if isT [67,72,69,67,75] r then
  match within expr (ax r)with
  | .error e => .error e
  | .ok (e,r)=> .ok (.inl e,r)
 else
  match jB r with
  | .error e => .error e
  | .ok r1=>
   match dv c r1 with
   | .error e => .error e
   | .ok (l,r2)=> .ok (.inr ((has [80,82,73,77,65,82,89] r).1,l),r2)
def gS(t:Tb):Con->Tb
 | .inl e => { t with checks:=t.checks ++ [e] }
 | .inr (p,_)=> { t with keys:=t.keys ++ [p] }
def jX(k:List (List T)):Con->List (List T)
 | .inl _=>k
 | .inr (_,l)=>k ++ [l]
def typeOf(r:R):Except Er (Int×R):=
 if isT [66,79,79,76] r then .ok (1,ax r)else if isT [73,78,84] r then .ok (2,ax r)else if isT [84,69,88,84] r then .ok (3,ax r)else bj 120 r
def eP(c:T):Nat->Tb->List (List T)->Nat->Bool->R->Except Er ((Tb×List (List T)×Nat×Bool)×R)
 | 0,_,_,_,_,r=>bj 120 r
 | f+1,t,k,n,nn,r=>
  if isT [78,79,84] r then
   match bc [78,85,76,76] (ax r)with
   | .error e => .error e
   | .ok r=>eP c f t k n true r
  else if bJ r then
   match ie n c r with
   | .error e => .error e
   | .ok (o,r2)=>eP c f (gS t o) (jX k o) (n+1) (nn||isT [80,82,73,77,65,82,89] r) r2
  else .ok ((t,k,n,nn),r)
def part(t:Tb)(k:List (List T))(n:Nat)(r:R):Except Er ((Tb×List (List T)×Nat)×R):=
 if bJ r then
  match ie n [] r with
  | .error e => .error e
  | .ok (o,r)=> .ok ((gS t o,jX k o,n+1),r)
 else if 16<n+1&&named r then bj 122 r else
  match name r with
  | .error e => .error e
  | .ok (c,r)=>
   match typeOf r with
   | .error e => .error e
   | .ok (ty,r)=>
    match eP c r.l.length t k (n+1) false r with
    | .error e => .error e
    | .ok ((t,k,n,nn),r)=> .ok (({ t with cols:=t.cols ++ [(c,ty,nn)] },k,n),r)
def gf:Nat->Tb->List (List T)->Nat->R->Except Er ((Tb×List (List T))×R)
 | 0,_,_,_,r=>bj 120 r
 | f+1,t,k,n,r=>
  match part t k n r with
  | .error e => .error e
  | .ok ((t,k,n),r)=>if isT [44] r then gf f t k n (ax r)else .ok ((t,k),r)
def create(r:R):Except Er (St×R):=
 if isT [84,65,66,76,69] r then do
  let(t,r) ← name (ax r)
  let r ← bc [40] r
  let((t,k),r) ← gf r.l.length { name:=t } [] 0 r
  let r ← bc [41] r
  return ({ made 1 with tb:=t,keyCols:=k },r)
 else
  let u:=has [85,78,73,81,85,69] r
  if u.1||isT [73,78,68,69,88] u.2 then do
   let r ← bc [73,78,68,69,88] u.2
   let(a,r) ← name r
   let r ← bc [79,78] r
   let(b,r) ← name r
   let(l,r) ← names r
   return ({ made 3 with unique:=u.1,name:=a,on:=b,cols:=l },r)
  else bj 120 r
def drop(r:R):Except Er (St×R):=do
 let h:=has [84,65,66,76,69] r
 let r ← if h.1 then .ok h.2 else bc [73,78,68,69,88] h.2
 let(a,r) ← name r
 return ({ made (if h.1 then 2 else 4)with name:=a },r)
def exprs{α:Type}(read:R->Except Er (α×R))(r:R):Except Er (List α×R):=eO 16 dI read r.l.length 0 r
def eB(r:R):Except Er (List E×R):=do
 let r ← bc [40] r
 let(l,r) ← exprs expr r
 let r ← bc [41] r
 return (l,r)
def wher(r:R):Except Er (E×R):=if isT [87,72,69,82,69] r then expr (ax r)else .ok (E.none,r)
def insert(r:R):Except Er (St×R):=do
 let r ← bc [73,78,84,79] r
 let(a,r) ← name r
 let(l,r) ← if isT [40] r then names r else .ok ([],r)
 let r ← bc [86,65,76,85,69,83] r
 let(rows,r) ← eO 32 (isT [40]) eB r.l.length 0 r
 return ({ made 5 with name:=a,cols:=l,rows:=rows },r)
def setOf(r:R):Except Er ((T×E)×R):=do
 let(a,r) ← name r
 let r ← bc [61] r
 let(e,r) ← expr r
 return ((a,e),r)
def update(r:R):Except Er (St×R):=do
 let(a,r) ← name r
 let r ← bc [83,69,84] r
 let(l,r) ← eO 16 named setOf r.l.length 0 r
 let(e,r) ← wher r
 return ({ made 6 with name:=a,sets:=l,wher:=e },r)
def ia(r:R):Except Er (St×R):=do
 let r ← bc [70,82,79,77] r
 let(a,r) ← name r
 let(e,r) ← wher r
 return ({ made 7 with name:=a,wher:=e },r)
def item(r:R):Except Er ((Bool×E×T)×R):=
 if isT [42] r then .ok ((true,E.none,[]),ax r)else do
  let(e,r) ← expr r
  if isT [65,83] r then do
   let(a,r) ← name (ax r)
   return ((false,e,a),r)
  else return ((false,e,[]),r)
def source(r:R):Except Er ((T×T)×R):=do
 let(a,r) ← name r
 let(b,r) ← maybe r
 return ((a,b),r)
def fs(r:R):Except Er ((E×Bool)×R):=do
 let(e,r) ← expr r
 let d:=has [68,69,83,67] r
 return ((e,d.1),if d.1 then d.2 else(has [65,83,67] d.2).2)
def gH(r:R):Except Er (St×R):=do
 let(items,r) ← eO 16 (λr=>isT [42] r||dI r) item r.l.length 0 r
 let r ← bc [70,82,79,77] r
 let(s,r) ← source r
 let((frm,join),r) ← if isT [74,79,73,78] r then(do
   let(s2,r) ← source (ax r)
   let r ← bc [79,78] r
   let(e,r) ← expr r
   return (([s,s2],e),r))else .ok (([s],E.none),r)
 let(w,r) ← wher r
 let(group,r) ← if isT [71,82,79,85,80] r then(do
   let r ← bc [66,89] (ax r)
   eO 16 named column r.l.length 0 r)else .ok ([],r)
 let(order,r) ← if isT [79,82,68,69,82] r then(do
   let r ← bc [66,89] (ax r)
   exprs fs r)else .ok ([],r)
 let(limit,r) ← if isT [76,73,77,73,84] r then(if(nxt (ax r)).kind≠3 then bj 120 (ax r)else do
   let(n,r) ← int 9223372036854775807 (ax r)
   return ((n:Int),r))else .ok (-1,r)
 return ({ made 8 with items:=items,frm:=frm,join:=join,wher:=w,group:=group,order:=order,limit:=limit },r)
def cG(r:R):Except Er (St×R):=
 if isT [67,82,69,65,84,69] r&&(nxt r).kind==2 then create (ax r)
 else if isT [68,82,79,80] r&&(nxt r).kind==2 then drop (ax r)
 else if isT [73,78,83,69,82,84] r&&(nxt r).kind==2 then insert (ax r)
 else if isT [85,80,68,65,84,69] r&&(nxt r).kind==2 then update (ax r)
 else if isT [68,69,76,69,84,69] r&&(nxt r).kind==2 then ia (ax r)
 else if isT [83,69,76,69,67,84] r&&(nxt r).kind==2 then gH (ax r)
 else if isT [66,69,71,73,78] r then .ok (made 9,ax r)
 else if isT [67,79,77,77,73,84] r then .ok (made 10,ax r)
 else if isT [82,79,76,76,66,65,67,75] r then .ok (made 11,ax r)
 else bj 120 r
def fV(l:List Tok):Except Er St:=do
 let(x,r) ← cG ⟨l,0⟩
 let r:=(has [59] r).2
 if(nxt r).kind≠0 then bj 120 r else return x
def parse(s:T):Except Er St:=match P11.ff s with
 | .inr (a,k)=> .error (a,k)
 | .inl l=>fV l
end P12
namespace P11
open P6 (dbl)
theorem pq:∀ (n:Nat) (l:List UInt8),l.length≤n->∀x,cR l=some x->x.1.length≤x.2
 | _,[],_,x,h=>by simp[cR]at h
 | _,[c],_,x,h=>by
  rw[cR]at h;split at h
  ·cases h;simp
  ·cases h
 | 0,_::_::_,hn,_,_=>by simp at hn
 | n+1,c::d::l,hn,x,h=>by
  rw[cR]at h;simp only[aK]at hn;split at h
  ·split at h
   ·obtain⟨y,hy,rfl⟩:=fx.1 h;have:=pq n l (by omega) y hy;simp only[aK];omega
   ·cases h;simp
  ·obtain⟨y,hy,rfl⟩:=fx.1 h;have:=pq n (d::l) (by simp;omega) y hy;simp only[aK]at this ⊢;omega
theorem uK:∀l:List UInt8,(numOf l).length≤l.length
 | []=>by simp[numOf]
 | [c]=>by simp[numOf]
 | c::d::l=>by
  rw[numOf];split
  ·have:=uK (d::l);simp only[aK]at this ⊢;omega
  ·exact ag _
theorem D6{c:UInt8}{t:List UInt8}{n:Nat}{x:Int×List UInt8}(h:step (c::t) = .inl (n,some x)):x.2.length≤n:=by
 rw[step]at h;split at h
 ·cases h
 split at h
 ·cases h
 split at h
 ·split at h
  ·cases h
  ·rename_i y hy;split at h
   ·cases h
   ·cases h;have:=pq _ t (ag _) y hy;dsimp only;omega
 split at h
 ·cases h;split
  ·simp
  ·simp
 split at h
 ·cases h;exact uK _
 split at h
 ·cases h
 ·cases h;exact ag _
def A8(l:List Tok):Nat:=(l.map λt=>t.text.length+1).sum
theorem qN:∀ (n:Nat) (r:List UInt8) (p:Nat) (l:List Tok),r.length≤n->toks r p = .inl l->A8 l≤2*r.length+1
 | _,[],p,l,_,h=>by rw[kq]at h;cases h;simp[A8]
 | 0,_::_,_,_,hn,_=>by simp at hn
 | n+1,c::t,p,l,hn,h=>by
  cases hs:step (c::t)with
  | inr x=>rw[lU p hs]at h;cases h
  | inl x=>
   have hp:=step_pos hs;rw[ji p hs]at h
   cases hr:toks ((c::t).drop x.1) (p+x.1)with
   | inr y=>simp only[hr]at h;cases h
   | inl m=>
    simp only[hr,Sum.inl.injEq]at h;have ih:=qN n _ _ _ (by simp only[dh,aK]at hn hp ⊢;omega) hr;rw[dh]at ih;obtain⟨k,o⟩:=x
    cases o with
    | none=>subst h;dsimp only[pT]at hp ih ⊢;omega
    | some y=>
     have:=D6 hs;subst h;simp only[pT,A8,fX,zf]at ih ⊢;dsimp only at hp ih;omega
theorem sd(l:List Tok):l.length≤A8 l:=by
 induction l with
 | nil=>simp
 | cons t l ih=>simp only[A8,fX,zf,aK]at ih ⊢;omega
theorem Jg{l:List Tok}{t:Tok}(h:t∈l):t.text.length<A8 l:=by
 induction l with
 | nil=>cases h
 | cons x l ih=>
  simp only[A8,fX,zf]at ih ⊢;rcases aI.1 h with rfl|h
  ·omega
  ·have:=ih h;omega
theorem Ci{c:UInt8}{t:List UInt8}{x:Nat×Int}(h:step (c::t) = .inr x):x.2=111∨x.2=112:=by
 rw[step]at h;split at h
 ·cases h
 split at h
 ·cases h
 split at h
 ·split at h
  ·cases h;exact .inr rfl
  ·split at h
   ·cases h;exact .inl rfl
   ·cases h
 split at h
 ·cases h
 split at h
 ·cases h
 split at h
 ·cases h;exact .inl rfl
 ·cases h
theorem uu:∀ (n:Nat) (r:List UInt8) (p:Nat) (x:Nat×Int),r.length≤n->toks r p = .inr x->x.2=111∨x.2=112
 | _,[],p,x,_,h=>by rw[kq]at h;cases h
 | 0,_::_,_,_,hn,_=>by simp at hn
 | n+1,c::t,p,x,hn,h=>by
  cases hs:step (c::t)with
  | inr y=>rw[lU p hs]at h;cases h;exact Ci (x:=y) hs
  | inl y=>
   have hp:=step_pos hs;rw[ji p hs]at h
   cases hr:toks ((c::t).drop y.1) (p+y.1)with
   | inr z=>
    simp only[hr,Sum.inr.injEq]at h;subst h;exact uu n _ _ _ (by simp only[dh,aK]at hn hp ⊢;omega) hr
   | inl m=>simp only[hr]at h;cases h
theorem At{s:List UInt8}{x:Nat×Int}(h:ff s = .inr x):x.2≠0:=by
 unfold ff at h;split at h
 ·cases h;decide
 ·rcases uu _ s 0 x (ag _) h with e|e<;>rw[e]<;>decide
end P11
namespace P12
open P11 (Tok)
structure GD(t:Tok):Prop where
 kind:0≤t.kind/\t.kind≤5
 len:t.text.length≤8193
 name:t.kind=1->t.text ≠ []
 digits:t.kind=3->t.text ≠ []/\∀c∈t.text,48≤c.toNat/\c.toNat≤57
structure Good(r:R):Prop where
 ends:∃a e,r.l=a ++ [e]/\e.kind=0
 toks:∀t∈r.l,GD t
 deep:r.deep≤100
 len:r.l.length≤8193
structure bT(r r':R):Prop where
 suf:r'.l <:+ r.l
 deep:r'.deep=r.deep
theorem bT.refl(r:R):bT r r:=⟨tZ _,rfl⟩
theorem bT.trans{a b c:R}(h:bT a b)(k:bT b c):bT a c:=⟨k.suf.trans h.suf,k.deep.trans h.deep⟩
theorem bT.le{a b:R}(h:bT a b):b.l.length≤a.l.length:=h.suf.length_le
theorem Good.head{r:R}(h:Good r):∃t l,r.l=t::l/\nxt r=t:=by
 obtain⟨a,e,h1,-⟩:=h.ends
 cases hl:r.l with
 | nil=>rw[hl]at h1;cases a<;>cases h1
 | cons t l=>exact⟨t,l,rfl,by simp[nxt,hl]⟩
theorem Good.pos{r:R}(h:Good r):0<r.l.length:=by
 obtain⟨t,l,h1,-⟩:=h.head;rw[h1];simp
theorem Good.py{r:R}(h:Good r):GD (nxt r):=by
 obtain⟨t,l,h1,h2⟩:=h.head;rw[h2];exact h.toks t (by rw[h1];simp)
theorem vJ{r:R}(h:Good r):r.l[0]?=some (nxt r):=by
 obtain⟨t,l,h1,h2⟩:=h.head;rw[h1,h2];rfl
theorem dC{r:R}(h:(nxt r).kind≠0):ax r=⟨r.l.tail,r.deep⟩:=by rw[ax,if_neg h]
theorem oe{r:R}(h:(nxt r).kind=0):ax r=r:=by rw[ax,if_pos h]
theorem aX(r:R):bT r (ax r):=by
 unfold ax;split
 ·exact bT.refl r
 ·exact⟨List.tail_suffix _,rfl⟩
theorem uw{r:R}(h:Good r)(hk:(nxt r).kind≠0):∃a e,r.l.tail=a ++ [e]/\e.kind=0:=by
 obtain⟨a,e,h1,h2⟩:=h.ends
 cases a with
 | nil=>
  exfalso;apply hk
  simp[nxt,h1,h2]
 | cons t a=>exact⟨a,e,by rw[h1];rfl,h2⟩
theorem Good.ax{r:R}(h:Good r):Good (ax r):=by
 by_cases hk:(nxt r).kind=0
 ·rwa [oe hk]
 ·rw[dC hk];exact⟨uw h hk,λt ht=>h.toks t (List.mem_of_mem_tail ht),h.deep,bH (by simp) h.len⟩
theorem Good.wR{r:R}(h:Good r)(hk:(nxt r).kind≠0):1<r.l.length:=by
 obtain⟨a,e,h1,-⟩:=uw h hk;have:r.l.tail.length=r.l.length-1:=by simp
 have h2:0<r.l.tail.length:=by rw[h1];simp
 omega
theorem nz{r:R}(h:Good r)(hk:(nxt r).kind≠0):(P12.ax r).l.length+1=r.l.length:=by
 rw[dC hk];have:=h.pos;simp;omega
theorem kK{s:T}{r:R}(h:isT s r=true):(nxt r).kind≠0:=by
 intro hk;simp[isT,hk]at h
theorem qm{s:T}{r:R}(h:isT s r=true):(nxt r).text=s:=by
 simp[isT]at h;exact h.2
theorem zy{t:Tok}(h:P11.good (P11.kt t))(hl:t.text.length≤8193):GD t:=by
 rcases h with⟨h1,⟨c,l,h2,-⟩,-⟩|⟨h1,-⟩|⟨h1,h2,h3,-⟩|⟨h1,-⟩|⟨h1,-⟩
 ·simp only[P11.kt]at h1 h2;exact⟨by omega,hl,λ_=>by rw[h2];simp,λh=>by omega⟩
 ·simp only[P11.kt]at h1;exact⟨by omega,hl,λh=>by omega,λh=>by omega⟩
 ·simp only[P11.kt]at h1 h2 h3;refine⟨by omega,hl,λh=>by omega,λ_=>⟨h2,λc hc=>?_⟩⟩;have:=bA.1 h3 c hc;simp only[P11.digit,aq,decide_eq_true_eq,eT]at this;exact this
 ·simp only[P11.kt]at h1;exact⟨by omega,hl,λh=>by omega,λh=>by omega⟩
 ·simp only[P11.kt]at h1;exact⟨by omega,hl,λh=>by omega,λh=>by omega⟩
theorem As{s:List UInt8}{l:List Tok}(h:P11.ff s = .inl l):Good ⟨l,0⟩:=by
 unfold P11.ff at h;split at h
 ·cases h
 ·rename_i hs;have hb:=P11.qN _ s 0 l (ag _) h;obtain⟨l',rfl,hg⟩:=P11.od _ s 0 l (ag _) h;refine⟨⟨l',_,rfl,rfl⟩,λt ht=>?_,fP _,?_⟩
  ·have hlt:=P11.Jg ht;rcases ef.1 ht with ht|ht
   ·exact zy (hg t ht) (by simp only[fe]at hb hlt ⊢;omega)
   ·simp only[bW]at ht;subst ht;exact⟨⟨Int.le_refl 0,(by decide:(0:Int)≤5)⟩,by simp,λh=>absurd h (by simp),λh=>absurd h (by simp)⟩
  ·have:=P11.sd (l' ++ [⟨0,[],0+s.length⟩]);show(l' ++ [_]).length≤8193
   omega
end P12
namespace P12
open P11 (words)
def kE(i:Nat)(c:UInt8):Bool:=c==95||(97≤c&&c≤122)||(48≤c&&c≤57&&i !=0)
def nK:Nat->T->Bool
 | _,[]=>true
 | i,c::l=>kE i c&&nK (i+1) l
def isName(s:T):Bool:=s != []&&decide (s.length≤24) && !words.contains (s.map qG)&&nK 0 s
def cf(s:T):Bool:=s == []||isName s
def isE:E->Bool
 | .none=>false
 | .val k i s=>P6.isV k i s&&decide (-9223372036854775808≤i)&&decide (i≤9223372036854775807)
 | .col t n=>isName n&&cf t
 | .una op a=>decide (15≤op)&&decide (op≤18)&&isE a
 | .bin op a b=>decide (1≤op)&&decide (op≤14)&&isE a&&isE b
 | .call op a=>decide (20≤op)&&decide (op≤23)&&isE a
 | .all=>true
def noE:E->Bool
 | .none=>true
 | _=>false
def eW(e:E):Bool:=noE e||isE e
def some{α:Type}(l:List α)(most:Nat)(p:α->Bool):Bool:=decide (1≤l.length)&&decide (l.length≤most)&&l.all p
def tD:E->Bool
 | .col t n=>isE (.col t n)
 | _=>false
def oV(t:Tb)(k:List (List T)):Bool:=
 isName t.name&&decide (1≤t.cols.length+t.keys.length+t.checks.length)&&decide (t.cols.length+t.keys.length+t.checks.length≤16)&&k.length==t.keys.length &&
  k.all (λl=>some l 16 isName)&&t.checks.all isE&&t.cols.all (λc=>isName c.1&&decide (1≤c.2.1)&&decide (c.2.1≤3))
def iF(x:Bool×E×T):Bool:=if x.1 then noE x.2.1&&x.2.2 == []else isE x.2.1&&cf x.2.2
def nG(x:St):Bool:=
 some x.items 16 iF&&some x.frm 2 (λs=>isName s.1&&cf s.2)&&eW x.wher&&(if x.frm.length=2 then isE x.join else noE x.join) &&
  decide (x.group.length≤16)&&x.group.all tD&&decide (x.order.length≤16)&&x.order.all (λo=>isE o.1)&&decide (-1≤x.limit)&&decide (x.limit≤9223372036854775807)
def eF(x:St):St:=
 if x.kind=1 then { kind:=1,tb:=x.tb,keyCols:=x.keyCols }
 else if x.kind=3 then { kind:=3,name:=x.name,on:=x.on,unique:=x.unique,cols:=x.cols }
 else if x.kind=5 then { kind:=5,name:=x.name,cols:=x.cols,rows:=x.rows }
 else if x.kind=6 then { kind:=6,name:=x.name,sets:=x.sets,wher:=x.wher }
 else if x.kind=7 then { kind:=7,name:=x.name,wher:=x.wher }
 else if x.kind=8 then { kind:=8,items:=x.items,frm:=x.frm,join:=x.join,wher:=x.wher,group:=x.group,order:=x.order,limit:=x.limit }
 else if x.kind=2∨x.kind=4 then { kind:=x.kind,name:=x.name }
 else { kind:=x.kind }
def isS(x:St):Prop:=
 x=eF x/\((x.kind=1/\oV x.tb x.keyCols=true)∨(x.kind=2/\isName x.name=true)∨(x.kind=4/\isName x.name=true)∨
  (x.kind=3/\isName x.name=true/\isName x.on=true/\some x.cols 16 isName=true)∨
  (x.kind=5/\isName x.name=true/\(x.cols = []∨some x.cols 16 isName=true)/\some x.rows 32 (λl=>some l 16 isE)=true)∨
  (x.kind=6/\isName x.name=true/\some x.sets 16 (λs=>isName s.1&&isE s.2)=true/\eW x.wher=true)∨
  (x.kind=7/\isName x.name=true/\eW x.wher=true)∨(x.kind=8/\nG x=true)∨x.kind=9∨x.kind=10∨x.kind=11)
def fb(op:Int):T:=
 if op=1 then[79,82]else if op=2 then[65,78,68]else if op=3 then[61]else if op=4 then[60,62]else if op=5 then[60]else if op=6 then[60,61]else if op=7 then[62]else if op=8 then[62,61]
 else if op=9 then[43]else if op=10 then[45]else if op=11 then[42]else if op=12 then[47]else if op=13 then[37]else if op=14 then[124,124]else[]
def closed(op:Int):E->Bool
 | .una _ _=>true
 | .bin _ _ _=>true
 | .val k _ _=>op==16&&k==2
 | _=>false
def mO(b:Bool)(t:T):T:=if b then[40]++t ++ [41]else t
def eL(op:Int):T:=if op=20 then[67,79,85,78,84]else if op=21 then[83,85,77]else if op=22 then[77,73,78]else if op=23 then[77,65,88]else[]
def text:E->T
 | .none => []
 | .val k i s=>P6.fU k i s
 | .col t n=>if t = []then n else t ++ [46]++n
 | .bin op a b=>mO (closed op a) (text a)++ [32]++fb op ++ [32]++mO (closed op b) (text b)
 | .una op a=>
  if op=15 then[78,79,84,32]++mO (closed op a) (text a)else if op=16 then[45,32]++mO (closed op a) (text a)
  else if op=17 then mO (closed op a) (text a)++ [32,73,83,32,78,85,76,76]else mO (closed op a) (text a)++ [32,73,83,32,78,79,84,32,78,85,76,76]
 | .all => [67,79,85,78,84,40,42,41]
 | .call op a=>eL op ++ [40]++text a ++ [41]
def join(l:List T):T:=nj l [44,32]
def fB(ty:Int):T:=if ty=1 then[66,79,79,76]else if ty=2 then[73,78,84]else if ty=3 then[84,69,88,84]else[]
def dT(c:T×Int×Bool):T:=c.1 ++ [32]++fB c.2.1++(if c.2.2 then[32,78,79,84,32,78,85,76,76]else[])
def fR(p:Bool)(l:List T):T:=(if p then[80,82,73,77,65,82,89,32,75,69,89]else[85,78,73,81,85,69])++ [32,40]++join l ++ [41]
def k9(t:Tb)(k:List (List T)):T:=
 [67,82,69,65,84,69,32,84,65,66,76,69,32]++t.name ++ [32,40]++join (t.cols.map dT++(kS fR t.keys k)++t.checks.map (λe => [67,72,69,67,75,32,40]++text e ++ [41]))++ [41]
def dG(e:E):T:=if noE e then[]else[32,87,72,69,82,69,32]++text e
def ey(x:Bool×E×T):T:=if x.1 then[42]else if x.2.2 = []then text x.2.1 else text x.2.1 ++ [32,65,83,32]++x.2.2
def eR(s:T×T):T:=if s.2 = []then s.1 else s.1 ++ [32]++s.2
def ft(o:E×Bool):T:=if o.2 then text o.1 ++ [32,68,69,83,67]else text o.1
def fq(x:St):T:=
 [83,69,76,69,67,84,32]++join (x.items.map ey)++ [32,70,82,79,77,32]++eR (x.frm.headD ([],[]))++
  (if x.frm.length≤1 then[]else[32,74,79,73,78,32]++eR (x.frm.tail.headD ([],[]))++ [32,79,78,32]++text x.join)++dG x.wher ++
  (if x.group = []then[]else[32,71,82,79,85,80,32,66,89,32]++join (x.group.map text))++(if x.order = []then[]else[32,79,82,68,69,82,32,66,89,32]++join (x.order.map ft))++
  (if x.limit<0 then[]else[32,76,73,77,73,84,32]++ee x.limit)
def fF(l:List T):T:=if l = []then[]else[32,40]++join l ++ [41]
def iz(l:List E):T := [40]++join (l.map text)++ [41]
def gX(s:T×E):T:=s.1 ++ [32,61,32]++text s.2
def print(x:St):T:=
 if x.kind=1 then k9 x.tb x.keyCols
 else if x.kind=2 then[68,82,79,80,32,84,65,66,76,69,32]++x.name
 else if x.kind=3 then(if x.unique then[67,82,69,65,84,69,32,85,78,73,81,85,69,32,73,78,68,69,88,32]else[67,82,69,65,84,69,32,73,78,68,69,88,32])++x.name ++ [32,79,78,32]++x.on++fF x.cols
 else if x.kind=4 then[68,82,79,80,32,73,78,68,69,88,32]++x.name
 else if x.kind=5 then[73,78,83,69,82,84,32,73,78,84,79,32]++x.name++fF x.cols ++ [32,86,65,76,85,69,83,32]++join (x.rows.map iz)
 else if x.kind=6 then[85,80,68,65,84,69,32]++x.name ++ [32,83,69,84,32]++join (x.sets.map gX)++dG x.wher
 else if x.kind=7 then[68,69,76,69,84,69,32,70,82,79,77,32]++x.name++dG x.wher
 else if x.kind=8 then fq x
 else if x.kind=9 then[66,69,71,73,78]else if x.kind=10 then[67,79,77,77,73,84]else[82,79,76,76,66,65,67,75]
end P12
namespace P12
def IE:T := [115,101,108,101,99,116,32,97,46,120,43,49,32,97,115,32,121,32,102,114,111,109,32,116,32,97,32,119,104,101,114,101,32,110,111,116,32,120,32,61,32,39,98,39,32,108,105,109,105,116,32,51]
def BF:T := [83,69,76,69,67,84,32,97,46,120,32,43,32,49,32,65,83,32,121,32,70,82,79,77,32,116,32,97,32,87,72,69,82,69,32,78,79,84,32,40,120,32,61,32,39,98,39,41,32,76,73,77,73,84,32,51]
def ID:T := [83,69,76,69,67,84,32,49,32,61,32,50,32,61,32,51,32,70,82,79,77,32,116]
def pB:St := { kind:=8,items := [(false,.bin 9 (.col [97] [120]) (.val 2 1 []),[121])],frm := [([116],[97])],wher := .una 15 (.bin 3 (.col [] [120]) (.val 3 0 [98])),limit:=3 }
theorem Kc:parse IE = .ok pB:=by rfl
theorem tB(n:Int)(h:0≤n)(h2:n<10):ee n = [48+kQ n.toNat]:=by
 have:n=0∨n=1∨n=2∨n=3∨n=4∨n=5∨n=6∨n=7∨n=8∨n=9:=by omega
 rcases this with rfl|rfl|rfl|rfl|rfl|rfl|rfl|rfl|rfl|rfl<;>(unfold ee bQ;rfl)
theorem E8:print pB=BF:=by
 have h1:text (.val 2 1 []) = [49]:=by unfold text P6.fU;rw[if_pos (by rfl)];simp[tB]
 have h2:text (.val 3 0 [98]) = [39,98,39]:=by rfl
 have h3:ee 3 = [51]:=tB 3 (by decide) (by decide)
 have e1:text (.bin 9 (.col [97] [120]) (.val 2 1 [])) = [97,46,120,32,43,32,49]:=by
  rw[text,h1];rfl
 have e2:text (.una 15 (.bin 3 (.col [] [120]) (.val 3 0 [98]))) = [78,79,84,32,40,120,32,61,32,39,98,39,41]:=by
  rw[text,text,h2];rfl
 simp[print,pB,fq,ey,join,nj,eR,dG,noE,e1,e2,h3,BF,List.intercalate]
theorem Kb:parse ID = .error (13,120):=by rfl
end P12
namespace P12
open P11 (Tok toks after)
end P12
namespace P12
open P11 (Tok toks after digit numOf)
open Go.Lib (itoa decDigits)
theorem Dl{c:UInt8}(h:digit c=true):c=48∨c=49∨c=50∨c=51∨c=52∨c=53∨c=54∨c=55∨c=56∨c=57:=by
 simp only[digit,aq,decide_eq_true_eq,eT]at h;have h2:48≤c.toNat/\c.toNat≤57:=h;have:c.toNat=48∨c.toNat=49∨c.toNat=50∨c.toNat=51∨c.toNat=52∨c.toNat=53∨c.toNat=54∨c.toNat=55∨c.toNat=56∨c.toNat=57:=by omega
 have hb:∀n:UInt8,c.toNat=n.toNat->c=n:=λn h=>ph.1 h;rcases this with e|e|e|e|e|e|e|e|e|e
 ·exact .inl (hb 48 e)
 ·exact .inr (.inl (hb 49 e))
 ·exact .inr (.inr (.inl (hb 50 e)))
 ·exact .inr (.inr (.inr (.inl (hb 51 e))))
 ·exact .inr (.inr (.inr (.inr (.inl (hb 52 e)))))
 ·exact .inr (.inr (.inr (.inr (.inr (.inl (hb 53 e))))))
 ·exact .inr (.inr (.inr (.inr (.inr (.inr (.inl (hb 54 e)))))))
 ·exact .inr (.inr (.inr (.inr (.inr (.inr (.inr (.inl (hb 55 e))))))))
 ·exact .inr (.inr (.inr (.inr (.inr (.inr (.inr (.inr (.inl (hb 56 e)))))))))
 ·exact .inr (.inr (.inr (.inr (.inr (.inr (.inr (.inr (.inr (hb 57 e)))))))))
theorem fJ{α:Type}(p:α->Bool):∀l:List α,(∀c∈l,p c=true)->l.takeWhile p=l
 | [],_=>rfl
 | c::l,h=>by rw[List.takeWhile_cons,if_pos (h c (by simp)),fJ p l λc hc=>h c (by simp[hc])]
theorem FW(l:T)(c:UInt8):dec (l ++ [c])=10*dec l+(c.toNat-48):=by simp[dec]
theorem tO{k:Nat}(h:k<10):(kQ (48+k)).toNat=48+k:=by simp;omega
theorem ix:∀ (n u:Nat),u≤n->dec (decDigits u)=u/\(∀c∈decDigits u,digit c=true)/\(∃c l,decDigits u=c::l/\(0<u->c≠48)/\(l ≠ []->c≠48))
 | n,u,hn=>by
  by_cases h:u<10
  ·rw[decDigits,dif_pos h];have hb:=tO h;refine⟨by simp[dec,hb];omega,λc hc=>?_,_,[],rfl,λh0 e=>?_,λh=>absurd rfl h⟩
   ·simp only[bW]at hc;subst hc;simp only[digit,aq,decide_eq_true_eq,eT,hb];exact⟨by show 48≤_;omega,by show _≤57;omega⟩
   ·rw[e]at hb;have:(48:UInt8).toNat=48:=rfl
    omega
  ·match n,hn with
   | 0,hn=>omega
   | n+1,hn=>
    obtain⟨h1,h2,c,l,h3,h4,h5⟩:=ix n (u / 10) (by omega);have hb:=tO (show u % 10<10 by omega);rw[decDigits,dif_neg h];refine⟨by rw[FW,h1,hb];omega,λx hx=>?_,c,l ++ [kQ (48+u % 10)],by rw[h3];rfl,λ_=>h4 (by omega),λ_=>h4 (by omega)⟩;rcases ef.1 hx with hx|hx
    ·exact h2 x hx
    ·simp only[bW]at hx;subst hx;simp only[digit,aq,decide_eq_true_eq,eT,hb];exact⟨by show 48≤_;omega,by show _≤57;omega⟩
theorem Ah{c:UInt8}{l:T}(h:l ≠ []->c≠48):numOf (c::l)=c::l:=by
 cases l with
 | nil=>rfl
 | cons d l=>rw[numOf,if_neg (h (by simp))]
theorem uU:∀ (l:T) (a:Nat),a*10 ^ l.length≤l.foldl (λa c=>10*a+(c.toNat-48)) a
 | [],a=>by simp
 | c::l,a=>by
  have h:=uU l (10*a+(c.toNat-48));rw[pO];refine bH ?_ h;rw[aK,Nat.pow_succ];have:a*(10 ^ l.length*10)=(10*a)*10 ^ l.length:=by rw[Nat.mul_comm 10 a,Nat.mul_assoc,Nat.mul_comm 10]
  rw[this];exact ni _ (by omega)
theorem gB{u:Nat}(h:u≤9223372036854775808):(decDigits u).length≤40:=by
 by_cases hl:(decDigits u).length≤40
 ·exact hl
 ·exfalso
  obtain⟨h1,h2,c,l,h3,h4,h5⟩:=ix u u (ag _);rw[h3]at hl h1;simp only[aK]at hl;have hc:=h2 c (by rw[h3];simp);have hne:c≠48:=h5 λe=>by rw[e]at hl;simp at hl
  have:48≤c.toNat:=by
   simp only[digit,aq,decide_eq_true_eq,eT]at hc;exact hc.1
  have hn:c.toNat≠48:=λe=>hne (ph.1 e);have h40:=uU l (10*0+(c.toNat-48));have h6:(10:Nat) ^ 20≤10 ^ l.length:=Nat.pow_le_pow_right (by omega) (by omega);have h7:1*10 ^ l.length≤(10*0+(c.toNat-48))*10 ^ l.length:=ni _ (by omega);have h8:dec (c::l)=l.foldl (λa c=>10*a+(c.toNat-48)) (10*0+(c.toNat-48)):=rfl;have:(10:Nat) ^ 20=100000000000000000000:=rfl
  omega
end P12
namespace P12
end P12
namespace P11
end P11
namespace P12
open P11 (Tok)
structure Ends(e:Tok)(x:List Tok):Prop where
 k0:e.kind=0
 hx:∃s l,x=s::l/\s.kind=5/\s.text = [59]
abbrev Gs(ts:List Tok):Prop:=∀t∈ts,P11.good (P11.kt t)
def Lw(e:Tok)(x:List Tok){α:Type}(F F':R->Except Er (α×R))(p:α->Prop):Prop:=
 ∀ (ts:List Tok) (d:Nat) (y:α) (r':R),Gs ts->F ⟨ts ++ [e],d⟩ = .ok (y,r')->p y/\∃ts',ts' <:+ ts/\r'.l=ts' ++ [e]/\F' ⟨ts++x,d⟩ = .ok (y,⟨ts'++x,r'.deep⟩)
def LwN(e:Tok)(x:List Tok)(g:Tok->Prop){α:Type}(F F':R->Except Er (α×R))(p:α->Prop):Prop:=
 ∀ (t:Tok) (ts:List Tok) (d:Nat) (y:α) (r':R),g t->Gs (t::ts)->F ⟨t::(ts ++ [e]),d⟩ = .ok (y,r')->p y/\∃ts',ts' <:+ t::ts/\r'.l=ts' ++ [e]/\F' ⟨t::(ts++x),d⟩ = .ok (y,⟨ts'++x,r'.deep⟩)
def LwR(e:Tok)(x:List Tok)(F:R->Except Er R):Prop:=
 ∀ (ts:List Tok) (d:Nat) (r':R),Gs ts->F ⟨ts ++ [e],d⟩ = .ok r'->∃ts',ts' <:+ ts/\r'.l=ts' ++ [e]/\F ⟨ts++x,d⟩ = .ok ⟨ts'++x,r'.deep⟩
section
variable {e : Tok} {x : List Tok} {α β : Type} {F F' : R → Except Er (α × R)} {p : α → Prop} {q : β → Prop} {g : Tok → Prop}
theorem Gs.suf{a b:List Tok}(h:Gs b)(hs:a <:+ b):Gs a:=λt ht=>h t (hs.subset ht)
theorem Lw.N(h:Lw e x F F' p):LwN e x g F F' p:=λt ts d y r' _ hg hf=>h (t::ts) d y r' hg hf
theorem LwN.ax(hg:∀t,g t->t.kind≠0)(h:Lw e x F F' p):LwN e x g (λr=>F (ax r)) (λr=>F' (ax r)) p:=λt ts d y r' ht hG hf=>by
 have e1:∀u,P12.ax ⟨t::u,d⟩=⟨u,d⟩:=λu=>by rw[dC (by exact hg t ht)];rfl
 simp only[e1]at hf ⊢;obtain⟨h1,ts',h2,h3⟩:=h ts d y r' (λa ha=>hG a (by simp[ha])) hf;exact⟨h1,ts',h2.trans (gp ..),h3⟩
theorem Lw.bj{c:Int}:Lw e x (λr=>bj c r) F' p:=λts d y r' _ h=>by cases h
theorem Lw.ret{a:α}(h:p a):Lw e x (λr => .ok (a,r)) (λr => .ok (a,r)) p:=λts d y r' _ hf=>by
 cases hf;exact⟨h,ts,tZ _,rfl,rfl⟩
theorem Lw.fc{a:α}(h:p a):Lw e x (λr => .ok (a,fc r)) (λr => .ok (a,fc r)) p:=λts d y r' _ hf=>by
 cases hf;exact⟨h,ts,tZ _,rfl,rfl⟩
theorem LwN.ui{a:α}(hg:∀t,g t->t.kind≠0)(h:p a):LwN e x g (λr => .ok (a,P12.ax r)) (λr => .ok (a,P12.ax r)) p:=LwN.ax (F:=λr => .ok (a,r)) (F':=λr => .ok (a,r)) hg (Lw.ret h)
theorem Lw.bind{K K':α×R->Except Er (β×R)}(hF:Lw e x F F' p)(hK:∀a,p a->Lw e x (λr=>K (a,r)) (λr=>K' (a,r)) q):Lw e x (λr=>F r >>= K) (λr=>F' r >>= K') q:=λts d y r' hG hf=>by
 cases hF1:F ⟨ts ++ [e],d⟩with
 | error er=>simp only[hF1]at hf;cases hf
 | ok z=>
  obtain⟨a,l1,d1⟩:=z;simp only[hF1]at hf;obtain⟨h1,ts1,h2,rfl,h4⟩:=hF ts d a _ hG hF1;obtain⟨g1,ts2,g2,g3,g4⟩:=hK a h1 ts1 d1 y r' (hG.suf h2) hf;refine⟨g1,ts2,g2.trans h2,g3,?_⟩;simp only[h4];exact g4
theorem LwN.bind{K K':α×R->Except Er (β×R)}(hF:LwN e x g F F' p)(hK:∀a,p a->Lw e x (λr=>K (a,r)) (λr=>K' (a,r)) q):LwN e x g (λr=>F r >>= K) (λr=>F' r >>= K') q:=λt ts d y r' hg hG hf=>by
 cases hF1:F ⟨t::(ts ++ [e]),d⟩with
 | error er=>simp only[hF1]at hf;cases hf
 | ok z=>
  obtain⟨a,l1,d1⟩:=z;simp only[hF1]at hf;obtain⟨h1,ts1,h2,rfl,h4⟩:=hF t ts d a _ hg hG hF1;obtain⟨g1,ts2,g2,g3,g4⟩:=hK a h1 ts1 d1 y r' (hG.suf h2) hf;refine⟨g1,ts2,g2.trans h2,g3,?_⟩;simp only[h4];exact g4
theorem Lw.fN{H:R->Except Er R}{G G':R->Except Er (β×R)}(hF:LwR e x H)(hG2:Lw e x G G' q):Lw e x (λr=>H r >>= G) (λr=>H r >>= G') q:=λts d y r' hG hf=>by
 cases hF1:H ⟨ts ++ [e],d⟩with
 | error er=>simp only[hF1]at hf;cases hf
 | ok z=>
  obtain⟨l1,d1⟩:=z;simp only[hF1]at hf;obtain⟨ts1,h2,rfl,h4⟩:=hF ts d _ hG hF1;obtain⟨g1,ts2,g2,g3,g4⟩:=hG2 ts1 d1 y r' (hG.suf h2) hf;refine⟨g1,ts2,g2.trans h2,g3,?_⟩;simp only[h4];exact g4
theorem LwN.opens{G G':R->Except Er (β×R)}(h:LwN e x g G G' q):LwN e x g (λr=>opens r >>= G) (λr=>P12.opens r >>= G') q:=λt ts d y r' hg hG hf=>by
 by_cases hd:d=100
 ·subst hd;cases hf
 ·have e1:∀u,P12.opens ⟨u,d⟩ = .ok ⟨u,d+1⟩:=λu=>by unfold P12.opens;rw[if_neg (show ¬ d=100 from hd)]
  simp only[e1]at hf ⊢;exact h t ts (d+1) y r' hg hG hf
theorem gJ(hE:Ends e x){s:T}(hs:s ≠ [59])(d:Nat):isT s ⟨[e],d⟩=false/\isT s ⟨x,d⟩=false:=by
 obtain⟨k0,a,l,rfl,h1,h2⟩:=hE;refine⟨by simp[isT,nxt,k0],?_⟩;simp only[isT,nxt,dV,h1,h2,fz,beq_eq_false_iff_ne];exact .inr λe=>hs e.symm
abbrev isW(s:T)(t:Tok):Prop:=(t.kind=2∨t.kind=5)/\t.text=s
theorem isW.k{s:T}(t:Tok)(h:isW s t):t.kind≠0:=by rcases h.1 with h|h<;>rw[h]<;>decide
theorem nN(s:T)(t:Tok)(l:List Tok)(d:Nat):isT s ⟨t::l,d⟩=true↔isW s t:=by simp[isT,nxt]
def One(e:Tok)(x:List Tok)(c:R->Bool)(g g':Tok->Prop):Prop:=
 (∀d,c ⟨[e],d⟩=false/\c ⟨x,d⟩=false)/\∀t l d,(c ⟨t::l,d⟩=true->g t)/\(c ⟨t::l,d⟩=false->g' t)/\∀l',c ⟨t::l',d⟩=c ⟨t::l,d⟩
theorem Lw.cond{A A' B B':R->Except Er (α×R)}{c:R->Bool}{g g':Tok->Prop}(hc:One e x c g g')(hA:LwN e x g A A' p)(hB0:Lw e x B B' p):Lw e x (λr=>if c r=true then A r else B r) (λr=>if c r=true then A' r else B' r) p:=λts d y r' hG hf=>by
 cases ts with
 | nil=>
  simp only[bM,(hc.1 d).1,(hc.1 d).2]at hf ⊢;exact hB0 [] d y r' hG hf
 | cons t ts=>
  obtain⟨h1,h2,h3⟩:=hc.2 t (ts ++ [e]) d;simp only[aL,h3 (ts++x)]at hf ⊢
  cases hb:c ⟨t::(ts ++ [e]),d⟩with
  | true=>simp only[hb,if_true]at hf ⊢;exact hA t ts d y r' (h1 hb) hG hf
  | false=>simp only[hb]at hf ⊢;exact hB0 (t::ts) d y r' hG hf
theorem JT(hE:Ends e x){s:T}(hs:s ≠ [59]):One e x (isT s) (isW s) (λ_=>True):=
 ⟨λd=>gJ hE hs d,λt l d=>⟨(nN s t l d).1,λ_=>trivial,λ_=>rfl⟩⟩
theorem EK(hE:Ends e x)(k:Int)(h0:k≠0)(h5:k≠5):One e x (λr=>decide ((nxt r).kind=k)) (λt=>t.kind=k) (λ_=>True):=by
 obtain⟨k0,a,l,rfl,h1,h2⟩:=hE;refine⟨λd=>⟨?_,?_⟩,λt l d=>⟨λh=>of_decide_eq_true h,λ_=>trivial,λ_=>rfl⟩⟩
 ·simp only[nxt,dV,k0,decide_eq_false_iff_not];exact λe=>h0 e.symm
 ·simp only[nxt,dV,h1,decide_eq_false_iff_not];exact λe=>h5 e.symm
theorem Lw.isT(hE:Ends e x){s:T}{A A' B B':R->Except Er (α×R)}(hs:s ≠ [59])(hA:LwN e x (isW s) A A' p)(hB:Lw e x B B' p):Lw e x (λr=>if isT s r=true then A r else B r) (λr=>if P12.isT s r=true then A' r else B' r) p:=Lw.cond (JT hE hs) hA hB
theorem Lw.isF(hE:Ends e x){s:T}{A A' B B':R->Except Er (α×R)}(hs:s ≠ [59])(hB:Lw e x B B' p)(hA:LwN e x (isW s) A A' p):Lw e x (λr=>if P12.isT s r=false then B r else A r) (λr=>if P12.isT s r=false then B' r else A' r) p:=by
 have e1:∀A B:R->Except Er (α×R),(λr=>if P12.isT s r=false then B r else A r)=(λr=>if P12.isT s r=true then A r else B r):=λA B=>by funext r;cases P12.isT s r<;>rfl
 rw[e1,e1];exact Lw.isT hE hs hA hB
theorem Lw.kind(hE:Ends e x){k:Int}{A A' B B':R->Except Er (α×R)}(h0:k≠0)(h5:k≠5)(hA:LwN e x (λt=>t.kind=k) A A' p)(hB:Lw e x B B' p):Lw e x (λr=>if(nxt r).kind=k then A r else B r) (λr=>if(nxt r).kind=k then A' r else B' r) p:=by
 have:=Lw.cond (EK hE k h0 h5) hA hB;simp only[decide_eq_true_eq]at this;exact this
theorem LwR.bc(hE:Ends e x){s:T}(hs:s ≠ [59]):LwR e x (bc s):=λts d r' hG hf=>by
 cases ts with
 | nil=>rw[P12.bc,bM,(gJ hE hs d).1]at hf;cases hf
 | cons t ts=>
  unfold P12.bc at hf ⊢;have e1:∀u,P12.isT s ⟨t::u,d⟩=P12.isT s ⟨[t],d⟩:=λ_=>rfl;simp only[aL,e1 (ts++_)]at hf ⊢
  cases hb:P12.isT s ⟨[t],d⟩with
  | false=>simp only[hb]at hf;cases hf
  | true=>
   have hk:=isW.k t ((nN s t [] d).1 hb);have e2:∀u,P12.ax ⟨t::u,d⟩=⟨u,d⟩:=λu=>by rw[dC (by exact hk)];rfl
   simp only[hb,if_true,e2]at hf ⊢
   cases hf;exact⟨ts,gp ..,rfl,rfl⟩
theorem Lw.bc(hE:Ends e x){s:T}(hs:s ≠ [59]){G G':R->Except Er (β×R)}(h:Lw e x G G' q):Lw e x (λr=>bc s r >>= G) (λr=>P12.bc s r >>= G') q:=Lw.fN (LwR.bc hE hs) h
theorem Lw.has(hE:Ends e x){s:T}(hs:s ≠ [59]){K K':Bool×R->Except Er (β×R)}(h1:Lw e x (λr=>K (true,r)) (λr=>K' (true,r)) q)(h2:Lw e x (λr=>K (false,r)) (λr=>K' (false,r)) q):Lw e x (λr=>K (has s r)) (λr=>K' (P12.has s r)) q:=by
 have e1:∀K:Bool×R->Except Er (β×R),(λr=>K (P12.has s r))=λr=>if P12.isT s r=true then K (true,P12.ax r)else K (false,r):=λK=>by funext r;unfold P12.has;cases P12.isT s r<;>rfl
 rw[e1,e1];exact Lw.isT hE hs (LwN.ax isW.k h1) h2
end
theorem Am{s:T}(h:s.all P11.dq=true)(hl:s.map qH=s):∀i,(i=0->∀c l,s=c::l->P11.dm c=true)->nK i s=true:=by
 induction s with
 | nil=>intro _ _;rfl
 | cons c l ih=>
  intro i hi;simp only[lT,aq]at h;simp only[fX,List.cons.injEq]at hl;rw[nK,ih h.2 hl.2 (i+1) (λh=>by omega),zj];have key:=P11.lF (p:=λc => !(P11.dq c&&qH c==c)||(kE 1 c&&(!P11.dm c||kE 0 c))) (by decide +kernel) c;simp only[h.1,hl.1,beq_self_eq_true,Bool.and_self,Bool.not_true,iC,aq,dM,dF]at key
  cases i with
  | zero=>
   have:=hi rfl c l rfl;rcases key.2 with k|k
   ·rw[this]at k;cases k
   ·exact k
  | succ i=>have:=key.1;simpa[kE]using this
theorem Df{t:Tok}(h:P11.good (P11.kt t))(hk:t.kind=1)(hl:t.text.length≤24):isName t.text=true:=by
 rcases h with⟨-,⟨c,l,h2,h3⟩,h4,h5,h6⟩|⟨h1,-⟩|⟨h1,-⟩|⟨h1,-⟩|⟨h1,-⟩
 ·simp only[P11.kt]at h2 h4 h5 h6;have:=Am h4 h5 0 (λ_ c' l' e=>by rw[h2]at e;cases e;exact h3);unfold isName;rw[this,h6,decide_eq_true hl,h2];rfl
 all_goals(simp only[P11.kt]at h1;omega)
section
variable {e : Tok} {x : List Tok} {α β : Type}
theorem fQ(hE:Ends e x):Lw e x name name (λs=>isName s=true):=λts d y r' hG hf=>by
 cases ts with
 | nil=>
  rw[bM,name,if_pos (show(nxt ⟨[e],d⟩).kind≠1 by show ¬ e.kind=1;rw[hE.k0];decide)]at hf;cases hf
 | cons t ts=>
  unfold name at hf ⊢;have e1:∀u,nxt ⟨t::u,d⟩=t:=λ_=>rfl;simp only[aL,e1]at hf ⊢;split at hf
  ·cases hf
  rename_i h1;have h1:t.kind=1:=zl.1 h1;split at hf
  ·cases hf
  rename_i h2;have h0:t.kind≠0:=by rw[h1];decide
  have e2:∀u,ax ⟨t::u,d⟩=⟨u,d⟩:=λu=>by rw[dC (by exact h0)];rfl
  rw[e2]at hf
  cases hf;rw[if_neg (by simp[h1]),if_neg h2,e2];exact⟨Df (hG t (by simp)) h1 (by omega),ts,gp ..,rfl,rfl⟩
theorem EV(hE:Ends e x):Lw e x maybe maybe (λs=>cf s=true):=by
 have e1:maybe=λr=>if(nxt r).kind=1 then name r else .ok ([],r):=by
  funext r;unfold maybe;by_cases h:(nxt r).kind=1<;>simp[h]
 rw[e1];refine Lw.kind hE (by decide) (by decide) (Lw.N λts d y r' hG hf=>?_) (Lw.ret rfl);obtain⟨h1,h2⟩:=fQ hE ts d y r' hG hf;exact⟨by unfold cf;rw[h1,gU],h2⟩
theorem AF(most:Nat){g:Tok->Prop}(hg:∀t,g t->t.kind≠0):LwN e x g (int most) (int most) (λn=>n≤most):=λt ts d y r' ht hG hf=>by
 unfold int at hf ⊢;have e1:∀u,nxt ⟨t::u,d⟩=t:=λ_=>rfl;have e2:∀u,ax ⟨t::u,d⟩=⟨u,d⟩:=λu=>by rw[dC (by exact hg t ht)];rfl
 simp only[e1,e2]at hf ⊢;split at hf
 ·cases hf
 ·rename_i h1
  cases hf;rw[if_neg h1];exact⟨by omega,ts,gp ..,rfl,rfl⟩
theorem l8(most:Nat)(could:R->Bool)(read:R->Except Er (α×R))(f n:Nat):eO most could read (f+1) n=λr=>if(decide (most<n+1)&&could r)=true then bj 122 r else
  (read r >>= λz=>if isT [44] z.2=true then(eO most could read f (n+1) (ax z.2) >>= λw => .ok (z.1::w.1,w.2))else .ok ([z.1],z.2)):=by kernel_rfl
theorem Bv(hE:Ends e x){most:Nat}{could:R->Bool}{read:R->Except Er (α×R)}{p:α->Prop}(hr:Lw e x read read p)(hc:∀ts d,could ⟨ts ++ [e],d⟩=could ⟨ts++x,d⟩)
  (hcr:∀ts d z,Gs ts->read ⟨ts ++ [e],d⟩ = .ok z->could ⟨ts ++ [e],d⟩=true):∀ (f h n:Nat),f≤h->Lw e x (eO most could read f n) (eO most could read h n) (λl=>(∀a∈l,p a)/\1≤l.length/\n+l.length≤most)
 | 0,_,_,_=>λts d y r' _ hf=>by cases hf
 | f+1,0,_,h=>by omega
 | f+1,h+1,n,hfh=>λts d y r' hG hf=>by
  rw[l8]at hf ⊢;dsimp only at hf ⊢;rw[← hc ts d];by_cases hb:(decide (most<n+1)&&could ⟨ts ++ [e],d⟩)=true
  ·rw[if_pos hb]at hf;cases hf
  rw[if_neg hb]at hf ⊢
  have key:Lw e x (λr=>read r >>= λz=>if isT [44] z.2=true then(eO most could read f (n+1) (ax z.2) >>= λw => .ok (z.1::w.1,w.2))else .ok ([z.1],z.2))
    (λr=>read r >>= λz=>if isT [44] z.2=true then(eO most could read h (n+1) (ax z.2) >>= λw => .ok (z.1::w.1,w.2))else .ok ([z.1],z.2)) (λl=>(∀a∈l,p a)/\1≤l.length/\(n+1≤most->n+l.length≤most)):=
   Lw.bind hr λa ha=>by
    refine Lw.isT hE (by decide) (LwN.ax (F:=λr=>eO most could read f (n+1) r >>= λw => .ok (a::w.1,w.2)) (F':=λr=>eO most could read h (n+1) r >>= λw => .ok (a::w.1,w.2)) isW.k ?_) ?_
    ·refine Lw.bind (Bv hE hr hc hcr f h (n+1) (by omega)) λl hl=>Lw.ret (a:=a::l) ?_;exact⟨λb hb=>by rcases aI.1 hb with rfl|hb;exact ha;exact hl.1 b hb,by simp,λ_=>by have:=hl.2.2;simp only[aK];omega⟩
    ·refine Lw.ret (a := [a]) ?_;exact⟨λb hb=>by rw[bW.1 hb];exact ha,by simp,λh=>by simpa using h⟩
  obtain⟨⟨h1,h2,h3⟩,h4⟩:=key ts d y r' hG hf;refine⟨⟨h1,h2,h3 ?_⟩,h4⟩
  have:∃z,read ⟨ts ++ [e],d⟩ = .ok z:=by
   cases hz:read ⟨ts ++ [e],d⟩with
   | error er=>rw[hz]at hf;cases hf
   | ok z=>exact⟨z,rfl⟩
  obtain⟨z,hz⟩:=this;rw[hcr ts d z hG hz]at hb;simp at hb;omega
theorem qW(hE:Ends e x){most:Nat}{could:R->Bool}{read:R->Except Er (α×R)}{p:α->Prop}(hr:Lw e x read read p)(hc:∀ts d,could ⟨ts ++ [e],d⟩=could ⟨ts++x,d⟩)
  (hcr:∀ts d z,Gs ts->read ⟨ts ++ [e],d⟩ = .ok z->could ⟨ts ++ [e],d⟩=true):Lw e x (λr=>eO most could read r.l.length 0 r) (λr=>eO most could read r.l.length 0 r) (λl=>(∀a∈l,p a)/\1≤l.length/\l.length≤most):=λts d y r' hG hf=>by
 obtain⟨⟨h1,h2,h3⟩,h4⟩:=Bv hE hr hc hcr (ts ++ [e]).length (ts++x).length 0 (by obtain⟨-,s,l,rfl,-⟩:=hE;simp) ts d y r' hG hf;exact⟨⟨h1,h2,by omega⟩,h4⟩
theorem nZ(read:R->Except Er (α×R)):within read=λr=>if isT [40] r=false then bj 120 r else opens r >>= λr=>read (ax r) >>= λz=>bc [41] z.2 >>= λr => .ok (z.1,fc r):=by kernel_rfl
theorem qJ(hE:Ends e x){read:R->Except Er (α×R)}{p:α->Prop}(hr:Lw e x read read p):Lw e x (within read) (within read) p:=by
 rw[nZ];refine Lw.isF hE (by decide) Lw.bj (LwN.opens ?_);refine LwN.ax (F:=λr=>read r >>= λz=>bc [41] z.2 >>= λr => .ok (z.1,fc r)) (F':=λr=>read r >>= λz=>bc [41] z.2 >>= λr => .ok (z.1,fc r)) isW.k ?_;exact Lw.bind hr λa ha=>Lw.bc hE (by decide) (Lw.fc ha)
end
end P12
namespace P12
open P11 (Tok)
section
variable {e : Tok} {x : List Tok} {α β : Type} {p : α → Prop} {g : Tok → Prop}
theorem E2(hE:Ends e x)(hg:∀t,g t->t.kind≠0){A A' B B':R->Except Er (α×R)}(hA:LwN e x (λt=>t.kind=3) A A' p)(hB:LwN e x g B B' p):
  LwN e x g (λr=>if(nxt ⟨r.l.tail,r.deep⟩).kind=3 then A (ax r)else B r) (λr=>if(nxt ⟨r.l.tail,r.deep⟩).kind=3 then A' (ax r)else B' r) p:=λt ts d y r' ht hG hf=>by
 have e1:∀u,P12.ax ⟨t::u,d⟩=⟨u,d⟩:=λu=>by rw[dC (by exact hg t ht)];rfl
 simp only[e1,List.tail_cons]at hf ⊢
 cases ts with
 | nil=>
  obtain⟨k0,s,l,rfl,h1,h2⟩:=hE;have c1:¬ (nxt ⟨[]++ [e],d⟩).kind=3:=by show ¬ e.kind=3;rw[k0];decide
  have c2:¬ (nxt ⟨[]++(s::l),d⟩).kind=3:=by show ¬ s.kind=3;rw[h1];decide
  rw[if_neg c1]at hf;rw[if_neg c2];exact hB t [] d y r' ht hG hf
 | cons u ts=>
  by_cases h3:u.kind=3
  ·have c1:∀v,(nxt ⟨u::ts++v,d⟩).kind=3:=λv=>h3;simp only[c1,if_true]at hf ⊢;obtain⟨h1,ts',h2,h4⟩:=hA u ts d y r' h3 (λa ha=>hG a (by simp at ha ⊢;exact .inr ha)) hf;exact⟨h1,ts',h2.trans (gp ..),h4⟩
  ·have c1:∀v,(nxt ⟨u::ts++v,d⟩).kind=3↔False:=λv=>⟨λh=>h3 h,False.elim⟩;simp only[c1,if_false]at hf ⊢;exact hB t (u::ts) d y r' ht hG hf
theorem BB(hE:Ends e x){ops:List (T×Int)}(ho:∀o∈ops,o.1 ≠ [59]){A A':R->Except Er (α×R)}{S S':R->T×Int->Except Er (α×R)}(hA:Lw e x A A' p)(hS:∀o∈ops,LwN e x (λt=>t.kind≠0) (λr=>S r o) (λr=>S' r o) p):
  Lw e x (λr=>(ops.find? λo=>isT o.1 r).elim (A r) (S r)) (λr=>(ops.find? λo=>isT o.1 r).elim (A' r) (S' r)) p:=λts d y r' hG hf=>by
 cases ts with
 | nil=>
  have c1:(ops.find? λo=>isT o.1 ⟨[e],d⟩)=none:=ua.2 λo h=>by rw[(gJ hE (ho o h) d).1];simp
  have c2:(ops.find? λo=>isT o.1 ⟨x,d⟩)=none:=ua.2 λo h=>by rw[(gJ hE (ho o h) d).2];simp
  simp only[bM,c1,c2]at hf ⊢;exact hA [] d y r' hG hf
 | cons t ts=>
  have c1:∀u,(λo:T×Int=>isT o.1 ⟨t::u,d⟩)=λo=>isT o.1 ⟨[t],d⟩:=λ_=>rfl;simp only[aL,c1 (ts++_)]at hf ⊢
  cases hfd:ops.find? (λo=>isT o.1 ⟨[t],d⟩)with
  | none=>simp only[hfd]at hf ⊢;exact hA (t::ts) d y r' hG hf
  | some o=>
   simp only[hfd]at hf ⊢;exact hS o (mq hfd) t ts d y r' (isW.k t ((nN o.1 t [] d).1 (by simpa using pP hfd))) hG hf
end
abbrev okE(a:E):Prop:=isE a=true
section
variable {e : Tok} {x : List Tok}
theorem ki:column=λr=>name r >>= λz=>if isT [46] z.2=true then name (ax z.2) >>= λw => .ok (.col z.1 w.1,w.2)else .ok (.col [] z.1,z.2):=by kernel_rfl
theorem vc(hE:Ends e x):Lw e x column column (λa=>tD a=true):=by
 rw[ki];refine Lw.bind (fQ hE) λa ha=>?_;refine Lw.isT hE (by decide) (LwN.ax (F:=λr=>name r >>= λw => .ok (E.col a w.1,w.2)) (F':=λr=>name r >>= λw => .ok (E.col a w.1,w.2)) isW.k ?_) ?_
 ·refine Lw.bind (fQ hE) λb hb=>Lw.ret (a:=E.col a b) ?_;show(isName b&&cf a)=true
  rw[hb,cf,ha,gU];rfl
 ·refine Lw.ret (a:=E.col [] a) ?_;show(isName a&&cf [])=true
  rw[ha];rfl
theorem qo{a:E}(h:tD a=true):okE a:=by cases a<;>first|exact h|cases h
theorem A7(hE:Ends e x){ex:R->Except Er (E×R)}(h:Lw e x ex ex okE)(op:Int):Lw e x (en ex op) (en ex op) (λz=>z.1=true∨okE z.2):=by
 have h2:Lw e x (λr=>ex r >>= λz => .ok ((false,z.1),z.2)) (λr=>ex r >>= λz => .ok ((false,z.1),z.2)) (λz=>z.1=true∨okE z.2):=Lw.bind h λa ha=>Lw.ret (a:=(false,a)) (.inr ha);by_cases h20:op=20
 ·have e1:en ex op=λr=>if isT [42] r=true then .ok ((true,E.none),ax r)else(ex r >>= λz => .ok ((false,z.1),z.2)):=by
   funext r;unfold en;simp only[h20,true_and];split
   ·rfl
   ·cases ex r<;>rfl
  rw[e1];exact Lw.isT hE (by decide) (LwN.ui isW.k (.inl rfl)) h2
 ·have e1:en ex op=λr=>(ex r >>= λz => .ok ((false,z.1),z.2)):=by
   funext r;unfold en;simp only[h20,false_and,if_false];cases ex r<;>rfl
  rw[e1];exact h2
theorem ss(ex:R->Except Er (E×R))(op:Int):call ex op=λr=>within (en ex op) r >>= λz => .ok (if z.1.1 then E.all else E.call op z.1.2,z.2):=by kernel_rfl
theorem Jf(hE:Ends e x){ex:R->Except Er (E×R)}(h:Lw e x ex ex okE){op:Int}(h1:20≤op)(h2:op≤23):Lw e x (call ex op) (call ex op) okE:=by
 rw[ss];refine Lw.bind (qJ hE (A7 hE h op)) λz hz=>Lw.ret (a:=if z.1 then E.all else E.call op z.2) ?_;obtain⟨b,a⟩:=z
 cases b with
 | true=>rfl
 | false=>
  rcases hz with hz|hz
  ·cases hz
  ·show isE (E.call op a)=true
   simp[isE,h1,h2];exact hz
theorem IX{s:T}{op:Int}(h:nQ s = .some op):20≤op/\op≤23:=by
 unfold nQ at h;repeat' split at h
 all_goals(cases h<;>decide)
theorem eV(ex:R->Except Er (E×R)):dZ ex=λr=>if(nxt r).kind=3 then(int 9223372036854775807 r >>= λz => .ok (E.val 2 z.1 [],z.2))else if(nxt r).kind=4 then(if 40<(nxt r).text.length then bj 122 r else .ok (E.val 3 0 (nxt r).text,ax r))else if(nxt r).kind=1 then column r
  else if isT [40] r then within ex r else if(nxt r).kind=2 then((nQ (nxt r).text).elim (if(nxt r).text = [78,85,76,76]then .ok (E.val 0 0 [],ax r)else if(nxt r).text = [84,82,85,69]then .ok (E.val 1 1 [],ax r)else if(nxt r).text = [70,65,76,83,69]then .ok (E.val 1 0 [],ax r)else bj 120 r)
   (λop=>call ex op (ax r)))else bj 120 r:=by kernel_rfl
theorem zZ(hE:Ends e x){ex:R->Except Er (E×R)}(h:Lw e x ex ex okE):Lw e x (dZ ex) (dZ ex) okE:=by
 rw[eV];refine Lw.kind hE (by decide) (by decide) ?_ (Lw.kind hE (by decide) (by decide) ?_ (Lw.kind hE (by decide) (by decide) ?_ (Lw.isT hE (by decide) ?_ (Lw.kind hE (by decide) (by decide) ?_ Lw.bj))))
 ·refine LwN.bind (AF _ (λt ht=>by rw[ht];decide)) λn hn=>Lw.ret (a:=E.val 2 n []) ?_;have:(n:Int)≤9223372036854775807:=by omega
  have h2:(-9223372036854775808:Int)≤n:=by omega
  simp[okE,isE,P6.isV,this,h2]
 ·intro t ts d y r' ht hG hf;have e1:∀u,nxt ⟨t::u,d⟩=t:=λ_=>rfl;have h0:t.kind≠0:=by rw[ht];decide
  have e2:∀u,ax ⟨t::u,d⟩=⟨u,d⟩:=λu=>by rw[dC (by exact h0)];rfl
  simp only[e1,e2]at hf ⊢;split at hf
  ·cases hf
  ·rename_i h40;rw[if_neg h40]
   cases hf;refine⟨?_,ts,gp ..,rfl,rfl⟩;rcases hG t (by simp)with⟨h1,-⟩|⟨h1,-⟩|⟨h1,-⟩|⟨h1,h2⟩|⟨h1,-⟩
   case inr.inr.inr.inl=>
    simp only[P11.kt]at h2;have:t.text.length≤40:=by omega
    simp[okE,isE,P6.isV,this,h2]at h2 ⊢;exact h2
   all_goals(simp only[P11.kt]at h1;omega)
 ·exact Lw.N λts d y r' hG hf=>by
   obtain⟨h1,h2⟩:=vc hE ts d y r' hG hf;exact⟨qo h1,h2⟩
 ·exact Lw.N (qJ hE h)
 ·intro t ts d y r' ht hG hf;have e1:∀u,nxt ⟨t::u,d⟩=t:=λ_=>rfl;have h0:t.kind≠0:=by rw[ht];decide
  have e2:∀u,ax ⟨t::u,d⟩=⟨u,d⟩:=λu=>by rw[dC (by exact h0)];rfl
  simp only[e1]at hf ⊢
  cases hfn:nQ t.text with
  | some op=>
   obtain⟨o1,o2⟩:=IX hfn;simp only[hfn]at hf ⊢;exact LwN.ax (g:=λt=>t.kind≠0) (λ_ h=>h) (Jf hE h o1 o2) t ts d y r' h0 hG hf
  | none=>
   simp only[hfn,Option.elim,e2]at hf ⊢;repeat' split at hf
   all_goals first
    | (cases hf;done)
    | (cases hf;simp only[*,if_true,if_false];exact⟨by decide,ts,gp ..,rfl,by first|rfl|simp_all⟩)
theorem gj(ex:R->Except Er (E×R))(f:Nat):dS ex (f+1)=λr=>if isT [45] r=false then dZ ex r else if(nxt ⟨r.l.tail,r.deep⟩).kind=3 then(int 9223372036854775808 (ax r) >>= λz => .ok (E.val 2 (-(z.1:Int)) [],z.2))
  else(opens r >>= λr=>dS ex f (ax r) >>= λz => .ok (E.una 16 z.1,fc z.2)):=by kernel_rfl
theorem tJ(hE:Ends e x){ex:R->Except Er (E×R)}(h:Lw e x ex ex okE):∀f,Lw e x (dS ex f) (dS ex f) okE
 | 0=>λts d y r' _ hf=>by cases hf
 | f+1=>by
  rw[gj];refine Lw.isF hE (by decide) (zZ hE h) (E2 hE isW.k (A:=λr=>int 9223372036854775808 r >>= λz => .ok (E.val 2 (-(z.1:Int)) [],z.2)) (A':=λr=>int 9223372036854775808 r >>= λz => .ok (E.val 2 (-(z.1:Int)) [],z.2)) ?_ (LwN.opens ?_))
  ·refine LwN.bind (AF _ (λt ht=>by rw[ht];decide)) λn hn=>Lw.ret (a:=E.val 2 (-(n:Int)) []) ?_;have h1:(-9223372036854775808:Int)≤ -(n:Int):=by omega
   have h2 : -(n:Int)≤9223372036854775807:=by omega
   simp[okE,isE,P6.isV,h1,h2]
  ·refine LwN.ax (F:=λr=>dS ex f r >>= λz => .ok (E.una 16 z.1,fc z.2)) (F':=λr=>dS ex f r >>= λz => .ok (E.una 16 z.1,fc z.2)) isW.k ?_;refine Lw.bind (tJ hE h f) λa ha=>Lw.fc (a:=E.una 16 a) ?_;simpa[okE,isE]using ha
theorem js(part:R->Except Er (E×R))(ops:List (T×Int))(f:Nat)(a:E):kY part ops (f+1) a=λr=>(ops.find? λo=>isT o.1 r).elim (.ok (a,r)) (λo=>part (ax r) >>= λz=>kY part ops f (E.bin o.2 a z.1) z.2):=by kernel_rfl
theorem BY(hE:Ends e x){part:R->Except Er (E×R)}(h:Lw e x part part okE){ops:List (T×Int)}(ho:∀o∈ops,o.1 ≠ [59]/\1≤o.2/\o.2≤14):∀ (f m:Nat) (a:E),f≤m->okE a->Lw e x (kY part ops f a) (kY part ops m a) okE
 | 0,_,_,_,_=>λts d y r' _ hf=>by cases hf
 | f+1,0,_,h,_=>by omega
 | f+1,m+1,a,hfm,ha=>by
  rw[js,js];refine BB hE (λo h=>(ho o h).1) (S:=λr o=>part (ax r) >>= λz=>kY part ops f (E.bin o.2 a z.1) z.2) (S':=λr o=>part (ax r) >>= λz=>kY part ops m (E.bin o.2 a z.1) z.2) (Lw.ret ha) λo hm=>?_;refine LwN.ax (F:=λr=>part r >>= λz=>kY part ops f (E.bin o.2 a z.1) z.2) (F':=λr=>part r >>= λz=>kY part ops m (E.bin o.2 a z.1) z.2) (λ_ h=>h) ?_;refine Lw.bind h λb hb=>BY hE h ho f m (E.bin o.2 a b) (by omega) ?_;obtain⟨-,o1,o2⟩:=ho o hm;simp[okE,isE,o1,o2];exact⟨ha,hb⟩
theorem km(part:R->Except Er (E×R))(ops:List (T×Int)):binary part ops=λr=>part r >>= λz=>kY part ops z.2.l.length z.1 z.2:=by kernel_rfl
theorem oJ(hE:Ends e x){part:R->Except Er (E×R)}(h:Lw e x part part okE){ops:List (T×Int)}(ho:∀o∈ops,o.1 ≠ [59]/\1≤o.2/\o.2≤14):Lw e x (binary part ops) (binary part ops) okE:=by
 rw[km];refine Lw.bind h λa ha=>λts d y r' hG hf=>?_;exact BY hE h ho (ts ++ [e]).length (ts++x).length a (by obtain⟨-,s,l,rfl,-⟩:=hE;simp) ha ts d y r' hG hf
theorem k7(sum:R->Except Er (E×R)):test sum=λr=>sum r >>= λz=>(kP.find? λo=>isT o.1 z.2).elim
  (if isT [73,83] z.2=false then .ok (z.1,z.2)else(bc [78,85,76,76] (has [78,79,84] (ax z.2)).2 >>= λr => .ok (E.una (if(has [78,79,84] (ax z.2)).1 then 18 else 17) z.1,r)))
  (λo=>sum (ax z.2) >>= λw => .ok (E.bin o.2 z.1 w.1,w.2)):=by kernel_rfl
theorem GJ(hE:Ends e x){sum:R->Except Er (E×R)}(h:Lw e x sum sum okE):Lw e x (test sum) (test sum) okE:=by
 rw[k7];refine Lw.bind h λa ha=>?_
 refine BB hE (by decide) (A:=λr=>if isT [73,83] r=false then .ok (a,r)else(bc [78,85,76,76] (has [78,79,84] (ax r)).2 >>= λr' => .ok (E.una (if(has [78,79,84] (ax r)).1 then 18 else 17) a,r')))
  (A':=λr=>if isT [73,83] r=false then .ok (a,r)else(bc [78,85,76,76] (has [78,79,84] (ax r)).2 >>= λr' => .ok (E.una (if(has [78,79,84] (ax r)).1 then 18 else 17) a,r')))
  (S:=λr o=>sum (ax r) >>= λw => .ok (E.bin o.2 a w.1,w.2)) (S':=λr o=>sum (ax r) >>= λw => .ok (E.bin o.2 a w.1,w.2)) ?_ λo hm=>?_
 ·refine Lw.isF hE (by decide) (Lw.ret ha) ?_;refine LwN.ax (F:=λr=>bc [78,85,76,76] (has [78,79,84] r).2 >>= λr' => .ok (E.una (if(has [78,79,84] r).1 then 18 else 17) a,r')) (F':=λr=>bc [78,85,76,76] (has [78,79,84] r).2 >>= λr' => .ok (E.una (if(has [78,79,84] r).1 then 18 else 17) a,r')) isW.k ?_;refine Lw.has hE (by decide) (K:=λh=>bc [78,85,76,76] h.2 >>= λr' => .ok (E.una (if h.1 then 18 else 17) a,r')) (K':=λh=>bc [78,85,76,76] h.2 >>= λr' => .ok (E.una (if h.1 then 18 else 17) a,r')) ?_ ?_
  ·exact Lw.bc hE (by decide) (Lw.ret (a:=E.una 18 a) (by simpa[okE,isE]using ha))
  ·exact Lw.bc hE (by decide) (Lw.ret (a:=E.una 17 a) (by simpa[okE,isE]using ha))
 ·refine LwN.ax (F:=λr=>sum r >>= λw => .ok (E.bin o.2 a w.1,w.2)) (F':=λr=>sum r >>= λw => .ok (E.bin o.2 a w.1,w.2)) (λ_ h=>h) ?_;refine Lw.bind h λb hb=>Lw.ret (a:=E.bin o.2 a b) ?_;have:1≤o.2/\o.2≤14:=by revert o;decide
  simp[okE,isE,this];exact⟨ha,hb⟩
theorem kg(tst:R->Except Er (E×R))(f:Nat):lH tst (f+1)=λr=>if isT [78,79,84] r=false then tst r else(opens r >>= λr=>lH tst f (ax r) >>= λz => .ok (E.una 15 z.1,fc z.2)):=by kernel_rfl
theorem Bx(hE:Ends e x){tst:R->Except Er (E×R)}(h:Lw e x tst tst okE):∀f,Lw e x (lH tst f) (lH tst f) okE
 | 0=>λts d y r' _ hf=>by cases hf
 | f+1=>by
  rw[kg];refine Lw.isF hE (by decide) h (LwN.opens ?_);refine LwN.ax (F:=λr=>lH tst f r >>= λz => .ok (E.una 15 z.1,fc z.2)) (F':=λr=>lH tst f r >>= λz => .ok (E.una 15 z.1,fc z.2)) isW.k ?_;refine Lw.bind (Bx hE h f) λa ha=>Lw.fc (a:=E.una 15 a) ?_;simpa[okE,isE]using ha
theorem yx(hE:Ends e x):∀f,Lw e x (eG f) (eG f) okE
 | 0=>λts d y r' _ hf=>by cases hf
 | f+1=>oJ hE (oJ hE (Bx hE (GJ hE (oJ hE (oJ hE (tJ hE (yx hE f) _) (by decide)) (by decide))) _) (by decide)) (by decide)
theorem mQ(hE:Ends e x):Lw e x expr expr okE:=yx hE 101
end
abbrev Hd(r:R):Prop:=P11.good (P11.kt (nxt r))∨(nxt r).kind=0
theorem Hd.of{ts:List Tok}{e:Tok}{d:Nat}(hG:Gs ts)(h0:e.kind=0):Hd ⟨ts ++ [e],d⟩:=by
 cases ts with
 | nil=>exact .inr h0
 | cons t ts=>exact .inl (hG t (by simp))
theorem yh{s:T}{r:R}(hg:Hd r)(h:isT s r=true)(hs:∀c l,s=c::l->P11.dm c=false):(nxt r).kind=5:=by
 have hw:isW s (nxt r):=by simpa[isT]using h
 rcases hw.1 with h2|h2
 ·rcases hg with hg|hg
  ·rcases hg with⟨h1,-⟩|⟨h1,⟨c,l,h3,h4⟩,-⟩|⟨h1,-⟩|⟨h1,-⟩|⟨h1,-⟩
   case inr.inl=>simp only[P11.kt]at h3;rw[hs c l (hw.2.symm.trans h3)]at h4;cases h4
   all_goals(simp only[P11.kt]at h1;omega)
  ·omega
 ·exact h2
theorem Fj{s:T}{r:R}(hg:Hd r)(h:isT s r=true)(hs:s∉P11.ga):(nxt r).kind=2:=by
 have hw:isW s (nxt r):=by simpa[isT]using h
 rcases hw.1 with h2|h2
 ·exact h2
 ·rcases hg with hg|hg
  ·rcases hg with⟨h1,-⟩|⟨h1,-⟩|⟨h1,-⟩|⟨h1,-⟩|⟨h1,h3⟩
   case inr.inr.inr.inr=>simp only[P11.kt]at h3;rw[hw.2]at h3;exact absurd h3 hs
   all_goals(simp only[P11.kt]at h1;omega)
  ·omega
theorem qi{r:R}{z}(h:name r = .ok z):named r=true:=by
 unfold name at h;split at h
 ·cases h
 rename_i h1;split at h
 ·cases h
 ·unfold named;simp[zl.1 h1];omega
theorem fL{α β:Type}{F:Except Er α}{K:α->Except Er β}{z:β}(h:(F >>= K) = .ok z):∃a,F = .ok a:=by
 cases F with
 | error er=>cases h
 | ok a=>exact⟨a,rfl⟩
theorem yW{ex:R->Except Er (E×R)}{r:R}{z}(hg:Hd r)(h:dZ ex r = .ok z):dI r=true:=by
 rw[eV]at h;unfold dI;dsimp only at h ⊢;split at h
 ·rename_i h3;rw[if_neg (by rw[h3];decide),if_pos h3];obtain⟨a,ha⟩:=fL h;unfold int at ha;split at ha
  ·cases ha
  ·exact decide_eq_true (by omega)
 rename_i h3;split at h
 ·rename_i h4;rw[if_neg (by rw[h4];decide),if_neg h3,if_pos h4]
 rename_i h4;split at h
 ·rename_i h1;rw[if_pos h1];rw[ki]at h;obtain⟨a,ha⟩:=fL h;exact qi ha
 rename_i h1;rw[if_neg h1,if_neg h3,if_neg h4];split at h
 ·rename_i h40;rw[if_pos (yh hg h40 (λc l e=>by cases e;rfl)),qm h40];rfl
 split at h
 ·rename_i h2;rw[if_neg (by rw[h2];decide),if_pos h2]
  cases hfn:nQ (nxt r).text with
  | some op=>simp
  | none=>
   simp only[hfn,Option.elim]at h;repeat' split at h
   all_goals first|(cases h;done)|simp[*]
 ·cases h
theorem Ba{ex:R->Except Er (E×R)}{r:R}{z}(hg:Hd r):∀f,dS ex f r = .ok z->dI r=true
 | 0,h=>by cases h
 | f+1,h=>by
  rw[gj]at h;dsimp only at h;split at h
  ·exact yW hg h
  ·rename_i h45;have h45:isT [45] r=true:=by simpa using h45
   have hk:=yh hg h45 (λc l e=>by cases e;rfl);unfold dI;rw[if_neg (by rw[hk];decide),if_neg (by rw[hk];decide),if_neg (by rw[hk];decide),if_pos hk,qm h45];rfl
theorem mY{part:R->Except Er (E×R)}{ops}{r:R}{z}(hp:∀z,part r = .ok z->dI r=true)(h:binary part ops r = .ok z):dI r=true:=by
 rw[km]at h;obtain⟨a,ha⟩:=fL h;exact hp a ha
theorem Jh{tst:R->Except Er (E×R)}{r:R}(hg:Hd r)(hp:∀z,tst r = .ok z->dI r=true):∀f z,lH tst f r = .ok z->dI r=true
 | 0,_,h=>by cases h
 | f+1,z,h=>by
  rw[kg]at h;dsimp only at h;split at h
  ·exact hp z h
  ·rename_i h78;have h78:isT [78,79,84] r=true:=by simpa using h78
   have hk:=Fj hg h78 (by decide);unfold dI;rw[if_neg (by rw[hk];decide),if_neg (by rw[hk];decide),if_neg (by rw[hk];decide),if_neg (by rw[hk];decide),if_pos hk,qm h78];rfl
theorem yX{r:R}{z}(hg:Hd r)(h:expr r = .ok z):dI r=true:=by
 refine mY (λz h=>?_) (show binary (Jk (eG 100) 101) sW r = .ok z from h);refine mY (λz h=>?_) h;refine Jh hg (λz h=>?_) _ z h;rw[oS,k7]at h;obtain⟨a,ha⟩:=fL h;refine mY (λz h=>?_) ha;exact mY (λz h=>Ba hg _ h) h
end P12
namespace P12
open P11 (Tok)
section
variable {e : Tok} {x : List Tok}
theorem mJ(hE:Ends e x)(ts:List Tok)(d:Nat):named ⟨ts ++ [e],d⟩=named ⟨ts++x,d⟩:=by
 cases ts with
 | nil=>
  obtain⟨k0,s,l,rfl,h1,h2⟩:=hE;simp[named,nxt,k0,h1]
 | cons t ts=>rfl
theorem se(hE:Ends e x)(ts:List Tok)(d:Nat):dI ⟨ts ++ [e],d⟩=dI ⟨ts++x,d⟩:=by
 cases ts with
 | nil=>
  obtain⟨k0,s,l,rfl,h1,h2⟩:=hE;simp[dI,nxt,k0,h1,h2]
 | cons t ts=>rfl
theorem BJ(hE:Ends e x){s:T}(hs:s ≠ [59])(ts:List Tok)(d:Nat):isT s ⟨ts ++ [e],d⟩=isT s ⟨ts++x,d⟩:=by
 cases ts with
 | nil=>rw[bM,bM,(gJ hE hs d).1,(gJ hE hs d).2]
 | cons t ts=>rfl
theorem mC{α:Type}{l:List α}{m:Nat}{p:α->Bool}(h:(∀a∈l,p a=true)/\1≤l.length/\l.length≤m):some l m p=true:=by
 unfold some;rw[decide_eq_true h.2.1,decide_eq_true h.2.2,bA.2 h.1];rfl
theorem qh:names=λr=>bc [40] r >>= λr=>(λr=>eO 16 named name r.l.length 0 r) r >>= λz=>bc [41] z.2 >>= λr => .ok (z.1,r):=by kernel_rfl
theorem s7(hE:Ends e x):Lw e x names names (λl=>some l 16 isName=true):=by
 rw[qh];exact Lw.bc hE (by decide) (Lw.bind (qW hE (fQ hE) (mJ hE) λts d z _ h=>qi h) λl hl=>Lw.bc hE (by decide) (Lw.ret (a:=l) (mC hl)))
def Gc:Con->Prop
 | .inl a=>okE a
 | .inr (_,l)=>some l 16 isName=true
theorem vd(hE:Ends e x){c:T}(hc:c = []∨isName c=true):Lw e x (dv c) (dv c) (λl=>some l 16 isName=true):=by
 by_cases h:c = []
 ·have:dv c=names:=by funext r;unfold dv;rw[if_pos h]
  rw[this];exact s7 hE
 ·have:dv c=λr => .ok ([c],r):=by funext r;unfold dv;rw[if_neg h]
  rw[this];exact Lw.ret (by rcases hc with hc|hc;exact absurd hc h;simp[some,hc])
theorem kO(n:Nat)(c:T)(r:R):ie n c r=if(decide (16<n+1)&&bJ r)=true then bj 122 r else(λr=>if isT [67,72,69,67,75] r=true then(within expr (ax r) >>= λz => .ok ((.inl z.1:Con),z.2))else
  if isT [80,82,73,77,65,82,89] r=true then(bc [75,69,89] (ax r) >>= λr=>dv c r >>= λz => .ok ((.inr (true,z.1):Con),z.2))else(bc [85,78,73,81,85,69] r >>= λr=>dv c r >>= λz => .ok ((.inr (false,z.1):Con),z.2))) r:=by
 unfold ie jB has;split
 ·rfl
 dsimp only;split
 ·cases within expr (ax r)<;>rfl
 ·cases hp:isT [80,82,73,77,65,82,89] r with
  | true=>simp only[if_true];cases bc [75,69,89] (ax r)with
   | error er=>rfl
   | ok r1=>show(match dv c r1 with | .error e => .error e | .ok (l,r2)=> .ok ((.inr (true,l):Con),r2))=(dv c r1 >>= _);cases dv c r1<;>rfl
  | false=>simp only[aV,if_false];cases bc [85,78,73,81,85,69] r with
   | error er=>rfl
   | ok r1=>show(match dv c r1 with | .error e => .error e | .ok (l,r2)=> .ok ((.inr (false,l):Con),r2))=(dv c r1 >>= _);cases dv c r1<;>rfl
abbrev isC(t:Tok):Prop:=bJ ⟨[t],0⟩=true
theorem yL(hE:Ends e x)(n:Nat){c:T}(hc:c = []∨isName c=true):LwN e x isC (ie n c) (ie n c) (λo=>n+1≤16/\Gc o):=λt ts d y r' ht hG hf=>by
 have h0:∀l,bJ ⟨t::l,d⟩=true:=λl=>ht;rw[kO,h0,zj]at hf;rw[kO,h0,zj];by_cases hn:16<n+1
 ·rw[if_pos (decide_eq_true hn)]at hf;cases hf
 rw[if_neg (by simpa using hn)]at hf ⊢
 have key:Lw e x (λr=>if isT [67,72,69,67,75] r=true then(within expr (ax r) >>= λz => .ok ((.inl z.1:Con),z.2))else
  if isT [80,82,73,77,65,82,89] r=true then(bc [75,69,89] (ax r) >>= λr=>dv c r >>= λz => .ok ((.inr (true,z.1):Con),z.2))else(bc [85,78,73,81,85,69] r >>= λr=>dv c r >>= λz => .ok ((.inr (false,z.1):Con),z.2)))
  (λr=>if isT [67,72,69,67,75] r=true then(within expr (ax r) >>= λz => .ok ((.inl z.1:Con),z.2))else
  if isT [80,82,73,77,65,82,89] r=true then(bc [75,69,89] (ax r) >>= λr=>dv c r >>= λz => .ok ((.inr (true,z.1):Con),z.2))else(bc [85,78,73,81,85,69] r >>= λr=>dv c r >>= λz => .ok ((.inr (false,z.1):Con),z.2))) Gc:=by
  refine Lw.isT hE (by decide) ?_ (Lw.isT hE (by decide) ?_ ?_)
  ·refine LwN.ax (F:=λr=>within expr r >>= λz => .ok ((.inl z.1:Con),z.2)) (F':=λr=>within expr r >>= λz => .ok ((.inl z.1:Con),z.2)) isW.k ?_;exact Lw.bind (qJ hE (mQ hE)) λa ha=>Lw.ret (a:=(.inl a:Con)) ha
  ·refine LwN.ax (F:=λr=>bc [75,69,89] r >>= λr=>dv c r >>= λz => .ok ((.inr (true,z.1):Con),z.2)) (F':=λr=>bc [75,69,89] r >>= λr=>dv c r >>= λz => .ok ((.inr (true,z.1):Con),z.2)) isW.k ?_;exact Lw.bc hE (by decide) (Lw.bind (vd hE hc) λa ha=>Lw.ret (a:=(.inr (true,a):Con)) ha)
  ·exact Lw.bc hE (by decide) (Lw.bind (vd hE hc) λa ha=>Lw.ret (a:=(.inr (false,a):Con)) ha)
 obtain⟨h1,h2⟩:=key (t::ts) d y r' hG hf;exact⟨⟨by omega,h1⟩,h2⟩
theorem B7(hE:Ends e x):Lw e x typeOf typeOf (λty=>1≤ty/\ty≤3):=
 Lw.isT hE (by decide) (LwN.ui isW.k (by decide)) (Lw.isT hE (by decide) (LwN.ui isW.k (by decide)) (Lw.isT hE (by decide) (LwN.ui isW.k (by decide)) Lw.bj))
theorem Bw(hE:Ends e x):One e x bJ isC (λ_=>True):=by
 refine⟨λd=>⟨?_,?_⟩,λt l d=>⟨λh=>h,λ_=>trivial,λ_=>rfl⟩⟩
 ·unfold bJ;rw[(gJ hE (by decide) d).1,(gJ hE (by decide) d).1,(gJ hE (by decide) d).1];rfl
 ·unfold bJ;rw[(gJ hE (by decide) d).2,(gJ hE (by decide) d).2,(gJ hE (by decide) d).2];rfl
structure J(t:Tb)(k:List (List T))(n c:Nat):Prop where
 nm:isName t.name=true
 cnt:t.cols.length+t.keys.length+t.checks.length+c=n
 most:n≤16
 kl:k.length=t.keys.length
 ks:∀l∈k,some l 16 isName=true
 cs:∀a∈t.checks,okE a
 col:∀a∈t.cols,isName a.1=true/\1≤a.2.1/\a.2.1≤3
theorem J.add{t:Tb}{k:List (List T)}{n c:Nat}(h:J t k n c){o:Con}(hn:n+1≤16)(ho:Gc o):J (gS t o) (jX k o) (n+1) c:=by
 obtain⟨h1,h2,h3,h4,h5,h6,h7⟩:=h
 cases o with
 | inl a=>
  refine⟨h1,?_,hn,h4,h5,?_,h7⟩
  ·show t.cols.length+t.keys.length+(t.checks ++ [a]).length+c=_;simp;omega
  ·intro b hb;rcases ef.1 (show b∈t.checks ++ [a]from hb)with hb|hb
   ·exact h6 b hb
   ·rw[bW.1 hb];exact ho
 | inr z=>
  obtain⟨pr,l⟩:=z;refine⟨h1,?_,hn,?_,?_,h6,h7⟩
  ·show t.cols.length+(t.keys ++ [pr]).length+t.checks.length+c=_;simp;omega
  ·show(k ++ [l]).length=(t.keys ++ [pr]).length;simp[h4]
  ·intro b hb;rcases ef.1 (show b∈k ++ [l]from hb)with hb|hb
   ·exact h5 b hb
   ·rw[bW.1 hb];exact ho
theorem jj(c:T)(f:Nat)(t:Tb)(k:List (List T))(n:Nat)(nn:Bool):eP c (f+1) t k n nn=λr=>if isT [78,79,84] r=true then(bc [78,85,76,76] (ax r) >>= λr=>eP c f t k n true r)else
  if bJ r=true then(ie n c r >>= λz=>eP c f (gS t z.1) (jX k z.1) (n+1) (nn||isT [80,82,73,77,65,82,89] r) z.2)else .ok ((t,k,n,nn),r):=by kernel_rfl
theorem sH(hE:Ends e x){c:T}(hc:isName c=true):∀ (f m:Nat) (t:Tb) (k:List (List T)) (n:Nat) (nn:Bool),f≤m->J t k n 1->Lw e x (eP c f t k n nn) (eP c m t k n nn) (λz=>J z.1 z.2.1 z.2.2.1 1)
 | 0,_,_,_,_,_,_,_=>λts d y r' _ hf=>by cases hf
 | f+1,0,_,_,_,_,h,_=>by omega
 | f+1,m+1,t,k,n,nn,hfm,hJ=>by
  rw[jj,jj];refine Lw.isT hE (by decide) ?_ (Lw.cond (Bw hE) ?_ (Lw.ret hJ))
  ·refine LwN.ax (F:=λr=>bc [78,85,76,76] r >>= λr=>eP c f t k n true r) (F':=λr=>bc [78,85,76,76] r >>= λr=>eP c m t k n true r) isW.k ?_;exact Lw.bc hE (by decide) (sH hE hc f m t k n true (by omega) hJ)
  ·intro u us d y r' hu hG hf;have e1:∀l,isT [80,82,73,77,65,82,89] ⟨u::l,d⟩=isT [80,82,73,77,65,82,89] ⟨[u],d⟩:=λ_=>rfl;simp only[e1 (us++_)]at hf ⊢
   exact LwN.bind (K:=λz=>eP c f (gS t z.1) (jX k z.1) (n+1) (nn||isT [80,82,73,77,65,82,89] ⟨[u],d⟩) z.2) (K':=λz=>eP c m (gS t z.1) (jX k z.1) (n+1) (nn||isT [80,82,73,77,65,82,89] ⟨[u],d⟩) z.2)
    (yL hE n (.inr hc)) (λo ho=>sH hE hc f m (gS t o) (jX k o) (n+1) _ (by omega) (hJ.add ho.1 ho.2)) u us d y r' hu hG hf
theorem ov(t:Tb)(k:List (List T))(n:Nat):part t k n=λr=>if bJ r=true then(ie n [] r >>= λz => .ok ((gS t z.1,jX k z.1,n+1),z.2))else
  if(decide (16<n+1)&&named r)=true then bj 122 r else(name r >>= λz=>typeOf z.2 >>= λy=>(λr=>eP z.1 r.l.length t k (n+1) false r) y.2 >>= λw => .ok (({ w.1.1 with cols:=w.1.1.cols ++ [(z.1,y.1,w.1.2.2.2)] },w.1.2.1,w.1.2.2.1),w.2)):=by kernel_rfl
theorem Il(hE:Ends e x){t:Tb}{k:List (List T)}{n:Nat}(hJ:J t k n 0):Lw e x (part t k n) (part t k n) (λz=>1≤z.2.2/\J z.1 z.2.1 z.2.2 0):=by
 rw[ov];refine Lw.cond (Bw hE) ?_ ?_
 ·exact LwN.bind (yL hE n (.inl rfl)) λo ho=>Lw.ret (a:=(gS t o,jX k o,n+1)) ⟨Nat.le_add_left ..,hJ.add ho.1 ho.2⟩
 ·intro ts d y r' hG hf;dsimp only at hf ⊢;rw[← mJ hE];by_cases hb:(decide (16<n+1)&&named ⟨ts ++ [e],d⟩)=true
  ·rw[if_pos hb]at hf;cases hf
  rw[if_neg hb]at hf ⊢;obtain⟨z,hz⟩:=fL hf;rw[qi hz]at hb;have hn:n+1≤16:=by simp at hb;omega
  refine Lw.bind (q:=λz=>1≤z.2.2/\J z.1 z.2.1 z.2.2 0) (fQ hE) (λc hc=>?_) ts d y r' hG hf;dsimp only;refine Lw.bind (B7 hE) λty hty=>?_;dsimp only;refine Lw.bind (F:=λr=>eP c r.l.length t k (n+1) false r) (F':=λr=>eP c r.l.length t k (n+1) false r) (p:=λz=>J z.1 z.2.1 z.2.2.1 1) ?_ λw hw=>Lw.ret (a:=({ w.1 with cols:=w.1.cols ++ [(c,ty,w.2.2.2)] },w.2.1,w.2.2.1)) ?_
  ·intro ts d y r' hG hf;exact sH hE hc (ts ++ [e]).length (ts++x).length t k (n+1) false (by obtain⟨-,s,l,rfl,-⟩:=hE;simp) ⟨hJ.nm,by have:=hJ.cnt;omega,hn,hJ.kl,hJ.ks,hJ.cs,hJ.col⟩ ts d y r' hG hf
  ·have h2:=hw.cnt;refine⟨by show 1≤w.2.2.1;omega,hw.nm,?_,hw.most,hw.kl,hw.ks,hw.cs,λa ha=>?_⟩
   ·show(w.1.cols ++ [_]).length+w.1.keys.length+w.1.checks.length+0=w.2.2.1;simp;omega
   ·rcases ef.1 (show a∈w.1.cols ++ [_]from ha)with ha|ha
    ·exact hw.col a ha
    ·rw[bW.1 ha];exact⟨hc,hty⟩
theorem iL(f:Nat)(t:Tb)(k:List (List T))(n:Nat):gf (f+1) t k n=λr=>part t k n r >>= λz=>if isT [44] z.2=true then gf f z.1.1 z.1.2.1 z.1.2.2 (ax z.2)else .ok ((z.1.1,z.1.2.1),z.2):=by kernel_rfl
theorem uH(hE:Ends e x):∀ (f m:Nat) (t:Tb) (k:List (List T)) (n:Nat),f≤m->J t k n 0->Lw e x (gf f t k n) (gf m t k n) (λz=>∃n,1≤n/\J z.1 z.2 n 0)
 | 0,_,_,_,_,_,_=>λts d y r' _ hf=>by cases hf
 | f+1,0,_,_,_,h,_=>by omega
 | f+1,m+1,t,k,n,hfm,hJ=>by
  rw[iL,iL];refine Lw.bind (Il hE hJ) λz hz=>?_;refine Lw.isT hE (by decide) (LwN.ax (F:=λr=>gf f z.1 z.2.1 z.2.2 r) (F':=λr=>gf m z.1 z.2.1 z.2.2 r) isW.k ?_) (Lw.ret (a:=(z.1,z.2.1)) ⟨z.2.2,hz.1,hz.2⟩);exact uH hE f m _ _ _ (by omega) hz.2
theorem J.oV{t:Tb}{k:List (List T)}{n:Nat}(hn:1≤n)(h:J t k n 0):oV t k=true:=by
 obtain⟨h1,h2,h3,h4,h5,h6,h7⟩:=h;unfold P12.oV;simp only[aq,decide_eq_true_eq,beq_iff_eq,bA];exact⟨⟨⟨⟨⟨⟨h1,by omega⟩,by omega⟩,h4⟩,h5⟩,h6⟩,λa ha=>⟨⟨(h7 a ha).1,(h7 a ha).2.1⟩,(h7 a ha).2.2⟩⟩
abbrev Lh:=R->Except Er (St×R)
def mkIdx(u:Bool):Lh:=λr=>bc [73,78,68,69,88] r >>= λr=>name r >>= λz=>bc [79,78] z.2 >>= λr=>name r >>= λw=>names w.2 >>= λl => .ok ({ made 3 with unique:=u,name:=z.1,on:=w.1,cols:=l.1 },l.2)
theorem xR(hE:Ends e x)(u:Bool):Lw e x (mkIdx u) (mkIdx u) isS:=by
 unfold mkIdx;refine Lw.bc hE (by decide) (Lw.bind (fQ hE) λa ha=>?_);dsimp only;refine Lw.bc hE (by decide) (Lw.bind (fQ hE) λb hb=>?_);dsimp only;refine Lw.bind (s7 hE) λl hl=>Lw.ret (a := { made 3 with unique:=u,name:=a,on:=b,cols:=l }) ?_;exact⟨rfl,.inr (.inr (.inr (.inl ⟨rfl,ha,hb,hl⟩)))⟩
def rV:Lh:=λr=>name r >>= λz=>bc [40] z.2 >>= λr=>(λr=>gf r.l.length { name:=z.1 } [] 0 r) r >>= λw=>bc [41] w.2 >>= λr => .ok ({ made 1 with tb:=w.1.1,keyCols:=w.1.2 },r)
theorem rj:create=λr=>if isT [84,65,66,76,69] r=true then rV (ax r)
  else(λu:Bool×R=>if(u.1||isT [73,78,68,69,88] u.2)=true then mkIdx u.1 u.2 else bj 120 r) (has [85,78,73,81,85,69] r):=by kernel_rfl
theorem Dq(hE:Ends e x):Lw e x create create isS:=by
 have e1:create=λr=>if isT [84,65,66,76,69] r=true then rV (ax r)
  else if isT [85,78,73,81,85,69] r=true then mkIdx true (ax r)else if isT [73,78,68,69,88] r=true then mkIdx false r else bj 120 r:=by
  rw[rj];funext r;dsimp only;split
  ·rfl
  ·unfold has;split
   ·rfl
   ·simp only[iC]
 rw[e1];refine Lw.isT hE (by decide) ?_ (Lw.isT hE (by decide) (LwN.ax isW.k (xR hE true)) (Lw.isT hE (by decide) (Lw.N (xR hE false)) Lw.bj));refine LwN.ax (F:=rV) (F':=rV) isW.k ?_;unfold rV;refine Lw.bind (fQ hE) λa ha=>?_;dsimp only;refine Lw.bc hE (by decide) (Lw.bind (F:=λr=>gf r.l.length { name:=a } [] 0 r) (F':=λr=>gf r.l.length { name:=a } [] 0 r) (p:=λz=>∃n,1≤n/\J z.1 z.2 n 0) (λts d y r' hG hf=>?_) λw hw=>?_)
 ·exact uH hE (ts ++ [e]).length (ts++x).length _ [] 0 (by obtain⟨-,s,l,rfl,-⟩:=hE;simp) ⟨ha,rfl,by omega,rfl,by simp,by simp,by simp⟩ ts d y r' hG hf
 ·dsimp only;refine Lw.bc hE (by decide) (Lw.ret (a := { made 1 with tb:=w.1,keyCols:=w.2 }) ?_);obtain⟨n,hn,hJ⟩:=hw;exact⟨rfl,.inl ⟨rfl,hJ.oV hn⟩⟩
theorem drop_eq:drop=λr=>if isT [84,65,66,76,69] r=true then(name (ax r) >>= λz => .ok ({ made 2 with name:=z.1 },z.2))else(bc [73,78,68,69,88] r >>= λr=>name r >>= λz => .ok ({ made 4 with name:=z.1 },z.2)):=by
 funext r;unfold drop has;dsimp only;split<;>rfl
theorem Ja(hE:Ends e x):Lw e x drop drop isS:=by
 rw[drop_eq];refine Lw.isT hE (by decide) (LwN.ax (F:=λr=>name r >>= λz => .ok ({ made 2 with name:=z.1 },z.2)) (F':=λr=>name r >>= λz => .ok ({ made 2 with name:=z.1 },z.2)) isW.k ?_) ?_
 ·exact Lw.bind (fQ hE) λa ha=>Lw.ret (a := { made 2 with name:=a }) ⟨rfl,.inr (.inl ⟨rfl,ha⟩)⟩
 ·exact Lw.bc hE (by decide) (Lw.bind (fQ hE) λa ha=>Lw.ret (a := { made 4 with name:=a }) ⟨rfl,.inr (.inr (.inl ⟨rfl,ha⟩))⟩)
theorem yw(hE:Ends e x){α:Type}{read:R->Except Er (α×R)}{p:α->Prop}(hr:Lw e x read read p)(hb:∀r z,read r = .ok z->∃w,expr r = .ok w):Lw e x (exprs read) (exprs read) (λl=>(∀a∈l,p a)/\1≤l.length/\l.length≤16):=
 qW hE hr (se hE) λts d z hG h=>by
  obtain⟨w,hw⟩:=hb _ z h;exact yX (Hd.of hG hE.k0) hw
theorem iT:eB=λr=>bc [40] r >>= λr=>exprs expr r >>= λz=>bc [41] z.2 >>= λr => .ok (z.1,r):=by kernel_rfl
theorem vp(hE:Ends e x):Lw e x eB eB (λl=>some l 16 isE=true):=by
 rw[iT];exact Lw.bc hE (by decide) (Lw.bind (yw hE (mQ hE) λr z h=>⟨z,h⟩) λl hl=>Lw.bc hE (by decide) (Lw.ret (a:=l) (mC hl)))
theorem vn(hE:Ends e x):Lw e x wher wher (λa=>eW a=true):=
 Lw.isT hE (by decide) (LwN.ax isW.k λts d y r' hG hf=>by
  obtain⟨h1,h2⟩:=mQ hE ts d y r' hG hf;exact⟨by unfold eW;rw[h1,gU],h2⟩) (Lw.ret rfl)
theorem yV{α β:Type}(c:Prop)[Decidable c](a b:Except Er α)(K:α->Except Er β):((if c then a else b) >>= K)=if c then a >>= K else b >>= K:=by split<;>rfl
theorem insert_eq:insert=λr=>bc [73,78,84,79] r >>= λr=>name r >>= λz=>(λr=>if isT [40] r=true then names r else .ok ([],r)) z.2 >>= λl=>bc [86,65,76,85,69,83] l.2 >>= λr=>(λr=>eO 32 (isT [40]) eB r.l.length 0 r) r >>= λw => .ok ({ made 5 with name:=z.1,cols:=l.1,rows:=w.1 },w.2):=by
 simp only[yV];kernel_rfl
theorem ER{s:T}{r:R}{z}(h:bc s r = .ok z):isT s r=true:=by
 unfold bc at h;split at h
 ·assumption
 ·cases h
theorem Dc(hE:Ends e x):Lw e x insert insert isS:=by
 rw[insert_eq];refine Lw.bc hE (by decide) (Lw.bind (fQ hE) λa ha=>?_);dsimp only;refine Lw.bind (F:=λr=>if isT [40] r=true then names r else .ok ([],r)) (F':=λr=>if isT [40] r=true then names r else .ok ([],r)) (p:=λl=>l = []∨some l 16 isName=true) (Lw.isT hE (by decide) (Lw.N λts d y r' hG hf=>?_) (Lw.ret (.inl rfl))) λl hl=>?_;rotate_left
 ·dsimp only;refine Lw.bc hE (by decide) (Lw.bind (qW hE (vp hE) (BJ hE (by decide)) λts d z _ h=>?_) λw hw=>Lw.ret (a := { made 5 with name:=a,cols:=l,rows:=w }) ?_)
  ·rw[iT]at h;obtain⟨q,hq⟩:=fL h;exact ER hq
  ·exact⟨rfl,.inr (.inr (.inr (.inr (.inl ⟨rfl,ha,hl,mC hw⟩))))⟩
 ·obtain⟨h1,h2⟩:=s7 hE ts d y r' hG hf;exact⟨.inr h1,h2⟩
theorem nF:setOf=λr=>name r >>= λz=>bc [61] z.2 >>= λr=>expr r >>= λw => .ok ((z.1,w.1),w.2):=by kernel_rfl
theorem ob:update=λr=>name r >>= λz=>bc [83,69,84] z.2 >>= λr=>(λr=>eO 16 named setOf r.l.length 0 r) r >>= λl=>wher l.2 >>= λw => .ok ({ made 6 with name:=z.1,sets:=l.1,wher:=w.1 },w.2):=by kernel_rfl
theorem B5(hE:Ends e x):Lw e x update update isS:=by
 rw[ob]
 have hs:Lw e x setOf setOf (λs=>(isName s.1&&isE s.2)=true):=by
  rw[nF];refine Lw.bind (fQ hE) λa ha=>?_;dsimp only;exact Lw.bc hE (by decide) (Lw.bind (mQ hE) λb hb=>Lw.ret (a:=(a,b)) (by rw[ha,hb];rfl))
 refine Lw.bind (fQ hE) λa ha=>?_;dsimp only;refine Lw.bc hE (by decide) (Lw.bind (qW hE hs (mJ hE) λts d z _ h=>?_) λl hl=>?_);rotate_left
 dsimp only;refine Lw.bind (vn hE) λw hw=>Lw.ret (a := { made 6 with name:=a,sets:=l,wher:=w }) ?_;rotate_left
 ·rw[nF]at h;obtain⟨q,hq⟩:=fL h;exact qi hq
 ·exact⟨rfl,.inr (.inr (.inr (.inr (.inr (.inl ⟨rfl,ha,mC hl,hw⟩)))))⟩
theorem mT:ia=λr=>bc [70,82,79,77] r >>= λr=>name r >>= λz=>wher z.2 >>= λw => .ok ({ made 7 with name:=z.1,wher:=w.1 },w.2):=by kernel_rfl
theorem AW(hE:Ends e x):Lw e x ia ia isS:=by
 rw[mT];refine Lw.bc hE (by decide) (Lw.bind (fQ hE) λa ha=>?_);dsimp only;refine Lw.bind (vn hE) λw hw=>Lw.ret (a := { made 7 with name:=a,wher:=w }) ?_;exact⟨rfl,.inr (.inr (.inr (.inr (.inr (.inr (.inl ⟨rfl,ha,hw⟩))))))⟩
theorem ql:item=λr=>if isT [42] r=true then .ok ((true,E.none,[]),ax r)else(expr r >>= λz=>if isT [65,83] z.2=true then(name (ax z.2) >>= λw => .ok ((false,z.1,w.1),w.2))else .ok ((false,z.1,[]),z.2)):=by kernel_rfl
theorem IH(hE:Ends e x):Lw e x item item (λi=>iF i=true):=by
 rw[ql];refine Lw.isT hE (by decide) (LwN.ui isW.k rfl) (Lw.bind (mQ hE) λa ha=>?_);dsimp only;refine(Lw.isT hE (by decide) (LwN.ax (F:=λr=>name r >>= λw => .ok ((false,a,w.1),w.2)) (F':=λr=>name r >>= λw => .ok ((false,a,w.1),w.2)) isW.k ?_) (Lw.ret (a:=(false,a,[])) ?_))
 ·refine Lw.bind (fQ hE) λb hb=>Lw.ret (a:=(false,a,b)) ?_;show(isE a&&cf b)=true
  rw[ha,cf,hb,gU];rfl
 ·show(isE a&&cf [])=true
  rw[ha];rfl
theorem yf{r:R}{z}(hg:Hd r)(h:item r = .ok z):(isT [42] r||dI r)=true:=by
 rw[ql]at h;dsimp only at h;split at h
 ·rename_i h42;rw[h42];rfl
 ·obtain⟨w,hw⟩:=fL h;rw[yX hg hw,gU]
theorem oo:source=λr=>name r >>= λz=>maybe z.2 >>= λw => .ok ((z.1,w.1),w.2):=by kernel_rfl
abbrev pZ(s:T×T):Prop:=(isName s.1&&cf s.2)=true
theorem uA(hE:Ends e x):Lw e x source source pZ:=by
 rw[oo];refine Lw.bind (fQ hE) λa ha=>?_;dsimp only;exact Lw.bind (EV hE) λb hb=>Lw.ret (a:=(a,b)) (by show(isName a&&cf b)=true;rw[ha,hb];rfl)
theorem kD:fs=λr=>expr r >>= λz=>(λh:Bool×R => .ok ((z.1,h.1),if h.1 then h.2 else(has [65,83,67] h.2).2)) (has [68,69,83,67] z.2):=by kernel_rfl
theorem Ae(hE:Ends e x):Lw e x fs fs (λo=>okE o.1):=by
 have e1:fs=λr=>expr r >>= λz=>if isT [68,69,83,67] z.2=true then .ok ((z.1,true),ax z.2)else if isT [65,83,67] z.2=true then .ok ((z.1,false),ax z.2)else .ok ((z.1,false),z.2):=by
  rw[kD];funext r;dsimp only;congr 1;funext z;unfold has;by_cases h1:isT [68,69,83,67] z.2=true
  ·simp only[h1,if_true]
  ·by_cases h2:isT [65,83,67] z.2=true<;>simp[h1,h2]
 rw[e1];refine Lw.bind (mQ hE) λa ha=>?_;dsimp only;exact Lw.isT hE (by decide) (LwN.ui (a:=(a,true)) isW.k ha) (Lw.isT hE (by decide) (LwN.ui (a:=(a,false)) isW.k ha) (Lw.ret (a:=(a,false)) ha))
def ou(s:T×T)(r:R):Except Er ((List (T×T)×E)×R):=if isT [74,79,73,78] r=true then(source (ax r) >>= λz=>bc [79,78] z.2 >>= λr=>expr r >>= λw => .ok (([s,z.1],w.1),w.2))else .ok (([s],E.none),r)
def lZ(r:R):Except Er (List E×R):=if isT [71,82,79,85,80] r=true then(bc [66,89] (ax r) >>= λr=>(λr=>eO 16 named column r.l.length 0 r) r)else .ok ([],r)
def lX(r:R):Except Er (List (E×Bool)×R):=if isT [79,82,68,69,82] r=true then(bc [66,89] (ax r) >>= λr=>exprs fs r)else .ok ([],r)
def kz(r:R):Except Er (Int×R):=if isT [76,73,77,73,84] r=true then(if(nxt (ax r)).kind≠3 then bj 120 (ax r)else(int 9223372036854775807 (ax r) >>= λz => .ok ((z.1:Int),z.2)))else .ok (-1,r)
theorem lf:gH=λr=>(λr=>eO 16 (λr=>isT [42] r||dI r) item r.l.length 0 r) r >>= λz=>bc [70,82,79,77] z.2 >>= λr=>source r >>= λs=>ou s.1 s.2 >>= λj=>wher j.2 >>= λw=>lZ w.2 >>= λg=>lX g.2 >>= λo=>kz o.2 >>= λl=>
  .ok ({ made 8 with items:=z.1,frm:=j.1.1,join:=j.1.2,wher:=w.1,group:=g.1,order:=o.1,limit:=l.1 },l.2):=by
 funext r;simp only[gH,ou,lZ,lX,kz,yV];kernel_rfl
theorem zP(hE:Ends e x){s:T×T}(hs:pZ s):Lw e x (ou s) (ou s) (λj=>some j.1 2 (λs=>isName s.1&&cf s.2)=true/\(if j.1.length=2 then isE j.2 else noE j.2)=true/\j.1.length≤2):=by
 refine Lw.isT hE (by decide) (LwN.ax (F:=λr=>source r >>= λz=>bc [79,78] z.2 >>= λr=>expr r >>= λw => .ok (([s,z.1],w.1),w.2)) (F':=λr=>source r >>= λz=>bc [79,78] z.2 >>= λr=>expr r >>= λw => .ok (([s,z.1],w.1),w.2)) isW.k ?_) (Lw.ret (a:=([s],E.none)) ⟨?_,rfl,by simp⟩)
 ·refine Lw.bind (uA hE) λa ha=>?_;dsimp only;refine Lw.bc hE (by decide) (Lw.bind (mQ hE) λb hb=>Lw.ret (a:=([s,a],b)) ⟨?_,hb,by simp⟩)
  exact mC ⟨λc hc=>by
   rcases aI.1 hc with rfl|hc
   ·exact hs
   ·rw[bW.1 hc];exact ha,by simp,by simp⟩
 ·exact mC ⟨λc hc=>by rw[bW.1 hc];exact hs,by simp,by simp⟩
theorem xu(hE:Ends e x):Lw e x lZ lZ (λl=>(∀a∈l,tD a=true)/\l.length≤16):=by
 refine Lw.isT hE (by decide) (LwN.ax (F:=λr=>bc [66,89] r >>= λr=>(λr=>eO 16 named column r.l.length 0 r) r) (F':=λr=>bc [66,89] r >>= λr=>(λr=>eO 16 named column r.l.length 0 r) r) isW.k (Lw.bc hE (by decide) λts d y r' hG hf=>?_)) (Lw.ret (by simp))
 obtain⟨h1,h2⟩:=qW hE (vc hE) (mJ hE) (λts d z _ h=>by
  rw[ki]at h;obtain⟨q,hq⟩:=fL h;exact qi hq) ts d y r' hG hf
 exact⟨⟨h1.1,h1.2.2⟩,h2⟩
theorem xp(hE:Ends e x):Lw e x lX lX (λl=>(∀a∈l,okE a.1)/\l.length≤16):=by
 refine Lw.isT hE (by decide) (LwN.ax (F:=λr=>bc [66,89] r >>= λr=>exprs fs r) (F':=λr=>bc [66,89] r >>= λr=>exprs fs r) isW.k (Lw.bc hE (by decide) λts d y r' hG hf=>?_)) (Lw.ret (by simp))
 obtain⟨h1,h2⟩:=yw hE (Ae hE) (λr z h=>by
  rw[kD]at h;exact fL h) ts d y r' hG hf
 exact⟨⟨h1.1,h1.2.2⟩,h2⟩
theorem xr(hE:Ends e x):Lw e x kz kz (λl => -1≤l/\l≤9223372036854775807):=by
 refine Lw.isT hE (by decide) (LwN.ax (F:=λr=>if(nxt r).kind≠3 then bj 120 r else(int 9223372036854775807 r >>= λz => .ok ((z.1:Int),z.2))) (F':=λr=>if(nxt r).kind≠3 then bj 120 r else(int 9223372036854775807 r >>= λz => .ok ((z.1:Int),z.2))) isW.k ?_) (Lw.ret (by decide))
 have e1:(λr:R=>if(nxt r).kind≠3 then bj 120 r else(int 9223372036854775807 r >>= λz => .ok ((z.1:Int),z.2)))=λr=>if(nxt r).kind=3 then(int 9223372036854775807 r >>= λz => .ok ((z.1:Int),z.2))else bj 120 r:=by
  funext r;by_cases h:(nxt r).kind=3<;>simp[h]
 rw[e1];exact Lw.kind hE (by decide) (by decide) (LwN.bind (AF _ (λt ht=>by rw[ht];decide)) λn hn=>Lw.ret (a:=(n:Int)) ⟨by omega,by omega⟩) Lw.bj
theorem zL(hE:Ends e x):Lw e x gH gH isS:=by
 rw[lf];refine Lw.bind (qW hE (IH hE) (λts d=>by rw[BJ hE (by decide),se hE]) λts d z hG h=>yf (Hd.of hG hE.k0) h) λz hz=>?_;dsimp only;refine Lw.bc hE (by decide) (Lw.bind (uA hE) λs hs=>?_);dsimp only;refine Lw.bind (zP hE hs) λj hj=>?_;dsimp only;refine Lw.bind (vn hE) λw hw=>?_;dsimp only;refine Lw.bind (xu hE) λg hg=>?_;dsimp only;refine Lw.bind (xp hE) λo ho=>?_;dsimp only;refine Lw.bind (xr hE) λl hl=>Lw.ret (a := { made 8 with items:=z,frm:=j.1,join:=j.2,wher:=w,group:=g,order:=o,limit:=l }) ?_;refine⟨rfl,.inr (.inr (.inr (.inr (.inr (.inr (.inr (.inl ⟨rfl,?_⟩)))))))⟩;show nG _=true
 unfold nG;simp only[aq,decide_eq_true_eq,bA];exact⟨⟨⟨⟨⟨⟨⟨⟨⟨mC hz,hj.1⟩,hw⟩,hj.2.1⟩,hg.2⟩,hg.1⟩,ho.2⟩,ho.1⟩,hl.1⟩,hl.2⟩
theorem mf(hE:Ends e x){s:T}(hs:s ≠ [59]):One e x (λr=>isT s r&&(nxt r).kind==2) (isW s) (λ_=>True):=by
 refine⟨λd=>⟨?_,?_⟩,λt l d=>⟨λh=>?_,λ_=>trivial,λ_=>rfl⟩⟩
 ·dsimp only;rw[(gJ hE hs d).1];rfl
 ·dsimp only;rw[(gJ hE hs d).2];rfl
 ·simp only[aq]at h;exact(nN s t l d).1 h.1
theorem vx(hE:Ends e x):Lw e x cG cG isS:=
 Lw.cond (mf hE (by decide)) (LwN.ax isW.k (Dq hE)) (Lw.cond (mf hE (by decide)) (LwN.ax isW.k (Ja hE)) (Lw.cond (mf hE (by decide)) (LwN.ax isW.k (Dc hE)) (Lw.cond (mf hE (by decide)) (LwN.ax isW.k (B5 hE))
  (Lw.cond (mf hE (by decide)) (LwN.ax isW.k (AW hE)) (Lw.cond (mf hE (by decide)) (LwN.ax isW.k (zL hE)) (Lw.isT hE (by decide) (LwN.ui isW.k ⟨rfl,by simp[made]⟩) (Lw.isT hE (by decide) (LwN.ui isW.k ⟨rfl,by simp[made]⟩)
   (Lw.isT hE (by decide) (LwN.ui isW.k ⟨rfl,by simp[made]⟩) Lw.bj))))))))
end
theorem uI{s:T}{st:St}(h:parse s = .ok st):isS st:=by
 unfold parse at h
 cases hl:P11.ff s with
 | inr a=>rw[hl]at h;cases h
 | inl l=>
  rw[hl]at h;unfold P11.ff at hl;split at hl
  ·cases hl
  obtain⟨ts,rfl,hG⟩:=P11.od _ s 0 l (ag _) hl;unfold fV at h;dsimp only at h
  cases hs:cG ⟨ts ++ [⟨0,[],0+s.length⟩],0⟩with
  | error er=>rw[hs]at h;cases h
  | ok z=>
   obtain⟨y,r⟩:=z;have:=(vx (x := [⟨5,[59],0⟩]) ⟨rfl,_,_,rfl,rfl,rfl⟩ ts 0 y r hG hs).1;rw[hs]at h;have h':(if(nxt (has [59] r).2).kind≠0 then bj 120 (has [59] r).2 else .ok y:Except Er St) = .ok st:=h;split at h'
   ·cases h'
   ·cases h';exact this
end P12
namespace P11
theorem D8{c:UInt8}{t:List UInt8}{x}(h:step (c::t) = .inr x):x.2≠0/\x.1≤(c::t).length:=by
 rw[step]at h;split at h
 ·cases h
 split at h
 ·cases h
 split at h
 ·split at h
  ·cases h;exact⟨by decide,fP _⟩
  ·split at h
   ·cases h;refine⟨show(111:Int)≠0 by decide,bH List.idxOf_le_length ?_⟩;exact List.length_take_le' _ _
   ·cases h
 split at h
 ·cases h
 split at h
 ·cases h
 split at h
 ·cases h;exact⟨by decide,fP _⟩
 ·cases h
theorem wP:∀ (n:Nat) (r:List UInt8),r.length≤n->∀ (p:Nat) x,toks r p = .inr x->x.2≠0/\x.1≤p+r.length
 | _,[],_,p,x,h=>by rw[kq]at h;cases h
 | 0,_::_,hn,_,_,_=>by simp at hn
 | n+1,c::t,hn,p,x,h=>by
  cases hs:step (c::t)with
  | inr y=>
   rw[lU p hs]at h;cases h;have:=D8 hs;exact⟨this.1,by show p+y.1≤_;omega⟩
  | inl y=>
   have hp:=step_pos hs;rw[ji p hs]at h
   cases hr:toks ((c::t).drop y.1) (p+y.1)with
   | inl m=>rw[hr]at h;cases h
   | inr z=>
    rw[hr]at h;cases h;have:=wP n _ (by simp only[dh,aK]at hn hp ⊢;omega) _ _ hr;rw[dh]at this;exact⟨this.1,by omega⟩
theorem Bn:∀ (n:Nat) (r:List UInt8),r.length≤n->∀ (p:Nat) l,toks r p = .inl l->∀t∈l,t.pos≤p+r.length
 | _,[],_,p,l,h=>by rw[kq]at h;cases h;intro t ht;rw[bW.1 ht];exact ag _
 | 0,_::_,hn,_,_,_=>by simp at hn
 | n+1,c::t,hn,p,l,h=>by
  cases hs:step (c::t)with
  | inr y=>rw[lU p hs]at h;cases h
  | inl y=>
   have hp:=step_pos hs;rw[ji p hs]at h
   cases hr:toks ((c::t).drop y.1) (p+y.1)with
   | inr m=>rw[hr]at h;cases h
   | inl m=>
    rw[hr]at h;have ih:=Bn n _ (by simp only[dh,aK]at hn hp ⊢;omega) _ _ hr;rw[dh]at ih;intro u hu;obtain⟨k,o⟩:=y
    cases o with
    | none=>cases h;have:=ih u hu;dsimp only at this hp ⊢;omega
    | some w=>
     cases h;rcases aI.1 hu with rfl|hu
     ·exact Nat.le_add_right _ _
     ·have:=ih u hu;dsimp only at this hp ⊢;omega
end P11
namespace P12
open P11 (Tok)
def B(m:Nat)(r:R):Prop:=∀t∈r.l,t.pos≤m
def Pd(m:Nat){α:Type}(v:Except Er (α×R)):Prop:=match v with | .error er=>er.2≠0/\er.1≤m | .ok z=>B m z.2
def PdR(m:Nat)(v:Except Er R):Prop:=match v with | .error er=>er.2≠0/\er.1≤m | .ok r=>B m r
section
variable {m : Nat} {α β : Type}
theorem B.nxt{r:R}(h:B m r):(nxt r).pos≤m:=by
 unfold P12.nxt
 cases hl:r.l with
 | nil=>exact fP _
 | cons t l=>exact h t (by rw[hl];simp)
theorem B.ax{r:R}(h:B m r):B m (ax r):=λt ht=>h t ((aX r).suf.subset ht)
theorem B.has{s:T}{r:R}(h:B m r):B m (has s r).2:=by unfold P12.has;split;exact h.ax;exact h
theorem Pd.bj{c:Int}{r:R}(h:B m r)(hc:c≠0):Pd m (bj c r:Except Er (α×R)):=⟨hc,h.nxt⟩
theorem Pd.bind{v:Except Er (α×R)}{K:α×R->Except Er (β×R)}(h:Pd m v)(hK:∀a r,B m r->Pd m (K (a,r))):Pd m (v >>= K):=by
 cases v with
 | error er=>exact h
 | ok z=>exact hK z.1 z.2 h
theorem Pd.fN{v:Except Er R}{K:R->Except Er (β×R)}(h:PdR m v)(hK:∀r,B m r->Pd m (K r)):Pd m (v >>= K):=by
 cases v with
 | error er=>exact h
 | ok z=>exact hK z h
theorem Pd.elim{γ:Type}{o:Option γ}{a:Except Er (α×R)}{f:γ->Except Er (α×R)}(h1:Pd m a)(h2:∀c,Pd m (f c)):Pd m (o.elim a f):=by cases o;exact h1;exact h2 _
theorem Pd.ite{c:Prop}[Decidable c]{a b:Except Er (α×R)}(h1:Pd m a)(h2:Pd m b):Pd m (if c then a else b):=by split;exact h1;exact h2
theorem PdR.bc{s:T}{r:R}(h:B m r):PdR m (bc s r):=by unfold P12.bc;split;exact h.ax;exact⟨show(120:Int)≠0 by decide,h.nxt⟩
theorem PdR.opens{r:R}(h:B m r):PdR m (opens r):=by unfold P12.opens;split;exact⟨show(121:Int)≠0 by decide,h.nxt⟩;exact h
theorem Pd.int{n:Nat}{r:R}(h:B m r):Pd m (int n r):=by unfold P12.int;split;exact⟨show(123:Int)≠0 by decide,h.nxt⟩;exact h.ax
theorem Pd.name{r:R}(h:B m r):Pd m (name r):=by unfold P12.name;exact Pd.ite (Pd.bj h (by decide)) (Pd.ite (Pd.bj h (by decide)) h.ax)
theorem pw{most:Nat}{could:R->Bool}{read:R->Except Er (α×R)}(hr:∀r,B m r->Pd m (read r)):∀ (f n:Nat) (r:R),B m r->Pd m (eO most could read f n r)
 | 0,_,r,h=>Pd.bj h (by decide)
 | f+1,n,r,h=>by
  rw[l8];refine Pd.ite (Pd.bj h (by decide)) (Pd.bind (hr r h) λa r h=>Pd.ite (Pd.bind (pw hr f _ _ h.ax) λb r h=>h) h)
theorem sy{read:R->Except Er (α×R)}(hr:∀r,B m r->Pd m (read r))(r:R)(h:B m r):Pd m (within read r):=by
 rw[nZ];exact Pd.ite (Pd.bj h (by decide)) (Pd.fN (PdR.opens h) λr h=>Pd.bind (hr _ h.ax) λa r h=>Pd.fN (PdR.bc h) λr h=>h)
theorem yN(r:R)(h:B m r):Pd m (column r):=by
 rw[ki];exact Pd.bind (Pd.name h) λa r h=>Pd.ite (Pd.bind (Pd.name h.ax) λb r h=>h) h
theorem Dv{ex:R->Except Er (E×R)}(hr:∀r,B m r->Pd m (ex r))(op:Int)(r:R)(h:B m r):Pd m (en ex op r):=by
 unfold en;refine Pd.ite h.ax ?_;have:=hr r h
 cases hx:ex r with
 | error er=>rw[hx]at this;exact this
 | ok z=>rw[hx]at this;exact this
theorem KC{ex:R->Except Er (E×R)}(hr:∀r,B m r->Pd m (ex r))(op:Int)(r:R)(h:B m r):Pd m (call ex op r):=by
 rw[ss];exact Pd.bind (sy (Dv hr op) r h) λa r h=>h
theorem CN{ex:R->Except Er (E×R)}(hr:∀r,B m r->Pd m (ex r))(r:R)(h:B m r):Pd m (dZ ex r):=by
 rw[eV];refine Pd.ite (Pd.bind (Pd.int h) λa r h=>h) (Pd.ite (Pd.ite (Pd.bj h (by decide)) h.ax) (Pd.ite (yN r h) (Pd.ite (sy hr r h) (Pd.ite (Pd.elim ?_ λop=>KC hr op _ h.ax) (Pd.bj h (by decide))))));exact Pd.ite h.ax (Pd.ite h.ax (Pd.ite h.ax (Pd.bj h (by decide))))
theorem uY{ex:R->Except Er (E×R)}(hr:∀r,B m r->Pd m (ex r)):∀ (f:Nat) (r:R),B m r->Pd m (dS ex f r)
 | 0,r,h=>Pd.bj h (by decide)
 | f+1,r,h=>by
  rw[gj];exact Pd.ite (CN hr r h) (Pd.ite (Pd.bind (Pd.int h.ax) λa r h=>h) (Pd.fN (PdR.opens h) λr h=>Pd.bind (uY hr f _ h.ax) λa r h=>h))
theorem Gg{part:R->Except Er (E×R)}(hr:∀r,B m r->Pd m (part r))(ops:List (T×Int)):∀ (f:Nat) (a:E) (r:R),B m r->Pd m (kY part ops f a r)
 | 0,a,r,h=>Pd.bj h (by decide)
 | f+1,a,r,h=>by
  rw[js];exact Pd.elim h λo=>Pd.bind (hr _ h.ax) λb r h=>Gg hr ops f _ r h
theorem qx{part:R->Except Er (E×R)}(hr:∀r,B m r->Pd m (part r))(ops:List (T×Int))(r:R)(h:B m r):Pd m (binary part ops r):=by
 rw[km];exact Pd.bind (hr r h) λa r h=>Gg hr ops _ a r h
theorem JG{sum:R->Except Er (E×R)}(hr:∀r,B m r->Pd m (sum r))(r:R)(h:B m r):Pd m (test sum r):=by
 rw[k7];exact Pd.bind (hr r h) λa r h=>Pd.elim (Pd.ite h (Pd.fN (PdR.bc h.ax.has) λr h=>h)) λo=>Pd.bind (hr _ h.ax) λb r h=>h
theorem EN{tst:R->Except Er (E×R)}(hr:∀r,B m r->Pd m (tst r)):∀ (f:Nat) (r:R),B m r->Pd m (lH tst f r)
 | 0,r,h=>Pd.bj h (by decide)
 | f+1,r,h=>by
  rw[kg];exact Pd.ite (hr r h) (Pd.fN (PdR.opens h) λr h=>Pd.bind (EN hr f _ h.ax) λa r h=>h)
theorem BQ:∀ (f:Nat) (r:R),B m r->Pd m (eG f r)
 | 0,r,h=>Pd.bj h (by decide)
 | f+1,r,h=>qx (qx (EN (JG (qx (qx (uY (BQ f) _) _) _)) _) _) _ r h
theorem pE(r:R)(h:B m r):Pd m (expr r):=BQ 101 r h
theorem vL(r:R)(h:B m r):Pd m (names r):=by
 rw[qh];exact Pd.fN (PdR.bc h) λr h=>Pd.bind (pw (λr h=>Pd.name h) _ _ _ h) λa r h=>Pd.fN (PdR.bc h) λr h=>h
theorem yP(c:T)(r:R)(h:B m r):Pd m (dv c r):=Pd.ite (vL r h) h
theorem BW(n:Nat)(c:T)(r:R)(h:B m r):Pd m (ie n c r):=by
 rw[kO];exact Pd.ite (Pd.bj h (by decide)) (Pd.ite (Pd.bind (sy pE _ h.ax) λa r h=>h) (Pd.ite (Pd.fN (PdR.bc h.ax) λr h=>Pd.bind (yP c r h) λa r h=>h) (Pd.fN (PdR.bc h) λr h=>Pd.bind (yP c r h) λa r h=>h)))
theorem vt(c:T):∀ (f:Nat) (t:Tb) (k:List (List T)) (n:Nat) (nn:Bool) (r:R),B m r->Pd m (eP c f t k n nn r)
 | 0,_,_,_,_,r,h=>Pd.bj h (by decide)
 | f+1,t,k,n,nn,r,h=>by
  rw[jj];exact Pd.ite (Pd.fN (PdR.bc h.ax) λr h=>vt c f _ _ _ _ r h) (Pd.ite (Pd.bind (BW n c r h) λa r h=>vt c f _ _ _ _ r h) h)
theorem DW(r:R)(h:B m r):Pd m (typeOf r):=Pd.ite h.ax (Pd.ite h.ax (Pd.ite h.ax (Pd.bj h (by decide))))
theorem JR(t:Tb)(k:List (List T))(n:Nat)(r:R)(h:B m r):Pd m (part t k n r):=by
 rw[ov];exact Pd.ite (Pd.bind (BW _ _ r h) λa r h=>h) (Pd.ite (Pd.bj h (by decide)) (Pd.bind (Pd.name h) λa r h=>Pd.bind (DW r h) λb r h=>Pd.bind (vt _ _ _ _ _ _ r h) λc r h=>h))
theorem xI:∀ (f:Nat) (t:Tb) (k:List (List T)) (n:Nat) (r:R),B m r->Pd m (gf f t k n r)
 | 0,_,_,_,r,h=>Pd.bj h (by decide)
 | f+1,t,k,n,r,h=>by
  rw[iL];exact Pd.bind (JR t k n r h) λa r h=>Pd.ite (xI f _ _ _ _ h.ax) h
theorem Ir(u:Bool)(r:R)(h:B m r):Pd m (mkIdx u r):=by
 unfold mkIdx;refine Pd.fN (PdR.bc h) λr h=>?_;refine Pd.bind (Pd.name h) λa r h=>?_;refine Pd.fN (PdR.bc h) λr h=>?_;refine Pd.bind (Pd.name h) λb r h=>?_;exact Pd.bind (vL r h) λl r h=>h
theorem Ga(r:R)(h:B m r):Pd m (create r):=by
 rw[rj];exact Pd.ite (Pd.bind (Pd.name h.ax) λa r h=>Pd.fN (PdR.bc h) λr h=>Pd.bind (xI _ _ _ _ r h) λb r h=>Pd.fN (PdR.bc h) λr h=>h) (Pd.ite (Ir _ _ h.has) (Pd.bj h (by decide)))
theorem KA(r:R)(h:B m r):Pd m (drop r):=by
 rw[drop_eq];exact Pd.ite (Pd.bind (Pd.name h.ax) λa r h=>h) (Pd.fN (PdR.bc h) λr h=>Pd.bind (Pd.name h) λa r h=>h)
theorem BO{read:R->Except Er (α×R)}(hr:∀r,B m r->Pd m (read r))(r:R)(h:B m r):Pd m (exprs read r):=pw hr _ _ r h
theorem wN(r:R)(h:B m r):Pd m (eB r):=by
 rw[iT];exact Pd.fN (PdR.bc h) λr h=>Pd.bind (BO pE r h) λa r h=>Pd.fN (PdR.bc h) λr h=>h
theorem zq(r:R)(h:B m r):Pd m (wher r):=Pd.ite (pE _ h.ax) h
theorem Fs(r:R)(h:B m r):Pd m (insert r):=by
 rw[insert_eq];exact Pd.fN (PdR.bc h) λr h=>Pd.bind (Pd.name h) λa r h=>Pd.bind (Pd.ite (vL r h) h) λl r h=>Pd.fN (PdR.bc h) λr h=>Pd.bind (pw wN _ _ r h) λb r h=>h
theorem G0(r:R)(h:B m r):Pd m (setOf r):=by
 rw[nF];exact Pd.bind (Pd.name h) λa r h=>Pd.fN (PdR.bc h) λr h=>Pd.bind (pE r h) λb r h=>h
theorem DR(r:R)(h:B m r):Pd m (update r):=by
 rw[ob];exact Pd.bind (Pd.name h) λa r h=>Pd.fN (PdR.bc h) λr h=>Pd.bind (pw G0 _ _ r h) λb r h=>Pd.bind (zq r h) λc r h=>h
theorem Dp(r:R)(h:B m r):Pd m (ia r):=by
 rw[mT];exact Pd.fN (PdR.bc h) λr h=>Pd.bind (Pd.name h) λa r h=>Pd.bind (zq r h) λc r h=>h
theorem Kf(r:R)(h:B m r):Pd m (item r):=by
 rw[ql];exact Pd.ite h.ax (Pd.bind (pE r h) λa r h=>Pd.ite (Pd.bind (Pd.name h.ax) λb r h=>h) h)
theorem xi(r:R)(h:B m r):Pd m (source r):=by
 rw[oo];exact Pd.bind (Pd.name h) λa r h=>Pd.bind (Pd.ite h (Pd.name h)) λb r h=>h
theorem CX(r:R)(h:B m r):Pd m (fs r):=by
 rw[kD];refine Pd.bind (pE r h) λa r h=>?_;show B m (if(has [68,69,83,67] r).1=true then(has [68,69,83,67] r).2 else(has [65,83,67] (has [68,69,83,67] r).2).2)
 split
 ·exact h.has
 ·exact h.has.has
theorem Cq(r:R)(h:B m r):Pd m (gH r):=by
 rw[lf]
 exact Pd.bind (pw Kf _ _ r h) λa r h=>Pd.fN (PdR.bc h) λr h=>Pd.bind (xi r h) λs r h=>
  Pd.bind (Pd.ite (Pd.bind (xi _ h.ax) λa r h=>Pd.fN (PdR.bc h) λr h=>Pd.bind (pE r h) λb r h=>h) h) λj r h=>Pd.bind (zq r h) λw r h=>
  Pd.bind (Pd.ite (Pd.fN (PdR.bc h.ax) λr h=>pw yN _ _ r h) h) λg r h=>Pd.bind (Pd.ite (Pd.fN (PdR.bc h.ax) λr h=>BO CX r h) h) λo r h=>
  Pd.bind (Pd.ite (Pd.ite (Pd.bj h.ax (by decide)) (Pd.bind (Pd.int h.ax) λn r h=>h)) h) λl r h=>h
theorem xc(r:R)(h:B m r):Pd m (cG r):=
 Pd.ite (Ga _ h.ax) (Pd.ite (KA _ h.ax) (Pd.ite (Fs _ h.ax) (Pd.ite (DR _ h.ax) (Pd.ite (Dp _ h.ax) (Pd.ite (Cq _ h.ax) (Pd.ite h.ax (Pd.ite h.ax (Pd.ite h.ax (Pd.bj h (by decide))))))))))
end
theorem CV{s:T}{er:Er}(h:parse s = .error er):er.2≠0/\er.1≤s.length:=by
 unfold parse at h
 cases hl:P11.ff s with
 | inr a=>
  rw[hl]at h
  cases h;unfold P11.ff at hl;split at hl
  ·cases hl;exact⟨by decide,fP _⟩
  ·have:=P11.wP _ s (ag _) 0 a hl;exact⟨this.1,by have:=this.2;show a.1≤_;omega⟩
 | inl l=>
  rw[hl]at h;unfold P11.ff at hl;split at hl
  ·cases hl
  have hB:B s.length ⟨l,0⟩:=λt ht=>by have:=P11.Bn _ s (ag _) 0 l hl t ht;omega
  unfold fV at h;dsimp only at h;have hst:=xc _ hB
  cases hs:cG ⟨l,0⟩with
  | error e2=>
   rw[hs]at h hst
   cases h;exact hst
  | ok z=>
   rw[hs]at h hst;obtain⟨y,r⟩:=z;have h':(if(nxt (has [59] r).2).kind≠0 then bj 120 (has [59] r).2 else .ok y:Except Er St) = .error er:=h;split at h'
   ·cases h';exact⟨show(120:Int)≠0 by decide,B.nxt (B.has (show B s.length r from hst))⟩
   ·cases h'
end P12
namespace P11
open Go.Lib (upperB lowerB)
open P6 (dbl)
def Fo(r:List UInt8):Prop:=r = []∨∃c u,r=c::u/\(c=32∨c=41∨c=44∨c=46∨c=40)
theorem pU(p:UInt8->Bool){r:List UInt8}(hr:Fo r)(h:p 32=false/\p 41=false/\p 44=false/\p 46=false/\p 40=false){l:List UInt8}(hl:l.all p=true):(l++r).takeWhile p=l:=by
 rcases hr with rfl|⟨c,u,rfl,hc⟩
 ·rw[zg];exact P12.fJ p l (λc hc=>bA.1 hl c hc)
 ·exact oU p c u (by rcases hc with rfl|rfl|rfl|rfl|rfl<;>simp[h]) l hl
theorem GM{x:Int×List UInt8}(h:good x){r:List UInt8}(hr:Fo r):step (pr x++r) = .inl ((pr x).length,some x):=by
  obtain⟨k,u⟩:=x
  have word:∀u:List UInt8,(∃c l,u=c::l/\dm c=true)->u.all dq=true->step (u++r) = .inl (u.length,some (if words.contains (u.map upperB)then(2,u.map upperB)else(1,u.map lowerB))):=by
    rintro u hh ha;have e:=pU dq hr (by decide) ha;obtain⟨c,l,rfl,hl⟩:=hh;have hf:=mL c hl;simp only[aq,dF,bne_iff_ne]at hf;obtain⟨⟨h1,h2⟩,h3⟩:=hf;rw[aL]at e ⊢;rw[step,if_neg (by rw[h1];decide),if_neg (by simp[cL];exact λh=>absurd h.symm h2),if_neg h3,if_pos hl,e]
  rcases h with⟨rfl,hh,ha,hl,hw⟩|⟨rfl,hh,ha,hl,hw⟩|⟨rfl,hh,ha,hl⟩|⟨rfl,h0⟩|⟨rfl,hs⟩
  · dsimp only at hh ha hl hw;show step (u++r) = .inl (u.length,_)
    rw[word u hh ha,hw,hl];rfl
  · dsimp only at hh ha hl hw;show step (u++r) = .inl (u.length,_)
    rw[word u hh ha,hl,hw];rfl
  · dsimp only at hh ha hl;show step (u++r) = .inl (u.length,_)
    have e:=pU digit hr (by decide) ha
    cases u with
    | nil=>exact absurd rfl hh
    | cons c l=>
      have hd:digit c=true:=by simp only[lT,aq]at ha;exact ha.1
      have hf:=nS c hd;simp only[aq,dF,bne_iff_ne]at hf;obtain⟨⟨⟨h1,h2⟩,h3⟩,h4⟩:=hf;rw[aL]at e ⊢;rw[step,if_neg (by rw[h1];decide),if_neg (by simp[cL];exact λh=>absurd h.symm h2),if_neg h3,if_neg (by rw[h4];decide),if_pos hd,e];dsimp only;rw[hl]
  · dsimp only at h0;show step (39::(dbl u ++ [39])++r) = .inl ((39::(dbl u ++ [39])).length,_)
    rw[show 39::(dbl u ++ [39])++r=39::(dbl u++39::r) by simp,zD u r h0 (by
      rcases hr with rfl|⟨c,v,rfl,hc⟩
      · simp
      · rcases hc with rfl|rfl|rfl|rfl|rfl<;>simp)]
    simp
  · show step (u++r) = .inl (u.length,some (5,u))
    rcases hr with rfl|⟨c,v,rfl,hc⟩
    · revert u
      have:∀x∈ga,step (x ++ []) = .inl (x.length,some (5,x)):=by decide
      exact λu hs=>this u hs
    · revert u
      have:∀x∈ga,step (x++c::v) = .inl (x.length,some (5,x)):=by
        rcases hc with rfl|rfl|rfl|rfl|rfl <;>
        (unfold ga
         simp only[aI,aC,or_false,forall_eq_or_imp,forall_eq];refine⟨?_,?_,?_,?_,?_,?_,?_,?_,?_,?_,?_,?_,?_,?_,?_,?_,?_⟩<;>kernel_rfl)
      exact λu hs=>this u hs
def Lx(P:List UInt8->Prop)(s:List UInt8)(ks:List (Int×List UInt8)):Prop:=∀r p,P r->∃ts:List Tok,ts.map kt=ks/\toks (s++r) p=after ts (toks r (p+s.length))
abbrev Any(_:List UInt8):Prop:=True
theorem KJ(a b:List Tok)(x):after a (after b x)=after (a++b) x:=by cases x<;>simp[after]
theorem Lx.cat{P Q:List UInt8->Prop}{a b:List UInt8}{ka kb}(ha:Lx P a ka)(hb:Lx Q b kb)(h:∀r,Q r->P (b++r)):Lx Q (a++b) (ka++kb):=λr p hr=>by
 obtain⟨ta,h1,h2⟩:=ha (b++r) p (h r hr);obtain⟨tb,h3,h4⟩:=hb r (p+a.length) hr;exact⟨ta++tb,by rw[iS,h1,h3],by rw[aJ,h2,h4,KJ,aB,Nat.add_assoc]⟩
theorem Lx.any{P:List UInt8->Prop}{a:List UInt8}{ka}(h:Lx Any a ka):Lx P a ka:=λr p _=>h r p trivial
theorem Lx.on{Q:List UInt8->Prop}{a b:List UInt8}{ka kb}(ha:Lx Any a ka)(hb:Lx Q b kb):Lx Q (a++b) (ka++kb):=ha.cat hb λ_ _=>trivial
abbrev foC(c:UInt8):Prop:=c=32∨c=41∨c=44∨c=46∨c=40
theorem Lx.to{Q:List UInt8->Prop}{a b:List UInt8}{ka kb}{c:UInt8}(ha:Lx Fo a ka)(hb:Lx Q (c::b) kb)(hc:foC c):Lx Q (a++c::b) (ka++kb):=ha.cat hb λ_ _ => .inr ⟨c,_,rfl,hc⟩
theorem Lx.tok{x:Int×List UInt8}(h:good x):Lx Fo (pr x) [x]:=λr p hr=>by
 obtain⟨c,l,hc⟩:=Ik h;have hs:=GM h hr;refine⟨[⟨x.1,x.2,p⟩],rfl,?_⟩;rw[hc,aL]at hs;have:=iI (p:=p) (acc := []) (k:=x.1) (u:=x.2) hs;rw[mn]at this;rw[hc,aL,this,← aL,List.drop_left];rfl
theorem Lx.sp:Lx Any [32] []:=λr p _=>by
 have:=pK (c:=32) (t:=r) (n:=1) (p:=p) (acc := []) rfl;rw[mn]at this;exact⟨[],rfl,this⟩
theorem Lx.one{c:UInt8}(hc:c=40∨c=41∨c=44∨c=46∨c=42):Lx Any [c] [(5,[c])]:=λr p _=>by
 have hs:step (c::r) = .inl (1,some (5,[c])):=by rcases hc with rfl|rfl|rfl|rfl|rfl<;>kernel_rfl
 have:=iI (p:=p) (acc := []) (k:=5) (u := [c]) hs;rw[mn]at this;exact⟨[⟨5,[c],p⟩],rfl,this⟩
theorem Lx.word{w:List UInt8}(h:words.contains w=true):Lx Fo w [(2,w)]:=by
 have:∀w∈words,good (2,w):=λw hw=>by
  have key:∀w∈words,((match w with | []=>false|c::_=>dm c)&&w.all dq&&(w.map upperB==w)&&words.contains w)=true:=by decide +kernel
  have:=key w hw;simp only[aq,beq_iff_eq]at this;obtain⟨⟨⟨h1,h2⟩,h3⟩,h4⟩:=this;refine .inr (.inl ⟨rfl,?_,h2,h3,h4⟩)
  cases w with
  | nil=>cases h1
  | cons c l=>exact⟨c,l,rfl,h1⟩
 exact Lx.tok (this w (by simpa using h))
theorem Lx.sign{w:List UInt8}(h:w∈ga):Lx Fo w [(5,w)]:=Lx.tok (x:=(5,w)) (.inr (.inr (.inr (.inr ⟨rfl,h⟩))))
end P11
namespace P12
open P11 (Tok Lx Fo Any kt)
theorem CY{s:T}(h:isName s=true):P11.good (1,s):=by
 unfold isName at h;simp only[aq,bne_iff_ne,ne_eq,decide_eq_true_eq,dF]at h;obtain⟨⟨⟨h1,h2⟩,h3⟩,h4⟩:=h
 have key:∀ (l:T) (i:Nat),nK i l=true->l.all P11.dq=true/\l.map qH=l/\(i=0->∀c t,l=c::t->P11.dm c=true):=by
  intro l;induction l with
  | nil=>intro i _;exact⟨rfl,rfl,λ_ c t e=>by cases e⟩
  | cons c l ih=>
   intro i h;rw[nK,aq]at h;obtain⟨g1,g2,-⟩:=ih (i+1) h.2;have k:=P11.lF (p:=λc=>(!kE 1 c||(P11.dq c&&qH c==c))&&(!kE 0 c||(P11.dm c&&kE 1 c))) (by decide +kernel) c;simp only[aq,dM,dF,beq_iff_eq]at k
   have k1:kE 1 c=true:=by
    cases i with
    | zero=>
     rcases k.2 with k2|k2
     ·rw[h.1]at k2;cases k2
     ·exact k2.2
    | succ i=>have:=h.1;simpa[kE]using this
   rcases k.1 with k3|k3
   ·rw[k1]at k3;cases k3
   refine⟨by rw[lT,k3.1,g1];rfl,by rw[fX,k3.2,g2],λh0 c' t' e=>?_⟩
   cases e;subst h0;rcases k.2 with k2|k2
   ·rw[h.1]at k2;cases k2
   ·exact k2.1
 obtain⟨g1,g2,g3⟩:=key s 0 h4;refine .inl ⟨rfl,?_,g1,g2,h3⟩
 cases s with
 | nil=>exact absurd rfl h1
 | cons c t=>exact⟨c,t,rfl,g3 rfl c t rfl⟩
theorem fu{s:T}(h:isName s=true):Lx Fo s [(1,s)]:=Lx.tok (CY h)
theorem FX(u:Nat):P11.good (3,bQ u):=by
 obtain⟨h1,h2,c,l,h3,h4,h5⟩:=ix u u (ag _);refine .inr (.inr (.inl ⟨rfl,by show bQ u ≠ [];rw[h3];simp,bA.2 h2,?_⟩));show P11.numOf (bQ u)=bQ u
 rw[h3];exact Ah h5
theorem E0(u:Nat):Lx Fo (bQ u) [(3,bQ u)]:=Lx.tok (FX u)
def xP(i:Int):List (Int×T):=if i<0 then[(5,[45]),(3,bQ i.natAbs)]else[(3,bQ i.toNat)]
theorem BA(i:Int):Lx Fo (ee i) (xP i):=by
 unfold ee xP;by_cases h:i<0
 ·rw[if_pos h,if_pos h];obtain⟨h1,h2,c,l,h3,h4,h5⟩:=ix i.natAbs i.natAbs (ag _);refine Lx.cat (P:=λr=>∃c u,r=c::u/\P11.digit c=true) (a := [45]) (ka := [(5,[45])]) ?_ (E0 _) λr hr=>⟨c,_,by rw[h3];rfl,h2 c (by rw[h3];simp)⟩;rintro r p ⟨d,u,rfl,hd⟩
  have hs:P11.step (45::d::u) = .inl (1,.some (5,[45])):=by
   rcases Dl hd with rfl|rfl|rfl|rfl|rfl|rfl|rfl|rfl|rfl|rfl<;>kernel_rfl
  have:=P11.iI (p:=p) (acc := []) (k:=5) (u := [45]) hs;rw[P11.mn]at this;exact⟨[⟨5,[45],p⟩],rfl,this⟩
 ·rw[if_neg h,if_neg h];exact E0 _
theorem EZ{s:T}(h:s.contains 0=false):Lx Fo (P6.quote s) [(4,s)]:=Lx.tok (x:=(4,s)) (.inr (.inr (.inr (.inl ⟨rfl,h⟩))))
def zr(k i:Int)(s:T):List (Int×T):=if k=0 then[(2,[78,85,76,76])]else if k=1 then(if i=1 then[(2,[84,82,85,69])]else[(2,[70,65,76,83,69])])else if k=2 then xP i else[(4,s)]
theorem JW{k i:Int}{s:T}(h:P6.isV k i s=true):Lx Fo (P6.fU k i s) (zr k i s):=by
 unfold P6.fU zr;rw[if_pos h];split
 ·exact Lx.word (by decide)
 split
 ·split<;>exact Lx.word (by decide)
 split
 ·exact BA i
 ·refine EZ ?_;rename_i h0 h1 h2;unfold P6.isV at h;rw[if_neg h0,if_neg h1,if_neg h2]at h;split at h
  ·simp only[aq,dF]at h;exact h.2
  ·cases h
def opK(op:Int):Int×T:=(if op≤2 then 2 else 5,fb op)
def brK(b:Bool)(k:List (Int×T)):List (Int×T):=if b then(5,[40])::(k ++ [(5,[41])])else k
def ek:E->List (Int×T)
 | .none => []
 | .val k i s=>zr k i s
 | .col t n=>if t = []then[(1,n)]else[(1,t),(5,[46]),(1,n)]
 | .bin op a b=>brK (closed op a) (ek a)++opK op::brK (closed op b) (ek b)
 | .una op a=>
  if op=15 then(2,[78,79,84])::brK (closed op a) (ek a)else if op=16 then(5,[45])::brK (closed op a) (ek a)
  else if op=17 then brK (closed op a) (ek a)++ [(2,[73,83]),(2,[78,85,76,76])]else brK (closed op a) (ek a)++ [(2,[73,83]),(2,[78,79,84]),(2,[78,85,76,76])]
 | .all => [(2,[67,79,85,78,84]),(5,[40]),(5,[42]),(5,[41])]
 | .call op a=>(2,eL op)::(5,[40])::(ek a ++ [(5,[41])])
theorem E1{b:Bool}{t:T}{k:List (Int×T)}(h:Lx Fo t k):Lx Fo (mO b t) (brK b k):=by
 cases b with
 | false=>exact h
 | true=>
  have:Lx Fo _ _:=(Lx.one (c:=40) (.inl rfl)).on (h.to (c:=41) (b := []) (Lx.one (.inr (.inl rfl))).any (.inr (.inl rfl)))
  simpa[mO,brK,aJ]using this
theorem K4{op:Int}(h1:1≤op)(h2:op≤14):Lx Fo (fb op) [opK op]:=by
 have:op=1∨op=2∨op=3∨op=4∨op=5∨op=6∨op=7∨op=8∨op=9∨op=10∨op=11∨op=12∨op=13∨op=14:=by omega
 rcases this with rfl|rfl|h
 ·exact Lx.word (by decide)
 ·exact Lx.word (by decide)
 ·have hs:fb op∈P11.ga:=by rcases h with rfl|rfl|rfl|rfl|rfl|rfl|rfl|rfl|rfl|rfl|rfl|rfl<;>decide
  have hk:opK op=(5,fb op):=by unfold opK;rw[if_neg (by omega)]
  rw[hk];exact Lx.sign hs
theorem jT{Q:T->Prop}{b:T}{kb}(h:Lx Q b kb):Lx Q (32::b) kb:=Lx.sp.on h
theorem K5{op:Int}(h1:20≤op)(h2:op≤23):Lx Fo (eL op) [(2,eL op)]:=by
 have:op=20∨op=21∨op=22∨op=23:=by omega
 rcases this with rfl|rfl|rfl|rfl<;>exact Lx.word (by decide)
theorem gG:∀e:E,isE e=true->Lx Fo (text e) (ek e)
 | .none,h=>by cases h
 | .val k i s,h=>by simp only[isE,aq]at h;exact JW h.1.1
 | .col t n,h=>by
  simp only[isE,aq]at h;unfold text ek;split
  ·exact fu h.1
  ·rename_i ht
   have htn:isName t=true:=by
    have:=h.2;unfold cf at this;simpa[ht]using this
   have:Lx Fo _ _:=(fu htn).to (c:=46) (b:=n) ((Lx.one (c:=46) (.inr (.inr (.inr (.inl rfl))))).on (fu h.1)) (.inr (.inr (.inr (.inl rfl))))
   simpa[aJ]using this
 | .bin op a b,h=>by
  simp only[isE,aq,decide_eq_true_eq]at h;obtain⟨⟨⟨h1,h2⟩,ha⟩,hb⟩:=h;have hA:=E1 (b:=closed op a) (gG a ha);have hB:=E1 (b:=closed op b) (gG b hb);have:Lx Fo _ _:=hA.to (c:=32) (b:=fb op++32::mO (closed op b) (text b)) (jT ((K4 h1 h2).to (c:=32) (jT hB) (.inl rfl))) (.inl rfl)
  simpa[text,ek,aJ]using this
 | .una op a,h=>by
  simp only[isE,aq,decide_eq_true_eq]at h;have hA:=E1 (b:=closed op a) (gG a h.2);unfold text ek;split
  ·have:Lx Fo _ _:=(Lx.word (w := [78,79,84]) (by decide)).to (c:=32) (jT hA) (.inl rfl)
   simpa[aJ]using this
  split
  ·have:Lx Fo _ _:=(Lx.sign (w := [45]) (by decide)).to (c:=32) (jT hA) (.inl rfl)
   simpa[aJ]using this
  have hn:Lx Fo (32 :: [78,85,76,76]) [(2,[78,85,76,76])]:=jT (Lx.word (by decide));split
  ·have:Lx Fo _ _:=hA.to (c:=32) (jT ((Lx.word (w := [73,83]) (by decide)).to (c:=32) hn (.inl rfl))) (.inl rfl)
   simpa[aJ]using this
  ·have:Lx Fo _ _:=hA.to (c:=32) (jT ((Lx.word (w := [73,83]) (by decide)).to (c:=32) (jT ((Lx.word (w := [78,79,84]) (by decide)).to (c:=32) hn (.inl rfl))) (.inl rfl))) (.inl rfl)
   simpa[aJ]using this
 | .all,_=>by
  have:Lx Fo _ _:=(Lx.word (w := [67,79,85,78,84]) (by decide)).to (c:=40) (b := [42,41]) ((Lx.one (c:=40) (.inl rfl)).on ((Lx.one (c:=42) (.inr (.inr (.inr (.inr rfl))))).on (Lx.one (c:=41) (.inr (.inl rfl))))).any (.inr (.inr (.inr (.inr rfl))))
  exact this
 | .call op a,h=>by
  simp only[isE,aq,decide_eq_true_eq]at h;have:Lx Fo _ _:=(K5 h.1.1 h.1.2).to (c:=40) (b:=text a ++ [41]) ((Lx.one (c:=40) (.inl rfl)).on ((gG a h.2).to (c:=41) (b := []) (Lx.one (.inr (.inl rfl))).any (.inr (.inl rfl)))) (.inr (.inr (.inr (.inr rfl))))
  simpa[text,ek,aJ]using this
end P12
namespace P12
open P11 (Tok kt)
def Rs{α:Type}(v:Except Er (α×R))(a:α)(l:List Tok)(d:Nat):Prop:=v = .ok (a,⟨l,d⟩)∨∃p,v = .error (p,121)
theorem Rs.bind{α β:Type}{v:Except Er (α×R)}{a:α}{l:List Tok}{d:Nat}{K:α×R->Except Er (β×R)}{b:β}{l2:List Tok}{d2:Nat}(h:Rs v a l d)(hK:Rs (K (a,⟨l,d⟩)) b l2 d2):Rs (v >>= K) b l2 d2:=by
 rcases h with h|⟨p,h⟩
 ·rw[h];exact hK
 ·rw[h];exact .inr ⟨p,rfl⟩
theorem Rs.ok{α:Type}{a:α}{l:List Tok}{d:Nat}:Rs (.ok (a,⟨l,d⟩)) a l d := .inl rfl
theorem Rs.map{α β:Type}{v:Except Er (α×R)}{a:α}{l:List Tok}{d:Nat}{f:α->β}(h:Rs v a l d):Rs (v >>= λz => .ok (f z.1,z.2)) (f a) l d:=h.bind Rs.ok
def Nop(S:List T)(l:List Tok):Prop:=∀s∈S,∀d,isT s ⟨l,d⟩=false
theorem Nop.sub{S S':List T}{l:List Tok}(h:Nop S l)(hs:∀s∈S',s∈S):Nop S' l:=λs h'=>h s (hs s h')
theorem eh{S:List T}{k:Int}{u:T}{p:Nat}{l:List Tok}(h:u∉S):Nop S (⟨k,u,p⟩::l):=λs hs d=>by
 simp only[isT,nxt,dV,fz,beq_eq_false_iff_ne];exact .inr λe=>h (e▸hs)
theorem oz{S:List T}{t:Tok}{l:List Tok}(h:t.kind=0):Nop S (t::l):=λs hs d=>by
 simp[isT,nxt,h]
theorem eI{s:T}{k:Int}{p:Nat}{l:List Tok}{d:Nat}(h:k=2∨k=5):isT s ⟨⟨k,s,p⟩::l,d⟩=true:=by
 rcases h with rfl|rfl<;>simp[isT,nxt]
theorem bR{k:Int}{s:T}{p:Nat}{l:List Tok}{d:Nat}(h:k≠0):ax ⟨⟨k,s,p⟩::l,d⟩=⟨l,d⟩:=by rw[dC (by exact h)];rfl
theorem di{s:T}{k:Int}{p:Nat}{l:List Tok}{d:Nat}(h:k=2∨k=5):bc s ⟨⟨k,s,p⟩::l,d⟩ = .ok ⟨l,d⟩:=by
 unfold bc;rw[eI h,if_pos rfl,bR (by rcases h with rfl|rfl<;>decide)]
abbrev xL(ops:List (T×Int)):List T:=ops.map (·.1)
theorem tI{ops:List (T×Int)}{l:List Tok}(h:Nop (xL ops) l)(d:Nat):(ops.find? λo=>isT o.1 ⟨l,d⟩)=none:=
 ua.2 λo ho=>by rw[h o.1 (DL.2 ⟨o,ho,rfl⟩) d];simp
theorem jh{part:R->Except Er (E×R)}{ops:List (T×Int)}{r:R}{e:E}{l:List Tok}{d:Nat}(h:Rs (part r) e l d)(hn:Nop (xL ops) l)(hl:0<l.length):Rs (binary part ops r) e l d:=by
 rw[km];refine h.bind ?_;show Rs (kY part ops l.length e ⟨l,d⟩) e l d
 obtain⟨n,hn2⟩:∃n,l.length=n+1:=⟨l.length-1,by omega⟩;rw[hn2,js];show Rs ((ops.find? λo=>isT o.1 ⟨l,d⟩).elim (.ok (e,⟨l,d⟩)) _) e l d
 rw[tI hn d];exact Rs.ok
theorem mX{part:R->Except Er (E×R)}{ops:List (T×Int)}{r:R}{a b:E}{t:Tok}{l l2:List Tok}{d:Nat}{o:T×Int}(h:Rs (part r) a (t::l) d)(ho:(ops.find? λo=>isT o.1 ⟨[t],d⟩) = .some o)(hb:Rs (part ⟨l,d⟩) b l2 d)(hn:Nop (xL ops) l2)(hl:0<l.length)(hl2:0<l2.length):Rs (binary part ops r) (E.bin o.2 a b) l2 d:=by
 rw[km];refine h.bind ?_;show Rs (kY part ops (l.length+1) a ⟨t::l,d⟩) _ l2 d
 rw[js];show Rs ((ops.find? λo=>isT o.1 ⟨[t],d⟩).elim (.ok (a,⟨t::l,d⟩)) _) _ l2 d
 rw[ho];have hk:t.kind≠0:=isW.k t ((nN o.1 t [] d).1 (by simpa using pP ho));show Rs (part (ax ⟨t::l,d⟩) >>= λz=>kY part ops l.length (E.bin o.2 a z.1) z.2) _ l2 d
 rw[dC (show(nxt ⟨t::l,d⟩).kind≠0 from hk)];refine Rs.bind (show Rs (part ⟨l,d⟩) b l2 d from hb) ?_;obtain⟨n,hn2⟩:∃n,l.length=n+1:=⟨l.length-1,by omega⟩;show Rs (kY part ops l.length (E.bin o.2 a b) ⟨l2,d⟩) _ l2 d
 rw[hn2,js];show Rs ((ops.find? λo=>isT o.1 ⟨l2,d⟩).elim (.ok (E.bin o.2 a b,⟨l2,d⟩)) _) _ l2 d
 rw[tI hn d];exact Rs.ok
def n1:List T := [[46]]
def n2:List T:=n1++xL re
def n3:List T:=n2++xL rA
def n4:List T:=n3++xL kP ++ [[73,83]]
def n5:List T:=n4++xL ry
def n6:List T:=n5++xL sW
theorem Bl{sum:R->Except Er (E×R)}{r:R}{e:E}{l:List Tok}{d:Nat}(h:Rs (sum r) e l d)(hn:Nop n4 l):Rs (test sum r) e l d:=by
 rw[k7];refine h.bind ?_;show Rs ((kP.find? λo=>isT o.1 ⟨l,d⟩).elim _ _) e l d
 rw[tI (hn.sub (by decide)) d];show Rs (if isT [73,83] ⟨l,d⟩=false then .ok (e,⟨l,d⟩)else _) e l d
 rw[hn [73,83] (by decide) d];exact Rs.ok
theorem DS{tst:R->Except Er (E×R)}{r:R}{f:Nat}{e:E}{l:List Tok}{d:Nat}(h:Rs (tst r) e l d)(hn:isT [78,79,84] r=false):Rs (lH tst (f+1) r) e l d:=by
 rw[kg];dsimp only;rw[if_pos hn];exact h
section
variable {f : Nat} {r : R} {e : E} {l : List Tok} {d : Nat}
theorem up6(h:Rs (Jk (eG f) (f+1) r) e l d)(hn:Nop n6 l)(hl:0<l.length):Rs (eG (f+1) r) e l d:=jh h (hn.sub (by decide)) hl
theorem up5(h:Rs (lH (oS (eG f) (f+1)) (f+1) r) e l d)(hn:Nop n6 l)(hl:0<l.length):Rs (eG (f+1) r) e l d:=up6 (jh h (hn.sub (by decide)) hl) hn hl
theorem up4(h:Rs (oS (eG f) (f+1) r) e l d)(hr:isT [78,79,84] r=false)(hn:Nop n6 l)(hl:0<l.length):Rs (eG (f+1) r) e l d:=up5 (DS h hr) hn hl
theorem up3(h:Rs (GL (eG f) (f+1) r) e l d)(hr:isT [78,79,84] r=false)(hn:Nop n6 l)(hl:0<l.length):Rs (eG (f+1) r) e l d:=up4 (Bl h (hn.sub (by decide))) hr hn hl
theorem up2(h:Rs (sS (eG f) (f+1) r) e l d)(hr:isT [78,79,84] r=false)(hn:Nop n6 l)(hl:0<l.length):Rs (eG (f+1) r) e l d:=up3 (jh h (hn.sub (by decide)) hl) hr hn hl
theorem up1(h:Rs (dS (eG f) (f+1) r) e l d)(hr:isT [78,79,84] r=false)(hn:Nop n6 l)(hl:0<l.length):Rs (eG (f+1) r) e l d:=up2 (jh h (hn.sub (by decide)) hl) hr hn hl
end
theorem Rs.opens{β:Type}{K:R->Except Er (β×R)}{b:β}{l l2:List Tok}{d d2:Nat}(hd:d≤100)(h:d+1≤100->Rs (K ⟨l,d+1⟩) b l2 d2):Rs (opens ⟨l,d⟩ >>= K) b l2 d2:=by
 by_cases h1:d=100
 ·subst h1;exact .inr ⟨_,rfl⟩
 ·have:P12.opens ⟨l,d⟩ = .ok ⟨l,d+1⟩:=by unfold P12.opens;rw[if_neg (show ¬ d=100 from h1)]
  rw[this];exact h (by omega)
theorem qV{α:Type}{read:R->Except Er (α×R)}{a:α}{p q:Nat}{l l2:List Tok}{d:Nat}(hd:d≤100)(h:d+1≤100->Rs (read ⟨l,d+1⟩) a (⟨5,[41],q⟩::l2) (d+1)):Rs (within read ⟨⟨5,[40],p⟩::l,d⟩) a l2 d:=by
 rw[nZ];dsimp only;rw[eI (.inr rfl),if_neg (by decide)];refine Rs.opens hd λh1=>?_;rw[bR (by decide)];refine(h h1).bind ?_;dsimp only;rw[di (.inr rfl)];exact Rs.ok
theorem mS:∀ (e:E),isE e=true->∃ (k:Int) (s:T) (m:List (Int×T)),ek e=(k,s)::m/\k≠0
 | .none,h=>by cases h
 | .val k i s,h=>by
  unfold ek zr xP;repeat' split
  all_goals exact⟨_,_,_,rfl,by decide⟩
 | .col t n,h=>by unfold ek;split<;>exact⟨_,_,_,rfl,by decide⟩
 | .bin op a b,h=>by
  simp only[isE,aq]at h;unfold ek brK;split
  ·exact⟨_,_,_,rfl,by decide⟩
  ·obtain⟨k,s,m,e1,e2⟩:=mS a h.1.2;rw[e1];exact⟨_,_,_,rfl,e2⟩
 | .una op a,h=>by
  simp only[isE,aq]at h;obtain⟨k,s,m,e1,e2⟩:=mS a h.2;unfold ek brK;split
  ·exact⟨_,_,_,rfl,by decide⟩
  split
  ·exact⟨_,_,_,rfl,by decide⟩
  split
  ·split
   ·exact⟨_,_,_,rfl,by decide⟩
   ·rw[e1];exact⟨_,_,_,rfl,e2⟩
  ·split
   ·exact⟨_,_,_,rfl,by decide⟩
   ·rw[e1];exact⟨_,_,_,rfl,e2⟩
 | .all,h=>⟨_,_,_,rfl,by decide⟩
 | .call op a,h=>⟨_,_,_,rfl,by decide⟩
theorem map_cons{l:List Tok}{k:Int}{s:T}{m:List (Int×T)}(h:l.map kt=(k,s)::m):∃p l',l=⟨k,s,p⟩::l'/\l'.map kt=m:=by
 cases l with
 | nil=>cases h
 | cons t l=>
  simp only[fX,List.cons.injEq,kt,Prod.mk.injEq]at h;obtain⟨⟨rfl,rfl⟩,h2⟩:=h;exact⟨t.pos,l,rfl,h2⟩
theorem el{l:List Tok}{a b:List (Int×T)}(h:l.map kt=a++b):∃l1 l2,l=l1++l2/\l1.map kt=a/\l2.map kt=b:=by
 obtain⟨l1,l2,rfl,h1,h2⟩:=List.map_eq_append_iff.1 h;exact⟨l1,l2,rfl,h1,h2⟩
def bare:E->Bool
 | .val _ _ _=>true
 | .col _ _=>true
 | .all=>true
 | .call _ _=>true
 | _=>false
abbrev AtE(e:E):Prop:=∀ (f d:Nat) (l1 l2:List Tok),l1.map kt=ek e->d≤100->101≤f+d->Nop n6 l2->0<l2.length->Rs (eG f ⟨l1++l2,d⟩) e l2 d
abbrev AtF(e:E)(ks:List (Int×T)):Prop:=∀ (f g d:Nat) (l1 l2:List Tok),l1.map kt=ks->d≤100->100≤f+d->101≤g+d->Nop n1 l2->0<l2.length->Rs (dS (eG f) g ⟨l1++l2,d⟩) e l2 d
theorem fE{ex:R->Except Er (E×R)}{g:Nat}{t:Tok}{l l2:List Tok}{d:Nat}{e:E}(ht:t.text ≠ [45]∨(t.kind≠2/\t.kind≠5))(h:Rs (dZ ex ⟨t::l,d⟩) e l2 d):Rs (dS ex (g+1) ⟨t::l,d⟩) e l2 d:=by
 rw[gj];dsimp only
 have:isT [45] ⟨t::l,d⟩=false:=by
  simp only[isT,nxt,dV,fz,beq_eq_false_iff_ne,kZ];rcases ht with ht|⟨h1,h2⟩
  ·exact .inr ht
  ·exact .inl ⟨h1,h2⟩
 rw[this,if_pos rfl];exact h
theorem KZ{ex:R->Except Er (E×R)}{s:T}{p:Nat}{l:List Tok}{d:Nat}(h:dec s≤9223372036854775807):dZ ex ⟨⟨3,s,p⟩::l,d⟩ = .ok (E.val 2 (dec s) [],⟨l,d⟩):=by
 rw[eV]
 have e1:int 9223372036854775807 ⟨⟨3,s,p⟩::l,d⟩ = .ok (dec s,⟨l,d⟩):=by
  unfold int;rw[bR (by decide)];exact if_neg (by show ¬ 9223372036854775807<dec s;omega)
 show(int 9223372036854775807 ⟨⟨3,s,p⟩::l,d⟩ >>= _)=_
 rw[e1];rfl
theorem tU{t n:T}(hn:n.length≤24)(ht:t.length≤24){l1 l2:List Tok}{d:Nat}(h:l1.map kt=if t = []then[(1,n)]else[(1,t),(5,[46]),(1,n)])(hs:Nop n1 l2):column ⟨l1++l2,d⟩ = .ok (.col t n,⟨l2,d⟩):=by
 have nm:∀ {s:T} {p:Nat} {l:List Tok},s.length≤24->name ⟨⟨1,s,p⟩::l,d⟩ = .ok (s,⟨l,d⟩):=fun {s p l} h=>by
  unfold name;rw[if_neg (show ¬ (nxt ⟨⟨1,s,p⟩::l,d⟩).kind≠1 from λh=>h rfl),bR (by decide)];exact if_neg (show ¬ 24<s.length by omega)
 rw[ki];split at h
 ·rename_i h0;obtain⟨p,l',rfl,h2⟩:=map_cons h;have:l' = []:=by simpa using h2
  subst this h0;dsimp only[aL,bM];rw[nm hn];show(if isT [46] ⟨l2,d⟩=true then _ else _)=_
  rw[hs [46] (by decide) d];rfl
 ·obtain⟨p,l',rfl,h2⟩:=map_cons h;obtain⟨p2,l3,rfl,h3⟩:=map_cons h2;obtain⟨p3,l4,rfl,h4⟩:=map_cons h3;have:l4 = []:=by simpa using h4
  subst this;dsimp only[aL,bM];rw[nm ht];show(if isT [46] ⟨⟨5,[46],p2⟩::⟨1,n,p3⟩::l2,d⟩=true then(name (ax ⟨⟨5,[46],p2⟩::⟨1,n,p3⟩::l2,d⟩) >>= λw => .ok (E.col t w.1,w.2))else .ok (E.col [] t,⟨⟨5,[46],p2⟩::⟨1,n,p3⟩::l2,d⟩))=_
  rw[eI (.inr rfl),if_pos rfl,bR (by decide),nm hn];rfl
theorem cT{s:T}(h:isName s=true):s.length≤24:=by
 unfold isName at h;simp only[aq,decide_eq_true_eq]at h;exact h.1.1.2
theorem iv{s:T}(h:cf s=true):s.length≤24:=by
 unfold cf at h;simp only[dM,beq_iff_eq]at h;rcases h with rfl|h
 ·simp
 ·exact cT h
theorem qu{i:Nat}:dec (bQ i)=i:=(ix i i (ag _)).1
theorem uG{ex:R->Except Er (E×R)}{op:Int}{p q:Nat}{l l2:List Tok}{d:Nat}{z:Bool×E}(h1:20≤op)(h2:op≤23)(hd:d≤100)(h:d+1≤100->Rs (en ex op ⟨l,d+1⟩) z (⟨5,[41],q⟩::l2) (d+1))(p2:Nat):
  Rs (dZ ex ⟨⟨2,eL op,p⟩::⟨5,[40],p2⟩::l,d⟩) (if z.1 then .all else .call op z.2) l2 d:=by
 have hf:nQ (eL op) = .some op:=by
  have:op=20∨op=21∨op=22∨op=23:=by omega
  rcases this with rfl|rfl|rfl|rfl<;>rfl
 have hp:isT [40] ⟨⟨2,eL op,p⟩::⟨5,[40],p2⟩::l,d⟩=false:=by
  have:op=20∨op=21∨op=22∨op=23:=by omega
  rcases this with rfl|rfl|rfl|rfl<;>rfl
 rw[eV];show Rs (if isT [40] ⟨⟨2,eL op,p⟩::⟨5,[40],p2⟩::l,d⟩=true then _ else(nQ (eL op)).elim _ λop=>call ex op (ax ⟨⟨2,eL op,p⟩::⟨5,[40],p2⟩::l,d⟩)) _ l2 d
 rw[hp,hf,if_neg (by decide)];show Rs (call ex op (ax ⟨⟨2,eL op,p⟩::⟨5,[40],p2⟩::l,d⟩)) _ l2 d
 rw[bR (by decide),ss];exact(qV hd h).bind Rs.ok
theorem BS(e:E)(he:isE e=true):∀k s m,ek e=(k,s)::m->s = [42]->(k≠2/\k≠5):=by
 induction e with
 | none=>cases he
 | val k i s=>
  intro k' s' m' h1 h2;subst h2;unfold ek zr xP at h1;repeat' split at h1
  all_goals first
   | (injection h1 with h1 _;injection h1 with h3 h4;exact absurd h4 (by decide))
   | (injection h1 with h1 _;injection h1 with h3 h4;rw[← h3];decide)
 | col t n=>
  intro k' s' m' h1 h2;unfold ek at h1;split at h1<;>(injection h1 with h1 _;injection h1 with h3 _;rw[← h3];decide)
 | una op a ih=>
  intro k' s' m' h1 h2;simp only[isE,aq]at he;subst h2;unfold ek brK at h1;obtain⟨k0,s0,m0,e0,-⟩:=mS a he.2;have ih':=ih he.2 _ _ _ e0;rw[e0]at h1;repeat' split at h1
  all_goals(injection h1 with h1 _;injection h1 with h3 h4;first|exact absurd h4 (by decide)|exact h3▸ih' h4)
 | bin op a b ih _=>
  intro k' s' m' h1 h2;simp only[isE,aq]at he;subst h2;unfold ek brK at h1;obtain⟨k0,s0,m0,e0,-⟩:=mS a he.1.2;have ih':=ih he.1.2 _ _ _ e0;rw[e0]at h1;split at h1;all_goals(injection h1 with h1 _;injection h1 with h3 h4;first|exact absurd h4 (by decide)|exact h3▸ih' h4)
 | call op a ih=>
  intro k' s' m' h1 h2;simp only[isE,aq,decide_eq_true_eq]at he;subst h2;unfold ek at h1;injection h1 with h1 _;injection h1 with h3 h4
  have:op=20∨op=21∨op=22∨op=23:=by omega
  rcases this with rfl|rfl|rfl|rfl<;>exact absurd h4 (by decide)
 | all=>
  intro k' s' m' h1 h2;subst h2;injection h1 with h1 _;injection h1 with h3 h4;exact absurd h4 (by decide)
theorem sf:∀ (e:E),isE e=true->bare e=true->(∀op a,e = .call op a->AtE a)->AtF e (ek e)
 | .val k i s,h,_,_=>λf g d l1 l2 hl hd hf hg hs h2=>by
  simp only[isE,aq,decide_eq_true_eq]at h;obtain⟨g,rfl⟩:∃g',g=g'+1:=⟨g-1,by omega⟩;unfold ek zr xP at hl;have hv:=h.1.1;unfold P6.isV at hv;split at hl
  ·rename_i hk;subst hk;obtain⟨p,l',rfl,h3⟩:=map_cons hl;obtain rfl:l' = []:=by simpa using h3
   simp only[if_true,aq,beq_iff_eq]at hv;obtain⟨rfl,rfl⟩:=hv;refine fE (.inl (show([78,85,76,76]:T)≠ [45] by decide)) (.inl ?_);rw[eV];exact congrArg (λr=>dB (E.val 0 0 [],r)) (bR (by decide))
  split at hl
  ·rename_i hk0 hk;subst hk;simp only[if_neg hk0,if_true,aq,dM,beq_iff_eq]at hv;obtain⟨hi,rfl⟩:=hv;split at hl
   ·rename_i h1;subst h1;obtain⟨p,l',rfl,h3⟩:=map_cons hl;obtain rfl:l' = []:=by simpa using h3
    refine fE (.inl (show([84,82,85,69]:T)≠ [45] by decide)) (.inl ?_);rw[eV];exact congrArg (λr=>dB (E.val 1 1 [],r)) (bR (by decide))
   ·rename_i h1;obtain rfl:i=0:=by rcases hi with hi|hi;exact hi;exact absurd hi h1
    obtain⟨p,l',rfl,h3⟩:=map_cons hl;obtain rfl:l' = []:=by simpa using h3
    refine fE (.inl (show([70,65,76,83,69]:T)≠ [45] by decide)) (.inl ?_);rw[eV];exact congrArg (λr=>dB (E.val 1 0 [],r)) (bR (by decide))
  split at hl
  ·rename_i hk0 hk1 hk;subst hk;simp only[if_neg hk0,if_neg hk1,if_true,beq_iff_eq]at hv;subst hv;split at hl
   ·rename_i hneg;obtain⟨p,l',rfl,h3⟩:=map_cons hl;obtain⟨p2,l',rfl,h4⟩:=map_cons h3;obtain rfl:l' = []:=by simpa using h4
    rw[gj];dsimp only[aL,bM];rw[eI (.inr rfl),if_neg (by decide)];show Rs (int 9223372036854775808 (ax ⟨⟨5,[45],p⟩::⟨3,bQ i.natAbs,p2⟩::l2,d⟩) >>= λz => .ok (E.val 2 (-(z.1:Int)) [],z.2)) _ l2 d
    have e1:int 9223372036854775808 (ax ⟨⟨5,[45],p⟩::⟨3,bQ i.natAbs,p2⟩::l2,d⟩) = .ok (i.natAbs,⟨l2,d⟩):=by
     rw[bR (by decide)];unfold int;rw[bR (by decide)];show(if 9223372036854775808<dec (bQ i.natAbs)then _ else dB (dec (bQ i.natAbs),_))=_
     rw[qu,if_neg (by omega)]
    rw[e1];refine .inl ?_;show dB (E.val 2 (-(i.natAbs:Int)) [],_)=_
    rw[show -(i.natAbs:Int)=i by omega]
   ·rename_i hneg;obtain⟨p,l',rfl,h3⟩:=map_cons hl;obtain rfl:l' = []:=by simpa using h3
    refine fE (.inr ⟨by show(3:Int)≠2;decide,by show(3:Int)≠5;decide⟩) (.inl ?_);rw[KZ (by rw[qu];omega),qu,show((i.toNat:Nat):Int)=i by omega];rfl
  ·rename_i hk0 hk1 hk2;rw[if_neg hk0,if_neg hk1,if_neg hk2]at hv;split at hv
   ·rename_i hk;subst hk;simp only[aq,beq_iff_eq,decide_eq_true_eq]at hv;obtain⟨⟨rfl,h40⟩,-⟩:=hv;obtain⟨p,l',rfl,h3⟩:=map_cons hl;obtain rfl:l' = []:=by simpa using h3
    refine fE (.inr ⟨by show(4:Int)≠2;decide,by show(4:Int)≠5;decide⟩) (.inl ?_);rw[eV];show(if 40<s.length then bj 122 ⟨⟨4,s,p⟩::([]++l2),d⟩else dB (E.val 3 0 s,ax ⟨⟨4,s,p⟩::([]++l2),d⟩))=_
    rw[if_neg (by omega),bR (by decide)];rfl
   ·cases hv
 | .col t n,h,_,_=>λf g d l1 l2 hl hd hf hg hs h2=>by
  simp only[isE,aq]at h;obtain⟨g,rfl⟩:∃g',g=g'+1:=⟨g-1,by omega⟩;have hc:=tU (d:=d) (cT h.1) (iv h.2) hl hs
  have hh:∃s p l',l1=⟨1,s,p⟩::l':=by
   unfold ek at hl;split at hl
   ·obtain⟨p,l',rfl,-⟩:=map_cons hl;exact⟨_,_,_,rfl⟩
   ·obtain⟨p,l',rfl,-⟩:=map_cons hl;exact⟨_,_,_,rfl⟩
  obtain⟨s,p,l',rfl⟩:=hh;refine fE (.inr ⟨by show(1:Int)≠2;decide,by show(1:Int)≠5;decide⟩) (.inl ?_);rw[eV];exact hc
 | .all,_,_,_=>λf g d l1 l2 hl hd hf hg hs h2=>by
  obtain⟨g,rfl⟩:∃g',g=g'+1:=⟨g-1,by omega⟩;obtain⟨p,l',rfl,h3⟩:=map_cons hl;obtain⟨p2,l',rfl,h4⟩:=map_cons h3;obtain⟨p3,l',rfl,h5⟩:=map_cons h4;obtain⟨p4,l',rfl,h6⟩:=map_cons h5;obtain rfl:l' = []:=by simpa using h6
  show Rs (dS (eG f) (g+1) ⟨⟨2,[67,79,85,78,84],p⟩::⟨5,[40],p2⟩::⟨5,[42],p3⟩::⟨5,[41],p4⟩::l2,d⟩) E.all l2 d
  refine fE (.inl (show([67,79,85,78,84]:T)≠ [45] by decide)) ?_;refine uG (op:=20) (z:=(true,E.none)) (q:=p4) (by decide) (by decide) hd (λ_ => .inl ?_) p2;unfold en;rw[if_pos ⟨rfl,eI (.inr rfl)⟩,bR (by decide)]
 | .call op a,h,_,hA=>λf g d l1 l2 hl hd hf hg hs h2=>by
  simp only[isE,aq,decide_eq_true_eq]at h;obtain⟨g,rfl⟩:∃g',g=g'+1:=⟨g-1,by omega⟩;obtain⟨p,l',rfl,h3⟩:=map_cons hl;obtain⟨p2,l',rfl,h4⟩:=map_cons h3;obtain⟨la,l',rfl,ha,h5⟩:=el h4;obtain⟨p4,l',rfl,h6⟩:=map_cons h5;obtain rfl:l' = []:=by simpa using h6
  have hfn:eL op ≠ [45]:=by
   have:op=20∨op=21∨op=22∨op=23:=by omega
   rcases this with rfl|rfl|rfl|rfl<;>decide
  rw[show(⟨2,eL op,p⟩::⟨5,[40],p2⟩::(la ++ [⟨5,[41],p4⟩])++l2:List Tok)=⟨2,eL op,p⟩::⟨5,[40],p2⟩::(la++(⟨5,[41],p4⟩::l2)) by simp];refine fE (.inl hfn) ?_;refine uG (z:=(false,a)) (q:=p4) h.1.1 h.1.2 hd (λh1=>?_) p2;obtain⟨k,s,m,e1,e2⟩:=mS a h.2
  have h42:isT [42] ⟨la++⟨5,[41],p4⟩::l2,d+1⟩=false:=by
   rw[e1]at ha;obtain⟨p5,l5,rfl,-⟩:=map_cons ha;have hk:=BS a h.2 k s m e1;simp only[aL,isT,nxt,dV,fz,beq_eq_false_iff_ne,kZ];by_cases hs42:s = [42]
   ·exact .inl (hk hs42)
   ·exact .inr hs42
  unfold en;rw[if_neg (by rw[h42];simp)];have hx:=hA op a rfl f (d+1) la (⟨5,[41],p4⟩::l2) ha h1 (by omega) (eh (show([41]:T)∉n6 by decide)) (by simp);rcases hx with hx|⟨pp,hx⟩
  ·rw[hx];exact .inl rfl
  ·rw[hx];exact .inr ⟨pp,rfl⟩
theorem rn{op:Int}{e:E}(h:isE e=true)(hA:AtE e)(hC:∀o a,e = .call o a->AtE a):AtF e (brK (closed op e) (ek e)):=by
 cases hc:closed op e with
 | false=>
  refine sf e h ?_ hC
  cases e with
  | none=>cases h
  | una _ _=>cases hc
  | bin _ _ _=>cases hc
  | _=>rfl
 | true=>
  intro f g d l1 l2 hl hd hf hg hs h2;obtain⟨g,rfl⟩:∃g',g=g'+1:=⟨g-1,by omega⟩;obtain⟨p,l',rfl,h3⟩:=map_cons (show l1.map kt=(5,[40])::(ek e ++ [(5,[41])])from hl);obtain⟨la,l',rfl,ha,h4⟩:=el h3;obtain⟨p4,l',rfl,h5⟩:=map_cons h4;obtain rfl:l' = []:=by simpa using h5
  rw[show(⟨5,[40],p⟩::(la ++ [⟨5,[41],p4⟩])++l2:List Tok)=⟨5,[40],p⟩::(la++(⟨5,[41],p4⟩::l2)) by simp];refine fE (.inl (show([40]:T)≠ [45] by decide)) ?_;rw[eV];show Rs (within (eG f) ⟨⟨5,[40],p⟩::(la++(⟨5,[41],p4⟩::l2)),d⟩) e l2 d
  exact qV (q:=p4) hd λh1=>hA f (d+1) la _ ha h1 (by omega) (eh (show([41]:T)∉n6 by decide)) (by simp)
end P12
namespace P12
open P11 (Tok kt)
theorem BX{op:Int}{e:E}(h:isE e=true):∃ (k:Int) (s:T) (m:List (Int×T)),brK (closed op e) (ek e)=(k,s)::m/\k≠0/\((k=2∨k=5)->s ≠ [78,79,84])/\(op=16->k≠3):=by
 cases hc:closed op e with
 | true=>exact⟨5,[40],_,rfl,by decide,λ_=>by decide,λ_=>by decide⟩
 | false=>
  cases e with
  | none=>cases h
  | una _ _=>cases hc
  | bin _ _ _=>cases hc
  | val k i s=>
   have hc2:op=16->k≠2:=λh1 h2=>by subst h1 h2;cases hc
   unfold brK ek zr xP;simp only[aV,if_false];repeat' split
   all_goals first
    | exact⟨_,_,_,rfl,by decide,λ_=>by decide,λ_=>by decide⟩
    | exact⟨4,_,_,rfl,by decide,λh=>by omega,λ_=>by decide⟩
    | (rename_i hk2 _;exact⟨3,_,_,rfl,by decide,λh=>by omega,λh=>absurd hk2 (hc2 h)⟩)
  | col t n=>
   unfold brK ek;simp only[aV,if_false];split<;>exact⟨1,_,_,rfl,by decide,λh=>by omega,λ_=>by decide⟩
  | call op' a=>
   simp only[isE,aq,decide_eq_true_eq]at h;refine⟨2,eL op',_,rfl,by decide,λ_=>?_,λ_=>by decide⟩;have:op'=20∨op'=21∨op'=22∨op'=23:=by omega
   rcases this with rfl|rfl|rfl|rfl<;>decide
  | all=>exact⟨2,_,_,rfl,by decide,λ_=>by decide,λ_=>by decide⟩
theorem nJ{l1 l2:List Tok}{op:Int}{e:E}(h:isE e=true)(hl:l1.map kt=brK (closed op e) (ek e))(d:Nat):isT [78,79,84] ⟨l1++l2,d⟩=false:=by
 obtain⟨k,s,m,h1,-,h2,-⟩:=BX (op:=op) h;rw[h1]at hl;obtain⟨p,l',rfl,-⟩:=map_cons hl;simp only[aL,isT,nxt,dV,fz,beq_eq_false_iff_ne,kZ];by_cases hk:k=2∨k=5
 ·exact .inr (h2 hk)
 ·exact .inl ⟨λe=>hk (.inl e),λe=>hk (.inr e)⟩
section
variable {f d : Nat} {l1 l2 : List Tok} {e : E} {op : Int}
theorem KG(hF:AtF e (brK (closed op e) (ek e)))(hl:l1.map kt=brK (closed op e) (ek e))(hd:d≤100)(hf:100≤f+d)(hn:Nop n1 l2)(h0:0<l2.length):Rs (dS (eG f) (f+1) ⟨l1++l2,d⟩) e l2 d:=hF f (f+1) d l1 l2 hl hd hf (by omega) hn h0
theorem KF(hF:AtF e (brK (closed op e) (ek e)))(hl:l1.map kt=brK (closed op e) (ek e))(hd:d≤100)(hf:100≤f+d)(hn:Nop n2 l2)(h0:0<l2.length):Rs (sS (eG f) (f+1) ⟨l1++l2,d⟩) e l2 d:=jh (KG hF hl hd hf (hn.sub (by decide)) h0) (hn.sub (by decide)) h0
theorem Gi(hF:AtF e (brK (closed op e) (ek e)))(hl:l1.map kt=brK (closed op e) (ek e))(hd:d≤100)(hf:100≤f+d)(hn:Nop n3 l2)(h0:0<l2.length):Rs (GL (eG f) (f+1) ⟨l1++l2,d⟩) e l2 d:=jh (KF hF hl hd hf (hn.sub (by decide)) h0) (hn.sub (by decide)) h0
theorem Ls(hF:AtF e (brK (closed op e) (ek e)))(hl:l1.map kt=brK (closed op e) (ek e))(hd:d≤100)(hf:100≤f+d)(hn:Nop n4 l2)(h0:0<l2.length):Rs (oS (eG f) (f+1) ⟨l1++l2,d⟩) e l2 d:=Bl (Gi hF hl hd hf (hn.sub (by decide)) h0) hn
theorem Jj(he:isE e=true)(hF:AtF e (brK (closed op e) (ek e)))(hl:l1.map kt=brK (closed op e) (ek e))(hd:d≤100)(hf:100≤f+d)(hn:Nop n4 l2)(h0:0<l2.length)(m:Nat):Rs (lH (oS (eG f) (f+1)) (m+1) ⟨l1++l2,d⟩) e l2 d:=DS (Ls hF hl hd hf hn h0) (nJ he hl d)
theorem Lg(he:isE e=true)(hF:AtF e (brK (closed op e) (ek e)))(hl:l1.map kt=brK (closed op e) (ek e))(hd:d≤100)(hf:100≤f+d)(hn:Nop n5 l2)(h0:0<l2.length):Rs (Jk (eG f) (f+1) ⟨l1++l2,d⟩) e l2 d:=jh (Jj he hF hl hd hf (hn.sub (by decide)) h0 f) (hn.sub (by decide)) h0
end
theorem KE{op:Int}{a b:E}(h1:1≤op)(h2:op≤14)(ha:isE a=true)(hb:isE b=true)(hA:AtF a (brK (closed op a) (ek a)))(hB:AtF b (brK (closed op b) (ek b))):AtE (.bin op a b):=by
 intro f d l1 l2 hl hd hf hn h0;obtain⟨f,rfl⟩:∃f',f=f'+1:=⟨f-1,by omega⟩;obtain⟨la,l',rfl,ma,h3⟩:=el hl;obtain⟨p,lb,rfl,mb⟩:=map_cons h3;rw[aJ,aL];have hr:=nJ (l2:=⟨(opK op).1,(opK op).2,p⟩::(lb++l2)) ha ma d;have hx:0<(lb++l2).length:=by rw[aB];omega
 have hy:0<(⟨(opK op).1,(opK op).2,p⟩::(lb++l2):List Tok).length:=by simp
 have:(op=11∨op=12∨op=13)∨(op=9∨op=10∨op=14)∨(op=3∨op=4∨op=5∨op=6∨op=7∨op=8)∨op=2∨op=1:=by omega
 rcases this with h|h|h|rfl|rfl
 ·refine up2 ?_ hr hn h0;refine mX (o:=(fb op,op)) (KG hA ma hd (by omega) (eh ?_) hy) ?_ (KG hB mb hd (by omega) (hn.sub (by decide)) h0) (hn.sub (by decide)) hx h0
  ·rcases h with rfl|rfl|rfl<;>decide
  ·rcases h with rfl|rfl|rfl<;>rfl
 ·refine up3 ?_ hr hn h0;refine mX (o:=(fb op,op)) (KF hA ma hd (by omega) (eh ?_) hy) ?_ (KF hB mb hd (by omega) (hn.sub (by decide)) h0) (hn.sub (by decide)) hx h0
  ·rcases h with rfl|rfl|rfl<;>decide
  ·rcases h with rfl|rfl|rfl<;>rfl
 ·refine up4 ?_ hr hn h0;unfold oS;rw[k7];refine Rs.bind (Gi hA ma hd (by omega) (eh ?_) hy) ?_
  ·rcases h with rfl|rfl|rfl|rfl|rfl|rfl<;>decide
  have e1:(kP.find? λo=>isT o.1 ⟨⟨(opK op).1,(opK op).2,p⟩::(lb++l2),d⟩) = .some (fb op,op):=by rcases h with rfl|rfl|rfl|rfl|rfl|rfl<;>rfl
  show Rs ((kP.find? λo=>isT o.1 ⟨⟨(opK op).1,(opK op).2,p⟩::(lb++l2),d⟩).elim _ _) _ l2 d
  rw[e1];show Rs (GL (eG f) (f+1) (ax ⟨⟨(opK op).1,(opK op).2,p⟩::(lb++l2),d⟩) >>= λw => .ok (E.bin op a w.1,w.2)) _ l2 d
  rw[bR (by rcases h with rfl|rfl|rfl|rfl|rfl|rfl<;>decide)];exact Rs.map (f:=λb=>E.bin op a b) (Gi hB mb hd (by omega) (hn.sub (by decide)) h0)
 ·refine up6 ?_ hn h0;exact mX (o:=([65,78,68],2)) (Jj ha hA ma hd (by omega) (eh (by decide)) hy f) rfl (Jj hb hB mb hd (by omega) (hn.sub (by decide)) h0 f) (hn.sub (by decide)) hx h0
 ·exact mX (o:=([79,82],1)) (Lg ha hA ma hd (by omega) (eh (by decide)) hy) rfl (Lg hb hB mb hd (by omega) (hn.sub (by decide)) h0) (hn.sub (by decide)) hx h0
theorem KD{op:Int}{a:E}(h1:15≤op)(h2:op≤18)(ha:isE a=true)(hA:AtF a (brK (closed op a) (ek a))):AtE (.una op a):=by
 intro f d l1 l2 hl hd hf hn h0;obtain⟨f,rfl⟩:∃f',f=f'+1:=⟨f-1,by omega⟩;have:op=15∨op=16∨op=17∨op=18:=by omega
 rcases this with rfl|rfl|rfl|rfl
 ·obtain⟨p,la,rfl,ma⟩:=map_cons (show l1.map kt=(2,[78,79,84])::brK (closed 15 a) (ek a)from hl);refine up5 ?_ hn h0;rw[kg,aL];dsimp only;rw[eI (.inl rfl),if_neg (by decide)];refine Rs.opens hd λhd1=>?_;rw[bR (by decide)];obtain⟨g,rfl⟩:∃g,f=g+1:=⟨f-1,by omega⟩;exact(Jj ha hA ma hd1 (by omega) (hn.sub (by decide)) h0 g).bind Rs.ok
 ·obtain⟨p,la,rfl,ma⟩:=map_cons (show l1.map kt=(5,[45])::brK (closed 16 a) (ek a)from hl);have hr:isT [78,79,84] ⟨⟨5,[45],p⟩::la++l2,d⟩=false:=rfl;refine up1 ?_ hr hn h0;rw[gj,aL];dsimp only;rw[eI (.inr rfl),if_neg (by decide)]
  have hk:¬ (nxt ⟨List.tail (⟨5,[45],p⟩::(la++l2)),d⟩).kind=3:=by
   obtain⟨k,s,m,e1,-,-,e2⟩:=BX (op:=16) ha;rw[e1]at ma;obtain⟨q,l',rfl,-⟩:=map_cons ma;exact e2 rfl
  rw[if_neg hk];refine Rs.opens hd λhd1=>?_;rw[bR (by decide)];exact Rs.bind (hA f f (d+1) la l2 ma hd1 (by omega) (by omega) (hn.sub (by decide)) h0) Rs.ok
 ·obtain⟨la,l',rfl,ma,h3⟩:=el (show l1.map kt=brK (closed 17 a) (ek a)++ [(2,[73,83]),(2,[78,85,76,76])]from hl);obtain⟨p,l',rfl,h4⟩:=map_cons h3;obtain⟨q,l',rfl,h5⟩:=map_cons h4;obtain rfl:l' = []:=by simpa using h5
  rw[aJ];refine up4 ?_ (nJ ha ma d) hn h0;unfold oS;rw[k7];refine Rs.bind (Gi hA ma hd (by omega) (eh (by decide)) (by simp)) ?_;refine .inl ?_;show(bc [78,85,76,76] (has [78,79,84] (ax ⟨⟨2,[73,83],p⟩::⟨2,[78,85,76,76],q⟩::l2,d⟩)).2 >>= λr=>dB (E.una (if(has [78,79,84] (ax ⟨⟨2,[73,83],p⟩::⟨2,[78,85,76,76],q⟩::l2,d⟩)).1 then 18 else 17) a,r))=_
  rw[bR (by decide)];show(bc [78,85,76,76] ⟨⟨2,[78,85,76,76],q⟩::l2,d⟩ >>= λr=>dB (E.una 17 a,r))=_
  rw[di (.inl rfl)];rfl
 ·obtain⟨la,l',rfl,ma,h3⟩:=el (show l1.map kt=brK (closed 18 a) (ek a)++ [(2,[73,83]),(2,[78,79,84]),(2,[78,85,76,76])]from hl);obtain⟨p,l',rfl,h4⟩:=map_cons h3;obtain⟨m,l',rfl,h5⟩:=map_cons h4;obtain⟨q,l',rfl,h6⟩:=map_cons h5;obtain rfl:l' = []:=by simpa using h6
  rw[aJ];refine up4 ?_ (nJ ha ma d) hn h0;unfold oS;rw[k7];refine Rs.bind (Gi hA ma hd (by omega) (eh (by decide)) (by simp)) ?_;refine .inl ?_;show(bc [78,85,76,76] (has [78,79,84] (ax ⟨⟨2,[73,83],p⟩::⟨2,[78,79,84],m⟩::⟨2,[78,85,76,76],q⟩::l2,d⟩)).2 >>= λr=>dB (E.una (if(has [78,79,84] (ax ⟨⟨2,[73,83],p⟩::⟨2,[78,79,84],m⟩::⟨2,[78,85,76,76],q⟩::l2,d⟩)).1 then 18 else 17) a,r))=_
  rw[bR (by decide)]
  have e1:has [78,79,84] ⟨⟨2,[78,79,84],m⟩::⟨2,[78,85,76,76],q⟩::l2,d⟩=(true,⟨⟨2,[78,85,76,76],q⟩::l2,d⟩):=by
   unfold has;rw[eI (.inl rfl),if_pos rfl,bR (by decide)]
  rw[e1];show(bc [78,85,76,76] ⟨⟨2,[78,85,76,76],q⟩::l2,d⟩ >>= λr=>dB (E.una 18 a,r))=_
  rw[di (.inl rfl)];rfl
theorem su{e:E}(he:isE e=true)(hb:bare e=true)(hC:∀o a,e = .call o a->AtE a):AtE e:=by
 intro f d l1 l2 hl hd hf hn h0;obtain⟨f,rfl⟩:∃f',f=f'+1:=⟨f-1,by omega⟩;have hc:closed 1 e=false:=by cases e<;>first|rfl|cases hb
 have hl2:l1.map kt=brK (closed 1 e) (ek e):=by rw[hc];exact hl
 exact up1 (sf e he hb hC f (f+1) d l1 l2 hl hd (by omega) (by omega) (hn.sub (by decide)) h0) (nJ he hl2 d) hn h0
theorem jW:∀e:E,isE e=true->AtE e
 | .none,h=>by cases h
 | .val k i s,h=>su h rfl (λo a e=>by cases e)
 | .col t n,h=>su h rfl (λo a e=>by cases e)
 | .all,h=>su h rfl (λo a e=>by cases e)
 | .call op a,h=>su h rfl (λo b e=>by
   cases e;simp only[isE,aq]at h;exact jW _ h.2)
 | .una op a,h=>by
  simp only[isE,aq,decide_eq_true_eq]at h
  exact KD h.1.1 h.1.2 h.2 (rn h.2 (jW a h.2) λo b e=>by
   subst e;have h2:=h.2;simp only[isE,aq]at h2;exact jW b h2.2)
 | .bin op a b,h=>by
  simp only[isE,aq,decide_eq_true_eq]at h
  exact KE h.1.1.1 h.1.1.2 h.1.2 h.2 (rn h.1.2 (jW a h.1.2) λo c e=>by
   subst e;have h2:=h.1.2;simp only[isE,aq]at h2;exact jW c h2.2) (rn h.2 (jW b h.2) λo c e=>by
   subst e;have h2:=h.2;simp only[isE,aq]at h2;exact jW c h2.2)
theorem lh{e:E}(h:isE e=true){l1 l2:List Tok}(hl:l1.map kt=ek e)(hn:Nop n6 l2)(h0:0<l2.length):Rs (expr ⟨l1++l2,0⟩) e l2 0:=jW e h 101 0 l1 l2 hl (by omega) (by omega) hn h0
end P12
namespace P12
open P11 (Tok Lx Fo Any kt foC)
abbrev Ks:=List (Int×T)
def jk:List Ks->Ks
 | []=> []
 | [a]=>a
 | a::b::l=>a++(5,[44])::jk (b::l)
theorem jU{α:Type}{f:α->T}{k:α->Ks}:∀l:List α,l ≠ []->(∀a∈l,Lx Fo (f a) (k a))->Lx Fo (join (l.map f)) (jk (l.map k))
 | [],h,_=>absurd rfl h
 | [a],_,h=>by simpa[join,nj,jk]using h a (by simp)
 | a::b::l,_,h=>by
  have ih:=jU (b::l) (by simp) λc hc=>h c (by simp at hc ⊢;exact .inr hc);have:Lx Fo _ _:=(h a (by simp)).to (c:=44) ((Lx.one (c:=44) (.inr (.inr (.inl rfl)))).on (jT ih)) (.inr (.inr (.inl rfl)))
  simpa[join,nj,jk,aJ]using this
def wt:List T->T
 | []=> []
 | w::l=>w++32::wt l
def wk(l:List T):Ks:=l.map λw=>(2,w)
theorem oY{Q:T->Prop}{b:T}{kb:Ks}:∀ (ws:List T),(∀w∈ws,P11.words.contains w=true)->Lx Q b kb->Lx Q (wt ws++b) (wk ws++kb)
 | [],_,h=>h
 | w::ws,hw,h=>by
  have ih:=oY ws (λv hv=>hw v (by simp[hv])) h;have:Lx Q _ _:=(Lx.word (hw w (by simp))).to (c:=32) (jT ih) (.inl rfl)
  simpa[wt,wk,aJ]using this
theorem jN{Q:T->Prop}{a b:T}{ka kb:Ks}(ha:Lx Fo a ka)(ws:List T)(hw:∀w∈ws,P11.words.contains w=true)(hb:Lx Q b kb):Lx Q (a++(32::wt ws)++b) (ka++(wk ws++kb)):=by
 rw[aJ];exact ha.to (c:=32) (jT (oY ws hw hb)) (.inl rfl)
theorem rf{a b:T}{ka kb:Ks}(ha:Lx Fo a ka)(hb:Lx Fo b kb):Lx Any (a++([32,40]++b ++ [41])) (ka++((5,[40])::(kb ++ [(5,[41])]))):=by
 have:Lx Any _ _:=ha.to (c:=32) (jT ((Lx.one (c:=40) (.inl rfl)).on (hb.to (c:=41) (b := []) (Lx.one (.inr (.inl rfl))) (.inr (.inl rfl))))) (.inl rfl)
 simpa[aJ]using this
def jV(k:Ks):Ks:=(5,[40])::(k ++ [(5,[41])])
abbrev nmK(s:T):Ks := [(1,s)]
theorem tf{l:List T}(h0:l ≠ [])(h:∀s∈l,isName s=true):Lx Fo (join l) (jk (l.map nmK)):=by
 have:=jU (f:=λs:T=>s) (k:=nmK) l h0 λs hs=>fu (h s hs);simpa using this
theorem eu{α:Type}{l:List α}{m:Nat}{p:α->Bool}(h:some l m p=true):l ≠ []/\l.length≤m/\∀a∈l,p a=true:=by
 unfold some at h;simp only[aq,decide_eq_true_eq,bA]at h;exact⟨λe=>by rw[e]at h;simp at h,h.1.2,h.2⟩
def Jc(c:T×Int×Bool):Ks:=nmK c.1 ++ [(2,fB c.2.1)]++(if c.2.2 then wk [[78,79,84],[78,85,76,76]]else[])
theorem tg{a:T}{ka:Ks}(ha:Lx Fo a ka){w:T}(hw:P11.words.contains w=true):Lx Fo (a++32::w) (ka ++ [(2,w)]):=ha.to (c:=32) (jT (Lx.word hw)) (.inl rfl)
theorem J6{c:T×Int×Bool}(h:isName c.1=true)(h1:1≤c.2.1)(h2:c.2.1≤3):Lx Fo (dT c) (Jc c):=by
 have ht:P11.words.contains (fB c.2.1)=true:=by
  have:c.2.1=1∨c.2.1=2∨c.2.1=3:=by omega
  rcases this with h|h|h<;>rw[h]<;>decide
 have e1:=tg (fu h) ht;unfold dT Jc;split
 ·have:Lx Fo _ _:=tg (tg e1 (w := [78,79,84]) (by decide)) (w := [78,85,76,76]) (by decide)
  simpa[wk,aJ]using this
 ·simpa[aJ]using e1
def IF(p:Bool)(l:List T):Ks:=(if p then wk [[80,82,73,77,65,82,89],[75,69,89]]else wk [[85,78,73,81,85,69]])++jV (jk (l.map nmK))
theorem J5(p:Bool){l:List T}(h:some l 16 isName=true):Lx Fo (fR p l) (IF p l):=by
 obtain⟨h0,-,h1⟩:=eu h;have hn:=tf h0 h1;unfold fR IF jV
 cases p with
 | true=>
  have:Lx Any _ _:=rf (tg (Lx.word (w := [80,82,73,77,65,82,89]) (by decide)) (w := [75,69,89]) (by decide)) hn
  simpa[wk,aJ]using this.any (P:=Fo)
 | false=>
  have:Lx Any _ _:=rf (Lx.word (w := [85,78,73,81,85,69]) (by decide)) hn
  simpa[wk,aJ]using this.any (P:=Fo)
def Jd(e:E):Ks:=(2,[67,72,69,67,75])::jV (ek e)
theorem J7{e:E}(h:isE e=true):Lx Fo ([67,72,69,67,75,32,40]++text e ++ [41]) (Jd e):=by
 have:Lx Any _ _:=rf (Lx.word (w := [67,72,69,67,75]) (by decide)) (gG e h)
 simpa[Jd,jV,aJ]using this.any (P:=Fo)
inductive Pt where
 | col (c:T×Int×Bool)
 | key (p:Bool) (l:List T)
 | chk (e:E)
def sR:Pt->T
 | .col c=>dT c
 | .key p l=>fR p l
 | .chk e => [67,72,69,67,75,32,40]++text e ++ [41]
def ptK:Pt->Ks
 | .col c=>Jc c
 | .key p l=>IF p l
 | .chk e=>Jd e
def Eo:Pt->Prop
 | .col c=>isName c.1=true/\1≤c.2.1/\c.2.1≤3
 | .key _ l=>some l 16 isName=true
 | .chk e=>isE e=true
theorem K3{x:Pt}(h:Eo x):Lx Fo (sR x) (ptK x):=by
 cases x with
 | col c=>exact J6 h.1 h.2.1 h.2.2
 | key p l=>exact J5 p h
 | chk e=>exact J7 h
def partsOf(t:Tb)(k:List (List T)):List Pt:=t.cols.map Pt.col++kS Pt.key t.keys k++t.checks.map Pt.chk
theorem qR{t:Tb}{k:List (List T)}(h:oV t k=true):isName t.name=true/\partsOf t k ≠ []/\(partsOf t k).length≤16/\k.length=t.keys.length/\∀x∈partsOf t k,Eo x:=by
 unfold oV at h;simp only[aq,decide_eq_true_eq,beq_iff_eq,bA]at h;obtain⟨⟨⟨⟨⟨⟨h1,h2⟩,h3⟩,h4⟩,h5⟩,h6⟩,h7⟩:=h;have hlen:(partsOf t k).length=t.cols.length+t.keys.length+t.checks.length:=by simp[partsOf,h4];omega
 refine⟨h1,λe=>by rw[e]at hlen;simp at hlen;omega,by omega,h4,λx hx=>?_⟩;rcases ef.1 hx with hx|hx
 ·rcases ef.1 hx with hx|hx
  ·obtain⟨c,hc,rfl⟩:=DL.1 hx;exact⟨(h7 c hc).1.1,(h7 c hc).1.2,(h7 c hc).2⟩
  ·have:∀ (a:List Bool) (b:List (List T)),(∀l∈b,some l 16 isName=true)->∀x∈kS Pt.key a b,Eo x:=by
    intro a;induction a with
    | nil=>intro b _ x hx;simp at hx
    | cons p a ih=>
     intro b hb x hx
     cases b with
     | nil=>simp at hx
     | cons l b=>
      simp only[List.zipWith_cons_cons,aI]at hx;rcases hx with rfl|hx
      ·exact hb l (by simp)
      ·exact ih b (λm hm=>hb m (by simp[hm])) x hx
   exact this _ _ h5 x hx
 ·obtain⟨c,hc,rfl⟩:=DL.1 hx;exact h6 c hc
theorem sU(t:Tb)(k:List (List T)):t.cols.map dT++(kS fR t.keys k)++t.checks.map (λe => [67,72,69,67,75,32,40]++text e ++ [41])=(partsOf t k).map sR:=by
 unfold partsOf;rw[iS,iS,iq,iq,List.map_zipWith];rfl
def whK(e:E):Ks:=if noE e then[]else(2,[87,72,69,82,69])::ek e
theorem td{a:T}{ka:Ks}(ha:Lx Fo a ka){e:E}(h:eW e=true):Lx Fo (a++dG e) (ka++whK e):=by
 unfold dG whK;split
 ·simpa using ha
 ·rename_i h0;unfold eW at h;have he:isE e=true:=by simpa[h0]using h
  have:=jN ha [[87,72,69,82,69]] (by decide) (gG e he);simpa[wt,wk,aJ]using this
def oZ(x:Bool×E×T):Ks:=if x.1 then[(5,[42])]else if x.2.2 = []then ek x.2.1 else ek x.2.1 ++ [(2,[65,83]),(1,x.2.2)]
theorem It{x:Bool×E×T}(h:iF x=true):Lx Fo (ey x) (oZ x):=by
 unfold iF at h;unfold ey oZ;split
 ·exact(Lx.one (.inr (.inr (.inr (.inr rfl))))).any
 ·rename_i hb;rw[if_neg hb]at h;simp only[aq]at h;split
  ·exact gG _ h.1
  ·rename_i h0
   have hn:isName x.2.2=true:=by
    have:=h.2;unfold cf at this;simpa[h0]using this
   have:=jN (gG _ h.1) [[65,83]] (by decide) (fu hn);simpa[wt,wk,aJ]using this
def zG(s:T×T):Ks:=if s.2 = []then[(1,s.1)]else[(1,s.1),(1,s.2)]
theorem EY{s:T×T}(h:pZ s):Lx Fo (eR s) (zG s):=by
 have h:(isName s.1&&cf s.2)=true:=h;simp only[aq]at h;unfold eR zG;split
 ·exact fu h.1
 ·rename_i h0
  have hn:isName s.2=true:=by
   have:=h.2;unfold cf at this;simpa[h0]using this
  have:Lx Fo _ _:=(fu h.1).to (c:=32) (jT (fu hn)) (.inl rfl)
  simpa[aJ]using this
def Af(o:E×Bool):Ks:=if o.2 then ek o.1 ++ [(2,[68,69,83,67])]else ek o.1
theorem J4{o:E×Bool}(h:isE o.1=true):Lx Fo (ft o) (Af o):=by
 unfold ft Af;split
 ·exact tg (gG _ h) (by decide)
 ·exact gG _ h
def zK(s:T×E):Ks:=(1,s.1)::(5,[61])::ek s.2
theorem JX{s:T×E}(h:(isName s.1&&isE s.2)=true):Lx Fo (gX s) (zK s):=by
 simp only[aq]at h;have:Lx Fo _ _:=(fu h.1).to (c:=32) (jT ((Lx.sign (w := [61]) (by decide)).to (c:=32) (jT (gG _ h.2)) (.inl rfl))) (.inl rfl)
 simpa[gX,zK,aJ]using this
def zS(l:List E):Ks:=jV (jk (l.map ek))
theorem JZ{l:List E}(h:some l 16 isE=true):Lx Fo (iz l) (zS l):=by
 obtain⟨h0,-,h1⟩:=eu h;have:Lx Any _ _:=(Lx.one (c:=40) (.inl rfl)).on ((jU l h0 λe he=>gG e (h1 e he)).to (c:=41) (b := []) (Lx.one (.inr (.inl rfl))) (.inr (.inl rfl)))
 simpa[iz,zS,jV,aJ]using this.any (P:=Fo)
def zQ(x:St):Ks:=if x.frm.length≤1 then[]else(2,[74,79,73,78])::(zG (x.frm.tail.headD ([],[]))++(2,[79,78])::ek x.join)
def xv(x:St):Ks:=if x.group = []then[]else(2,[71,82,79,85,80])::(2,[66,89])::jk (x.group.map ek)
def xq(x:St):Ks:=if x.order = []then[]else(2,[79,82,68,69,82])::(2,[66,89])::jk (x.order.map Af)
def kA(x:St):Ks:=if x.limit<0 then[]else[(2,[76,73,77,73,84]),(3,bQ x.limit.toNat)]
def Ia(x:St):Ks:=(2,[83,69,76,69,67,84])::(jk (x.items.map oZ)++(2,[70,82,79,77])::(zG (x.frm.headD ([],[]))++(zQ x++(whK x.wher++(xv x++(xq x++kA x))))))
structure B1(x:St):Prop where
 items:x.items ≠ []/\x.items.length≤16/\∀a∈x.items,iF a=true
 frm:x.frm ≠ []/\x.frm.length≤2/\∀s∈x.frm,pZ s
 wher:eW x.wher=true
 join:(if x.frm.length=2 then isE x.join else noE x.join)=true
 group:x.group.length≤16/\∀a∈x.group,tD a=true
 order:x.order.length≤16/\∀o∈x.order,isE o.1=true
 limit : -1≤x.limit/\x.limit≤9223372036854775807
theorem qU{x:St}(h:nG x=true):B1 x:=by
 unfold nG at h;simp only[aq,decide_eq_true_eq,bA]at h;obtain⟨⟨⟨⟨⟨⟨⟨⟨⟨h1,h2⟩,h3⟩,h4⟩,h5⟩,h6⟩,h7⟩,h8⟩,h9⟩,h10⟩:=h;exact⟨eu h1,let⟨a,b,c⟩:=eu h2;⟨a,b,λs hs=>c s hs⟩,h3,h4,⟨h5,h6⟩,⟨h7,h8⟩,h9,h10⟩
theorem JY{x:St}(h:B1 x):Lx Fo (fq x) (Ia x):=by
 have hI:=jU (f:=ey) (k:=oZ) x.items h.items.1 λa ha=>It (h.items.2.2 a ha)
 have hS:pZ (x.frm.headD ([],[])):=by
  have:=h.frm
  cases hx:x.frm with
  | nil=>exact absurd hx this.1
  | cons s l=>exact this.2.2 s (by rw[hx];simp)
 have h0:Lx Fo ([83,69,76,69,67,84,32]++join (x.items.map ey)) ((2,[83,69,76,69,67,84])::jk (x.items.map oZ)):=oY [[83,69,76,69,67,84]] (by decide) hI;have h1:=jN h0 [[70,82,79,77]] (by decide) (EY hS)
 have h2:Lx Fo _ (_++zQ x):=(show Lx Fo (_++(if x.frm.length≤1 then[]else[32,74,79,73,78,32]++eR (x.frm.tail.headD ([],[]))++ [32,79,78,32]++text x.join)) (_++zQ x) by
  unfold zQ;split
  ·simpa using h1
  ·rename_i hl;have h2l:x.frm.length=2:=by have:=h.frm.2.1;omega
   have hS2:pZ (x.frm.tail.headD ([],[])):=by
    have h3:=h.frm.2.2;match hx:x.frm,h2l with
    | [a,b],_=>exact h3 b (by rw[hx];simp)
   have hj:isE x.join=true:=by have:=h.join;rwa [if_pos h2l]at this
   have:=jN (jN h1 [[74,79,73,78]] (by decide) (EY hS2)) [[79,78]] (by decide) (gG _ hj);simpa[wt,wk,aJ]using this)
 have h3:=td h2 h.wher
 have h4:Lx Fo _ (_++xv x):=(show Lx Fo (_++(if x.group = []then[]else[32,71,82,79,85,80,32,66,89,32]++join (x.group.map text))) (_++xv x) by
  unfold xv;split
  ·simpa using h3
  ·rename_i hg;have:=jN h3 [[71,82,79,85,80],[66,89]] (by decide) (jU (f:=text) (k:=ek) x.group hg λa ha=>gG a (qo (h.group.2 a ha)));simpa[wt,wk,aJ]using this)
 have h5:Lx Fo _ (_++xq x):=(show Lx Fo (_++(if x.order = []then[]else[32,79,82,68,69,82,32,66,89,32]++join (x.order.map ft))) (_++xq x) by
  unfold xq;split
  ·simpa using h4
  ·rename_i hg;have:=jN h4 [[79,82,68,69,82],[66,89]] (by decide) (jU (f:=ft) (k:=Af) x.order hg λa ha=>J4 (h.order.2 a ha));simpa[wt,wk,aJ]using this)
 have h6:Lx Fo _ (_++kA x):=(show Lx Fo (_++(if x.limit<0 then[]else[32,76,73,77,73,84,32]++ee x.limit)) (_++kA x) by
  unfold kA;split
  ·simpa using h5
  ·rename_i hl;have:=jN h5 [[76,73,77,73,84]] (by decide) (BA x.limit);unfold xP at this;rw[if_neg hl]at this;simpa[wt,wk,aJ]using this)
 simpa[fq,Ia,wt,wk,aJ]using h6
def stK(x:St):Ks:=
 if x.kind=1 then wk [[67,82,69,65,84,69],[84,65,66,76,69]]++nmK x.tb.name++jV (jk ((partsOf x.tb x.keyCols).map ptK))
 else if x.kind=2 then wk [[68,82,79,80],[84,65,66,76,69]]++nmK x.name
 else if x.kind=3 then(if x.unique then wk [[67,82,69,65,84,69],[85,78,73,81,85,69],[73,78,68,69,88]]else wk [[67,82,69,65,84,69],[73,78,68,69,88]])++(nmK x.name++((2,[79,78])::(nmK x.on++jV (jk (x.cols.map nmK)))))
 else if x.kind=4 then wk [[68,82,79,80],[73,78,68,69,88]]++nmK x.name
 else if x.kind=5 then wk [[73,78,83,69,82,84],[73,78,84,79]]++(nmK x.name++((if x.cols = []then[]else jV (jk (x.cols.map nmK)))++((2,[86,65,76,85,69,83])::jk (x.rows.map zS))))
 else if x.kind=6 then(2,[85,80,68,65,84,69])::(nmK x.name++((2,[83,69,84])::(jk (x.sets.map zK)++whK x.wher)))
 else if x.kind=7 then wk [[68,69,76,69,84,69],[70,82,79,77]]++(nmK x.name++whK x.wher)
 else if x.kind=8 then Ia x
 else if x.kind=9 then wk [[66,69,71,73,78]]else if x.kind=10 then wk [[67,79,77,77,73,84]]else wk [[82,79,76,76,66,65,67,75]]
theorem Et{x:St}(h:isS x):Lx Fo (print x) (stK x):=by
 obtain⟨-,h⟩:=h;rcases h with⟨hk,h⟩|⟨hk,h⟩|⟨hk,h⟩|⟨hk,h1,h2,h3⟩|⟨hk,h1,h2,h3⟩|⟨hk,h1,h2,h3⟩|⟨hk,h1,h2⟩|⟨hk,h⟩|hk|hk|hk
 all_goals(unfold print stK;simp only[hk];simp(config := { decide:=true }) only[if_true,if_false])
 ·obtain⟨h1,h2,-,-,h3⟩:=qR h;have:=rf (oY [[67,82,69,65,84,69],[84,65,66,76,69]] (by decide) (fu h1)) (jU (f:=sR) (k:=ptK) (partsOf x.tb x.keyCols) h2 λa ha=>K3 (h3 a ha));rw[← sU]at this;simpa[k9,wt,wk,jV,aJ]using this.any (P:=Fo)
 ·exact oY [[68,82,79,80],[84,65,66,76,69]] (by decide) (fu h)
 ·exact oY [[68,82,79,80],[73,78,68,69,88]] (by decide) (fu h)
 ·obtain⟨g0,-,g1⟩:=eu h3;have hc:fF x.cols = [32,40]++join x.cols ++ [41]:=by unfold fF;rw[if_neg g0]
  rw[hc]
  have mk:∀ (ws:List T),(∀w∈ws,P11.words.contains w=true)->Lx Fo (wt ws++x.name ++ [32,79,78,32]++x.on++([32,40]++join x.cols ++ [41])) (wk ws++(nmK x.name++((2,[79,78])::(nmK x.on++jV (jk (x.cols.map nmK)))))):=λws hw=>by
   have:=rf (jN (oY ws hw (fu h1)) [[79,78]] (by decide) (fu h2)) (tf g0 g1);simpa[wt,wk,jV,aJ]using this.any (P:=Fo)
  split
  ·exact mk [[67,82,69,65,84,69],[85,78,73,81,85,69],[73,78,68,69,88]] (by decide)
  ·exact mk [[67,82,69,65,84,69],[73,78,68,69,88]] (by decide)
 ·obtain⟨g0,-,g1⟩:=eu h3;have hr:=jU (f:=iz) (k:=zS) x.rows g0 λa ha=>JZ (g1 a ha);have hn:=oY [[73,78,83,69,82,84],[73,78,84,79]] (by decide) (fu h1);unfold fF;split
  ·have:=jN hn [[86,65,76,85,69,83]] (by decide) hr;simpa[wt,wk,aJ]using this
  ·rename_i hc;rcases h2 with h2|h2
   ·exact absurd h2 hc
   obtain⟨f0,-,f1⟩:=eu h2;have:=jN (rf hn (tf f0 f1)).any [[86,65,76,85,69,83]] (by decide) hr;simpa[wt,wk,jV,aJ]using this
 ·obtain⟨g0,-,g1⟩:=eu h2;have:=td (jN (oY [[85,80,68,65,84,69]] (by decide) (fu h1)) [[83,69,84]] (by decide) (jU (f:=gX) (k:=zK) x.sets g0 λa ha=>JX (g1 a ha))) h3;simpa[wt,wk,aJ]using this
 ·have:=td (oY [[68,69,76,69,84,69],[70,82,79,77]] (by decide) (fu h1)) h2;simpa[wt,wk,aJ]using this
 ·exact JY (qU h)
 ·exact Lx.word (by decide)
 ·exact Lx.word (by decide)
 ·exact Lx.word (by decide)
theorem xU{x:St}(h:isS x)(hl:(print x).length≤4096):∃ts q,P11.ff (print x) = .inl (ts ++ [⟨0,[],q⟩])/\ts.map kt=stK x:=by
 obtain⟨ts,h1,h2⟩:=Et h [] 0 (.inl rfl);rw[zg,P11.kq]at h2;refine⟨ts,0+(print x).length,?_,h1⟩;unfold P11.ff;rw[if_neg (by omega),h2];rfl
end P12
namespace P12
open P11 (Tok kt)
abbrev El{α:Type}(read:R->Except Er (α×R))(k:Ks)(a:α)(S:List T):Prop:=∀ (l1 l2:List Tok),l1.map kt=k->Nop S l2->0<l2.length->Rs (read ⟨l1++l2,0⟩) a l2 0
theorem I9{e:E}(h:isE e=true):El expr (ek e) e n6:=λl1 l2 hl hn h0=>lh h hl hn h0
theorem Ax{α:Type}{k:α->Ks}:∀l:List α,(∀a∈l,k a ≠ [])->l.length≤(jk (l.map k)).length
 | [],_=>fP _
 | [a],h=>by
  have:=h a (by simp)
  cases hk:k a with
  | nil=>exact absurd hk this
  | cons x m=>simp[jk,hk]
 | a::b::l,h=>by
  have ih:=Ax (b::l) λc hc=>h c (by simp at hc ⊢;exact .inr hc);simp only[fX,jk,aB,aK]at ih ⊢;omega
theorem Bt{α:Type}{read:R->Except Er (α×R)}{k:α->Ks}{S:List T}{most:Nat}{could:R->Bool}(hS:([44]:T)∉S):∀ (l:List α) (f n:Nat) (l1 l2:List Tok),l ≠ []->(∀a∈l,El read (k a) a S)->l.length≤f->n+l.length≤most->l1.map kt=jk (l.map k)->Nop S l2->Nop [[44]] l2->0<l2.length ->
  Rs (eO most could read f n ⟨l1++l2,0⟩) l l2 0
 | [],_,_,_,_,h,_,_,_,_,_,_,_=>absurd rfl h
 | _::_,0,_,_,_,_,_,h,_,_,_,_,_=>by simp at h
 | [a],f+1,n,l1,l2,_,hr,hf,hm,hl,hn,hc,h0=>by
  rw[l8];simp only[cU]at hm;rw[show decide (most<n+1)=false from decide_eq_false (by omega)];show Rs (read ⟨l1++l2,0⟩ >>= _) _ _ _
  refine(hr a (by simp) l1 l2 hl hn h0).bind ?_;dsimp only;rw[hc [44] (by simp)];exact Rs.ok
 | a::b::l,f+1,n,l1,l2,_,hr,hf,hm,hl,hn,hc,h0=>by
  obtain⟨la,l',rfl,ha,h3⟩:=el (show l1.map kt=k a++(5,[44])::jk ((b::l).map k)from hl);obtain⟨p,lb,rfl,hb⟩:=map_cons h3;rw[l8];simp only[aK]at hm hf;rw[show decide (most<n+1)=false from decide_eq_false (by omega),aJ,aL];show Rs (read ⟨la++(⟨5,[44],p⟩::(lb++l2)),0⟩ >>= _) _ _ _
  refine(hr a (by simp) la _ ha (eh hS) (by simp)).bind ?_;dsimp only;rw[eI (.inr rfl),if_pos rfl,bR (by decide)];exact Rs.map (f:=λw=>a::w) (Bt hS (b::l) f (n+1) lb l2 (by simp) (λc hc=>hr c (by simp at hc ⊢;exact .inr hc)) (by simp only[aK];omega) (by simp only[aK];omega) hb hn hc h0)
theorem pv{α:Type}{read:R->Except Er (α×R)}{k:α->Ks}{S:List T}{most:Nat}{could:R->Bool}(hS:([44]:T)∉S){l:List α}{l1 l2:List Tok}(h:l ≠ [])(hk:∀a∈l,k a ≠ [])(hr:∀a∈l,El read (k a) a S)(hm:l.length≤most)(hl:l1.map kt=jk (l.map k))(hn:Nop S l2)(hc:Nop [[44]] l2)(h0:0<l2.length):
  Rs (eO most could read (R.mk (l1++l2) 0).l.length 0 ⟨l1++l2,0⟩) l l2 0:=by
 refine Bt hS l _ 0 l1 l2 h hr ?_ (by omega) hl hn hc h0;have:=Ax l hk;rw[← hl,cH]at this;show l.length≤(l1++l2).length
 rw[aB];omega
theorem fm{s:T}(h:isName s=true){p:Nat}{l:List Tok}{d:Nat}:name ⟨⟨1,s,p⟩::l,d⟩ = .ok (s,⟨l,d⟩):=by
 unfold name;rw[if_neg (show ¬ (nxt ⟨⟨1,s,p⟩::l,d⟩).kind≠1 from λh=>h rfl),bR (by decide)];exact if_neg (show ¬ 24<s.length by have:=cT h;omega)
theorem I7{s:T}(h:isName s=true):El name (nmK s) s []:=λl1 l2 hl _ _=>by
 obtain⟨p,l',rfl,h2⟩:=map_cons hl;obtain rfl:l' = []:=by simpa using h2
 exact .inl (fm h)
theorem BU{e:E}(h:isE e=true):ek e ≠ []:=by
 obtain⟨k,s,m,h1,-⟩:=mS e h;rw[h1];simp
theorem qd{l:List T}(h:some l 16 isName=true){l1 l2:List Tok}(hl:l1.map kt=jV (jk (l.map nmK))):Rs (names ⟨l1++l2,0⟩) l l2 0:=by
 obtain⟨h0,h1,h2⟩:=eu h;obtain⟨p,l',rfl,h3⟩:=map_cons hl;obtain⟨la,l',rfl,ha,h4⟩:=el h3;obtain⟨q,l',rfl,h5⟩:=map_cons h4;obtain rfl:l' = []:=by simpa using h5
 rw[qh,aL,aJ];dsimp only;rw[di (.inr rfl)];refine Rs.bind (pv (S := []) (k:=nmK) (by simp) h0 (λa _=>by simp) (λa ha=>I7 (h2 a ha)) h1 ha (λs hs=>by cases hs) (eh (by decide)) (by simp)) ?_;simp only[aL,bM];rw[di (.inr rfl)];exact Rs.ok
theorem qf{e:E}(h:noE e=true):e = .none:=by cases e<;>first|rfl|cases h
theorem vG{e:E}(h:eW e=true){l1 l2:List Tok}(hl:l1.map kt=whK e)(hn:Nop ([87,72,69,82,69]::n6) l2)(h0:0<l2.length):Rs (wher ⟨l1++l2,0⟩) e l2 0:=by
 unfold whK at hl;unfold wher;split at hl
 ·rename_i hz;obtain rfl:=qf hz;obtain rfl:l1 = []:=by simpa using hl
  rw[bM,hn [87,72,69,82,69] (by simp)];exact Rs.ok
 ·rename_i hz;unfold eW at h;have he:isE e=true:=by simpa[hz]using h
  obtain⟨p,l',rfl,h3⟩:=map_cons hl;rw[aL,eI (.inl rfl),if_pos rfl,bR (by decide)];exact lh he h3 (hn.sub λs h=>cO _ h) h0
theorem I8{x:Bool×E×T}(h:iF x=true):El item (oZ x) x (n6 ++ [[65,83]]):=λl1 l2 hl hn h0=>by
 obtain⟨b,e,s⟩:=x;unfold iF at h;unfold oZ at hl;rw[ql]
 cases b with
 | true=>
  simp only[if_true,aq,beq_iff_eq]at h hl;obtain⟨hz,hs⟩:=h;obtain rfl:=qf hz;subst hs;obtain⟨p,l',rfl,h3⟩:=map_cons hl;obtain rfl:l' = []:=by simpa using h3
  simp only[aL,bM];rw[eI (.inr rfl),if_pos rfl,bR (by decide)];exact Rs.ok
 | false=>
  simp only[aV,if_false,aq]at h hl
  have star:∀ (la:List Tok) (l3:List Tok),la.map kt=ek e->isT [42] ⟨la++l3,0⟩=false:=λla l3 ha=>by
   have hbeg:=BS e h.1;obtain⟨k,u,m,h1,-⟩:=mS e h.1;have hk:=hbeg k u m h1;rw[h1]at ha;obtain⟨p,l',rfl,-⟩:=map_cons ha;simp only[aL,isT,nxt,dV,fz,beq_eq_false_iff_ne,kZ];by_cases hs42:u = [42]
   ·exact .inl (hk hs42)
   ·exact .inr hs42
  by_cases hs:s = []
  ·subst hs;rw[if_pos rfl]at hl;dsimp only;rw[star l1 l2 hl,if_neg (by decide)];refine(lh h.1 hl (hn.sub λs h=>np _ h) h0).bind ?_;dsimp only;rw[hn [65,83] (by simp)];exact Rs.ok
  ·rw[if_neg hs]at hl;have hnm:isName s=true:=by have:=h.2;unfold cf at this;simpa[hs]using this
   obtain⟨la,l',rfl,ha,h4⟩:=el hl;obtain⟨p,l',rfl,h5⟩:=map_cons h4;obtain⟨q,l',rfl,h6⟩:=map_cons h5;obtain rfl:l' = []:=by simpa using h6
   simp only[aJ,aL,bM];rw[star la _ ha,if_neg (by decide)];refine(lh h.1 ha (eh (by decide)) (by simp)).bind ?_;dsimp only;rw[eI (.inl rfl),if_pos rfl,bR (by decide),fm hnm];exact Rs.ok
def K1(l:List Tok):Prop:=∀d,(nxt ⟨l,d⟩).kind≠1
theorem uD{s:T×T}(h:pZ s){l1 l2:List Tok}(hl:l1.map kt=zG s)(hn:K1 l2):Rs (source ⟨l1++l2,0⟩) s l2 0:=by
 obtain⟨a,b⟩:=s;have h:(isName a&&cf b)=true:=h;simp only[aq]at h;unfold zG at hl;rw[oo];dsimp only at hl ⊢;by_cases hb:b = []
 ·subst hb;rw[if_pos rfl]at hl;obtain⟨p,l',rfl,h3⟩:=map_cons hl;obtain rfl:l' = []:=by simpa using h3
  simp only[aL,bM];rw[fm h.1];have e1:maybe ⟨l2,0⟩ = .ok ([],⟨l2,0⟩):=if_pos (hn 0);show Rs (maybe ⟨l2,0⟩ >>= λw => .ok ((a,w.1),w.2)) _ _ _
  rw[e1];exact Rs.ok
 ·rw[if_neg hb]at hl;have hnm:isName b=true:=by have:=h.2;unfold cf at this;simpa[hb]using this
  obtain⟨p,l',rfl,h3⟩:=map_cons hl;obtain⟨q,l',rfl,h4⟩:=map_cons h3;obtain rfl:l' = []:=by simpa using h4
  simp only[aL,bM];rw[fm h.1]
  have e1:maybe ⟨⟨1,b,q⟩::l2,0⟩ = .ok (b,⟨l2,0⟩):=by
   unfold maybe;rw[if_neg (show ¬ (nxt ⟨⟨1,b,q⟩::l2,0⟩).kind≠1 from λh=>h rfl),fm hnm]
  show Rs (maybe ⟨⟨1,b,q⟩::l2,0⟩ >>= λw => .ok ((a,w.1),w.2)) _ _ _
  rw[e1];exact Rs.ok
theorem FT{o:E×Bool}(h:isE o.1=true):El fs (Af o) o (n6 ++ [[68,69,83,67],[65,83,67]]):=λl1 l2 hl hn h0=>by
 obtain⟨e,b⟩:=o;unfold Af at hl;rw[kD];have hh:has [68,69,83,67] ⟨l2,0⟩=(false,⟨l2,0⟩):=by unfold has;rw[hn [68,69,83,67] (by simp)];rfl
 have hh2:has [65,83,67] ⟨l2,0⟩=(false,⟨l2,0⟩):=by unfold has;rw[hn [65,83,67] (by simp)];rfl
 cases b with
 | false=>
  refine(lh h (by simpa using hl) (hn.sub λs h=>np _ h) h0).bind ?_;dsimp only;rw[hh];dsimp only;rw[hh2];exact Rs.ok
 | true=>
  obtain⟨la,l',rfl,ha,h4⟩:=el (show l1.map kt=ek e ++ [(2,[68,69,83,67])]from hl);obtain⟨p,l',rfl,h5⟩:=map_cons h4;obtain rfl:l' = []:=by simpa using h5
  simp only[aJ,aL,bM];refine(lh h ha (eh (by decide)) (by simp)).bind ?_
  have e1:has [68,69,83,67] ⟨⟨2,[68,69,83,67],p⟩::l2,0⟩=(true,⟨l2,0⟩):=by
   unfold has;rw[eI (.inl rfl),if_pos rfl,bR (by decide)]
  dsimp only;rw[e1];exact Rs.ok
theorem Ku{s:T×E}(h:(isName s.1&&isE s.2)=true):El setOf (zK s) s n6:=λl1 l2 hl hn h0=>by
 simp only[aq]at h;obtain⟨p,l',rfl,h3⟩:=map_cons hl;obtain⟨q,l',rfl,h4⟩:=map_cons h3;rw[nF];simp only[aL];rw[fm h.1];show Rs (bc [61] ⟨⟨5,[61],q⟩::(l'++l2),0⟩ >>= λr=>expr r >>= λw => .ok ((s.1,w.1),w.2)) _ _ _
 rw[di (.inr rfl)];exact Rs.map (f:=λw=>(s.1,w)) (lh h.2 h4 hn h0)
theorem Kv{l:List E}(h:some l 16 isE=true):El eB (zS l) l []:=λl1 l2 hl hn h0=>by
 obtain⟨g0,g1,g2⟩:=eu h;obtain⟨p,l',rfl,h3⟩:=map_cons (show l1.map kt=(5,[40])::(jk (l.map ek)++ [(5,[41])])from hl);obtain⟨la,l',rfl,ha,h4⟩:=el h3;obtain⟨q,l',rfl,h5⟩:=map_cons h4;obtain rfl:l' = []:=by simpa using h5
 rw[iT,aL,aJ];dsimp only;rw[di (.inr rfl)];refine Rs.bind (v:=exprs expr ⟨la++([⟨5,[41],q⟩]++l2),0⟩) (pv (S:=n6) (by decide) g0 (λa ha=>BU (g2 a ha)) (λa ha=>I9 (g2 a ha)) g1 ha (eh (by decide)) (eh (by decide)) (by simp)) ?_;simp only[aL,bM];rw[di (.inr rfl)];exact Rs.ok
theorem Kw{a:E}(h:tD a=true):El column (ek a) a n1:=λl1 l2 hl hn h0=>by
 cases a with
 | col t n=>
  have h:(isName n&&cf t)=true:=h;simp only[aq]at h;exact .inl (tU (cT h.1) (iv h.2) hl hn)
 | _=>cases h
def tY(s:Tb×List (List T)):Pt->Tb×List (List T)
 | .col c=>({ s.1 with cols:=s.1.cols ++ [c] },s.2)
 | .key p l=>(gS s.1 (.inr (p,l)),jX s.2 (.inr (p,l)))
 | .chk e=>(gS s.1 (.inl e),jX s.2 (.inl e))
theorem wx{s:T}{k:Int}{p:Nat}{l:List Tok}{d:Nat}(h:k=2∨k=5)(hs:s = [80,82,73,77,65,82,89]∨s = [85,78,73,81,85,69]∨s = [67,72,69,67,75]):bJ ⟨⟨k,s,p⟩::l,d⟩=true:=by
 unfold bJ;rcases hs with rfl|rfl|rfl<;>rw[eI h]<;>simp
theorem Gb{l:List Tok}{d:Nat}(h:Nop [[80,82,73,77,65,82,89],[85,78,73,81,85,69],[67,72,69,67,75]] l):bJ ⟨l,d⟩=false:=by
 unfold bJ;rw[h [80,82,73,77,65,82,89] (by simp),h [85,78,73,81,85,69] (by simp),h [67,72,69,67,75] (by simp)];rfl
abbrev Cl(l:List Tok):Prop:=∃p r,l=⟨5,[44],p⟩::r∨l=⟨5,[41],p⟩::r
theorem Cl.no{l:List Tok}(h:Cl l){S:List T}(h1:([44]:T)∉S)(h2:([41]:T)∉S):Nop S l:=by
 obtain⟨p,r,rfl|rfl⟩:=h
 ·exact eh h1
 ·exact eh h2
theorem Bu{x:Pt}(h:Eo x){t:Tb}{k:List (List T)}{n:Nat}(hn:n+1≤16){l1 l2:List Tok}(hl:l1.map kt=ptK x)(h2:Cl l2):Rs (part t k n ⟨l1++l2,0⟩) ((tY (t,k) x).1,(tY (t,k) x).2,n+1) l2 0:=by
 have h0:0<l2.length:=by obtain⟨p,r,rfl|rfl⟩:=h2<;>simp
 have hd:decide (16<n+1)=false:=decide_eq_false (by omega)
 cases x with
 | col c=>
  obtain⟨h1,h3,h4⟩:=h;obtain⟨a,ty,nn⟩:=c;dsimp only at h1 h3 h4;have hl:l1.map kt=nmK a ++ [(2,fB ty)]++(if nn then wk [[78,79,84],[78,85,76,76]]else[]):=hl;rw[aJ]at hl;obtain⟨p,l',rfl,h5⟩:=map_cons hl;obtain⟨q,l',rfl,h6⟩:=map_cons h5;rw[ov];simp only[aL];rw[Gb (show Nop _ (⟨1,a,p⟩::_)from λs _ d=>by simp[isT,nxt]),if_neg (by decide),hd];show Rs (name ⟨⟨1,a,p⟩::⟨2,fB ty,q⟩::(l'++l2),0⟩ >>= _) _ _ _
  rw[fm h1]
  have e1:typeOf ⟨⟨2,fB ty,q⟩::(l'++l2),0⟩ = .ok (ty,⟨l'++l2,0⟩):=by
   have:ty=1∨ty=2∨ty=3:=by omega
   rcases this with rfl|rfl|rfl<;>rfl
  show Rs (typeOf ⟨⟨2,fB ty,q⟩::(l'++l2),0⟩ >>= _) _ _ _
  rw[e1]
  have stop:∀ (f:Nat) (b:Bool),eP a (f+1) t k (n+1) b ⟨l2,0⟩ = .ok ((t,k,n+1,b),⟨l2,0⟩):=λf b=>by
   rw[jj];dsimp only;rw[h2.no (S := [[78,79,84]]) (by decide) (by decide) [78,79,84] (by simp),Gb (h2.no (by decide) (by decide))];rfl
  obtain⟨m,hm⟩:∃m,l2.length=m+1:=⟨l2.length-1,by omega⟩
  cases nn with
  | false=>
   obtain rfl:l' = []:=by simpa using h6
   show Rs (eP a l2.length t k (n+1) false ⟨l2,0⟩ >>= _) _ _ _
   rw[hm,stop];exact Rs.ok
  | true=>
   obtain⟨u,l',rfl,h7⟩:=map_cons h6;obtain⟨v,l',rfl,h8⟩:=map_cons h7;obtain rfl:l' = []:=by simpa using h8
   show Rs (eP a (l2.length+1+1) t k (n+1) false ⟨⟨2,[78,79,84],u⟩::⟨2,[78,85,76,76],v⟩::l2,0⟩ >>= _) _ _ _
   rw[jj];dsimp only;rw[eI (.inl rfl),if_pos rfl,bR (by decide),di (.inl rfl)];show Rs (eP a (l2.length+1) t k (n+1) true ⟨l2,0⟩ >>= _) _ _ _
   rw[stop];exact Rs.ok
 | key b l=>
  have hl:l1.map kt=(if b then wk [[80,82,73,77,65,82,89],[75,69,89]]else wk [[85,78,73,81,85,69]])++jV (jk (l.map nmK)):=hl;rw[ov]
  cases b with
  | true=>
   obtain⟨p,l',rfl,h5⟩:=map_cons (show l1.map kt=(2,[80,82,73,77,65,82,89])::(2,[75,69,89])::jV (jk (l.map nmK))from hl);obtain⟨q,l',rfl,h6⟩:=map_cons h5;simp only[aL];rw[wx (.inl rfl) (.inl rfl),if_pos rfl,kO,hd];show Rs ((bc [75,69,89] (ax ⟨⟨2,[80,82,73,77,65,82,89],p⟩::⟨2,[75,69,89],q⟩::(l'++l2),0⟩) >>= λr=>dv [] r >>= λz => .ok ((.inr (true,z.1):Con),z.2)) >>= _) _ _ _
   rw[bR (by decide),di (.inl rfl)];exact Rs.bind (Rs.bind (show Rs (dv [] ⟨l'++l2,0⟩) l l2 0 from qd h h6) Rs.ok) Rs.ok
  | false=>
   obtain⟨p,l',rfl,h5⟩:=map_cons (show l1.map kt=(2,[85,78,73,81,85,69])::jV (jk (l.map nmK))from hl);simp only[aL];rw[wx (.inl rfl) (.inr (.inl rfl)),if_pos rfl,kO,hd];show Rs ((bc [85,78,73,81,85,69] ⟨⟨2,[85,78,73,81,85,69],p⟩::(l'++l2),0⟩ >>= λr=>dv [] r >>= λz => .ok ((.inr (false,z.1):Con),z.2)) >>= _) _ _ _
   rw[di (.inl rfl)];exact Rs.bind (Rs.bind (show Rs (dv [] ⟨l'++l2,0⟩) l l2 0 from qd h h5) Rs.ok) Rs.ok
 | chk e=>
  obtain⟨p,l',rfl,h5⟩:=map_cons (show l1.map kt=(2,[67,72,69,67,75])::jV (ek e)from hl);obtain⟨u,l',rfl,h6⟩:=map_cons h5;obtain⟨la,l',rfl,ha,h7⟩:=el h6;obtain⟨v,l',rfl,h8⟩:=map_cons h7;obtain rfl:l' = []:=by simpa using h8
  rw[ov,show(⟨2,[67,72,69,67,75],p⟩::⟨5,[40],u⟩::(la ++ [⟨5,[41],v⟩])++l2:List Tok)=⟨2,[67,72,69,67,75],p⟩::⟨5,[40],u⟩::(la++(⟨5,[41],v⟩::l2)) by simp];dsimp only;rw[wx (.inl rfl) (.inr (.inr rfl)),if_pos rfl,kO,hd];show Rs ((within expr (ax ⟨⟨2,[67,72,69,67,75],p⟩::⟨5,[40],u⟩::(la++(⟨5,[41],v⟩::l2)),0⟩) >>= λz => .ok ((.inl z.1:Con),z.2)) >>= _) _ _ _
  rw[bR (by decide)];exact Rs.bind (Rs.bind (qV (q:=v) (by omega) λhd1=>jW e h 101 1 la _ ha hd1 (by omega) (eh (show([41]:T)∉n6 by decide)) (by simp)) Rs.ok) Rs.ok
theorem xx:∀ (l:List Pt) (f:Nat) (s:Tb×List (List T)) (n:Nat) (l1:List Tok) (q:Nat) (l3:List Tok),l ≠ []->(∀x∈l,Eo x)->l.length≤f->n+l.length≤16->l1.map kt=jk (l.map ptK)->Rs (gf f s.1 s.2 n ⟨l1++(⟨5,[41],q⟩::l3),0⟩) (l.foldl tY s) (⟨5,[41],q⟩::l3) 0
 | [],_,_,_,_,_,_,h,_,_,_,_=>absurd rfl h
 | _::_,0,_,_,_,_,_,_,_,h,_,_=>by simp at h
 | [x],f+1,s,n,l1,q,l3,_,hx,hf,hm,hl=>by
  simp only[cU]at hm;rw[iL];refine(Bu (hx x (by simp)) (by omega) hl ⟨q,l3,.inr rfl⟩).bind ?_;dsimp only;rw[eh (S := [[44]]) (by decide) [44] (by simp)];exact Rs.ok
 | x::y::l,f+1,s,n,l1,q,l3,_,hx,hf,hm,hl=>by
  simp only[aK]at hm hf;obtain⟨la,l',rfl,ha,h3⟩:=el (show l1.map kt=ptK x++(5,[44])::jk ((y::l).map ptK)from hl);obtain⟨p,lb,rfl,hb⟩:=map_cons h3;rw[iL,aJ,aL];refine(Bu (hx x (by simp)) (by omega) ha ⟨p,_,.inl rfl⟩).bind ?_;dsimp only;rw[eI (.inr rfl),if_pos rfl,bR (by decide)];exact xx (y::l) f (tY s x) (n+1) lb q l3 (by simp) (λz hz=>hx z (by simp at hz ⊢;exact .inr hz)) (by simp only[aK];omega) (by simp only[aK];omega) hb
theorem AM(t:Tb)(k:List (List T))(hk:k.length=t.keys.length):(partsOf t k).foldl tY ({ name:=t.name },[])=(t,k):=by
 have h1:∀ (l:List (T×Int×Bool)) (s:Tb×List (List T)),(l.map Pt.col).foldl tY s=({ s.1 with cols:=s.1.cols++l },s.2):=by
  intro l;induction l with
  | nil=>intro s;simp
  | cons c l ih=>intro s;rw[fX,pO,ih];simp[tY]
 have h2:∀ (a:List Bool) (b:List (List T)) (s:Tb×List (List T)),b.length=a.length->(kS Pt.key a b).foldl tY s=({ s.1 with keys:=s.1.keys++a },s.2++b):=by
  intro a;induction a with
  | nil=>
   intro b s h;obtain rfl:b = []:=by simpa using h
   simp
  | cons p a ih=>
   intro b s h
   cases b with
   | nil=>simp at h
   | cons l b=>rw[List.zipWith_cons_cons,pO,ih b _ (by simpa using h)];simp[tY,gS,jX]
 have h3:∀ (l:List E) (s:Tb×List (List T)),(l.map Pt.chk).foldl tY s=({ s.1 with checks:=s.1.checks++l },s.2):=by
  intro l;induction l with
  | nil=>intro s;simp
  | cons c l ih=>intro s;rw[fX,pO,ih];simp[tY,gS,jX]
 unfold partsOf;rw[List.foldl_append,List.foldl_append,h1,h2 _ _ _ hk,h3];simp
theorem oy{S:List T}{ks:Ks}{l1 l2:List Tok}(hl:l1.map kt=ks)(hk:∀k s m,ks=(k,s)::m->s∉S)(h:Nop S l2):Nop S (l1++l2):=by
 cases ks with
 | nil=>
  obtain rfl:l1 = []:=by simpa using hl
  exact h
 | cons x m=>
  obtain⟨k,s⟩:=x;obtain⟨p,l',rfl,-⟩:=map_cons hl;exact eh (hk k s m rfl)
theorem tr{ks:Ks}{l1 l2:List Tok}(hl:l1.map kt=ks)(hk:∀k s m,ks=(k,s)::m->k≠1)(h:K1 l2):K1 (l1++l2):=by
 cases ks with
 | nil=>
  obtain rfl:l1 = []:=by simpa using hl
  exact h
 | cons x m=>
  obtain⟨k,s⟩:=x;obtain⟨p,l',rfl,-⟩:=map_cons hl;exact λd=>hk k s m rfl
def sN:List T:=n6 ++ [[44],[65,83],[68,69,83,67],[65,83,67]]
theorem Ef{x:St}(h:B1 x){l1:List Tok}{q:Nat}(hl:l1.map kt=kA x):Rs (kz ⟨l1 ++ [⟨0,[],q⟩],0⟩) x.limit [⟨0,[],q⟩] 0:=by
 unfold kA at hl;unfold kz;split at hl
 ·rename_i hz;obtain rfl:l1 = []:=by simpa using hl
  have:x.limit = -1:=by have:=h.limit.1;omega
  rw[this];exact .inl rfl
 ·rename_i hz;obtain⟨p,l',rfl,h3⟩:=map_cons hl;obtain⟨u,l',rfl,h4⟩:=map_cons h3;obtain rfl:l' = []:=by simpa using h4
  simp only[aL,bM];rw[eI (.inl rfl),if_pos rfl,bR (by decide),if_neg (show ¬ (nxt ⟨⟨3,bQ x.limit.toNat,u⟩ :: [⟨0,[],q⟩],0⟩).kind≠3 from λh=>h rfl)]
  have e1:int 9223372036854775807 ⟨⟨3,bQ x.limit.toNat,u⟩ :: [⟨0,[],q⟩],0⟩ = .ok (x.limit.toNat,⟨[⟨0,[],q⟩],0⟩):=by
   unfold int;rw[bR (by decide)];show(if 9223372036854775807<dec (bQ x.limit.toNat)then _ else dB (dec (bQ x.limit.toNat),_))=_
   rw[qu,if_neg (by have:=h.limit.2;omega)]
  rw[e1];refine .inl ?_;show dB (((x.limit.toNat:Nat):Int),_)=_
  rw[show((x.limit.toNat:Nat):Int)=x.limit by omega]
theorem JI{x:St}(h:B1 x){l1:List Tok}{q:Nat}(hl:l1.map kt=(jk (x.items.map oZ)++(2,[70,82,79,77])::(zG (x.frm.headD ([],[]))++(zQ x++(whK x.wher++(xv x++(xq x++kA x))))))):
  Rs (gH ⟨l1 ++ [⟨0,[],q⟩],0⟩) { made 8 with items:=x.items,frm:=x.frm,join:=x.join,wher:=x.wher,group:=x.group,order:=x.order,limit:=x.limit } [⟨0,[],q⟩] 0:=by
 obtain⟨li,l',rfl,hi,h3⟩:=el hl;obtain⟨p,l',rfl,h4⟩:=map_cons h3;obtain⟨ls,l',rfl,hs,h5⟩:=el h4;obtain⟨lj,l',rfl,hj,h6⟩:=el h5;obtain⟨lw,l',rfl,hw,h7⟩:=el h6;obtain⟨lg,l',rfl,hg,h8⟩:=el h7;obtain⟨lo,ll,rfl,ho,hll⟩:=el h8;have q5:Nop (sN ++ [[79,82,68,69,82],[71,82,79,85,80],[87,72,69,82,69],[74,79,73,78]]) (ll ++ [⟨0,[],q⟩]):=oy hll (λk s m e=>by unfold kA at e;split at e<;>(cases e;try decide)) (oz rfl);have q4:Nop (sN ++ [[71,82,79,85,80],[87,72,69,82,69],[74,79,73,78]]) (lo++(ll ++ [⟨0,[],q⟩])):=oy ho (λk s m e=>by unfold xq at e;split at e<;>(cases e;try decide)) (q5.sub (by decide))
 have q3:Nop (sN ++ [[87,72,69,82,69],[74,79,73,78]]) (lg++(lo++(ll ++ [⟨0,[],q⟩]))):=oy hg (λk s m e=>by unfold xv at e;split at e<;>(cases e;try decide)) (q4.sub (by decide));have q2:Nop (sN ++ [[74,79,73,78]]) (lw++(lg++(lo++(ll ++ [⟨0,[],q⟩])))):=oy hw (λk s m e=>by unfold whK at e;split at e<;>(cases e;try decide)) (q3.sub (by decide));have k5:K1 (ll ++ [⟨0,[],q⟩]):=tr hll (λk s m e=>by unfold kA at e;split at e<;>(cases e;try decide)) (λd=>by show(0:Int)≠1;decide);have k4:K1 (lo++(ll ++ [⟨0,[],q⟩])):=tr ho (λk s m e=>by unfold xq at e;split at e<;>(cases e;try decide)) k5
 have k3:K1 (lg++(lo++(ll ++ [⟨0,[],q⟩]))):=tr hg (λk s m e=>by unfold xv at e;split at e<;>(cases e;try decide)) k4;have k2:K1 (lw++(lg++(lo++(ll ++ [⟨0,[],q⟩])))):=tr hw (λk s m e=>by unfold whK at e;split at e<;>(cases e;try decide)) k3;have k1:K1 (lj++(lw++(lg++(lo++(ll ++ [⟨0,[],q⟩]))))):=tr hj (λk s m e=>by unfold zQ at e;split at e<;>(cases e;try decide)) k2;have z5:0<(ll ++ [⟨0,[],q⟩]:List Tok).length:=by simp
 have z4:0<(lo++(ll ++ [⟨0,[],q⟩]):List Tok).length:=by rw[aB];omega
 have z3:0<(lg++(lo++(ll ++ [⟨0,[],q⟩])):List Tok).length:=by rw[aB];omega
 have z2:0<(lw++(lg++(lo++(ll ++ [⟨0,[],q⟩]))):List Tok).length:=by rw[aB];omega
 simp only[aJ,aL];rw[lf]
 have hki:∀a∈x.items,oZ a ≠ []:=λa ha=>by
  have:=h.items.2.2 a ha;unfold iF at this;unfold oZ;split
  ·simp
  ·rename_i hb;rw[if_neg hb]at this;simp only[aq]at this;have:=BU this.1;split
   ·exact this
   ·simp
 refine Rs.bind (pv (S:=n6 ++ [[65,83]]) (by decide) h.items.1 hki (λa ha=>I8 (h.items.2.2 a ha)) h.items.2.1 hi (eh (by decide)) (eh (by decide)) (by simp)) ?_;dsimp only;rw[di (.inl rfl)]
 have hS:pZ (x.frm.headD ([],[])):=by
  have:=h.frm
  cases hx:x.frm with
  | nil=>exact absurd hx this.1
  | cons s l=>exact this.2.2 s (by rw[hx];simp)
 refine Rs.bind (uD hS hs k1) ?_;dsimp only;refine Rs.bind (a:=(x.frm,x.join)) (l:=lw++(lg++(lo++(ll ++ [⟨0,[],q⟩])))) (d:=0) ?_ ?_
 ·unfold zQ at hj;unfold ou;split at hj
  ·rename_i h1;obtain rfl:lj = []:=by simpa using hj
   have hf:x.frm = [x.frm.headD ([],[])]:=by
    match hx:x.frm,h.frm.1,h1 with
    | [a],_,_=>rfl
   have hjn:x.join = .none:=by
    have:=h.join;rw[if_neg (by rw[hf];simp)]at this;exact qf this
   rw[bM,q2 [74,79,73,78] (by simp),hjn,← hf];exact Rs.ok
  ·rename_i h1;have h2l:x.frm.length=2:=by have:=h.frm.2.1;omega
   have hf:x.frm = [x.frm.headD ([],[]),x.frm.tail.headD ([],[])]:=by
    match hx:x.frm,h2l with
    | [a,b],_=>rfl
   have hS2:pZ (x.frm.tail.headD ([],[])):=h.frm.2.2 _ (by rw[hf];simp);have hje:isE x.join=true:=by have:=h.join;rwa [if_pos h2l]at this
   obtain⟨u,l',rfl,h9⟩:=map_cons hj;obtain⟨lt,l',rfl,ht,h10⟩:=el h9;obtain⟨v,l',rfl,h11⟩:=map_cons h10;simp only[aJ,aL];rw[eI (.inl rfl),if_pos rfl,bR (by decide)];refine Rs.bind (uD hS2 ht (λd=>by show(2:Int)≠1;decide)) ?_;dsimp only;rw[di (.inl rfl)];refine Rs.bind (lh hje h11 (q2.sub (by decide)) z2) ?_;refine .inl ?_;show dB (([x.frm.headD ([],[]),x.frm.tail.headD ([],[])],x.join),_)=_
   rw[← hf]
 dsimp only;refine Rs.bind (vG h.wher hw (q3.sub (by decide)) z3) ?_;dsimp only;refine Rs.bind (a:=x.group) (l:=lo++(ll ++ [⟨0,[],q⟩])) (d:=0) ?_ ?_
 ·unfold xv at hg;unfold lZ;split at hg
  ·rename_i h1;obtain rfl:lg = []:=by simpa using hg
   rw[bM,q4 [71,82,79,85,80] (by simp),h1];exact Rs.ok
  ·rename_i h1;obtain⟨u,l',rfl,h9⟩:=map_cons hg;obtain⟨v,l',rfl,h10⟩:=map_cons h9;simp only[aL];rw[eI (.inl rfl),if_pos rfl,bR (by decide),di (.inl rfl)];exact pv (S:=n1) (by decide) h1 (λa ha=>BU (qo (h.group.2 a ha))) (λa ha=>Kw (h.group.2 a ha)) h.group.1 h10 (q4.sub (by decide)) (q4.sub (by decide)) z4
 dsimp only;refine Rs.bind (a:=x.order) (l:=ll ++ [⟨0,[],q⟩]) (d:=0) ?_ ?_
 ·unfold xq at ho;unfold lX;split at ho
  ·rename_i h1;obtain rfl:lo = []:=by simpa using ho
   rw[bM,q5 [79,82,68,69,82] (by simp),h1];exact Rs.ok
  ·rename_i h1;obtain⟨u,l',rfl,h9⟩:=map_cons ho;obtain⟨v,l',rfl,h10⟩:=map_cons h9;simp only[aL];rw[eI (.inl rfl),if_pos rfl,bR (by decide),di (.inl rfl)];exact pv (S:=n6 ++ [[68,69,83,67],[65,83,67]]) (by decide) h1 (λa ha=>by unfold Af;split;simp;exact BU (h.order.2 a ha)) (λa ha=>FT (h.order.2 a ha)) h.order.1 h10 (q5.sub (by decide)) (q5.sub (by decide)) z5
 dsimp only;exact Rs.bind (Ef h hll) Rs.ok
end P12
namespace P12
open P11 (Tok kt)
theorem okb{α β:Type}(a:α)(K:α->Except Er β):((dB a:Except Er α) >>= K)=K a:=rfl
theorem KY{x:St}(h:isS x){ts:List Tok}{q:Nat}(hl:ts.map kt=stK x):Rs (cG ⟨ts ++ [⟨0,[],q⟩],0⟩) x [⟨0,[],q⟩] 0:=by
 obtain⟨hx,h⟩:=h;rcases h with⟨hk,h⟩|⟨hk,h⟩|⟨hk,h⟩|⟨hk,h1,h2,h3⟩|⟨hk,h1,h2,h3⟩|⟨hk,h1,h2,h3⟩|⟨hk,h1,h2⟩|⟨hk,h⟩|hk|hk|hk
 all_goals(unfold eF at hx;simp only[hk]at hx;simp(config := { decide:=true }) only[if_true,if_false]at hx;unfold stK at hl;simp only[hk]at hl;simp(config := { decide:=true }) only[if_true,if_false]at hl)
 ·obtain⟨h1,h2,h3,h4,h5⟩:=qR h;obtain⟨p1,l1,rfl,g1⟩:=map_cons (show ts.map kt=(2,[67,82,69,65,84,69])::(2,[84,65,66,76,69])::(1,x.tb.name)::(5,[40])::(jk ((partsOf x.tb x.keyCols).map ptK)++ [(5,[41])])from hl);obtain⟨p2,l2,rfl,g2⟩:=map_cons g1;obtain⟨p3,l3,rfl,g3⟩:=map_cons g2;obtain⟨p4,l4,rfl,g4⟩:=map_cons g3;obtain⟨la,l5,rfl,ha,g5⟩:=el g4;obtain⟨p5,l6,rfl,g6⟩:=map_cons g5;obtain rfl:l6 = []:=by simpa using g6
  simp only[aL,aJ,bM]
  have hres:Rs (rV ⟨⟨1,x.tb.name,p3⟩::⟨5,[40],p4⟩::(la++(⟨5,[41],p5⟩ :: [⟨0,[],q⟩])),0⟩) { made 1 with tb:=x.tb,keyCols:=x.keyCols } [⟨0,[],q⟩] 0:=by
   unfold rV;rw[fm h1,okb];dsimp only;rw[di (.inr rfl),okb];refine Rs.bind (a:=(x.tb,x.keyCols)) (l:=⟨5,[41],p5⟩ :: [⟨0,[],q⟩]) (d:=0) ?_ ?_
   ·have:=xx (partsOf x.tb x.keyCols) (la++(⟨5,[41],p5⟩ :: [⟨0,[],q⟩]):List Tok).length ({ name:=x.tb.name },[]) 0 la p5 [⟨0,[],q⟩] h2 h5 (by
     have hj:=Ax (k:=ptK) (partsOf x.tb x.keyCols) (λa ha=>by
      have:=h5 a ha
      cases a with
      | col c=>unfold ptK Jc;simp
      | key b l=>unfold ptK IF;cases b<;>simp[wk,jV]
      | chk e=>unfold ptK Jd;simp)
     rw[← ha,cH]at hj;rw[aB];omega) (by omega) ha
    rw[AM _ _ h4]at this;exact this
   ·dsimp only;rw[di (.inr rfl)];exact Rs.ok
  rw[show({ made 1 with tb:=x.tb,keyCols:=x.keyCols }:St)=x from hx.symm]at hres;exact hres
 ·obtain⟨p1,l1,rfl,g1⟩:=map_cons (show ts.map kt=(2,[68,82,79,80])::(2,[84,65,66,76,69])::(1,x.name) :: []from hl);obtain⟨p2,l2,rfl,g2⟩:=map_cons g1;obtain⟨p3,l3,rfl,g3⟩:=map_cons g2;obtain rfl:l3 = []:=by simpa using g3
  refine .inl ?_;show(name ⟨⟨1,x.name,p3⟩ :: [⟨0,[],q⟩],0⟩ >>= λz=>dB ({ made 2 with name:=z.1 },z.2))=_
  rw[fm h];exact congrArg (λy=>dB (y,R.mk [⟨0,[],q⟩] 0)) hx.symm
 ·obtain⟨p1,l1,rfl,g1⟩:=map_cons (show ts.map kt=(2,[68,82,79,80])::(2,[73,78,68,69,88])::(1,x.name) :: []from hl);obtain⟨p2,l2,rfl,g2⟩:=map_cons g1;obtain⟨p3,l3,rfl,g3⟩:=map_cons g2;obtain rfl:l3 = []:=by simpa using g3
  refine .inl ?_;show(name ⟨⟨1,x.name,p3⟩ :: [⟨0,[],q⟩],0⟩ >>= λz=>dB ({ made 4 with name:=z.1 },z.2))=_
  rw[fm h];exact congrArg (λy=>dB (y,R.mk [⟨0,[],q⟩] 0)) hx.symm
 ·have mk:∀ (u:Bool) (l:List Tok),l.map kt=(2,[73,78,68,69,88])::(1,x.name)::(2,[79,78])::(1,x.on)::jV (jk (x.cols.map nmK))->Rs (mkIdx u ⟨l ++ [⟨0,[],q⟩],0⟩) { made 3 with unique:=u,name:=x.name,on:=x.on,cols:=x.cols } [⟨0,[],q⟩] 0:=λu l hl=>by
   obtain⟨p1,l1,rfl,g1⟩:=map_cons hl;obtain⟨p2,l2,rfl,g2⟩:=map_cons g1;obtain⟨p3,l3,rfl,g3⟩:=map_cons g2;obtain⟨p4,l4,rfl,g4⟩:=map_cons g3;simp only[aL];unfold mkIdx;rw[di (.inl rfl),okb];dsimp only;rw[fm h1,okb];dsimp only;rw[di (.inl rfl),okb];rw[fm h2,okb];exact Rs.bind (qd h3 g4) Rs.ok
  cases hu:x.unique with
  | true=>
   rw[hu]at hl hx;obtain⟨p1,l1,rfl,g1⟩:=map_cons (show ts.map kt=(2,[67,82,69,65,84,69])::(2,[85,78,73,81,85,69])::(2,[73,78,68,69,88])::(1,x.name)::(2,[79,78])::(1,x.on)::jV (jk (x.cols.map nmK))from hl);obtain⟨p2,l2,rfl,g2⟩:=map_cons g1;have hres:=mk true l2 g2;rw[show({ made 3 with unique:=true,name:=x.name,on:=x.on,cols:=x.cols }:St)=x from hx.symm]at hres
   have e1:cG ⟨⟨2,[67,82,69,65,84,69],p1⟩::⟨2,[85,78,73,81,85,69],p2⟩::l2 ++ [⟨0,[],q⟩],0⟩=(if isT [73,78,68,69,88] ⟨l2 ++ [⟨0,[],q⟩],0⟩||true=true then mkIdx true ⟨l2 ++ [⟨0,[],q⟩],0⟩else mkIdx true ⟨l2 ++ [⟨0,[],q⟩],0⟩):=by
    rw[ite_self];kernel_rfl
   rw[e1,ite_self];exact hres
  | false=>
   rw[hu]at hl hx;obtain⟨p1,l1,rfl,g1⟩:=map_cons (show ts.map kt=(2,[67,82,69,65,84,69])::(2,[73,78,68,69,88])::(1,x.name)::(2,[79,78])::(1,x.on)::jV (jk (x.cols.map nmK))from hl);have hres:=mk false l1 g1;rw[show({ made 3 with unique:=false,name:=x.name,on:=x.on,cols:=x.cols }:St)=x from hx.symm]at hres;obtain⟨p2,l2,rfl,g2⟩:=map_cons g1;exact hres
 ·obtain⟨g0,g1,g2⟩:=eu h3;obtain⟨p1,l1,rfl,f1⟩:=map_cons (show ts.map kt=(2,[73,78,83,69,82,84])::(2,[73,78,84,79])::(1,x.name)::((if x.cols = []then[]else jV (jk (x.cols.map nmK)))++((2,[86,65,76,85,69,83])::jk (x.rows.map zS)))from hl);obtain⟨p2,l2,rfl,f2⟩:=map_cons f1;obtain⟨p3,l3,rfl,f3⟩:=map_cons f2;obtain⟨lc,l4,rfl,hc,f4⟩:=el f3;obtain⟨p4,lr,rfl,hr⟩:=map_cons f4;simp only[aL,aJ]
  have hres:Rs (insert ⟨⟨2,[73,78,84,79],p2⟩::⟨1,x.name,p3⟩::(lc++(⟨2,[86,65,76,85,69,83],p4⟩::(lr ++ [⟨0,[],q⟩]))),0⟩) { made 5 with name:=x.name,cols:=x.cols,rows:=x.rows } [⟨0,[],q⟩] 0:=by
   rw[insert_eq];dsimp only;rw[di (.inl rfl),okb];rw[fm h1,okb];refine Rs.bind (a:=x.cols) (l:=⟨2,[86,65,76,85,69,83],p4⟩::(lr ++ [⟨0,[],q⟩])) (d:=0) ?_ ?_
   ·dsimp only;split at hc
    ·rename_i h0;obtain rfl:lc = []:=by simpa using hc
     rw[h0];exact .inl rfl
    ·rename_i h0;have hcs:some x.cols 16 isName=true:=by rcases h2 with h2|h2;exact absurd h2 h0;exact h2
     have hh:isT [40] ⟨lc++(⟨2,[86,65,76,85,69,83],p4⟩::(lr ++ [⟨0,[],q⟩])),0⟩=true:=by
      obtain⟨p5,l5,rfl,-⟩:=map_cons (show lc.map kt=(5,[40])::_ from hc);exact eI (.inr rfl)
     rw[hh,if_pos rfl];exact qd hcs hc
   ·dsimp only;rw[di (.inl rfl),okb];exact Rs.bind (pv (S := []) (by simp) g0 (λa _=>by simp[zS,jV]) (λa ha=>Kv (g2 a ha)) g1 hr (λs hs=>by cases hs) (oz rfl) (by simp)) Rs.ok
  rw[show({ made 5 with name:=x.name,cols:=x.cols,rows:=x.rows }:St)=x from hx.symm]at hres;exact hres
 ·obtain⟨g0,g1,g2⟩:=eu h2;obtain⟨p1,l1,rfl,f1⟩:=map_cons (show ts.map kt=(2,[85,80,68,65,84,69])::(1,x.name)::(2,[83,69,84])::(jk (x.sets.map zK)++whK x.wher)from hl);obtain⟨p2,l2,rfl,f2⟩:=map_cons f1;obtain⟨p3,l3,rfl,f3⟩:=map_cons f2;obtain⟨lc,lw,rfl,hc,hw⟩:=el f3;simp only[aL,aJ]
  have hres:Rs (update ⟨⟨1,x.name,p2⟩::⟨2,[83,69,84],p3⟩::(lc++(lw ++ [⟨0,[],q⟩])),0⟩) { made 6 with name:=x.name,sets:=x.sets,wher:=x.wher } [⟨0,[],q⟩] 0:=by
   rw[ob];dsimp only;rw[fm h1,okb];dsimp only;rw[di (.inl rfl),okb];refine Rs.bind (pv (S:=n6) (by decide) g0 (λa _=>by simp[zK]) (λa ha=>Ku (g2 a ha)) g1 hc (oy hw (λk s m e=>by unfold whK at e;split at e<;>(cases e;try decide)) (oz rfl)) (oy hw (λk s m e=>by unfold whK at e;split at e<;>(cases e;try decide)) (oz rfl)) (by simp)) ?_;exact Rs.bind (vG h3 hw (oz rfl) (by simp)) Rs.ok
  rw[show({ made 6 with name:=x.name,sets:=x.sets,wher:=x.wher }:St)=x from hx.symm]at hres;exact hres
 ·obtain⟨p1,l1,rfl,f1⟩:=map_cons (show ts.map kt=(2,[68,69,76,69,84,69])::(2,[70,82,79,77])::(1,x.name)::whK x.wher from hl);obtain⟨p2,l2,rfl,f2⟩:=map_cons f1;obtain⟨p3,lw,rfl,hw⟩:=map_cons f2;simp only[aL]
  have hres:Rs (ia ⟨⟨2,[70,82,79,77],p2⟩::⟨1,x.name,p3⟩::(lw ++ [⟨0,[],q⟩]),0⟩) { made 7 with name:=x.name,wher:=x.wher } [⟨0,[],q⟩] 0:=by
   rw[mT];dsimp only;rw[di (.inl rfl),okb];rw[fm h1,okb];exact Rs.bind (vG h2 hw (oz rfl) (by simp)) Rs.ok
  rw[show({ made 7 with name:=x.name,wher:=x.wher }:St)=x from hx.symm]at hres;exact hres
 ·have hs:=qU h;unfold Ia at hl;obtain⟨p1,l1,rfl,f1⟩:=map_cons hl;have hres:=JI (q:=q) hs f1;rw[show({ made 8 with items:=x.items,frm:=x.frm,join:=x.join,wher:=x.wher,group:=x.group,order:=x.order,limit:=x.limit }:St)=x from hx.symm]at hres;exact hres
 ·obtain⟨p1,l1,rfl,f1⟩:=map_cons (show ts.map kt=(2,[66,69,71,73,78]) :: []from hl);obtain rfl:l1 = []:=by simpa using f1
  exact .inl (congrArg (λy=>dB (y,R.mk [⟨0,[],q⟩] 0)) hx.symm)
 ·obtain⟨p1,l1,rfl,f1⟩:=map_cons (show ts.map kt=(2,[67,79,77,77,73,84]) :: []from hl);obtain rfl:l1 = []:=by simpa using f1
  exact .inl (congrArg (λy=>dB (y,R.mk [⟨0,[],q⟩] 0)) hx.symm)
 ·obtain⟨p1,l1,rfl,f1⟩:=map_cons (show ts.map kt=(2,[82,79,76,76,66,65,67,75]) :: []from hl);obtain rfl:l1 = []:=by simpa using f1
  exact .inl (congrArg (λy=>dB (y,R.mk [⟨0,[],q⟩] 0)) hx.symm)
theorem Ad{x:St}(h:isS x)(hl:(print x).length≤4096):parse (print x) = .ok x∨∃a,parse (print x) = .error (a,121):=by
 obtain⟨ts,q,h1,h2⟩:=xU h hl;have hr:=KY (q:=q) h h2;unfold parse;rw[h1];dsimp only;unfold fV;rcases hr with hr|⟨a,hr⟩
 ·rw[hr];exact .inl rfl
 ·rw[hr];exact .inr ⟨a,rfl⟩
end P12
