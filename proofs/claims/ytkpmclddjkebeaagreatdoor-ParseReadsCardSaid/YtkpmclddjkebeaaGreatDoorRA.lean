/- What the claim's proof leans on, part 1: walks of functions and plain laws. -/
import Derived.Lib.Replace
import Derived.Lib.ItoaNum
import Derived.Lib.Case
import Derived.Lib.SlTrimSet
import Derived.Lib.Join
set_option linter.unusedSimpArgs false
set_option linter.unusedVariables false
set_option maxRecDepth 100000
set_option maxHeartbeats 80000000
theorem ab{P:Prop}(h:P:=by omega):P:=h
theorem au{P:Prop}(h:P:=by kernel_rfl):P:=h
theorem aq{P:Prop}(h:P:=by decide):P:=h
theorem az{P:Prop}(h:P:=by rfl):P:=h
theorem aI{P:Prop}(h:P:=by simp):P:=h
open Bool renaming and_eq_true→aT,and_true→mi,false_eq_true→aS,true_and→sB
open Go.Lib renaming itoa→lM,join→D8,upperB→fH
open List renaming all_eq_true→ft,cons_append→fV,isPrefixOf→bX,length_append→aN,length_cons→aW,length_drop→ez,length_singleton→bf,map_cons→zW,mem_append→kh,mem_cons→aJ,mem_range→lh,mem_singleton→dr,range→xy,sum_cons→zP,takeWhile→dP,takeWhile_prefix→iJ,take_succ_cons→aG
open Nat renaming add_comm→sy,le_of_not_lt→sc,le_refl→ai,le_trans→bI,mul_le_mul_right→fe,zero_add→eF,zero_le→gM
open Option renaming map_eq_some_iff→fF
open UInt8 renaming le_iff_toNat_le→fp,ofNat→ja,toNat_inj→jL
namespace P6
open Go.Op (bytesLess)
def isV(k i:Int)(s:List UInt8):Bool:=
 if k=0 then i==0&&s == []else if k=1 then(i==0||i==1)&&s == []else if k=2 then s == []
 else if k=3 then i==0&&decide (s.length≤40) && !s.contains 0 else false
open Go.Lib
def dbl:List UInt8->List UInt8
 | []=> []
 | c::l=>if c=39 then 39::39::dbl l else c::dbl l
theorem tI(b:UInt8)(l:List UInt8):index (b::l) [39]=if b=39 then 0 else if index l [39] = -1 then -1 else index l [39]+1:=by
 rw[index];by_cases h:b=39
 ·subst h;simp[bX]
 ·have:([39]:List UInt8).isPrefixOf (b::l)=false:=by simp[bX];exact λe=>h e.symm
  simp[h,this]
theorem rJ:∀s:List UInt8,replaceK [39] [39,39] (count s [39]) s=dbl s
 | []=>rfl
 | b::l=>by
  have ih:=rJ l;have hi:=tI b l;by_cases hb:b=39
  ·rw[if_pos hb]at hi;have hi0:index (b::l) [39]=((0:Nat):Int):=hi;rw[count_hit (i:=0) aI hi0,sy 1,replaceK_hit _ _ _ _ 0 hi0,dbl,if_pos hb];simpa using ih
  ·rw[if_neg hb]at hi;rw[dbl,if_neg hb];by_cases hm:index l [39] = -1
   ·rw[if_pos hm]at hi;rw[count_miss hi,replaceK,← ih,count_miss hm,replaceK]
   ·rw[if_neg hm]at hi;have hge:=index_ge l [39];obtain⟨i,hl⟩:=Int.eq_ofNat_of_zero_le (show 0≤index l [39] by omega);have hi':index (b::l) [39]=((i+1:Nat):Int):=by rw[hi,hl];rfl
    rw[count_hit (i:=i+1) aI hi',sy 1,replaceK_hit _ _ _ _ _ hi'];rw[count_hit (i:=i) aI hl,sy 1,replaceK_hit _ _ _ _ _ hl]at ih;rw[← ih];simp
theorem sR(s:List UInt8):replaceAll s [39] [39,39]=dbl s:=by
 unfold replaceAll replace replaceNum;simp only[show(([39]:List UInt8) == [39,39])=false from rfl];simpa using rJ s
def quote(s:List UInt8):List UInt8:=39::(dbl s ++ [39])
def iC(k i:Int)(s:List UInt8):List UInt8:=
 if isV k i s then(if k=0 then[78,85,76,76]else if k=1 then(if i=1 then[84,82,85,69]else[70,65,76,83,69])else if k=2 then itoa i else quote s)else[63]
theorem tT:∀s,(dbl s).length≤2*s.length
 | []=>by simp[dbl]
 | c::l=>by have:=tT l;rw[dbl];split<;>simp<;>omega
end P6
namespace P11
open Go.Lib (upperB lowerB)
structure Tok where
 kind:Int
 text:List UInt8
 pos:Nat
def letter(c:UInt8):Bool:=(97≤c&&c≤122)||(65≤c&&c≤90)||c==95
def digit(c:UInt8):Bool:=48≤c&&c≤57
def dD(c:UInt8):Bool:=letter c||digit c
def blank(c:UInt8):Bool:=c==32||c==9||c==10||c==13
def words:List (List UInt8):= [[65,78,68],[65,83],[65,83,67],[66,69,71,73,78],[66,79,79,76],[66,89],[67,72,69,67,75],[67,79,77,77,73,84],[67,79,85,78,84],[67,82,69,65,84,69],[68,69,76,69,84,69],[68,69,83,67],[68,82,79,80],[70,65,76,83,69],[70,82,79,77],[71,82,79,85,80],[73,78,68,69,88],[73,78,83,69,82,84],[73,78,84],[73,78,84,79],[73,83],[74,79,73,78],[75,69,89],[76,73,77,73,84],[77,65,88],[77,73,78],[78,79,84],[78,85,76,76],[79,78],[79,82],[79,82,68,69,82],[80,82,73,77,65,82,89],[82,79,76,76,66,65,67,75],[83,69,76,69,67,84],[83,69,84],[83,85,77],[84,65,66,76,69],[84,69,88,84],[84,82,85,69],[85,78,73,81,85,69],[85,80,68,65,84,69],[86,65,76,85,69,83],[87,72,69,82,69]]
def fI:List (List UInt8):= [[60,62],[60,61],[62,61],[124,124],[40],[41],[44],[46],[42],[61],[60],[62],[43],[45],[47],[37],[59]]
def fK(r:List UInt8):Option (List UInt8):=fI.find? λx=>x.isPrefixOf r
def numOf:List UInt8->List UInt8
 | []=> []
 | [c]=> [c]
 | c::d::l=>if c=48 then numOf (d::l)else c::d::l
def ck:List UInt8->Option (List UInt8×Nat)
 | []=>none
 | [c]=>if c=39 then some ([],1)else none
 | c::d::l=>if c=39 then(if d=39 then(ck l).map λx=>(39::x.1,x.2+2)else some ([],1))else(ck (d::l)).map λx=>(c::x.1,x.2+1)
def iw(r:List UInt8):Nat:=(r.takeWhile (· !=10)).length
def step:List UInt8->(Nat×Option (Int×List UInt8)) ⊕ (Nat×Int)
 | []=> .inr (0,0)
 | c::t=>
  if blank c then .inl (1,none)
  else if[45,45].isPrefixOf (c::t)then .inl (iw (c::t),none)
  else if c=39 then
   match ck t with
   | none => .inr (0,112)
   | some x=>if((c::t).take (x.2+1)).contains 0 then .inr (((c::t).take (x.2+1)).idxOf 0,111)else .inl (x.2+1,some (4,x.1))
  else if letter c then
   let w:=(c::t).takeWhile dD
   .inl (w.length,some (if words.contains (w.map upperB)then(2,w.map upperB)else(1,w.map lowerB)))
  else if digit c then
   let w:=(c::t).takeWhile digit
   .inl (w.length,some (3,numOf w))
  else match fK (c::t)with
   | none => .inr (0,111)
   | some x => .inl (x.length,some (5,x))
def pR(t:Option (Int×List UInt8))(p:Nat)(l:List Tok):List Tok:=
 match t with
 | none=>l
 | some x=>⟨x.1,x.2,p⟩::l
def ry:Nat->List UInt8->Nat->List Tok ⊕ (Nat×Int)
 | 0,_,_ => .inr (0,0)
 | _+1,[],p => .inl [⟨0,[],p⟩]
 | f+1,c::t,p=>
  match step (c::t)with
  | .inr x => .inr (p+x.1,x.2)
  | .inl x=>match ry f ((c::t).drop x.1) (p+x.1)with
   | .inr y => .inr y
   | .inl l => .inl (pR x.2 p l)
def toks(r:List UInt8)(p:Nat):List Tok ⊕ (Nat×Int):=ry (r.length+1) r p
def eP(s:List UInt8):List Tok ⊕ (Nat×Int):=if 4096<s.length then .inr (0,110)else toks s 0
theorem kK:∀ (n:Nat) (l:List UInt8),l.length≤n->∀x,ck l=some x->0<x.2/\x.2≤l.length
 | _,[],_,x,h=>by simp[ck]at h
 | _,[c],_,x,h=>by
  rw[ck]at h;split at h
  ·cases h;simp
  ·cases h
 | 0,_::_::_,hn,_,_=>by simp at hn
 | n+1,c::d::l,hn,x,h=>by
  rw[ck]at h;simp only[aW]at hn;split at h
  ·split at h
   ·obtain⟨y,hy,rfl⟩:=fF.1 h;have:=kK n l ab y hy;simp only[aW];omega
   ·cases h;simp
  ·obtain⟨y,hy,rfl⟩:=fF.1 h;have:=kK n (d::l) (by simp;omega) y hy;simp only[aW]at this ⊢;omega
theorem kx{c:UInt8}(h:letter c=true):dD c=true:=by simp[dD,h]
theorem CS:∀x∈fI,0<x.length:=aq
theorem sN{r x:List UInt8}(h:fK r=some x):0<x.length/\x.isPrefixOf r=true:=
 ⟨CS x (List.mem_of_find?_eq_some h),by simpa using List.find?_some h⟩
theorem step_pos{c:UInt8}{t:List UInt8}{x}(h:step (c::t) = .inl x):0<x.1/\x.1≤(c::t).length:=by
 rw[step]at h;split at h
 ·cases h;simp
 split at h
 ·rename_i h1 h2
  cases h;constructor
  ·unfold iw;have hc:c=45:=by simp[bX]at h2;exact h2.1.symm
   subst hc;simp[dP]
  ·exact(iJ _).length_le
 split at h
 ·split at h
  ·cases h
  ·rename_i y hy;split at h
   ·cases h
   ·cases h;have:=kK _ t (ai _) y hy;simp only[aW];omega
 split at h
 ·rename_i h4
  cases h;refine⟨?_,(iJ _).length_le⟩;simp[dP,kx h4]
 split at h
 ·rename_i h5
  cases h;refine⟨?_,(iJ _).length_le⟩;simp[dP,h5]
 split at h
 ·cases h
 ·rename_i x hx
  cases h;obtain⟨h1,h2⟩:=sN hx;exact⟨h1,(List.isPrefixOf_iff_prefix.1 h2).length_le⟩
theorem sE:∀ (f g:Nat) (r:List UInt8) (p:Nat),r.length<f->r.length<g->ry f r p=ry g r p
 | 0,_,_,_,h,_=>by omega
 | _+1,0,_,_,_,h=>by omega
 | f+1,g+1,[],p,_,_=>rfl
 | f+1,g+1,c::t,p,hf,hg=>by
  rw[ry,ry]
  cases hs:step (c::t)with
  | inr x=>rfl
  | inl x=>
   have:=step_pos hs;simp only[aW]at hf hg this;have e:=sE f g ((c::t).drop x.1) (p+x.1) (by simp only[ez,aW];omega) (by simp only[ez,aW];omega);simp only[e]
theorem nq(p:Nat):toks [] p = .inl [⟨0,[],p⟩]:=rfl
theorem pT{c:UInt8}{t:List UInt8}{x}(p:Nat)(h:step (c::t) = .inr x):toks (c::t) p = .inr (p+x.1,x.2):=by
 rw[toks,ry,h]
theorem mm{c:UInt8}{t:List UInt8}{x}(p:Nat)(h:step (c::t) = .inl x):toks (c::t) p=match toks ((c::t).drop x.1) (p+x.1)with
  | .inr y => .inr y
  | .inl l => .inl (pR x.2 p l):=by
 have:=step_pos h;simp only[aW]at this;have e:=sE (c::t).length (((c::t).drop x.1).length+1) ((c::t).drop x.1) (p+x.1) (by simp only[ez,aW];omega) ab;rw[toks,ry,h];simp only[e];rfl
def after(acc:List Tok):List Tok ⊕ (Nat×Int)->List Tok ⊕ (Nat×Int)
 | .inr y => .inr y
 | .inl l => .inl (acc++l)
theorem vG(x):after [] x=x:=by cases x<;>rfl
theorem pF{c:UInt8}{t:List UInt8}{n:Nat}{p:Nat}{acc:List Tok}(h:step (c::t) = .inl (n,none)):after acc (toks (c::t) p)=after acc (toks ((c::t).drop n) (p+n)):=by
 rw[mm p h];dsimp only;cases toks ((c::t).drop n) (p+n)<;>rfl
theorem k6{c:UInt8}{t:List UInt8}{n:Nat}{p:Nat}{k:Int}{u:List UInt8}{acc:List Tok}(h:step (c::t) = .inl (n,some (k,u))):after acc (toks (c::t) p)=after (acc ++ [⟨k,u,p⟩]) (toks ((c::t).drop n) (p+n)):=by
 rw[mm p h];dsimp only;cases toks ((c::t).drop n) (p+n)<;>simp[after,pR]
theorem oF{c:UInt8}{t:List UInt8}{n:Nat}{p:Nat}{e:Int}{acc:List Tok}(h:step (c::t) = .inr (n,e)):after acc (toks (c::t) p) = .inr (p+n,e):=by
 rw[pT p h];rfl
end P11
namespace P11
open Go.Lib (upperB lowerB)
open P6 (dbl)
theorem mI{p:UInt8->Bool}(h:(xy 256).all (λn=>p (ja n))=true)(c:UInt8):p c=true:=by
 have:=ft.1 h c.toNat (lh.2 c.toNat_lt);simpa using this
theorem pf{p q:UInt8->Bool}(h:(xy 256).all (λn => !p (ja n)||q (ja n))=true)(c:UInt8)(hp:p c=true):q c=true:=by
 have:=mI (p:=λc => !p c||q c) h c;simpa[hp]using this
theorem nZ(c:UInt8)(x:List UInt8)(h:c≠39):ck (c::x)=(ck x).map λy=>(c::y.1,y.2+1):=by
 cases x with
 | nil=>simp[ck,h]
 | cons d l=>rw[ck,if_neg h]
theorem qJ(x:List UInt8):ck (39::39::x)=(ck x).map λy=>(39::y.1,y.2+2):=by
 rw[ck,if_pos rfl,if_pos rfl]
theorem pU(r:List UInt8)(h:r.head?≠some 39):ck (39::r)=some ([],1):=by
 cases r with
 | nil=>rfl
 | cons d l=>rw[ck,if_pos rfl,if_neg (by simpa using h)]
theorem Ak(r:List UInt8)(h:r.head?≠some 39):∀s:List UInt8,ck (dbl s++39::r)=some (s,(dbl s).length+1)
 | []=>by simpa[dbl]using pU r h
 | c::s=>by
  rw[dbl];have ih:=Ak r h s;split
  ·rename_i hc;subst hc;simp only[fV];rw[qJ,ih];simp
  ·rename_i hc;simp only[fV];rw[nZ _ _ hc,ih];simp
theorem zM{c:UInt8}(h:blank c=true)(r:List UInt8)(p:Nat)(acc:List Tok):after acc (toks (c::r) p)=after acc (toks r (p+1)):=
 pF (n:=1) (by rw[step,if_pos h])
def good(x:Int×List UInt8):Prop:=
 (x.1=1/\(∃c l,x.2=c::l/\letter c=true)/\x.2.all dD=true/\x.2.map lowerB=x.2/\words.contains (x.2.map upperB)=false)∨
 (x.1=2/\(∃c l,x.2=c::l/\letter c=true)/\x.2.all dD=true/\x.2.map upperB=x.2/\words.contains x.2=true)∨
 (x.1=3/\x.2 ≠ []/\x.2.all digit=true/\numOf x.2=x.2)∨(x.1=4/\x.2.contains 0=false)∨(x.1=5/\x.2∈fI)
def pr(x:Int×List UInt8):List UInt8:=if x.1=4 then P6.quote x.2 else x.2
theorem Dv(c:UInt8):letter (upperB c)=letter c:=by simpa using mI (p:=λc=>letter (upperB c)==letter c) (by decide +kernel) c
theorem Dw(c:UInt8):letter (lowerB c)=letter c:=by simpa using mI (p:=λc=>letter (lowerB c)==letter c) (by decide +kernel) c
theorem Gm(c:UInt8):dD (upperB c)=dD c:=by simpa using mI (p:=λc=>dD (upperB c)==dD c) (by decide +kernel) c
theorem Gn(c:UInt8):dD (lowerB c)=dD c:=by simpa using mI (p:=λc=>dD (lowerB c)==dD c) (by decide +kernel) c
theorem Kf(c:UInt8):upperB (upperB c)=upperB c:=by simpa using mI (p:=λc=>upperB (upperB c)==upperB c) (by decide +kernel) c
theorem lo_lo(c:UInt8):lowerB (lowerB c)=lowerB c:=by simpa using mI (p:=λc=>lowerB (lowerB c)==lowerB c) (by decide +kernel) c
theorem Kg(c:UInt8):upperB (lowerB c)=upperB c:=by simpa using mI (p:=λc=>upperB (lowerB c)==upperB c) (by decide +kernel) c
theorem gL(p:UInt8->Bool):∀l:List UInt8,(l.takeWhile p).all p=true
 | []=>rfl
 | c::l=>by
  rw[dP];split
  ·rename_i h;simp only[List.all_cons,h,sB];exact gL p l
  ·rfl
theorem sX:∀l:List UInt8,numOf (numOf l)=numOf l
 | []=>rfl
 | [c]=>rfl
 | c::d::l=>by
  rw[numOf];split
  ·exact sX (d::l)
  ·rename_i h;rw[numOf,if_neg h]
theorem yI:∀l:List UInt8,l ≠ []->numOf l ≠ []
 | [],h=>absurd rfl h
 | [c],_=>by simp[numOf]
 | c::d::l,_=>by
  rw[numOf];split
  ·exact yI (d::l) aI
  ·simp
theorem vh(p:UInt8->Bool):∀l:List UInt8,l.all p=true->(numOf l).all p=true
 | [],_=>rfl
 | [c],h=>h
 | c::d::l,h=>by
  rw[numOf];split
  ·exact vh p (d::l) (by simp only[List.all_cons,aT]at h ⊢;exact h.2)
  ·exact h
theorem nr:∀ (n:Nat) (l:List UInt8),l.length≤n->∀x,ck l=some x->(l.take x.2).contains 0=false->x.1.contains 0=false
 | _,[],_,x,h,_=>by simp[ck]at h
 | _,[c],_,x,h,_=>by
  rw[ck]at h;split at h
  ·cases h;rfl
  ·cases h
 | 0,_::_::_,hn,_,_,_=>by simp at hn
 | n+1,c::d::l,hn,x,h,h0=>by
  rw[ck]at h;simp only[aW]at hn;split at h
  ·split at h
   ·obtain⟨y,hy,rfl⟩:=fF.1 h;dsimp only at h0 ⊢;rw[aG,aG]at h0;have:=nr n l ab y hy (by simp_all);simp_all
   ·cases h;rfl
  ·obtain⟨y,hy,rfl⟩:=fF.1 h;dsimp only at h0 ⊢;rw[aG]at h0;have:=nr n (d::l) (by simp;omega) y hy (by simp_all);simp_all
theorem B8{f:UInt8->UInt8}{p:UInt8->Bool}(h:∀c,p (f c)=p c)(l:List UInt8):(l.map f).all p=l.all p:=by
 rw[List.all_map];congr 1;funext c;exact h c
theorem CN{c:UInt8}{t:List UInt8}{n:Nat}{x:Int×List UInt8}(h:step (c::t) = .inl (n,some x)):good x:=by
 rw[step]at h;split at h
 ·cases h
 split at h
 ·cases h
 split at h
 ·split at h
  ·cases h
  ·rename_i y hy;split at h
   ·cases h
   ·rename_i h0
    cases h;refine .inr (.inr (.inr (.inl ⟨rfl,?_⟩)));rw[aG]at h0;exact nr _ t (ai _) y hy (by simp_all)
 split at h
 ·rename_i h4;have ha:=gL dD (c::t);have hh:∃c' l,(c::t).takeWhile dD=c'::l/\letter c'=true:=⟨c,t.takeWhile dD,by rw[dP,kx h4],h4⟩;generalize (c::t).takeWhile dD=w at *
  obtain⟨c',l,rfl,hl⟩:=hh;dsimp only at h;split at h
  ·rename_i hw
   cases h;exact .inr (.inl ⟨rfl,⟨_,_,rfl,by rw[Dv];exact hl⟩,by dsimp only;rw[B8 Gm];exact ha,by simp[Kf],hw⟩)
  ·rename_i hw
   cases h;refine .inl ⟨rfl,⟨_,_,rfl,by rw[Dw];exact hl⟩,by dsimp only;rw[B8 Gn];exact ha,by simp[lo_lo],?_⟩;dsimp only;rw[List.map_map,show upperB∘lowerB=upperB from funext Kg];simpa using hw
 split at h
 ·rename_i h5;have ha:=gL digit (c::t);have hh:(c::t).takeWhile digit ≠ []:=by simp[dP,h5]
  cases h;exact .inr (.inr (.inl ⟨rfl,yI _ hh,vh _ _ ha,sX _⟩))
 split at h
 ·cases h
 ·rename_i y hy
  cases h;exact .inr (.inr (.inr (.inr ⟨rfl,List.mem_of_find?_eq_some hy⟩)))
theorem qm(c:UInt8)(h:letter c=true):(!blank c&&c !=45&&c !=39)=true:=pf (p:=letter) (q:=λc => !blank c&&c !=45&&c !=39) (by decide +kernel) c h
theorem sb(c:UInt8)(h:digit c=true):(!blank c&&c !=45&&c !=39 && !letter c)=true:=pf (p:=digit) (q:=λc => !blank c&&c !=45&&c !=39 && !letter c) (by decide +kernel) c h
def kt(t:Tok):Int×List UInt8:=(t.kind,t.text)
theorem nY:∀ (n:Nat) (r:List UInt8) (p:Nat) (l:List Tok),r.length≤n->toks r p = .inl l->∃l',l=l' ++ [⟨0,[],p+r.length⟩]/\∀t∈l',good (kt t)
 | _,[],p,l,_,h=>by rw[nq]at h;cases h;exact⟨[],rfl,λt ht=>by cases ht⟩
 | 0,_::_,_,_,hn,_=>by simp at hn
 | n+1,c::t,p,l,hn,h=>by
  cases hs:step (c::t)with
  | inr x=>rw[pT p hs]at h;cases h
  | inl x=>
   have hp:=step_pos hs;rw[mm p hs]at h
   cases hr:toks ((c::t).drop x.1) (p+x.1)with
   | inr y=>simp only[hr]at h;cases h
   | inl m=>
    simp only[hr,Sum.inl.injEq]at h;obtain⟨l',rfl,hg⟩:=nY n _ _ _ (by simp only[ez,aW]at hn hp ⊢;omega) hr;have e:p+x.1+((c::t).drop x.1).length=p+(c::t).length:=by rw[ez];omega
    rw[e]at h;obtain⟨k,o⟩:=x
    cases o with
    | none=>exact⟨l',by rw[← h];rfl,hg⟩
    | some y=>
     refine⟨⟨y.1,y.2,p⟩::l',by rw[← h];rfl,λt' ht'=>?_⟩;rcases aJ.1 ht' with rfl|h'
     ·exact CN hs
     ·exact hg t' h'
def written(l:List (Int×List UInt8)):List UInt8:=(l.map λx=>pr x ++ [32]).flatten
end P11
namespace P12
open P11 (Tok)
abbrev T:=List UInt8
inductive E where
 | none
 | val (k i:Int) (s:T)
 | col (t n:T)
 | una (op:Int) (a:E)
 | bin (op:Int) (a b:E)
 | call (op:Int) (a:E)
 | all
structure R where
 l:List Tok
 deep:Nat
abbrev Er:=Nat×Int
def nxt(r:R):Tok:=r.l.headD ⟨0,[],0⟩
def bU{α:Type}(e:Int)(r:R):Except Er α := .error ((nxt r).pos,e)
def ax(r:R):R:=if(nxt r).kind=0 then r else⟨r.l.tail,r.deep⟩
def isT(s:T)(r:R):Bool:=((nxt r).kind==2||(nxt r).kind==5)&&(nxt r).text==s
def has(s:T)(r:R):Bool×R:=if isT s r then(true,ax r)else(false,r)
def bL(s:T)(r:R):Except Er R:=if isT s r then .ok (ax r)else bU 120 r
def name(r:R):Except Er (T×R):=if(nxt r).kind≠1 then bU 120 r else if 24<(nxt r).text.length then bU 124 r else .ok ((nxt r).text,ax r)
def maybe(r:R):Except Er (T×R):=if(nxt r).kind≠1 then .ok ([],r)else name r
def named(r:R):Bool:=(nxt r).kind==1&&decide ((nxt r).text.length≤24)
def opens(r:R):Except Er R:=if r.deep=100 then bU 121 r else .ok ⟨r.l,r.deep+1⟩
def il(r:R):R:=⟨r.l,r.deep-1⟩
def dec(s:T):Nat:=s.foldl (λa c=>10*a+(c.toNat-48)) 0
def int(most:Nat)(r:R):Except Er (Nat×R):=if most<dec (nxt r).text then bU 123 r else .ok (dec (nxt r).text,ax r)
def eJ{α:Type}(most:Nat)(could:R->Bool)(read:R->Except Er (α×R)):Nat->Nat->R->Except Er (List α×R)
 | 0,_,r=>bU 120 r
 | f+1,n,r=>
  if most<n+1&&could r then bU 122 r else
  match read r with
  | .error e => .error e
  | .ok (x,r)=>
   if isT [44] r then
    match eJ most could read f (n+1) (ax r)with
    | .error e => .error e
    | .ok (xs,r)=> .ok (x::xs,r)
   else .ok ([x],r)
def lZ(s:T):Option Int:=if s = [67,79,85,78,84]then some 20 else if s = [83,85,77]then some 21 else if s = [77,73,78]then some 22 else if s = [77,65,88]then some 23 else none
def dV(r:R):Bool:=
 let t:=nxt r
 if t.kind=1 then named r else if t.kind=3 then decide (dec t.text≤9223372036854775807)else if t.kind=4 then true
 else if t.kind=5 then t.text == [40]||t.text == [45]
 else if t.kind=2 then(lZ t.text).isSome||t.text == [78,79,84]||t.text == [78,85,76,76]||t.text == [84,82,85,69]||t.text == [70,65,76,83,69]else false
def within{α:Type}(read:R->Except Er (α×R))(r:R):Except Er (α×R):=
 if isT [40] r=false then bU 120 r else
 match opens r with
 | .error e => .error e
 | .ok r=>
  match read (ax r)with
  | .error e => .error e
  | .ok (x,r)=>
   match bL [41] r with
   | .error e => .error e
   | .ok r => .ok (x,il r)
def column(r:R):Except Er (E×R):=
 match name r with
 | .error e => .error e
 | .ok (a,r)=>
  if isT [46] r then
   match name (ax r)with
   | .error e => .error e
   | .ok (b,r)=> .ok (.col a b,r)
  else .ok (.col [] a,r)
def gD(ex:R->Except Er (E×R))(op:Int)(r:R):Except Er ((Bool×E)×R):=
 if op=20/\isT [42] r=true then .ok ((true,E.none),ax r)else
 match ex r with
 | .error e => .error e
 | .ok (a,r)=> .ok ((false,a),r)
def call(ex:R->Except Er (E×R))(op:Int)(r:R):Except Er (E×R):=
 match within (gD ex op) r with
 | .error e => .error e
 | .ok ((all,a),r)=> .ok (if all then .all else .call op a,r)
def cZ(ex:R->Except Er (E×R))(r:R):Except Er (E×R):=
 let t:=nxt r
 if t.kind=3 then
  match int 9223372036854775807 r with
  | .error e => .error e
  | .ok (n,r)=> .ok (E.val 2 n [],r)
 else if t.kind=4 then(if 40<t.text.length then bU 122 r else .ok (E.val 3 0 t.text,ax r))
 else if t.kind=1 then column r
 else if isT [40] r then within ex r
 else if t.kind=2 then
  match lZ t.text with
  | some op=>call ex op (ax r)
  | none=>
   if t.text = [78,85,76,76]then .ok (E.val 0 0 [],ax r)
   else if t.text = [84,82,85,69]then .ok (E.val 1 1 [],ax r)
   else if t.text = [70,65,76,83,69]then .ok (E.val 1 0 [],ax r)
   else bU 120 r
 else bU 120 r
def dU(ex:R->Except Er (E×R)):Nat->R->Except Er (E×R)
 | 0,r=>bU 120 r
 | f+1,r=>
  if isT [45] r=false then cZ ex r else
  if(nxt ⟨r.l.tail,r.deep⟩).kind=3 then
   match int 9223372036854775808 (ax r)with
   | .error e => .error e
   | .ok (n,r)=> .ok (E.val 2 (-(n:Int)) [],r)
  else
   match opens r with
   | .error e => .error e
   | .ok r=>
    match dU ex f (ax r)with
    | .error e => .error e
    | .ok (a,r)=> .ok (E.una 16 a,il r)
def nh(part:R->Except Er (E×R))(ops:List (T×Int)):Nat->E->R->Except Er (E×R)
 | 0,_,r=>bU 120 r
 | f+1,e,r=>
  match ops.find? λo=>isT o.1 r with
  | none => .ok (e,r)
  | some o=>
   match part (ax r)with
   | .error x => .error x
   | .ok (b,r)=>nh part ops f (E.bin o.2 e b) r
def binary(part:R->Except Er (E×R))(ops:List (T×Int))(r:R):Except Er (E×R):=
 match part r with
 | .error e => .error e
 | .ok (a,r)=>nh part ops r.l.length a r
def po:List (T×Int):= [([42],11),([47],12),([37],13)]
def pG:List (T×Int):= [([43],9),([45],10),([124,124],14)]
def kp:List (T×Int):= [([61],3),([60,62],4),([60],5),([60,61],6),([62],7),([62,61],8)]
def test(sum:R->Except Er (E×R))(r:R):Except Er (E×R):=
 match sum r with
 | .error e => .error e
 | .ok (a,r)=>
  match kp.find? λo=>isT o.1 r with
  | some o=>
   match sum (ax r)with
   | .error e => .error e
   | .ok (b,r)=> .ok (E.bin o.2 a b,r)
  | none=>
   if isT [73,83] r=false then .ok (a,r)else
   let n:=has [78,79,84] (ax r)
   match bL [78,85,76,76] n.2 with
   | .error e => .error e
   | .ok r => .ok (E.una (if n.1 then 18 else 17) a,r)
def ly(tst:R->Except Er (E×R)):Nat->R->Except Er (E×R)
 | 0,r=>bU 120 r
 | f+1,r=>
  if isT [78,79,84] r=false then tst r else
  match opens r with
  | .error e => .error e
  | .ok r=>
   match ly tst f (ax r)with
   | .error e => .error e
   | .ok (a,r)=> .ok (E.una 15 a,il r)
def vc:List (T×Int):= [([79,82],1)]
def uc:List (T×Int):= [([65,78,68],2)]
def EO(ex:R->Except Er (E×R))(f:Nat):R->Except Er (E×R):=binary (dU ex f) po
def Kl(ex:R->Except Er (E×R))(f:Nat):R->Except Er (E×R):=binary (EO ex f) pG
def uN(ex:R->Except Er (E×R))(f:Nat):R->Except Er (E×R):=test (Kl ex f)
def KC(ex:R->Except Er (E×R))(f:Nat):R->Except Er (E×R):=binary (ly (uN ex f) f) uc
def kY:Nat->R->Except Er (E×R)
 | 0,r=>bU 120 r
 | f+1,r=>binary (KC (kY f) (f+1)) vc r
def expr(r:R):Except Er (E×R):=kY 101 r
structure Tb where
 name:T := []
 cols:List (T×Int×Bool):= []
 keys:List Bool := []
 checks:List E := []
structure St where
 kind:Int:=0
 tb:Tb := {}
 keyCols:List (List T):= []
 name:T := []
 on:T := []
 unique:Bool:=false
 cols:List T := []
 rows:List (List E):= []
 sets:List (T×E):= []
 wher:E:=E.none
 items:List (Bool×E×T):= []
 frm:List (T×T):= []
 join:E:=E.none
 group:List E := []
 order:List (E×Bool):= []
 limit:Int:=0
def made(k:Int):St := { kind:=k,limit:=if k=8 then -1 else 0 }
def names(r:R):Except Er (List T×R):=do
 let r ← bL [40] r
 let(l,r) ← eJ 16 named name r.l.length 0 r
 let r ← bL [41] r
 return (l,r)
def bh(r:R):Bool:=isT [80,82,73,77,65,82,89] r||isT [85,78,73,81,85,69] r||isT [67,72,69,67,75] r
abbrev Con:=Sum E (Bool×List T)
def jU(r:R):Except Er R:=if(has [80,82,73,77,65,82,89] r).1 then bL [75,69,89] (has [80,82,73,77,65,82,89] r).2 else bL [85,78,73,81,85,69] (has [80,82,73,77,65,82,89] r).2
def eL(c:T)(r:R):Except Er (List T×R):=if c = []then names r else .ok ([c],r)
def gv(n:Nat)(c:T)(r:R):Except Er (Con×R):=
 if 16<n+1&&bh r then bU 122 r else
 if isT [67,72,69,67,75] r then
  match within expr (ax r)with
  | .error e => .error e
  | .ok (e,r)=> .ok (.inl e,r)
 else
  match jU r with
  | .error e => .error e
  | .ok r1=>
   match eL c r1 with
   | .error e => .error e
   | .ok (l,r2)=> .ok (.inr ((has [80,82,73,77,65,82,89] r).1,l),r2)
def gq(t:Tb):Con->Tb
 | .inl e => { t with checks:=t.checks ++ [e] }
 | .inr (p,_)=> { t with keys:=t.keys ++ [p] }
def jw(k:List (List T)):Con->List (List T)
 | .inl _=>k
 | .inr (_,l)=>k ++ [l]
def typeOf(r:R):Except Er (Int×R):=
 if isT [66,79,79,76] r then .ok (1,ax r)else if isT [73,78,84] r then .ok (2,ax r)else if isT [84,69,88,84] r then .ok (3,ax r)else bU 120 r
def gj(c:T):Nat->Tb->List (List T)->Nat->Bool->R->Except Er ((Tb×List (List T)×Nat×Bool)×R)
 | 0,_,_,_,_,r=>bU 120 r
 | f+1,t,k,n,nn,r=>
  if isT [78,79,84] r then
   match bL [78,85,76,76] (ax r)with
   | .error e => .error e
   | .ok r=>gj c f t k n true r
  else if bh r then
   match gv n c r with
   | .error e => .error e
   | .ok (o,r2)=>gj c f (gq t o) (jw k o) (n+1) (nn||isT [80,82,73,77,65,82,89] r) r2
  else .ok ((t,k,n,nn),r)
def part(t:Tb)(k:List (List T))(n:Nat)(r:R):Except Er ((Tb×List (List T)×Nat)×R):=
 if bh r then
  match gv n [] r with
  | .error e => .error e
  | .ok (o,r)=> .ok ((gq t o,jw k o,n+1),r)
 else if 16<n+1&&named r then bU 122 r else
  match name r with
  | .error e => .error e
  | .ok (c,r)=>
   match typeOf r with
   | .error e => .error e
   | .ok (ty,r)=>
    match gj c r.l.length t k (n+1) false r with
    | .error e => .error e
    | .ok ((t,k,n,nn),r)=> .ok (({ t with cols:=t.cols ++ [(c,ty,nn)] },k,n),r)
def gA:Nat->Tb->List (List T)->Nat->R->Except Er ((Tb×List (List T))×R)
 | 0,_,_,_,r=>bU 120 r
 | f+1,t,k,n,r=>
  match part t k n r with
  | .error e => .error e
  | .ok ((t,k,n),r)=>if isT [44] r then gA f t k n (ax r)else .ok ((t,k),r)
def create(r:R):Except Er (St×R):=
 if isT [84,65,66,76,69] r then do
  let(t,r) ← name (ax r)
  let r ← bL [40] r
  let((t,k),r) ← gA r.l.length { name:=t } [] 0 r
  let r ← bL [41] r
  return ({ made 1 with tb:=t,keyCols:=k },r)
 else
  let u:=has [85,78,73,81,85,69] r
  if u.1||isT [73,78,68,69,88] u.2 then do
   let r ← bL [73,78,68,69,88] u.2
   let(a,r) ← name r
   let r ← bL [79,78] r
   let(b,r) ← name r
   let(l,r) ← names r
   return ({ made 3 with unique:=u.1,name:=a,on:=b,cols:=l },r)
  else bU 120 r
def drop(r:R):Except Er (St×R):=do
 let h:=has [84,65,66,76,69] r
 let r ← if h.1 then .ok h.2 else bL [73,78,68,69,88] h.2
 let(a,r) ← name r
 return ({ made (if h.1 then 2 else 4)with name:=a },r)
def exprs{α:Type}(read:R->Except Er (α×R))(r:R):Except Er (List α×R):=eJ 16 dV read r.l.length 0 r
def fg(r:R):Except Er (List E×R):=do
 let r ← bL [40] r
 let(l,r) ← exprs expr r
 let r ← bL [41] r
 return (l,r)
def wher(r:R):Except Er (E×R):=if isT [87,72,69,82,69] r then expr (ax r)else .ok (E.none,r)
def insert(r:R):Except Er (St×R):=do
 let r ← bL [73,78,84,79] r
 let(a,r) ← name r
 let(l,r) ← if isT [40] r then names r else .ok ([],r)
 let r ← bL [86,65,76,85,69,83] r
 let(rows,r) ← eJ 32 (isT [40]) fg r.l.length 0 r
 return ({ made 5 with name:=a,cols:=l,rows:=rows },r)
def setOf(r:R):Except Er ((T×E)×R):=do
 let(a,r) ← name r
 let r ← bL [61] r
 let(e,r) ← expr r
 return ((a,e),r)
def update(r:R):Except Er (St×R):=do
 let(a,r) ← name r
 let r ← bL [83,69,84] r
 let(l,r) ← eJ 16 named setOf r.l.length 0 r
 let(e,r) ← wher r
 return ({ made 6 with name:=a,sets:=l,wher:=e },r)
def iP(r:R):Except Er (St×R):=do
 let r ← bL [70,82,79,77] r
 let(a,r) ← name r
 let(e,r) ← wher r
 return ({ made 7 with name:=a,wher:=e },r)
def item(r:R):Except Er ((Bool×E×T)×R):=
 if isT [42] r then .ok ((true,E.none,[]),ax r)else do
  let(e,r) ← expr r
  if isT [65,83] r then do
   let(a,r) ← name (ax r)
   return ((false,e,a),r)
  else return ((false,e,[]),r)
def source(r:R):Except Er ((T×T)×R):=do
 let(a,r) ← name r
 let(b,r) ← maybe r
 return ((a,b),r)
def fO(r:R):Except Er ((E×Bool)×R):=do
 let(e,r) ← expr r
 let d:=has [68,69,83,67] r
 return ((e,d.1),if d.1 then d.2 else(has [65,83,67] d.2).2)
def ga(r:R):Except Er (St×R):=do
 let(items,r) ← eJ 16 (λr=>isT [42] r||dV r) item r.l.length 0 r
 let r ← bL [70,82,79,77] r
 let(s,r) ← source r
 let((frm,join),r) ← if isT [74,79,73,78] r then(do
   let(s2,r) ← source (ax r)
   let r ← bL [79,78] r
   let(e,r) ← expr r
   return (([s,s2],e),r))else .ok (([s],E.none),r)
 let(w,r) ← wher r
 let(group,r) ← if isT [71,82,79,85,80] r then(do
   let r ← bL [66,89] (ax r)
   eJ 16 named column r.l.length 0 r)else .ok ([],r)
 let(order,r) ← if isT [79,82,68,69,82] r then(do
   let r ← bL [66,89] (ax r)
   exprs fO r)else .ok ([],r)
 let(limit,r) ← if isT [76,73,77,73,84] r then(if(nxt (ax r)).kind≠3 then bU 120 (ax r)else do
   let(n,r) ← int 9223372036854775807 (ax r)
   return ((n:Int),r))else .ok (-1,r)
 return ({ made 8 with items:=items,frm:=frm,join:=join,wher:=w,group:=group,order:=order,limit:=limit },r)
def cA(r:R):Except Er (St×R):=
 if isT [67,82,69,65,84,69] r&&(nxt r).kind==2 then create (ax r)
 else if isT [68,82,79,80] r&&(nxt r).kind==2 then drop (ax r)
 else if isT [73,78,83,69,82,84] r&&(nxt r).kind==2 then insert (ax r)
 else if isT [85,80,68,65,84,69] r&&(nxt r).kind==2 then update (ax r)
 else if isT [68,69,76,69,84,69] r&&(nxt r).kind==2 then iP (ax r)
 else if isT [83,69,76,69,67,84] r&&(nxt r).kind==2 then ga (ax r)
 else if isT [66,69,71,73,78] r then .ok (made 9,ax r)
 else if isT [67,79,77,77,73,84] r then .ok (made 10,ax r)
 else if isT [82,79,76,76,66,65,67,75] r then .ok (made 11,ax r)
 else bU 120 r
def fx(l:List Tok):Except Er St:=do
 let(x,r) ← cA ⟨l,0⟩
 let r:=(has [59] r).2
 if(nxt r).kind≠0 then bU 120 r else return x
def parse(s:T):Except Er St:=match P11.eP s with
 | .inr (a,k)=> .error (a,k)
 | .inl l=>fx l
end P12
namespace P11
open P6 (dbl)
theorem pg:∀ (n:Nat) (l:List UInt8),l.length≤n->∀x,ck l=some x->x.1.length≤x.2
 | _,[],_,x,h=>by simp[ck]at h
 | _,[c],_,x,h=>by
  rw[ck]at h;split at h
  ·cases h;simp
  ·cases h
 | 0,_::_::_,hn,_,_=>by simp at hn
 | n+1,c::d::l,hn,x,h=>by
  rw[ck]at h;simp only[aW]at hn;split at h
  ·split at h
   ·obtain⟨y,hy,rfl⟩:=fF.1 h;have:=pg n l ab y hy;simp only[aW];omega
   ·cases h;simp
  ·obtain⟨y,hy,rfl⟩:=fF.1 h;have:=pg n (d::l) (by simp;omega) y hy;simp only[aW]at this ⊢;omega
theorem qP:∀l:List UInt8,(numOf l).length≤l.length
 | []=>by simp[numOf]
 | [c]=>by simp[numOf]
 | c::d::l=>by
  rw[numOf];split
  ·have:=qP (d::l);simp only[aW]at this ⊢;omega
  ·exact ai _
theorem EA{c:UInt8}{t:List UInt8}{n:Nat}{x:Int×List UInt8}(h:step (c::t) = .inl (n,some x)):x.2.length≤n:=by
 rw[step]at h;split at h
 ·cases h
 split at h
 ·cases h
 split at h
 ·split at h
  ·cases h
  ·rename_i y hy;split at h
   ·cases h
   ·cases h;have:=pg _ t (ai _) y hy;dsimp only;omega
 split at h
 ·cases h;split
  ·simp
  ·simp
 split at h
 ·cases h;exact qP _
 split at h
 ·cases h
 ·cases h;exact ai _
def BF(l:List Tok):Nat:=(l.map λt=>t.text.length+1).sum
theorem uK:∀ (n:Nat) (r:List UInt8) (p:Nat) (l:List Tok),r.length≤n->toks r p = .inl l->BF l≤2*r.length+1
 | _,[],p,l,_,h=>by rw[nq]at h;cases h;simp[BF]
 | 0,_::_,_,_,hn,_=>by simp at hn
 | n+1,c::t,p,l,hn,h=>by
  cases hs:step (c::t)with
  | inr x=>rw[pT p hs]at h;cases h
  | inl x=>
   have hp:=step_pos hs;rw[mm p hs]at h
   cases hr:toks ((c::t).drop x.1) (p+x.1)with
   | inr y=>simp only[hr]at h;cases h
   | inl m=>
    simp only[hr,Sum.inl.injEq]at h;have ih:=uK n _ _ _ (by simp only[ez,aW]at hn hp ⊢;omega) hr;rw[ez]at ih;obtain⟨k,o⟩:=x
    cases o with
    | none=>subst h;dsimp only[pR]at hp ih ⊢;omega
    | some y=>
     have:=EA hs;subst h;simp only[pR,BF,zW,zP]at ih ⊢;dsimp only at hp ih;omega
theorem zG(l:List Tok):l.length≤BF l:=by
 induction l with
 | nil=>simp
 | cons t l ih=>simp only[BF,zW,zP,aW]at ih ⊢;omega
theorem IU{l:List Tok}{t:Tok}(h:t∈l):t.text.length<BF l:=by
 induction l with
 | nil=>cases h
 | cons x l ih=>
  simp only[BF,zW,zP]at ih ⊢;rcases aJ.1 h with rfl|h
  ·omega
  ·have:=ih h;omega
theorem CO{c:UInt8}{t:List UInt8}{x:Nat×Int}(h:step (c::t) = .inr x):x.2=111∨x.2=112:=by
 rw[step]at h;split at h
 ·cases h
 split at h
 ·cases h
 split at h
 ·split at h
  ·cases h;exact .inr rfl
  ·split at h
   ·cases h;exact .inl rfl
   ·cases h
 split at h
 ·cases h
 split at h
 ·cases h
 split at h
 ·cases h;exact .inl rfl
 ·cases h
theorem uJ:∀ (n:Nat) (r:List UInt8) (p:Nat) (x:Nat×Int),r.length≤n->toks r p = .inr x->x.2=111∨x.2=112
 | _,[],p,x,_,h=>by rw[nq]at h;cases h
 | 0,_::_,_,_,hn,_=>by simp at hn
 | n+1,c::t,p,x,hn,h=>by
  cases hs:step (c::t)with
  | inr y=>rw[pT p hs]at h;cases h;exact CO (x:=y) hs
  | inl y=>
   have hp:=step_pos hs;rw[mm p hs]at h
   cases hr:toks ((c::t).drop y.1) (p+y.1)with
   | inr z=>
    simp only[hr,Sum.inr.injEq]at h;subst h;exact uJ n _ _ _ (by simp only[ez,aW]at hn hp ⊢;omega) hr
   | inl m=>simp only[hr]at h;cases h
theorem tv{s:List UInt8}{x:Nat×Int}(h:eP s = .inr x):x.2≠0:=by
 unfold eP at h;split at h
 ·cases h;decide
 ·rcases uJ _ s 0 x (ai _) h with e|e<;>rw[e]<;>decide
end P11
namespace P12
open P11 (Tok)
structure Gr(t:Tok):Prop where
 kind:0≤t.kind/\t.kind≤5
 len:t.text.length≤8193
 name:t.kind=1->t.text ≠ []
 digits:t.kind=3->t.text ≠ []/\∀c∈t.text,48≤c.toNat/\c.toNat≤57
structure Good(r:R):Prop where
 ends:∃a e,r.l=a ++ [e]/\e.kind=0
 toks:∀t∈r.l,Gr t
 deep:r.deep≤100
 len:r.l.length≤8193
structure bW(r r':R):Prop where
 suf:r'.l <:+ r.l
 deep:r'.deep=r.deep
theorem bW.refl(r:R):bW r r:=⟨List.suffix_refl _,rfl⟩
theorem bW.trans{a b c:R}(h:bW a b)(k:bW b c):bW a c:=⟨k.suf.trans h.suf,k.deep.trans h.deep⟩
theorem bW.le{a b:R}(h:bW a b):b.l.length≤a.l.length:=h.suf.length_le
theorem Good.head{r:R}(h:Good r):∃t l,r.l=t::l/\nxt r=t:=by
 obtain⟨a,e,h1,-⟩:=h.ends
 cases hl:r.l with
 | nil=>rw[hl]at h1;cases a<;>cases h1
 | cons t l=>exact⟨t,l,rfl,by simp[nxt,hl]⟩
theorem Good.pos{r:R}(h:Good r):0<r.l.length:=by
 obtain⟨t,l,h1,-⟩:=h.head;rw[h1];simp
theorem Good.lR{r:R}(h:Good r):Gr (nxt r):=by
 obtain⟨t,l,h1,h2⟩:=h.head;rw[h2];exact h.toks t (by rw[h1];simp)
theorem wy{r:R}(h:Good r):r.l[0]?=some (nxt r):=by
 obtain⟨t,l,h1,h2⟩:=h.head;rw[h1,h2];rfl
theorem fj{r:R}(h:(nxt r).kind≠0):ax r=⟨r.l.tail,r.deep⟩:=by rw[ax,if_neg h]
theorem ob{r:R}(h:(nxt r).kind=0):ax r=r:=by rw[ax,if_pos h]
theorem aO(r:R):bW r (ax r):=by
 unfold ax;split
 ·exact bW.refl r
 ·exact⟨List.tail_suffix _,rfl⟩
theorem uO{r:R}(h:Good r)(hk:(nxt r).kind≠0):∃a e,r.l.tail=a ++ [e]/\e.kind=0:=by
 obtain⟨a,e,h1,h2⟩:=h.ends
 cases a with
 | nil=>
  exfalso;apply hk
  simp[nxt,h1,h2]
 | cons t a=>exact⟨a,e,by rw[h1];rfl,h2⟩
theorem Good.ax{r:R}(h:Good r):Good (ax r):=by
 by_cases hk:(nxt r).kind=0
 ·rwa [ob hk]
 ·rw[fj hk];exact⟨uO h hk,λt ht=>h.toks t (List.mem_of_mem_tail ht),h.deep,bI aI h.len⟩
theorem Good.xK{r:R}(h:Good r)(hk:(nxt r).kind≠0):1<r.l.length:=by
 obtain⟨a,e,h1,-⟩:=uO h hk;have:r.l.tail.length=r.l.length-1:=aI
 have h2:0<r.l.tail.length:=by rw[h1];simp
 omega
theorem fz{r:R}(h:Good r)(hk:(nxt r).kind≠0):(P12.ax r).l.length+1=r.l.length:=by
 rw[fj hk];have:=h.pos;simp;omega
theorem el{s:T}{r:R}(h:isT s r=true):(nxt r).kind≠0:=by
 intro hk;simp[isT,hk]at h
theorem yZ{s:T}{r:R}(h:isT s r=true):(nxt r).text=s:=by
 simp[isT]at h;exact h.2
theorem Good.J1{r:R}(h:Good r)(hd:r.deep≠100):Good ⟨r.l,r.deep+1⟩:=⟨h.ends,h.toks,by have:=h.deep;show r.deep+1≤100;omega,h.len⟩
theorem Good.il{r:R}(h:Good r):Good (il r):=⟨h.ends,h.toks,by have:=h.deep;show r.deep-1≤100;omega,h.len⟩
theorem Ah{t:Tok}(h:P11.good (P11.kt t))(hl:t.text.length≤8193):Gr t:=by
 rcases h with⟨h1,⟨c,l,h2,-⟩,-⟩|⟨h1,-⟩|⟨h1,h2,h3,-⟩|⟨h1,-⟩|⟨h1,-⟩
 ·simp only[P11.kt]at h1 h2;exact⟨by omega,hl,λ_=>by rw[h2];simp,λh=>by omega⟩
 ·simp only[P11.kt]at h1;exact⟨by omega,hl,λh=>by omega,λh=>by omega⟩
 ·simp only[P11.kt]at h1 h2 h3;refine⟨by omega,hl,λh=>by omega,λ_=>⟨h2,λc hc=>?_⟩⟩;have:=ft.1 h3 c hc;simp only[P11.digit,aT,decide_eq_true_eq,fp]at this;exact this
 ·simp only[P11.kt]at h1;exact⟨by omega,hl,λh=>by omega,λh=>by omega⟩
 ·simp only[P11.kt]at h1;exact⟨by omega,hl,λh=>by omega,λh=>by omega⟩
theorem pq{s:List UInt8}{l:List Tok}(h:P11.eP s = .inl l):Good ⟨l,0⟩:=by
 unfold P11.eP at h;split at h
 ·cases h
 ·rename_i hs;have hb:=P11.uK _ s 0 l (ai _) h;obtain⟨l',rfl,hg⟩:=P11.nY _ s 0 l (ai _) h;refine⟨⟨l',_,rfl,rfl⟩,λt ht=>?_,gM _,?_⟩
  ·have hlt:=P11.IU ht;rcases kh.1 ht with ht|ht
   ·exact Ah (hg t ht) (by simp only[eF]at hb hlt ⊢;omega)
   ·simp only[dr]at ht;subst ht;exact⟨⟨Int.le_refl 0,(by decide:(0:Int)≤5)⟩,by simp,λh=>absurd h aI,λh=>absurd h aI⟩
  ·have:=P11.zG (l' ++ [⟨0,[],0+s.length⟩]);show(l' ++ [_]).length≤8193
   omega
end P12
namespace P12
open P11 (words)
def tg(i:Nat)(c:UInt8):Bool:=c==95||(97≤c&&c≤122)||(48≤c&&c≤57&&i !=0)
def wK:Nat->T->Bool
 | _,[]=>true
 | i,c::l=>tg i c&&wK (i+1) l
def isName(s:T):Bool:=s != []&&decide (s.length≤24) && !words.contains (s.map fH)&&wK 0 s
def iv(s:T):Bool:=s == []||isName s
def isE:E->Bool
 | .none=>false
 | .val k i s=>P6.isV k i s&&decide (-9223372036854775808≤i)&&decide (i≤9223372036854775807)
 | .col t n=>isName n&&iv t
 | .una op a=>decide (15≤op)&&decide (op≤18)&&isE a
 | .bin op a b=>decide (1≤op)&&decide (op≤14)&&isE a&&isE b
 | .call op a=>decide (20≤op)&&decide (op≤23)&&isE a
 | .all=>true
def noE:E->Bool
 | .none=>true
 | _=>false
def iF(e:E):Bool:=noE e||isE e
def some{α:Type}(l:List α)(most:Nat)(p:α->Bool):Bool:=decide (1≤l.length)&&decide (l.length≤most)&&l.all p
def I9:E->Bool
 | .col t n=>isE (.col t n)
 | _=>false
def Kk(t:Tb)(k:List (List T)):Bool:=
 isName t.name&&decide (1≤t.cols.length+t.keys.length+t.checks.length)&&decide (t.cols.length+t.keys.length+t.checks.length≤16)&&k.length==t.keys.length &&
  k.all (λl=>some l 16 isName)&&t.checks.all isE&&t.cols.all (λc=>isName c.1&&decide (1≤c.2.1)&&decide (c.2.1≤3))
def pv(x:Bool×E×T):Bool:=if x.1 then noE x.2.1&&x.2.2 == []else isE x.2.1&&iv x.2.2
def uU(x:St):Bool:=
 some x.items 16 pv&&some x.frm 2 (λs=>isName s.1&&iv s.2)&&iF x.wher&&(if x.frm.length=2 then isE x.join else noE x.join) &&
  decide (x.group.length≤16)&&x.group.all I9&&decide (x.order.length≤16)&&x.order.all (λo=>isE o.1)&&decide (-1≤x.limit)&&decide (x.limit≤9223372036854775807)
def qT(x:St):St:=
 if x.kind=1 then { kind:=1,tb:=x.tb,keyCols:=x.keyCols }
 else if x.kind=3 then { kind:=3,name:=x.name,on:=x.on,unique:=x.unique,cols:=x.cols }
 else if x.kind=5 then { kind:=5,name:=x.name,cols:=x.cols,rows:=x.rows }
 else if x.kind=6 then { kind:=6,name:=x.name,sets:=x.sets,wher:=x.wher }
 else if x.kind=7 then { kind:=7,name:=x.name,wher:=x.wher }
 else if x.kind=8 then { kind:=8,items:=x.items,frm:=x.frm,join:=x.join,wher:=x.wher,group:=x.group,order:=x.order,limit:=x.limit }
 else if x.kind=2∨x.kind=4 then { kind:=x.kind,name:=x.name }
 else { kind:=x.kind }
def isS(x:St):Prop:=
 x=qT x/\((x.kind=1/\Kk x.tb x.keyCols=true)∨(x.kind=2/\isName x.name=true)∨(x.kind=4/\isName x.name=true)∨
  (x.kind=3/\isName x.name=true/\isName x.on=true/\some x.cols 16 isName=true)∨
  (x.kind=5/\isName x.name=true/\(x.cols = []∨some x.cols 16 isName=true)/\some x.rows 32 (λl=>some l 16 isE)=true)∨
  (x.kind=6/\isName x.name=true/\some x.sets 16 (λs=>isName s.1&&isE s.2)=true/\iF x.wher=true)∨
  (x.kind=7/\isName x.name=true/\iF x.wher=true)∨(x.kind=8/\uU x=true)∨x.kind=9∨x.kind=10∨x.kind=11)
def fK(op:Int):T:=
 if op=1 then[79,82]else if op=2 then[65,78,68]else if op=3 then[61]else if op=4 then[60,62]else if op=5 then[60]else if op=6 then[60,61]else if op=7 then[62]else if op=8 then[62,61]
 else if op=9 then[43]else if op=10 then[45]else if op=11 then[42]else if op=12 then[47]else if op=13 then[37]else if op=14 then[124,124]else[]
def closed(op:Int):E->Bool
 | .una _ _=>true
 | .bin _ _ _=>true
 | .val k _ _=>op==16&&k==2
 | _=>false
def qp(b:Bool)(t:T):T:=if b then[40]++t ++ [41]else t
def FQ(op:Int):T:=if op=20 then[67,79,85,78,84]else if op=21 then[83,85,77]else if op=22 then[77,73,78]else if op=23 then[77,65,88]else[]
def text:E->T
 | .none => []
 | .val k i s=>P6.iC k i s
 | .col t n=>if t = []then n else t ++ [46]++n
 | .bin op a b=>qp (closed op a) (text a)++ [32]++fK op ++ [32]++qp (closed op b) (text b)
 | .una op a=>
  if op=15 then[78,79,84,32]++qp (closed op a) (text a)else if op=16 then[45,32]++qp (closed op a) (text a)
  else if op=17 then qp (closed op a) (text a)++ [32,73,83,32,78,85,76,76]else qp (closed op a) (text a)++ [32,73,83,32,78,79,84,32,78,85,76,76]
 | .all => [67,79,85,78,84,40,42,41]
 | .call op a=>FQ op ++ [40]++text a ++ [41]
def join(l:List T):T:=D8 l [44,32]
def Em(ty:Int):T:=if ty=1 then[66,79,79,76]else if ty=2 then[73,78,84]else if ty=3 then[84,69,88,84]else[]
def IQ(c:T×Int×Bool):T:=c.1 ++ [32]++Em c.2.1++(if c.2.2 then[32,78,79,84,32,78,85,76,76]else[])
def Iz(p:Bool)(l:List T):T:=(if p then[80,82,73,77,65,82,89,32,75,69,89]else[85,78,73,81,85,69])++ [32,40]++join l ++ [41]
def GF(t:Tb)(k:List (List T)):T:=
 [67,82,69,65,84,69,32,84,65,66,76,69,32]++t.name ++ [32,40]++join (t.cols.map IQ++(List.zipWith Iz t.keys k)++t.checks.map (λe => [67,72,69,67,75,32,40]++text e ++ [41]))++ [41]
def gi(e:E):T:=if noE e then[]else[32,87,72,69,82,69,32]++text e
def ic(x:Bool×E×T):T:=if x.1 then[42]else if x.2.2 = []then text x.2.1 else text x.2.1 ++ [32,65,83,32]++x.2.2
def jh(s:T×T):T:=if s.2 = []then s.1 else s.1 ++ [32]++s.2
def Ic(o:E×Bool):T:=if o.2 then text o.1 ++ [32,68,69,83,67]else text o.1
def jP(x:St):T:=
 [83,69,76,69,67,84,32]++join (x.items.map ic)++ [32,70,82,79,77,32]++jh (x.frm.headD ([],[]))++
  (if x.frm.length≤1 then[]else[32,74,79,73,78,32]++jh (x.frm.tail.headD ([],[]))++ [32,79,78,32]++text x.join)++gi x.wher ++
  (if x.group = []then[]else[32,71,82,79,85,80,32,66,89,32]++join (x.group.map text))++(if x.order = []then[]else[32,79,82,68,69,82,32,66,89,32]++join (x.order.map Ic))++
  (if x.limit<0 then[]else[32,76,73,77,73,84,32]++lM x.limit)
def zB(l:List T):T:=if l = []then[]else[32,40]++join l ++ [41]
def GU(l:List E):T := [40]++join (l.map text)++ [41]
def GN(s:T×E):T:=s.1 ++ [32,61,32]++text s.2
def print(x:St):T:=
 if x.kind=1 then GF x.tb x.keyCols
 else if x.kind=2 then[68,82,79,80,32,84,65,66,76,69,32]++x.name
 else if x.kind=3 then(if x.unique then[67,82,69,65,84,69,32,85,78,73,81,85,69,32,73,78,68,69,88,32]else[67,82,69,65,84,69,32,73,78,68,69,88,32])++x.name ++ [32,79,78,32]++x.on++zB x.cols
 else if x.kind=4 then[68,82,79,80,32,73,78,68,69,88,32]++x.name
 else if x.kind=5 then[73,78,83,69,82,84,32,73,78,84,79,32]++x.name++zB x.cols ++ [32,86,65,76,85,69,83,32]++join (x.rows.map GU)
 else if x.kind=6 then[85,80,68,65,84,69,32]++x.name ++ [32,83,69,84,32]++join (x.sets.map GN)++gi x.wher
 else if x.kind=7 then[68,69,76,69,84,69,32,70,82,79,77,32]++x.name++gi x.wher
 else if x.kind=8 then jP x
 else if x.kind=9 then[66,69,71,73,78]else if x.kind=10 then[67,79,77,77,73,84]else[82,79,76,76,66,65,67,75]
end P12
namespace P12
def Iy:T := [115,101,108,101,99,116,32,97,46,120,43,49,32,97,115,32,121,32,102,114,111,109,32,116,32,97,32,119,104,101,114,101,32,110,111,116,32,120,32,61,32,39,98,39,32,108,105,109,105,116,32,51]
def Cb:T := [83,69,76,69,67,84,32,97,46,120,32,43,32,49,32,65,83,32,121,32,70,82,79,77,32,116,32,97,32,87,72,69,82,69,32,78,79,84,32,40,120,32,61,32,39,98,39,41,32,76,73,77,73,84,32,51]
def Ix:T := [83,69,76,69,67,84,32,49,32,61,32,50,32,61,32,51,32,70,82,79,77,32,116]
def pt:St := { kind:=8,items := [(false,.bin 9 (.col [97] [120]) (.val 2 1 []),[121])],frm := [([116],[97])],wher := .una 15 (.bin 3 (.col [] [120]) (.val 3 0 [98])),limit:=3 }
theorem JK:parse Iy = .ok pt:=az
theorem tE(n:Int)(h:0≤n)(h2:n<10):lM n = [48+ja n.toNat]:=by
 have:n=0∨n=1∨n=2∨n=3∨n=4∨n=5∨n=6∨n=7∨n=8∨n=9:=ab
 rcases this with rfl|rfl|rfl|rfl|rfl|rfl|rfl|rfl|rfl|rfl<;>(unfold lM Go.Lib.decDigits;rfl)
theorem FA:print pt=Cb:=by
 have h1:text (.val 2 1 []) = [49]:=by unfold text P6.iC;rw[if_pos az];simp[tE]
 have h2:text (.val 3 0 [98]) = [39,98,39]:=az;have h3:lM 3 = [51]:=tE 3 aq aq
 have e1:text (.bin 9 (.col [97] [120]) (.val 2 1 [])) = [97,46,120,32,43,32,49]:=by
  rw[text,h1];rfl
 have e2:text (.una 15 (.bin 3 (.col [] [120]) (.val 3 0 [98]))) = [78,79,84,32,40,120,32,61,32,39,98,39,41]:=by
  rw[text,text,h2];rfl
 simp[print,pt,jP,ic,join,D8,jh,gi,noE,e1,e2,h3,Cb,List.intercalate]
theorem JJ:parse Ix = .error (13,120):=az
end P12
namespace P12
open P11 (Tok toks after)
theorem kZ{part:R->Except Er (E×R)}{ops:List (T×Int)}{r:R}{x:Er}(h:part r = .error x):binary part ops r = .error x:=by
 unfold binary;rw[h]
end P12
namespace P12
open P11 (Tok toks after digit numOf)
open Go.Lib (itoa decDigits)
theorem Kd{c:UInt8}(h:digit c=true):c=48∨c=49∨c=50∨c=51∨c=52∨c=53∨c=54∨c=55∨c=56∨c=57:=by
 simp only[digit,aT,decide_eq_true_eq,fp]at h;have h2:48≤c.toNat/\c.toNat≤57:=h;have:c.toNat=48∨c.toNat=49∨c.toNat=50∨c.toNat=51∨c.toNat=52∨c.toNat=53∨c.toNat=54∨c.toNat=55∨c.toNat=56∨c.toNat=57:=ab
 have hb:∀n:UInt8,c.toNat=n.toNat->c=n:=λn h=>jL.1 h;rcases this with e|e|e|e|e|e|e|e|e|e
 ·exact .inl (hb 48 e)
 ·exact .inr (.inl (hb 49 e))
 ·exact .inr (.inr (.inl (hb 50 e)))
 ·exact .inr (.inr (.inr (.inl (hb 51 e))))
 ·exact .inr (.inr (.inr (.inr (.inl (hb 52 e)))))
 ·exact .inr (.inr (.inr (.inr (.inr (.inl (hb 53 e))))))
 ·exact .inr (.inr (.inr (.inr (.inr (.inr (.inl (hb 54 e)))))))
 ·exact .inr (.inr (.inr (.inr (.inr (.inr (.inr (.inl (hb 55 e))))))))
 ·exact .inr (.inr (.inr (.inr (.inr (.inr (.inr (.inr (.inl (hb 56 e)))))))))
 ·exact .inr (.inr (.inr (.inr (.inr (.inr (.inr (.inr (.inr (hb 57 e)))))))))
theorem gL{α:Type}(p:α->Bool):∀l:List α,(∀c∈l,p c=true)->l.takeWhile p=l
 | [],_=>rfl
 | c::l,h=>by rw[List.takeWhile_cons,if_pos (h c aI),gL p l λc hc=>h c (by simp[hc])]
theorem Gc(l:T)(c:UInt8):dec (l ++ [c])=10*dec l+(c.toNat-48):=by simp[dec]
theorem tP{k:Nat}(h:k<10):(ja (48+k)).toNat=48+k:=by simp;omega
theorem oX:∀ (n u:Nat),u≤n->dec (decDigits u)=u/\(∀c∈decDigits u,digit c=true)/\(∃c l,decDigits u=c::l/\(0<u->c≠48)/\(l ≠ []->c≠48))
 | n,u,hn=>by
  by_cases h:u<10
  ·rw[decDigits,dif_pos h];have hb:=tP h;refine⟨by simp[dec,hb];omega,λc hc=>?_,_,[],rfl,λh0 e=>?_,λh=>absurd rfl h⟩
   ·simp only[dr]at hc;subst hc;simp only[digit,aT,decide_eq_true_eq,fp,hb];exact⟨by show 48≤_;omega,by show _≤57;omega⟩
   ·rw[e]at hb;have:(48:UInt8).toNat=48:=rfl
    omega
  ·match n,hn with
   | 0,hn=>omega
   | n+1,hn=>
    obtain⟨h1,h2,c,l,h3,h4,h5⟩:=oX n (u / 10) ab;have hb:=tP (show u % 10<10 by omega);rw[decDigits,dif_neg h];refine⟨by rw[Gc,h1,hb];omega,λx hx=>?_,c,l ++ [ja (48+u % 10)],by rw[h3];rfl,λ_=>h4 ab,λ_=>h4 ab⟩;rcases kh.1 hx with hx|hx
    ·exact h2 x hx
    ·simp only[dr]at hx;subst hx;simp only[digit,aT,decide_eq_true_eq,fp,hb];exact⟨by show 48≤_;omega,by show _≤57;omega⟩
theorem vw:∀ (l:T) (a:Nat),a*10 ^ l.length≤l.foldl (λa c=>10*a+(c.toNat-48)) a
 | [],a=>by simp
 | c::l,a=>by
  have h:=vw l (10*a+(c.toNat-48));rw[List.foldl_cons];refine bI ?_ h;rw[aW,Nat.pow_succ];have:a*(10 ^ l.length*10)=(10*a)*10 ^ l.length:=by rw[Nat.mul_comm 10 a,Nat.mul_assoc,Nat.mul_comm 10]
  rw[this];exact fe _ ab
theorem oY{u:Nat}(h:u≤9223372036854775808):(decDigits u).length≤40:=by
 by_cases hl:(decDigits u).length≤40
 ·exact hl
 ·exfalso
  obtain⟨h1,h2,c,l,h3,h4,h5⟩:=oX u u (ai _);rw[h3]at hl h1;simp only[aW]at hl;have hc:=h2 c (by rw[h3];simp);have hne:c≠48:=h5 λe=>by rw[e]at hl;simp at hl
  have:48≤c.toNat:=by
   simp only[digit,aT,decide_eq_true_eq,fp]at hc;exact hc.1
  have hn:c.toNat≠48:=λe=>hne (jL.1 e);have h40:=vw l (10*0+(c.toNat-48));have h6:(10:Nat) ^ 20≤10 ^ l.length:=Nat.pow_le_pow_right ab ab;have h7:1*10 ^ l.length≤(10*0+(c.toNat-48))*10 ^ l.length:=fe _ ab;have h8:dec (c::l)=l.foldl (λa c=>10*a+(c.toNat-48)) (10*0+(c.toNat-48)):=rfl;have:(10:Nat) ^ 20=100000000000000000000:=rfl
  omega
end P12
namespace P11
end P11
namespace P12
open P11 (Tok)
section
variable {e : Tok} {x : List Tok} {α β : Type}
theorem C3(most:Nat)(could:R->Bool)(read:R->Except Er (α×R))(f n:Nat):eJ most could read (f+1) n=λr=>if(decide (most<n+1)&&could r)=true then bU 122 r else
  (read r >>= λz=>if isT [44] z.2=true then(eJ most could read f (n+1) (ax z.2) >>= λw => .ok (z.1::w.1,w.2))else .ok ([z.1],z.2)):=au
theorem CE(read:R->Except Er (α×R)):within read=λr=>if isT [40] r=false then bU 120 r else opens r >>= λr=>read (ax r) >>= λz=>bL [41] z.2 >>= λr => .ok (z.1,il r):=au
end
end P12
namespace P12
open P11 (Tok)
abbrev okE(a:E):Prop:=isE a=true
section
variable {e : Tok} {x : List Tok}
theorem DP:column=λr=>name r >>= λz=>if isT [46] z.2=true then name (ax z.2) >>= λw => .ok (.col z.1 w.1,w.2)else .ok (.col [] z.1,z.2):=au
theorem IT(ex:R->Except Er (E×R))(op:Int):call ex op=λr=>within (gD ex op) r >>= λz => .ok (if z.1.1 then E.all else E.call op z.1.2,z.2):=au
theorem AD(ex:R->Except Er (E×R)):cZ ex=λr=>if(nxt r).kind=3 then(int 9223372036854775807 r >>= λz => .ok (E.val 2 z.1 [],z.2))else if(nxt r).kind=4 then(if 40<(nxt r).text.length then bU 122 r else .ok (E.val 3 0 (nxt r).text,ax r))else if(nxt r).kind=1 then column r
  else if isT [40] r then within ex r else if(nxt r).kind=2 then((lZ (nxt r).text).elim (if(nxt r).text = [78,85,76,76]then .ok (E.val 0 0 [],ax r)else if(nxt r).text = [84,82,85,69]then .ok (E.val 1 1 [],ax r)else if(nxt r).text = [70,65,76,83,69]then .ok (E.val 1 0 [],ax r)else bU 120 r)
   (λop=>call ex op (ax r)))else bU 120 r:=au
theorem wX(ex:R->Except Er (E×R))(f:Nat):dU ex (f+1)=λr=>if isT [45] r=false then cZ ex r else if(nxt ⟨r.l.tail,r.deep⟩).kind=3 then(int 9223372036854775808 (ax r) >>= λz => .ok (E.val 2 (-(z.1:Int)) [],z.2))
  else(opens r >>= λr=>dU ex f (ax r) >>= λz => .ok (E.una 16 z.1,il z.2)):=au
theorem DV(part:R->Except Er (E×R))(ops:List (T×Int))(f:Nat)(a:E):nh part ops (f+1) a=λr=>(ops.find? λo=>isT o.1 r).elim (.ok (a,r)) (λo=>part (ax r) >>= λz=>nh part ops f (E.bin o.2 a z.1) z.2):=au
theorem DU(part:R->Except Er (E×R))(ops:List (T×Int)):binary part ops=λr=>part r >>= λz=>nh part ops z.2.l.length z.1 z.2:=au
theorem GC(sum:R->Except Er (E×R)):test sum=λr=>sum r >>= λz=>(kp.find? λo=>isT o.1 z.2).elim
  (if isT [73,83] z.2=false then .ok (z.1,z.2)else(bL [78,85,76,76] (has [78,79,84] (ax z.2)).2 >>= λr => .ok (E.una (if(has [78,79,84] (ax z.2)).1 then 18 else 17) z.1,r)))
  (λo=>sum (ax z.2) >>= λw => .ok (E.bin o.2 z.1 w.1,w.2)):=au
theorem Dp(tst:R->Except Er (E×R))(f:Nat):ly tst (f+1)=λr=>if isT [78,79,84] r=false then tst r else(opens r >>= λr=>ly tst f (ax r) >>= λz => .ok (E.una 15 z.1,il z.2)):=au
end
end P12
namespace P12
open P11 (Tok)
section
variable {e : Tok} {x : List Tok}
theorem ta:names=λr=>bL [40] r >>= λr=>(λr=>eJ 16 named name r.l.length 0 r) r >>= λz=>bL [41] z.2 >>= λr => .ok (z.1,r):=au
theorem qt(n:Nat)(c:T)(r:R):gv n c r=if(decide (16<n+1)&&bh r)=true then bU 122 r else(λr=>if isT [67,72,69,67,75] r=true then(within expr (ax r) >>= λz => .ok ((.inl z.1:Con),z.2))else
  if isT [80,82,73,77,65,82,89] r=true then(bL [75,69,89] (ax r) >>= λr=>eL c r >>= λz => .ok ((.inr (true,z.1):Con),z.2))else(bL [85,78,73,81,85,69] r >>= λr=>eL c r >>= λz => .ok ((.inr (false,z.1):Con),z.2))) r:=by
 unfold gv jU has;split
 ·rfl
 dsimp only;split
 ·cases within expr (ax r)<;>rfl
 ·cases hp:isT [80,82,73,77,65,82,89] r with
  | true=>simp only[if_true];cases bL [75,69,89] (ax r)with
   | error er=>rfl
   | ok r1=>show(match eL c r1 with | .error e => .error e | .ok (l,r2)=> .ok ((.inr (true,l):Con),r2))=(eL c r1 >>= _);cases eL c r1<;>rfl
  | false=>simp only[aS,if_false];cases bL [85,78,73,81,85,69] r with
   | error er=>rfl
   | ok r1=>show(match eL c r1 with | .error e => .error e | .ok (l,r2)=> .ok ((.inr (false,l):Con),r2))=(eL c r1 >>= _);cases eL c r1<;>rfl
structure J(t:Tb)(k:List (List T))(n c:Nat):Prop where
 nm:isName t.name=true
 cnt:t.cols.length+t.keys.length+t.checks.length+c=n
 most:n≤16
 kl:k.length=t.keys.length
 ks:∀l∈k,some l 16 isName=true
 cs:∀a∈t.checks,okE a
 col:∀a∈t.cols,isName a.1=true/\1≤a.2.1/\a.2.1≤3
theorem Al(c:T)(f:Nat)(t:Tb)(k:List (List T))(n:Nat)(nn:Bool):gj c (f+1) t k n nn=λr=>if isT [78,79,84] r=true then(bL [78,85,76,76] (ax r) >>= λr=>gj c f t k n true r)else
  if bh r=true then(gv n c r >>= λz=>gj c f (gq t z.1) (jw k z.1) (n+1) (nn||isT [80,82,73,77,65,82,89] r) z.2)else .ok ((t,k,n,nn),r):=au
theorem wv(t:Tb)(k:List (List T))(n:Nat):part t k n=λr=>if bh r=true then(gv n [] r >>= λz => .ok ((gq t z.1,jw k z.1,n+1),z.2))else
  if(decide (16<n+1)&&named r)=true then bU 122 r else(name r >>= λz=>typeOf z.2 >>= λy=>(λr=>gj z.1 r.l.length t k (n+1) false r) y.2 >>= λw => .ok (({ w.1.1 with cols:=w.1.1.cols ++ [(z.1,y.1,w.1.2.2.2)] },w.1.2.1,w.1.2.2.1),w.2)):=au
theorem rN(f:Nat)(t:Tb)(k:List (List T))(n:Nat):gA (f+1) t k n=λr=>part t k n r >>= λz=>if isT [44] z.2=true then gA f z.1.1 z.1.2.1 z.1.2.2 (ax z.2)else .ok ((z.1.1,z.1.2.1),z.2):=au
abbrev KD:=R->Except Er (St×R)
def mkIdx(u:Bool):KD:=λr=>bL [73,78,68,69,88] r >>= λr=>name r >>= λz=>bL [79,78] z.2 >>= λr=>name r >>= λw=>names w.2 >>= λl => .ok ({ made 3 with unique:=u,name:=z.1,on:=w.1,cols:=l.1 },l.2)
def tj:KD:=λr=>name r >>= λz=>bL [40] z.2 >>= λr=>(λr=>gA r.l.length { name:=z.1 } [] 0 r) r >>= λw=>bL [41] w.2 >>= λr => .ok ({ made 1 with tb:=w.1.1,keyCols:=w.1.2 },r)
theorem re:create=λr=>if isT [84,65,66,76,69] r=true then tj (ax r)
  else(λu:Bool×R=>if(u.1||isT [73,78,68,69,88] u.2)=true then mkIdx u.1 u.2 else bU 120 r) (has [85,78,73,81,85,69] r):=au
theorem drop_eq:drop=λr=>if isT [84,65,66,76,69] r=true then(name (ax r) >>= λz => .ok ({ made 2 with name:=z.1 },z.2))else(bL [73,78,68,69,88] r >>= λr=>name r >>= λz => .ok ({ made 4 with name:=z.1 },z.2)):=by
 funext r;unfold drop has;dsimp only;split<;>rfl
theorem pS:fg=λr=>bL [40] r >>= λr=>exprs expr r >>= λz=>bL [41] z.2 >>= λr => .ok (z.1,r):=au
theorem zI{α β:Type}(c:Prop)[Decidable c](a b:Except Er α)(K:α->Except Er β):((if c then a else b) >>= K)=if c then a >>= K else b >>= K:=by split<;>rfl
theorem insert_eq:insert=λr=>bL [73,78,84,79] r >>= λr=>name r >>= λz=>(λr=>if isT [40] r=true then names r else .ok ([],r)) z.2 >>= λl=>bL [86,65,76,85,69,83] l.2 >>= λr=>(λr=>eJ 32 (isT [40]) fg r.l.length 0 r) r >>= λw => .ok ({ made 5 with name:=z.1,cols:=l.1,rows:=w.1 },w.2):=by
 simp only[zI];kernel_rfl
theorem ya:setOf=λr=>name r >>= λz=>bL [61] z.2 >>= λr=>expr r >>= λw => .ok ((z.1,w.1),w.2):=au
theorem uI:update=λr=>name r >>= λz=>bL [83,69,84] z.2 >>= λr=>(λr=>eJ 16 named setOf r.l.length 0 r) r >>= λl=>wher l.2 >>= λw => .ok ({ made 6 with name:=z.1,sets:=l.1,wher:=w.1 },w.2):=au
theorem tQ:iP=λr=>bL [70,82,79,77] r >>= λr=>name r >>= λz=>wher z.2 >>= λw => .ok ({ made 7 with name:=z.1,wher:=w.1 },w.2):=au
theorem su:item=λr=>if isT [42] r=true then .ok ((true,E.none,[]),ax r)else(expr r >>= λz=>if isT [65,83] z.2=true then(name (ax z.2) >>= λw => .ok ((false,z.1,w.1),w.2))else .ok ((false,z.1,[]),z.2)):=au
theorem uS:source=λr=>name r >>= λz=>maybe z.2 >>= λw => .ok ((z.1,w.1),w.2):=au
theorem pj:fO=λr=>expr r >>= λz=>(λh:Bool×R => .ok ((z.1,h.1),if h.1 then h.2 else(has [65,83,67] h.2).2)) (has [68,69,83,67] z.2):=au
def oh(s:T×T)(r:R):Except Er ((List (T×T)×E)×R):=if isT [74,79,73,78] r=true then(source (ax r) >>= λz=>bL [79,78] z.2 >>= λr=>expr r >>= λw => .ok (([s,z.1],w.1),w.2))else .ok (([s],E.none),r)
def j0(r:R):Except Er (List E×R):=if isT [71,82,79,85,80] r=true then(bL [66,89] (ax r) >>= λr=>(λr=>eJ 16 named column r.l.length 0 r) r)else .ok ([],r)
def ji(r:R):Except Er (List (E×Bool)×R):=if isT [79,82,68,69,82] r=true then(bL [66,89] (ax r) >>= λr=>exprs fO r)else .ok ([],r)
def iL(r:R):Except Er (Int×R):=if isT [76,73,77,73,84] r=true then(if(nxt (ax r)).kind≠3 then bU 120 (ax r)else(int 9223372036854775807 (ax r) >>= λz => .ok ((z.1:Int),z.2)))else .ok (-1,r)
theorem rH:ga=λr=>(λr=>eJ 16 (λr=>isT [42] r||dV r) item r.l.length 0 r) r >>= λz=>bL [70,82,79,77] z.2 >>= λr=>source r >>= λs=>oh s.1 s.2 >>= λj=>wher j.2 >>= λw=>j0 w.2 >>= λg=>ji g.2 >>= λo=>iL o.2 >>= λl=>
  .ok ({ made 8 with items:=z.1,frm:=j.1.1,join:=j.1.2,wher:=w.1,group:=g.1,order:=o.1,limit:=l.1 },l.2):=by
 funext r;simp only[ga,oh,j0,ji,iL,zI];kernel_rfl
end
end P12
namespace P12
end P12
namespace P12
open P11 (Tok)
def Sz{α:Type}(p:α->Prop)(v:Except Er (α×R)):Prop:=∀a r,v = .ok (a,r)->r.l.length≤8193/\p a
abbrev Sx{α:Type}(F:R->Except Er (α×R)):Prop:=∀r:R,r.l.length≤8193->Sz (λ_=>True) (F r)
section
variable {α β : Type} {p : α → Prop} {q : β → Prop} {r : R}
theorem Sz.no{c:Int}:Sz p (bU c r):=λa r h=>by cases h
theorem Sz.ok{a:α}(h:r.l.length≤8193)(hp:p a):Sz p (.ok (a,r)):=λ_ _ e=>by cases e;exact⟨h,hp⟩
theorem Sz.bind{v:Except Er (α×R)}{K:α×R->Except Er (β×R)}(h:Sz p v)(hK:∀a r,r.l.length≤8193->p a->Sz q (K (a,r))):Sz q (v >>= K):=by
 cases v with
 | error er=>intro a r e;cases e
 | ok z=>exact hK z.1 z.2 (h z.1 z.2 rfl).1 (h z.1 z.2 rfl).2
theorem tk{r:R}(h:r.l.length≤8193):(ax r).l.length≤8193:=bI (aO r).le h
theorem hs{s:T}{r:R}(h:r.l.length≤8193):(has s r).2.l.length≤8193:=by unfold has;split;exact tk h;exact h
theorem Sz.bL{s:T}{K:R->Except Er (β×R)}(h:r.l.length≤8193)(hK:∀r:R,r.l.length≤8193->Sz q (K r)):Sz q (bL s r >>= K):=by
 unfold P12.bL;split
 ·exact hK _ (tk h)
 ·intro a r e;cases e
theorem Sz.opens{K:R->Except Er (β×R)}(h:r.l.length≤8193)(hK:∀r:R,r.l.length≤8193->Sz q (K r)):Sz q (opens r >>= K):=by
 unfold P12.opens;split
 ·intro a r e;cases e
 ·exact hK _ h
theorem Sz.ite{c:Prop}[Decidable c]{a b:Except Er (α×R)}(h1:c->Sz p a)(h2:¬c->Sz p b):Sz p (if c then a else b):=by split;exact h1 ‹_›;exact h2 ‹_›
theorem Sz.elim{γ:Type}{o:Option γ}{a:Except Er (α×R)}{f:γ->Except Er (α×R)}(h1:Sz p a)(h2:∀c,Sz p (f c)):Sz p (o.elim a f):=by cases o;exact h1;exact h2 _
end
theorem jF:Sx name:=λr h=>by
 unfold name;exact .ite (λ_ => .no) λ_ => .ite (λ_ => .no) λ_ => .ok (tk h) trivial
theorem Ky(m:Nat):Sx (int m):=λr h=>by
 unfold int;exact .ite (λ_ => .no) λ_ => .ok (tk h) trivial
theorem sz{P:Prop}(h:P:=by
  repeat' (first|assumption|exact trivial|exact Sz.no|refine tk ?_|refine hs ?_|exact jF _ ‹_› | refine jF _ ?_|refine Ky _ _ ?_|refine hr _ ?_|refine hr1 _ ?_|refine Sz.ok ?_ ?_|refine Sz.bL ?_ λ_ _=>?_|refine Sz.opens ?_ λ_ _=>?_|refine Sz.ite (λ_=>?_) λ_=>?_|refine Sz.elim ?_ λ_=>?_|refine Sz.bind (p:=λ_=>True) ?_ λ_ _ _ _=>?_)):P:=h
theorem vY{α:Type}{most:Nat}{could:R->Bool}{p:α->Prop}{read:R->Except Er (α×R)}(hr:∀r:R,r.l.length≤8193->Sz p (read r)):∀ (f n:Nat) (r:R),r.l.length≤8193->Sz (λl=>l.length≤f/\∀a∈l,p a) (eJ most could read f n r)
 | 0,_,_,_ => .no
 | f+1,n,r,h=>by
  rw[C3];exact .ite (λ_ => .no) λ_ => .bind (hr r h) λa r1 h1 ha => .ite (λhc => .bind (vY hr f _ _ (tk h1)) λl r2 h2 hl => .ok h2 ⟨Nat.succ_le_succ hl.1,λb hb=>by rcases aJ.1 hb with rfl|hb;exact ha;exact hl.2 b hb⟩) λ_ => .ok h1 ⟨Nat.succ_le_succ (gM _),λb hb=>by rw[dr.1 hb];exact ha⟩
abbrev Few{α:Type}(l:List α):Prop:=l.length≤1000000
theorem qa{α:Type}{most:Nat}{could:R->Bool}{p:α->Prop}{read:R->Except Er (α×R)}(hr:∀r:R,r.l.length≤8193->Sz p (read r))(r:R)(h:r.l.length≤8193):Sz (λl=>Few l/\∀a∈l,p a) (eJ most could read r.l.length 0 r):=
 λa r' e=>⟨(vY hr _ _ r h a r' e).1,by have:=(vY hr _ _ r h a r' e).2.1;show _≤1000000;omega,(vY hr _ _ r h a r' e).2.2⟩
theorem sC{α:Type}{read:R->Except Er (α×R)}(hr:Sx read):Sx (within read):=λr h=>by rw[CE];exact sz
theorem tX:Sx column:=λr h=>by rw[DP];exact sz
theorem DS{ex:R->Except Er (E×R)}(hr:Sx ex)(op:Int):Sx (gD ex op):=λr h=>by
 unfold gD;refine .ite (λ_=>sz) λ_=>?_;have:=hr r h
 cases hx:ex r with
 | error er=>intro a r e;cases e
 | ok z=>exact .ok (this z.1 z.2 hx).1 trivial
theorem J3{ex:R->Except Er (E×R)}(hr:Sx ex)(op:Int):Sx (call ex op):=λr h=>by
 have hr1:=sC (DS hr op);rw[IT];exact sz
theorem Da{ex:R->Except Er (E×R)}(hr:Sx ex):Sx (cZ ex):=λr h=>by
 rw[AD];exact .ite (λ_=>sz) λ_ => .ite (λ_=>sz) λ_ => .ite (λ_=>tX r h) λ_ => .ite (λ_=>sC hr r h) λ_ => .ite (λ_ => .elim sz λop=>J3 hr op _ (tk h)) λ_ => .no
theorem vz{ex:R->Except Er (E×R)}(hr:Sx ex):∀f:Nat,Sx (dU ex f)
 | 0=>λr h => .no
 | f+1=>λr h=>by
  have hr1:=vz hr f;rw[wX];exact .ite (λ_=>Da hr r h) λ_=>sz
theorem Gk{part:R->Except Er (E×R)}(hr:Sx part)(ops:List (T×Int)):∀ (f:Nat) (a:E),Sx (nh part ops f a)
 | 0,_=>λr h => .no
 | f+1,a=>λr h=>by
  rw[DV];exact .elim sz λo => .bind (hr _ (tk h)) λb r1 h1 _=>Gk hr ops f _ r1 h1
theorem qx{part:R->Except Er (E×R)}(hr:Sx part)(ops:List (T×Int)):Sx (binary part ops):=λr h=>by
 rw[DU];exact .bind (hr r h) λa r1 h1 _=>Gk hr ops _ a r1 h1
theorem Jt{sum:R->Except Er (E×R)}(hr:Sx sum):Sx (test sum):=λr h=>by rw[GC];exact sz
theorem Fh{tst:R->Except Er (E×R)}(hr:Sx tst):∀f:Nat,Sx (ly tst f)
 | 0=>λr h => .no
 | f+1=>λr h=>by
  have hr1:=Fh hr f;rw[Dp];exact sz
theorem Cv:∀f:Nat,Sx (kY f)
 | 0=>λr h => .no
 | f+1=>qx (qx (Fh (Jt (qx (qx (vz (Cv f) _) _) _)) _) _) _
theorem py:Sx expr:=Cv 101
theorem wJ(r:R)(h:r.l.length≤8193):Sz Few (names r):=by
 rw[ta];exact .bL h λr h => .bind (qa jF r h) λl r h hl => .bL h λr h => .ok h hl.1
def Jz(t:Tb)(k:List (List T))(n:Nat):Prop:=t.cols.length+t.keys.length+t.checks.length≤n/\k.length≤n/\(∀l∈k,Few l)/\n≤16
theorem Jj{t:Tb}{k:List (List T)}{n:Nat}(hJ:Jz t k n)(c:T)(r:R)(hc:bh r=true)(h:r.l.length≤8193):Sz (λo=>Jz (gq t o) (jw k o) (n+1)) (gv n c r):=by
 have hco:∀r:R,r.l.length≤8193->Sz Few (eL c r):=λr h=>Sz.ite (λ_=>wJ r h) λ_ => .ok h (by show 1≤1000000;omega);obtain⟨h1,h2,h3,h4⟩:=hJ;rw[qt];refine .ite (λ_ => .no) λhn=>?_;have hn:n+1≤16:=by simp only[hc,mi,decide_eq_true_eq]at hn;omega
 have hk:∀ (b:Bool) (l:List T),Few l->Jz (gq t (.inr (b,l))) (jw k (.inr (b,l))) (n+1):=λb l hl=>⟨by simp only[gq,aN,bf];omega,by simp only[jw,aN,bf];omega,λx hx=>by rcases kh.1 hx with hx|hx;exact h3 x hx;rw[dr.1 hx];exact hl,hn⟩;exact .ite (λ_ => .bind (sC py _ (tk h)) λa r h _ => .ok h ⟨by simp only[gq,aN,bf];omega,by simp only[jw];omega,h3,hn⟩) λ_ => .ite (λ_ => .bL (tk h) λr h => .bind (hco r h) λl r h hl => .ok h (hk _ _ hl)) λ_ => .bL h λr h => .bind (hco r h) λl r h hl => .ok h (hk _ _ hl)
theorem vM(c:T):∀ (f:Nat) (t:Tb) (k:List (List T)) (n:Nat) (nn:Bool) (r:R),Jz t k n->t.cols.length+t.keys.length+t.checks.length+1≤n->r.l.length≤8193->Sz (λz=>Jz z.1 z.2.1 z.2.2.1/\z.1.cols.length+z.1.keys.length+z.1.checks.length+1≤z.2.2.1) (gj c f t k n nn r)
 | 0,_,_,_,_,_,_,_,_ => .no
 | f+1,t,k,n,nn,r,hJ,hn,h=>by
  rw[Al];refine .ite (λ_ => .bL (tk h) λr h=>vM c f t k n true r hJ hn h) λ_ => .ite (λhc => .bind (Jj hJ c r hc h) λo r h ho=>vM c f _ _ _ _ r ho ?_ h) λ_ => .ok h ⟨hJ,hn⟩
  cases o<;>(simp only[gq,aN,bf];omega)
theorem Jx(t:Tb)(k:List (List T))(n:Nat)(r:R)(hJ:Jz t k n)(h:r.l.length≤8193):Sz (λz=>Jz z.1 z.2.1 z.2.2) (part t k n r):=by
 rw[wv];refine .ite (λhc => .bind (Jj hJ [] r hc h) λo r h ho => .ok h ho) λ_ => .ite (λ_ => .no) λhn=>?_
 have hm:∀a r',name r = .ok (a,r')->n+1≤16:=λa r' e=>by
  have hnm:named r=true:=by
   unfold name at e;unfold named;split at e
   ·cases e
   ·split at e
    ·cases e
    ·rename_i g1 g2;simp only[aT,beq_iff_eq,decide_eq_true_eq];exact⟨Classical.not_not.1 g1,sc g2⟩
  simp only[hnm,mi,decide_eq_true_eq]at hn;omega
 refine Sz.bind (p:=λ_=>n+1≤16) (λa r' e=>⟨(jF r h a r' e).1,hm a r' e⟩) λa r h hn=>Sz.bind (p:=λ_=>True) ?_ λty r h _=>Sz.bind (vM a _ t k (n+1) false r ⟨by have:=hJ.1;omega,by have:=hJ.2.1;omega,hJ.2.2.1,hn⟩ (by have:=hJ.1;omega) h) λw r h hw => .ok h ?_
 ·unfold typeOf;exact sz
 ·obtain⟨⟨g1,g2,g3,g4⟩,g5⟩:=hw;exact⟨by simp only[aN,bf];omega,g2,g3,g4⟩
theorem yp:∀ (f:Nat) (t:Tb) (k:List (List T)) (n:Nat) (r:R),Jz t k n->r.l.length≤8193->Sz (λz=>∃n,Jz z.1 z.2 n) (gA f t k n r)
 | 0,_,_,_,_,_,_ => .no
 | f+1,t,k,n,r,hJ,h=>by
  rw[rN];exact .bind (Jx t k n r hJ h) λz r h hz => .ite (λ_=>yp f _ _ _ _ hz (tk h)) λ_ => .ok h ⟨_,hz⟩
structure k9(x:St):Prop where
 tc:Few x.tb.cols
 tk:Few x.tb.keys
 tq:Few x.tb.checks
 kc:Few x.keyCols
 kc1:∀l∈x.keyCols,Few l
 cols:Few x.cols
 rows:Few x.rows
 rows1:∀l∈x.rows,Few l
 sets:Few x.sets
 items:Few x.items
 frm:Few x.frm
 grp:Few x.group
 ord:Few x.order
theorem few{P:Prop}(h:P:=by constructor<;>first|assumption|exact Nat.zero_le _|(intro l hl;cases hl)):P:=h
theorem Gg(r:R)(h:r.l.length≤8193):Sz k9 (create r):=by
 rw[re];refine .ite (λ_=>?_) λ_ => .ite (λ_=>?_) λ_ => .no
 ·unfold tj;refine .bind (jF _ (tk h)) λa r h _ => .bL h λr h => .bind (yp _ { name:=a } [] 0 r ⟨ai _,ai _,(λl hl=>by cases hl),gM _⟩ h) λw r h hw => .bL h λr h => .ok h ?_;obtain⟨n,h1,h2,h3,h4⟩:=hw;have a1:Few w.1.cols:=by show _≤1000000;omega
  have a2:Few w.1.keys:=by show _≤1000000;omega
  have a3:Few w.1.checks:=by show _≤1000000;omega
  have a4:Few w.2:=by show _≤1000000;omega
  exact few
 ·unfold mkIdx;exact .bL (hs h) λr h => .bind (jF _ h) λa r h _ => .bL h λr h => .bind (jF _ h) λb r h _ => .bind (wJ _ h) λl r h hl => .ok h few
theorem JZ(r:R)(h:r.l.length≤8193):Sz k9 (drop r):=by
 rw[drop_eq];exact .ite (λ_ => .bind (jF _ (tk h)) λa r h _ => .ok h few) λ_ => .bL h λr h => .bind (jF _ h) λa r h _ => .ok h few
theorem Ac:Sx wher:=λr h => .ite (λ_=>py _ (tk h)) λ_=>sz
theorem xH(r:R)(h:r.l.length≤8193):Sz Few (fg r):=by
 rw[pS];exact .bL h λr h => .bind (qa py r h) λl r h hl => .bL h λr h => .ok h hl.1
theorem FM(r:R)(h:r.l.length≤8193):Sz k9 (insert r):=by
 rw[insert_eq];exact .bL h λr h => .bind (jF r h) λa r h _ => .bind (p:=Few) (.ite (λ_=>wJ r h) λ_ => .ok h (gM _)) λl r h hl => .bL h λr h => .bind (qa xH r h) λw r h hw => .ok h (by obtain⟨g1,g2⟩:=hw;exact few)
theorem GO:Sx setOf:=λr h=>by have hr:=py;rw[ya];exact sz
theorem Eh(r:R)(h:r.l.length≤8193):Sz k9 (update r):=by
 rw[uI];exact .bind (jF r h) λa r h _ => .bL h λr h => .bind (qa GO r h) λl r h hl => .bind (Ac r h) λw r h _ => .ok h (by obtain⟨g1,g2⟩:=hl;exact few)
theorem DN(r:R)(h:r.l.length≤8193):Sz k9 (iP r):=by
 rw[tQ];exact .bL h λr h => .bind (jF r h) λa r h _ => .bind (Ac r h) λw r h _ => .ok h few
theorem JO:Sx item:=λr h=>by have hr:=py;rw[su];exact sz
theorem xU:Sx source:=λr h=>by
 have hr:Sx maybe:=λr h => .ite (λ_=>sz) λ_=>jF r h;rw[uS];exact sz
theorem vb:Sx fO:=λr h=>by
 rw[pj];refine .bind (py r h) λa r h _ => .ok ?_ trivial;dsimp only;split
 ·exact hs h
 ·exact hs (hs h)
theorem CU(r:R)(h:r.l.length≤8193):Sz k9 (ga r):=by
 have hj:∀ (s:T×T) (r:R),r.l.length≤8193->Sz (λj=>Few j.1) (oh s r):=λs r h => .ite (λ_ => .bind (xU _ (tk h)) λa r h _ => .bL h λr h => .bind (py r h) λb r h _ => .ok h (by show 2≤1000000;omega)) λ_ => .ok h (by show 1≤1000000;omega);have hg:∀r:R,r.l.length≤8193->Sz Few (j0 r):=λr h => .ite (λ_ => .bL (tk h) λr h=>λa r' e=>⟨(qa tX r h a r' e).1,(qa tX r h a r' e).2.1⟩) λ_ => .ok h (gM _);have ho:∀r:R,r.l.length≤8193->Sz Few (ji r):=λr h => .ite (λ_ => .bL (tk h) λr h=>λa r' e=>⟨(qa vb r h a r' e).1,(qa vb r h a r' e).2.1⟩) λ_ => .ok h (gM _);have hl:Sx iL:=λr h=>by unfold iL;exact sz
 rw[rH];exact .bind (qa JO r h) λz r h hz => .bL h λr h => .bind (xU r h) λs r h _ => .bind (hj s r h) λj r h hj => .bind (Ac r h) λw r h _ => .bind (hg r h) λg r h hg => .bind (ho r h) λo r h ho => .bind (hl r h) λl r h _ => .ok h (by obtain⟨g1,g2⟩:=hz;exact few)
theorem xR(r:R)(h:r.l.length≤8193):Sz k9 (cA r):=
 .ite (λ_=>Gg _ (tk h)) λ_ => .ite (λ_=>JZ _ (tk h)) λ_ => .ite (λ_=>FM _ (tk h)) λ_ => .ite (λ_=>Eh _ (tk h)) λ_ => .ite (λ_=>DN _ (tk h)) λ_ => .ite (λ_=>CU _ (tk h)) λ_=>
  .ite (λ_ => .ok (tk h) few) λ_ => .ite (λ_ => .ok (tk h) few) λ_ => .ite (λ_ => .ok (tk h) few) λ_ => .no
theorem yr{s:T}{x:St}(h:parse s = .ok x):k9 x:=by
 unfold parse at h
 cases hl:P11.eP s with
 | inr z=>rw[hl]at h;cases h
 | inl l=>
  rw[hl]at h;have hL:l.length≤8193:=(pq hl).len;have h':fx l = .ok x:=h;unfold fx at h'
  cases hs:cA ⟨l,0⟩with
  | error er=>rw[hs]at h';cases h'
  | ok z=>
   have:=(xR ⟨l,0⟩ hL z.1 z.2 hs).2;rw[hs]at h';have h2:(if(nxt (has [59] z.2).2).kind≠0 then bU 120 (has [59] z.2).2 else .ok z.1:Except Er St) = .ok x:=h';split at h2
   ·cases h2
   ·cases h2;exact this
end P12
