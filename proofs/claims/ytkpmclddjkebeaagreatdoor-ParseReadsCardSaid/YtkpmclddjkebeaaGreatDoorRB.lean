/- What the claim's proof leans on, part 2: walks of functions and plain laws. -/
import Derived.StillTail
import Derived.Lib.QuietBelow
import Derived.Deep.Light
import Derived.Shelf.Strings.Trim
import Derived.Shelf.Strconv.Itoa4
import Derived.Shelf.Strconv.ErrVarParseInt
import Derived.Shelf.Pu.ErrVarParseUint
import Derived.Shelf.Strings.Shaped
import Derived.Shelf.Strings.Prefix
import Derived.Shelf.Strings.SplitShaped
import Derived.Shelf.Unicode.Latin
import Derived.Shelf.Strings.Runes
import Derived.Shelf.Strings.AsciiSet
import Derived.Shelf.Strings.CaseAny
import Derived.Shelf.Slices.Turned
import Derived.Shelf.SlicesE.IndexFunc
import Derived.Test.YtkpmclddjkebeaaGreatDoorProg
set_option linter.unusedSimpArgs false
set_option linter.unusedVariables false
set_option maxRecDepth 100000
set_option maxHeartbeats 80000000
theorem av{P:Prop}(h:P:=by omega):P:=h
theorem jg{P:Prop}(h:P:=by kernel_rfl):P:=h
theorem ff{P:Prop}(h:P:=by decide):P:=h
theorem cI{P:Prop}(h:P:=by rfl):P:=h
theorem eQ{P:Prop}(h:P:=by simp):P:=h
open Array renaming append_assoc→mD,getD_eq_getD_getElem?→Eb,getElem?_eq_getElem→cM,getElem?_eq_none→eu,getElem?_eq_some_iff→ae,replicate→bH
open Bool renaming and_eq_true→aT,false_eq_true→aS,not_eq_true'→jd,or_eq_true→fu
open Go.Act renaming put→CD
open Go.Addr renaming add→zU
open Go.Code renaming region→gN
open Go.Lib renaming indexByte→qF,itoa→lM,toUpperA→iR
open Go.Oper renaming upon→zY
open Go.Proofs.Builder renaming Extra→pI
open Go.Proofs.Tryz renaming prog→af
open Go.Region renaming binds→ln,chainB→pN,noSelect→nk,ready→lj,sinkB→nj,wanted→bV
open Go.RowKit.Below renaming refl→al
open Go.Shelf renaming Ren→dW
open Go.Sort renaming grow→ni
open Go.Value renaming int→lK,ownBlock→gK,slice→gU
open Go.World renaming block_lt_of_cell?→ay,cell?→ak,cell?_alloc_mark→fG,cell?_of_block→kf,ownsRow_nil→qA
open Go renaming frozen_of_row→aD,getD_replicate_false→lJ,getD_set_ne→zS
open List renaming all_eq_true→ft,eq_nil_of_length_eq_zero→iQ,getElem?_drop→ug,getElem?_eq_some_iff→cr,getElem?_map→jA,getElem?_take→di,map_cons→zW,mem_cons→aJ,mem_cons_of_mem→cV,mem_cons_self→cy,mem_iff_getElem?→iZ,mem_range→lh,mem_singleton→dr,not_mem_nil→aF,range→xy,take_take→nd
open Nat renaming add_comm→sy,add_zero→oH,le_refl→ai,le_trans→bI,lt_of_lt_of_le→aK,lt_or_ge→jY,min_eq_left→mC,mul_le_mul_right→fe,strongRecOn→uf,zero_add→eF,zero_le→gM
open Ne renaming symm→mb
open Option renaming map_eq_some_iff→fF
open Option.some renaming inj→iy,injEq→fq
open UInt8 renaming ofNat→ja
namespace Go.Xk
open Go.RowKit
abbrev Ext(w w':World):Prop:=Below w.heap.size w w'
theorem Ext.trans{a b c:World}(h:Ext a b)(k:Ext b c):Ext a c:=Below.trans h (k.mono h.size)
abbrev fc:=List (Nat×(World->Prop))
def fP:fc->World->Prop
 | [],_=>True
 | x::r,w=>x.2 w/\fP r w
def cd(m:Nat):fc->World->Prop
 | [],_=>True
 | x::r,w=>if m.testBit x.1 then x.2 w/\cd m r w else cd m r w
def eg(Ψ:List (Nat×(Value->World->Prop)))(i:Nat):Option (Value->World->Prop):=
 match Ψ with
 | []=>none
 | x::r=>if x.1=i then some x.2 else eg r i
def dZ(ops:Array Oper)(i:Nat):Nat:=(Region.before ops).getD i 0
def iB(vals:Nat->Value):List Oper->Nat->Act->Act
 | [],_,a=>a
 | o::r,i,a=>iB vals r (i+1) (a.put o.dst (vals i))
theorem size_put(a:Act)(d:Option Tmp)(v:Value):(a.put d v).tmps.size=a.tmps.size:=by cases d<;>simp[CD]
theorem tR(a:Act)(d:Option Tmp)(v:Value):(a.put d v).defers=a.defers:=by cases d<;>rfl
theorem nH(a:Act)(d:Option Tmp)(v:Value)(t:Tmp)(h:d≠some t):(a.put d v).tmps.getD t undef=a.tmps.getD t undef:=by
 cases d with
 | none=>rfl
 | some d=>
  have hne:d≠t:=λe=>h (by rw[e]);simp[CD,Array.getElem?_setIfInBounds_ne hne]
theorem rY(a:Act)(v:Value)(t:Tmp)(h:t<a.tmps.size):(a.put (some t) v).tmps.getD t undef=v:=by
 simp[CD,h]
theorem rG(vals:Nat->Value):∀ (l:List Oper) (i:Nat) (a:Act),(iB vals l i a).tmps.size=a.tmps.size
 | [],_,_=>rfl
 | o::r,i,a=>by rw[iB,rG vals r,size_put]
theorem oW(vals:Nat->Value):∀ (l:List Oper) (i:Nat) (a:Act),(iB vals l i a).defers=a.defers
 | [],_,_=>rfl
 | o::r,i,a=>by rw[iB,oW vals r,tR]
theorem jI(vals:Nat->Value)(t:Tmp):∀ (l:List Oper) (i:Nat) (a:Act),(∀o∈l,o.dst≠some t)->(iB vals l i a).tmps.getD t undef=a.tmps.getD t undef
 | [],_,_,_=>rfl
 | o::r,i,a,h=>by
  rw[iB,jI vals t r _ _ (λo' ho=>h o' (cV _ ho)),nH _ _ _ _ (h o (cy ..))]
theorem nI(vals:Nat->Value)(t:Tmp):∀ (l:List Oper) (i:Nat) (a:Act) (k:Nat) (o:Oper),l[k]?=some o->o.dst=some t->(∀k' o',l[k']?=some o'->k'≠k->o'.dst≠some t)->
  t<a.tmps.size->(iB vals l i a).tmps.getD t undef=vals (i+k)
 | [],_,_,_,_,h,_,_,_=>by simp at h
 | o::r,i,a,0,o',h,hd,hu,ht=>by
  simp only[List.getElem?_cons_zero,fq]at h;subst h
  rw[iB,jI vals t r _ _ (λo' ho=>by
   obtain⟨k',hk⟩:=iZ.1 ho;exact hu (k'+1) o' (by simpa using hk) av),hd,rY _ _ _ ht,oH]
 | o::r,i,a,k+1,o',h,hd,hu,ht=>by
  rw[iB,nI vals t r (i+1) _ k o' (by simpa using h) hd (λk' o'' h' hk=>hu (k'+1) o'' (by simpa using h') av) (by rw[size_put];exact ht)];congr 1;omega
theorem zl{F:fc}{w:World}(h:∀x∈F,x.2 w):fP F w:=by
 induction F with
 | nil=>trivial
 | cons x r ih=>exact⟨h x (cy ..),ih λy hy=>h y (cV _ hy)⟩
theorem sa{F:fc}{w:World}{k:Nat}(h:∀x∈F,k.testBit x.1=true->x.2 w):cd k F w:=by
 induction F with
 | nil=>trivial
 | cons x r ih=>
  have ih':=ih λy hy=>h y (cV _ hy);unfold cd;split
  ·rename_i hb;exact⟨h x (cy ..) hb,ih'⟩
  ·exact ih'
def vP(ops:Array Oper)(n:Nat):Bool:=
  (xy n).all λi=>(xy n).all λj=>
    match ops[i]?,ops[j]? with
    | some oi,some oj=>
      (match oj.dst with
       | some t=>(i==j||oi.dst !=some t)&&(!(oi.looksAt ops).contains t||(dZ ops i).testBit j||i==j||(decide (i<j)&&(dZ ops j).testBit i))
       | none=>true) &&
      (!(dZ ops i).testBit j||(decide (j<i)&&oi.after.any λe=>ln .any e&&(e.on==j||(dZ ops e.on).testBit j)))
    | _,_=>false
def xk(ops:Array Oper)(n:Nat):Bool:=
 (xy n).all λi=>match ops[i]? with|some o=>o.after.all λe => !ln .any e||decide (e.on<i)|none=>false
def nf(ops:Array Oper)(n:Nat):Bool:=
 nk ops&&decide (n≤ops.size)&&vP ops n&&xk ops n&&(n==ops.size||(nj .any ops n&&pN .any ops n)) &&
 Region.seqB .any ops (ops.size-n) n (bH n true++bH (ops.size-n) false)
def BX(ops:Array Oper)(n:Nat):Bool:=(xy ops.size).all λt=>decide (t≤n)||Region.waitsFor .any ops t n
def vZ(ops:Array Oper)(n:Nat):Bool:=
 nk ops&&decide (n≤ops.size)&&vP ops n&&xk ops n&&(n==ops.size||(nj .any ops n&&BX ops n))
structure lH(ops:Array Oper)(n:Nat):Prop where
 sel:nk ops=true
 le:n≤ops.size
 dst:∀i j oi oj t,i<n->j<n->ops[i]?=some oi->ops[j]?=some oj->oj.dst=some t->i≠j->oi.dst≠some t
 look:∀i j oi oj t,i<n->j<n->ops[i]?=some oi->ops[j]?=some oj->oj.dst=some t->t∈oi.looksAt ops->(dZ ops i).testBit j=true∨i=j∨(i<j/\(dZ ops j).testBit i=true)
 anc:∀i j oi,i<n->j<n->ops[i]?=some oi->(dZ ops i).testBit j=true->j<i/\∃e∈oi.after,ln .any e=true/\(e.on=j∨(dZ ops e.on).testBit j=true)
 edge:∀i oi,i<n->ops[i]?=some oi->∀e∈oi.after,ln .any e=true->e.on<i
 tail:n=ops.size∨(nj .any ops n=true/\(pN .any ops n=true∨BX ops n=true))
theorem C4{ops:Array Oper}{n:Nat}(h:nf ops n=true):Region.seqB .any ops (ops.size-n) n (bH n true++bH (ops.size-n) false)=true:=by
 simp only[nf,aT]at h;exact h.2
theorem rK{ops:Array Oper}{n:Nat}(h1:nk ops=true)(h2:n≤ops.size)(h3:vP ops n=true)(h4:xk ops n=true)(h5:n=ops.size∨(nj .any ops n=true/\(pN .any ops n=true∨BX ops n=true))):lH ops n:=by
  have s:∀i j oi oj,i<n->j<n->ops[i]?=some oi->ops[j]?=some oj ->
      ((match oj.dst with
       | some t=>(i==j||oi.dst !=some t)&&(!(oi.looksAt ops).contains t||(dZ ops i).testBit j||i==j||(decide (i<j)&&(dZ ops j).testBit i))
       | none=>true) &&
      (!(dZ ops i).testBit j||(decide (j<i)&&oi.after.any λe=>ln .any e&&(e.on==j||(dZ ops e.on).testBit j))))=true:=by
    intro i j oi oj hi hj ei ej;have:=ft.1 (ft.1 h3 i (lh.2 hi)) j (lh.2 hj);simp only[ei,ej]at this;exact this
  refine⟨h1,h2,?_,?_,?_,?_,h5⟩
  · intro i j oi oj t hi hj ei ej hd hne;have:=s i j oi oj hi hj ei ej;simp only[hd,aT,fu,beq_iff_eq,bne_iff_ne]at this;rcases this.1.1 with h|h
    · exact absurd h hne
    · exact h
  · intro i j oi oj t hi hj ei ej hd ht;have:=s i j oi oj hi hj ei ej;simp only[hd,aT,fu,beq_iff_eq,jd,decide_eq_true_eq]at this;rcases this.1.2 with((h|h)|h)|h
    · rw[List.contains_eq_mem,decide_eq_false_iff_not]at h;exact absurd ht h
    · exact .inl h
    · exact .inr (.inl h)
    · exact .inr (.inr h)
  · intro i j oi hi hj ei hb;have hjs:j<ops.size:=aK hj h2;have:=s i j oi ops[j] hi hj ei (by simp[hjs]);simp only[aT,fu,jd,decide_eq_true_eq]at this;rcases this.2 with h|⟨h,g⟩
    · rw[hb]at h;cases h
    · obtain⟨e,he,hq⟩:=Array.any_eq_true'.1 g;simp only[aT,fu,beq_iff_eq]at hq;exact⟨h,e,he,hq.1,hq.2⟩
  · intro i oi hi ei e he hb;have:=ft.1 h4 i (lh.2 hi);simp only[ei]at this;have:=Array.all_eq_true_iff_forall_mem.1 this e he;simp only[fu,jd,decide_eq_true_eq]at this;rcases this with h|h
    · rw[hb]at h;cases h
    · exact h
theorem mM{ops:Array Oper}{n:Nat}(h:nf ops n=true):lH ops n:=by
 simp only[nf,aT,fu,beq_iff_eq,decide_eq_true_eq]at h;obtain⟨⟨⟨⟨⟨h1,h2⟩,h3⟩,h4⟩,h5⟩,h6⟩:=h;exact rK h1 h2 h3 h4 (h5.imp id λh=>⟨h.1,.inl h.2⟩)
theorem rL{ops:Array Oper}{n:Nat}(h:vZ ops n=true):lH ops n:=by
 simp only[vZ,aT,fu,beq_iff_eq,decide_eq_true_eq]at h;obtain⟨⟨⟨⟨h1,h2⟩,h3⟩,h4⟩,h5⟩:=h;exact rK h1 h2 h3 h4 (h5.imp id λh=>⟨h.1,.inr h.2⟩)
theorem xJ{ops:Array Oper}{n:Nat}{listed:Array Bool}(hs:nj .any ops n=true)(hc:pN .any ops n=true∨BX ops n=true)(hn:n<ops.size)(inv:HeadInv .any ops n listed):
  ∀ (d i:Nat),n-i=d->i<n->listed.getD i true=false->∀t,n≤t->t∉lj .any ops listed:=by
 rcases hc with hc|hc
 ·exact tail_waits hs hc hn inv
 ·intro d;induction d using uf with
  | _ d ih=>
   intro i hd hi hun t ht hr;obtain⟨_,ot,hot,hall⟩:=mem_ready.1 hr;have htlt:t<ops.size:=(ae.1 hot).1;by_cases htn:t=n
   ·subst htn;have h1:=ft.1 hs i (lh.2 hi);obtain⟨j,hj,hj2⟩:=List.any_eq_true.1 h1;simp only[aT,decide_eq_true_eq]at hj2;obtain⟨oj,hoj,e,he,hb,hon⟩:=Region.waitsFor_spec hj2.2;have hjle:j≤t:=by have:=lh.1 hj;omega
    by_cases hjt:j=t
    ·subst hjt;have:oj=ot:=iy (hoj.symm.trans hot)
     subst this;have h2:=hall e he hb;rw[hon,getD_both hun]at h2
     cases h2
    ·cases hl:listed.getD j false with
     | true=>
      have h2:=inv.closed j oj hoj hl e he hb;rw[hon,getD_both hun]at h2
      cases h2
     | false=>
      have hjs:j<listed.size:=by rw[inv.size];omega
      exact ih (t-j) av j rfl av (getD_in hjs hl) t (ai _) hr
   ·have h1:=ft.1 hc t (lh.2 htlt);simp only[fu,decide_eq_true_eq]at h1;rcases h1 with h1|h1
    ·omega
    ·obtain⟨o',ho',e,he,hb,hon⟩:=Region.waitsFor_spec h1;have:o'=ot:=iy (ho'.symm.trans hot)
     subst this;have h2:=hall e he hb;rw[hon,getD_both (inv.tail n (ai _) hn)]at h2
     cases h2
theorem uW{ops:Array Oper}{o:Oper}{a a':Act}(hs:∀cs b,o.op ≠ .select cs b)(hz:a.tmps.size=a'.tmps.size)(h:∀t∈o.looksAt ops,a.tmps.getD t undef=a'.tmps.getD t undef):
  execOp a.eval o=execOp a'.eval o/\bV o (yielded ops a.tmps)=bV o (yielded ops a'.tmps):=by
 constructor
 ·refine execOp_congr o hs λx hx=>?_
  cases x with
  | tmp t=>exact h t (List.mem_append_left _ (List.mem_filterMap.2 ⟨.tmp t,by simpa using hx,rfl⟩))
  | _=>rfl
 ·unfold bV
  cases hg:o.guard with
  | none=>rfl
  | some gw=>
   obtain⟨g,want⟩:=gw
   have hy:yielded ops a.tmps g=yielded ops a'.tmps g:=by
    unfold yielded
    cases ht:(ops[g]?).bind (·.dst)with
    | none=>rfl
    | some t=>
     have hm:t∈o.looksAt ops:=by
      unfold Oper.looksAt;rw[hg];exact List.mem_append_right _ (by simp[ht])
     have e:=h t hm;rcases jY t a.tmps.size with hlt|hge
     ·have e1:a.tmps[t]?=a'.tmps[t]?:=by
       simp only[Eb]at e;have hlt':t<a'.tmps.size:=aK hlt (Nat.le_of_eq hz);rw[cM hlt,cM hlt']at e;rw[cM hlt,cM hlt'];simpa using e
      simp only[Option.bind_some,e1]
     ·have e1:a.tmps[t]?=none:=eu hge;have e2:a'.tmps[t]?=none:=eu (bI (Nat.le_of_eq hz.symm) hge);simp only[Option.bind_some,e1,e2]
   dsimp only;rw[hy]
section
variable {ops : Array Oper} {n : Nat} {a0 : Act}
def frame(ops:Array Oper)(a0:Act)(vals:Nat->Value)(i:Nat):Act:=iB vals (ops.toList.take i) 0 a0
theorem ij(vals:Nat->Value)(i:Nat):(frame ops a0 vals i).tmps.size=a0.tmps.size:=rG _ _ _ _
theorem qq(hR:lH ops n)(vals:Nat->Value){i k:Nat}{ok:Oper}{t:Tmp}(hi:i≤n)(hk:k<i)(ek:ops[k]?=some ok)(hd:ok.dst=some t)(ht:t<a0.tmps.size):
  (frame ops a0 vals i).tmps.getD t undef=vals k:=by
 have:=nI vals t (ops.toList.take i) 0 a0 k ok (by rw[di,if_pos hk];simpa using ek) hd (λk' o' h' hne=>by
  rw[di]at h';split at h'
  ·rename_i hlt;exact hR.dst k' k o' ok t av av (by simpa using h') ek hd hne
  ·cases h') ht
 simpa[frame]using this
theorem mu(vals:Nat->Value){i:Nat}{t:Tmp}(h:∀k ok,k<i->ops[k]?=some ok->ok.dst≠some t):(frame ops a0 vals i).tmps.getD t undef=a0.tmps.getD t undef:=
 jI vals t _ _ _ λo ho=>by
  obtain⟨k,hk⟩:=iZ.1 ho;rw[di]at hk;split at hk
  ·rename_i hlt;exact h k o hlt (by simpa using hk)
  ·cases hk
theorem oB(a:Act)(t:Tmp)(h:a.tmps.size≤t):a.tmps.getD t undef=undef:=by simp[eu h]
theorem pE(hR:lH ops n){listed:Array Bool}(inv:HeadInv .any ops n listed):∀ (j:Nat),j<n->(∀oj,ops[j]?=some oj->∀e∈oj.after,ln .any e=true->listed.getD e.on false=true)->
  ∀k,k<n->(dZ ops j).testBit k=true->listed.getD k false=true:=by
 intro j;induction j using uf with
 | _ j ih=>
  intro hj hall k hk hb;have hjs:j<ops.size:=aK hj hR.le;have ej:ops[j]?=some ops[j]:=by simp[hjs]
  obtain⟨_,e,he,hbd,h⟩:=hR.anc j k _ hj hk ej hb;have hl:=hall _ ej e he hbd;rcases h with rfl|h
  ·exact hl
  ·have hlt:=hR.edge j _ hj ej e he hbd;exact ih e.on hlt av (λoj eo e' he' hb'=>inv.closed e.on oj eo hl e' he' hb') k hk h
theorem Bm(hR:lH ops n){vals vals':Nat->Value}{i:Nat}{oi:Oper}(hi:i<n)(ei:ops[i]?=some oi)(h:∀k,k<n->(dZ ops i).testBit k=true->vals k=vals' k):
  ∀t∈oi.looksAt ops,(frame ops a0 vals i).tmps.getD t undef=(frame ops a0 vals' i).tmps.getD t undef:=by
 intro t ht;by_cases hex:∃k ok,k<i/\ops[k]?=some ok/\ok.dst=some t
 ·obtain⟨k,ok,hk,ek,hd⟩:=hex;rcases jY t a0.tmps.size with hlt|hge
  ·rw[qq hR vals av hk ek hd hlt,qq hR vals' av hk ek hd hlt];rcases hR.look i k oi ok t hi av ei ek hd ht with h1|h1|h1
   ·exact h k av h1
   ·omega
   ·omega
  ·rw[oB _ _ (by rw[ij];exact hge),oB _ _ (by rw[ij];exact hge)]
 ·have h0:∀k ok,k<i->ops[k]?=some ok->ok.dst≠some t:=λk ok hk ek hd=>hex ⟨k,ok,hk,ek,hd⟩;rw[mu vals h0,mu vals' h0]
end
abbrev Fct:=Value->World->Prop
abbrev Ps:=List (Nat×(List Value->Fct))
def fi(Ψ:Ps)(i:Nat):Option (List Value->Fct):=
 match Ψ with
 | []=>none
 | x::r=>if x.1=i then some x.2 else fi r i
def lk(ops:Array Oper)(o:Oper)(a:Act):List Value:=(o.looksAt ops).map λt=>a.tmps.getD t undef
theorem Io{ops:Array Oper}{o:Oper}{a b:Act}(h:∀t∈o.looksAt ops,a.tmps.getD t undef=b.tmps.getD t undef):lk ops o a=lk ops o b:=List.map_congr_left h
def jW(w w':World)(old:Option Nat)(u:Value):Prop:=∀b,u.ownBlock=some b->(old=some b∨w.heap.size≤b)/\b<w'.heap.size
abbrev Made:=List (Nat×Value)
def apart(G:Made):Prop:=∀x∈G,∀y∈G,x.1≠y.1->∀b,x.2.ownBlock=some b->y.2.ownBlock≠some b
structure Law where
 B:Prop
 P:Program
 ops:Array Oper
 w0:World
 O:Nat->Option Nat
 Ψ:Ps
 D:World->Prop
 H:Nat->World->Prop
 Z:World->Prop
 J:Nat->World->World->Prop
 X:Nat->List PanicEntry->World->Prop
 Q:Act->World->Prop
def lE(J:World->World->Prop)(P:Program)(w:World)(v:Value):Result Next->Prop
 | .ok (.value u) w'=>w'=w/\u=v
 | .ok .skip w'=>w'=w/\undef=v
 | .ok (.enter f args) w'=>w'=w/\P.inits.idxOf? f=none/\Calls P f args w λe w2=>e = .returned v/\J w w2
 | _=>False
def ib(B:Prop)(J:World->World->Prop)(X:List PanicEntry->World->Prop)(P:Program)(w:World)(old:Option Nat)(φ:Fct):Result Next->Prop
 | .ok (.value u) w'=>J w w'/\φ u w'/\(B->jW w w' old u)
 | .ok .skip w'=>J w w'/\φ undef w'/\(B->jW w w' old undef)
 | .ok (.enter f args) w'=>w'=w/\Calls P f args w λe w2=>(∃v,e = .returned v/\J w w2/\φ v w2/\(B->jW w w2 old v))∨∃ch,e = .panicked ch/\X ch w2
 | _=>False
def Law.zw(Y:Law)(i:Nat)(o:Oper)(a:Act)(w:World)(v:Value):Prop:=lE (Y.J i) Y.P w v ((execOp a.eval o).run Y.P w)
def Law.wM(Y:Law)(i:Nat)(o:Oper)(a:Act)(w:World)(φ:Fct):Prop:=ib Y.B (Y.J i) (Y.X i) Y.P w (Y.O i) φ ((execOp a.eval o).run Y.P w)
def Law.want(Y:Law)(o:Oper)(a:Act):Bool:=bV o (yielded Y.ops a.tmps)
def Law.rel(Y:Law):List Oper->Nat->Act->fc->Made->Prop
 | [],_,a,F,G=>∀w,Y.Z w->fP F w->(Y.B->apart G)->Y.Q a w
 | o::r,i,a,F,G=>
  if Y.want o a=true then
   match fi Y.Ψ i with
   | none=>∃v,(∀w,Y.D w->cd (dZ Y.ops i) F w->Y.zw i o a w v)/\Y.rel r (i+1) (a.put o.dst v) F G
   | some φ=>(∀w,Y.H i w->cd (dZ Y.ops i) F w->Y.wM i o a w (φ (lk Y.ops o a)))/\∀v,Y.rel r (i+1) (a.put o.dst v) ((i,φ (lk Y.ops o a) v)::F) ((i,v)::G)
  else Y.rel r (i+1) (a.put o.dst undef) F G
def Law.yx(Y:Law)(m vals:Nat->Value)(o:Oper)(i:Nat)(a:Act)(F:fc):Prop:=
  (Y.want o a=false/\vals i=undef)∨(Y.want o a=true/\fi Y.Ψ i=none/\∀w,Y.D w->cd (dZ Y.ops i) F w->Y.zw i o a w (vals i))∨
  (Y.want o a=true/\vals i=m i/\∃ φ,fi Y.Ψ i=some φ/\∀w,Y.H i w->cd (dZ Y.ops i) F w->Y.wM i o a w (φ (lk Y.ops o a)))
def Law.sZ(Y:Law)(o:Oper)(i:Nat)(a:Act)(v:Value)(F:fc):fc:=
 if Y.want o a=true then(match fi Y.Ψ i with|none=>F|some φ=>(i,φ (lk Y.ops o a) v)::F)else F
def Law.sY(Y:Law)(o:Oper)(i:Nat)(a:Act)(v:Value)(G:Made):Made:=
 if Y.want o a=true then(match fi Y.Ψ i with|none=>G|some _=>(i,v)::G)else G
def Law.good(Y:Law)(m vals:Nat->Value):List Oper->Nat->Act->fc->Made->Prop
 | [],_,a,F,G=>∀w,Y.Z w->fP F w->(Y.B->apart G)->Y.Q a w
 | o::r,i,a,F,G=>Y.yx m vals o i a F/\Y.good m vals r (i+1) (a.put o.dst (vals i)) (Y.sZ o i a (vals i) F) (Y.sY o i a (vals i) G)
def Law.facts(Y:Law)(vals:Nat->Value):List Oper->Nat->Act->fc->fc
 | [],_,_,F=>F
 | o::r,i,a,F=>Y.facts vals r (i+1) (a.put o.dst (vals i)) (Y.sZ o i a (vals i) F)
def Law.made(Y:Law)(vals:Nat->Value):List Oper->Nat->Act->Made->Made
 | [],_,_,G=>G
 | o::r,i,a,G=>Y.made vals r (i+1) (a.put o.dst (vals i)) (Y.sY o i a (vals i) G)
section
variable {Y : Law} {m vals : Nat → Value}
theorem tL{vals':Nat->Value}:∀ (l:List Oper) (i:Nat) (a:Act) (F:fc) (G:Made),(∀j,i≤j->vals j=vals' j)->Y.good m vals l i a F G->Y.good m vals' l i a F G
 | [],_,_,_,_,_,h=>h
 | o::r,i,a,F,G,he,h=>by
  obtain⟨h1,h2⟩:=h;refine⟨?_,?_⟩
  ·unfold Law.yx at *
   rw[← he i (ai _)];exact h1
  ·rw[← he i (ai _)];exact tL r _ _ _ _ (λj hj=>he j av) h2
theorem ke(m:Nat->Value):∀ (l:List Oper) (i:Nat) (a:Act) (F:fc) (G:Made),Y.rel l i a F G->∃vals,Y.good m vals l i a F G
 | [],_,_,_,_,h=>⟨λ_=>undef,h⟩
 | o::r,i,a,F,G,h=>by
  have put:∀ (u:Value),(∃vals,Y.good m vals r (i+1) (a.put o.dst u) (Y.sZ o i a u F) (Y.sY o i a u G))->(∀vals,vals i=u->Y.yx m vals o i a F)->∃vals,Y.good m vals (o::r) i a F G:=by
   rintro u ⟨vals,hv⟩ ho;have e:(λj=>if j=i then u else vals j) i=u:=eQ;refine⟨λj=>if j=i then u else vals j,ho _ e,?_⟩;rw[e];exact tL r _ _ _ _ (λj hj=>by simp[show j≠i by omega]) hv
  unfold Law.rel at h
  cases hw:Y.want o a with
  | false=>
   rw[if_neg (by simp[hw])]at h;exact put undef (by simpa[Law.sZ,Law.sY,hw]using ke m r _ _ _ _ h) λ_ hv => .inl ⟨hw,hv⟩
  | true=>
   rw[if_pos hw]at h
   cases ht:fi Y.Ψ i with
   | none=>
    simp only[ht]at h;obtain⟨v,h1,h2⟩:=h;exact put v (by simpa[Law.sZ,Law.sY,hw,ht]using ke m r _ _ _ _ h2) λ_ hv => .inr (.inl ⟨hw,ht,by rw[hv];exact h1⟩)
   | some φ=>
    simp only[ht]at h;exact put (m i) (by simpa[Law.sZ,Law.sY,hw,ht]using ke m r _ _ _ _ (h.2 (m i))) λ_ hv => .inr (.inr ⟨hw,hv,φ,ht,h.1⟩)
theorem Cr:∀ (l:List Oper) (i:Nat) (a:Act) (F:fc) (G:Made),Y.good m vals l i a F G->∀k o,l[k]?=some o ->
  Y.yx m vals o (i+k) (iB vals (l.take k) i a) (Y.facts vals (l.take k) i a F)
 | [],_,_,_,_,_,k,o,h=>by simp at h
 | o::r,i,a,F,G,hg,0,o',h=>by
  simp only[List.getElem?_cons_zero,fq]at h;subst h;exact hg.1
 | o::r,i,a,F,G,hg,k+1,o',h=>by
  have:=Cr r (i+1) _ _ _ hg.2 k o' (by simpa using h);rw[show i+1+k=i+(k+1) by omega]at this;exact this
theorem zh:∀ (l:List Oper) (i:Nat) (a:Act) (F:fc) (G:Made),Y.good m vals l i a F G->∀w,Y.Z w->fP (Y.facts vals l i a F) w->(Y.B->apart (Y.made vals l i a G))->Y.Q (iB vals l i a) w
 | [],_,_,_,_,hg=>hg
 | o::r,i,a,F,G,hg=>zh r (i+1) _ _ _ hg.2
theorem vm:∀ (l:List Oper) (i:Nat) (a:Act) (F:fc) (x:Nat×(World->Prop)),x∈Y.facts vals l i a F ->
  x∈F∨∃k o φ,l[k]?=some o/\fi Y.Ψ (i+k)=some φ/\Y.want o (iB vals (l.take k) i a)=true/\x=(i+k,φ (lk Y.ops o (iB vals (l.take k) i a)) (vals (i+k)))
 | [],_,_,_,x,h => .inl h
 | o::r,i,a,F,x,h=>by
  rcases vm r (i+1) _ _ x h with h|⟨k,o',φ,h1,h2,h3,h4⟩
  ·unfold Law.sZ at h;split at h
   ·rename_i hw
    cases ht:fi Y.Ψ i with
    | none=>simp only[ht]at h;exact .inl h
    | some φ=>
     simp only[ht,aJ]at h;rcases h with rfl|h
     ·exact .inr ⟨0,o,φ,rfl,ht,hw,rfl⟩
     ·exact .inl h
   ·exact .inl h
  ·rw[show i+1+k=i+(k+1) by omega]at h2 h4;exact .inr ⟨k+1,o',φ,by simpa using h1,h2,h3,h4⟩
theorem yM:∀ (l:List Oper) (i:Nat) (a:Act) (G:Made) (x:Nat×Value),x∈Y.made vals l i a G ->
  x∈G∨∃k o φ,l[k]?=some o/\fi Y.Ψ (i+k)=some φ/\Y.want o (iB vals (l.take k) i a)=true/\x=(i+k,vals (i+k))
 | [],_,_,_,x,h => .inl h
 | o::r,i,a,G,x,h=>by
  rcases yM r (i+1) _ _ x h with h|⟨k,o',φ,h1,h2,h3,h4⟩
  ·unfold Law.sY at h;split at h
   ·rename_i hw
    cases ht:fi Y.Ψ i with
    | none=>simp only[ht]at h;exact .inl h
    | some φ=>
     simp only[ht,aJ]at h;rcases h with rfl|h
     ·exact .inr ⟨0,o,φ,rfl,ht,hw,rfl⟩
     ·exact .inl h
   ·exact .inl h
  ·rw[show i+1+k=i+(k+1) by omega]at h2 h4;exact .inr ⟨k+1,o',φ,by simpa using h1,h2,h3,h4⟩
end
structure Law.On(Y:Law)(n:Nat)(a0:Act)(listed:Array Bool)(vals:Nat->Value)(j:Nat)(oj:Oper)(φ:List Value->Fct):Prop where
 lt:j<n
 on:listed.getD j false=true
 op:Y.ops[j]?=some oj
 psi:fi Y.Ψ j=some φ
 want:Y.want oj (frame Y.ops a0 vals j)=true
structure Law.Ok(Y:Law)(n:Nat)(I:(Nat->Bool)->World->Prop):Prop where
 zero:I (λ_=>false) Y.w0
 step:∀L i w w',i<n->I L w->L i=false->(∀k,k<n->(dZ Y.ops i).testBit k=true->L k=true)->Y.J i w w'->I (λk=>if k=i then true else L k) w'
 det:∀L w,I L w->Y.D w
 ahead:∀L i w,i<n->I L w->L i=false->(∀k,k<n->(dZ Y.ops i).testBit k=true->L k=true)->Y.H i w
 fin:∀L w,I L w->(∀k,k<n->L k=true)->Y.Z w
 idle:∀i,i<n->(∀w,Y.J i w w)∨(fi Y.Ψ i≠none/\∀o,Y.ops[i]?=some o->o.guard=none)
 size:∀i w w',Y.J i w w'->w.heap.size≤w'.heap.size
 base:∀L w,I L w->Y.w0.heap.size≤w.heap.size
 fact:∀i j φ,i≠j->fi Y.Ψ j=some φ->∀ls v w w',Y.J i w w'->φ ls v w->φ ls v w'
 old:∀i b,Y.O i=some b->b<Y.w0.heap.size
 one:∀i j b,i≠j->Y.O i=some b->Y.O j≠some b
structure Law.St(Y:Law)(n:Nat)(I:(Nat->Bool)->World->Prop)(a0:Act)(listed:Array Bool)(a:Act)(w:World)(m vals:Nat->Value):Prop where
 inv:HeadInv .any Y.ops n listed
 good:Y.good m vals (Y.ops.toList.take n) 0 a0 [] []
 wld:I (λk=>listed.getD k false) w
 size:a.tmps.size=a0.tmps.size
 defers:a.defers=a0.defers
 lies:∀j oj t,j<n->listed.getD j false=true->Y.ops[j]?=some oj->oj.dst=some t->t<a0.tmps.size->a.tmps.getD t undef=vals j
 off:∀t,(∀j oj,j<n->listed.getD j false=true->Y.ops[j]?=some oj->oj.dst≠some t)->a.tmps.getD t undef=a0.tmps.getD t undef
 fact:∀j oj φ,Y.On n a0 listed vals j oj φ->φ (lk Y.ops oj (frame Y.ops a0 vals j)) (vals j) w
 blk:Y.B->∀j oj φ,Y.On n a0 listed vals j oj φ->∀b,(vals j).ownBlock=some b->(Y.O j=some b∨Y.w0.heap.size≤b)/\b<w.heap.size
 pair:Y.B->∀j oj φ k ok φ',Y.On n a0 listed vals j oj φ->Y.On n a0 listed vals k ok φ'->j≠k->∀b,(vals j).ownBlock=some b->(vals k).ownBlock≠some b
section
variable {Y : Law} {n : Nat} {I : (Nat → Bool) → World → Prop} {a0 : Act} {listed : Array Bool} {a : Act} {w : World} {m vals : Nat → Value}
theorem qg(hR:lH Y.ops n)(hg:Y.good m vals (Y.ops.toList.take n) 0 a0 [] []){j:Nat}{oj:Oper}(hj:j<n)(ej:Y.ops[j]?=some oj):
  Y.yx m vals oj j (frame Y.ops a0 vals j) (Y.facts vals (Y.ops.toList.take j) 0 a0 []):=by
 have:=Cr _ _ _ _ _ hg j oj (by rw[di,if_pos hj];simpa using ej);rw[nd,mC av]at this;simpa[frame]using this
theorem tN{j:Nat}{x:Nat×(World->Prop)}(hx:x∈Y.facts vals (Y.ops.toList.take j) 0 a0 []):
  ∃k o φ,k<j/\Y.ops[k]?=some o/\fi Y.Ψ k=some φ/\Y.want o (frame Y.ops a0 vals k)=true/\x=(k,φ (lk Y.ops o (frame Y.ops a0 vals k)) (vals k)):=by
 rcases vm _ _ _ _ x hx with h|⟨k,o,φ,h1,h2,h3,h4⟩
 ·cases h
 ·rw[di]at h1;split at h1
  ·rename_i hlt;rw[nd,mC av]at h3 h4;rw[eF]at h2 h4;exact⟨k,o,φ,hlt,by simpa using h1,h2,h3,h4⟩
  ·cases h1
theorem C5(hR:lH Y.ops n)(st:Y.St n I a0 listed a w m vals){i:Nat}{oi:Oper}(hi:i<n)(ei:Y.ops[i]?=some oi)
  (hun:listed.getD i false=false) (hanc:∀k,k<n->(dZ Y.ops i).testBit k=true->listed.getD k false=true) :
  ∀t∈oi.looksAt Y.ops,a.tmps.getD t undef=(frame Y.ops a0 vals i).tmps.getD t undef:=by
 intro t ht;by_cases hex:∃k ok,k<n/\Y.ops[k]?=some ok/\ok.dst=some t
 ·obtain⟨k,ok,hk,ek,hd⟩:=hex;have hot:∀j oj,j<n->Y.ops[j]?=some oj->j≠k->oj.dst≠some t:=λj oj hj ej hne=>hR.dst j k oj ok t hj hk ej ek hd hne
  have none:k=i∨listed.getD k false=false->i≤k->a.tmps.getD t undef=(frame Y.ops a0 vals i).tmps.getD t undef:=λhz hik=>by
   rw[st.off t (λj oj hj hl ej=>by
    by_cases hjk:j=k
    ·subst hjk;have:listed.getD j false=false:=by rcases hz with h|h;rw[h,hun];exact h
     rw[this]at hl;cases hl
    ·exact hot j oj hj ej hjk),mu vals (λj oj hj ej=>hot j oj av ej av)]
  rcases jY t a0.tmps.size with hlt|hge
  ·rcases hR.look i k oi ok t hi hk ei ek hd ht with h1|h1|⟨h1,h2⟩
   ·rw[st.lies k ok t hk (hanc k hk h1) ek hd hlt,qq hR vals av (hR.anc i k oi hi hk ei h1).1 ek hd hlt]
   ·exact none (.inl h1.symm) av
   ·refine none (.inr ?_) av
    cases hl:listed.getD k false with
    | false=>rfl
    | true=>
     have:=pE hR st.inv k hk (λoj ej e he hb=>st.inv.closed k oj ej hl e he hb) i hi h2;rw[hun]at this;cases this
  ·rw[oB _ _ (by rw[st.size];exact hge),oB _ _ (by rw[ij];exact hge)]
 ·rw[st.off t (λj oj hj _ ej hd=>hex ⟨j,oj,hj,ej,hd⟩),mu vals (λj oj hj ej hd=>hex ⟨j,oj,by omega,ej,hd⟩)]
theorem zF{P:Program}{f:FuncId}{args:Array Value}{w:World}{v v':Value}{R R':World->Prop}(h:Calls P f args w λe w2=>e = .returned v/\R w2)
  (h':Calls P f args w λe w2=>e = .returned v'/\R' w2) (hi:P.inits.idxOf? f=none):v=v':=by
 have g:Calls P f args w fun | .returned u,_=>u=v|_,_=>False:=h.mono λe _ ⟨he,_⟩=>by subst he;rfl
 have g':Calls P f args w fun | .returned u,_=>u=v'|_,_=>False:=h'.mono λe _ ⟨he,_⟩=>by subst he;rfl
 obtain⟨n,u,w1,e1,r1⟩:=g.done (R:=λu _=>u=v) hi;obtain⟨m,u',w2,e2,r2⟩:=g'.done (R:=λu _=>u=v') hi;have a:=runN_ended e1 m;have b:=runN_ended e2 n;rw[sy,a]at b;injection b with ho hw
 injection ho with hv
 rw[← r1,← r2,hv]
theorem zv{J:World->World->Prop}{P:Program}{w:World}{v v':Value}{r:Result Next}(h:lE J P w v r)(h':lE J P w v' r):v=v':=by
 cases r with
 | ok x w'=>
  cases x<;>simp only[lE]at h h'
  case value u=>rw[← h.2,← h'.2]
  case skip=>rw[← h.2,← h'.2]
  case enter f args=>exact zF h.2.2 h'.2.2 h.2.1
 | halt x w'=>simp only[lE]at h
theorem Law.St.anc(hR:lH Y.ops n)(st:Y.St n I a0 listed a w m vals){j:Nat}(hj:j<n)(hl:listed.getD j false=true):∀k,k<n->(dZ Y.ops j).testBit k=true->listed.getD k false=true:=
 pE hR st.inv j hj (λoj ej e he hb=>st.inv.closed j oj ej hl e he hb)
theorem nU(hR:lH Y.ops n){vals':Nat->Value}{j:Nat}{oj:Oper}(hj:j<n)(ej:Y.ops[j]?=some oj)(hv:∀k,k<n->(dZ Y.ops j).testBit k=true->vals k=vals' k):
  ((execOp (frame Y.ops a0 vals j).eval oj)=(execOp (frame Y.ops a0 vals' j).eval oj))/\Y.want oj (frame Y.ops a0 vals j)=Y.want oj (frame Y.ops a0 vals' j)/\lk Y.ops oj (frame Y.ops a0 vals j)=lk Y.ops oj (frame Y.ops a0 vals' j):=
 have h:=Bm (a0:=a0) hR hj ej hv;have g:=uW (Region.noSelect_spec hR.sel j _ · · ej) (by rw[ij,ij]) h;⟨g.1,g.2,Io h⟩
theorem zk(st:Y.St n I a0 listed a w m vals){j:Nat}(hj:j≤n)(hanc:∀k,k<n->(dZ Y.ops j).testBit k=true->listed.getD k false=true):cd (dZ Y.ops j) (Y.facts vals (Y.ops.toList.take j) 0 a0 []) w:=sa λx hx hb=>by
 obtain⟨k,o,φ,hk,ek,ht,hwk,rfl⟩:=tN hx;exact st.fact k o φ ⟨by omega,hanc k av hb,ek,ht,hwk⟩
theorem agree(hI:Y.Ok n I)(hR:lH Y.ops n){m' vals':Nat->Value}(st:Y.St n I a0 listed a w m vals)
  (hg':Y.good m' vals' (Y.ops.toList.take n) 0 a0 [] []) (hm:∀j,listed.getD j false=true->m j=m' j):∀ (j:Nat),j<n->listed.getD j false=true->vals j=vals' j:=by
 intro j;induction j using uf with
 | _ j ih=>
  intro hj hl;have ej:Y.ops[j]?=some (Y.ops[j]'(aK hj hR.le)):=cM _;have hanc:=st.anc hR hj hl;have hv:∀k,k<n->(dZ Y.ops j).testBit k=true->vals k=vals' k:=λk hk hb=>ih k (hR.anc j k _ hj hk ej hb).1 hk (hanc k hk hb);obtain⟨he,hw,-⟩:=nU (a0:=a0) hR hj ej hv;have o1:=qg hR st.good hj ej;have o2:=qg hR hg' hj ej
  have f2:cd (dZ Y.ops j) (Y.facts vals' (Y.ops.toList.take j) 0 a0 []) w:=sa λx hx hb=>by
   obtain⟨k,o,φ,hk,ek,ht,hwk,rfl⟩:=tN hx;have hkn:k<n:=av;have hlk:=hanc k hkn hb
   obtain⟨-,g2,g3⟩:=nU (a0:=a0) (vals:=vals) (vals':=vals') hR hkn ek λq hq hbq=>by
    have hqk:=(hR.anc k q o hkn hq ek hbq).1;exact ih q av hq (st.anc hR hkn hlk q hq hbq)
   have:=st.fact k o φ ⟨hkn,hlk,ek,ht,by rw[g2];exact hwk⟩;rwa [g3,ih k hk hkn hlk]at this
  rcases o1 with⟨h1,h2⟩|⟨h1,h2,h3⟩|⟨h1,h2,φ,h3,h4⟩<;>rcases o2 with⟨g1,g2⟩|⟨g1,g2,g3⟩|⟨g1,g2,φ',g3,g4⟩<;>try(rw[hw,g1]at h1;cases h1)
  ·rw[h2,g2]
  ·have d1:=h3 w (hI.det _ _ st.wld) (zk st av hanc);have d2:=g3 w (hI.det _ _ st.wld) f2;unfold Law.zw at d1 d2;rw[he]at d1;exact zv d1 d2
  ·rw[h2]at g3;cases g3
  ·rw[g2]at h3;cases h3
  ·rw[h2,g2];exact hm j hl
theorem BY(hI:Y.Ok n I)(hR:lH Y.ops n){w':World}{m' vals':Nat->Value}(st:Y.St n I a0 listed a w m vals)
  (hg':Y.good m' vals' (Y.ops.toList.take n) 0 a0 [] []) (hm:∀j,listed.getD j false=true->m j=m' j) {i:Nat} {oi:Oper} (hx:Y.J i w w') (hi:i<n) (ei:Y.ops[i]?=some oi) (hr:i∈lj .any Y.ops listed)
  (hun:listed.getD i false=false) (hanc:∀k,k<n->(dZ Y.ops i).testBit k=true->listed.getD k false=true)
  (hf:∀ φ,fi Y.Ψ i=some φ->Y.want oi (frame Y.ops a0 vals' i)=true->φ (lk Y.ops oi (frame Y.ops a0 vals' i)) (vals' i) w'/\(Y.B->jW w w' (Y.O i) (vals' i))) :
  Y.St n I a0 (listed.setIfInBounds i true) (a.put oi.dst (vals' i)) w' m' vals':=by
 have hag:=agree hI hR st hg' hm;have hz:i<listed.size:=by rw[st.inv.size];exact(ae.1 ei).1
 have old:∀j,j≠i->(listed.setIfInBounds i true).getD j false=true->listed.getD j false=true:=λj hne h=>by
  rwa [zS false (mb hne)]at h
 have elder:∀j oj φ,Y.On n a0 (listed.setIfInBounds i true) vals' j oj φ->j≠i->Y.On n a0 listed vals j oj φ/\vals j=vals' j/\lk Y.ops oj (frame Y.ops a0 vals j)=lk Y.ops oj (frame Y.ops a0 vals' j):=λj oj φ h hji=>by
  have hlj:=old j hji h.on;obtain⟨-,g2,g3⟩:=nU (a0:=a0) (vals:=vals) (vals':=vals') hR h.lt h.op λk hk hb=>hag k hk (st.anc hR h.lt hlj k hk hb);exact⟨⟨h.lt,hlj,h.op,h.psi,by rw[g2];exact h.want⟩,hag j h.lt hlj,g3⟩
 have own:∀oj φ,Y.On n a0 (listed.setIfInBounds i true) vals' i oj φ->φ (lk Y.ops oj (frame Y.ops a0 vals' i)) (vals' i) w'/\(Y.B->jW w w' (Y.O i) (vals' i)):=λoj φ h=>by
  have e:=h.op;rw[ei]at e;cases e;exact hf φ h.psi h.want
 have clash:Y.B->∀oi' φ' k ok φ,Y.On n a0 (listed.setIfInBounds i true) vals' i oi' φ'->Y.On n a0 (listed.setIfInBounds i true) vals' k ok φ->k≠i->∀b,(vals' i).ownBlock=some b->(vals' k).ownBlock≠some b:=λhB oi' φ' k ok φ hi' hk' hki b hb hb'=>by
  obtain⟨ho,hvk,-⟩:=elder k ok φ hk' hki;obtain⟨h1,h2⟩:=st.blk hB k ok φ ho b (by rw[hvk];exact hb');rcases(((own _ _ hi').2 hB) b hb).1 with h3|h3
  ·rcases h1 with h1|h1
   ·exact hI.one i k b (mb hki) h3 h1
   ·have:=hI.old i b h3;omega
  ·omega
 refine⟨st.inv.set hr hi,hg',?_,by rw[size_put,st.size],by rw[tR,st.defers],?_,?_,?_,?_,?_⟩
 ·have e:(λk=>(listed.setIfInBounds i true).getD k false)=λk=>if k=i then true else listed.getD k false:=funext λk=>by
   by_cases hk:k=i
   ·subst hk;simp[hz]
   ·rw[zS false (mb hk),if_neg hk]
  rw[e];exact hI.step _ _ _ _ hi st.wld hun hanc hx
 ·intro j oj t hj hl ej hd ht;by_cases hji:j=i
  ·subst hji;rw[ei]at ej;cases ej;rw[hd,rY _ _ _ (by rw[st.size];exact ht)]
  ·rw[nH _ _ _ _ (λh=>hR.dst j i oj oi t hj hi ej ei h hji hd),st.lies j oj t hj (old j hji hl) ej hd ht,hag j hj (old j hji hl)]
 ·intro t h;rw[nH _ _ _ _ (h i oi hi (by simp[hz]) ei)];exact st.off t λj oj hj hl ej=>h j oj hj (getD_set_true hl) ej
 ·intro j oj φ h;by_cases hji:j=i
  ·subst hji;exact(own _ _ h).1
  ·obtain⟨ho,e1,e2⟩:=elder j oj φ h hji;rw[← e1,← e2];exact hI.fact i j φ (mb hji) h.psi _ _ _ _ hx (st.fact j oj φ ho)
 ·intro hB j oj φ h b hb;by_cases hji:j=i
  ·subst hji;obtain⟨h1,h2⟩:=(own _ _ h).2 hB b hb;exact⟨h1.imp id (bI (hI.base _ _ st.wld)),h2⟩
  ·obtain⟨ho,e1,-⟩:=elder j oj φ h hji;obtain⟨h1,h2⟩:=st.blk hB j oj φ ho b (by rw[e1];exact hb);exact⟨h1,aK h2 (hI.size _ _ _ hx)⟩
 ·intro hB j oj φ k ok φ' h h' hjk b hb;by_cases hji:j=i
  ·subst hji;exact clash hB oj φ k ok φ' h h' (mb hjk) b hb
  ·by_cases hki:k=i
   ·subst hki;exact λe=>clash hB ok φ' j oj φ h' h hjk b e hb
   ·obtain⟨ho,e1,-⟩:=elder j oj φ h hji;obtain⟨ho',e2,-⟩:=elder k ok φ' h' hki;have:=st.pair hB j oj φ k ok φ' ho ho' hjk b (by rw[e1];exact hb);rwa [e2]at this
end
def left(listed:Array Bool):Nat->Nat
 | 0=>0
 | k+1=>left listed k+(if listed.getD k true=true then 0 else 1)
theorem vn(listed:Array Bool)(i:Nat):∀k,k≤i->left (listed.setIfInBounds i true) k=left listed k
 | 0,_=>rfl
 | k+1,h=>by rw[left,left,vn listed i k av,zS true av]
theorem yP(listed:Array Bool)(i:Nat)(hz:i<listed.size)(hu:listed.getD i true=false):∀k,i<k->left (listed.setIfInBounds i true) k+1=left listed k
 | 0,h=>by omega
 | k+1,h=>by
  rw[left,left];by_cases hk:i=k
  ·subst hk;rw[vn listed i i (ai _),hu,show(listed.setIfInBounds i true).getD i true=true by simp];simp
  ·rw[← yP listed i hz hu k av,zS true hk];omega
theorem qR(listed:Array Bool):∀k,left listed k=0->∀i,i<k->listed.getD i true=true
 | 0,_,i,h=>by omega
 | k+1,h,i,hi=>by
  rw[left]at h
  have h2:listed.getD k true=true:=by
   by_cases hk:listed.getD k true=true
   ·exact hk
   ·rw[if_neg hk]at h;omega
  rw[if_pos h2]at h;by_cases hik:i=k
  ·subst hik;exact h2
  ·exact qR listed k av i av
theorem yQ(listed:Array Bool):∀k,left listed k≠0->∃i,i<k/\listed.getD i true=false/\∀j,j<i->listed.getD j true=true
 | 0,h=>absurd rfl h
 | k+1,h=>by
  by_cases h0:left listed k=0
  ·refine⟨k,by omega,?_,qR listed k h0⟩;rw[left,h0]at h;by_cases hk:listed.getD k true=true
   ·rw[if_pos hk]at h;omega
   ·simpa using hk
  ·obtain⟨i,hi,h1,h2⟩:=yQ listed k h0;exact⟨i,by omega,h1,h2⟩
section
variable {Y : Law} {n : Nat} {I : (Nat → Bool) → World → Prop} {a0 : Act}
theorem D0(hI:Y.Ok n I)(hR:lH Y.ops n)(hrel:Y.rel (Y.ops.toList.take n) 0 a0 [] []){Q':Exit->Act->World->Prop}{g:Nat}(hX:∀i ch a w,a.defers=a0.defers->Y.X i ch w->Q' (.panic ch) a w)
  (hQ:∀a w,Y.Q a w->wpAny Y.P .any Y.ops Q' g (bH n true++bH (Y.ops.size-n) false) a w) :
  ∀ (f:Nat) (listed:Array Bool) (a:Act) (w:World) (m vals:Nat->Value),Y.St n I a0 listed a w m vals->left listed n=f->wpAny Y.P .any Y.ops Q' (f+g) listed a w:=by
 intro f;induction f with
 | zero=>
  intro listed a w m vals st hl;have hall:=qR listed n hl
  have hallF:∀j,j<n->listed.getD j false=true:=λj hj=>by
   have hjz:j<listed.size:=by rw[st.inv.size];exact aK hj hR.le
   have:=hall j hj;simp[hjz]at this ⊢;exact this
  have e:listed=bH n true++bH (Y.ops.size-n) false:=by
   apply Array.ext_getElem?;intro k;have hz:=st.inv.size;have hle:=hR.le;by_cases hk:k<Y.ops.size
   ·have hkz:k<listed.size:=av;rw[cM hkz];by_cases hkn:k<n
    ·rw[Array.getElem?_append_left (by simpa using hkn)];have:=hall k hkn;simp[hkz]at this;simp[this,hkn]
    ·rw[Array.getElem?_append_right (by simp;omega)];have:=st.inv.tail k av hk;simp[hkz]at this;rw[this,Array.getElem?_replicate,Array.size_replicate,if_pos av]
   ·rw[eu av,eu (by simp;omega)]
  have ea:a=frame Y.ops a0 vals n:=by
   have e2:a.tmps=(frame Y.ops a0 vals n).tmps:=by
    apply Array.ext_getElem?;intro t;rcases jY t a0.tmps.size with hlt|hge
    ·have e3:a.tmps.getD t undef=(frame Y.ops a0 vals n).tmps.getD t undef:=by
      by_cases hex:∃k ok,k<n/\Y.ops[k]?=some ok/\ok.dst=some t
      ·obtain⟨k,ok,hk,ek,hd⟩:=hex;rw[st.lies k ok t hk (hallF k hk) ek hd hlt,qq hR vals (ai _) hk ek hd hlt]
      ·rw[st.off t (λj oj hj _ ej hd=>hex ⟨j,oj,hj,ej,hd⟩),mu vals (λj oj hj ej hd=>hex ⟨j,oj,hj,ej,hd⟩)]
     have h1:t<a.tmps.size:=by rw[st.size];exact hlt
     have h2:t<(frame Y.ops a0 vals n).tmps.size:=by rw[ij];exact hlt
     rw[cM h1,cM h2];simp only[Eb,cM h1,cM h2,Option.getD_some]at e3;rw[e3]
    ·rw[eu (by rw[st.size];exact hge),eu (by rw[ij];exact hge)]
   have e4:a.defers=(frame Y.ops a0 vals n).defers:=by rw[st.defers];exact(oW _ _ _ _).symm
   cases a;simp only at e2 e4;subst e2 e4;rfl
  rw[eF,e,ea];refine hQ _ _ (zh _ _ _ _ _ st.good w (hI.fin _ _ st.wld hallF) (zl λx hx=>?_) λhB=>?_)
  ·obtain⟨k,o,φ,hk,ek,ht,hw,rfl⟩:=tN hx;exact st.fact k o φ ⟨hk,hallF k hk,ek,ht,hw⟩
  ·have mem:∀x∈Y.made vals (Y.ops.toList.take n) 0 a0 [],∃k o φ,Y.On n a0 listed vals k o φ/\x=(k,vals k):=by
    intro x hx;rcases yM _ _ _ _ x hx with h|⟨k,o,φ,h1,h2,h3,h4⟩
    ·cases h
    ·rw[di]at h1;split at h1
     ·rename_i hlt;rw[nd,mC av]at h3;rw[eF]at h2 h4;exact⟨k,o,φ,⟨hlt,hallF k hlt,by simpa using h1,h2,h3⟩,h4⟩
     ·cases h1
   intro x hx y hy hne b hb;obtain⟨k,o,φ,ho,rfl⟩:=mem x hx;obtain⟨k',o',φ',ho',rfl⟩:=mem y hy;exact st.pair hB k o φ k' o' φ' ho ho' hne b hb
 | succ f ih=>
  intro listed a w m vals st hl;obtain⟨i0,hi0,hu0,hb0⟩:=yQ listed n av
  have hr0:i0∈lj .any Y.ops listed:=by
   have hz:i0<Y.ops.size:=aK hi0 hR.le;refine mem_ready.2 ⟨hu0,Y.ops[i0],by simp[hz],λe he hb=>?_⟩;have hlt:=hR.edge i0 _ hi0 (by simp[hz]) e he hb;have hez:e.on<listed.size:=by rw[st.inv.size];omega
   have:=hb0 e.on hlt;simp[hez]at this ⊢;exact this
  rw[show f+1+g=(f+g)+1 by omega];refine⟨λh=>(by rw[h]at hr0;cases hr0),λi hr=>?_⟩;obtain⟨hun,oi,ei,hall⟩:=mem_ready.1 hr;have hiz:i<Y.ops.size:=(ae.1 ei).1
  have hi:i<n:=by
   rcases jY i n with h|h
   ·exact h
   ·rcases hR.tail with h1|⟨h1,h2⟩
    ·omega
    ·exact absurd hr (xJ h1 h2 av st.inv _ i0 rfl hi0 hu0 i h)
  have hunF:listed.getD i false=false:=getD_both hun
  have hleft:left (listed.setIfInBounds i true) n=f:=by
   have:=yP listed i (by rw[st.inv.size];exact hiz) hun n hi;omega
  have hanc:∀k,k<n->(dZ Y.ops i).testBit k=true->listed.getD k false=true:=
   pE hR st.inv i hi (λoj ej=>by rw[ei]at ej;cases ej;exact hall)
  obtain⟨he,hw⟩:=uW (Region.noSelect_spec hR.sel i _ · · ei) (by rw[ij,st.size]) (C5 hR st hi ei hunF hanc);have fA:=zk st av hanc
  have idle:fi Y.Ψ i=none∨Y.want oi (frame Y.ops a0 vals i)=false->Y.J i w w:=λh=>by
   rcases hI.idle i hi with h1|⟨h1,h2⟩
   ·exact h1 w
   ·rcases h with h|h
    ·exact absurd h h1
    ·unfold Law.want bV at h;rw[h2 oi ei]at h;cases h
  have bg:∀ (u:Value) (w':World),Y.J i w w'->u=vals i->(fi Y.Ψ i=none∨Y.want oi (frame Y.ops a0 vals i)=false)->wpAny Y.P .any Y.ops Q' (f+g) (listed.setIfInBounds i true) (a.put oi.dst u) w':=λu w' hx hu h=>by
   subst hu
   exact ih _ _ _ m vals (BY hI hR st st.good (λ_ _=>rfl) hx hi ei hr hunF hanc fun φ h1 h2=>by
    rcases h with h|h
    ·rw[h]at h1;cases h1
    ·rw[h]at h2;cases h2) hleft
  unfold wpOp;simp only[ei];rcases qg hR st.good hi ei with⟨h1,h2⟩|⟨h1,h2,h3⟩|⟨h1,h2,φ,h3,h4⟩
  ·rw[if_neg (by rw[hw];exact λh=>by rw[Law.want,h]at h1;cases h1)];exact bg _ _ (idle (.inr h1)) h2.symm (.inr h1)
  ·rw[if_pos (by rw[hw];exact h1)];refine .inl ?_;have d:=h3 w (hI.det _ _ st.wld) fA;unfold Law.zw at d;unfold Oper.wp;rw[he];generalize (execOp (frame Y.ops a0 vals i).eval oi).run Y.P w=r at d
   cases r with
   | ok x w'=>
    cases x<;>simp only[lE]at d<;>simp only[zY]
    case value u=>obtain⟨d1,d2⟩:=d;rw[d1];exact bg u _ (idle (.inl h2)) d2 (.inl h2)
    case skip=>obtain⟨d1,d2⟩:=d;rw[d1];exact bg undef _ (idle (.inl h2)) d2 (.inl h2)
    case enter f args=>
     obtain⟨d1,_,d2⟩:=d;rw[d1];refine d2.mono λe w'' ⟨he,hx⟩=>?_;subst he;exact bg _ _ hx rfl (.inl h2)
   | halt x w'=>simp only[lE]at d
  ·rw[if_pos (by rw[hw];exact h1)];refine .inl ?_
   have go:∀ (u:Value) (w':World),Y.J i w w'->φ (lk Y.ops oi (frame Y.ops a0 vals i)) u w'->(Y.B->jW w w' (Y.O i) u)->wpAny Y.P .any Y.ops Q' (f+g) (listed.setIfInBounds i true) (a.put oi.dst u) w':=by
    intro u w' hx hφ hb;obtain⟨vals',hg'⟩:=ke (λj=>if j=i then u else m j) _ _ _ _ _ hrel
    have hm:∀j,listed.getD j false=true->m j=(λj=>if j=i then u else m j) j:=λj hj=>by
     have:j≠i:=λh=>by subst h;rw[hunF]at hj;cases hj
     simp[this]
    have hag:=agree hI hR st hg' hm;obtain⟨-,hwe,hle⟩:=nU (a0:=a0) (vals:=vals) (vals':=vals') hR hi ei λk hk hb=>hag k hk (hanc k hk hb)
    have hv:vals' i=u:=by
     rcases qg hR hg' hi ei with⟨g1,_⟩|⟨_,g2,_⟩|⟨_,g2,_⟩
     ·rw[← hwe,h1]at g1;cases g1
     ·rw[h3]at g2;cases g2
     ·rw[g2];simp
    have:=ih _ _ _ _ vals' (BY hI hR st hg' hm hx hi ei hr hunF hanc fun φ' ht _=>by
     rw[h3]at ht;cases ht;rw[hv,← hle];exact⟨hφ,hb⟩) hleft
    rw[hv]at this;exact this
   have d:=h4 w (hI.ahead _ _ _ hi st.wld hunF hanc) fA;unfold Law.wM at d;unfold Oper.wp;rw[he];generalize (execOp (frame Y.ops a0 vals i).eval oi).run Y.P w=r at d
   cases r with
   | ok x w'=>
    cases x<;>simp only[ib]at d<;>simp only[zY]
    case value u=>exact go u w' d.1 d.2.1 d.2.2
    case skip=>exact go undef w' d.1 d.2.1 d.2.2
    case enter f args=>
     obtain⟨d1,d2⟩:=d;rw[d1];refine d2.mono λe w'' h=>?_;rcases h with⟨v,he,hx,hφ,hb⟩|⟨ch,he,hx⟩
     ·subst he;exact go v w'' hx hφ hb
     ·subst he;exact hX i ch _ _ st.defers hx
   | halt x w'=>simp only[ib]at d
end
theorem kC{Y:Law}{n:Nat}{I:(Nat->Bool)->World->Prop}(hI:Y.Ok n I)(hm:Y.P.follows .mixedOrders=true)(hR:lH Y.ops n){id:Nat}{Q:Exit->Act->World->Prop}{a:Act}{w:World}(hw:Y.w0=w.drew)
  (hX:∀i ch a' w',a'.defers=a.defers->Y.X i ch w'->Q (.panic ch) a' w')
  (hQ:∀a w,Y.Q a w->wpAny Y.P .any Y.ops Q (Y.ops.size-n) (bH n true++bH (Y.ops.size-n) false) a w)
  (h:Y.rel (Y.ops.toList.take n) 0 a [] []):(gN id Y.ops true).wp Y.P Q a w:=by
 refine wp_region_any hm ?_;obtain⟨vals,hg⟩:=ke (λ_=>undef) _ _ _ _ _ h;have off:∀ {j:Nat} {p:Prop},(bH Y.ops.size false).getD j false=true->p:=λhl=>by rw[lJ]at hl;cases hl
 have hz:=hI.zero;rw[hw]at hz
 have key:=D0 hI hR h hX hQ n (bH Y.ops.size false) a w.drew (λ_=>undef) vals
  ⟨⟨by simp,λj oj _ hl=>off hl,λt _ ht=>getD_in (by simpa using ht) (lJ _ _)⟩,hg,by simpa only[lJ]using hz,rfl,rfl,
   λj _ _ _ hl=>off hl,λ_ _=>rfl,λj _ _ h=>off h.on,λ_ j _ _ h=>off h.on,λ_ j _ _ _ _ _ h=>off h.on⟩ ?_
 ·rw[show n+(Y.ops.size-n)=Y.ops.size by have:=hR.le;omega]at key;exact key
 ·have:∀k,k≤Y.ops.size->left (bH Y.ops.size false) k=k:=by
   intro k;induction k with
   | zero=>intro _;rfl
   | succ k ih=>
    intro hk;rw[left,ih av,if_neg (by rw[getD_in (by rw[Array.size_replicate];omega) (lJ _ _)];simp)]
  exact this n hR.le
theorem pW{P:Program}{l:List Oper}{n:Nat}{Q:Exit->Act->World->Prop}(hB:nf l.toArray n=true){a:Act}{w:World}(h:wpList P l.toArray Q (l.drop n) a w):
  wpAny P .any l.toArray Q (l.toArray.size-n) (bH n true++bH (l.toArray.size-n) false) a w:=by
 have hdl:(l.drop n).length=l.toArray.size-n:=eQ;have:=wpAny_of_seq (md := .any) (Q':=Q) (l.drop n) n (bH n true++bH (l.toArray.size-n) false) a w (λj=>by simp[ug]) (by rw[hdl];exact C4 hB) h;rwa [hdl]at this
def cst(Ψ:List (Nat×Fct)):Ps:=Ψ.map λx=>(x.1,λ_=>x.2)
theorem kS(Ψ:List (Nat×Fct))(i:Nat):fi (cst Ψ) i=(eg Ψ i).map fun φ _=>φ:=by
 induction Ψ with
 | nil=>rfl
 | cons x r ih=>
  simp only[cst,zW,fi,eg]at ih ⊢;split<;>simp_all
theorem E2{Y:Law}{n:Nat}{E:World->World->Prop}(hr:∀w,E w w)(ht:∀a b c,E a b->E b c->E a c)(hs:∀a b,E a b->a.heap.size≤b.heap.size)(hD:Y.D=E Y.w0)(hH:Y.H=λ_=>E Y.w0)(hZ:Y.Z=E Y.w0)(hJ:Y.J=λ_=>E)
  (hO:∀i b,Y.O i=some b->b<Y.w0.heap.size) (hOO:∀i j b,i≠j->Y.O i=some b->Y.O j≠some b) (hst:∀i φ,fi Y.Ψ i=some φ->∀ls v w w',E w w'->φ ls v w->φ ls v w'):Y.Ok n λ_=>E Y.w0:=by
 refine⟨hr _,λ_ i _ _ _ h1 _ _ h2=>ht _ _ _ h1 ?_,λ_ _ h=>?_,λ_ i _ _ h _ _=>?_,λ_ _ h _=>?_,λi _ => .inl λw=>?_,λi _ _ h=>hs _ _ ?_,λ_ _ h=>hs _ _ h,λi j φ _ ht ls v w w' h=>hst j φ ht ls v w w' ?_,hO,hOO⟩;all_goals simp_all
def exw(w:World)(p:Regrown):World:=ni (redrawn w p.d) p.os
theorem jq{w w':World}(h:Ext w w'):∃p,w'=exw w p:=regrown_of_below h
theorem cF(w:World)(p:Regrown):Ext w (exw w p):=below_regrown w p.d p.os
@[simp,go_sem] theorem kV(w:World)(p:Regrown):(exw w p).heap.size=w.heap.size+p.os.size:=by simp[exw,redrawn]
@[simp,go_sem] theorem KA(w:World)(p:Regrown):(exw w p).tape=w.tape:=rfl
theorem FU(w:World)(p:Regrown){n:Nat}(h:n<w.heap.size):(exw w p).heap[n]?=w.heap[n]?:=(cF w p).block n h
@[go_sem] theorem qs(w:World)(p:Regrown)(n i:Nat)(h:n<w.heap.size):(exw w p).cell? ⟨n,i,none⟩=w.cell? ⟨n,i,none⟩:=(cF w p).cell (p:=⟨n,i,none⟩) h
@[go_sem] theorem JU(w:World)(p:Regrown)(n i:Nat)(h:n<w.heap.size):(exw w p).frozen? ⟨n,i,none⟩=w.frozen? ⟨n,i,none⟩:=(cF w p).frozen (p:=⟨n,i,none⟩) h
@[go_sem] theorem Kc(w:World)(p:Regrown)(n:Nat)(h:n<w.heap.size):(exw w p).shape? n=w.shape? n:=by
 simp only[World.shape?,FU w p h]
@[go_sem] theorem zm(w:World)(p:Regrown)(n i:Nat)(v:Value)(h:n<w.heap.size):(exw w p).setCell ⟨n,i,none⟩ v=exw (w.setCell ⟨n,i,none⟩ v) p:=by
 simp only[exw,World.setCell,ni,redrawn,Go.Sort.modify_append_left _ _ _ _ h]
theorem rj{B:Nat}{a w:World}(h:Below B a w)(hB:B≤w.heap.size)(p:Regrown):Below B a (exw w p):=h.trans ((cF w p).mono hB)
theorem bO{w w':World}(h:Ext w w'){a:Addr}{v:Value}(hc:w.cell? a=some v):w'.cell? a=some v:=by
 rw[h.cell (block_lt_of_cell hc)];exact hc
@[go_sem] theorem KH{n m:Nat}(k:Nat)(h:n<m):(n<m+k)=True:=by simp;omega
@[go_sem] theorem Kv{n m:Nat}(h:n≤m):(n<m+1)=True:=by simp;omega
@[go_sem] theorem Ku{n m:Nat}(h:n≤m):(n<m+2)=True:=by simp;omega
@[go_sem] theorem Kt{n m:Nat}(h:n≤m):(n<m+3)=True:=by simp;omega
@[go_sem] theorem Ks{n m:Nat}(h:n≤m):(n<m+4)=True:=by simp;omega
@[go_sem] theorem KJ{n m:Nat}(k:Nat)(h:n≤m):(n≤m+k)=True:=by simp;omega
@[go_sem] theorem jV(w:World)(p q:Regrown):exw (exw w p) q=exw w ⟨q.d,p.os++q.os⟩:=by simp[exw,ni,redrawn,mD]
@[go_sem] theorem kW(w:World)(p:Regrown):exw w.drew p=exw w p:=rfl
@[go_sem] theorem II(w:World)(p q:Regrown):exw (exw w p).drew q=exw w ⟨q.d,p.os++q.os⟩:=by simp[exw,ni,redrawn,World.drew,mD]
@[go_sem] theorem Gx{P:Program}(w:World)(t:TypeId)(k:IntKind)(i:Int)(cs:Array Value)(ht:P.underlying t=some (.array (P.arrayLen t) (P.elem t)))(h:0≤i/\i<(P.arrayLen t:Int)):
  (Instr.index t (.agg cs) (.int k i)).run P w=((sizeOf (P.elem t)).run P w).andThen λs w'=>(part (P.elem t) cs (i.toNat*s)).run P w':=by
 simp[Instr.index,asIntOf,run_underlying ht,h.1,h.2]
theorem aQ{o:Oper}{y}(h:o.guard=none):bV o y=true:=by
 unfold bV;rw[h]
def jv(w:World)(φ:Value->World->Prop)(e:Ending)(w2:World):Prop:=∃v,e = .returned v/\Ext w w2/\φ v w2
def gS(w:World)(φ:Value->World->Prop)(u:Value)(w2:World):Prop:=Ext w w2/\φ u w2
def Bv(w w':World)(u v:Value):Prop:=w'=w/\u=v
def xl(w:World)(v:Value)(e:Ending)(w2:World):Prop:=e = .returned v/\Ext w w2
def ko(P:Program)(o:Oper)(a:Act)(w:World)(v:Value):Prop:=
 match (execOp a.eval o).run P w with
 | .ok (.value u) w'=>Bv w w' u v
 | .ok .skip w'=>Bv w w' undef v
 | .ok (.enter f args) w'=>w'=w/\P.inits.idxOf? f=none/\Calls P f args w (xl w v)
 | _=>False
def eE(P:Program)(o:Oper)(a:Act)(w:World)(φ:Value->World->Prop):Prop:=
 match (execOp a.eval o).run P w with
 | .ok (.value u) w'=>gS w φ u w'
 | .ok (.enter f args) w'=>w'=w/\Calls P f args w (jv w φ)
 | _=>False
attribute [go_sem] ko eE
section
variable {Y : Law} {o : Oper} {r : List Oper} {i : Nat} {a : Act} {F : fc} {G : Made}
theorem Law.skip(hw:Y.want o a=false)(h:Y.rel r (i+1) (a.put o.dst undef) F G):Y.rel (o::r) i a F G:=by
 unfold Law.rel;rw[if_neg (by rw[hw];simp)];exact h
theorem Law.det(hw:Y.want o a=true)(ht:fi Y.Ψ i=none)(hJ:∀ {a b},Ext a b->Y.J i a b){v:Value}(h:∀w,Y.D w->cd (dZ Y.ops i) F w->ko Y.P o a w v)(k:Y.rel r (i+1) (a.put o.dst v) F G):Y.rel (o::r) i a F G:=by
 unfold Law.rel;rw[if_pos hw];simp only[ht];refine⟨v,λw hx hf=>?_,k⟩;have:=h w hx hf;unfold ko at this;unfold Law.zw;generalize (execOp a.eval o).run Y.P w=q at this
 cases q with
 | ok x w'=>
  cases x<;>simp only[Bv,xl]at this<;>simp only[lE]
  case value=>exact this
  case skip=>exact this
  case enter=>exact⟨this.1,this.2.1,this.2.2.mono λe w2 h=>⟨h.1,hJ h.2⟩⟩
 | halt x w'=>simp only at this
theorem Law.make{φ:List Value->Fct}(hw:Y.want o a=true)(ht:fi Y.Ψ i=some φ)(h:∀w,Y.H i w->cd (dZ Y.ops i) F w->Y.wM i o a w (φ (lk Y.ops o a)))
  (k:∀v,Y.rel r (i+1) (a.put o.dst v) ((i,φ (lk Y.ops o a) v)::F) ((i,v)::G)):Y.rel (o::r) i a F G:=by
 unfold Law.rel;rw[if_pos hw];simp only[ht];exact⟨h,k⟩
end
def law(P:Program)(ops:Array Oper)(w0:World)(Ψ:List (Nat×Fct))(Q:Act->World->Prop):Law:=⟨False,P,ops,w0,λ_=>none,cst Ψ,Ext w0,λ_=>Ext w0,Ext w0,λ_=>Ext,λ_ _ _=>False,Q⟩
def cj(P:Program)(ops:Array Oper)(w0:World)(Ψ:List (Nat×Fct))(Q:Act->World->Prop)(l:List Oper)(i:Nat)(a:Act)(F:fc):Prop:=∀G,(law P ops w0 Ψ Q).rel l i a F G
section
variable {P : Program} {ops : Array Oper} {w0 : World} {Ψ : List (Nat × (Value → World → Prop))} {Q : Act → World → Prop} {o : Oper} {r : List Oper} {i : Nat} {a : Act} {F : fc}
theorem ov{i:Nat}(h:eg Ψ i=none):fi (cst Ψ) i=none:=by rw[kS,h];rfl
theorem jG{i:Nat}{φ:Fct}(h:eg Ψ i=some φ):fi (cst Ψ) i=some λ_=>φ:=by rw[kS,h];rfl
theorem cQ(hw:bV o (yielded ops a.tmps)=false)(h:∀K:Act->Prop,(∀a,cj P ops w0 Ψ Q r (i+1) a F->K a)->K (a.put o.dst undef)):cj P ops w0 Ψ Q (o::r) i a F:=
 λG=>Law.skip hw (h _ (λ_ h=>h) G)
theorem aX(hw:bV o (yielded ops a.tmps)=true)(ht:eg Ψ i=none)
  (h:∀K:Act->Prop,(∀a,cj P ops w0 Ψ Q r (i+1) a F->K a)->∃v,(∀p,cd (dZ ops i) F (exw w0 p)->ko P o a (exw w0 p) v)/\K (a.put o.dst v)):cj P ops w0 Ψ Q (o::r) i a F:=by
 obtain⟨v,h1,h2⟩:=h _ λ_ h=>h;exact λG=>Law.det hw (ov ht) (λh=>h) (λw' hx hf=>by obtain⟨p,rfl⟩:=jq hx;exact h1 p hf) (h2 G)
theorem bc{φ:Value->World->Prop}(hw:bV o (yielded ops a.tmps)=true)(ht:eg Ψ i=some φ)
  (h:∀p,cd (dZ ops i) F (exw w0 p)->eE P o a (exw w0 p) φ)
  (hn:∀v,∀K:Act->Prop,(∀a,cj P ops w0 Ψ Q r (i+1) a ((i,φ v)::F)->K a)->K (a.put o.dst v)):cj P ops w0 Ψ Q (o::r) i a F:=
 λG=>Law.make hw (jG ht) (λw' hx hf=>by
  obtain⟨p,rfl⟩:=jq hx;have:=h p hf;unfold eE at this;show ib _ _ _ P _ _ _ ((execOp a.eval o).run P _)
  generalize (execOp a.eval o).run P (exw w0 p)=q at this
  cases q with
  | ok x w'=>
   cases x<;>simp only[gS,jv]at this<;>simp only[ib]
   case value=>exact⟨this.1,this.2,λh=>h.elim⟩
   case enter=>exact⟨this.1,this.2.mono λe w2 ⟨v,h1,h2,h3⟩=> .inl ⟨v,h1,h2,h3,λh=>h.elim⟩⟩
  | halt x w'=>simp only at this) λv=>hn v _ (λ_ h=>h) _
theorem bD(h:∀p,fP F (exw w0 p)->Q a (exw w0 p)):cj P ops w0 Ψ Q [] i a F:=λG w' hx hf _=>by
 obtain⟨p,rfl⟩:=jq hx;exact h p hf
end
def qK:List (Nat×(Value->World->Prop))->Prop
 | []=>True
 | x::r=>(∀v w w',Ext w w'->x.2 v w->x.2 v w')/\qK r
theorem IP{Ψ:List (Nat×Fct)}{R:Nat->World->World->Prop}(h:∀x∈Ψ,∀v w w',R x.1 w w'->x.2 v w->x.2 v w'):∀i φ,fi (cst Ψ) i=some φ->∀ls v w w',R i w w'->φ ls v w->φ ls v w':=by
 induction Ψ with
 | nil=>intro i φ ht;cases ht
 | cons x r ih=>
  intro i φ ht;simp only[cst,zW,fi]at ht;split at ht
  ·rename_i hi;cases ht;subst hi;exact λ_=>h x (cy ..)
  ·exact ih (λy hy=>h y (cV _ hy)) i φ ht
theorem A2{Ψ:List (Nat×Fct)}(h:qK Ψ):∀x∈Ψ,∀v w w',Ext w w'->x.2 v w->x.2 v w':=by
 induction Ψ with
 | nil=>intro x hx;cases hx
 | cons y r ih=>
  intro x hx;rcases aJ.1 hx with rfl|hx
  ·exact h.1
  ·exact ih h.2 x hx
theorem eH{P:Program}{id:Nat}{Q:Exit->Act->World->Prop}{a:Act}{w:World}{l:List Oper}(n:Nat)(Ψ:List (Nat×(Value->World->Prop)))(hst:qK Ψ)(hm:P.follows .mixedOrders=true)(hB:nf l.toArray n=true)
  (h:cj P l.toArray w.drew Ψ (λa' w'=>wpList P l.toArray Q (l.drop n) a' w') (l.take n) 0 a []):(gN id l.toArray true).wp P Q a w:=
 kC (Y:=law P l.toArray w.drew Ψ λa' w'=>wpList P l.toArray Q (l.drop n) a' w')
  (E2 (λw=>al _ _) (λ_ _ _=>Ext.trans) (λ_ _ h=>h.size) rfl rfl rfl rfl (λ_ _ h=>by cases h) (λ_ _ _ _ h=>by cases h) (IP (A2 hst)))
  hm (mM hB) rfl (λ_ _ _ _ _ h=>h.elim) (λ_ _=>pW hB) (by simpa[law]using h [])
class XI (a w:World):Prop where out:Ext a w
instance XI.r(a:World):XI a a:=⟨al _ _⟩
instance XI.a(a w:World)(o:Obj)[h:XI a w]:XI a (w.alloc o):=⟨h.out.alloc h.out.size o⟩
instance XI.d(a w:World)[h:XI a w]:XI a w.drew:=⟨h.out.drew⟩
instance XI.e(a w:World)(p:Regrown)[h:XI a w]:XI a (exw w p):=⟨rj h.out h.out.size p⟩
theorem xt{a w:World}[h:XI a w]:Ext a w:=h.out
theorem sz{P:Prop}(h:P:=by(try simp only[World.size_alloc,Go.Xk.kV,World.size_setCell,World.size_drew,World.heap_drewN]);omega):P:=h
theorem cl{P:Program}{f:FuncId}{args:Array Value}{w:World}{Q:Ending->World->Prop}{v:Value}(h:Calls P f args w λe w'=>e = .returned v/\Ext w w')(k:∀p,Q (.returned v) (exw w p)):Calls P f args w Q:=h.mono λe w' ⟨he,hx⟩=>by
 obtain⟨p,rfl⟩:=jq hx;subst he;exact k p
theorem reg{P:Program}{id:Nat}{Q:Exit->Act->World->Prop}{a:Act}{w:World}{l:List Oper}(n:Nat)(h:cj P l.toArray w.drew [] (λa' w'=>wpList P l.toArray Q (l.drop n) a' w') (l.take n) 0 a [])(hm:P.follows .mixedOrders=true:=by kernel_rfl)(hB:nf l.toArray n=true:=by kernel_rfl):(Code.region id l.toArray true).wp P Q a w:=eH n [] trivial hm hB h
theorem w0{P:Prop}{Q:Regrown->Prop}(k:∀p,Q p)(h:(∀p,Q p)->P:=by
 intro k;have KQ:=Lib.hid k;clear k;simp only[List.take_succ_cons,List.take_zero,List.drop_succ_cons,List.drop_zero]
 repeat(first
  | (refine Go.Xk.aX (Go.Xk.aQ cI) cI (λK hK=>?_);apply Exists.intro;refine⟨λp hp=>?_,?_⟩;(go_simp;exact⟨rfl,rfl⟩);(go_simp;refine hK _ ?_;clear hK K))
  | (refine Go.Xk.cQ cI (λK hK=>?_);go_simp;refine hK _ ?_;clear hK K)
  | (refine Go.Xk.aX cI cI (λK hK=>?_);apply Exists.intro;refine⟨λp hp=>?_,?_⟩;(go_simp;exact⟨rfl,rfl⟩);(go_simp;refine hK _ ?_;clear hK K)))
 refine Go.Xk.bD (λp _=>?_);exact KQ.out p):P:=h k
theorem w1{A P:Prop}{Q:Regrown->Prop}(a:A)(k:∀p,Q p)(h:A->(∀p,Q p)->P:=by
 intro a k;have AH:=Lib.hid a;have KQ:=Lib.hid k;clear a k;simp only[List.take_succ_cons,List.take_zero,List.drop_succ_cons,List.drop_zero]
 repeat(first
  | (refine Go.Xk.aX (Go.Xk.aQ cI) cI (λK hK=>?_);apply Exists.intro;refine⟨λp hp=>?_,?_⟩;(go_simp;first|exact⟨rfl,rfl⟩|((try refine⟨by kernel_rfl,?_⟩);((first|(with_reducible refine(AH.out _).mono ?_)|(with_reducible refine(AH.out _ Go.Xk.xt).mono ?_)|(with_reducible refine(AH.out _ (Go.Xk.Ext.trans (eX HX1.out) Go.Xk.xt)).mono ?_)|(with_reducible refine(AH.out _ (Go.Xk.Ext.trans (eX HX2.out) Go.Xk.xt)).mono ?_));first|exact λe w' h=>h|exact λe w' h=>⟨h.1,by rw[← h.2];exact Below.refl _ _⟩)));(go_simp;refine hK _ ?_;clear hK K))
  | (refine Go.Xk.cQ cI (λK hK=>?_);go_simp;refine hK _ ?_;clear hK K)
  | (refine Go.Xk.aX cI cI (λK hK=>?_);apply Exists.intro;refine⟨λp hp=>?_,?_⟩;(go_simp;first|exact⟨rfl,rfl⟩|((try refine⟨by kernel_rfl,?_⟩);((first|(with_reducible refine(AH.out _).mono ?_)|(with_reducible refine(AH.out _ Go.Xk.xt).mono ?_)|(with_reducible refine(AH.out _ (Go.Xk.Ext.trans (eX HX1.out) Go.Xk.xt)).mono ?_)|(with_reducible refine(AH.out _ (Go.Xk.Ext.trans (eX HX2.out) Go.Xk.xt)).mono ?_));first|exact λe w' h=>h|exact λe w' h=>⟨h.1,by rw[← h.2];exact Below.refl _ _⟩)));(go_simp;refine hK _ ?_;clear hK K)))
 refine Go.Xk.bD (λp _=>?_);exact KQ.out p):P:=h a k
theorem w2{A B P:Prop}{Q:Regrown->Prop}(a:A)(b:B)(k:∀p,Q p)(h:A->B->(∀p,Q p)->P:=by
 intro a b k;have AH:=Lib.hid a;have BH:=Lib.hid b;have KQ:=Lib.hid k;clear a b k;simp only[List.take_succ_cons,List.take_zero,List.drop_succ_cons,List.drop_zero]
 repeat(first
  | (refine Go.Xk.aX (Go.Xk.aQ cI) cI (λK hK=>?_);apply Exists.intro;refine⟨λp hp=>?_,?_⟩;(go_simp;first|exact⟨rfl,rfl⟩|((try refine⟨by kernel_rfl,?_⟩);((first|(with_reducible refine(AH.out _).mono ?_)|(with_reducible refine(AH.out _ Go.Xk.xt).mono ?_)|(with_reducible refine(AH.out _ (Go.Xk.Ext.trans (eX HX1.out) Go.Xk.xt)).mono ?_)|(with_reducible refine(AH.out _ (Go.Xk.Ext.trans (eX HX2.out) Go.Xk.xt)).mono ?_)|(with_reducible refine(BH.out _).mono ?_)|(with_reducible refine(BH.out _ Go.Xk.xt).mono ?_)|(with_reducible refine(BH.out _ (Go.Xk.Ext.trans (eX HX1.out) Go.Xk.xt)).mono ?_)|(with_reducible refine(BH.out _ (Go.Xk.Ext.trans (eX HX2.out) Go.Xk.xt)).mono ?_));first|exact λe w' h=>h|exact λe w' h=>⟨h.1,by rw[← h.2];exact Below.refl _ _⟩)));(go_simp;refine hK _ ?_;clear hK K))
  | (refine Go.Xk.cQ cI (λK hK=>?_);go_simp;refine hK _ ?_;clear hK K)
  | (refine Go.Xk.aX cI cI (λK hK=>?_);apply Exists.intro;refine⟨λp hp=>?_,?_⟩;(go_simp;first|exact⟨rfl,rfl⟩|((try refine⟨by kernel_rfl,?_⟩);((first|(with_reducible refine(AH.out _).mono ?_)|(with_reducible refine(AH.out _ Go.Xk.xt).mono ?_)|(with_reducible refine(AH.out _ (Go.Xk.Ext.trans (eX HX1.out) Go.Xk.xt)).mono ?_)|(with_reducible refine(AH.out _ (Go.Xk.Ext.trans (eX HX2.out) Go.Xk.xt)).mono ?_)|(with_reducible refine(BH.out _).mono ?_)|(with_reducible refine(BH.out _ Go.Xk.xt).mono ?_)|(with_reducible refine(BH.out _ (Go.Xk.Ext.trans (eX HX1.out) Go.Xk.xt)).mono ?_)|(with_reducible refine(BH.out _ (Go.Xk.Ext.trans (eX HX2.out) Go.Xk.xt)).mono ?_));first|exact λe w' h=>h|exact λe w' h=>⟨h.1,by rw[← h.2];exact Below.refl _ _⟩)));(go_simp;refine hK _ ?_;clear hK K)))
 refine Go.Xk.bD (λp _=>?_);exact KQ.out p):P:=h a b k
theorem w3{A B C P:Prop}{Q:Regrown->Prop}(a:A)(b:B)(c:C)(k:∀p,Q p)(h:A->B->C->(∀p,Q p)->P:=by
 intro a b c k;have AH:=Lib.hid a;have BH:=Lib.hid b;have CH:=Lib.hid c;have KQ:=Lib.hid k;clear a b c k;simp only[List.take_succ_cons,List.take_zero,List.drop_succ_cons,List.drop_zero]
 repeat(first
  | (refine Go.Xk.aX (Go.Xk.aQ cI) cI (λK hK=>?_);apply Exists.intro;refine⟨λp hp=>?_,?_⟩;(go_simp;first|exact⟨rfl,rfl⟩|((try refine⟨by kernel_rfl,?_⟩);((first|(with_reducible refine(AH.out _).mono ?_)|(with_reducible refine(AH.out _ Go.Xk.xt).mono ?_)|(with_reducible refine(AH.out _ (Go.Xk.Ext.trans (eX HX1.out) Go.Xk.xt)).mono ?_)|(with_reducible refine(AH.out _ (Go.Xk.Ext.trans (eX HX2.out) Go.Xk.xt)).mono ?_)|(with_reducible refine(BH.out _).mono ?_)|(with_reducible refine(BH.out _ Go.Xk.xt).mono ?_)|(with_reducible refine(BH.out _ (Go.Xk.Ext.trans (eX HX1.out) Go.Xk.xt)).mono ?_)|(with_reducible refine(BH.out _ (Go.Xk.Ext.trans (eX HX2.out) Go.Xk.xt)).mono ?_)|(with_reducible refine(CH.out _).mono ?_)|(with_reducible refine(CH.out _ Go.Xk.xt).mono ?_)|(with_reducible refine(CH.out _ (Go.Xk.Ext.trans (eX HX1.out) Go.Xk.xt)).mono ?_)|(with_reducible refine(CH.out _ (Go.Xk.Ext.trans (eX HX2.out) Go.Xk.xt)).mono ?_));first|exact λe w' h=>h|exact λe w' h=>⟨h.1,by rw[← h.2];exact Below.refl _ _⟩)));(go_simp;refine hK _ ?_;clear hK K))
  | (refine Go.Xk.cQ cI (λK hK=>?_);go_simp;refine hK _ ?_;clear hK K)
  | (refine Go.Xk.aX cI cI (λK hK=>?_);apply Exists.intro;refine⟨λp hp=>?_,?_⟩;(go_simp;first|exact⟨rfl,rfl⟩|((try refine⟨by kernel_rfl,?_⟩);((first|(with_reducible refine(AH.out _).mono ?_)|(with_reducible refine(AH.out _ Go.Xk.xt).mono ?_)|(with_reducible refine(AH.out _ (Go.Xk.Ext.trans (eX HX1.out) Go.Xk.xt)).mono ?_)|(with_reducible refine(AH.out _ (Go.Xk.Ext.trans (eX HX2.out) Go.Xk.xt)).mono ?_)|(with_reducible refine(BH.out _).mono ?_)|(with_reducible refine(BH.out _ Go.Xk.xt).mono ?_)|(with_reducible refine(BH.out _ (Go.Xk.Ext.trans (eX HX1.out) Go.Xk.xt)).mono ?_)|(with_reducible refine(BH.out _ (Go.Xk.Ext.trans (eX HX2.out) Go.Xk.xt)).mono ?_)|(with_reducible refine(CH.out _).mono ?_)|(with_reducible refine(CH.out _ Go.Xk.xt).mono ?_)|(with_reducible refine(CH.out _ (Go.Xk.Ext.trans (eX HX1.out) Go.Xk.xt)).mono ?_)|(with_reducible refine(CH.out _ (Go.Xk.Ext.trans (eX HX2.out) Go.Xk.xt)).mono ?_));first|exact λe w' h=>h|exact λe w' h=>⟨h.1,by rw[← h.2];exact Below.refl _ _⟩)));(go_simp;refine hK _ ?_;clear hK K)))
 refine Go.Xk.bD (λp _=>?_);exact KQ.out p):P:=h a b c k
attribute [irreducible] exw
attribute [irreducible] cj
end Go.Xk
namespace Go.Xs
theorem gf{A P Q:Prop}(a:A)(k:Q)(h:A->Q->P:=by
 intro a k;have KQ:=Lib.hid k;clear k;(refine Go.Xg.aX (Go.Xk.aQ cI) cI (λK hK=>?_);apply Exists.intro;refine⟨λW hx hp=>?_,?_⟩;(have c:=hx.cell a av;go_simp;exact⟨rfl,rfl⟩);(go_simp;refine hK _ ?_;clear hK K))
 exact KQ.out):P:=h a k
theorem gc{A P Q:Prop}(a:A)(k:Q)(h:A->Q->P:=by
 intro a k;have KQ:=Lib.hid k;clear k;(refine Go.Xg.aX (Go.Xk.aQ cI) cI (λK hK=>?_);apply Exists.intro;refine⟨λW hx hp=>?_,?_⟩;(obtain⟨c0,c1,c2,c3,c4,c5,c6,c7,c8,c9⟩:=bA (hx.held a av);go_simp;exact⟨rfl,rfl⟩);(go_simp;refine hK _ ?_;clear hK K))
 exact KQ.out):P:=h a k
theorem d{P Q:Prop}(k:Q)(h:Q->P:=by
 intro k;have KQ:=Lib.hid k;clear k;(refine Go.Xd.aX (eh _ _) (Go.Xk.aQ cI) cI (λK hK=>?_);apply Exists.intro;refine⟨λW hx hp=>?_,?_⟩;(go_simp;exact⟨rfl,rfl⟩);(go_simp;refine hK _ ?_;clear hK K))
 exact KQ.out):P:=h k
theorem e{P Q:Prop}(k:Q)(h:Q->P:=by
 intro k;have KQ:=Lib.hid k;clear k;(refine Go.Xe.aX (iD _ _ _) (Go.Xk.aQ cI) cI (λK hK=>?_);apply Exists.intro;refine⟨λW hx hp=>?_,?_⟩;(go_simp;exact⟨rfl,rfl⟩);(go_simp;refine hK _ ?_;clear hK K))
 exact KQ.out):P:=h k
theorem s0{P Q:Prop}(k:Q)(h:Q->P:=by
 intro k;have KQ:=Lib.hid k;clear k;first
 | (refine Go.Xe.aX (Go.Xe.bS _) (Go.Xk.aQ cI) cI (λK hK=>?_);apply Exists.intro;refine⟨λW hx hp=>?_,?_⟩;(go_simp;exact⟨rfl,rfl⟩);(go_simp;refine hK _ ?_;clear hK K))
 | (refine Go.Xe.cQ cI (λK hK=>?_);go_simp;refine hK _ ?_;clear hK K)
 | (refine Go.Xe.aX (Go.Xe.bS _) cI cI (λK hK=>?_);apply Exists.intro;refine⟨λW hx hp=>?_,?_⟩;(go_simp;exact⟨rfl,rfl⟩);(go_simp;refine hK _ ?_;clear hK K))
 exact KQ.out):P:=h k
theorem s3{A P Q:Prop}(a:A)(k:Q)(h:A->Q->P:=by
 intro a k;have KQ:=Lib.hid k;clear k;first
 | (refine Go.Xe.aX (Go.Xe.bS _) (Go.Xk.aQ cI) cI (λK hK=>?_);apply Exists.intro;refine⟨λW hx hp=>?_,?_⟩;(obtain⟨f1,f2,f3⟩:=a _ hx;go_simp;exact⟨rfl,rfl⟩);(go_simp;refine hK _ ?_;clear hK K))
 | (refine Go.Xe.cQ cI (λK hK=>?_);go_simp;refine hK _ ?_;clear hK K)
 | (refine Go.Xe.aX (Go.Xe.bS _) cI cI (λK hK=>?_);apply Exists.intro;refine⟨λW hx hp=>?_,?_⟩;(obtain⟨f1,f2,f3⟩:=a _ hx;go_simp;exact⟨rfl,rfl⟩);(go_simp;refine hK _ ?_;clear hK K))
 exact KQ.out):P:=h a k
theorem k2{P Q:Prop}(k:Q)(h:Q->P:=by
 intro k;have KQ:=Lib.hid k;clear k;first
 | (refine Go.Xk.aX (Go.Xk.aQ cI) cI (λK hK=>?_);apply Exists.intro;refine⟨λp hp=>?_,?_⟩;(go_simp;exact⟨rfl,rfl⟩);(go_simp;refine hK _ ?_;clear hK K))
 | (refine Go.Xk.cQ cI (λK hK=>?_);go_simp;refine hK _ ?_;clear hK K)
 | (refine Go.Xk.aX cI cI (λK hK=>?_);apply Exists.intro;refine⟨λp hp=>?_,?_⟩;(go_simp;exact⟨rfl,rfl⟩);(go_simp;refine hK _ ?_;clear hK K))
 exact KQ.out):P:=h k
theorem ow{A P:Prop}(a:A)(h:A->P:=by
 intro a;repeat(first|with_reducible exact a|with_reducible refine Go.Xk.va ?_ _|with_reducible refine Go.Xk.ny ?_|with_reducible exact Go.Xk.I4 a|with_reducible refine Go.Xk.sS (d:=0) ?_)):P:=h a
theorem m3{P:Prop}(h:P:=by intro u hu;simp only[List.mem_cons,List.not_mem_nil,or_false]at hu;rcases hu with rfl|rfl|rfl<;>rfl):P:=h
end Go.Xs
namespace Go.Xo
open Go.RowKit Go.Xk
theorem va{w:World}{base:Nat}{e:TypeId}{size:Nat}{v:Value}{n:Nat}{xs:List Value}(h:w.ownsRow base e size v n xs)(o:Obj):(w.alloc o).ownsRow base e size v n xs:=h.alloc o
theorem ny{w:World}{base:Nat}{e:TypeId}{size:Nat}{v:Value}{n:Nat}{xs:List Value}(h:w.ownsRow base e size v n xs):(w.drew).ownsRow base e size v n xs:=h.drew
theorem E0{w:World}{b b':Nat}{e:TypeId}{size:Nat}{v:Value}{n:Nat}{xs:List Value}(h:w.ownsRow b e size v n xs)(hb:b'≤b):w.ownsRow b' e size v n xs:=by
 obtain⟨h1,h2⟩:=h;refine⟨h1,?_⟩;rcases h2 with h2|⟨g,cap,cur,hv,hg,r⟩
 ·exact .inl h2
 ·exact .inr ⟨g,cap,cur,hv,by omega,r⟩
theorem addr_add(b off j:Nat):zU ⟨b,off,none⟩ j=⟨b,off+j,none⟩:=by
 unfold zU;split
 ·rename_i h0;subst h0;rfl
 ·rfl
theorem rO{w:World}{b:Nat}{e:TypeId}{size:Nat}{v:Value}{n:Nat}{xs:List Value}(h:w.ownsRow b e size v n xs):∀k,v.ownBlock=some k->b≤k:=by
 obtain⟨h1,h2⟩:=h;intro k hk;rcases h2 with⟨rfl,_⟩|⟨g,cap,cur,rfl,hg,r⟩
 ·cases hk
 ·simp only[gK,fq]at hk;omega
theorem tY{W:World}{g:Nat}{x:Value}{t:TypeId}(h:g=W.heap.size):∀ (j:Nat) u,[x][j]?=some u->(W.alloc (Obj.cells #[x] t)).cell? ⟨g,0+j,none⟩=some u:=by
 subst h;intro j u hj;rw[fG];match j,hj with
 | 0,hj=>simpa using hj
theorem jK{W:World}{g:Nat}{x y z:Value}{t:TypeId}(h:g=W.heap.size):∀ (j:Nat) u,[x,y,z][j]?=some u->(W.alloc (.cells #[x,y,z] t)).cell? ⟨g,0+j,none⟩=some u:=by
 subst h;intro j u hj;rw[fG];match j,hj with
 | 0,hj=>simpa using hj
 | 1,hj=>simpa using hj
 | 2,hj=>simpa using hj
theorem Kq{x:Value}(h:x.oneCell'=true):∀u ∈ [x],u.oneCell'=true:=by
 intro u hu;simp only[aJ,aF,or_false]at hu;subst hu;exact h
end Go.Xo
namespace Go.Xe
open Go.RowKit Go.Xk
structure Pre(E:World->World->Prop):Prop where
 refl:∀w,E w w
 trans:∀ {a b c},E a b->E b c->E a c
 ext:∀ {a b},Ext a b->E a b
 size:∀ {a b},E a b->a.heap.size≤b.heap.size
def law(E:World->World->Prop)(P:Program)(ops:Array Oper)(w0:World)(O:Nat->Option Nat)(Ψ:Ps)(Q:Act->World->Prop):Law:=⟨True,P,ops,w0,O,Ψ,E w0,λ_=>E w0,E w0,λ_=>E,λ_ _ _=>False,Q⟩
def cj(E:World->World->Prop)(P:Program)(ops:Array Oper)(w0:World)(O:Nat->Option Nat)(Ψ:List (Nat×Fct))(Q:Act->World->Prop):List Oper->Nat->Act->fc->Made->Prop:=(law E P ops w0 O (cst Ψ) Q).rel
theorem tB{E:World->World->Prop}(hE:Pre E){P:Program}{id:Nat}{Q:Exit->Act->World->Prop}{a:Act}{w:World}{l:List Oper}(n:Nat)(O:Nat->Option Nat)(hO:∀i b,O i=some b->b<w.heap.size)(hOO:∀i j b,i≠j->O i=some b->O j≠some b)(Ψ:Ps)(hm:P.follows .mixedOrders=true)(hB:nf l.toArray n=true)
  (hst:∀i φ,fi Ψ i=some φ->∀ls v w w',E w w'->φ ls v w->φ ls v w')
  (h:(law E P l.toArray w.drew O Ψ (λa' w'=>wpList P l.toArray Q (l.drop n) a' w')).rel (l.take n) 0 a [] []):(gN id l.toArray true).wp P Q a w:=
 kC (Y:=law E P l.toArray w.drew O Ψ λa' w'=>wpList P l.toArray Q (l.drop n) a' w')
  (E2 hE.refl (λ_ _ _=>hE.trans) (λ_ _=>hE.size) rfl rfl rfl rfl (λi b h=>by simpa[law]using hO i b h) hOO hst)
  hm (mM hB) rfl (λ_ _ _ _ _ h=>h.elim) (λ_ _=>pW hB) (by simpa[law]using h)
theorem bm{E:World->World->Prop}(hE:Pre E){P:Program}{id:Nat}{Q:Exit->Act->World->Prop}{a:Act}{w:World}{l:List Oper}(n:Nat)(O:Nat->Option Nat)(hO:∀i b,O i=some b->b<w.heap.size)(hOO:∀i j b,i≠j->O i=some b->O j≠some b)(Ψ:List (Nat×(Value->World->Prop)))(hm:P.follows .mixedOrders=true)(hB:nf l.toArray n=true)
  (hst:∀i φ,eg Ψ i=some φ->∀v w w',E w w'->φ v w->φ v w')
  (h:cj E P l.toArray w.drew O Ψ (λa' w'=>wpList P l.toArray Q (l.drop n) a' w') (l.take n) 0 a [] []):(gN id l.toArray true).wp P Q a w:=
 tB hE n O hO hOO (cst Ψ) hm hB (λi φ h=>by
  rw[kS]at h
  cases ht:eg Ψ i with
  | none=>rw[ht]at h;cases h
  | some ψ=>rw[ht]at h;cases h;exact λ_=>hst i ψ ht) h
attribute [irreducible] cj
end Go.Xe
namespace Go.Xo
open Go.RowKit Go.Xk
theorem B2{P:Program}(w:World)(base:Nat)(t ty e:TypeId)(i:TypeInfo)(z:Value)(size bytes:Nat)(ht:P.underlying t=some (.slice e))(hi:P.info? e=some i)(hz:i.zero=some z)
  (hsize:i.size=size) (hby:i.bytes=bytes) (hzs:z.cells.size=size) (hsz:0<size)
  (v:Value) (n:Nat) (xs:List Value) (hown:w.ownsRow base e size v n xs)
  (a:Addr) (m c:Nat) (news:List Value) (hm:0<m) (hl:news.length=m*size) (hnews:∀j u,news[j]?=some u->w.cell? (a.add j)=some u) (h1:∀u∈news,u.oneCell'=true)
  (hb:n≤4000000/\m≤4000000/\bytes≤1000) (hbase:base≤w.heap.size) :
  ∃v' w',(Builtin.append_ #[t,t] ty #[v,.slice (some a) m c]).run P w = .ok v' w'/\w'.ownsRow base e size v' (n+m) (xs++news)/\
   ((∃g cap,v = .slice (some ⟨g,0,none⟩) n cap/\v' = .slice (some ⟨g,0,none⟩) (n+m) cap/\w.grownBy w' (some g))∨(w.grownBy w' none/\∃b,w.heap.size≤b/\v'.ownBlock=some b)):=by
 have h63:n+m≤maxLen:=by unfold maxLen;omega
 have hbytes:(n+m)*bytes≤140737488355328:=by
  have:(n+m)*bytes≤8000000*1000:=Nat.mul_le_mul av hb.2.2
  omega
 have fresh:∀ (v':Value) (w':World),w'.ownsRow w.heap.size e size v' (n+m) (xs++news)->∃b,w.heap.size≤b/\v'.ownBlock=some b:=by
  intro v' w' ho;rcases ho.2 with⟨-,h0⟩|⟨g,cap,cur,rfl,hb,-⟩
  ·omega
  ·exact⟨g,hb,rfl⟩
 rcases hown.2 with⟨rfl,rfl⟩|⟨g,cap,cur,rfl,hb0,hg,hnc,hcm,hcs,htake⟩
 ·have hx0:xs = []:=iQ (by simpa using hown.1);subst hx0;obtain⟨v',w',hrun,r1,r2,-⟩:=run_append_own (P:=P) w w.heap.size t ty e i z size bytes ht hi hz hsize hby hzs hsz (.slice none 0 0) 0 [] (qA w _ e size) a m c news hl hnews h1 h63 hbytes (ai _);exact⟨v',w',hrun,E0 r1 hbase,.inr ⟨r2,fresh v' w' r1⟩⟩
 ·by_cases hr:n+m≤cap
  ·obtain⟨w',hrun,r1,r2⟩:=run_append_fits (P:=P) w base t ty e i size ht hi hsize g n cap xs hown a m c news hl hnews h1 hr;exact⟨_,w',hrun,r1,.inl ⟨g,cap,rfl,rfl,r2⟩⟩
  ·obtain⟨v',w',hrun,r1,r2⟩:=run_append_arg_grows (P:=P) w t ty e i z size bytes ht hi hz hsize hby hzs hsz ⟨g,0,none⟩ n cap xs hown.1 (λj u hj=>hown.cells rfl j u hj) a m c news hl hnews av h63 hbytes;exact⟨v',w',hrun,E0 r1 hbase,.inr ⟨r2,fresh v' w' r1⟩⟩
end Go.Xo
namespace Go.Xe
open Go.RowKit Go.Xk
abbrev gT:=List (Nat×(Option Obj->Prop))
def ES(ks:gT)(w w':World):Prop:=w'.os=w.os/\w'.tape=w.tape/\w'.output=w.output/\w.heap.size≤w'.heap.size/\∀b,b<w.heap.size->w'.heap[b]?=w.heap[b]?∨∃k∈ks,k.1=b/\k.2 w'.heap[b]?
theorem bS(ks:gT):Pre (ES ks):=by
 refine⟨λw=>⟨rfl,rfl,rfl,ai _,λb _ => .inl rfl⟩,?_,?_,λh=>h.2.2.2.1⟩
 ·rintro a b c ⟨h1,h2,h3,h4,h5⟩ ⟨g1,g2,g3,g4,g5⟩;refine⟨g1.trans h1,g2.trans h2,g3.trans h3,bI h4 g4,λx hx=>?_⟩;rcases g5 x (aK hx h4)with e|e
  ·rw[e];exact h5 x hx
  ·exact .inr e
 ·intro a b h;exact⟨h.os,h.tape,h.output,h.size,λx hx => .inl (h.block x hx)⟩
theorem ES.block{ks:gT}{w w':World}(h:ES ks w w'){b:Nat}(hb:b<w.heap.size)(hn:∀k∈ks,k.1≠b):w'.heap[b]?=w.heap[b]?:=by
 rcases h.2.2.2.2 b hb with e|⟨k,hk,e,-⟩
 ·exact e
 ·exact absurd e (hn k hk)
theorem ES.cell{ks:gT}{w w':World}(h:ES ks w w'){b o:Nat}{v:Value}(hc:w.cell? ⟨b,o,none⟩=some v)(hn:∀k∈ks,k.1≠b):w'.cell? ⟨b,o,none⟩=some v:=
 (kf (a:=⟨b,o,none⟩) (h.block (ay _ _ hc) hn)).trans hc
def fR(e:TypeId)(size n:Nat)(xs:List Value):Value->gT
 | .slice (some a) _ cap => [(a.block,λo=>∃cur,o=some (.cells cur e (0,0))/\cap≤maxLen/\cur.size=cap*size/\cur.toList.take (n*size)=xs)]
 | _ => []
theorem fv{e:TypeId}{size n:Nat}{xs:List Value}{v:Value}{k:Nat×(Option Obj->Prop)}(h:k∈fR e size n xs v):v.ownBlock=some k.1:=by
 unfold fR at h;split at h
 ·simp only[aJ,aF,or_false]at h;subst h;rfl
 ·cases h
theorem ES.own{ks:gT}{w w':World}{B:Nat}{e:TypeId}{size n m:Nat}{v:Value}{xs news:List Value}(h:ES ks w w')(ho:w.ownsRow B e size v n xs)(hk:∀k∈ks,v.ownBlock=some k.1->k∈fR e size (n+m) (xs++news) v):w'.ownsRow B e size v n xs:=by
 obtain⟨h1,h2⟩:=ho;refine⟨h1,?_⟩;rcases h2 with h2|⟨g,cap,cur,rfl,hb,hg,hnc,hcm,hcs,htake⟩
 ·exact .inl h2
 ·rcases h.2.2.2.2 g (ae.1 hg).1 with e1|⟨k,hk',e1,e2⟩
  ·exact .inr ⟨g,cap,cur,rfl,hb,by rw[e1];exact hg,hnc,hcm,hcs,htake⟩
  ·have hs:=hk k hk' (by rw[e1];rfl);simp only[fR,aJ,aF,or_false]at hs;subst hs;obtain⟨cur',c1,-,c2,c3⟩:=e2;refine .inr ⟨g,cap,cur',rfl,hb,c1,hnc,hcm,c2,?_⟩;have h3:n*size≤(n+m)*size:=fe _ av;have h4:cur'.toList.take (n*size)=(cur'.toList.take ((n+m)*size)).take (n*size):=by rw[nd,mC h3]
   rw[h4,c3,← h1,List.take_left]
def lG(B:Nat)(e:TypeId)(size B0:Nat)(v:Value)(n m:Nat)(xs:List Value)(v':Value)(w:World):Prop:=
 w.ownsRow B e size v' (n+m) xs/\((∃g cap,v = .slice (some ⟨g,0,none⟩) n cap/\v' = .slice (some ⟨g,0,none⟩) (n+m) cap)∨∃b,B0≤b/\v'.ownBlock=some b)
theorem lG.es{ks:gT}{B:Nat}{e:TypeId}{size B0 n m:Nat}{v:Value}{xs:List Value}(hk:∀k∈ks,v.ownBlock=some k.1->k∈fR e size (n+m) xs v)(hB:∀k∈ks,k.1<B0):
  ∀v' w w',ES ks w w'->lG B e size B0 v n m xs v' w->lG B e size B0 v n m xs v' w':=by
 rintro v' w w' h ⟨ho,hv⟩;refine⟨?_,hv⟩;rcases hv with⟨g,cap,rfl,rfl⟩|⟨b,hb,e1⟩
 ·obtain⟨h1,h2⟩:=ho;refine⟨h1,?_⟩;rcases h2 with⟨h2,-⟩|⟨g',cap',cur,hv,hb,hg,hnc,hcm,hcs,htake⟩
  ·simp at h2
  ·simp only[gU.injEq,fq,Addr.mk.injEq,and_true,true_and]at hv;obtain⟨rfl,rfl⟩:=hv;rcases h.2.2.2.2 g (ae.1 hg).1 with e1|⟨k,hk',e1,e2⟩
   ·exact .inr ⟨g,cap,cur,rfl,hb,by rw[e1];exact hg,hnc,hcm,hcs,htake⟩
   ·have hs:=hk k hk' (by rw[e1];rfl);simp only[fR,aJ,aF,or_false]at hs;subst hs;obtain⟨cur',c1,-,c2,c3⟩:=e2;exact .inr ⟨g,cap,cur',rfl,hb,c1,hnc,hcm,c2,c3⟩
 ·obtain⟨h1,h2⟩:=ho;refine⟨h1,?_⟩;rcases h2 with⟨rfl,-⟩|⟨g',cap',cur,rfl,hb',hg,r⟩
  ·cases e1
  ·cases e1;exact .inr ⟨g',cap',cur,rfl,hb',by rw[h.block (ae.1 hg).1 λk hk' e2=>by have:=hB k hk';simp only at hb;omega];exact hg,r⟩
def qk(B0:Nat)(x:Value)(v:Value)(w:World):Prop:=∃g,v = .slice (some ⟨g,0,none⟩) 1 1/\B0≤g/\w.cell? ⟨g,0,none⟩=some x
theorem qk.es{ks:gT}{B0:Nat}{x:Value}(hB:∀k∈ks,k.1<B0):∀v w w',ES ks w w'->qk B0 x v w->qk B0 x v w':=by
 rintro v w w' h ⟨g,rfl,hg,hc⟩;exact⟨g,rfl,hg,h.cell hc λk hk e=>by have:=hB k hk;omega⟩
section
variable {E : World → World → Prop} {P : Program} {ops : Array Oper} {w0 : World} {O : Nat → Option Nat} {Ψ : List (Nat × (Value → World → Prop))} {Q : Act → World → Prop} {o : Oper} {r : List Oper} {i : Nat} {a : Act} {F : fc} {G : Made}
theorem cQ(hw:bV o (yielded ops a.tmps)=false)(h:∀K:Act->Prop,(∀a,cj E P ops w0 O Ψ Q r (i+1) a F G->K a)->K (a.put o.dst undef)):cj E P ops w0 O Ψ Q (o::r) i a F G:=by
 unfold cj at *
 exact Law.skip hw (h _ λ_ h=>h)
def gS(E:World->World->Prop)(w:World)(old:Option Nat)(φ:Value->World->Prop)(u:Value)(w2:World):Prop:=E w w2/\φ u w2/\jW w w2 old u
def jv(w:World)(old:Option Nat)(φ:Value->World->Prop)(e:Ending)(w2:World):Prop:=∃v,e = .returned v/\Ext w w2/\φ v w2/\jW w w2 old v
def eE(E:World->World->Prop)(P:Program)(o:Oper)(a:Act)(w:World)(old:Option Nat)(φ:Value->World->Prop):Prop:=
 match (execOp a.eval o).run P w with
 | .ok (.value u) w'=>gS E w old φ u w'
 | .ok .skip w'=>gS E w old φ undef w'
 | .ok (.enter f args) w'=>w'=w/\Calls P f args w (jv w old φ)
 | _=>False
attribute [go_sem] eE
theorem aX(hE:Pre E)(hw:bV o (yielded ops a.tmps)=true)(ht:eg Ψ i=none)
  (h:∀K:Act->Prop,(∀a,cj E P ops w0 O Ψ Q r (i+1) a F G->K a)->∃v,(∀w',E w0 w'->cd (dZ ops i) F w'->Xk.ko P o a w' v)/\K (a.put o.dst v)):cj E P ops w0 O Ψ Q (o::r) i a F G:=by
 obtain⟨v,h1,h2⟩:=h _ λ_ h=>h;unfold cj at *
 exact Law.det hw (ov ht) hE.ext h1 h2
theorem oq{E J:World->World->Prop}(hE:∀ {a b},E a b->J a b)(hJ:∀ {a b},Ext a b->J a b){B:Prop}{X:List PanicEntry->World->Prop}{w:World}{old:Option Nat}{φ:Fct}(h:eE E P o a w old φ):ib B J X P w old φ ((execOp a.eval o).run P w):=by
 unfold eE at h;generalize (execOp a.eval o).run P w=q at h
 cases q with
 | ok x w'=>
  cases x<;>simp only[gS,jv]at h<;>simp only[ib]
  case value=>exact⟨hE h.1,h.2.1,λ_=>h.2.2⟩
  case skip=>exact⟨hE h.1,h.2.1,λ_=>h.2.2⟩
  case enter=>exact⟨h.1,h.2.mono λe w2 ⟨v,h1,h2,h3,h4⟩=> .inl ⟨v,h1,hJ h2,h3,λ_=>h4⟩⟩
 | halt x w'=>simp only at h
theorem bc(hE:Pre E){φ:Value->World->Prop}(hw:bV o (yielded ops a.tmps)=true)(ht:eg Ψ i=some φ)
  (h:∀w',E w0 w'->cd (dZ ops i) F w'->eE E P o a w' (O i) φ)
  (hn:∀v,∀K:Act->Prop,(∀a,cj E P ops w0 O Ψ Q r (i+1) a ((i,φ v)::F) ((i,v)::G)->K a)->K (a.put o.dst v)):cj E P ops w0 O Ψ Q (o::r) i a F G:=by
 unfold cj at *
 exact Law.make hw (jG ht) (λw' hx hf=>oq (λh=>h) hE.ext (h w' hx hf)) λv=>hn v _ λ_ h=>h
theorem bD(h:∀w',E w0 w'->fP F w'->apart G->Q a w'):cj E P ops w0 O Ψ Q [] i a F G:=by
 unfold cj;exact λw hz hf hb=>h w hz hf (hb trivial)
theorem Ft{ks:gT}{w:World}{old:Option Nat}(B0 base:Nat)(s x:Operand)(t:TypeId)(ho:o.op = .call { callee := .builtin .append,args := #[s,x],argTypes := #[t,t] })
  (e:TypeId) (ti:TypeInfo) (z:Value) (size bytes:Nat) (ht:P.underlying t=some (.slice e)) (hi:P.info? e=some ti) (hz:ti.zero=some z)
  (hsize:ti.size=size) (hby:ti.bytes=bytes) (hzs:z.cells.size=size) (hsz:0<size)
  (v:Value) (n:Nat) (xs:List Value) (hs:a.eval s=v) (hown:w.ownsRow base e size v n xs)
  (ad:Addr) (m c:Nat) (news:List Value) (hx:a.eval x = .slice (some ad) m c) (hm:0<m) (hl:news.length=m*size) (hnews:∀j u,news[j]?=some u->w.cell? (ad.add j)=some u) (h1:∀u∈news,u.oneCell'=true)
  (hb:n≤4000000/\m≤4000000/\bytes≤1000) (hbase:base≤w.heap.size) (hB:B0≤w.heap.size) (hk:∀k∈fR e size (n+m) (xs++news) v,k∈ks) (hold:old=v.ownBlock):eE (ES ks) P o a w old (lG base e size B0 v n m (xs++news)):=by
 obtain⟨v',w',hrun,r1,r2⟩:=Xo.B2 (P:=P) w base t o.type e ti z size bytes ht hi hz hsize hby hzs hsz v n xs hown ad m c news hm hl hnews h1 hb hbase;unfold eE;simp[execOp,ho,resolve,invoke,builtin,hs,hx,hrun,Result.andThen];rcases r2 with⟨g,cap,rfl,rfl,hg⟩|⟨hg,b,hb',e1⟩
 ·refine⟨⟨hg.os,hg.tape,hg.output,hg.size,λy hy=>?_⟩,⟨r1,.inl ⟨g,cap,rfl,rfl⟩⟩,λb hb=>⟨.inl (by rw[hold,← hb];rfl),(r1.lt b hb).2⟩⟩;by_cases hyg:y=g
  ·subst hyg;refine .inr ⟨_,hk _ (by unfold fR;exact cy ..),rfl,?_⟩;rcases r1.2 with⟨h2,-⟩|⟨g',cap',cur,hv,hb2,hg2,hnc,hcm,hcs,htake⟩
   ·simp at h2
   ·simp only[gU.injEq,fq,Addr.mk.injEq,and_true,true_and]at hv;obtain⟨rfl,rfl⟩:=hv;exact⟨cur,hg2,hcm,hcs,htake⟩
  ·exact .inl (hg.block y hy λe=>hyg (by simpa using e))
 ·exact⟨⟨hg.os,hg.tape,hg.output,hg.size,λy hy => .inl (hg.block y hy eQ)⟩,⟨r1,.inr ⟨b,by omega,e1⟩⟩,λc hc=>⟨.inr (by rw[e1]at hc;cases hc;exact hb'),(r1.lt c hc).2⟩⟩
end
def eD(b:Nat)(o:Obj)(v:Value)(w:World):Prop:=w.heap[b]?=some o
theorem eD.es{ks:gT}{b:Nat}{o:Obj}(hk:∀k∈ks,k.1=b->k.2=λx=>x=some o):∀v w w',ES ks w w'->eD b o v w->eD b o v w':=by
 intro v w w' h hb;rcases h.2.2.2.2 b (ae.1 hb).1 with e|⟨k,h1,h2,h3⟩
 ·exact e.trans hb
 ·rw[hk k h1 h2]at h3;exact h3
theorem i7{W:World}{b:Nat}{a0 a1 a2:Value}{t:TypeId}(h:W.heap[b]?=some (.cells #[a0,a1,a2] t (0,0))):
  W.cell? ⟨b,0,none⟩=some a0/\W.cell? ⟨b,1,none⟩=some a1/\W.cell? ⟨b,2,none⟩=some a2/\W.frozen? ⟨b,0,none⟩=false/\W.frozen? ⟨b,1,none⟩=false/\W.frozen? ⟨b,2,none⟩=false:=by
 refine⟨by simp[ak,h],by simp[ak,h],by simp[ak,h],aD W b 0 _ t h,aD W b 1 _ t h,aD W b 2 _ t h⟩
def O2(i1:Nat)(b1:Option Nat)(i2:Nat)(b2:Option Nat):Nat->Option Nat:=λi=>if i=i1 then b1 else if i=i2 then b2 else none
theorem Gv{i1 i2 s:Nat}{b1 b2:Option Nat}(h1:∀b,b1=some b->b<s)(h2:∀b,b2=some b->b<s):∀i b,O2 i1 b1 i2 b2 i=some b->b<s:=by
 intro i b h;unfold O2 at h;split at h
 ·exact h1 b h
 ·split at h
  ·exact h2 b h
  ·cases h
theorem Gu{i1 i2:Nat}{b1 b2:Option Nat}(h:∀b,b1=some b->b2≠some b):∀i j b,i≠j->O2 i1 b1 i2 b2 i=some b->O2 i1 b1 i2 b2 j≠some b:=by
 intro i j b hij h1 h2;unfold O2 at h1 h2;split at h1<;>split at h2
 ·omega
 ·split at h2
  ·exact h b h1 h2
  ·cases h2
 ·split at h1
  ·exact h b h2 h1
  ·cases h1
 ·split at h1<;>split at h2
  ·omega
  ·cases h2
  ·cases h1
  ·cases h1
theorem jD{ks:gT}{Ψ:List (Nat×(Value->World->Prop))}(h:∀x∈Ψ,∀v w w',ES ks w w'->x.2 v w->x.2 v w'):∀i φ,eg Ψ i=some φ->∀v w w',ES ks w w'->φ v w->φ v w':=by
 induction Ψ with
 | nil=>intro i φ ht;cases ht
 | cons x r ih=>
  intro i φ ht;unfold eg at ht;split at ht
  ·cases ht;exact h x (cy ..)
  ·exact ih (λy hy=>h y (cV _ hy)) i φ ht
theorem bG{m i:Nat}{φ:World->Prop}{r:fc}{w:World}(h:cd m ((i,φ)::r) w)(hm:m.testBit i=true):φ w:=by
 unfold cd at h;rw[if_pos hm]at h;exact h.1
theorem mU{m i:Nat}{φ:World->Prop}{r:fc}{w:World}(h:cd m ((i,φ)::r) w):cd m r w:=by
 unfold cd at h;split at h
 ·exact h.2
 ·exact h
end Go.Xe
namespace Go.Xe
open Go.RowKit
open Go.Xk
def newRow(B0:Nat)(l:List Value)(e:TypeId)(v:Value)(w:World):Prop:=∃g,v = .slice (some ⟨g,0,none⟩) 1 1/\B0≤g/\w.heap[g]?=some (.cells l.toArray e)
theorem newRow.es{ks:gT}{B0:Nat}{l:List Value}{e:TypeId}(hB:∀k∈ks,k.1<B0):∀v w w',ES ks w w'->newRow B0 l e v w->newRow B0 l e v w':=by
 rintro v w w' h ⟨g,rfl,hg,hc⟩;exact⟨g,rfl,hg,(h.block (ae.1 hc).1 λk hk e=>by have:=hB k hk;omega).trans hc⟩
theorem wI{ks:gT}{w:World}{old:Option Nat}(B0:Nat)(l:List Value)(t:TypeId)(c:Array Value)(hc:c=l.toArray)(hB:B0≤w.heap.size):gS (ES ks) w old (newRow B0 l t) (.slice (some ⟨w.heap.size,0,none⟩) 1 1) (w.alloc (.cells c t)):=by
 subst hc;exact⟨(bS ks).ext ((al _ _).alloc (ai _) _),⟨w.heap.size,rfl,hB,by show(w.heap.push _)[w.heap.size]?=_;simp⟩,λb hb=>by cases hb;exact⟨.inr (ai _),by simp⟩⟩
def DZ(e:TypeId)(size B0:Nat)(v:Value)(n:Nat)(xs news:List Value):Value->World->Prop:=lG 0 e size B0 v n 1 (xs++news)
theorem qQ{P:Program}{o:Oper}{a:Act}{ks:gT}{w:World}{old:Option Nat}(B0:Nat)(s x:Operand)(t:TypeId)(ho:o.op = .call { callee := .builtin .append,args := #[s,x],argTypes := #[t,t] })
  (e:TypeId) (ti:TypeInfo) (z:Value) (size bytes:Nat) (ht:P.underlying t=some (.slice e)) (hi:P.info? e=some ti) (hz:ti.zero=some z)
  (hsize:ti.size=size) (hby:ti.bytes=bytes) (hzs:z.cells.size=size) (hsz:0<size)
  (v:Value) (n:Nat) (xs news:List Value) (hs:a.eval s=v) (hown:w.ownsRow 0 e size v n xs)
  (g c:Nat) (hx:a.eval x = .slice (some ⟨g,0,none⟩) 1 c) (hl:news.length=size) {e':TypeId} (hnews:w.heap[g]?=some (.cells news.toArray e')) (h1:∀u∈news,u.oneCell'=true)
  (hb:n≤4000000/\bytes≤1000) (hB:B0≤w.heap.size) (hk:∀k∈fR e size (n+1) (xs++news) v,k∈ks) (hold:old=v.ownBlock):eE (ES ks) P o a w old (DZ e size B0 v n xs news):=
 Ft B0 0 s x t ho e ti z size bytes ht hi hz hsize hby hzs hsz v n xs hs hown ⟨g,0,none⟩ 1 c news hx ff (by rw[hl,Nat.one_mul]) (λj u hu=>by
  rw[Go.Xo.addr_add,eF];unfold ak;rw[hnews];simpa using hu) h1 ⟨hb.1,by decide,hb.2⟩ (gM _) hB hk hold
theorem ES.grown{e:TypeId}{size n:Nat}{xs:List Value}{v:Value}{ks:gT}{w w':World}(h:ES ks w.drew w')(hk:∀k∈ks,v.ownBlock=some k.1/\k.1<w.heap.size):w.grownBy w' v.ownBlock:=
 ⟨h.1,h.2.1,h.2.2.1,by have:=h.2.2.2.1;simpa using this,λb hb hn=>(h.block (w:=w.drew) (by simpa using hb) (λk hk' e=>hn (by rw[(hk k hk').1,e]))).trans rfl⟩
theorem DZ.form{e:TypeId}{size B0 n:Nat}{v y:Value}{xs news:List Value}{w:World}(h:DZ e size B0 v n xs news y w):∃z cz,y = .slice (some ⟨z,0,none⟩) (n+1) cz/\w.ownsRow 0 e size (.slice (some ⟨z,0,none⟩) (n+1) cz) (n+1) (xs++news)/\(v.ownBlock=some z∨B0≤z):=by
 obtain⟨h1,h2⟩:=h;rcases h1.2 with⟨rfl,h0⟩|⟨z,cz,cur,rfl,-⟩
 ·omega
 ·refine⟨z,cz,rfl,h1,?_⟩;rcases h2 with⟨g,cap,rfl,h3⟩|⟨b,hb,h3⟩
  ·cases h3;exact .inl rfl
  ·cases h3;exact .inr hb
end Go.Xe
namespace Go.Xd
open Go.RowKit
open Go.Xk hiding law cj eE gS jv cQ aX bc bD
open Go.Xe hiding cj bm cQ aX bc bD bG
def cj(E:World->World->Prop)(P:Program)(ops:Array Oper)(w0:World)(O:Nat->Option Nat)(Ψ:Ps)(Q:Act->World->Prop):List Oper->Nat->Act->fc->Made->Prop:=(Xe.law E P ops w0 O Ψ Q).rel
theorem bm{E:World->World->Prop}(hE:Pre E){P:Program}{id:Nat}{Q:Exit->Act->World->Prop}{a:Act}{w:World}{l:List Oper}(n:Nat)(O:Nat->Option Nat)(hO:∀i b,O i=some b->b<w.heap.size)(hOO:∀i j b,i≠j->O i=some b->O j≠some b)(Ψ:List (Nat×(List Value->Value->World->Prop)))(hm:P.follows .mixedOrders=true)(hB:nf l.toArray n=true)
  (hst:∀i φ,fi Ψ i=some φ->∀ls v w w',E w w'->φ ls v w->φ ls v w')
  (h:cj E P l.toArray w.drew O Ψ (λa' w'=>wpList P l.toArray Q (l.drop n) a' w') (l.take n) 0 a [] []):(gN id l.toArray true).wp P Q a w:=Xe.tB hE n O hO hOO Ψ hm hB hst h
section
variable {E : World → World → Prop} {P : Program} {ops : Array Oper} {w0 : World} {O : Nat → Option Nat} {Ψ : List (Nat × (List Value → Value → World → Prop))} {Q : Act → World → Prop} {o : Oper} {r : List Oper} {i : Nat} {a : Act} {F : fc} {G : Made}
theorem cQ(hw:bV o (yielded ops a.tmps)=false)(h:∀K:Act->Prop,(∀a,cj E P ops w0 O Ψ Q r (i+1) a F G->K a)->K (a.put o.dst undef)):cj E P ops w0 O Ψ Q (o::r) i a F G:=
 Law.skip hw (h _ λ_ h=>h)
theorem aX(hE:Pre E)(hw:bV o (yielded ops a.tmps)=true)(ht:fi Ψ i=none)
  (h:∀K:Act->Prop,(∀a,cj E P ops w0 O Ψ Q r (i+1) a F G->K a)->∃v,(∀w',E w0 w'->cd (dZ ops i) F w'->Xk.ko P o a w' v)/\K (a.put o.dst v)):cj E P ops w0 O Ψ Q (o::r) i a F G:=by
 obtain⟨v,h1,h2⟩:=h _ λ_ h=>h;exact Law.det hw ht hE.ext h1 h2
theorem bc(hE:Pre E){φ:List Value->Value->World->Prop}(hw:bV o (yielded ops a.tmps)=true)(ht:fi Ψ i=some φ)
  (h:∀w',E w0 w'->cd (dZ ops i) F w'->Go.Xe.eE E P o a w' (O i) (φ (lk ops o a)))
  (hn:∀v,∀K:Act->Prop,(∀b,cj E P ops w0 O Ψ Q r (i+1) b ((i,φ (lk ops o a) v)::F) ((i,v)::G)->K b)->K (a.put o.dst v)):cj E P ops w0 O Ψ Q (o::r) i a F G:=
 Law.make hw ht (λw' hx hf=>Xe.oq (λh=>h) hE.ext (h w' hx hf)) λv=>hn v _ λ_ h=>h
theorem bD(h:∀w',E w0 w'->fP F w'->apart G->Q a w'):cj E P ops w0 O Ψ Q [] i a F G:=λw hz hf hb=>h w hz hf (hb trivial)
end
attribute [irreducible] cj
theorem bG{m i:Nat}{φ:World->Prop}{r:fc}{w:World}(h:cd m ((i,φ)::r) w)(hm:m.testBit i=true):φ w:=Go.Xe.bG h hm
theorem mJ{E:World->World->Prop}{Ψ:List (Nat×(List Value->Value->World->Prop))}(h:∀x∈Ψ,∀ls v w w',E w w'->x.2 ls v w->x.2 ls v w'):∀i φ,fi Ψ i=some φ->∀ls v w w',E w w'->φ ls v w->φ ls v w':=by
 induction Ψ with
 | nil=>intro i φ ht;cases ht
 | cons x r ih=>
  intro i φ ht;unfold fi at ht;split at ht
  ·cases ht;exact h x (cy ..)
  ·exact ih (λy hy=>h y (cV _ hy)) i φ ht
end Go.Xd
namespace Go.Xg
open Go.RowKit
open Go.Xk hiding law cj eE gS jv cQ aX bc bD
open Go.Xe (Pre)
def law(E:World->World->Prop)(X:List PanicEntry->World->Prop)(κ:Nat)(P:Program)(ops:Array Oper)(w0:World)(O:Nat->Option Nat)(Ψ:List (Nat×Fct))(Q:Act->World->Prop):Law:=
 ⟨True,P,ops,w0,O,cst Ψ,E w0,λi=>if i=κ then Ext w0 else E w0,E w0,λi a b=>Ext a b∨(i=κ/\E a b),λ_=>X,Q⟩
def cj(E:World->World->Prop)(X:List PanicEntry->World->Prop)(κ:Nat)(P:Program)(ops:Array Oper)(w0:World)(O:Nat->Option Nat)(Ψ:List (Nat×Fct))(Q:Act->World->Prop):List Oper->Nat->Act->fc->Made->Prop:=(law E X κ P ops w0 O Ψ Q).rel
theorem tC{E:World->World->Prop}(hE:Pre E){X:List PanicEntry->World->Prop}{κ:Nat}{P:Program}{ops:Array Oper}{w:World}{n:Nat}{O:Nat->Option Nat}(hO:∀i b,O i=some b->b<w.heap.size)(hOO:∀i j b,i≠j->O i=some b->O j≠some b){Ψ:List (Nat×Fct)}
  (hst:∀i φ,eg Ψ i=some φ->∀v w w',(if i=κ then Ext w w' else E w w')->φ v w->φ v w') (Q:Act->World->Prop):(law E X κ P ops w.drew O Ψ Q).Ok n λL w'=>E w.drew w'/\(L κ=false->Ext w.drew w'):=by
 have hJ:∀ {i:Nat} {a b:World},(law E X κ P ops w.drew O Ψ Q).J i a b->E a b:=λh=>h.elim hE.ext And.right;have hN:∀ {i:Nat} {a b:World},i≠κ->(law E X κ P ops w.drew O Ψ Q).J i a b->Ext a b:=λhi h=>h.elim id λh=>absurd h.1 hi;refine⟨⟨hE.refl _,λ_=>al _ _⟩,λL i a b _ h hL _ hj=>⟨hE.trans h.1 (hJ hj),λhk=>?_⟩,λ_ _ h=>h.1,λL i a _ h hL _=>?_,λ_ _ h _=>h.1,λi _ => .inl λa => .inl (al _ _),λi a b h=>hE.size (hJ h),λ_ _ h=>hE.size h.1,λi j φ hij ht ls v a b hj hf=>?_,λi b h=>by simpa[law]using hO i b h,hOO⟩
 ·by_cases hik:κ=i
  ·simp[hik]at hk
  ·exact Ext.trans (h.2 (by simpa[hik]using hk)) (hN (mb hik) hj)
 ·simp only[law];split
  ·rename_i e;subst e;exact h.2 hL
  ·exact h.1
 ·simp only[law,kS]at ht
  cases hψ:eg Ψ j with
  | none=>rw[hψ]at ht;cases ht
  | some ψ=>
   rw[hψ]at ht;cases ht;refine hst j ψ hψ v a b ?_ hf;split
   ·rename_i e;exact hN (λe'=>hij (e'.trans e.symm)) hj
   ·exact hJ hj
theorem bm{E:World->World->Prop}(hE:Pre E)(X:List PanicEntry->World->Prop)(κ:Nat){P:Program}{id:Nat}{Q:Exit->Act->World->Prop}{a:Act}{w:World}{l:List Oper}(n:Nat)(O:Nat->Option Nat)(hO:∀i b,O i=some b->b<w.heap.size)(hOO:∀i j b,i≠j->O i=some b->O j≠some b)(Ψ:List (Nat×(Value->World->Prop)))(hm:P.follows .mixedOrders=true)(hB:nf l.toArray n=true)
  (hst:∀i φ,eg Ψ i=some φ->∀v w w',(if i=κ then Ext w w' else E w w')->φ v w->φ v w') (hX:∀ch a' w',a'.defers=a.defers->X ch w'->Q (.panic ch) a' w')
  (h:cj E X κ P l.toArray w.drew O Ψ (λa' w'=>wpList P l.toArray Q (l.drop n) a' w') (l.take n) 0 a [] []):(gN id l.toArray true).wp P Q a w:=
 kC (tC hE hO hOO hst λa' w'=>wpList P l.toArray Q (l.drop n) a' w') hm (mM hB) rfl (λ_=>hX) (λ_ _=>pW hB) (by simpa[law,cj]using h)
theorem ed{E:World->World->Prop}(hE:Pre E)(X:List PanicEntry->World->Prop)(κ:Nat){P:Program}{id:Nat}{Q:Exit->Act->World->Prop}{a:Act}{w:World}{l:List Oper}(n:Nat)(O:Nat->Option Nat)(hO:∀i b,O i=some b->b<w.heap.size)(hOO:∀i j b,i≠j->O i=some b->O j≠some b)(Ψ:List (Nat×(Value->World->Prop)))(hm:P.follows .mixedOrders=true)(hB:vZ l.toArray n=true)
  (hst:∀i φ,eg Ψ i=some φ->∀v w w',(if i=κ then Ext w w' else E w w')->φ v w->φ v w') (hX:∀ch a' w',a'.defers=a.defers->X ch w'->Q (.panic ch) a' w') (g:Nat) (hg:n+g=l.toArray.size)
  (h:cj E X κ P l.toArray w.drew O Ψ (λa' w'=>wpAny P .any l.toArray Q g (bH n true++bH g false) a' w') (l.take n) 0 a [] []):(gN id l.toArray true).wp P Q a w:=
 kC (tC hE hO hOO hst λa' w'=>wpAny P .any l.toArray Q g (bH n true++bH g false) a' w') hm (rL hB) rfl (λ_=>hX) (λ_ _ h=>by rw[show(law E X κ P l.toArray w.drew O Ψ _).ops.size-n=g by simp only[law];omega];exact h) (by simpa[law,cj]using h)
def BU(K:Act->World->Prop)(Q:Exit->Act->World->Prop):Exit->Act->World->Prop
 | .normal,a,w=>K a w
 | e,a,w=>Q e a w
theorem np{P:Program}{ops:Array Oper}{Q:Exit->Act->World->Prop}{K:Act->World->Prop}{k:Nat}{o:Oper}{a:Act}{w:World}(hk:ops[k]?=some o)(h:wpList P ops (BU K Q) [o] a w):wpOp P ops Q k K a w:=by
 unfold wpOp;simp only[hk];unfold wpList at h;split at h
 ·rename_i hw;rw[if_pos hw];rcases h with h|h
  ·refine .inl ?_;unfold Oper.wp at *
   generalize (execOp a.eval o).run P w=r at *
   cases r with
   | ok n w'=>
    cases n<;>simp only[zY]at h ⊢ <;>
     first
      | exact h
      | exact Calls.mono h (λe w'' he=>by cases e<;>first|exact he|(obtain⟨a2,w2,h2⟩:=he;exact⟨a2,w2,h2⟩))
      | exact Rows.mono h (λ_ _ he=>he)
      | (obtain⟨a2,w2,h2⟩:=h;exact⟨a2,w2,h2⟩)
   | halt x w'=>
    cases x<;>simp only[zY]at h ⊢ <;> first|exact h|(obtain⟨a2,w2,h2⟩:=h;exact⟨a2,w2,h2⟩)
  ·exact .inr ⟨h.1,let⟨a2,w2,h2⟩:=h.2;⟨a2,w2,h2⟩⟩
 ·rename_i hw;rw[if_neg hw];exact h
theorem bK{P:Program}{ops:Array Oper}{Q:Exit->Act->World->Prop}{f k:Nat}{listed:Array Bool}{o:Oper}{a:Act}{w:World}(hr:lj .any ops listed = [k])(hk:ops[k]?=some o)(h:wpList P ops (BU (wpAny P .any ops Q f (listed.setIfInBounds k true)) Q) [o] a w):wpAny P .any ops Q (f+1) listed a w:=
 ⟨λh0=>(by rw[hr]at h0;cases h0),λi hi=>(by
  rw[hr,dr]at hi;subst hi;exact np hk h)⟩
theorem dC{P:Program}{ops:Array Oper}{Q:Exit->Act->World->Prop}{f j k:Nat}{listed:Array Bool}{oj ok:Oper}{a:Act}{w:World}(hr:lj .any ops listed = [j,k])(hj:ops[j]?=some oj)(hk:ops[k]?=some ok)
  (h1:wpList P ops (BU (wpAny P .any ops Q f (listed.setIfInBounds j true)) Q) [oj] a w) (h2:wpList P ops (BU (wpAny P .any ops Q f (listed.setIfInBounds k true)) Q) [ok] a w):wpAny P .any ops Q (f+1) listed a w:=
 ⟨λh0=>(by rw[hr]at h0;cases h0),λi hi=>(by
  rw[hr]at hi;simp only[aJ,aF,or_false]at hi;rcases hi with rfl|rfl
  ·exact np hj h1
  ·exact np hk h2)⟩
theorem any_nil{P:Program}{ops:Array Oper}{Q:Exit->Act->World->Prop}{listed:Array Bool}{a:Act}{w:World}(hr:lj .any ops listed = [])(h:Q .normal a w):wpAny P .any ops Q 0 listed a w:=⟨hr,h⟩
theorem cg{E:World->World->Prop}{κ:Nat}{Ψ:List (Nat×(Value->World->Prop))}(h:∀x∈Ψ,if x.1=κ then ∀v w w',Ext w w'->x.2 v w->x.2 v w' else ∀v w w',E w w'->x.2 v w->x.2 v w'):
  ∀i φ,eg Ψ i=some φ->∀v w w',(if i=κ then Ext w w' else E w w')->φ v w->φ v w':=by
 induction Ψ with
 | nil=>intro i φ ht;cases ht
 | cons x r ih=>
  intro i φ ht v w w' he hf;unfold eg at ht;split at ht
  ·rename_i hi
   cases ht;have:=h x (cy ..);subst hi;by_cases hk:x.1=κ
   ·rw[if_pos hk]at this he;exact this v w w' he hf
   ·rw[if_neg hk]at this he;exact this v w w' he hf
  ·exact ih (λy hy=>h y (cV _ hy)) i φ ht v w w' he hf
section
variable {E : World → World → Prop} {X : List PanicEntry → World → Prop} {κ : Nat} {P : Program} {ops : Array Oper} {w0 : World} {O : Nat → Option Nat} {Ψ : List (Nat × (Value → World → Prop))} {Q : Act → World → Prop} {o : Oper} {r : List Oper} {i : Nat} {a : Act} {F : fc} {G : Made}
theorem cQ(hw:bV o (yielded ops a.tmps)=false)(h:∀K:Act->Prop,(∀a,cj E X κ P ops w0 O Ψ Q r (i+1) a F G->K a)->K (a.put o.dst undef)):cj E X κ P ops w0 O Ψ Q (o::r) i a F G:=
 Law.skip hw (h _ λ_ h=>h)
theorem aX(hw:bV o (yielded ops a.tmps)=true)(ht:eg Ψ i=none)
  (h:∀K:Act->Prop,(∀a,cj E X κ P ops w0 O Ψ Q r (i+1) a F G->K a)->∃v,(∀w',E w0 w'->cd (dZ ops i) F w'->Xk.ko P o a w' v)/\K (a.put o.dst v)):cj E X κ P ops w0 O Ψ Q (o::r) i a F G:=by
 obtain⟨v,h1,h2⟩:=h _ λ_ h=>h;exact Law.det hw (ov ht) .inl h1 h2
theorem bc{φ:Value->World->Prop}(hw:bV o (yielded ops a.tmps)=true)(ht:eg Ψ i=some φ)(hi:i≠κ)
  (h:∀w',E w0 w'->cd (dZ ops i) F w'->Xe.eE Ext P o a w' (O i) φ)
  (hn:∀v,∀K:Act->Prop,(∀a,cj E X κ P ops w0 O Ψ Q r (i+1) a ((i,φ v)::F) ((i,v)::G)->K a)->K (a.put o.dst v)):cj E X κ P ops w0 O Ψ Q (o::r) i a F G:=
 Law.make hw (jG ht) (λw' hx hf=>Xe.oq .inl .inl (h w' (by simpa only[law,if_neg hi]using hx) hf)) λv=>hn v _ λ_ h=>h
def kR(E:World->World->Prop)(X:List PanicEntry->World->Prop)(w:World)(old:Option Nat)(φ:Value->World->Prop)(e:Ending)(w2:World):Prop:=
 (∃v,e = .returned v/\E w w2/\φ v w2/\jW w w2 old v)∨∃ch,e = .panicked ch/\X ch w2
def jT(E:World->World->Prop)(X:List PanicEntry->World->Prop)(P:Program)(o:Oper)(a:Act)(w:World)(old:Option Nat)(φ:Value->World->Prop):Prop:=
 match (execOp a.eval o).run P w with
 | .ok (.enter f args) w'=>w'=w/\Calls P f args w (kR E X w old φ)
 | _=>False
attribute [go_sem] jT
theorem ou{J:World->World->Prop}{B:Prop}{w:World}{old:Option Nat}{φ:Fct}(hJ:∀ {a b},E a b->J a b)(h:jT E X P o a w old φ):ib B J X P w old φ ((execOp a.eval o).run P w):=by
 unfold jT at h;generalize (execOp a.eval o).run P w=q at h
 cases q with
 | ok x w'=>
  cases x<;>simp only[kR]at h<;>simp only[ib]
  case enter=>exact⟨h.1,h.2.mono λe w2 h=>h.imp (λ⟨v,h1,h2,h3,h4⟩=>⟨v,h1,hJ h2,h3,λ_=>h4⟩) id⟩
 | halt x w'=>simp only at h
theorem dM{φ:Value->World->Prop}(hw:bV o (yielded ops a.tmps)=true)(ht:eg Ψ i=some φ)(hi:i=κ)
  (h:∀w',Ext w0 w'->cd (dZ ops i) F w'->jT E X P o a w' (O i) φ)
  (hn:∀v,∀K:Act->Prop,(∀a,cj E X κ P ops w0 O Ψ Q r (i+1) a ((i,φ v)::F) ((i,v)::G)->K a)->K (a.put o.dst v)):cj E X κ P ops w0 O Ψ Q (o::r) i a F G:=
 Law.make hw (jG ht) (λw' hx hf=>ou (λh => .inr ⟨hi,h⟩) (h w' (by simpa only[law,if_pos hi]using hx) hf)) λv=>hn v _ λ_ h=>h
theorem bD(h:∀w',E w0 w'->fP F w'->apart G->Q a w'):cj E X κ P ops w0 O Ψ Q [] i a F G:=λw hz hf hb=>h w hz hf (hb trivial)
end
attribute [irreducible] cj
theorem gs{P Q:Prop}(k:Q)(h:Q->P:=by
 intro k;have KQ:=Lib.hid k;clear k;repeat(refine Go.Xg.aX (Go.Xk.aQ cI) cI (λK hK=>?_);apply Exists.intro;refine⟨λW hx hp=>?_,?_⟩;(go_simp;exact⟨rfl,rfl⟩);(go_simp;refine hK _ ?_;clear hK K))
 exact KQ.out):P:=h k
end Go.Xg
set_option maxRecDepth 100000
namespace Go.Proofs
open Go.Shelf
def Tryz.rV:dW:=⟨fun|158=>96|165=>170|166=>171|167=>172|169=>173|230=>174|203=>175|240=>214|241=>215|197=>195|118=>216|168=>217|270=>218|262=>219|276=>245|277=>246|260=>234|242=>247|313=>248|278=>272|274=>273|275=>274|n=>n,fun|9=>9|4=>4|3=>3|5=>5|72=>197|0=>0|76=>200|75=>199|107=>204|70=>195|20=>20|37=>51|127=>229|21=>21|105=>211|164=>247|162=>253|203=>251|119=>265|46=>263|139=>268|138=>267|51=>260|160=>275|208=>286|206=>284|80=>133|n=>n,fun|13=>1|3=>3|4=>4|n=>n⟩
theorem Tryz.It:Go.Proofs.Lays.n158 af Tryz.rV:=by repeat' first|kernel_rfl|decide|intro _|constructor
theorem Tryz.qC:pI af Tryz.rV:=by repeat' first|kernel_rfl|decide|intro _|constructor
open Go.RowKit in
theorem Tryz.strings_ToUpper_ascii(s:ByteArray)(w:World)(hs:s.size≤140737488355328)(hascii:∀ (j:Nat) (b:UInt8),s.data.toList[j]?=some b->b.toNat<128):
  Calls af 96 #[.string s] w λe w'=>e = .returned (.string ⟨(iR s.data.toList).toArray⟩)/\Below w.heap.size w w':=Any.strings_ToUpper_ascii Tryz.It Tryz.qC s w hs hascii
def Tryz.rU:dW:=⟨fun|159=>125|165=>170|166=>171|167=>172|169=>173|230=>174|204=>193|240=>214|241=>215|197=>195|118=>216|168=>217|270=>218|262=>219|276=>245|277=>246|260=>234|242=>247|313=>248|278=>272|274=>273|275=>274|n=>n,fun|9=>9|4=>4|3=>3|5=>5|72=>197|0=>0|76=>200|75=>199|107=>204|70=>195|20=>20|37=>51|127=>229|21=>21|105=>211|164=>247|162=>253|203=>251|119=>265|46=>263|139=>268|138=>267|51=>260|160=>275|208=>286|206=>284|80=>133|n=>n,fun|13=>1|3=>3|4=>4|n=>n⟩
theorem Tryz.Is:Go.Proofs.Lays.n159 af Tryz.rU:=by repeat' first|kernel_rfl|decide|intro _|constructor
theorem Tryz.qB:pI af Tryz.rU:=by repeat' first|kernel_rfl|decide|intro _|constructor
open Go.RowKit in
theorem Tryz.strings_ToLower_ascii(s:ByteArray)(w:World)(hs:s.size≤140737488355328)(hascii:∀ (j:Nat) (b:UInt8),s.data.toList[j]?=some b->b.toNat<128):
  Calls af 125 #[.string s] w λe w'=>e = .returned (.string ⟨(Lib.toLowerA s.data.toList).toArray⟩)/\Below w.heap.size w w':=Any.strings_ToLower_ascii Tryz.Is Tryz.qB s w hs hascii
def Tryz.rW:dW:=⟨fun|156=>114|165=>170|166=>171|169=>173|240=>214|241=>215|276=>245|277=>246|n=>n,fun|31=>29|9=>9|3=>3|4=>4|0=>0|20=>20|72=>197|76=>200|70=>195|37=>51|75=>199|127=>229|164=>247|5=>5|80=>133|n=>n,fun|n=>n⟩
theorem Tryz.Ca:Go.Proofs.Lays.n156 af Tryz.rW:=by repeat' first|kernel_rfl|decide|intro _|constructor
theorem Tryz.lO:pI af Tryz.rW:=by repeat' first|kernel_rfl|decide|intro _|constructor
open Go.RowKit in
theorem Tryz.strings_Join_none(a:Option Addr)(c:Nat)(sep:ByteArray)(w:World):
  Calls af 114 #[.slice a 0 c,.string sep] w λe w'=>e = .returned (.string ⟨#[]⟩)/\w'=w:=Any.strings_Join_none Tryz.Ca Tryz.lO a c sep w
open Go.RowKit in
theorem Tryz.strings_Join(bk o c:Nat)(xs:List ByteArray)(sep:ByteArray)(w:World)(hcells:∀ (j:Nat) x,xs[j]?=some x->w.cell? ⟨bk,o+j,none⟩=some (.string x))(hbk:bk<w.heap.size)(hN:xs.length≤140737488355328)(hcap:xs.length≤c)(hlen:(Lib.join (xs.map (·.data.toList)) sep.data.toList).length≤140737488355328):
  Calls af 114 #[.slice (some ⟨bk,o,none⟩) xs.length c,.string sep] w λe w'=>e = .returned (.string ⟨(Lib.join (xs.map (·.data.toList)) sep.data.toList).toArray⟩)/\Below w.heap.size w w':=Any.strings_Join Tryz.Ca Tryz.lO bk o c xs sep w hcells hbk hN hcap hlen
def Tryz.yT:dW:=⟨fun|161=>63|231=>126|227=>127|233=>128|235=>129|228=>194|197=>195|151=>196|260=>234|152=>235|137=>67|119=>258|224=>259|225=>260|217=>130|266=>197|n=>n,fun|9=>9|4=>4|3=>3|5=>5|117=>172|116=>171|0=>0|124=>175|105=>211|21=>21|119=>265|46=>263|139=>268|138=>267|n=>n,fun|3=>3|4=>4|n=>n⟩
theorem Tryz.Ir:Go.Proofs.Lays.n161 af Tryz.yT:=by repeat' first|kernel_rfl|decide|intro _|constructor
open Go.RowKit in
theorem Tryz.strings_TrimLeft_one(s:ByteArray)(c:UInt8)(hc:c.toNat<128)(w:World):
  Calls af 63 #[.string s,.string ⟨#[c]⟩] w λe w'=>e = .returned (.string ⟨(Lib.trimLeftB s.data.toList c).toArray⟩)/\w'=w:=Any.strings_TrimLeft_one Tryz.Ir s c hc w
def Tryz.yU:dW:=⟨fun|137=>67|217=>130|266=>197|n=>n,fun|9=>9|5=>5|3=>3|n=>n,fun|n=>n⟩
theorem Tryz.Iv:Go.Proofs.Lays.n137 af Tryz.yU:=by repeat' first|kernel_rfl|decide|intro _|constructor
open Go.RowKit in
theorem Tryz.strings_IndexByte(s:ByteArray)(c:Int)(w:World):
  Calls af 67 #[.string s,.int .u8 c] w λe w'=>e = .returned (.int .i64 (qF s.data.toList c.toNat.toUInt8))/\w'=w:=Any.strings_IndexByte Tryz.Iv s c w
def Tryz.Ip:dW:=⟨fun|246=>192|283=>230|284=>231|285=>232|286=>233|129=>254|317=>253|318=>255|319=>256|320=>257|337=>278|338=>279|n=>n,fun|2=>2|3=>3|9=>9|4=>4|171=>239|0=>0|53=>185|37=>51|5=>5|173=>242|212=>259|51=>260|20=>20|213=>261|46=>263|232=>287|233=>288|n=>n,fun|17=>2|18=>7|19=>8|n=>n⟩
def Tryz.wO:dW:=⟨fun|173=>123|246=>192|283=>230|284=>231|285=>232|286=>233|129=>254|317=>253|318=>255|319=>256|320=>257|337=>278|338=>279|n=>n,fun|2=>2|3=>3|9=>9|4=>4|171=>239|0=>0|53=>185|37=>51|5=>5|173=>242|212=>259|51=>260|20=>20|213=>261|46=>263|232=>287|233=>288|n=>n,fun|17=>2|18=>7|19=>8|n=>n⟩
theorem Tryz.Fw:Go.Proofs.LaysM.n173 af Tryz.wO:=by repeat' first|kernel_rfl|decide|intro _|constructor
open Go.RowKit Go.Sort Go.Lib in
theorem Tryz.strconv_FormatInt_10 (n : Int) (h0 : -9223372036854775808 ≤ n) (h1 : n ≤ 9223372036854775807) (w : World) (htab : Lib.TabIs Tryz.prog w "internal/strconv.uint64pow10" .u64 Lib.pow10Tab) :
  Calls af 123 #[.int .i64 n,.int .i64 10] w λe w'=>e = .returned (.string ⟨(lM n).toArray⟩)/\∃k os,w'=grow (w.drewN k) os:=Any.strconv_FormatInt_10 Tryz.Fw n h0 h1 w htab
def Tryz.Iq:dW:=⟨fun|245=>240|279=>264|280=>265|281=>266|282=>267|316=>281|171=>283|205=>282|243=>288|246=>192|283=>230|284=>231|285=>232|286=>233|129=>254|317=>253|318=>255|319=>256|320=>257|337=>278|338=>279|n=>n,fun|9=>9|3=>3|75=>199|167=>270|4=>4|168=>271|210=>281|37=>51|0=>0|127=>229|145=>291|143=>289|2=>2|171=>239|53=>185|5=>5|173=>242|212=>259|51=>260|20=>20|213=>261|46=>263|232=>287|233=>288|80=>133|n=>n,fun|15=>5|16=>6|17=>2|18=>7|19=>8|n=>n⟩
def Tryz.wP:dW:=⟨fun|174=>204|247=>239|245=>240|287=>241|279=>264|280=>265|281=>266|282=>267|321=>268|322=>269|316=>281|171=>283|205=>282|243=>288|246=>192|283=>230|284=>231|285=>232|286=>233|129=>254|317=>253|318=>255|319=>256|320=>257|337=>278|338=>279|n=>n,fun|9=>9|3=>3|2=>2|75=>199|85=>217|4=>4|167=>270|5=>5|53=>185|175=>222|46=>263|168=>271|37=>51|0=>0|210=>281|21=>21|127=>229|145=>291|143=>289|171=>239|173=>242|212=>259|51=>260|20=>20|213=>261|232=>287|233=>288|80=>133|n=>n,fun|15=>5|16=>6|17=>2|18=>7|19=>8|n=>n⟩
theorem Tryz.yS:Go.Proofs.LaysC.n174 af Tryz.wP:=by repeat' first|kernel_rfl|decide|intro _|constructor
open Go.RowKit in
theorem Tryz.strconv_ParseInt_10_at64_ok(s:ByteArray)(hmax:s.size≤9223372036854775806)(v:Int)(h:Lib.parseIntB 64 s.data.toList = .ok v)(w:World):
  Calls af 204 #[.string s,.int .i64 10,.int .i64 64] w λe w'=>e = .returned (.tuple #[.int .i64 v,.nilIface])/\(w'=w∨∃t,w'=Lib.bytesWorld w 5 t):=Any.strconv_ParseInt_10_at64_ok Tryz.yS s hmax v h w
open Go.RowKit in
theorem Tryz.strconv_ParseInt_10_at64_range(s:ByteArray)(hlim:s.size≤281474976710656)(h:Lib.parseIntB 64 s.data.toList = .range)(ev:Value)(w:World)(hv:w.cell? ⟨6,0,none⟩=some ev)(hev:ev = .nilIface∨∃te pe,ev = .iface te pe):
  Calls af 204 #[.string s,.int .i64 10,.int .i64 64] w λe w'=>∃N,e = .returned (.tuple #[.int .i64 (Lib.intSat 64 s.data.toList),.iface 271 (.pointer (some ⟨N,0,none⟩))])/\w.heap.size≤N/\w'.heap[N]?=some (.cells #[.string ⟨#[80,97,114,115,101,73,110,116]⟩,.string s,ev] 281 (0,0))/\Below w.heap.size w w':=Any.strconv_ParseInt_10_at64_range Tryz.yS s hlim h ev w hv hev
def Tryz.wN:dW:=⟨fun|14=>206|16=>241|17=>240|19=>268|20=>269|21=>264|22=>265|23=>266|24=>267|25=>281|27=>283|26=>282|28=>288|29=>192|30=>230|31=>231|32=>232|33=>233|35=>254|34=>253|36=>255|37=>256|38=>257|39=>278|40=>279|n=>n,fun|9=>9|3=>3|22=>185|24=>199|25=>222|4=>4|34=>270|5=>5|36=>263|37=>51|0=>0|39=>271|21=>21|44=>281|47=>229|50=>291|48=>289|2=>2|52=>239|55=>242|59=>259|60=>260|20=>20|61=>261|65=>287|66=>288|67=>133|n=>n,fun|0=>5|1=>6|2=>2|3=>7|4=>8|n=>n⟩
theorem Tryz.yR:Go.Proofs.LaysPu.n14 af Tryz.wN:=by repeat' first|kernel_rfl|decide|intro _|constructor
open Go.RowKit in
theorem Tryz.strconv_ParseUint_10_at64_ok(s:ByteArray)(hmax:s.size≤9223372036854775806)(u:Nat)(h:Lib.parseUintB 64 s.data.toList = .ok u)(w:World):
  Calls af 206 #[.string s,.int .i64 10,.int .i64 64] w λe w'=>e = .returned (.tuple #[.int .u64 u,.nilIface])/\(w'=w∨w'=Lib.bytesWorld w 5 s):=Any.strconv_ParseUint_10_at64_ok Tryz.yR s hmax u h w
open Go.RowKit in
theorem Tryz.strconv_ParseUint_10_at64_range(s:ByteArray)(hlim:s.size≤281474976710656)(h:Lib.parseUintB 64 s.data.toList = .range)(ev:Value)(w:World)(hv:w.cell? ⟨6,0,none⟩=some ev)(hev:ev = .nilIface∨∃te pe,ev = .iface te pe):
  Calls af 206 #[.string s,.int .i64 10,.int .i64 64] w λe w'=>∃N,e = .returned (.tuple #[.int .u64 18446744073709551615,.iface 271 (.pointer (some ⟨N,0,none⟩))])/\w.heap.size≤N/\w'.heap[N]?=some (.cells #[.string ⟨#[80,97,114,115,101,85,105,110,116]⟩,.string s,ev] 281 (0,0))/\Below w.heap.size w w':=Any.strconv_ParseUint_10_at64_range Tryz.yR s hlim h ev w hv hev
def Tryz.I6:dW:=⟨fun|206=>124|n=>n,fun|9=>9|4=>4|3=>3|n=>n,fun|n=>n⟩
def Tryz.A9:dW:=⟨fun|99=>57|206=>124|n=>n,fun|9=>9|4=>4|3=>3|n=>n,fun|n=>n⟩
theorem Tryz.JH:Go.Proofs.Lays.n99 af Tryz.A9:=by repeat' first|kernel_rfl|decide|intro _|constructor
open Go.RowKit Go.Lib in
theorem Tryz.strings_HasPrefix(s p:ByteArray)(w:World):
  Calls af 57 #[.string s,.string p] w λe w'=>e = .returned (.bool (Lib.hasPrefix s.data.toList p.data.toList))/\w'=w:=Any.strings_HasPrefix Tryz.JH s p w
def Tryz.I7:dW:=⟨fun|154=>229|138=>251|165=>170|143=>252|166=>171|197=>195|169=>173|195=>275|218=>276|240=>214|241=>215|219=>277|260=>234|276=>245|277=>246|217=>130|225=>260|224=>259|267=>286|266=>197|314=>290|n=>n,fun|9=>9|3=>3|4=>4|72=>197|0=>0|76=>200|105=>211|21=>21|5=>5|70=>195|20=>20|37=>51|75=>199|127=>229|164=>247|46=>263|119=>265|139=>268|138=>267|146=>293|51=>260|80=>133|n=>n,fun|1=>0|3=>3|4=>4|n=>n⟩
def Tryz.rX:dW:=⟨fun|155=>190|154=>229|138=>251|165=>170|143=>252|166=>171|197=>195|169=>173|195=>275|218=>276|240=>214|241=>215|219=>277|260=>234|276=>245|277=>246|217=>130|225=>260|224=>259|267=>286|266=>197|314=>290|n=>n,fun|9=>9|3=>3|4=>4|72=>197|0=>0|76=>200|105=>211|21=>21|5=>5|70=>195|20=>20|37=>51|75=>199|127=>229|164=>247|46=>263|119=>265|139=>268|138=>267|146=>293|51=>260|80=>133|n=>n,fun|1=>0|3=>3|4=>4|n=>n⟩
theorem Tryz.Iu:Go.Proofs.Lays.n155 af Tryz.rX:=by repeat' first|kernel_rfl|decide|intro _|constructor
theorem Tryz.qD:pI af Tryz.rX:=by repeat' first|kernel_rfl|decide|intro _|constructor
open Go.RowKit Go.Lib in
theorem Tryz.strings_ReplaceAll(s old new:ByteArray)(m:Int)(w:World)(hs:s.size<4294967281)(hm:w.cell? ⟨0,0,none⟩=some (.int .i64 m))(h1:1≤old.size)(hlen:s.size+Lib.countB s old*new.size≤140737488355328):
  Calls af 190 #[.string s,.string old,.string new] w λe w'=>
   e = .returned (.string ⟨(Lib.replaceAll s.data.toList old.data.toList new.data.toList).toArray⟩)/\Below w.heap.size w w':=Any.strings_ReplaceAll Tryz.Iu Tryz.qD s old new m w hs hm h1 hlen
def Tryz.yV:dW:=⟨fun|110=>95|109=>169|n=>n,fun|31=>29|9=>9|4=>4|3=>3|0=>0|n=>n,fun|n=>n⟩
theorem Tryz.Iw:Go.Proofs.Lays.n110 af Tryz.yV:=by repeat' first|kernel_rfl|decide|intro _|constructor
open Go.Lib in
theorem Tryz.slices_Contains_string(b off n c:Nat)(zs:List ByteArray)(x:ByteArray)(w:World)(hz:n≤zs.length)(hbig:n≤9223372036854775807)(hc:∀j,j<zs.length->w.cell? ⟨b,off+j,none⟩=some (.string (zs.getD j ByteArray.empty))):
  Calls af 95 #[.slice (some ⟨b,off,none⟩) n c,.string x] w λe w'=>e = .returned (.bool (Lib.containsS (zs.take n) x))/\w'=w:=Any.slices_Contains_string Tryz.Iw b off n c zs x w hz hbig hc
end Go.Proofs
namespace Go.Xh
open Go.RowKit
open Go.Xk hiding law cj eE gS jv cQ aX bc bD
open Go.Xe (Pre)
def law(E:World->World->Prop)(X:List PanicEntry->World->Prop)(κ μ:Nat)(S1 S2:World->Prop)(P:Program)(ops:Array Oper)(w0:World)(O:Nat->Option Nat)(Ψ:List (Nat×Fct))(Q:Act->World->Prop):Law:=
 ⟨True,P,ops,w0,O,cst Ψ,E w0,λi w=>if i=κ then Ext w0 w else E w0 w/\(i=μ->S1 w),λw=>E w0 w/\S2 w,λi a b=>(eg Ψ i=none/\Ext a b)∨if i=κ then E a b/\S1 b else if i=μ then E a b/\S2 b else Ext a b,λ_=>X,Q⟩
def cj(E:World->World->Prop)(X:List PanicEntry->World->Prop)(κ μ:Nat)(S1 S2:World->Prop)(P:Program)(ops:Array Oper)(w0:World)(O:Nat->Option Nat)(Ψ:List (Nat×Fct))(Q:Act->World->Prop):List Oper->Nat->Act->fc->Made->Prop:=(law E X κ μ S1 S2 P ops w0 O Ψ Q).rel
def Eo(ops:Array Oper)(Ψ:List (Nat×(Value->World->Prop)))(κ μ n:Nat):Prop:=
 κ≠μ/\κ<n/\μ<n/\(dZ ops μ).testBit κ=true/\(∀o,ops[κ]?=some o->o.guard=none)/\(∀o,ops[μ]?=some o->o.guard=none)/\eg Ψ κ≠none/\eg Ψ μ≠none
theorem tC{E:World->World->Prop}(hE:Pre E){X:List PanicEntry->World->Prop}{κ μ:Nat}{S1 S2:World->Prop}{P:Program}{ops:Array Oper}{w:World}{n:Nat}{O:Nat->Option Nat}(hO:∀i b,O i=some b->b<w.heap.size)(hOO:∀i j b,i≠j->O i=some b->O j≠some b){Ψ:List (Nat×Fct)}
  (hst:∀i φ,eg Ψ i=some φ->∀v w w',E w w'->φ v w->φ v w') (hS1:∀w w',Ext w w'->S1 w->S1 w') (hS2:∀w w',Ext w w'->S2 w->S2 w') (h2:Eo ops Ψ κ μ n) (Q:Act->World->Prop) :
  (law E X κ μ S1 S2 P ops w.drew O Ψ Q).Ok n λL w'=>E w.drew w'/\(L κ=false->Ext w.drew w')/\(L κ=true->L μ=false->S1 w')/\(L μ=true->S2 w'/\L κ=true):=by
 obtain⟨hkm,hkn,hmn,hanc,hko,hmo,htk,htm⟩:=h2
 have hJ:∀ {i:Nat} {a b:World},(law E X κ μ S1 S2 P ops w.drew O Ψ Q).J i a b->E a b:=fun {i a b} h=>by
  rcases h with h|h
  ·exact hE.ext h.2
  ·split at h
   ·exact h.1
   ·split at h
    ·exact h.1
    ·exact hE.ext h
 refine⟨⟨hE.refl _,λ_=>al _ _,λh=>(by cases h),λh=>(by cases h)⟩,λL i a b _ h hL ha hj=>?_,λ_ _ h=>h.1,λL i a _ h hL ha=>?_,λL _ h hf=>⟨h.1,(h.2.2.2 (hf μ hmn)).1⟩,λi _=>?_,λi a b h=>hE.size (hJ h),λ_ _ h=>hE.size h.1,λi j φ _ ht ls v a b hj hf=>?_,λi b h=>by simpa[law]using hO i b h,hOO⟩
 ·obtain⟨h1,h2,h3,h4⟩:=h;by_cases hk:i=κ
  ·subst hk
   have hs:E a b/\S1 b:=by
    rcases hj with hj|hj
    ·exact absurd hj.1 htk
    ·rwa [if_pos rfl]at hj
   have hm:L μ=false:=by
    cases hm:L μ with
    | false=>rfl
    | true=>rw[(h4 hm).2]at hL;cases hL
   refine⟨hE.trans h1 hs.1,λe=>by simp at e,λ_ _=>hs.2,λe=>by simp[mb hkm,hm]at e⟩
  ·by_cases hu:i=μ
   ·subst hu
    have hs:E a b/\S2 b:=by
     rcases hj with hj|hj
     ·exact absurd hj.1 htm
     ·rwa [if_neg hk,if_pos rfl]at hj
    have hL':L κ=true:=ha κ hkn hanc;exact⟨hE.trans h1 hs.1,λe=>by simp[hL']at e,λ_ e=>by simp at e,λ_=>⟨hs.2,by simp[hL']⟩⟩
   ·have hx:Ext a b:=by
     rcases hj with hj|hj
     ·exact hj.2
     ·rwa [if_neg hk,if_neg hu]at hj
    refine⟨hE.trans h1 (hE.ext hx),λe=>?_,λe e'=>?_,λe=>?_⟩
    ·exact Ext.trans (h2 (by simpa[mb hk]using e)) hx
    ·exact hS1 _ _ hx (h3 (by simpa[mb hk]using e) (by simpa[mb hu]using e'))
    ·have:=h4 (by simpa[mb hu]using e);exact⟨hS2 _ _ hx this.1,by simp[this.2]⟩
 ·obtain⟨h1,h2,h3,h4⟩:=h;simp only[law];split
  ·rename_i e;subst e;exact h2 hL
  ·exact⟨h1,λe=>by subst e;exact h3 (ha κ hkn hanc) hL⟩
 ·by_cases hk:i=κ
  ·subst hk;exact .inr ⟨by simp[law,kS,htk],hko⟩
  ·by_cases hu:i=μ
   ·subst hu;exact .inr ⟨by simp[law,kS,htm],hmo⟩
   ·exact .inl λa => .inr (by rw[if_neg hk,if_neg hu];exact al _ _)
 ·simp only[law,kS]at ht
  cases hψ:eg Ψ j with
  | none=>rw[hψ]at ht;cases ht
  | some ψ=>rw[hψ]at ht;cases ht;exact hst j ψ hψ v a b (hJ hj) hf
theorem ed{E:World->World->Prop}(hE:Pre E)(X:List PanicEntry->World->Prop)(κ μ:Nat)(S1 S2:World->Prop){P:Program}{id:Nat}{Q:Exit->Act->World->Prop}{a:Act}{w:World}{l:List Oper}(n:Nat)(O:Nat->Option Nat)(hO:∀i b,O i=some b->b<w.heap.size)(hOO:∀i j b,i≠j->O i=some b->O j≠some b)(Ψ:List (Nat×(Value->World->Prop)))(hm:P.follows .mixedOrders=true)(hB:vZ l.toArray n=true)
  (hst:∀i φ,eg Ψ i=some φ->∀v w w',E w w'->φ v w->φ v w') (hX:∀ch a' w',a'.defers=a.defers->X ch w'->Q (.panic ch) a' w')
  (hS1:∀w w',Ext w w'->S1 w->S1 w') (hS2:∀w w',Ext w w'->S2 w->S2 w') (h2:Eo l.toArray Ψ κ μ n) (g:Nat) (hg:n+g=l.toArray.size)
  (h:cj E X κ μ S1 S2 P l.toArray w.drew O Ψ (λa' w'=>wpAny P .any l.toArray Q g (bH n true++bH g false) a' w') (l.take n) 0 a [] []):(gN id l.toArray true).wp P Q a w:=
 kC (tC hE hO hOO hst hS1 hS2 h2 λa' w'=>wpAny P .any l.toArray Q g (bH n true++bH g false) a' w') hm (rL hB) rfl (λ_=>hX) (λ_ _ h=>by rw[show(law E X κ μ S1 S2 P l.toArray w.drew O Ψ _).ops.size-n=g by simp only[law];omega];exact h) (by simpa[law,cj]using h)
theorem bm{E:World->World->Prop}(hE:Pre E)(X:List PanicEntry->World->Prop)(κ μ:Nat)(S1 S2:World->Prop){P:Program}{id:Nat}{Q:Exit->Act->World->Prop}{a:Act}{w:World}{l:List Oper}(n:Nat)(O:Nat->Option Nat)(hO:∀i b,O i=some b->b<w.heap.size)(hOO:∀i j b,i≠j->O i=some b->O j≠some b)(Ψ:List (Nat×(Value->World->Prop)))(hm:P.follows .mixedOrders=true)(hB:nf l.toArray n=true)
  (hst:∀i φ,eg Ψ i=some φ->∀v w w',E w w'->φ v w->φ v w') (hX:∀ch a' w',a'.defers=a.defers->X ch w'->Q (.panic ch) a' w')
  (hS1:∀w w',Ext w w'->S1 w->S1 w') (hS2:∀w w',Ext w w'->S2 w->S2 w') (h2:Eo l.toArray Ψ κ μ n)
  (h:cj E X κ μ S1 S2 P l.toArray w.drew O Ψ (λa' w'=>wpList P l.toArray Q (l.drop n) a' w') (l.take n) 0 a [] []):(gN id l.toArray true).wp P Q a w:=
 kC (tC hE hO hOO hst hS1 hS2 h2 λa' w'=>wpList P l.toArray Q (l.drop n) a' w') hm (mM hB) rfl (λ_=>hX) (λ_ _=>pW hB) (by simpa[law,cj]using h)
theorem cg{E:World->World->Prop}{Ψ:List (Nat×(Value->World->Prop))}(h:∀x∈Ψ,∀v w w',E w w'->x.2 v w->x.2 v w'):
  ∀i φ,eg Ψ i=some φ->∀v w w',E w w'->φ v w->φ v w':=by
 induction Ψ with
 | nil=>intro i φ ht;cases ht
 | cons x r ih=>
  intro i φ ht v w w' he hf;unfold eg at ht;split at ht
  ·cases ht;exact h x (cy ..) v w w' he hf
  ·exact ih (λy hy=>h y (cV _ hy)) i φ ht v w w' he hf
section
variable {E : World → World → Prop} {X : List PanicEntry → World → Prop} {κ μ : Nat} {S1 S2 : World → Prop} {P : Program} {ops : Array Oper} {w0 : World} {O : Nat → Option Nat} {Ψ : List (Nat × (Value → World → Prop))} {Q : Act → World → Prop} {o : Oper} {r : List Oper} {i : Nat} {a : Act} {F : fc} {G : Made}
theorem cQ(hw:bV o (yielded ops a.tmps)=false)(h:∀K:Act->Prop,(∀a,cj E X κ μ S1 S2 P ops w0 O Ψ Q r (i+1) a F G->K a)->K (a.put o.dst undef)):cj E X κ μ S1 S2 P ops w0 O Ψ Q (o::r) i a F G:=
 Law.skip hw (h _ λ_ h=>h)
theorem aX(hw:bV o (yielded ops a.tmps)=true)(ht:eg Ψ i=none)
  (h:∀K:Act->Prop,(∀a,cj E X κ μ S1 S2 P ops w0 O Ψ Q r (i+1) a F G->K a)->∃v,(∀w',E w0 w'->cd (dZ ops i) F w'->Xk.ko P o a w' v)/\K (a.put o.dst v)):cj E X κ μ S1 S2 P ops w0 O Ψ Q (o::r) i a F G:=by
 obtain⟨v,h1,h2⟩:=h _ λ_ h=>h;exact Law.det hw (ov ht) (λh => .inl ⟨ht,h⟩) h1 h2
theorem bc{φ:Value->World->Prop}(hw:bV o (yielded ops a.tmps)=true)(ht:eg Ψ i=some φ)(hi:i≠κ/\i≠μ)
  (h:∀w',E w0 w'->cd (dZ ops i) F w'->Xe.eE Ext P o a w' (O i) φ)
  (hn:∀v,∀K:Act->Prop,(∀a,cj E X κ μ S1 S2 P ops w0 O Ψ Q r (i+1) a ((i,φ v)::F) ((i,v)::G)->K a)->K (a.put o.dst v)):cj E X κ μ S1 S2 P ops w0 O Ψ Q (o::r) i a F G:=
 have hj:∀ {a b},Ext a b->(law E X κ μ S1 S2 P ops w0 O Ψ Q).J i a b:=λh => .inr (by rw[if_neg hi.1,if_neg hi.2];exact h);Law.make hw (jG ht) (λw' hx hf=>Xe.oq hj hj (h w' (by simp only[law,if_neg hi.1]at hx;exact hx.1) hf)) λv=>hn v _ λ_ h=>h
def kR(E:World->World->Prop)(X:List PanicEntry->World->Prop)(S:World->Prop)(w:World)(old:Option Nat)(φ:Value->World->Prop)(e:Ending)(w2:World):Prop:=
 (∃v,e = .returned v/\E w w2/\S w2/\φ v w2/\jW w w2 old v)∨∃ch,e = .panicked ch/\X ch w2
def jT(E:World->World->Prop)(X:List PanicEntry->World->Prop)(S:World->Prop)(P:Program)(o:Oper)(a:Act)(w:World)(old:Option Nat)(φ:Value->World->Prop):Prop:=
 match (execOp a.eval o).run P w with
 | .ok (.enter f args) w'=>w'=w/\Calls P f args w (kR E X S w old φ)
 | _=>False
attribute [go_sem] jT
theorem ou{J:World->World->Prop}{B:Prop}{S:World->Prop}{w:World}{old:Option Nat}{φ:Fct}(hJ:∀ {a b},E a b->S b->J a b)(h:jT E X S P o a w old φ):ib B J X P w old φ ((execOp a.eval o).run P w):=by
 unfold jT at h;generalize (execOp a.eval o).run P w=q at h
 cases q with
 | ok x w'=>
  cases x<;>simp only[kR]at h<;>simp only[ib]
  case enter=>exact⟨h.1,h.2.mono λe w2 h=>h.imp (λ⟨v,h1,h2,hs,h3,h4⟩=>⟨v,h1,hJ h2 hs,h3,λ_=>h4⟩) id⟩
 | halt x w'=>simp only at h
theorem uY{φ:Value->World->Prop}(hw:bV o (yielded ops a.tmps)=true)(ht:eg Ψ i=some φ)(hi:i=κ)
  (h:∀w',Ext w0 w'->cd (dZ ops i) F w'->jT E X S1 P o a w' (O i) φ)
  (hn:∀v,∀K:Act->Prop,(∀a,cj E X κ μ S1 S2 P ops w0 O Ψ Q r (i+1) a ((i,φ v)::F) ((i,v)::G)->K a)->K (a.put o.dst v)):cj E X κ μ S1 S2 P ops w0 O Ψ Q (o::r) i a F G:=
 Law.make hw (jG ht) (λw' hx hf=>ou (λh hs => .inr (by rw[if_pos hi];exact⟨h,hs⟩)) (h w' (by simpa only[law,if_pos hi]using hx) hf)) λv=>hn v _ λ_ h=>h
theorem uX{φ:Value->World->Prop}(hw:bV o (yielded ops a.tmps)=true)(ht:eg Ψ i=some φ)(hi:i≠κ/\i=μ)
  (h:∀w',E w0 w'->S1 w'->cd (dZ ops i) F w'->jT E X S2 P o a w' (O i) φ)
  (hn:∀v,∀K:Act->Prop,(∀a,cj E X κ μ S1 S2 P ops w0 O Ψ Q r (i+1) a ((i,φ v)::F) ((i,v)::G)->K a)->K (a.put o.dst v)):cj E X κ μ S1 S2 P ops w0 O Ψ Q (o::r) i a F G:=
 Law.make hw (jG ht) (λw' hx hf=>ou (λh hs => .inr (by rw[if_neg hi.1,if_pos hi.2];exact⟨h,hs⟩)) (by
  simp only[law,if_neg hi.1]at hx;exact h w' hx.1 (hx.2 hi.2) hf)) λv=>hn v _ λ_ h=>h
theorem bD(h:∀w',E w0 w'->S2 w'->fP F w'->apart G->Q a w'):cj E X κ μ S1 S2 P ops w0 O Ψ Q [] i a F G:=λw hz hf hb=>h w hz.1 hz.2 hf (hb trivial)
end
attribute [irreducible] cj
end Go.Xh
namespace Go.Xk
open Go.RowKit
theorem sP{P:Program}(w:World)(src dst e:TypeId)(hs:P.underlying src=some (.slice e))(he:P.underlying e=some (.int .u8))(hd:P.underlying dst=some .string)(b off len cap:Nat)(ns:List Int)(hl:ns.length=len)
  (hc:∀j,j<len->w.cell? ⟨b,off+j,none⟩=some (.int .u8 (ns.getD j 0))) :
  (convert src dst (.slice (some ⟨b,off,none⟩) len cap)).run P w = .ok (.string ⟨(ns.map λn=>ja n.toNat).toArray⟩) w:=by
 subst hl;rw[run_convert_bytes_string w src dst e _ _ _ hs he hd,run_bytesToString w _ _ _ ns,foldl_push_bytes]
 ·have e:(ByteArray.empty).data = #[]:=rfl;rw[e,Array.empty_append]
 ·have:=run_loadCells_list (P:=P) (w:=w) ⟨b,off,none⟩ (ns.map (lK .u8)) (λj v hj=>by
   simp only[jA,fF]at hj;obtain⟨n,hn,rfl⟩:=hj;have hlt:j<ns.length:=(cr.1 hn).1;have h:=hc j hlt
   have e1:(zU ⟨b,off,none⟩ j)=⟨b,off+j,none⟩:=by
    unfold zU;split
    ·rename_i h0;subst h0;rfl
    ·rfl
   rw[e1,h];simp[hn])
  simpa using this
@[go_sem] theorem Ka{P:Program}(w:World)(src dst B c:Nat)(n:Int)(t:TypeId)(hB:B=w.heap.size)(hs:P.underlying src=some (.slice (P.elem src)))(he:P.underlying (P.elem src)=some (.int .u8))(hd:P.underlying dst=some .string):
  (convert src dst (.slice (some ⟨B,0,none⟩) 1 c)).run P (w.alloc (.cells #[.int .u8 n] t)) = .ok (.string ⟨#[ja n.toNat]⟩) (w.alloc (.cells #[.int .u8 n] t)):=by
 subst hB
 have:=sP (P:=P) (w.alloc (.cells #[.int .u8 n] t)) src dst _ hs he hd w.heap.size 0 1 c [n] rfl (λj hj=>by
  obtain rfl:j=0:=av;simp)
 simpa using this
def Acc(w:World)(base:Nat)(e:TypeId)(size:Nat)(v:Value)(n:Nat)(xs:List Value):Prop:=
 w.ownsRow base e size v n xs∨(∃b off,v = .slice (some ⟨b,off,none⟩) n n/\xs.length=n*size/\∀j u,xs[j]?=some u->w.cell? ⟨b,off+j,none⟩=some u)
theorem addr_add(b off j:Nat):zU ⟨b,off,none⟩ j=⟨b,off+j,none⟩:=by
 unfold zU;split
 ·rename_i h0;subst h0;rfl
 ·rfl
theorem rO{w:World}{b:Nat}{e:TypeId}{size:Nat}{v:Value}{n:Nat}{xs:List Value}(h:w.ownsRow b e size v n xs):∀k,v.ownBlock=some k->b≤k:=by
 obtain⟨h1,h2⟩:=h;intro k hk;rcases h2 with⟨rfl,_⟩|⟨g,cap,cur,rfl,hg,r⟩
 ·cases hk
 ·simp only[gK,fq]at hk;omega
def iX(l:List UInt8):List Value:=l.map λc=>lK .u8 c.toNat
theorem uD(l:List UInt8):(iX l).length=l.length:=by simp[iX]
theorem zJ(l:List UInt8)(c:UInt8):iX l ++ [.int .u8 c.toNat]=iX (l ++ [c]):=by simp[iX]
theorem Acc.cells{w:World}{base:Nat}{e:TypeId}{v:Value}{n:Nat}{xs:List Value}(h:Acc w base e 1 v n xs):xs.length=n/\((v = .slice none 0 0/\n=0)∨
  ∃b off cap,v = .slice (some ⟨b,off,none⟩) n cap/\∀j u,xs[j]?=some u->w.cell? ⟨b,off+j,none⟩=some u):=by
 rcases h with⟨h1,h2⟩|⟨b,off,hv,hl,hc⟩
 ·refine⟨by simpa using h1,?_⟩;rcases h2 with h2|⟨g,cap,cur,hv,hg,hb,hn,hcap,hcs,hx⟩
  ·exact .inl h2
  ·refine .inr ⟨g,0,cap,hv,λj u hj=>?_⟩;have hjn:j<n:=by have:=(cr.1 hj).1;rw[h1]at this;omega
   rw[← hx,di,if_pos av]at hj;simp only[ak,hb,eF,Option.isSome_none,aS,if_false];simpa using hj
 ·exact⟨by simpa using hl,.inr ⟨b,off,n,hv,hc⟩⟩
theorem Acc.str{P:Program}{w:World}{base:Nat}{e0:TypeId}{v:Value}{n:Nat}{l:List UInt8}(h:Acc w base e0 1 v n (iX l))(src dst e:TypeId)(hs:P.underlying src=some (.slice e))(he:P.underlying e=some (.int .u8))(hd:P.underlying dst=some .string):
  (convert src dst v).run P w = .ok (.string ⟨l.toArray⟩) w:=by
 obtain⟨hl,h⟩:=h.cells;rw[uD]at hl;rcases h with⟨rfl,h0⟩|⟨b,off,cap,rfl,hc⟩
 ·rw[run_convert_bytes_string w src dst e _ _ _ hs he hd];have:l = []:=iQ av
  subst this;simp[Conv.bytesToString];rfl
 ·have:=sP (P:=P) w src dst e hs he hd b off n cap (l.map λc=>(c.toNat:Int)) (by simpa using hl) (λj hj=>by
   refine hc j _ ?_;have hj':j<l.length:=av;simp[iX,hj'])
  rw[this]
  have e:((l.map λc=>(c.toNat:Int)).map λn=>ja n.toNat)=l:=by
   rw[List.map_map];have:((λn:Int=>ja n.toNat)∘λc:UInt8=>(c.toNat:Int))=id:=by funext c;simp
   rw[this,List.map_id]
  rw[e]
end Go.Xk
