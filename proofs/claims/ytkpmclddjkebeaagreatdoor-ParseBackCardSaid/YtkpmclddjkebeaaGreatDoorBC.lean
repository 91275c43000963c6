/- What the claim's proof leans on, part 3: walks of functions and plain laws. -/
import Derived.StillTail
import Derived.Below
import Derived.Lib.QuietBelow
import Derived.KernelRfl
import Derived.Lib.Hide
import Derived.WalkKit
import Derived.OwnWalk
import Derived.Laws.OwnMore
import Derived.ArgAppend
import Derived.Deep.Light
import Derived.Shelf.Strings.Builder1
import Derived.Shelf.Strings.Builder2
import Derived.Shelf.Strings.OnBuilder
import Derived.Shelf.Strings.Trim
import Derived.Shelf.Small.Utf8
import Derived.Shelf.Small.Strs
import Derived.Shelf.Strings.BuilderF
import Derived.Shelf.Strings.BuilderK
import Derived.Shelf.Strings.BuilderRune
import Derived.Shelf.Strconv.Itoa0
import Derived.Shelf.Strconv.Itoa1
import Derived.Shelf.LaysM
import Derived.Shelf.Strconv.Itoa2
import Derived.Shelf.Strconv.Itoa3
import Derived.Shelf.Strconv.Itoa4
import Derived.Shelf.Strconv.ParseIntEmpty
import Derived.Shelf.Strconv.Clone
import Derived.Shelf.Strconv.SyntaxError
import Derived.Shelf.LaysC
import Derived.Shelf.Strconv.ToError
import Derived.Shelf.Strconv.Lower
import Derived.Shelf.Strconv.ParseUint10
import Derived.Shelf.Strconv.ParseUint10Empty
import Derived.Shelf.Strconv.ParseUint10Any
import Derived.Shelf.Strconv.ParseInt10
import Derived.Shelf.Strconv.RangeError
import Derived.Shelf.Strconv.ToErrorRange
import Derived.Shelf.Strconv.ParseUintEmpty
import Derived.Shelf.Strconv.ParseUint10b64
import Derived.Shelf.Strconv.ParseUint10b32
import Derived.Shelf.Strconv.ParseUint10b16
import Derived.Shelf.Strconv.ParseUint10b8
import Derived.Shelf.Strconv.ParseUint10At
import Derived.Shelf.Strconv.ParseInt10At64
import Derived.Shelf.Strconv.ParseInt10At32
import Derived.Shelf.Strconv.ParseInt10At16
import Derived.Shelf.Strconv.ParseInt10At8
import Derived.Shelf.Strconv.ParseInt10All
import Derived.Shelf.Strconv.ParseIntPublic10
import Derived.Shelf.Strconv.ErrVarParseInt
import Derived.Ground.MpProg
import Derived.Shelf.Pu.ParseUintPublic10
import Derived.Shelf.Pu.ErrVarParseUint
import Derived.Shelf.Strings.Search1
import Derived.Shelf.Strings.Search2
import Derived.Shelf.Strings.Search3
import Derived.Shelf.Strings.Count
import Derived.Shelf.Strings.Shaped
import Derived.Shelf.Strings.Prefix
import Derived.Shelf.Strings.Split
import Derived.Shelf.Strings.Replace
import Derived.Shelf.Strings.SplitShaped
import Derived.Shelf.Unicode.Latin
import Derived.Shelf.Strings.Runes
import Derived.Shelf.Strings.AsciiSet
import Derived.Shelf.Unicode.DecodeSlow
import Derived.Shelf.Unicode.DecodeAny
import Derived.Shelf.Unicode.CaseLookup
import Derived.Shelf.Unicode.CaseConvert
import Derived.Shelf.Unicode.CaseTo
import Derived.Shelf.Unicode.CaseLaid
import Derived.Shelf.Strings.MapAny
import Derived.Shelf.Strings.CaseAny
import Derived.Shelf.Slices.Turned
import Derived.Ground.SlgfProg
import Derived.Shelf.SlicesE.IndexFunc
import Derived.Test.YtkpmclddjkebeaaGreatDoorProg
import Derived.Laws.BytesString
import Derived.Laws.BytesArg
import Derived.Laws.Cells
set_option linter.unusedSimpArgs false
set_option linter.unusedVariables false
set_option maxRecDepth 100000
set_option maxHeartbeats 8000000
open Array renaming append_assoc→mv,getD_eq_getD_getElem?→Bj,getElem?_eq_getElem→cD,getElem?_eq_none→dJ,getElem?_eq_some_iff→ae,replicate→bD
open Bool renaming and_eq_true→aq,not_eq_true'→dF,or_eq_true→dM
open Exists renaming intro→ai
open Go.Addr renaming add→zi
open Go.Code renaming region→gC
open Go.Lib renaming hid→aa,indexByte→qI,itoa→ee,toUpperA→iB
open Go.Oper renaming upon→zk
open Go.Proofs.Builder renaming Extra→pM
open Go.Proofs.Tryz renaming prog→ab
open Go.Region renaming binds→kV,chainB→pR,noSelect→nu,ready→kU,sinkB→nt,wanted→bO
open Go.RowKit.Below renaming refl→aj
open Go.Shelf renaming Ren→dx
open Go.Sort renaming grow→nr
open Go.Value renaming int→jF,ownBlock→gA,slice→mu
open Go.World renaming block_lt_of_cell?→al,cell?→ak,cell?_alloc_mark→jM,cell?_of_block→vl,ownsRow_nil→gL,size_alloc→af,size_drew→cQ,size_setCell→aQ
open Go renaming frozen_of_row→aN,getD_replicate_false→lA,getD_set_ne→zh
open List renaming all_eq_true→bA,drop_succ_cons→aG,drop_zero→aT,eq_nil_of_length_eq_zero→mr,getElem?_eq_some_iff→cP,getElem?_map→jc,getElem?_take→fp,map_cons→fX,mem_append_left→np,mem_cons→aI,mem_cons_of_mem→cO,mem_cons_self→cy,mem_iff_getElem?→qA,mem_range→kT,mem_singleton→bW,not_mem_nil→aC,range→pL,take_succ_cons→aA,take_take→na,take_zero→aS
open Nat renaming add_comm→sv,add_zero→jZ,le_refl→ag,le_trans→bH,lt_of_lt_of_le→aD,lt_or_ge→jY,min_eq_left→mo,mul_le_mul_right→ni,strongRecOn→Bf,zero_add→fe,zero_le→fP
open Ne renaming symm→lQ
open Option renaming map_eq_some_iff→fx
open Option.some renaming inj→lP,injEq→fg
open UInt8 renaming ofNat→kQ
namespace Go.Xk
open Go.RowKit
abbrev Ext(w w':World):Prop:=Below w.heap.size w w'
theorem Ext.trans{a b c:World}(h:Ext a b)(k:Ext b c):Ext a c:=Below.trans h (k.mono h.size)
abbrev eU:=List (Nat×(World->Prop))
def fW:eU->World->Prop
 | [],_=>True
 | x::r,w=>x.2 w/\fW r w
def cg(m:Nat):eU->World->Prop
 | [],_=>True
 | x::r,w=>if m.testBit x.1 then x.2 w/\cg m r w else cg m r w
def dH(Ψ:List (Nat×(Value->World->Prop)))(i:Nat):Option (Value->World->Prop):=
 match Ψ with
 | []=>none
 | x::r=>if x.1=i then some x.2 else dH r i
def dA(ops:Array Oper)(i:Nat):Nat:=(Region.before ops).getD i 0
def ig(vals:Nat->Value):List Oper->Nat->Act->Act
 | [],_,a=>a
 | o::r,i,a=>ig vals r (i+1) (a.put o.dst (vals i))
theorem size_put(a:Act)(d:Option Tmp)(v:Value):(a.put d v).tmps.size=a.tmps.size:=by cases d<;>simp[Act.put]
theorem tP(a:Act)(d:Option Tmp)(v:Value):(a.put d v).defers=a.defers:=by cases d<;>rfl
theorem nO(a:Act)(d:Option Tmp)(v:Value)(t:Tmp)(h:d≠some t):(a.put d v).tmps.getD t undef=a.tmps.getD t undef:=by
 cases d with
 | none=>rfl
 | some d=>
  have hne:d≠t:=λe=>h (by rw[e]);simp[Act.put,Array.getElem?_setIfInBounds_ne hne]
theorem sb(a:Act)(v:Value)(t:Tmp)(h:t<a.tmps.size):(a.put (some t) v).tmps.getD t undef=v:=by
 simp[Act.put,h]
theorem rO(vals:Nat->Value):∀ (l:List Oper) (i:Nat) (a:Act),(ig vals l i a).tmps.size=a.tmps.size
 | [],_,_=>rfl
 | o::r,i,a=>by rw[ig,rO vals r,size_put]
theorem pg(vals:Nat->Value):∀ (l:List Oper) (i:Nat) (a:Act),(ig vals l i a).defers=a.defers
 | [],_,_=>rfl
 | o::r,i,a=>by rw[ig,pg vals r,tP]
theorem jq(vals:Nat->Value)(t:Tmp):∀ (l:List Oper) (i:Nat) (a:Act),(∀o∈l,o.dst≠some t)->(ig vals l i a).tmps.getD t undef=a.tmps.getD t undef
 | [],_,_,_=>rfl
 | o::r,i,a,h=>by
  rw[ig,jq vals t r _ _ (λo' ho=>h o' (cO _ ho)),nO _ _ _ _ (h o (cy ..))]
theorem nP(vals:Nat->Value)(t:Tmp):∀ (l:List Oper) (i:Nat) (a:Act) (k:Nat) (o:Oper),l[k]?=some o->o.dst=some t->(∀k' o',l[k']?=some o'->k'≠k->o'.dst≠some t)->
  t<a.tmps.size->(ig vals l i a).tmps.getD t undef=vals (i+k)
 | [],_,_,_,_,h,_,_,_=>by simp at h
 | o::r,i,a,0,o',h,hd,hu,ht=>by
  simp only[List.getElem?_cons_zero,fg]at h;subst h
  rw[ig,jq vals t r _ _ (λo' ho=>by
   obtain⟨k',hk⟩:=qA.1 ho;exact hu (k'+1) o' (by simpa using hk) (by omega)),hd,sb _ _ _ ht,jZ]
 | o::r,i,a,k+1,o',h,hd,hu,ht=>by
  rw[ig,nP vals t r (i+1) _ k o' (by simpa using h) hd (λk' o'' h' hk=>hu (k'+1) o'' (by simpa using h') (by omega)) (by rw[size_put];exact ht)];congr 1;omega
theorem yq{F:eU}{w:World}(h:∀x∈F,x.2 w):fW F w:=by
 induction F with
 | nil=>trivial
 | cons x r ih=>exact⟨h x (cy ..),ih λy hy=>h y (cO _ hy)⟩
theorem sc{F:eU}{w:World}{k:Nat}(h:∀x∈F,k.testBit x.1=true->x.2 w):cg k F w:=by
 induction F with
 | nil=>trivial
 | cons x r ih=>
  have ih':=ih λy hy=>h y (cO _ hy);unfold cg;split
  ·rename_i hb;exact⟨h x (cy ..) hb,ih'⟩
  ·exact ih'
def vy(ops:Array Oper)(n:Nat):Bool:=
  (pL n).all λi=>(pL n).all λj=>
    match ops[i]?,ops[j]? with
    | some oi,some oj=>
      (match oj.dst with
       | some t=>(i==j||oi.dst !=some t)&&(!(oi.looksAt ops).contains t||(dA ops i).testBit j||i==j||(decide (i<j)&&(dA ops j).testBit i))
       | none=>true) &&
      (!(dA ops i).testBit j||(decide (j<i)&&oi.after.any λe=>kV .any e&&(e.on==j||(dA ops e.on).testBit j)))
    | _,_=>false
def wj(ops:Array Oper)(n:Nat):Bool:=
 (pL n).all λi=>match ops[i]? with|some o=>o.after.all λe => !kV .any e||decide (e.on<i)|none=>false
def ng(ops:Array Oper)(n:Nat):Bool:=
 nu ops&&decide (n≤ops.size)&&vy ops n&&wj ops n&&(n==ops.size||(nt .any ops n&&pR .any ops n)) &&
 Region.seqB .any ops (ops.size-n) n (bD n true++bD (ops.size-n) false)
def Bp(ops:Array Oper)(n:Nat):Bool:=(pL ops.size).all λt=>decide (t≤n)||Region.waitsFor .any ops t n
def vH(ops:Array Oper)(n:Nat):Bool:=
 nu ops&&decide (n≤ops.size)&&vy ops n&&wj ops n&&(n==ops.size||(nt .any ops n&&Bp ops n))
structure ly(ops:Array Oper)(n:Nat):Prop where
 sel:nu ops=true
 le:n≤ops.size
 dst:∀i j oi oj t,i<n->j<n->ops[i]?=some oi->ops[j]?=some oj->oj.dst=some t->i≠j->oi.dst≠some t
 look:∀i j oi oj t,i<n->j<n->ops[i]?=some oi->ops[j]?=some oj->oj.dst=some t->t∈oi.looksAt ops->(dA ops i).testBit j=true∨i=j∨(i<j/\(dA ops j).testBit i=true)
 anc:∀i j oi,i<n->j<n->ops[i]?=some oi->(dA ops i).testBit j=true->j<i/\∃e∈oi.after,kV .any e=true/\(e.on=j∨(dA ops e.on).testBit j=true)
 edge:∀i oi,i<n->ops[i]?=some oi->∀e∈oi.after,kV .any e=true->e.on<i
 tail:n=ops.size∨(nt .any ops n=true/\(pR .any ops n=true∨Bp ops n=true))
theorem CA{ops:Array Oper}{n:Nat}(h:ng ops n=true):Region.seqB .any ops (ops.size-n) n (bD n true++bD (ops.size-n) false)=true:=by
 simp only[ng,aq]at h;exact h.2
theorem rQ{ops:Array Oper}{n:Nat}(h1:nu ops=true)(h2:n≤ops.size)(h3:vy ops n=true)(h4:wj ops n=true)(h5:n=ops.size∨(nt .any ops n=true/\(pR .any ops n=true∨Bp ops n=true))):ly ops n:=by
  have s:∀i j oi oj,i<n->j<n->ops[i]?=some oi->ops[j]?=some oj ->
      ((match oj.dst with
       | some t=>(i==j||oi.dst !=some t)&&(!(oi.looksAt ops).contains t||(dA ops i).testBit j||i==j||(decide (i<j)&&(dA ops j).testBit i))
       | none=>true) &&
      (!(dA ops i).testBit j||(decide (j<i)&&oi.after.any λe=>kV .any e&&(e.on==j||(dA ops e.on).testBit j))))=true:=by
    intro i j oi oj hi hj ei ej;have:=bA.1 (bA.1 h3 i (kT.2 hi)) j (kT.2 hj);simp only[ei,ej]at this;exact this
  refine⟨h1,h2,?_,?_,?_,?_,h5⟩
  · intro i j oi oj t hi hj ei ej hd hne;have:=s i j oi oj hi hj ei ej;simp only[hd,aq,dM,beq_iff_eq,bne_iff_ne]at this;rcases this.1.1 with h|h
    · exact absurd h hne
    · exact h
  · intro i j oi oj t hi hj ei ej hd ht;have:=s i j oi oj hi hj ei ej;simp only[hd,aq,dM,beq_iff_eq,dF,decide_eq_true_eq]at this;rcases this.1.2 with((h|h)|h)|h
    · rw[List.contains_eq_mem,decide_eq_false_iff_not]at h;exact absurd ht h
    · exact .inl h
    · exact .inr (.inl h)
    · exact .inr (.inr h)
  · intro i j oi hi hj ei hb;have hjs:j<ops.size:=aD hj h2;have:=s i j oi ops[j] hi hj ei (by simp[hjs]);simp only[aq,dM,dF,decide_eq_true_eq]at this;rcases this.2 with h|⟨h,g⟩
    · rw[hb]at h;cases h
    · obtain⟨e,he,hq⟩:=Array.any_eq_true'.1 g;simp only[aq,dM,beq_iff_eq]at hq;exact⟨h,e,he,hq.1,hq.2⟩
  · intro i oi hi ei e he hb;have:=bA.1 h4 i (kT.2 hi);simp only[ei]at this;have:=Array.all_eq_true_iff_forall_mem.1 this e he;simp only[dM,dF,decide_eq_true_eq]at this;rcases this with h|h
    · rw[hb]at h;cases h
    · exact h
theorem mE{ops:Array Oper}{n:Nat}(h:ng ops n=true):ly ops n:=by
 simp only[ng,aq,dM,beq_iff_eq,decide_eq_true_eq]at h;obtain⟨⟨⟨⟨⟨h1,h2⟩,h3⟩,h4⟩,h5⟩,h6⟩:=h;exact rQ h1 h2 h3 h4 (h5.imp id λh=>⟨h.1,.inl h.2⟩)
theorem rR{ops:Array Oper}{n:Nat}(h:vH ops n=true):ly ops n:=by
 simp only[vH,aq,dM,beq_iff_eq,decide_eq_true_eq]at h;obtain⟨⟨⟨⟨h1,h2⟩,h3⟩,h4⟩,h5⟩:=h;exact rQ h1 h2 h3 h4 (h5.imp id λh=>⟨h.1,.inr h.2⟩)
theorem wQ{ops:Array Oper}{n:Nat}{listed:Array Bool}(hs:nt .any ops n=true)(hc:pR .any ops n=true∨Bp ops n=true)(hn:n<ops.size)(inv:HeadInv .any ops n listed):
  ∀ (d i:Nat),n-i=d->i<n->listed.getD i true=false->∀t,n≤t->t∉kU .any ops listed:=by
 rcases hc with hc|hc
 ·exact tail_waits hs hc hn inv
 ·intro d;induction d using Bf with
  | _ d ih=>
   intro i hd hi hun t ht hr;obtain⟨_,ot,hot,hall⟩:=mem_ready.1 hr;have htlt:t<ops.size:=(ae.1 hot).1;by_cases htn:t=n
   ·subst htn;have h1:=bA.1 hs i (kT.2 hi);obtain⟨j,hj,hj2⟩:=List.any_eq_true.1 h1;simp only[aq,decide_eq_true_eq]at hj2;obtain⟨oj,hoj,e,he,hb,hon⟩:=Region.waitsFor_spec hj2.2;have hjle:j≤t:=by have:=kT.1 hj;omega
    by_cases hjt:j=t
    ·subst hjt;have:oj=ot:=lP (hoj.symm.trans hot)
     subst this;have h2:=hall e he hb;rw[hon,getD_both hun]at h2
     cases h2
    ·cases hl:listed.getD j false with
     | true=>
      have h2:=inv.closed j oj hoj hl e he hb;rw[hon,getD_both hun]at h2
      cases h2
     | false=>
      have hjs:j<listed.size:=by rw[inv.size];omega
      exact ih (t-j) (by omega) j rfl (by omega) (getD_in hjs hl) t (ag _) hr
   ·have h1:=bA.1 hc t (kT.2 htlt);simp only[dM,decide_eq_true_eq]at h1;rcases h1 with h1|h1
    ·omega
    ·obtain⟨o',ho',e,he,hb,hon⟩:=Region.waitsFor_spec h1;have:o'=ot:=lP (ho'.symm.trans hot)
     subst this;have h2:=hall e he hb;rw[hon,getD_both (inv.tail n (ag _) hn)]at h2
     cases h2
theorem uC{ops:Array Oper}{o:Oper}{a a':Act}(hs:∀cs b,o.op ≠ .select cs b)(hz:a.tmps.size=a'.tmps.size)(h:∀t∈o.looksAt ops,a.tmps.getD t undef=a'.tmps.getD t undef):
  execOp a.eval o=execOp a'.eval o/\bO o (yielded ops a.tmps)=bO o (yielded ops a'.tmps):=by
 constructor
 ·refine execOp_congr o hs λx hx=>?_
  cases x with
  | tmp t=>exact h t (np _ (List.mem_filterMap.2 ⟨.tmp t,by simpa using hx,rfl⟩))
  | _=>rfl
 ·unfold bO
  cases hg:o.guard with
  | none=>rfl
  | some gw=>
   obtain⟨g,want⟩:=gw
   have hy:yielded ops a.tmps g=yielded ops a'.tmps g:=by
    unfold yielded
    cases ht:(ops[g]?).bind (·.dst)with
    | none=>rfl
    | some t=>
     have hm:t∈o.looksAt ops:=by
      unfold Oper.looksAt;rw[hg];exact List.mem_append_right _ (by simp[ht])
     have e:=h t hm;rcases jY t a.tmps.size with hlt|hge
     ·have e1:a.tmps[t]?=a'.tmps[t]?:=by
       simp only[Bj]at e;have hlt':t<a'.tmps.size:=aD hlt (Nat.le_of_eq hz);rw[cD hlt,cD hlt']at e;rw[cD hlt,cD hlt'];simpa using e
      simp only[Option.bind_some,e1]
     ·have e1:a.tmps[t]?=none:=dJ hge;have e2:a'.tmps[t]?=none:=dJ (bH (Nat.le_of_eq hz.symm) hge);simp only[Option.bind_some,e1,e2]
   dsimp only;rw[hy]
section
variable {ops : Array Oper} {n : Nat} {a0 : Act}
def frame(ops:Array Oper)(a0:Act)(vals:Nat->Value)(i:Nat):Act:=ig vals (ops.toList.take i) 0 a0
theorem gR(vals:Nat->Value)(i:Nat):(frame ops a0 vals i).tmps.size=a0.tmps.size:=rO _ _ _ _
theorem qq(hR:ly ops n)(vals:Nat->Value){i k:Nat}{ok:Oper}{t:Tmp}(hi:i≤n)(hk:k<i)(ek:ops[k]?=some ok)(hd:ok.dst=some t)(ht:t<a0.tmps.size):
  (frame ops a0 vals i).tmps.getD t undef=vals k:=by
 have:=nP vals t (ops.toList.take i) 0 a0 k ok (by rw[fp,if_pos hk];simpa using ek) hd (λk' o' h' hne=>by
  rw[fp]at h';split at h'
  ·rename_i hlt;exact hR.dst k' k o' ok t (by omega) (by omega) (by simpa using h') ek hd hne
  ·cases h') ht
 simpa[frame]using this
theorem mh(vals:Nat->Value){i:Nat}{t:Tmp}(h:∀k ok,k<i->ops[k]?=some ok->ok.dst≠some t):(frame ops a0 vals i).tmps.getD t undef=a0.tmps.getD t undef:=
 jq vals t _ _ _ λo ho=>by
  obtain⟨k,hk⟩:=qA.1 ho;rw[fp]at hk;split at hk
  ·rename_i hlt;exact h k o hlt (by simpa using hk)
  ·cases hk
theorem oI(a:Act)(t:Tmp)(h:a.tmps.size≤t):a.tmps.getD t undef=undef:=by simp[dJ h]
theorem pJ(hR:ly ops n){listed:Array Bool}(inv:HeadInv .any ops n listed):∀ (j:Nat),j<n->(∀oj,ops[j]?=some oj->∀e∈oj.after,kV .any e=true->listed.getD e.on false=true)->
  ∀k,k<n->(dA ops j).testBit k=true->listed.getD k false=true:=by
 intro j;induction j using Bf with
 | _ j ih=>
  intro hj hall k hk hb;have hjs:j<ops.size:=aD hj hR.le;have ej:ops[j]?=some ops[j]:=by simp[hjs]
  obtain⟨_,e,he,hbd,h⟩:=hR.anc j k _ hj hk ej hb;have hl:=hall _ ej e he hbd;rcases h with rfl|h
  ·exact hl
  ·have hlt:=hR.edge j _ hj ej e he hbd;exact ih e.on hlt (by omega) (λoj eo e' he' hb'=>inv.closed e.on oj eo hl e' he' hb') k hk h
theorem AJ(hR:ly ops n){vals vals':Nat->Value}{i:Nat}{oi:Oper}(hi:i<n)(ei:ops[i]?=some oi)(h:∀k,k<n->(dA ops i).testBit k=true->vals k=vals' k):
  ∀t∈oi.looksAt ops,(frame ops a0 vals i).tmps.getD t undef=(frame ops a0 vals' i).tmps.getD t undef:=by
 intro t ht;by_cases hex:∃k ok,k<i/\ops[k]?=some ok/\ok.dst=some t
 ·obtain⟨k,ok,hk,ek,hd⟩:=hex;rcases jY t a0.tmps.size with hlt|hge
  ·rw[qq hR vals (by omega) hk ek hd hlt,qq hR vals' (by omega) hk ek hd hlt];rcases hR.look i k oi ok t hi (by omega) ei ek hd ht with h1|h1|h1
   ·exact h k (by omega) h1
   ·omega
   ·omega
  ·rw[oI _ _ (by rw[gR];exact hge),oI _ _ (by rw[gR];exact hge)]
 ·have h0:∀k ok,k<i->ops[k]?=some ok->ok.dst≠some t:=λk ok hk ek hd=>hex ⟨k,ok,hk,ek,hd⟩;rw[mh vals h0,mh vals' h0]
end
abbrev Fct:=Value->World->Prop
abbrev Ps:=List (Nat×(List Value->Fct))
def eS(Ψ:Ps)(i:Nat):Option (List Value->Fct):=
 match Ψ with
 | []=>none
 | x::r=>if x.1=i then some x.2 else eS r i
def lk(ops:Array Oper)(o:Oper)(a:Act):List Value:=(o.looksAt ops).map λt=>a.tmps.getD t undef
theorem Iu{ops:Array Oper}{o:Oper}{a b:Act}(h:∀t∈o.looksAt ops,a.tmps.getD t undef=b.tmps.getD t undef):lk ops o a=lk ops o b:=List.map_congr_left h
def jD(w w':World)(old:Option Nat)(u:Value):Prop:=∀b,u.ownBlock=some b->(old=some b∨w.heap.size≤b)/\b<w'.heap.size
abbrev Made:=List (Nat×Value)
def apart(G:Made):Prop:=∀x∈G,∀y∈G,x.1≠y.1->∀b,x.2.ownBlock=some b->y.2.ownBlock≠some b
structure Law where
 B:Prop
 P:Program
 ops:Array Oper
 w0:World
 O:Nat->Option Nat
 Ψ:Ps
 D:World->Prop
 H:Nat->World->Prop
 Z:World->Prop
 J:Nat->World->World->Prop
 X:Nat->List PanicEntry->World->Prop
 Q:Act->World->Prop
def lu(J:World->World->Prop)(P:Program)(w:World)(v:Value):Result Next->Prop
 | .ok (.value u) w'=>w'=w/\u=v
 | .ok .skip w'=>w'=w/\undef=v
 | .ok (.enter f args) w'=>w'=w/\P.inits.idxOf? f=none/\Calls P f args w λe w2=>e = .returned v/\J w w2
 | _=>False
def gP(B:Prop)(J:World->World->Prop)(X:List PanicEntry->World->Prop)(P:Program)(w:World)(old:Option Nat)(φ:Fct):Result Next->Prop
 | .ok (.value u) w'=>J w w'/\φ u w'/\(B->jD w w' old u)
 | .ok .skip w'=>J w w'/\φ undef w'/\(B->jD w w' old undef)
 | .ok (.enter f args) w'=>w'=w/\Calls P f args w λe w2=>(∃v,e = .returned v/\J w w2/\φ v w2/\(B->jD w w2 old v))∨∃ch,e = .panicked ch/\X ch w2
 | _=>False
def Law.yI(Y:Law)(i:Nat)(o:Oper)(a:Act)(w:World)(v:Value):Prop:=lu (Y.J i) Y.P w v ((execOp a.eval o).run Y.P w)
def Law.vM(Y:Law)(i:Nat)(o:Oper)(a:Act)(w:World)(φ:Fct):Prop:=gP Y.B (Y.J i) (Y.X i) Y.P w (Y.O i) φ ((execOp a.eval o).run Y.P w)
def Law.want(Y:Law)(o:Oper)(a:Act):Bool:=bO o (yielded Y.ops a.tmps)
def Law.rel(Y:Law):List Oper->Nat->Act->eU->Made->Prop
 | [],_,a,F,G=>∀w,Y.Z w->fW F w->(Y.B->apart G)->Y.Q a w
 | o::r,i,a,F,G=>
  if Y.want o a=true then
   match eS Y.Ψ i with
   | none=>∃v,(∀w,Y.D w->cg (dA Y.ops i) F w->Y.yI i o a w v)/\Y.rel r (i+1) (a.put o.dst v) F G
   | some φ=>(∀w,Y.H i w->cg (dA Y.ops i) F w->Y.vM i o a w (φ (lk Y.ops o a)))/\∀v,Y.rel r (i+1) (a.put o.dst v) ((i,φ (lk Y.ops o a) v)::F) ((i,v)::G)
  else Y.rel r (i+1) (a.put o.dst undef) F G
def Law.xM(Y:Law)(m vals:Nat->Value)(o:Oper)(i:Nat)(a:Act)(F:eU):Prop:=
  (Y.want o a=false/\vals i=undef)∨(Y.want o a=true/\eS Y.Ψ i=none/\∀w,Y.D w->cg (dA Y.ops i) F w->Y.yI i o a w (vals i))∨
  (Y.want o a=true/\vals i=m i/\∃ φ,eS Y.Ψ i=some φ/\∀w,Y.H i w->cg (dA Y.ops i) F w->Y.vM i o a w (φ (lk Y.ops o a)))
def Law.s5(Y:Law)(o:Oper)(i:Nat)(a:Act)(v:Value)(F:eU):eU:=
 if Y.want o a=true then(match eS Y.Ψ i with|none=>F|some φ=>(i,φ (lk Y.ops o a) v)::F)else F
def Law.sZ(Y:Law)(o:Oper)(i:Nat)(a:Act)(v:Value)(G:Made):Made:=
 if Y.want o a=true then(match eS Y.Ψ i with|none=>G|some _=>(i,v)::G)else G
def Law.good(Y:Law)(m vals:Nat->Value):List Oper->Nat->Act->eU->Made->Prop
 | [],_,a,F,G=>∀w,Y.Z w->fW F w->(Y.B->apart G)->Y.Q a w
 | o::r,i,a,F,G=>Y.xM m vals o i a F/\Y.good m vals r (i+1) (a.put o.dst (vals i)) (Y.s5 o i a (vals i) F) (Y.sZ o i a (vals i) G)
def Law.facts(Y:Law)(vals:Nat->Value):List Oper->Nat->Act->eU->eU
 | [],_,_,F=>F
 | o::r,i,a,F=>Y.facts vals r (i+1) (a.put o.dst (vals i)) (Y.s5 o i a (vals i) F)
def Law.made(Y:Law)(vals:Nat->Value):List Oper->Nat->Act->Made->Made
 | [],_,_,G=>G
 | o::r,i,a,G=>Y.made vals r (i+1) (a.put o.dst (vals i)) (Y.sZ o i a (vals i) G)
section
variable {Y : Law} {m vals : Nat → Value}
theorem tG{vals':Nat->Value}:∀ (l:List Oper) (i:Nat) (a:Act) (F:eU) (G:Made),(∀j,i≤j->vals j=vals' j)->Y.good m vals l i a F G->Y.good m vals' l i a F G
 | [],_,_,_,_,_,h=>h
 | o::r,i,a,F,G,he,h=>by
  obtain⟨h1,h2⟩:=h;refine⟨?_,?_⟩
  ·unfold Law.xM at *
   rw[← he i (ag _)];exact h1
  ·rw[← he i (ag _)];exact tG r _ _ _ _ (λj hj=>he j (by omega)) h2
theorem jK(m:Nat->Value):∀ (l:List Oper) (i:Nat) (a:Act) (F:eU) (G:Made),Y.rel l i a F G->∃vals,Y.good m vals l i a F G
 | [],_,_,_,_,h=>⟨λ_=>undef,h⟩
 | o::r,i,a,F,G,h=>by
  have put:∀ (u:Value),(∃vals,Y.good m vals r (i+1) (a.put o.dst u) (Y.s5 o i a u F) (Y.sZ o i a u G))->(∀vals,vals i=u->Y.xM m vals o i a F)->∃vals,Y.good m vals (o::r) i a F G:=by
   rintro u ⟨vals,hv⟩ ho;have e:(λj=>if j=i then u else vals j) i=u:=by simp
   refine⟨λj=>if j=i then u else vals j,ho _ e,?_⟩;rw[e];exact tG r _ _ _ _ (λj hj=>by simp[show j≠i by omega]) hv
  unfold Law.rel at h
  cases hw:Y.want o a with
  | false=>
   rw[if_neg (by simp[hw])]at h;exact put undef (by simpa[Law.s5,Law.sZ,hw]using jK m r _ _ _ _ h) λ_ hv => .inl ⟨hw,hv⟩
  | true=>
   rw[if_pos hw]at h
   cases ht:eS Y.Ψ i with
   | none=>
    simp only[ht]at h;obtain⟨v,h1,h2⟩:=h;exact put v (by simpa[Law.s5,Law.sZ,hw,ht]using jK m r _ _ _ _ h2) λ_ hv => .inr (.inl ⟨hw,ht,by rw[hv];exact h1⟩)
   | some φ=>
    simp only[ht]at h;exact put (m i) (by simpa[Law.s5,Law.sZ,hw,ht]using jK m r _ _ _ _ (h.2 (m i))) λ_ hv => .inr (.inr ⟨hw,hv,φ,ht,h.1⟩)
theorem BL:∀ (l:List Oper) (i:Nat) (a:Act) (F:eU) (G:Made),Y.good m vals l i a F G->∀k o,l[k]?=some o ->
  Y.xM m vals o (i+k) (ig vals (l.take k) i a) (Y.facts vals (l.take k) i a F)
 | [],_,_,_,_,_,k,o,h=>by simp at h
 | o::r,i,a,F,G,hg,0,o',h=>by
  simp only[List.getElem?_cons_zero,fg]at h;subst h;exact hg.1
 | o::r,i,a,F,G,hg,k+1,o',h=>by
  have:=BL r (i+1) _ _ _ hg.2 k o' (by simpa using h);rw[show i+1+k=i+(k+1) by omega]at this;exact this
theorem ym:∀ (l:List Oper) (i:Nat) (a:Act) (F:eU) (G:Made),Y.good m vals l i a F G->∀w,Y.Z w->fW (Y.facts vals l i a F) w->(Y.B->apart (Y.made vals l i a G))->Y.Q (ig vals l i a) w
 | [],_,_,_,_,hg=>hg
 | o::r,i,a,F,G,hg=>ym r (i+1) _ _ _ hg.2
theorem uO:∀ (l:List Oper) (i:Nat) (a:Act) (F:eU) (x:Nat×(World->Prop)),x∈Y.facts vals l i a F ->
  x∈F∨∃k o φ,l[k]?=some o/\eS Y.Ψ (i+k)=some φ/\Y.want o (ig vals (l.take k) i a)=true/\x=(i+k,φ (lk Y.ops o (ig vals (l.take k) i a)) (vals (i+k)))
 | [],_,_,_,x,h => .inl h
 | o::r,i,a,F,x,h=>by
  rcases uO r (i+1) _ _ x h with h|⟨k,o',φ,h1,h2,h3,h4⟩
  ·unfold Law.s5 at h;split at h
   ·rename_i hw
    cases ht:eS Y.Ψ i with
    | none=>simp only[ht]at h;exact .inl h
    | some φ=>
     simp only[ht,aI]at h;rcases h with rfl|h
     ·exact .inr ⟨0,o,φ,rfl,ht,hw,rfl⟩
     ·exact .inl h
   ·exact .inl h
  ·rw[show i+1+k=i+(k+1) by omega]at h2 h4;exact .inr ⟨k+1,o',φ,by simpa using h1,h2,h3,h4⟩
theorem xS:∀ (l:List Oper) (i:Nat) (a:Act) (G:Made) (x:Nat×Value),x∈Y.made vals l i a G ->
  x∈G∨∃k o φ,l[k]?=some o/\eS Y.Ψ (i+k)=some φ/\Y.want o (ig vals (l.take k) i a)=true/\x=(i+k,vals (i+k))
 | [],_,_,_,x,h => .inl h
 | o::r,i,a,G,x,h=>by
  rcases xS r (i+1) _ _ x h with h|⟨k,o',φ,h1,h2,h3,h4⟩
  ·unfold Law.sZ at h;split at h
   ·rename_i hw
    cases ht:eS Y.Ψ i with
    | none=>simp only[ht]at h;exact .inl h
    | some φ=>
     simp only[ht,aI]at h;rcases h with rfl|h
     ·exact .inr ⟨0,o,φ,rfl,ht,hw,rfl⟩
     ·exact .inl h
   ·exact .inl h
  ·rw[show i+1+k=i+(k+1) by omega]at h2 h4;exact .inr ⟨k+1,o',φ,by simpa using h1,h2,h3,h4⟩
end
structure Law.On(Y:Law)(n:Nat)(a0:Act)(listed:Array Bool)(vals:Nat->Value)(j:Nat)(oj:Oper)(φ:List Value->Fct):Prop where
 lt:j<n
 on:listed.getD j false=true
 op:Y.ops[j]?=some oj
 psi:eS Y.Ψ j=some φ
 want:Y.want oj (frame Y.ops a0 vals j)=true
structure Law.Ok(Y:Law)(n:Nat)(I:(Nat->Bool)->World->Prop):Prop where
 zero:I (λ_=>false) Y.w0
 step:∀L i w w',i<n->I L w->L i=false->(∀k,k<n->(dA Y.ops i).testBit k=true->L k=true)->Y.J i w w'->I (λk=>if k=i then true else L k) w'
 det:∀L w,I L w->Y.D w
 ahead:∀L i w,i<n->I L w->L i=false->(∀k,k<n->(dA Y.ops i).testBit k=true->L k=true)->Y.H i w
 fin:∀L w,I L w->(∀k,k<n->L k=true)->Y.Z w
 idle:∀i,i<n->(∀w,Y.J i w w)∨(eS Y.Ψ i≠none/\∀o,Y.ops[i]?=some o->o.guard=none)
 size:∀i w w',Y.J i w w'->w.heap.size≤w'.heap.size
 base:∀L w,I L w->Y.w0.heap.size≤w.heap.size
 fact:∀i j φ,i≠j->eS Y.Ψ j=some φ->∀ls v w w',Y.J i w w'->φ ls v w->φ ls v w'
 old:∀i b,Y.O i=some b->b<Y.w0.heap.size
 one:∀i j b,i≠j->Y.O i=some b->Y.O j≠some b
structure Law.St(Y:Law)(n:Nat)(I:(Nat->Bool)->World->Prop)(a0:Act)(listed:Array Bool)(a:Act)(w:World)(m vals:Nat->Value):Prop where
 inv:HeadInv .any Y.ops n listed
 good:Y.good m vals (Y.ops.toList.take n) 0 a0 [] []
 wld:I (λk=>listed.getD k false) w
 size:a.tmps.size=a0.tmps.size
 defers:a.defers=a0.defers
 lies:∀j oj t,j<n->listed.getD j false=true->Y.ops[j]?=some oj->oj.dst=some t->t<a0.tmps.size->a.tmps.getD t undef=vals j
 off:∀t,(∀j oj,j<n->listed.getD j false=true->Y.ops[j]?=some oj->oj.dst≠some t)->a.tmps.getD t undef=a0.tmps.getD t undef
 fact:∀j oj φ,Y.On n a0 listed vals j oj φ->φ (lk Y.ops oj (frame Y.ops a0 vals j)) (vals j) w
 blk:Y.B->∀j oj φ,Y.On n a0 listed vals j oj φ->∀b,(vals j).ownBlock=some b->(Y.O j=some b∨Y.w0.heap.size≤b)/\b<w.heap.size
 pair:Y.B->∀j oj φ k ok φ',Y.On n a0 listed vals j oj φ->Y.On n a0 listed vals k ok φ'->j≠k->∀b,(vals j).ownBlock=some b->(vals k).ownBlock≠some b
section
variable {Y : Law} {n : Nat} {I : (Nat → Bool) → World → Prop} {a0 : Act} {listed : Array Bool} {a : Act} {w : World} {m vals : Nat → Value}
theorem qe(hR:ly Y.ops n)(hg:Y.good m vals (Y.ops.toList.take n) 0 a0 [] []){j:Nat}{oj:Oper}(hj:j<n)(ej:Y.ops[j]?=some oj):
  Y.xM m vals oj j (frame Y.ops a0 vals j) (Y.facts vals (Y.ops.toList.take j) 0 a0 []):=by
 have:=BL _ _ _ _ _ hg j oj (by rw[fp,if_pos hj];simpa using ej);rw[na,mo (by omega)]at this;simpa[frame]using this
theorem tK{j:Nat}{x:Nat×(World->Prop)}(hx:x∈Y.facts vals (Y.ops.toList.take j) 0 a0 []):
  ∃k o φ,k<j/\Y.ops[k]?=some o/\eS Y.Ψ k=some φ/\Y.want o (frame Y.ops a0 vals k)=true/\x=(k,φ (lk Y.ops o (frame Y.ops a0 vals k)) (vals k)):=by
 rcases uO _ _ _ _ x hx with h|⟨k,o,φ,h1,h2,h3,h4⟩
 ·cases h
 ·rw[fp]at h1;split at h1
  ·rename_i hlt;rw[na,mo (by omega)]at h3 h4;rw[fe]at h2 h4;exact⟨k,o,φ,hlt,by simpa using h1,h2,h3,h4⟩
  ·cases h1
theorem CB(hR:ly Y.ops n)(st:Y.St n I a0 listed a w m vals){i:Nat}{oi:Oper}(hi:i<n)(ei:Y.ops[i]?=some oi)
  (hun:listed.getD i false=false) (hanc:∀k,k<n->(dA Y.ops i).testBit k=true->listed.getD k false=true) :
  ∀t∈oi.looksAt Y.ops,a.tmps.getD t undef=(frame Y.ops a0 vals i).tmps.getD t undef:=by
 intro t ht;by_cases hex:∃k ok,k<n/\Y.ops[k]?=some ok/\ok.dst=some t
 ·obtain⟨k,ok,hk,ek,hd⟩:=hex;have hot:∀j oj,j<n->Y.ops[j]?=some oj->j≠k->oj.dst≠some t:=λj oj hj ej hne=>hR.dst j k oj ok t hj hk ej ek hd hne
  have none:k=i∨listed.getD k false=false->i≤k->a.tmps.getD t undef=(frame Y.ops a0 vals i).tmps.getD t undef:=λhz hik=>by
   rw[st.off t (λj oj hj hl ej=>by
    by_cases hjk:j=k
    ·subst hjk;have:listed.getD j false=false:=by rcases hz with h|h;rw[h,hun];exact h
     rw[this]at hl;cases hl
    ·exact hot j oj hj ej hjk),mh vals (λj oj hj ej=>hot j oj (by omega) ej (by omega))]
  rcases jY t a0.tmps.size with hlt|hge
  ·rcases hR.look i k oi ok t hi hk ei ek hd ht with h1|h1|⟨h1,h2⟩
   ·rw[st.lies k ok t hk (hanc k hk h1) ek hd hlt,qq hR vals (by omega) (hR.anc i k oi hi hk ei h1).1 ek hd hlt]
   ·exact none (.inl h1.symm) (by omega)
   ·refine none (.inr ?_) (by omega)
    cases hl:listed.getD k false with
    | false=>rfl
    | true=>
     have:=pJ hR st.inv k hk (λoj ej e he hb=>st.inv.closed k oj ej hl e he hb) i hi h2;rw[hun]at this;cases this
  ·rw[oI _ _ (by rw[st.size];exact hge),oI _ _ (by rw[gR];exact hge)]
 ·rw[st.off t (λj oj hj _ ej hd=>hex ⟨j,oj,hj,ej,hd⟩),mh vals (λj oj hj ej hd=>hex ⟨j,oj,by omega,ej,hd⟩)]
theorem yS{P:Program}{f:FuncId}{args:Array Value}{w:World}{v v':Value}{R R':World->Prop}(h:Calls P f args w λe w2=>e = .returned v/\R w2)
  (h':Calls P f args w λe w2=>e = .returned v'/\R' w2) (hi:P.inits.idxOf? f=none):v=v':=by
 have g:Calls P f args w fun | .returned u,_=>u=v|_,_=>False:=h.mono λe _ ⟨he,_⟩=>by subst he;rfl
 have g':Calls P f args w fun | .returned u,_=>u=v'|_,_=>False:=h'.mono λe _ ⟨he,_⟩=>by subst he;rfl
 obtain⟨n,u,w1,e1,r1⟩:=g.done (R:=λu _=>u=v) hi;obtain⟨m,u',w2,e2,r2⟩:=g'.done (R:=λu _=>u=v') hi;have a:=runN_ended e1 m;have b:=runN_ended e2 n;rw[sv,a]at b;injection b with ho hw
 injection ho with hv
 rw[← r1,← r2,hv]
theorem yH{J:World->World->Prop}{P:Program}{w:World}{v v':Value}{r:Result Next}(h:lu J P w v r)(h':lu J P w v' r):v=v':=by
 cases r with
 | ok x w'=>
  cases x<;>simp only[lu]at h h'
  case value u=>rw[← h.2,← h'.2]
  case skip=>rw[← h.2,← h'.2]
  case enter f args=>exact yS h.2.2 h'.2.2 h.2.1
 | halt x w'=>simp only[lu]at h
theorem Law.St.anc(hR:ly Y.ops n)(st:Y.St n I a0 listed a w m vals){j:Nat}(hj:j<n)(hl:listed.getD j false=true):∀k,k<n->(dA Y.ops j).testBit k=true->listed.getD k false=true:=
 pJ hR st.inv j hj (λoj ej e he hb=>st.inv.closed j oj ej hl e he hb)
theorem n0(hR:ly Y.ops n){vals':Nat->Value}{j:Nat}{oj:Oper}(hj:j<n)(ej:Y.ops[j]?=some oj)(hv:∀k,k<n->(dA Y.ops j).testBit k=true->vals k=vals' k):
  ((execOp (frame Y.ops a0 vals j).eval oj)=(execOp (frame Y.ops a0 vals' j).eval oj))/\Y.want oj (frame Y.ops a0 vals j)=Y.want oj (frame Y.ops a0 vals' j)/\lk Y.ops oj (frame Y.ops a0 vals j)=lk Y.ops oj (frame Y.ops a0 vals' j):=
 have h:=AJ (a0:=a0) hR hj ej hv;have g:=uC (Region.noSelect_spec hR.sel j _ · · ej) (by rw[gR,gR]) h;⟨g.1,g.2,Iu h⟩
theorem yp(st:Y.St n I a0 listed a w m vals){j:Nat}(hj:j≤n)(hanc:∀k,k<n->(dA Y.ops j).testBit k=true->listed.getD k false=true):cg (dA Y.ops j) (Y.facts vals (Y.ops.toList.take j) 0 a0 []) w:=sc λx hx hb=>by
 obtain⟨k,o,φ,hk,ek,ht,hwk,rfl⟩:=tK hx;exact st.fact k o φ ⟨by omega,hanc k (by omega) hb,ek,ht,hwk⟩
theorem agree(hI:Y.Ok n I)(hR:ly Y.ops n){m' vals':Nat->Value}(st:Y.St n I a0 listed a w m vals)
  (hg':Y.good m' vals' (Y.ops.toList.take n) 0 a0 [] []) (hm:∀j,listed.getD j false=true->m j=m' j):∀ (j:Nat),j<n->listed.getD j false=true->vals j=vals' j:=by
 intro j;induction j using Bf with
 | _ j ih=>
  intro hj hl;have ej:Y.ops[j]?=some (Y.ops[j]'(aD hj hR.le)):=cD _;have hanc:=st.anc hR hj hl;have hv:∀k,k<n->(dA Y.ops j).testBit k=true->vals k=vals' k:=λk hk hb=>ih k (hR.anc j k _ hj hk ej hb).1 hk (hanc k hk hb);obtain⟨he,hw,-⟩:=n0 (a0:=a0) hR hj ej hv;have o1:=qe hR st.good hj ej;have o2:=qe hR hg' hj ej
  have f2:cg (dA Y.ops j) (Y.facts vals' (Y.ops.toList.take j) 0 a0 []) w:=sc λx hx hb=>by
   obtain⟨k,o,φ,hk,ek,ht,hwk,rfl⟩:=tK hx;have hkn:k<n:=by omega
   have hlk:=hanc k hkn hb
   obtain⟨-,g2,g3⟩:=n0 (a0:=a0) (vals:=vals) (vals':=vals') hR hkn ek λq hq hbq=>by
    have hqk:=(hR.anc k q o hkn hq ek hbq).1;exact ih q (by omega) hq (st.anc hR hkn hlk q hq hbq)
   have:=st.fact k o φ ⟨hkn,hlk,ek,ht,by rw[g2];exact hwk⟩;rwa [g3,ih k hk hkn hlk]at this
  rcases o1 with⟨h1,h2⟩|⟨h1,h2,h3⟩|⟨h1,h2,φ,h3,h4⟩<;>rcases o2 with⟨g1,g2⟩|⟨g1,g2,g3⟩|⟨g1,g2,φ',g3,g4⟩<;>try(rw[hw,g1]at h1;cases h1)
  ·rw[h2,g2]
  ·have d1:=h3 w (hI.det _ _ st.wld) (yp st (by omega) hanc);have d2:=g3 w (hI.det _ _ st.wld) f2;unfold Law.yI at d1 d2;rw[he]at d1;exact yH d1 d2
  ·rw[h2]at g3;cases g3
  ·rw[g2]at h3;cases h3
  ·rw[h2,g2];exact hm j hl
theorem Bq(hI:Y.Ok n I)(hR:ly Y.ops n){w':World}{m' vals':Nat->Value}(st:Y.St n I a0 listed a w m vals)
  (hg':Y.good m' vals' (Y.ops.toList.take n) 0 a0 [] []) (hm:∀j,listed.getD j false=true->m j=m' j) {i:Nat} {oi:Oper} (hx:Y.J i w w') (hi:i<n) (ei:Y.ops[i]?=some oi) (hr:i∈kU .any Y.ops listed)
  (hun:listed.getD i false=false) (hanc:∀k,k<n->(dA Y.ops i).testBit k=true->listed.getD k false=true)
  (hf:∀ φ,eS Y.Ψ i=some φ->Y.want oi (frame Y.ops a0 vals' i)=true->φ (lk Y.ops oi (frame Y.ops a0 vals' i)) (vals' i) w'/\(Y.B->jD w w' (Y.O i) (vals' i))) :
  Y.St n I a0 (listed.setIfInBounds i true) (a.put oi.dst (vals' i)) w' m' vals':=by
 have hag:=agree hI hR st hg' hm;have hz:i<listed.size:=by rw[st.inv.size];exact(ae.1 ei).1
 have old:∀j,j≠i->(listed.setIfInBounds i true).getD j false=true->listed.getD j false=true:=λj hne h=>by
  rwa [zh false (lQ hne)]at h
 have elder:∀j oj φ,Y.On n a0 (listed.setIfInBounds i true) vals' j oj φ->j≠i->Y.On n a0 listed vals j oj φ/\vals j=vals' j/\lk Y.ops oj (frame Y.ops a0 vals j)=lk Y.ops oj (frame Y.ops a0 vals' j):=λj oj φ h hji=>by
  have hlj:=old j hji h.on;obtain⟨-,g2,g3⟩:=n0 (a0:=a0) (vals:=vals) (vals':=vals') hR h.lt h.op λk hk hb=>hag k hk (st.anc hR h.lt hlj k hk hb);exact⟨⟨h.lt,hlj,h.op,h.psi,by rw[g2];exact h.want⟩,hag j h.lt hlj,g3⟩
 have own:∀oj φ,Y.On n a0 (listed.setIfInBounds i true) vals' i oj φ->φ (lk Y.ops oj (frame Y.ops a0 vals' i)) (vals' i) w'/\(Y.B->jD w w' (Y.O i) (vals' i)):=λoj φ h=>by
  have e:=h.op;rw[ei]at e;cases e;exact hf φ h.psi h.want
 have clash:Y.B->∀oi' φ' k ok φ,Y.On n a0 (listed.setIfInBounds i true) vals' i oi' φ'->Y.On n a0 (listed.setIfInBounds i true) vals' k ok φ->k≠i->∀b,(vals' i).ownBlock=some b->(vals' k).ownBlock≠some b:=λhB oi' φ' k ok φ hi' hk' hki b hb hb'=>by
  obtain⟨ho,hvk,-⟩:=elder k ok φ hk' hki;obtain⟨h1,h2⟩:=st.blk hB k ok φ ho b (by rw[hvk];exact hb');rcases(((own _ _ hi').2 hB) b hb).1 with h3|h3
  ·rcases h1 with h1|h1
   ·exact hI.one i k b (lQ hki) h3 h1
   ·have:=hI.old i b h3;omega
  ·omega
 refine⟨st.inv.set hr hi,hg',?_,by rw[size_put,st.size],by rw[tP,st.defers],?_,?_,?_,?_,?_⟩
 ·have e:(λk=>(listed.setIfInBounds i true).getD k false)=λk=>if k=i then true else listed.getD k false:=funext λk=>by
   by_cases hk:k=i
   ·subst hk;simp[hz]
   ·rw[zh false (lQ hk),if_neg hk]
  rw[e];exact hI.step _ _ _ _ hi st.wld hun hanc hx
 ·intro j oj t hj hl ej hd ht;by_cases hji:j=i
  ·subst hji;rw[ei]at ej;cases ej;rw[hd,sb _ _ _ (by rw[st.size];exact ht)]
  ·rw[nO _ _ _ _ (λh=>hR.dst j i oj oi t hj hi ej ei h hji hd),st.lies j oj t hj (old j hji hl) ej hd ht,hag j hj (old j hji hl)]
 ·intro t h;rw[nO _ _ _ _ (h i oi hi (by simp[hz]) ei)];exact st.off t λj oj hj hl ej=>h j oj hj (getD_set_true hl) ej
 ·intro j oj φ h;by_cases hji:j=i
  ·subst hji;exact(own _ _ h).1
  ·obtain⟨ho,e1,e2⟩:=elder j oj φ h hji;rw[← e1,← e2];exact hI.fact i j φ (lQ hji) h.psi _ _ _ _ hx (st.fact j oj φ ho)
 ·intro hB j oj φ h b hb;by_cases hji:j=i
  ·subst hji;obtain⟨h1,h2⟩:=(own _ _ h).2 hB b hb;exact⟨h1.imp id (bH (hI.base _ _ st.wld)),h2⟩
  ·obtain⟨ho,e1,-⟩:=elder j oj φ h hji;obtain⟨h1,h2⟩:=st.blk hB j oj φ ho b (by rw[e1];exact hb);exact⟨h1,aD h2 (hI.size _ _ _ hx)⟩
 ·intro hB j oj φ k ok φ' h h' hjk b hb;by_cases hji:j=i
  ·subst hji;exact clash hB oj φ k ok φ' h h' (lQ hjk) b hb
  ·by_cases hki:k=i
   ·subst hki;exact λe=>clash hB ok φ' j oj φ h' h hjk b e hb
   ·obtain⟨ho,e1,-⟩:=elder j oj φ h hji;obtain⟨ho',e2,-⟩:=elder k ok φ' h' hki;have:=st.pair hB j oj φ k ok φ' ho ho' hjk b (by rw[e1];exact hb);rwa [e2]at this
end
def left(listed:Array Bool):Nat->Nat
 | 0=>0
 | k+1=>left listed k+(if listed.getD k true=true then 0 else 1)
theorem uQ(listed:Array Bool)(i:Nat):∀k,k≤i->left (listed.setIfInBounds i true) k=left listed k
 | 0,_=>rfl
 | k+1,h=>by rw[left,left,uQ listed i k (by omega),zh true (by omega)]
theorem xV(listed:Array Bool)(i:Nat)(hz:i<listed.size)(hu:listed.getD i true=false):∀k,i<k->left (listed.setIfInBounds i true) k+1=left listed k
 | 0,h=>by omega
 | k+1,h=>by
  rw[left,left];by_cases hk:i=k
  ·subst hk;rw[uQ listed i i (ag _),hu,show(listed.setIfInBounds i true).getD i true=true by simp];simp
  ·rw[← xV listed i hz hu k (by omega),zh true hk];omega
theorem rh(listed:Array Bool):∀k,left listed k=0->∀i,i<k->listed.getD i true=true
 | 0,_,i,h=>by omega
 | k+1,h,i,hi=>by
  rw[left]at h
  have h2:listed.getD k true=true:=by
   by_cases hk:listed.getD k true=true
   ·exact hk
   ·rw[if_neg hk]at h;omega
  rw[if_pos h2]at h;by_cases hik:i=k
  ·subst hik;exact h2
  ·exact rh listed k (by omega) i (by omega)
theorem xW(listed:Array Bool):∀k,left listed k≠0->∃i,i<k/\listed.getD i true=false/\∀j,j<i->listed.getD j true=true
 | 0,h=>absurd rfl h
 | k+1,h=>by
  by_cases h0:left listed k=0
  ·refine⟨k,by omega,?_,rh listed k h0⟩;rw[left,h0]at h;by_cases hk:listed.getD k true=true
   ·rw[if_pos hk]at h;omega
   ·simpa using hk
  ·obtain⟨i,hi,h1,h2⟩:=xW listed k h0;exact⟨i,by omega,h1,h2⟩
section
variable {Y : Law} {n : Nat} {I : (Nat → Bool) → World → Prop} {a0 : Act}
theorem DA(hI:Y.Ok n I)(hR:ly Y.ops n)(hrel:Y.rel (Y.ops.toList.take n) 0 a0 [] []){Q':Exit->Act->World->Prop}{g:Nat}(hX:∀i ch a w,a.defers=a0.defers->Y.X i ch w->Q' (.panic ch) a w)
  (hQ:∀a w,Y.Q a w->wpAny Y.P .any Y.ops Q' g (bD n true++bD (Y.ops.size-n) false) a w) :
  ∀ (f:Nat) (listed:Array Bool) (a:Act) (w:World) (m vals:Nat->Value),Y.St n I a0 listed a w m vals->left listed n=f->wpAny Y.P .any Y.ops Q' (f+g) listed a w:=by
 intro f;induction f with
 | zero=>
  intro listed a w m vals st hl;have hall:=rh listed n hl
  have hallF:∀j,j<n->listed.getD j false=true:=λj hj=>by
   have hjz:j<listed.size:=by rw[st.inv.size];exact aD hj hR.le
   have:=hall j hj;simp[hjz]at this ⊢;exact this
  have e:listed=bD n true++bD (Y.ops.size-n) false:=by
   apply Array.ext_getElem?;intro k;have hz:=st.inv.size;have hle:=hR.le;by_cases hk:k<Y.ops.size
   ·have hkz:k<listed.size:=by omega
    rw[cD hkz];by_cases hkn:k<n
    ·rw[Array.getElem?_append_left (by simpa using hkn)];have:=hall k hkn;simp[hkz]at this;simp[this,hkn]
    ·rw[Array.getElem?_append_right (by simp;omega)];have:=st.inv.tail k (by omega) hk;simp[hkz]at this;rw[this,Array.getElem?_replicate,Array.size_replicate,if_pos (by omega)]
   ·rw[dJ (by omega),dJ (by simp;omega)]
  have ea:a=frame Y.ops a0 vals n:=by
   have e2:a.tmps=(frame Y.ops a0 vals n).tmps:=by
    apply Array.ext_getElem?;intro t;rcases jY t a0.tmps.size with hlt|hge
    ·have e3:a.tmps.getD t undef=(frame Y.ops a0 vals n).tmps.getD t undef:=by
      by_cases hex:∃k ok,k<n/\Y.ops[k]?=some ok/\ok.dst=some t
      ·obtain⟨k,ok,hk,ek,hd⟩:=hex;rw[st.lies k ok t hk (hallF k hk) ek hd hlt,qq hR vals (ag _) hk ek hd hlt]
      ·rw[st.off t (λj oj hj _ ej hd=>hex ⟨j,oj,hj,ej,hd⟩),mh vals (λj oj hj ej hd=>hex ⟨j,oj,hj,ej,hd⟩)]
     have h1:t<a.tmps.size:=by rw[st.size];exact hlt
     have h2:t<(frame Y.ops a0 vals n).tmps.size:=by rw[gR];exact hlt
     rw[cD h1,cD h2];simp only[Bj,cD h1,cD h2,Option.getD_some]at e3;rw[e3]
    ·rw[dJ (by rw[st.size];exact hge),dJ (by rw[gR];exact hge)]
   have e4:a.defers=(frame Y.ops a0 vals n).defers:=by rw[st.defers];exact(pg _ _ _ _).symm
   cases a;simp only at e2 e4;subst e2 e4;rfl
  rw[fe,e,ea];refine hQ _ _ (ym _ _ _ _ _ st.good w (hI.fin _ _ st.wld hallF) (yq λx hx=>?_) λhB=>?_)
  ·obtain⟨k,o,φ,hk,ek,ht,hw,rfl⟩:=tK hx;exact st.fact k o φ ⟨hk,hallF k hk,ek,ht,hw⟩
  ·have mem:∀x∈Y.made vals (Y.ops.toList.take n) 0 a0 [],∃k o φ,Y.On n a0 listed vals k o φ/\x=(k,vals k):=by
    intro x hx;rcases xS _ _ _ _ x hx with h|⟨k,o,φ,h1,h2,h3,h4⟩
    ·cases h
    ·rw[fp]at h1;split at h1
     ·rename_i hlt;rw[na,mo (by omega)]at h3;rw[fe]at h2 h4;exact⟨k,o,φ,⟨hlt,hallF k hlt,by simpa using h1,h2,h3⟩,h4⟩
     ·cases h1
   intro x hx y hy hne b hb;obtain⟨k,o,φ,ho,rfl⟩:=mem x hx;obtain⟨k',o',φ',ho',rfl⟩:=mem y hy;exact st.pair hB k o φ k' o' φ' ho ho' hne b hb
 | succ f ih=>
  intro listed a w m vals st hl;obtain⟨i0,hi0,hu0,hb0⟩:=xW listed n (by omega)
  have hr0:i0∈kU .any Y.ops listed:=by
   have hz:i0<Y.ops.size:=aD hi0 hR.le;refine mem_ready.2 ⟨hu0,Y.ops[i0],by simp[hz],λe he hb=>?_⟩;have hlt:=hR.edge i0 _ hi0 (by simp[hz]) e he hb;have hez:e.on<listed.size:=by rw[st.inv.size];omega
   have:=hb0 e.on hlt;simp[hez]at this ⊢;exact this
  rw[show f+1+g=(f+g)+1 by omega];refine⟨λh=>(by rw[h]at hr0;cases hr0),λi hr=>?_⟩;obtain⟨hun,oi,ei,hall⟩:=mem_ready.1 hr;have hiz:i<Y.ops.size:=(ae.1 ei).1
  have hi:i<n:=by
   rcases jY i n with h|h
   ·exact h
   ·rcases hR.tail with h1|⟨h1,h2⟩
    ·omega
    ·exact absurd hr (wQ h1 h2 (by omega) st.inv _ i0 rfl hi0 hu0 i h)
  have hunF:listed.getD i false=false:=getD_both hun
  have hleft:left (listed.setIfInBounds i true) n=f:=by
   have:=xV listed i (by rw[st.inv.size];exact hiz) hun n hi;omega
  have hanc:∀k,k<n->(dA Y.ops i).testBit k=true->listed.getD k false=true:=
   pJ hR st.inv i hi (λoj ej=>by rw[ei]at ej;cases ej;exact hall)
  obtain⟨he,hw⟩:=uC (Region.noSelect_spec hR.sel i _ · · ei) (by rw[gR,st.size]) (CB hR st hi ei hunF hanc);have fA:=yp st (by omega) hanc
  have idle:eS Y.Ψ i=none∨Y.want oi (frame Y.ops a0 vals i)=false->Y.J i w w:=λh=>by
   rcases hI.idle i hi with h1|⟨h1,h2⟩
   ·exact h1 w
   ·rcases h with h|h
    ·exact absurd h h1
    ·unfold Law.want bO at h;rw[h2 oi ei]at h;cases h
  have bC:∀ (u:Value) (w':World),Y.J i w w'->u=vals i->(eS Y.Ψ i=none∨Y.want oi (frame Y.ops a0 vals i)=false)->wpAny Y.P .any Y.ops Q' (f+g) (listed.setIfInBounds i true) (a.put oi.dst u) w':=λu w' hx hu h=>by
   subst hu
   exact ih _ _ _ m vals (Bq hI hR st st.good (λ_ _=>rfl) hx hi ei hr hunF hanc fun φ h1 h2=>by
    rcases h with h|h
    ·rw[h]at h1;cases h1
    ·rw[h]at h2;cases h2) hleft
  unfold wpOp;simp only[ei];rcases qe hR st.good hi ei with⟨h1,h2⟩|⟨h1,h2,h3⟩|⟨h1,h2,φ,h3,h4⟩
  ·rw[if_neg (by rw[hw];exact λh=>by rw[Law.want,h]at h1;cases h1)];exact bC _ _ (idle (.inr h1)) h2.symm (.inr h1)
  ·rw[if_pos (by rw[hw];exact h1)];refine .inl ?_;have d:=h3 w (hI.det _ _ st.wld) fA;unfold Law.yI at d;unfold Oper.wp;rw[he];generalize (execOp (frame Y.ops a0 vals i).eval oi).run Y.P w=r at d
   cases r with
   | ok x w'=>
    cases x<;>simp only[lu]at d<;>simp only[zk]
    case value u=>obtain⟨d1,d2⟩:=d;rw[d1];exact bC u _ (idle (.inl h2)) d2 (.inl h2)
    case skip=>obtain⟨d1,d2⟩:=d;rw[d1];exact bC undef _ (idle (.inl h2)) d2 (.inl h2)
    case enter f args=>
     obtain⟨d1,_,d2⟩:=d;rw[d1];refine d2.mono λe w'' ⟨he,hx⟩=>?_;subst he;exact bC _ _ hx rfl (.inl h2)
   | halt x w'=>simp only[lu]at d
  ·rw[if_pos (by rw[hw];exact h1)];refine .inl ?_
   have go:∀ (u:Value) (w':World),Y.J i w w'->φ (lk Y.ops oi (frame Y.ops a0 vals i)) u w'->(Y.B->jD w w' (Y.O i) u)->wpAny Y.P .any Y.ops Q' (f+g) (listed.setIfInBounds i true) (a.put oi.dst u) w':=by
    intro u w' hx hφ hb;obtain⟨vals',hg'⟩:=jK (λj=>if j=i then u else m j) _ _ _ _ _ hrel
    have hm:∀j,listed.getD j false=true->m j=(λj=>if j=i then u else m j) j:=λj hj=>by
     have:j≠i:=λh=>by subst h;rw[hunF]at hj;cases hj
     simp[this]
    have hag:=agree hI hR st hg' hm;obtain⟨-,hwe,hle⟩:=n0 (a0:=a0) (vals:=vals) (vals':=vals') hR hi ei λk hk hb=>hag k hk (hanc k hk hb)
    have hv:vals' i=u:=by
     rcases qe hR hg' hi ei with⟨g1,_⟩|⟨_,g2,_⟩|⟨_,g2,_⟩
     ·rw[← hwe,h1]at g1;cases g1
     ·rw[h3]at g2;cases g2
     ·rw[g2];simp
    have:=ih _ _ _ _ vals' (Bq hI hR st hg' hm hx hi ei hr hunF hanc fun φ' ht _=>by
     rw[h3]at ht;cases ht;rw[hv,← hle];exact⟨hφ,hb⟩) hleft
    rw[hv]at this;exact this
   have d:=h4 w (hI.ahead _ _ _ hi st.wld hunF hanc) fA;unfold Law.vM at d;unfold Oper.wp;rw[he];generalize (execOp (frame Y.ops a0 vals i).eval oi).run Y.P w=r at d
   cases r with
   | ok x w'=>
    cases x<;>simp only[gP]at d<;>simp only[zk]
    case value u=>exact go u w' d.1 d.2.1 d.2.2
    case skip=>exact go undef w' d.1 d.2.1 d.2.2
    case enter f args=>
     obtain⟨d1,d2⟩:=d;rw[d1];refine d2.mono λe w'' h=>?_;rcases h with⟨v,he,hx,hφ,hb⟩|⟨ch,he,hx⟩
     ·subst he;exact go v w'' hx hφ hb
     ·subst he;exact hX i ch _ _ st.defers hx
   | halt x w'=>simp only[gP]at d
end
theorem j9{Y:Law}{n:Nat}{I:(Nat->Bool)->World->Prop}(hI:Y.Ok n I)(hm:Y.P.follows .mixedOrders=true)(hR:ly Y.ops n){id:Nat}{Q:Exit->Act->World->Prop}{a:Act}{w:World}(hw:Y.w0=w.drew)
  (hX:∀i ch a' w',a'.defers=a.defers->Y.X i ch w'->Q (.panic ch) a' w')
  (hQ:∀a w,Y.Q a w->wpAny Y.P .any Y.ops Q (Y.ops.size-n) (bD n true++bD (Y.ops.size-n) false) a w)
  (h:Y.rel (Y.ops.toList.take n) 0 a [] []):(gC id Y.ops true).wp Y.P Q a w:=by
 refine wp_region_any hm ?_;obtain⟨vals,hg⟩:=jK (λ_=>undef) _ _ _ _ _ h;have off:∀ {j:Nat} {p:Prop},(bD Y.ops.size false).getD j false=true->p:=λhl=>by rw[lA]at hl;cases hl
 have hz:=hI.zero;rw[hw]at hz
 have key:=DA hI hR h hX hQ n (bD Y.ops.size false) a w.drew (λ_=>undef) vals
  ⟨⟨by simp,λj oj _ hl=>off hl,λt _ ht=>getD_in (by simpa using ht) (lA _ _)⟩,hg,by simpa only[lA]using hz,rfl,rfl,
   λj _ _ _ hl=>off hl,λ_ _=>rfl,λj _ _ h=>off h.on,λ_ j _ _ h=>off h.on,λ_ j _ _ _ _ _ h=>off h.on⟩ ?_
 ·rw[show n+(Y.ops.size-n)=Y.ops.size by have:=hR.le;omega]at key;exact key
 ·have:∀k,k≤Y.ops.size->left (bD Y.ops.size false) k=k:=by
   intro k;induction k with
   | zero=>intro _;rfl
   | succ k ih=>
    intro hk;rw[left,ih (by omega),if_neg (by rw[getD_in (by rw[Array.size_replicate];omega) (lA _ _)];simp)]
  exact this n hR.le
theorem pW{P:Program}{l:List Oper}{n:Nat}{Q:Exit->Act->World->Prop}(hB:ng l.toArray n=true){a:Act}{w:World}(h:wpList P l.toArray Q (l.drop n) a w):
  wpAny P .any l.toArray Q (l.toArray.size-n) (bD n true++bD (l.toArray.size-n) false) a w:=by
 have hdl:(l.drop n).length=l.toArray.size-n:=by simp
 have:=wpAny_of_seq (md := .any) (Q':=Q) (l.drop n) n (bD n true++bD (l.toArray.size-n) false) a w (λj=>by simp[List.getElem?_drop]) (by rw[hdl];exact CA hB) h;rwa [hdl]at this
def cst(Ψ:List (Nat×Fct)):Ps:=Ψ.map λx=>(x.1,λ_=>x.2)
theorem kG(Ψ:List (Nat×Fct))(i:Nat):eS (cst Ψ) i=(dH Ψ i).map fun φ _=>φ:=by
 induction Ψ with
 | nil=>rfl
 | cons x r ih=>
  simp only[cst,fX,eS,dH]at ih ⊢;split<;>simp_all
theorem EL{Y:Law}{n:Nat}{E:World->World->Prop}(hr:∀w,E w w)(ht:∀a b c,E a b->E b c->E a c)(hs:∀a b,E a b->a.heap.size≤b.heap.size)(hD:Y.D=E Y.w0)(hH:Y.H=λ_=>E Y.w0)(hZ:Y.Z=E Y.w0)(hJ:Y.J=λ_=>E)
  (hO:∀i b,Y.O i=some b->b<Y.w0.heap.size) (hOO:∀i j b,i≠j->Y.O i=some b->Y.O j≠some b) (hst:∀i φ,eS Y.Ψ i=some φ->∀ls v w w',E w w'->φ ls v w->φ ls v w'):Y.Ok n λ_=>E Y.w0:=by
 refine⟨hr _,λ_ i _ _ _ h1 _ _ h2=>ht _ _ _ h1 ?_,λ_ _ h=>?_,λ_ i _ _ h _ _=>?_,λ_ _ h _=>?_,λi _ => .inl λw=>?_,λi _ _ h=>hs _ _ ?_,λ_ _ h=>hs _ _ h,λi j φ _ ht ls v w w' h=>hst j φ ht ls v w w' ?_,hO,hOO⟩;all_goals simp_all
def exw(w:World)(p:Regrown):World:=nr (redrawn w p.d) p.os
theorem jO{w w':World}(h:Ext w w'):∃p,w'=exw w p:=regrown_of_below h
theorem cm(w:World)(p:Regrown):Ext w (exw w p):=below_regrown w p.d p.os
@[simp,go_sem] theorem FD(w:World)(p:Regrown):(exw w p).heap.size=w.heap.size+p.os.size:=by simp[exw,redrawn]
@[simp,go_sem] theorem Lf(w:World)(p:Regrown):(exw w p).tape=w.tape:=rfl
theorem FF(w:World)(p:Regrown){n:Nat}(h:n<w.heap.size):(exw w p).heap[n]?=w.heap[n]?:=(cm w p).block n h
@[go_sem] theorem qs(w:World)(p:Regrown)(n i:Nat)(h:n<w.heap.size):(exw w p).cell? ⟨n,i,none⟩=w.cell? ⟨n,i,none⟩:=(cm w p).cell (p:=⟨n,i,none⟩) h
@[go_sem] theorem Kq(w:World)(p:Regrown)(n i:Nat)(h:n<w.heap.size):(exw w p).frozen? ⟨n,i,none⟩=w.frozen? ⟨n,i,none⟩:=(cm w p).frozen (p:=⟨n,i,none⟩) h
@[go_sem] theorem KP(w:World)(p:Regrown)(n:Nat)(h:n<w.heap.size):(exw w p).shape? n=w.shape? n:=by
 simp only[World.shape?,FF w p h]
@[go_sem] theorem yr(w:World)(p:Regrown)(n i:Nat)(v:Value)(h:n<w.heap.size):(exw w p).setCell ⟨n,i,none⟩ v=exw (w.setCell ⟨n,i,none⟩ v) p:=by
 simp only[exw,World.setCell,nr,redrawn,Go.Sort.modify_append_left _ _ _ _ h]
theorem rq{B:Nat}{a w:World}(h:Below B a w)(hB:B≤w.heap.size)(p:Regrown):Below B a (exw w p):=h.trans ((cm w p).mono hB)
theorem bn{w w':World}(h:Ext w w'){a:Addr}{v:Value}(hc:w.cell? a=some v):w'.cell? a=some v:=by
 rw[h.cell (block_lt_of_cell hc)];exact hc
@[go_sem] theorem Lk{n m:Nat}(k:Nat)(h:n<m):(n<m+k)=True:=by simp;omega
@[go_sem] theorem K9{n m:Nat}(h:n≤m):(n<m+1)=True:=by simp;omega
@[go_sem] theorem K8{n m:Nat}(h:n≤m):(n<m+2)=True:=by simp;omega
@[go_sem] theorem K7{n m:Nat}(h:n≤m):(n<m+3)=True:=by simp;omega
@[go_sem] theorem K6{n m:Nat}(h:n≤m):(n<m+4)=True:=by simp;omega
@[go_sem] theorem Ll{n m:Nat}(k:Nat)(h:n≤m):(n≤m+k)=True:=by simp;omega
@[go_sem] theorem jC(w:World)(p q:Regrown):exw (exw w p) q=exw w ⟨q.d,p.os++q.os⟩:=by simp[exw,nr,redrawn,mv]
@[go_sem] theorem kN(w:World)(p:Regrown):exw w.drew p=exw w p:=rfl
@[go_sem] theorem IY(w:World)(p q:Regrown):exw (exw w p).drew q=exw w ⟨q.d,p.os++q.os⟩:=by simp[exw,nr,redrawn,World.drew,mv]
@[go_sem] theorem GG{P:Program}(w:World)(t:TypeId)(k:IntKind)(i:Int)(cs:Array Value)(ht:P.underlying t=some (.array (P.arrayLen t) (P.elem t)))(h:0≤i/\i<(P.arrayLen t:Int)):
  (Instr.index t (.agg cs) (.int k i)).run P w=((sizeOf (P.elem t)).run P w).andThen λs w'=>(part (P.elem t) cs (i.toNat*s)).run P w':=by
 simp[Instr.index,asIntOf,run_underlying ht,h.1,h.2]
theorem an{o:Oper}{y}(h:o.guard=none):bO o y=true:=by
 unfold bO;rw[h]
def i7(w:World)(φ:Value->World->Prop)(e:Ending)(w2:World):Prop:=∃v,e = .returned v/\Ext w w2/\φ v w2
def gI(w:World)(φ:Value->World->Prop)(u:Value)(w2:World):Prop:=Ext w w2/\φ u w2
def AV(w w':World)(u v:Value):Prop:=w'=w/\u=v
def wo(w:World)(v:Value)(e:Ending)(w2:World):Prop:=e = .returned v/\Ext w w2
def jP(P:Program)(o:Oper)(a:Act)(w:World)(v:Value):Prop:=
 match (execOp a.eval o).run P w with
 | .ok (.value u) w'=>AV w w' u v
 | .ok .skip w'=>AV w w' undef v
 | .ok (.enter f args) w'=>w'=w/\P.inits.idxOf? f=none/\Calls P f args w (wo w v)
 | _=>False
def dQ(P:Program)(o:Oper)(a:Act)(w:World)(φ:Value->World->Prop):Prop:=
 match (execOp a.eval o).run P w with
 | .ok (.value u) w'=>gI w φ u w'
 | .ok (.enter f args) w'=>w'=w/\Calls P f args w (i7 w φ)
 | _=>False
attribute [go_sem] jP dQ
section
variable {Y : Law} {o : Oper} {r : List Oper} {i : Nat} {a : Act} {F : eU} {G : Made}
theorem Law.skip(hw:Y.want o a=false)(h:Y.rel r (i+1) (a.put o.dst undef) F G):Y.rel (o::r) i a F G:=by
 unfold Law.rel;rw[if_neg (by rw[hw];simp)];exact h
theorem Law.det(hw:Y.want o a=true)(ht:eS Y.Ψ i=none)(hJ:∀ {a b},Ext a b->Y.J i a b){v:Value}(h:∀w,Y.D w->cg (dA Y.ops i) F w->jP Y.P o a w v)(k:Y.rel r (i+1) (a.put o.dst v) F G):Y.rel (o::r) i a F G:=by
 unfold Law.rel;rw[if_pos hw];simp only[ht];refine⟨v,λw hx hf=>?_,k⟩;have:=h w hx hf;unfold jP at this;unfold Law.yI;generalize (execOp a.eval o).run Y.P w=q at this
 cases q with
 | ok x w'=>
  cases x<;>simp only[AV,wo]at this<;>simp only[lu]
  case value=>exact this
  case skip=>exact this
  case enter=>exact⟨this.1,this.2.1,this.2.2.mono λe w2 h=>⟨h.1,hJ h.2⟩⟩
 | halt x w'=>simp only at this
theorem Law.make{φ:List Value->Fct}(hw:Y.want o a=true)(ht:eS Y.Ψ i=some φ)(h:∀w,Y.H i w->cg (dA Y.ops i) F w->Y.vM i o a w (φ (lk Y.ops o a)))
  (k:∀v,Y.rel r (i+1) (a.put o.dst v) ((i,φ (lk Y.ops o a) v)::F) ((i,v)::G)):Y.rel (o::r) i a F G:=by
 unfold Law.rel;rw[if_pos hw];simp only[ht];exact⟨h,k⟩
end
def law(P:Program)(ops:Array Oper)(w0:World)(Ψ:List (Nat×Fct))(Q:Act->World->Prop):Law:=⟨False,P,ops,w0,λ_=>none,cst Ψ,Ext w0,λ_=>Ext w0,Ext w0,λ_=>Ext,λ_ _ _=>False,Q⟩
def bX(P:Program)(ops:Array Oper)(w0:World)(Ψ:List (Nat×Fct))(Q:Act->World->Prop)(l:List Oper)(i:Nat)(a:Act)(F:eU):Prop:=∀G,(law P ops w0 Ψ Q).rel l i a F G
section
variable {P : Program} {ops : Array Oper} {w0 : World} {Ψ : List (Nat × (Value → World → Prop))} {Q : Act → World → Prop} {o : Oper} {r : List Oper} {i : Nat} {a : Act} {F : eU}
theorem oD{i:Nat}(h:dH Ψ i=none):eS (cst Ψ) i=none:=by rw[kG,h];rfl
theorem jm{i:Nat}{φ:Fct}(h:dH Ψ i=some φ):eS (cst Ψ) i=some λ_=>φ:=by rw[kG,h];rfl
theorem bu(hw:bO o (yielded ops a.tmps)=false)(h:∀K:Act->Prop,(∀a,bX P ops w0 Ψ Q r (i+1) a F->K a)->K (a.put o.dst undef)):bX P ops w0 Ψ Q (o::r) i a F:=
 λG=>Law.skip hw (h _ (λ_ h=>h) G)
theorem ay(hw:bO o (yielded ops a.tmps)=true)(ht:dH Ψ i=none)
  (h:∀K:Act->Prop,(∀a,bX P ops w0 Ψ Q r (i+1) a F->K a)->∃v,(∀p,cg (dA ops i) F (exw w0 p)->jP P o a (exw w0 p) v)/\K (a.put o.dst v)):bX P ops w0 Ψ Q (o::r) i a F:=by
 obtain⟨v,h1,h2⟩:=h _ λ_ h=>h;exact λG=>Law.det hw (oD ht) (λh=>h) (λw' hx hf=>by obtain⟨p,rfl⟩:=jO hx;exact h1 p hf) (h2 G)
theorem bd{φ:Value->World->Prop}(hw:bO o (yielded ops a.tmps)=true)(ht:dH Ψ i=some φ)
  (h:∀p,cg (dA ops i) F (exw w0 p)->dQ P o a (exw w0 p) φ)
  (hn:∀v,∀K:Act->Prop,(∀a,bX P ops w0 Ψ Q r (i+1) a ((i,φ v)::F)->K a)->K (a.put o.dst v)):bX P ops w0 Ψ Q (o::r) i a F:=
 λG=>Law.make hw (jm ht) (λw' hx hf=>by
  obtain⟨p,rfl⟩:=jO hx;have:=h p hf;unfold dQ at this;show gP _ _ _ P _ _ _ ((execOp a.eval o).run P _)
  generalize (execOp a.eval o).run P (exw w0 p)=q at this
  cases q with
  | ok x w'=>
   cases x<;>simp only[gI,i7]at this<;>simp only[gP]
   case value=>exact⟨this.1,this.2,λh=>h.elim⟩
   case enter=>exact⟨this.1,this.2.mono λe w2 ⟨v,h1,h2,h3⟩=> .inl ⟨v,h1,h2,h3,λh=>h.elim⟩⟩
  | halt x w'=>simp only at this) λv=>hn v _ (λ_ h=>h) _
theorem bm(h:∀p,fW F (exw w0 p)->Q a (exw w0 p)):bX P ops w0 Ψ Q [] i a F:=λG w' hx hf _=>by
 obtain⟨p,rfl⟩:=jO hx;exact h p hf
end
def qS:List (Nat×(Value->World->Prop))->Prop
 | []=>True
 | x::r=>(∀v w w',Ext w w'->x.2 v w->x.2 v w')/\qS r
theorem Jb{Ψ:List (Nat×Fct)}{R:Nat->World->World->Prop}(h:∀x∈Ψ,∀v w w',R x.1 w w'->x.2 v w->x.2 v w'):∀i φ,eS (cst Ψ) i=some φ->∀ls v w w',R i w w'->φ ls v w->φ ls v w':=by
 induction Ψ with
 | nil=>intro i φ ht;cases ht
 | cons x r ih=>
  intro i φ ht;simp only[cst,fX,eS]at ht;split at ht
  ·rename_i hi;cases ht;subst hi;exact λ_=>h x (cy ..)
  ·exact ih (λy hy=>h y (cO _ hy)) i φ ht
theorem Ap{Ψ:List (Nat×Fct)}(h:qS Ψ):∀x∈Ψ,∀v w w',Ext w w'->x.2 v w->x.2 v w':=by
 induction Ψ with
 | nil=>intro x hx;cases hx
 | cons y r ih=>
  intro x hx;rcases aI.1 hx with rfl|hx
  ·exact h.1
  ·exact ih h.2 x hx
theorem bL{P:Program}{id:Nat}{Q:Exit->Act->World->Prop}{a:Act}{w:World}{l:List Oper}(n:Nat)(Ψ:List (Nat×(Value->World->Prop)))(hst:qS Ψ)(hm:P.follows .mixedOrders=true)(hB:ng l.toArray n=true)
  (h:bX P l.toArray w.drew Ψ (λa' w'=>wpList P l.toArray Q (l.drop n) a' w') (l.take n) 0 a []):(gC id l.toArray true).wp P Q a w:=
 j9 (Y:=law P l.toArray w.drew Ψ λa' w'=>wpList P l.toArray Q (l.drop n) a' w')
  (EL (λw=>aj _ _) (λ_ _ _=>Ext.trans) (λ_ _ h=>h.size) rfl rfl rfl rfl (λ_ _ h=>by cases h) (λ_ _ _ _ h=>by cases h) (Jb (Ap hst)))
  hm (mE hB) rfl (λ_ _ _ _ _ h=>h.elim) (λ_ _=>pW hB) (by simpa[law]using h [])
class XI (a w:World):Prop where out:Ext a w
instance XI.r(a:World):XI a a:=⟨aj _ _⟩
instance XI.a(a w:World)(o:Obj)[h:XI a w]:XI a (w.alloc o):=⟨h.out.alloc h.out.size o⟩
instance XI.d(a w:World)[h:XI a w]:XI a w.drew:=⟨h.out.drew⟩
instance XI.e(a w:World)(p:Regrown)[h:XI a w]:XI a (exw w p):=⟨rq h.out h.out.size p⟩
theorem xt{a w:World}[h:XI a w]:Ext a w:=h.out
theorem sz{P:Prop}(h:P:=by(try simp only[af,Go.Xk.FD,aQ,cQ,World.heap_drewN]);omega):P:=h
theorem cl{P:Program}{f:FuncId}{args:Array Value}{w:World}{Q:Ending->World->Prop}{v:Value}(h:Calls P f args w λe w'=>e = .returned v/\Ext w w')(k:∀p,Q (.returned v) (exw w p)):Calls P f args w Q:=h.mono λe w' ⟨he,hx⟩=>by
 obtain⟨p,rfl⟩:=jO hx;subst he;exact k p
theorem reg{P:Program}{id:Nat}{Q:Exit->Act->World->Prop}{a:Act}{w:World}{l:List Oper}(n:Nat)(h:bX P l.toArray w.drew [] (λa' w'=>wpList P l.toArray Q (l.drop n) a' w') (l.take n) 0 a [])(hm:P.follows .mixedOrders=true:=by kernel_rfl)(hB:ng l.toArray n=true:=by kernel_rfl):(gC id l.toArray true).wp P Q a w:=bL n [] trivial hm hB h
theorem w0{P:Prop}{Q:Regrown->Prop}(k:∀p,Q p)(h:(∀p,Q p)->P:=by
 intro k;have KQ:=aa k;clear k;simp only[aA,aS,aG,aT]
 repeat(first
  | (refine Go.Xk.ay (Go.Xk.an (by rfl)) (by rfl) (λK hK=>?_);apply ai;refine⟨λp hp=>?_,?_⟩;(go_simp;exact⟨rfl,rfl⟩);(go_simp;refine hK _ ?_;clear hK K))
  | (refine Go.Xk.bu (by rfl) (λK hK=>?_);go_simp;refine hK _ ?_;clear hK K)
  | (refine Go.Xk.ay (by rfl) (by rfl) (λK hK=>?_);apply ai;refine⟨λp hp=>?_,?_⟩;(go_simp;exact⟨rfl,rfl⟩);(go_simp;refine hK _ ?_;clear hK K)))
 refine Go.Xk.bm (λp _=>?_);exact KQ.out p):P:=h k
theorem w1{A P:Prop}{Q:Regrown->Prop}(a:A)(k:∀p,Q p)(h:A->(∀p,Q p)->P:=by
 intro a k;have AH:=aa a;have KQ:=aa k;clear a k;simp only[aA,aS,aG,aT]
 repeat(first
  | (refine Go.Xk.ay (Go.Xk.an (by rfl)) (by rfl) (λK hK=>?_);apply ai;refine⟨λp hp=>?_,?_⟩;(go_simp;first|exact⟨rfl,rfl⟩|((try refine⟨by kernel_rfl,?_⟩);((first|(with_reducible refine(AH.out _).mono ?_)|(with_reducible refine(AH.out _ Go.Xk.xt).mono ?_)|(with_reducible refine(AH.out _ (Go.Xk.Ext.trans (bG HX1.out) Go.Xk.xt)).mono ?_)|(with_reducible refine(AH.out _ (Go.Xk.Ext.trans (bG HX2.out) Go.Xk.xt)).mono ?_));first|exact λe w' h=>h|exact λe w' h=>⟨h.1,by rw[← h.2];exact aj _ _⟩)));(go_simp;refine hK _ ?_;clear hK K))
  | (refine Go.Xk.bu (by rfl) (λK hK=>?_);go_simp;refine hK _ ?_;clear hK K)
  | (refine Go.Xk.ay (by rfl) (by rfl) (λK hK=>?_);apply ai;refine⟨λp hp=>?_,?_⟩;(go_simp;first|exact⟨rfl,rfl⟩|((try refine⟨by kernel_rfl,?_⟩);((first|(with_reducible refine(AH.out _).mono ?_)|(with_reducible refine(AH.out _ Go.Xk.xt).mono ?_)|(with_reducible refine(AH.out _ (Go.Xk.Ext.trans (bG HX1.out) Go.Xk.xt)).mono ?_)|(with_reducible refine(AH.out _ (Go.Xk.Ext.trans (bG HX2.out) Go.Xk.xt)).mono ?_));first|exact λe w' h=>h|exact λe w' h=>⟨h.1,by rw[← h.2];exact aj _ _⟩)));(go_simp;refine hK _ ?_;clear hK K)))
 refine Go.Xk.bm (λp _=>?_);exact KQ.out p):P:=h a k
theorem w2{A B P:Prop}{Q:Regrown->Prop}(a:A)(b:B)(k:∀p,Q p)(h:A->B->(∀p,Q p)->P:=by
 intro a b k;have AH:=aa a;have BH:=aa b;have KQ:=aa k;clear a b k;simp only[aA,aS,aG,aT]
 repeat(first
  | (refine Go.Xk.ay (Go.Xk.an (by rfl)) (by rfl) (λK hK=>?_);apply ai;refine⟨λp hp=>?_,?_⟩;(go_simp;first|exact⟨rfl,rfl⟩|((try refine⟨by kernel_rfl,?_⟩);((first|(with_reducible refine(AH.out _).mono ?_)|(with_reducible refine(AH.out _ Go.Xk.xt).mono ?_)|(with_reducible refine(AH.out _ (Go.Xk.Ext.trans (bG HX1.out) Go.Xk.xt)).mono ?_)|(with_reducible refine(AH.out _ (Go.Xk.Ext.trans (bG HX2.out) Go.Xk.xt)).mono ?_)|(with_reducible refine(BH.out _).mono ?_)|(with_reducible refine(BH.out _ Go.Xk.xt).mono ?_)|(with_reducible refine(BH.out _ (Go.Xk.Ext.trans (bG HX1.out) Go.Xk.xt)).mono ?_)|(with_reducible refine(BH.out _ (Go.Xk.Ext.trans (bG HX2.out) Go.Xk.xt)).mono ?_));first|exact λe w' h=>h|exact λe w' h=>⟨h.1,by rw[← h.2];exact aj _ _⟩)));(go_simp;refine hK _ ?_;clear hK K))
  | (refine Go.Xk.bu (by rfl) (λK hK=>?_);go_simp;refine hK _ ?_;clear hK K)
  | (refine Go.Xk.ay (by rfl) (by rfl) (λK hK=>?_);apply ai;refine⟨λp hp=>?_,?_⟩;(go_simp;first|exact⟨rfl,rfl⟩|((try refine⟨by kernel_rfl,?_⟩);((first|(with_reducible refine(AH.out _).mono ?_)|(with_reducible refine(AH.out _ Go.Xk.xt).mono ?_)|(with_reducible refine(AH.out _ (Go.Xk.Ext.trans (bG HX1.out) Go.Xk.xt)).mono ?_)|(with_reducible refine(AH.out _ (Go.Xk.Ext.trans (bG HX2.out) Go.Xk.xt)).mono ?_)|(with_reducible refine(BH.out _).mono ?_)|(with_reducible refine(BH.out _ Go.Xk.xt).mono ?_)|(with_reducible refine(BH.out _ (Go.Xk.Ext.trans (bG HX1.out) Go.Xk.xt)).mono ?_)|(with_reducible refine(BH.out _ (Go.Xk.Ext.trans (bG HX2.out) Go.Xk.xt)).mono ?_));first|exact λe w' h=>h|exact λe w' h=>⟨h.1,by rw[← h.2];exact aj _ _⟩)));(go_simp;refine hK _ ?_;clear hK K)))
 refine Go.Xk.bm (λp _=>?_);exact KQ.out p):P:=h a b k
theorem w3{A B C P:Prop}{Q:Regrown->Prop}(a:A)(b:B)(c:C)(k:∀p,Q p)(h:A->B->C->(∀p,Q p)->P:=by
 intro a b c k;have AH:=aa a;have BH:=aa b;have CH:=aa c;have KQ:=aa k;clear a b c k;simp only[aA,aS,aG,aT]
 repeat(first
  | (refine Go.Xk.ay (Go.Xk.an (by rfl)) (by rfl) (λK hK=>?_);apply ai;refine⟨λp hp=>?_,?_⟩;(go_simp;first|exact⟨rfl,rfl⟩|((try refine⟨by kernel_rfl,?_⟩);((first|(with_reducible refine(AH.out _).mono ?_)|(with_reducible refine(AH.out _ Go.Xk.xt).mono ?_)|(with_reducible refine(AH.out _ (Go.Xk.Ext.trans (bG HX1.out) Go.Xk.xt)).mono ?_)|(with_reducible refine(AH.out _ (Go.Xk.Ext.trans (bG HX2.out) Go.Xk.xt)).mono ?_)|(with_reducible refine(BH.out _).mono ?_)|(with_reducible refine(BH.out _ Go.Xk.xt).mono ?_)|(with_reducible refine(BH.out _ (Go.Xk.Ext.trans (bG HX1.out) Go.Xk.xt)).mono ?_)|(with_reducible refine(BH.out _ (Go.Xk.Ext.trans (bG HX2.out) Go.Xk.xt)).mono ?_)|(with_reducible refine(CH.out _).mono ?_)|(with_reducible refine(CH.out _ Go.Xk.xt).mono ?_)|(with_reducible refine(CH.out _ (Go.Xk.Ext.trans (bG HX1.out) Go.Xk.xt)).mono ?_)|(with_reducible refine(CH.out _ (Go.Xk.Ext.trans (bG HX2.out) Go.Xk.xt)).mono ?_));first|exact λe w' h=>h|exact λe w' h=>⟨h.1,by rw[← h.2];exact aj _ _⟩)));(go_simp;refine hK _ ?_;clear hK K))
  | (refine Go.Xk.bu (by rfl) (λK hK=>?_);go_simp;refine hK _ ?_;clear hK K)
  | (refine Go.Xk.ay (by rfl) (by rfl) (λK hK=>?_);apply ai;refine⟨λp hp=>?_,?_⟩;(go_simp;first|exact⟨rfl,rfl⟩|((try refine⟨by kernel_rfl,?_⟩);((first|(with_reducible refine(AH.out _).mono ?_)|(with_reducible refine(AH.out _ Go.Xk.xt).mono ?_)|(with_reducible refine(AH.out _ (Go.Xk.Ext.trans (bG HX1.out) Go.Xk.xt)).mono ?_)|(with_reducible refine(AH.out _ (Go.Xk.Ext.trans (bG HX2.out) Go.Xk.xt)).mono ?_)|(with_reducible refine(BH.out _).mono ?_)|(with_reducible refine(BH.out _ Go.Xk.xt).mono ?_)|(with_reducible refine(BH.out _ (Go.Xk.Ext.trans (bG HX1.out) Go.Xk.xt)).mono ?_)|(with_reducible refine(BH.out _ (Go.Xk.Ext.trans (bG HX2.out) Go.Xk.xt)).mono ?_)|(with_reducible refine(CH.out _).mono ?_)|(with_reducible refine(CH.out _ Go.Xk.xt).mono ?_)|(with_reducible refine(CH.out _ (Go.Xk.Ext.trans (bG HX1.out) Go.Xk.xt)).mono ?_)|(with_reducible refine(CH.out _ (Go.Xk.Ext.trans (bG HX2.out) Go.Xk.xt)).mono ?_));first|exact λe w' h=>h|exact λe w' h=>⟨h.1,by rw[← h.2];exact aj _ _⟩)));(go_simp;refine hK _ ?_;clear hK K)))
 refine Go.Xk.bm (λp _=>?_);exact KQ.out p):P:=h a b c k
attribute [irreducible] exw
attribute [irreducible] bX
end Go.Xk
namespace Go.Xo
open Go.RowKit Go.Xk
theorem ke{w:World}{base:Nat}{e:TypeId}{size:Nat}{v:Value}{n:Nat}{xs:List Value}(h:w.ownsRow base e size v n xs)(o:Obj):(w.alloc o).ownsRow base e size v n xs:=h.alloc o
theorem jI{w:World}{base:Nat}{e:TypeId}{size:Nat}{v:Value}{n:Nat}{xs:List Value}(h:w.ownsRow base e size v n xs):(w.drew).ownsRow base e size v n xs:=h.drew
theorem EF{w:World}{b b':Nat}{e:TypeId}{size:Nat}{v:Value}{n:Nat}{xs:List Value}(h:w.ownsRow b e size v n xs)(hb:b'≤b):w.ownsRow b' e size v n xs:=by
 obtain⟨h1,h2⟩:=h;refine⟨h1,?_⟩;rcases h2 with h2|⟨g,cap,cur,hv,hg,r⟩
 ·exact .inl h2
 ·exact .inr ⟨g,cap,cur,hv,by omega,r⟩
theorem addr_add(b off j:Nat):zi ⟨b,off,none⟩ j=⟨b,off+j,none⟩:=by
 unfold zi;split
 ·rename_i h0;subst h0;rfl
 ·rfl
theorem rU{w:World}{b:Nat}{e:TypeId}{size:Nat}{v:Value}{n:Nat}{xs:List Value}(h:w.ownsRow b e size v n xs):∀k,v.ownBlock=some k->b≤k:=by
 obtain⟨h1,h2⟩:=h;intro k hk;rcases h2 with⟨rfl,_⟩|⟨g,cap,cur,rfl,hg,r⟩
 ·cases hk
 ·simp only[gA,fg]at hk;omega
theorem rm{W:World}{g:Nat}{x y z:Value}{t:TypeId}(h:g=W.heap.size):∀ (j:Nat) u,[x,y,z][j]?=some u->(W.alloc (.cells #[x,y,z] t)).cell? ⟨g,0+j,none⟩=some u:=by
 subst h;intro j u hj;rw[jM];match j,hj with
 | 0,hj=>simpa using hj
 | 1,hj=>simpa using hj
 | 2,hj=>simpa using hj
theorem Lr{x:Value}(h:x.oneCell'=true):∀u ∈ [x],u.oneCell'=true:=by
 intro u hu;simp only[aI,aC,or_false]at hu;subst hu;exact h
end Go.Xo
namespace Go.Xe
open Go.RowKit Go.Xk
structure Pre(E:World->World->Prop):Prop where
 refl:∀w,E w w
 trans:∀ {a b c},E a b->E b c->E a c
 ext:∀ {a b},Ext a b->E a b
 size:∀ {a b},E a b->a.heap.size≤b.heap.size
def law(E:World->World->Prop)(P:Program)(ops:Array Oper)(w0:World)(O:Nat->Option Nat)(Ψ:Ps)(Q:Act->World->Prop):Law:=⟨True,P,ops,w0,O,Ψ,E w0,λ_=>E w0,E w0,λ_=>E,λ_ _ _=>False,Q⟩
def bX(E:World->World->Prop)(P:Program)(ops:Array Oper)(w0:World)(O:Nat->Option Nat)(Ψ:List (Nat×Fct))(Q:Act->World->Prop):List Oper->Nat->Act->eU->Made->Prop:=(law E P ops w0 O (cst Ψ) Q).rel
theorem th{E:World->World->Prop}(hE:Pre E){P:Program}{id:Nat}{Q:Exit->Act->World->Prop}{a:Act}{w:World}{l:List Oper}(n:Nat)(O:Nat->Option Nat)(hO:∀i b,O i=some b->b<w.heap.size)(hOO:∀i j b,i≠j->O i=some b->O j≠some b)(Ψ:Ps)(hm:P.follows .mixedOrders=true)(hB:ng l.toArray n=true)
  (hst:∀i φ,eS Ψ i=some φ->∀ls v w w',E w w'->φ ls v w->φ ls v w')
  (h:(law E P l.toArray w.drew O Ψ (λa' w'=>wpList P l.toArray Q (l.drop n) a' w')).rel (l.take n) 0 a [] []):(gC id l.toArray true).wp P Q a w:=
 j9 (Y:=law E P l.toArray w.drew O Ψ λa' w'=>wpList P l.toArray Q (l.drop n) a' w')
  (EL hE.refl (λ_ _ _=>hE.trans) (λ_ _=>hE.size) rfl rfl rfl rfl (λi b h=>by simpa[law]using hO i b h) hOO hst)
  hm (mE hB) rfl (λ_ _ _ _ _ h=>h.elim) (λ_ _=>pW hB) (by simpa[law]using h)
theorem bB{E:World->World->Prop}(hE:Pre E){P:Program}{id:Nat}{Q:Exit->Act->World->Prop}{a:Act}{w:World}{l:List Oper}(n:Nat)(O:Nat->Option Nat)(hO:∀i b,O i=some b->b<w.heap.size)(hOO:∀i j b,i≠j->O i=some b->O j≠some b)(Ψ:List (Nat×(Value->World->Prop)))(hm:P.follows .mixedOrders=true)(hB:ng l.toArray n=true)
  (hst:∀i φ,dH Ψ i=some φ->∀v w w',E w w'->φ v w->φ v w')
  (h:bX E P l.toArray w.drew O Ψ (λa' w'=>wpList P l.toArray Q (l.drop n) a' w') (l.take n) 0 a [] []):(gC id l.toArray true).wp P Q a w:=
 th hE n O hO hOO (cst Ψ) hm hB (λi φ h=>by
  rw[kG]at h
  cases ht:dH Ψ i with
  | none=>rw[ht]at h;cases h
  | some ψ=>rw[ht]at h;cases h;exact λ_=>hst i ψ ht) h
attribute [irreducible] bX
end Go.Xe
namespace Go.Xo
open Go.RowKit Go.Xk
theorem Bs{P:Program}(w:World)(base:Nat)(t ty e:TypeId)(i:TypeInfo)(z:Value)(size bytes:Nat)(ht:P.underlying t=some (.slice e))(hi:P.info? e=some i)(hz:i.zero=some z)
  (hsize:i.size=size) (hby:i.bytes=bytes) (hzs:z.cells.size=size) (hsz:0<size)
  (v:Value) (n:Nat) (xs:List Value) (hown:w.ownsRow base e size v n xs)
  (a:Addr) (m c:Nat) (news:List Value) (hm:0<m) (hl:news.length=m*size) (hnews:∀j u,news[j]?=some u->w.cell? (a.add j)=some u) (h1:∀u∈news,u.oneCell'=true)
  (hb:n≤4000000/\m≤4000000/\bytes≤1000) (hbase:base≤w.heap.size) :
  ∃v' w',(Builtin.append_ #[t,t] ty #[v,.slice (some a) m c]).run P w = .ok v' w'/\w'.ownsRow base e size v' (n+m) (xs++news)/\
   ((∃g cap,v = .slice (some ⟨g,0,none⟩) n cap/\v' = .slice (some ⟨g,0,none⟩) (n+m) cap/\w.grownBy w' (some g))∨(w.grownBy w' none/\∃b,w.heap.size≤b/\v'.ownBlock=some b)):=by
 have h63:n+m≤maxLen:=by unfold maxLen;omega
 have hbytes:(n+m)*bytes≤140737488355328:=by
  have:(n+m)*bytes≤8000000*1000:=Nat.mul_le_mul (by omega) hb.2.2
  omega
 have fresh:∀ (v':Value) (w':World),w'.ownsRow w.heap.size e size v' (n+m) (xs++news)->∃b,w.heap.size≤b/\v'.ownBlock=some b:=by
  intro v' w' ho;rcases ho.2 with⟨-,h0⟩|⟨g,cap,cur,rfl,hb,-⟩
  ·omega
  ·exact⟨g,hb,rfl⟩
 rcases hown.2 with⟨rfl,rfl⟩|⟨g,cap,cur,rfl,hb0,hg,hnc,hcm,hcs,htake⟩
 ·have hx0:xs = []:=mr (by simpa using hown.1);subst hx0;obtain⟨v',w',hrun,r1,r2,-⟩:=run_append_own (P:=P) w w.heap.size t ty e i z size bytes ht hi hz hsize hby hzs hsz (.slice none 0 0) 0 [] (gL w _ e size) a m c news hl hnews h1 h63 hbytes (ag _);exact⟨v',w',hrun,EF r1 hbase,.inr ⟨r2,fresh v' w' r1⟩⟩
 ·by_cases hr:n+m≤cap
  ·obtain⟨w',hrun,r1,r2⟩:=run_append_fits (P:=P) w base t ty e i size ht hi hsize g n cap xs hown a m c news hl hnews h1 hr;exact⟨_,w',hrun,r1,.inl ⟨g,cap,rfl,rfl,r2⟩⟩
  ·obtain⟨v',w',hrun,r1,r2⟩:=run_append_arg_grows (P:=P) w t ty e i z size bytes ht hi hz hsize hby hzs hsz ⟨g,0,none⟩ n cap xs hown.1 (λj u hj=>hown.cells rfl j u hj) a m c news hl hnews (by omega) h63 hbytes;exact⟨v',w',hrun,EF r1 hbase,.inr ⟨r2,fresh v' w' r1⟩⟩
end Go.Xo
namespace Go.Xe
open Go.RowKit Go.Xk
abbrev iy:=List (Nat×(Option Obj->Prop))
def ES(ks:iy)(w w':World):Prop:=w'.os=w.os/\w'.tape=w.tape/\w'.output=w.output/\w.heap.size≤w'.heap.size/\∀b,b<w.heap.size->w'.heap[b]?=w.heap[b]?∨∃k∈ks,k.1=b/\k.2 w'.heap[b]?
theorem bV(ks:iy):Pre (ES ks):=by
 refine⟨λw=>⟨rfl,rfl,rfl,ag _,λb _ => .inl rfl⟩,?_,?_,λh=>h.2.2.2.1⟩
 ·rintro a b c ⟨h1,h2,h3,h4,h5⟩ ⟨g1,g2,g3,g4,g5⟩;refine⟨g1.trans h1,g2.trans h2,g3.trans h3,bH h4 g4,λx hx=>?_⟩;rcases g5 x (aD hx h4)with e|e
  ·rw[e];exact h5 x hx
  ·exact .inr e
 ·intro a b h;exact⟨h.os,h.tape,h.output,h.size,λx hx => .inl (h.block x hx)⟩
theorem ES.block{ks:iy}{w w':World}(h:ES ks w w'){b:Nat}(hb:b<w.heap.size)(hn:∀k∈ks,k.1≠b):w'.heap[b]?=w.heap[b]?:=by
 rcases h.2.2.2.2 b hb with e|⟨k,hk,e,-⟩
 ·exact e
 ·exact absurd e (hn k hk)
theorem ES.cell{ks:iy}{w w':World}(h:ES ks w w'){b o:Nat}{v:Value}(hc:w.cell? ⟨b,o,none⟩=some v)(hn:∀k∈ks,k.1≠b):w'.cell? ⟨b,o,none⟩=some v:=
 (vl (a:=⟨b,o,none⟩) (h.block (al _ _ hc) hn)).trans hc
def gM(e:TypeId)(size n:Nat)(xs:List Value):Value->iy
 | .slice (some a) _ cap => [(a.block,λo=>∃cur,o=some (.cells cur e (0,0))/\cap≤maxLen/\cur.size=cap*size/\cur.toList.take (n*size)=xs)]
 | _ => []
theorem gW{e:TypeId}{size n:Nat}{xs:List Value}{v:Value}{k:Nat×(Option Obj->Prop)}(h:k∈gM e size n xs v):v.ownBlock=some k.1:=by
 unfold gM at h;split at h
 ·simp only[aI,aC,or_false]at h;subst h;rfl
 ·cases h
theorem ES.own{ks:iy}{w w':World}{B:Nat}{e:TypeId}{size n m:Nat}{v:Value}{xs news:List Value}(h:ES ks w w')(ho:w.ownsRow B e size v n xs)(hk:∀k∈ks,v.ownBlock=some k.1->k∈gM e size (n+m) (xs++news) v):w'.ownsRow B e size v n xs:=by
 obtain⟨h1,h2⟩:=ho;refine⟨h1,?_⟩;rcases h2 with h2|⟨g,cap,cur,rfl,hb,hg,hnc,hcm,hcs,htake⟩
 ·exact .inl h2
 ·rcases h.2.2.2.2 g (ae.1 hg).1 with e1|⟨k,hk',e1,e2⟩
  ·exact .inr ⟨g,cap,cur,rfl,hb,by rw[e1];exact hg,hnc,hcm,hcs,htake⟩
  ·have hs:=hk k hk' (by rw[e1];rfl);simp only[gM,aI,aC,or_false]at hs;subst hs;obtain⟨cur',c1,-,c2,c3⟩:=e2;refine .inr ⟨g,cap,cur',rfl,hb,c1,hnc,hcm,c2,?_⟩;have h3:n*size≤(n+m)*size:=ni _ (by omega);have h4:cur'.toList.take (n*size)=(cur'.toList.take ((n+m)*size)).take (n*size):=by rw[na,mo h3]
   rw[h4,c3,← h1,List.take_left]
def mZ(B:Nat)(e:TypeId)(size B0:Nat)(v:Value)(n m:Nat)(xs:List Value)(v':Value)(w:World):Prop:=
 w.ownsRow B e size v' (n+m) xs/\((∃g cap,v = .slice (some ⟨g,0,none⟩) n cap/\v' = .slice (some ⟨g,0,none⟩) (n+m) cap)∨∃b,B0≤b/\v'.ownBlock=some b)
theorem mZ.es{ks:iy}{B:Nat}{e:TypeId}{size B0 n m:Nat}{v:Value}{xs:List Value}(hk:∀k∈ks,v.ownBlock=some k.1->k∈gM e size (n+m) xs v)(hB:∀k∈ks,k.1<B0):
  ∀v' w w',ES ks w w'->mZ B e size B0 v n m xs v' w->mZ B e size B0 v n m xs v' w':=by
 rintro v' w w' h ⟨ho,hv⟩;refine⟨?_,hv⟩;rcases hv with⟨g,cap,rfl,rfl⟩|⟨b,hb,e1⟩
 ·obtain⟨h1,h2⟩:=ho;refine⟨h1,?_⟩;rcases h2 with⟨h2,-⟩|⟨g',cap',cur,hv,hb,hg,hnc,hcm,hcs,htake⟩
  ·simp at h2
  ·simp only[mu.injEq,fg,Addr.mk.injEq,and_true,true_and]at hv;obtain⟨rfl,rfl⟩:=hv;rcases h.2.2.2.2 g (ae.1 hg).1 with e1|⟨k,hk',e1,e2⟩
   ·exact .inr ⟨g,cap,cur,rfl,hb,by rw[e1];exact hg,hnc,hcm,hcs,htake⟩
   ·have hs:=hk k hk' (by rw[e1];rfl);simp only[gM,aI,aC,or_false]at hs;subst hs;obtain⟨cur',c1,-,c2,c3⟩:=e2;exact .inr ⟨g,cap,cur',rfl,hb,c1,hnc,hcm,c2,c3⟩
 ·obtain⟨h1,h2⟩:=ho;refine⟨h1,?_⟩;rcases h2 with⟨rfl,-⟩|⟨g',cap',cur,rfl,hb',hg,r⟩
  ·cases e1
  ·cases e1;exact .inr ⟨g',cap',cur,rfl,hb',by rw[h.block (ae.1 hg).1 λk hk' e2=>by have:=hB k hk';simp only at hb;omega];exact hg,r⟩
def qg(B0:Nat)(x:Value)(v:Value)(w:World):Prop:=∃g,v = .slice (some ⟨g,0,none⟩) 1 1/\B0≤g/\w.cell? ⟨g,0,none⟩=some x
theorem qg.es{ks:iy}{B0:Nat}{x:Value}(hB:∀k∈ks,k.1<B0):∀v w w',ES ks w w'->qg B0 x v w->qg B0 x v w':=by
 rintro v w w' h ⟨g,rfl,hg,hc⟩;exact⟨g,rfl,hg,h.cell hc λk hk e=>by have:=hB k hk;omega⟩
section
variable {E : World → World → Prop} {P : Program} {ops : Array Oper} {w0 : World} {O : Nat → Option Nat} {Ψ : List (Nat × (Value → World → Prop))} {Q : Act → World → Prop} {o : Oper} {r : List Oper} {i : Nat} {a : Act} {F : eU} {G : Made}
theorem bu(hw:bO o (yielded ops a.tmps)=false)(h:∀K:Act->Prop,(∀a,bX E P ops w0 O Ψ Q r (i+1) a F G->K a)->K (a.put o.dst undef)):bX E P ops w0 O Ψ Q (o::r) i a F G:=by
 unfold bX at *
 exact Law.skip hw (h _ λ_ h=>h)
def gI(E:World->World->Prop)(w:World)(old:Option Nat)(φ:Value->World->Prop)(u:Value)(w2:World):Prop:=E w w2/\φ u w2/\jD w w2 old u
def i7(w:World)(old:Option Nat)(φ:Value->World->Prop)(e:Ending)(w2:World):Prop:=∃v,e = .returned v/\Ext w w2/\φ v w2/\jD w w2 old v
def dQ(E:World->World->Prop)(P:Program)(o:Oper)(a:Act)(w:World)(old:Option Nat)(φ:Value->World->Prop):Prop:=
 match (execOp a.eval o).run P w with
 | .ok (.value u) w'=>gI E w old φ u w'
 | .ok .skip w'=>gI E w old φ undef w'
 | .ok (.enter f args) w'=>w'=w/\Calls P f args w (i7 w old φ)
 | _=>False
attribute [go_sem] dQ
theorem ay(hE:Pre E)(hw:bO o (yielded ops a.tmps)=true)(ht:dH Ψ i=none)
  (h:∀K:Act->Prop,(∀a,bX E P ops w0 O Ψ Q r (i+1) a F G->K a)->∃v,(∀w',E w0 w'->cg (dA ops i) F w'->Xk.jP P o a w' v)/\K (a.put o.dst v)):bX E P ops w0 O Ψ Q (o::r) i a F G:=by
 obtain⟨v,h1,h2⟩:=h _ λ_ h=>h;unfold bX at *
 exact Law.det hw (oD ht) hE.ext h1 h2
theorem oB{E J:World->World->Prop}(hE:∀ {a b},E a b->J a b)(hJ:∀ {a b},Ext a b->J a b){B:Prop}{X:List PanicEntry->World->Prop}{w:World}{old:Option Nat}{φ:Fct}(h:dQ E P o a w old φ):gP B J X P w old φ ((execOp a.eval o).run P w):=by
 unfold dQ at h;generalize (execOp a.eval o).run P w=q at h
 cases q with
 | ok x w'=>
  cases x<;>simp only[gI,i7]at h<;>simp only[gP]
  case value=>exact⟨hE h.1,h.2.1,λ_=>h.2.2⟩
  case skip=>exact⟨hE h.1,h.2.1,λ_=>h.2.2⟩
  case enter=>exact⟨h.1,h.2.mono λe w2 ⟨v,h1,h2,h3,h4⟩=> .inl ⟨v,h1,hJ h2,h3,λ_=>h4⟩⟩
 | halt x w'=>simp only at h
theorem bd(hE:Pre E){φ:Value->World->Prop}(hw:bO o (yielded ops a.tmps)=true)(ht:dH Ψ i=some φ)
  (h:∀w',E w0 w'->cg (dA ops i) F w'->dQ E P o a w' (O i) φ)
  (hn:∀v,∀K:Act->Prop,(∀a,bX E P ops w0 O Ψ Q r (i+1) a ((i,φ v)::F) ((i,v)::G)->K a)->K (a.put o.dst v)):bX E P ops w0 O Ψ Q (o::r) i a F G:=by
 unfold bX at *
 exact Law.make hw (jm ht) (λw' hx hf=>oB (λh=>h) hE.ext (h w' hx hf)) λv=>hn v _ λ_ h=>h
theorem bm(h:∀w',E w0 w'->fW F w'->apart G->Q a w'):bX E P ops w0 O Ψ Q [] i a F G:=by
 unfold bX;exact λw hz hf hb=>h w hz hf (hb trivial)
theorem EX{ks:iy}{w:World}{old:Option Nat}(B0 base:Nat)(s x:Operand)(t:TypeId)(ho:o.op = .call { callee := .builtin .append,args := #[s,x],argTypes := #[t,t] })
  (e:TypeId) (ti:TypeInfo) (z:Value) (size bytes:Nat) (ht:P.underlying t=some (.slice e)) (hi:P.info? e=some ti) (hz:ti.zero=some z)
  (hsize:ti.size=size) (hby:ti.bytes=bytes) (hzs:z.cells.size=size) (hsz:0<size)
  (v:Value) (n:Nat) (xs:List Value) (hs:a.eval s=v) (hown:w.ownsRow base e size v n xs)
  (ad:Addr) (m c:Nat) (news:List Value) (hx:a.eval x = .slice (some ad) m c) (hm:0<m) (hl:news.length=m*size) (hnews:∀j u,news[j]?=some u->w.cell? (ad.add j)=some u) (h1:∀u∈news,u.oneCell'=true)
  (hb:n≤4000000/\m≤4000000/\bytes≤1000) (hbase:base≤w.heap.size) (hB:B0≤w.heap.size) (hk:∀k∈gM e size (n+m) (xs++news) v,k∈ks) (hold:old=v.ownBlock):dQ (ES ks) P o a w old (mZ base e size B0 v n m (xs++news)):=by
 obtain⟨v',w',hrun,r1,r2⟩:=Xo.Bs (P:=P) w base t o.type e ti z size bytes ht hi hz hsize hby hzs hsz v n xs hown ad m c news hm hl hnews h1 hb hbase;unfold dQ;simp[execOp,ho,resolve,invoke,builtin,hs,hx,hrun,Result.andThen];rcases r2 with⟨g,cap,rfl,rfl,hg⟩|⟨hg,b,hb',e1⟩
 ·refine⟨⟨hg.os,hg.tape,hg.output,hg.size,λy hy=>?_⟩,⟨r1,.inl ⟨g,cap,rfl,rfl⟩⟩,λb hb=>⟨.inl (by rw[hold,← hb];rfl),(r1.lt b hb).2⟩⟩;by_cases hyg:y=g
  ·subst hyg;refine .inr ⟨_,hk _ (by unfold gM;exact cy ..),rfl,?_⟩;rcases r1.2 with⟨h2,-⟩|⟨g',cap',cur,hv,hb2,hg2,hnc,hcm,hcs,htake⟩
   ·simp at h2
   ·simp only[mu.injEq,fg,Addr.mk.injEq,and_true,true_and]at hv;obtain⟨rfl,rfl⟩:=hv;exact⟨cur,hg2,hcm,hcs,htake⟩
  ·exact .inl (hg.block y hy λe=>hyg (by simpa using e))
 ·exact⟨⟨hg.os,hg.tape,hg.output,hg.size,λy hy => .inl (hg.block y hy (by simp))⟩,⟨r1,.inr ⟨b,by omega,e1⟩⟩,λc hc=>⟨.inr (by rw[e1]at hc;cases hc;exact hb'),(r1.lt c hc).2⟩⟩
end
def fi(b:Nat)(o:Obj)(v:Value)(w:World):Prop:=w.heap[b]?=some o
theorem fi.es{ks:iy}{b:Nat}{o:Obj}(hk:∀k∈ks,k.1=b->k.2=λx=>x=some o):∀v w w',ES ks w w'->fi b o v w->fi b o v w':=by
 intro v w w' h hb;rcases h.2.2.2.2 b (ae.1 hb).1 with e|⟨k,h1,h2,h3⟩
 ·exact e.trans hb
 ·rw[hk k h1 h2]at h3;exact h3
theorem iM{W:World}{b:Nat}{a0 a1 a2:Value}{t:TypeId}(h:W.heap[b]?=some (.cells #[a0,a1,a2] t (0,0))):
  W.cell? ⟨b,0,none⟩=some a0/\W.cell? ⟨b,1,none⟩=some a1/\W.cell? ⟨b,2,none⟩=some a2/\W.frozen? ⟨b,0,none⟩=false/\W.frozen? ⟨b,1,none⟩=false/\W.frozen? ⟨b,2,none⟩=false:=by
 refine⟨by simp[ak,h],by simp[ak,h],by simp[ak,h],aN W b 0 _ t h,aN W b 1 _ t h,aN W b 2 _ t h⟩
def O2(i1:Nat)(b1:Option Nat)(i2:Nat)(b2:Option Nat):Nat->Option Nat:=λi=>if i=i1 then b1 else if i=i2 then b2 else none
theorem Jy{i1 i2 s:Nat}{b1 b2:Option Nat}(h1:∀b,b1=some b->b<s)(h2:∀b,b2=some b->b<s):∀i b,O2 i1 b1 i2 b2 i=some b->b<s:=by
 intro i b h;unfold O2 at h;split at h
 ·exact h1 b h
 ·split at h
  ·exact h2 b h
  ·cases h
theorem Jx{i1 i2:Nat}{b1 b2:Option Nat}(h:∀b,b1=some b->b2≠some b):∀i j b,i≠j->O2 i1 b1 i2 b2 i=some b->O2 i1 b1 i2 b2 j≠some b:=by
 intro i j b hij h1 h2;unfold O2 at h1 h2;split at h1<;>split at h2
 ·omega
 ·split at h2
  ·exact h b h1 h2
  ·cases h2
 ·split at h1
  ·exact h b h2 h1
  ·cases h1
 ·split at h1<;>split at h2
  ·omega
  ·cases h2
  ·cases h1
  ·cases h1
theorem om{ks:iy}{Ψ:List (Nat×(Value->World->Prop))}(h:∀x∈Ψ,∀v w w',ES ks w w'->x.2 v w->x.2 v w'):∀i φ,dH Ψ i=some φ->∀v w w',ES ks w w'->φ v w->φ v w':=by
 induction Ψ with
 | nil=>intro i φ ht;cases ht
 | cons x r ih=>
  intro i φ ht;unfold dH at ht;split at ht
  ·cases ht;exact h x (cy ..)
  ·exact ih (λy hy=>h y (cO _ hy)) i φ ht
theorem bP{m i:Nat}{φ:World->Prop}{r:eU}{w:World}(h:cg m ((i,φ)::r) w)(hm:m.testBit i=true):φ w:=by
 unfold cg at h;rw[if_pos hm]at h;exact h.1
theorem mP{m i:Nat}{φ:World->Prop}{r:eU}{w:World}(h:cg m ((i,φ)::r) w):cg m r w:=by
 unfold cg at h;split at h
 ·exact h.2
 ·exact h
end Go.Xe
namespace Go.Xe
open Go.RowKit
open Go.Xk
def newRow(B0:Nat)(l:List Value)(e:TypeId)(v:Value)(w:World):Prop:=∃g,v = .slice (some ⟨g,0,none⟩) 1 1/\B0≤g/\w.heap[g]?=some (.cells l.toArray e)
theorem newRow.es{ks:iy}{B0:Nat}{l:List Value}{e:TypeId}(hB:∀k∈ks,k.1<B0):∀v w w',ES ks w w'->newRow B0 l e v w->newRow B0 l e v w':=by
 rintro v w w' h ⟨g,rfl,hg,hc⟩;exact⟨g,rfl,hg,(h.block (ae.1 hc).1 λk hk e=>by have:=hB k hk;omega).trans hc⟩
theorem By{ks:iy}{w:World}{old:Option Nat}(B0:Nat)(l:List Value)(t:TypeId)(c:Array Value)(hc:c=l.toArray)(hB:B0≤w.heap.size):gI (ES ks) w old (newRow B0 l t) (.slice (some ⟨w.heap.size,0,none⟩) 1 1) (w.alloc (.cells c t)):=by
 subst hc;exact⟨(bV ks).ext ((aj _ _).alloc (ag _) _),⟨w.heap.size,rfl,hB,by show(w.heap.push _)[w.heap.size]?=_;simp⟩,λb hb=>by cases hb;exact⟨.inr (ag _),by simp⟩⟩
def Gj(e:TypeId)(size B0:Nat)(v:Value)(n:Nat)(xs news:List Value):Value->World->Prop:=mZ 0 e size B0 v n 1 (xs++news)
theorem uP{P:Program}{o:Oper}{a:Act}{ks:iy}{w:World}{old:Option Nat}(B0:Nat)(s x:Operand)(t:TypeId)(ho:o.op = .call { callee := .builtin .append,args := #[s,x],argTypes := #[t,t] })
  (e:TypeId) (ti:TypeInfo) (z:Value) (size bytes:Nat) (ht:P.underlying t=some (.slice e)) (hi:P.info? e=some ti) (hz:ti.zero=some z)
  (hsize:ti.size=size) (hby:ti.bytes=bytes) (hzs:z.cells.size=size) (hsz:0<size)
  (v:Value) (n:Nat) (xs news:List Value) (hs:a.eval s=v) (hown:w.ownsRow 0 e size v n xs)
  (g c:Nat) (hx:a.eval x = .slice (some ⟨g,0,none⟩) 1 c) (hl:news.length=size) {e':TypeId} (hnews:w.heap[g]?=some (.cells news.toArray e')) (h1:∀u∈news,u.oneCell'=true)
  (hb:n≤4000000/\bytes≤1000) (hB:B0≤w.heap.size) (hk:∀k∈gM e size (n+1) (xs++news) v,k∈ks) (hold:old=v.ownBlock):dQ (ES ks) P o a w old (Gj e size B0 v n xs news):=
 EX B0 0 s x t ho e ti z size bytes ht hi hz hsize hby hzs hsz v n xs hs hown ⟨g,0,none⟩ 1 c news hx (by decide) (by rw[hl,Nat.one_mul]) (λj u hu=>by
  rw[Go.Xo.addr_add,fe];unfold ak;rw[hnews];simpa using hu) h1 ⟨hb.1,by decide,hb.2⟩ (fP _) hB hk hold
theorem ES.grown{e:TypeId}{size n:Nat}{xs:List Value}{v:Value}{ks:iy}{w w':World}(h:ES ks w.drew w')(hk:∀k∈ks,v.ownBlock=some k.1/\k.1<w.heap.size):w.grownBy w' v.ownBlock:=
 ⟨h.1,h.2.1,h.2.2.1,by have:=h.2.2.2.1;simpa using this,λb hb hn=>(h.block (w:=w.drew) (by simpa using hb) (λk hk' e=>hn (by rw[(hk k hk').1,e]))).trans rfl⟩
theorem Gj.form{e:TypeId}{size B0 n:Nat}{v y:Value}{xs news:List Value}{w:World}(h:Gj e size B0 v n xs news y w):∃z cz,y = .slice (some ⟨z,0,none⟩) (n+1) cz/\w.ownsRow 0 e size (.slice (some ⟨z,0,none⟩) (n+1) cz) (n+1) (xs++news)/\(v.ownBlock=some z∨B0≤z):=by
 obtain⟨h1,h2⟩:=h;rcases h1.2 with⟨rfl,h0⟩|⟨z,cz,cur,rfl,-⟩
 ·omega
 ·refine⟨z,cz,rfl,h1,?_⟩;rcases h2 with⟨g,cap,rfl,h3⟩|⟨b,hb,h3⟩
  ·cases h3;exact .inl rfl
  ·cases h3;exact .inr hb
end Go.Xe
namespace Go.Xd
open Go.RowKit
open Go.Xk hiding law bX dQ gI i7 bu ay bd bm
open Go.Xe hiding bX bB bu ay bd bm bP
def bX(E:World->World->Prop)(P:Program)(ops:Array Oper)(w0:World)(O:Nat->Option Nat)(Ψ:Ps)(Q:Act->World->Prop):List Oper->Nat->Act->eU->Made->Prop:=(Xe.law E P ops w0 O Ψ Q).rel
theorem bB{E:World->World->Prop}(hE:Pre E){P:Program}{id:Nat}{Q:Exit->Act->World->Prop}{a:Act}{w:World}{l:List Oper}(n:Nat)(O:Nat->Option Nat)(hO:∀i b,O i=some b->b<w.heap.size)(hOO:∀i j b,i≠j->O i=some b->O j≠some b)(Ψ:List (Nat×(List Value->Value->World->Prop)))(hm:P.follows .mixedOrders=true)(hB:ng l.toArray n=true)
  (hst:∀i φ,eS Ψ i=some φ->∀ls v w w',E w w'->φ ls v w->φ ls v w')
  (h:bX E P l.toArray w.drew O Ψ (λa' w'=>wpList P l.toArray Q (l.drop n) a' w') (l.take n) 0 a [] []):(gC id l.toArray true).wp P Q a w:=Xe.th hE n O hO hOO Ψ hm hB hst h
section
variable {E : World → World → Prop} {P : Program} {ops : Array Oper} {w0 : World} {O : Nat → Option Nat} {Ψ : List (Nat × (List Value → Value → World → Prop))} {Q : Act → World → Prop} {o : Oper} {r : List Oper} {i : Nat} {a : Act} {F : eU} {G : Made}
theorem bu(hw:bO o (yielded ops a.tmps)=false)(h:∀K:Act->Prop,(∀a,bX E P ops w0 O Ψ Q r (i+1) a F G->K a)->K (a.put o.dst undef)):bX E P ops w0 O Ψ Q (o::r) i a F G:=
 Law.skip hw (h _ λ_ h=>h)
theorem ay(hE:Pre E)(hw:bO o (yielded ops a.tmps)=true)(ht:eS Ψ i=none)
  (h:∀K:Act->Prop,(∀a,bX E P ops w0 O Ψ Q r (i+1) a F G->K a)->∃v,(∀w',E w0 w'->cg (dA ops i) F w'->Xk.jP P o a w' v)/\K (a.put o.dst v)):bX E P ops w0 O Ψ Q (o::r) i a F G:=by
 obtain⟨v,h1,h2⟩:=h _ λ_ h=>h;exact Law.det hw ht hE.ext h1 h2
theorem bd(hE:Pre E){φ:List Value->Value->World->Prop}(hw:bO o (yielded ops a.tmps)=true)(ht:eS Ψ i=some φ)
  (h:∀w',E w0 w'->cg (dA ops i) F w'->Go.Xe.dQ E P o a w' (O i) (φ (lk ops o a)))
  (hn:∀v,∀K:Act->Prop,(∀b,bX E P ops w0 O Ψ Q r (i+1) b ((i,φ (lk ops o a) v)::F) ((i,v)::G)->K b)->K (a.put o.dst v)):bX E P ops w0 O Ψ Q (o::r) i a F G:=
 Law.make hw ht (λw' hx hf=>Xe.oB (λh=>h) hE.ext (h w' hx hf)) λv=>hn v _ λ_ h=>h
theorem bm(h:∀w',E w0 w'->fW F w'->apart G->Q a w'):bX E P ops w0 O Ψ Q [] i a F G:=λw hz hf hb=>h w hz hf (hb trivial)
end
attribute [irreducible] bX
theorem bP{m i:Nat}{φ:World->Prop}{r:eU}{w:World}(h:cg m ((i,φ)::r) w)(hm:m.testBit i=true):φ w:=Go.Xe.bP h hm
theorem sK{E:World->World->Prop}{Ψ:List (Nat×(List Value->Value->World->Prop))}(h:∀x∈Ψ,∀ls v w w',E w w'->x.2 ls v w->x.2 ls v w'):∀i φ,eS Ψ i=some φ->∀ls v w w',E w w'->φ ls v w->φ ls v w':=by
 induction Ψ with
 | nil=>intro i φ ht;cases ht
 | cons x r ih=>
  intro i φ ht;unfold eS at ht;split at ht
  ·cases ht;exact h x (cy ..)
  ·exact ih (λy hy=>h y (cO _ hy)) i φ ht
end Go.Xd
namespace Go.Xg
open Go.RowKit
open Go.Xk hiding law bX dQ gI i7 bu ay bd bm
open Go.Xe (Pre)
def law(E:World->World->Prop)(X:List PanicEntry->World->Prop)(κ:Nat)(P:Program)(ops:Array Oper)(w0:World)(O:Nat->Option Nat)(Ψ:List (Nat×Fct))(Q:Act->World->Prop):Law:=
 ⟨True,P,ops,w0,O,cst Ψ,E w0,λi=>if i=κ then Ext w0 else E w0,E w0,λi a b=>Ext a b∨(i=κ/\E a b),λ_=>X,Q⟩
def bX(E:World->World->Prop)(X:List PanicEntry->World->Prop)(κ:Nat)(P:Program)(ops:Array Oper)(w0:World)(O:Nat->Option Nat)(Ψ:List (Nat×Fct))(Q:Act->World->Prop):List Oper->Nat->Act->eU->Made->Prop:=(law E X κ P ops w0 O Ψ Q).rel
theorem tm{E:World->World->Prop}(hE:Pre E){X:List PanicEntry->World->Prop}{κ:Nat}{P:Program}{ops:Array Oper}{w:World}{n:Nat}{O:Nat->Option Nat}(hO:∀i b,O i=some b->b<w.heap.size)(hOO:∀i j b,i≠j->O i=some b->O j≠some b){Ψ:List (Nat×Fct)}
  (hst:∀i φ,dH Ψ i=some φ->∀v w w',(if i=κ then Ext w w' else E w w')->φ v w->φ v w') (Q:Act->World->Prop):(law E X κ P ops w.drew O Ψ Q).Ok n λL w'=>E w.drew w'/\(L κ=false->Ext w.drew w'):=by
 have hJ:∀ {i:Nat} {a b:World},(law E X κ P ops w.drew O Ψ Q).J i a b->E a b:=λh=>h.elim hE.ext And.right;have hN:∀ {i:Nat} {a b:World},i≠κ->(law E X κ P ops w.drew O Ψ Q).J i a b->Ext a b:=λhi h=>h.elim id λh=>absurd h.1 hi;refine⟨⟨hE.refl _,λ_=>aj _ _⟩,λL i a b _ h hL _ hj=>⟨hE.trans h.1 (hJ hj),λhk=>?_⟩,λ_ _ h=>h.1,λL i a _ h hL _=>?_,λ_ _ h _=>h.1,λi _ => .inl λa => .inl (aj _ _),λi a b h=>hE.size (hJ h),λ_ _ h=>hE.size h.1,λi j φ hij ht ls v a b hj hf=>?_,λi b h=>by simpa[law]using hO i b h,hOO⟩
 ·by_cases hik:κ=i
  ·simp[hik]at hk
  ·exact Ext.trans (h.2 (by simpa[hik]using hk)) (hN (lQ hik) hj)
 ·simp only[law];split
  ·rename_i e;subst e;exact h.2 hL
  ·exact h.1
 ·simp only[law,kG]at ht
  cases hψ:dH Ψ j with
  | none=>rw[hψ]at ht;cases ht
  | some ψ=>
   rw[hψ]at ht;cases ht;refine hst j ψ hψ v a b ?_ hf;split
   ·rename_i e;exact hN (λe'=>hij (e'.trans e.symm)) hj
   ·exact hJ hj
theorem bB{E:World->World->Prop}(hE:Pre E)(X:List PanicEntry->World->Prop)(κ:Nat){P:Program}{id:Nat}{Q:Exit->Act->World->Prop}{a:Act}{w:World}{l:List Oper}(n:Nat)(O:Nat->Option Nat)(hO:∀i b,O i=some b->b<w.heap.size)(hOO:∀i j b,i≠j->O i=some b->O j≠some b)(Ψ:List (Nat×(Value->World->Prop)))(hm:P.follows .mixedOrders=true)(hB:ng l.toArray n=true)
  (hst:∀i φ,dH Ψ i=some φ->∀v w w',(if i=κ then Ext w w' else E w w')->φ v w->φ v w') (hX:∀ch a' w',a'.defers=a.defers->X ch w'->Q (.panic ch) a' w')
  (h:bX E X κ P l.toArray w.drew O Ψ (λa' w'=>wpList P l.toArray Q (l.drop n) a' w') (l.take n) 0 a [] []):(gC id l.toArray true).wp P Q a w:=
 j9 (tm hE hO hOO hst λa' w'=>wpList P l.toArray Q (l.drop n) a' w') hm (mE hB) rfl (λ_=>hX) (λ_ _=>pW hB) (by simpa[law,bX]using h)
theorem dW{E:World->World->Prop}(hE:Pre E)(X:List PanicEntry->World->Prop)(κ:Nat){P:Program}{id:Nat}{Q:Exit->Act->World->Prop}{a:Act}{w:World}{l:List Oper}(n:Nat)(O:Nat->Option Nat)(hO:∀i b,O i=some b->b<w.heap.size)(hOO:∀i j b,i≠j->O i=some b->O j≠some b)(Ψ:List (Nat×(Value->World->Prop)))(hm:P.follows .mixedOrders=true)(hB:vH l.toArray n=true)
  (hst:∀i φ,dH Ψ i=some φ->∀v w w',(if i=κ then Ext w w' else E w w')->φ v w->φ v w') (hX:∀ch a' w',a'.defers=a.defers->X ch w'->Q (.panic ch) a' w') (g:Nat) (hg:n+g=l.toArray.size)
  (h:bX E X κ P l.toArray w.drew O Ψ (λa' w'=>wpAny P .any l.toArray Q g (bD n true++bD g false) a' w') (l.take n) 0 a [] []):(gC id l.toArray true).wp P Q a w:=
 j9 (tm hE hO hOO hst λa' w'=>wpAny P .any l.toArray Q g (bD n true++bD g false) a' w') hm (rR hB) rfl (λ_=>hX) (λ_ _ h=>by rw[show(law E X κ P l.toArray w.drew O Ψ _).ops.size-n=g by simp only[law];omega];exact h) (by simpa[law,bX]using h)
def Bo(K:Act->World->Prop)(Q:Exit->Act->World->Prop):Exit->Act->World->Prop
 | .normal,a,w=>K a w
 | e,a,w=>Q e a w
theorem nx{P:Program}{ops:Array Oper}{Q:Exit->Act->World->Prop}{K:Act->World->Prop}{k:Nat}{o:Oper}{a:Act}{w:World}(hk:ops[k]?=some o)(h:wpList P ops (Bo K Q) [o] a w):wpOp P ops Q k K a w:=by
 unfold wpOp;simp only[hk];unfold wpList at h;split at h
 ·rename_i hw;rw[if_pos hw];rcases h with h|h
  ·refine .inl ?_;unfold Oper.wp at *
   generalize (execOp a.eval o).run P w=r at *
   cases r with
   | ok n w'=>
    cases n<;>simp only[zk]at h ⊢ <;>
     first
      | exact h
      | exact Calls.mono h (λe w'' he=>by cases e<;>first|exact he|(obtain⟨a2,w2,h2⟩:=he;exact⟨a2,w2,h2⟩))
      | exact Rows.mono h (λ_ _ he=>he)
      | (obtain⟨a2,w2,h2⟩:=h;exact⟨a2,w2,h2⟩)
   | halt x w'=>
    cases x<;>simp only[zk]at h ⊢ <;> first|exact h|(obtain⟨a2,w2,h2⟩:=h;exact⟨a2,w2,h2⟩)
  ·exact .inr ⟨h.1,let⟨a2,w2,h2⟩:=h.2;⟨a2,w2,h2⟩⟩
 ·rename_i hw;rw[if_neg hw];exact h
theorem cu{P:Program}{ops:Array Oper}{Q:Exit->Act->World->Prop}{f k:Nat}{listed:Array Bool}{o:Oper}{a:Act}{w:World}(hr:kU .any ops listed = [k])(hk:ops[k]?=some o)(h:wpList P ops (Bo (wpAny P .any ops Q f (listed.setIfInBounds k true)) Q) [o] a w):wpAny P .any ops Q (f+1) listed a w:=
 ⟨λh0=>(by rw[hr]at h0;cases h0),λi hi=>(by
  rw[hr,bW]at hi;subst hi;exact nx hk h)⟩
theorem eJ{P:Program}{ops:Array Oper}{Q:Exit->Act->World->Prop}{f j k:Nat}{listed:Array Bool}{oj ok:Oper}{a:Act}{w:World}(hr:kU .any ops listed = [j,k])(hj:ops[j]?=some oj)(hk:ops[k]?=some ok)
  (h1:wpList P ops (Bo (wpAny P .any ops Q f (listed.setIfInBounds j true)) Q) [oj] a w) (h2:wpList P ops (Bo (wpAny P .any ops Q f (listed.setIfInBounds k true)) Q) [ok] a w):wpAny P .any ops Q (f+1) listed a w:=
 ⟨λh0=>(by rw[hr]at h0;cases h0),λi hi=>(by
  rw[hr]at hi;simp only[aI,aC,or_false]at hi;rcases hi with rfl|rfl
  ·exact nx hj h1
  ·exact nx hk h2)⟩
theorem any_nil{P:Program}{ops:Array Oper}{Q:Exit->Act->World->Prop}{listed:Array Bool}{a:Act}{w:World}(hr:kU .any ops listed = [])(h:Q .normal a w):wpAny P .any ops Q 0 listed a w:=⟨hr,h⟩
theorem cS{E:World->World->Prop}{κ:Nat}{Ψ:List (Nat×(Value->World->Prop))}(h:∀x∈Ψ,if x.1=κ then ∀v w w',Ext w w'->x.2 v w->x.2 v w' else ∀v w w',E w w'->x.2 v w->x.2 v w'):
  ∀i φ,dH Ψ i=some φ->∀v w w',(if i=κ then Ext w w' else E w w')->φ v w->φ v w':=by
 induction Ψ with
 | nil=>intro i φ ht;cases ht
 | cons x r ih=>
  intro i φ ht v w w' he hf;unfold dH at ht;split at ht
  ·rename_i hi
   cases ht;have:=h x (cy ..);subst hi;by_cases hk:x.1=κ
   ·rw[if_pos hk]at this he;exact this v w w' he hf
   ·rw[if_neg hk]at this he;exact this v w w' he hf
  ·exact ih (λy hy=>h y (cO _ hy)) i φ ht v w w' he hf
section
variable {E : World → World → Prop} {X : List PanicEntry → World → Prop} {κ : Nat} {P : Program} {ops : Array Oper} {w0 : World} {O : Nat → Option Nat} {Ψ : List (Nat × (Value → World → Prop))} {Q : Act → World → Prop} {o : Oper} {r : List Oper} {i : Nat} {a : Act} {F : eU} {G : Made}
theorem bu(hw:bO o (yielded ops a.tmps)=false)(h:∀K:Act->Prop,(∀a,bX E X κ P ops w0 O Ψ Q r (i+1) a F G->K a)->K (a.put o.dst undef)):bX E X κ P ops w0 O Ψ Q (o::r) i a F G:=
 Law.skip hw (h _ λ_ h=>h)
theorem ay(hw:bO o (yielded ops a.tmps)=true)(ht:dH Ψ i=none)
  (h:∀K:Act->Prop,(∀a,bX E X κ P ops w0 O Ψ Q r (i+1) a F G->K a)->∃v,(∀w',E w0 w'->cg (dA ops i) F w'->Xk.jP P o a w' v)/\K (a.put o.dst v)):bX E X κ P ops w0 O Ψ Q (o::r) i a F G:=by
 obtain⟨v,h1,h2⟩:=h _ λ_ h=>h;exact Law.det hw (oD ht) .inl h1 h2
theorem bd{φ:Value->World->Prop}(hw:bO o (yielded ops a.tmps)=true)(ht:dH Ψ i=some φ)(hi:i≠κ)
  (h:∀w',E w0 w'->cg (dA ops i) F w'->Xe.dQ Ext P o a w' (O i) φ)
  (hn:∀v,∀K:Act->Prop,(∀a,bX E X κ P ops w0 O Ψ Q r (i+1) a ((i,φ v)::F) ((i,v)::G)->K a)->K (a.put o.dst v)):bX E X κ P ops w0 O Ψ Q (o::r) i a F G:=
 Law.make hw (jm ht) (λw' hx hf=>Xe.oB .inl .inl (h w' (by simpa only[law,if_neg hi]using hx) hf)) λv=>hn v _ λ_ h=>h
def kF(E:World->World->Prop)(X:List PanicEntry->World->Prop)(w:World)(old:Option Nat)(φ:Value->World->Prop)(e:Ending)(w2:World):Prop:=
 (∃v,e = .returned v/\E w w2/\φ v w2/\jD w w2 old v)∨∃ch,e = .panicked ch/\X ch w2
def jz(E:World->World->Prop)(X:List PanicEntry->World->Prop)(P:Program)(o:Oper)(a:Act)(w:World)(old:Option Nat)(φ:Value->World->Prop):Prop:=
 match (execOp a.eval o).run P w with
 | .ok (.enter f args) w'=>w'=w/\Calls P f args w (kF E X w old φ)
 | _=>False
attribute [go_sem] jz
theorem oC{J:World->World->Prop}{B:Prop}{w:World}{old:Option Nat}{φ:Fct}(hJ:∀ {a b},E a b->J a b)(h:jz E X P o a w old φ):gP B J X P w old φ ((execOp a.eval o).run P w):=by
 unfold jz at h;generalize (execOp a.eval o).run P w=q at h
 cases q with
 | ok x w'=>
  cases x<;>simp only[kF]at h<;>simp only[gP]
  case enter=>exact⟨h.1,h.2.mono λe w2 h=>h.imp (λ⟨v,h1,h2,h3,h4⟩=>⟨v,h1,hJ h2,h3,λ_=>h4⟩) id⟩
 | halt x w'=>simp only at h
theorem eY{φ:Value->World->Prop}(hw:bO o (yielded ops a.tmps)=true)(ht:dH Ψ i=some φ)(hi:i=κ)
  (h:∀w',Ext w0 w'->cg (dA ops i) F w'->jz E X P o a w' (O i) φ)
  (hn:∀v,∀K:Act->Prop,(∀a,bX E X κ P ops w0 O Ψ Q r (i+1) a ((i,φ v)::F) ((i,v)::G)->K a)->K (a.put o.dst v)):bX E X κ P ops w0 O Ψ Q (o::r) i a F G:=
 Law.make hw (jm ht) (λw' hx hf=>oC (λh => .inr ⟨hi,h⟩) (h w' (by simpa only[law,if_pos hi]using hx) hf)) λv=>hn v _ λ_ h=>h
theorem bm(h:∀w',E w0 w'->fW F w'->apart G->Q a w'):bX E X κ P ops w0 O Ψ Q [] i a F G:=λw hz hf hb=>h w hz hf (hb trivial)
end
attribute [irreducible] bX
theorem gs{P Q:Prop}(k:Q)(h:Q->P:=by
 intro k;have KQ:=aa k;clear k;repeat(refine Go.Xg.ay (Go.Xk.an (by rfl)) (by rfl) (λK hK=>?_);apply ai;refine⟨λW hx hp=>?_,?_⟩;(go_simp;exact⟨rfl,rfl⟩);(go_simp;refine hK _ ?_;clear hK K))
 exact KQ.out):P:=h k
end Go.Xg
set_option maxRecDepth 100000
namespace Go.Proofs
open Go.Shelf
def Tryz.rY:dx:=⟨fun|158=>96|165=>170|166=>171|167=>172|169=>173|230=>174|203=>175|240=>214|241=>215|197=>195|118=>216|168=>217|270=>218|262=>219|276=>245|277=>246|260=>234|242=>247|313=>248|278=>272|274=>273|275=>274|n=>n,fun|9=>9|4=>4|3=>3|5=>5|72=>197|0=>0|76=>200|75=>199|107=>204|70=>195|20=>20|37=>51|127=>229|21=>21|105=>211|164=>247|162=>253|203=>251|119=>265|46=>263|139=>268|138=>267|51=>260|160=>275|208=>286|206=>284|80=>133|n=>n,fun|13=>1|3=>3|4=>4|n=>n⟩
theorem Tryz.Iz:Go.Proofs.Lays.n158 ab Tryz.rY:=by repeat' first|kernel_rfl|decide|intro _|constructor
theorem Tryz.qD:pM ab Tryz.rY:=by repeat' first|kernel_rfl|decide|intro _|constructor
open Go.RowKit in
theorem Tryz.strings_ToUpper_ascii(s:ByteArray)(w:World)(hs:s.size≤140737488355328)(hascii:∀ (j:Nat) (b:UInt8),s.data.toList[j]?=some b->b.toNat<128):
  Calls ab 96 #[.string s] w λe w'=>e = .returned (.string ⟨(iB s.data.toList).toArray⟩)/\Below w.heap.size w w':=Any.strings_ToUpper_ascii Tryz.Iz Tryz.qD s w hs hascii
def Tryz.rX:dx:=⟨fun|159=>125|165=>170|166=>171|167=>172|169=>173|230=>174|204=>193|240=>214|241=>215|197=>195|118=>216|168=>217|270=>218|262=>219|276=>245|277=>246|260=>234|242=>247|313=>248|278=>272|274=>273|275=>274|n=>n,fun|9=>9|4=>4|3=>3|5=>5|72=>197|0=>0|76=>200|75=>199|107=>204|70=>195|20=>20|37=>51|127=>229|21=>21|105=>211|164=>247|162=>253|203=>251|119=>265|46=>263|139=>268|138=>267|51=>260|160=>275|208=>286|206=>284|80=>133|n=>n,fun|13=>1|3=>3|4=>4|n=>n⟩
theorem Tryz.Iy:Go.Proofs.Lays.n159 ab Tryz.rX:=by repeat' first|kernel_rfl|decide|intro _|constructor
theorem Tryz.qC:pM ab Tryz.rX:=by repeat' first|kernel_rfl|decide|intro _|constructor
open Go.RowKit in
theorem Tryz.strings_ToLower_ascii(s:ByteArray)(w:World)(hs:s.size≤140737488355328)(hascii:∀ (j:Nat) (b:UInt8),s.data.toList[j]?=some b->b.toNat<128):
  Calls ab 125 #[.string s] w λe w'=>e = .returned (.string ⟨(Lib.toLowerA s.data.toList).toArray⟩)/\Below w.heap.size w w':=Any.strings_ToLower_ascii Tryz.Iy Tryz.qC s w hs hascii
def Tryz.rZ:dx:=⟨fun|156=>114|165=>170|166=>171|169=>173|240=>214|241=>215|276=>245|277=>246|n=>n,fun|31=>29|9=>9|3=>3|4=>4|0=>0|20=>20|72=>197|76=>200|70=>195|37=>51|75=>199|127=>229|164=>247|5=>5|80=>133|n=>n,fun|n=>n⟩
theorem Tryz.BE:Go.Proofs.Lays.n156 ab Tryz.rZ:=by repeat' first|kernel_rfl|decide|intro _|constructor
theorem Tryz.lD:pM ab Tryz.rZ:=by repeat' first|kernel_rfl|decide|intro _|constructor
open Go.RowKit in
theorem Tryz.strings_Join_none(a:Option Addr)(c:Nat)(sep:ByteArray)(w:World):
  Calls ab 114 #[.slice a 0 c,.string sep] w λe w'=>e = .returned (.string ⟨#[]⟩)/\w'=w:=Any.strings_Join_none Tryz.BE Tryz.lD a c sep w
open Go.RowKit in
theorem Tryz.strings_Join(bk o c:Nat)(xs:List ByteArray)(sep:ByteArray)(w:World)(hcells:∀ (j:Nat) x,xs[j]?=some x->w.cell? ⟨bk,o+j,none⟩=some (.string x))(hbk:bk<w.heap.size)(hN:xs.length≤140737488355328)(hcap:xs.length≤c)(hlen:(Lib.join (xs.map (·.data.toList)) sep.data.toList).length≤140737488355328):
  Calls ab 114 #[.slice (some ⟨bk,o,none⟩) xs.length c,.string sep] w λe w'=>e = .returned (.string ⟨(Lib.join (xs.map (·.data.toList)) sep.data.toList).toArray⟩)/\Below w.heap.size w w':=Any.strings_Join Tryz.BE Tryz.lD bk o c xs sep w hcells hbk hN hcap hlen
def Tryz.xZ:dx:=⟨fun|161=>63|231=>126|227=>127|233=>128|235=>129|228=>194|197=>195|151=>196|260=>234|152=>235|137=>67|119=>258|224=>259|225=>260|217=>130|266=>197|n=>n,fun|9=>9|4=>4|3=>3|5=>5|117=>172|116=>171|0=>0|124=>175|105=>211|21=>21|119=>265|46=>263|139=>268|138=>267|n=>n,fun|3=>3|4=>4|n=>n⟩
theorem Tryz.Ix:Go.Proofs.Lays.n161 ab Tryz.xZ:=by repeat' first|kernel_rfl|decide|intro _|constructor
open Go.RowKit in
theorem Tryz.strings_TrimLeft_one(s:ByteArray)(c:UInt8)(hc:c.toNat<128)(w:World):
  Calls ab 63 #[.string s,.string ⟨#[c]⟩] w λe w'=>e = .returned (.string ⟨(Lib.trimLeftB s.data.toList c).toArray⟩)/\w'=w:=Any.strings_TrimLeft_one Tryz.Ix s c hc w
def Tryz.ya:dx:=⟨fun|137=>67|217=>130|266=>197|n=>n,fun|9=>9|5=>5|3=>3|n=>n,fun|n=>n⟩
theorem Tryz.IB:Go.Proofs.Lays.n137 ab Tryz.ya:=by repeat' first|kernel_rfl|decide|intro _|constructor
open Go.RowKit in
theorem Tryz.strings_IndexByte(s:ByteArray)(c:Int)(w:World):
  Calls ab 67 #[.string s,.int .u8 c] w λe w'=>e = .returned (.int .i64 (qI s.data.toList c.toNat.toUInt8))/\w'=w:=Any.strings_IndexByte Tryz.IB s c w
def Tryz.Iv:dx:=⟨fun|246=>192|283=>230|284=>231|285=>232|286=>233|129=>254|317=>253|318=>255|319=>256|320=>257|337=>278|338=>279|n=>n,fun|2=>2|3=>3|9=>9|4=>4|171=>239|0=>0|53=>185|37=>51|5=>5|173=>242|212=>259|51=>260|20=>20|213=>261|46=>263|232=>287|233=>288|n=>n,fun|17=>2|18=>7|19=>8|n=>n⟩
def Tryz.vO:dx:=⟨fun|173=>123|246=>192|283=>230|284=>231|285=>232|286=>233|129=>254|317=>253|318=>255|319=>256|320=>257|337=>278|338=>279|n=>n,fun|2=>2|3=>3|9=>9|4=>4|171=>239|0=>0|53=>185|37=>51|5=>5|173=>242|212=>259|51=>260|20=>20|213=>261|46=>263|232=>287|233=>288|n=>n,fun|17=>2|18=>7|19=>8|n=>n⟩
theorem Tryz.E4:Go.Proofs.LaysM.n173 ab Tryz.vO:=by repeat' first|kernel_rfl|decide|intro _|constructor
open Go.RowKit Go.Sort Go.Lib in
theorem Tryz.strconv_FormatInt_10 (n : Int) (h0 : -9223372036854775808 ≤ n) (h1 : n ≤ 9223372036854775807) (w : World) (htab : Lib.TabIs Tryz.prog w "internal/strconv.uint64pow10" .u64 Lib.pow10Tab) :
  Calls ab 123 #[.int .i64 n,.int .i64 10] w λe w'=>e = .returned (.string ⟨(ee n).toArray⟩)/\∃k os,w'=grow (w.drewN k) os:=Any.strconv_FormatInt_10 Tryz.E4 n h0 h1 w htab
def Tryz.Iw:dx:=⟨fun|245=>240|279=>264|280=>265|281=>266|282=>267|316=>281|171=>283|205=>282|243=>288|246=>192|283=>230|284=>231|285=>232|286=>233|129=>254|317=>253|318=>255|319=>256|320=>257|337=>278|338=>279|n=>n,fun|9=>9|3=>3|75=>199|167=>270|4=>4|168=>271|210=>281|37=>51|0=>0|127=>229|145=>291|143=>289|2=>2|171=>239|53=>185|5=>5|173=>242|212=>259|51=>260|20=>20|213=>261|46=>263|232=>287|233=>288|80=>133|n=>n,fun|15=>5|16=>6|17=>2|18=>7|19=>8|n=>n⟩
def Tryz.vP:dx:=⟨fun|174=>204|247=>239|245=>240|287=>241|279=>264|280=>265|281=>266|282=>267|321=>268|322=>269|316=>281|171=>283|205=>282|243=>288|246=>192|283=>230|284=>231|285=>232|286=>233|129=>254|317=>253|318=>255|319=>256|320=>257|337=>278|338=>279|n=>n,fun|9=>9|3=>3|2=>2|75=>199|85=>217|4=>4|167=>270|5=>5|53=>185|175=>222|46=>263|168=>271|37=>51|0=>0|210=>281|21=>21|127=>229|145=>291|143=>289|171=>239|173=>242|212=>259|51=>260|20=>20|213=>261|232=>287|233=>288|80=>133|n=>n,fun|15=>5|16=>6|17=>2|18=>7|19=>8|n=>n⟩
theorem Tryz.xY:Go.Proofs.LaysC.n174 ab Tryz.vP:=by repeat' first|kernel_rfl|decide|intro _|constructor
open Go.RowKit in
theorem Tryz.strconv_ParseInt_10_at64_ok(s:ByteArray)(hmax:s.size≤9223372036854775806)(v:Int)(h:Lib.parseIntB 64 s.data.toList = .ok v)(w:World):
  Calls ab 204 #[.string s,.int .i64 10,.int .i64 64] w λe w'=>e = .returned (.tuple #[.int .i64 v,.nilIface])/\(w'=w∨∃t,w'=Lib.bytesWorld w 5 t):=Any.strconv_ParseInt_10_at64_ok Tryz.xY s hmax v h w
open Go.RowKit in
theorem Tryz.strconv_ParseInt_10_at64_range(s:ByteArray)(hlim:s.size≤281474976710656)(h:Lib.parseIntB 64 s.data.toList = .range)(ev:Value)(w:World)(hv:w.cell? ⟨6,0,none⟩=some ev)(hev:ev = .nilIface∨∃te pe,ev = .iface te pe):
  Calls ab 204 #[.string s,.int .i64 10,.int .i64 64] w λe w'=>∃N,e = .returned (.tuple #[.int .i64 (Lib.intSat 64 s.data.toList),.iface 271 (.pointer (some ⟨N,0,none⟩))])/\w.heap.size≤N/\w'.heap[N]?=some (.cells #[.string ⟨#[80,97,114,115,101,73,110,116]⟩,.string s,ev] 281 (0,0))/\Below w.heap.size w w':=Any.strconv_ParseInt_10_at64_range Tryz.xY s hlim h ev w hv hev
def Tryz.vN:dx:=⟨fun|14=>206|16=>241|17=>240|19=>268|20=>269|21=>264|22=>265|23=>266|24=>267|25=>281|27=>283|26=>282|28=>288|29=>192|30=>230|31=>231|32=>232|33=>233|35=>254|34=>253|36=>255|37=>256|38=>257|39=>278|40=>279|n=>n,fun|9=>9|3=>3|22=>185|24=>199|25=>222|4=>4|34=>270|5=>5|36=>263|37=>51|0=>0|39=>271|21=>21|44=>281|47=>229|50=>291|48=>289|2=>2|52=>239|55=>242|59=>259|60=>260|20=>20|61=>261|65=>287|66=>288|67=>133|n=>n,fun|0=>5|1=>6|2=>2|3=>7|4=>8|n=>n⟩
theorem Tryz.xX:Go.Proofs.LaysPu.n14 ab Tryz.vN:=by repeat' first|kernel_rfl|decide|intro _|constructor
open Go.RowKit in
theorem Tryz.strconv_ParseUint_10_at64_ok(s:ByteArray)(hmax:s.size≤9223372036854775806)(u:Nat)(h:Lib.parseUintB 64 s.data.toList = .ok u)(w:World):
  Calls ab 206 #[.string s,.int .i64 10,.int .i64 64] w λe w'=>e = .returned (.tuple #[.int .u64 u,.nilIface])/\(w'=w∨w'=Lib.bytesWorld w 5 s):=Any.strconv_ParseUint_10_at64_ok Tryz.xX s hmax u h w
open Go.RowKit in
theorem Tryz.strconv_ParseUint_10_at64_range(s:ByteArray)(hlim:s.size≤281474976710656)(h:Lib.parseUintB 64 s.data.toList = .range)(ev:Value)(w:World)(hv:w.cell? ⟨6,0,none⟩=some ev)(hev:ev = .nilIface∨∃te pe,ev = .iface te pe):
  Calls ab 206 #[.string s,.int .i64 10,.int .i64 64] w λe w'=>∃N,e = .returned (.tuple #[.int .u64 18446744073709551615,.iface 271 (.pointer (some ⟨N,0,none⟩))])/\w.heap.size≤N/\w'.heap[N]?=some (.cells #[.string ⟨#[80,97,114,115,101,85,105,110,116]⟩,.string s,ev] 281 (0,0))/\Below w.heap.size w w':=Any.strconv_ParseUint_10_at64_range Tryz.xX s hlim h ev w hv hev
def Tryz.Jo:dx:=⟨fun|206=>124|n=>n,fun|9=>9|4=>4|3=>3|n=>n,fun|n=>n⟩
def Tryz.Av:dx:=⟨fun|99=>57|206=>124|n=>n,fun|9=>9|4=>4|3=>3|n=>n,fun|n=>n⟩
theorem Tryz.J9:Go.Proofs.Lays.n99 ab Tryz.Av:=by repeat' first|kernel_rfl|decide|intro _|constructor
open Go.RowKit Go.Lib in
theorem Tryz.strings_HasPrefix(s p:ByteArray)(w:World):
  Calls ab 57 #[.string s,.string p] w λe w'=>e = .returned (.bool (Lib.hasPrefix s.data.toList p.data.toList))/\w'=w:=Any.strings_HasPrefix Tryz.J9 s p w
def Tryz.Jp:dx:=⟨fun|154=>229|138=>251|165=>170|143=>252|166=>171|197=>195|169=>173|195=>275|218=>276|240=>214|241=>215|219=>277|260=>234|276=>245|277=>246|217=>130|225=>260|224=>259|267=>286|266=>197|314=>290|n=>n,fun|9=>9|3=>3|4=>4|72=>197|0=>0|76=>200|105=>211|21=>21|5=>5|70=>195|20=>20|37=>51|75=>199|127=>229|164=>247|46=>263|119=>265|139=>268|138=>267|146=>293|51=>260|80=>133|n=>n,fun|1=>0|3=>3|4=>4|n=>n⟩
def Tryz.sa:dx:=⟨fun|155=>190|154=>229|138=>251|165=>170|143=>252|166=>171|197=>195|169=>173|195=>275|218=>276|240=>214|241=>215|219=>277|260=>234|276=>245|277=>246|217=>130|225=>260|224=>259|267=>286|266=>197|314=>290|n=>n,fun|9=>9|3=>3|4=>4|72=>197|0=>0|76=>200|105=>211|21=>21|5=>5|70=>195|20=>20|37=>51|75=>199|127=>229|164=>247|46=>263|119=>265|139=>268|138=>267|146=>293|51=>260|80=>133|n=>n,fun|1=>0|3=>3|4=>4|n=>n⟩
theorem Tryz.IA:Go.Proofs.Lays.n155 ab Tryz.sa:=by repeat' first|kernel_rfl|decide|intro _|constructor
theorem Tryz.qE:pM ab Tryz.sa:=by repeat' first|kernel_rfl|decide|intro _|constructor
open Go.RowKit Go.Lib in
theorem Tryz.strings_ReplaceAll(s old new:ByteArray)(m:Int)(w:World)(hs:s.size<4294967281)(hm:w.cell? ⟨0,0,none⟩=some (.int .i64 m))(h1:1≤old.size)(hlen:s.size+Lib.countB s old*new.size≤140737488355328):
  Calls ab 190 #[.string s,.string old,.string new] w λe w'=>
   e = .returned (.string ⟨(Lib.replaceAll s.data.toList old.data.toList new.data.toList).toArray⟩)/\Below w.heap.size w w':=Any.strings_ReplaceAll Tryz.IA Tryz.qE s old new m w hs hm h1 hlen
def Tryz.yb:dx:=⟨fun|110=>95|109=>169|n=>n,fun|31=>29|9=>9|4=>4|3=>3|0=>0|n=>n,fun|n=>n⟩
theorem Tryz.IC:Go.Proofs.Lays.n110 ab Tryz.yb:=by repeat' first|kernel_rfl|decide|intro _|constructor
open Go.Lib in
theorem Tryz.slices_Contains_string(b off n c:Nat)(zs:List ByteArray)(x:ByteArray)(w:World)(hz:n≤zs.length)(hbig:n≤9223372036854775807)(hc:∀j,j<zs.length->w.cell? ⟨b,off+j,none⟩=some (.string (zs.getD j ByteArray.empty))):
  Calls ab 95 #[.slice (some ⟨b,off,none⟩) n c,.string x] w λe w'=>e = .returned (.bool (Lib.containsS (zs.take n) x))/\w'=w:=Any.slices_Contains_string Tryz.IC b off n c zs x w hz hbig hc
end Go.Proofs
namespace Go.Xh
open Go.RowKit
open Go.Xk hiding law bX dQ gI i7 bu ay bd bm
open Go.Xe (Pre)
def law(E:World->World->Prop)(X:List PanicEntry->World->Prop)(κ μ:Nat)(S1 S2:World->Prop)(P:Program)(ops:Array Oper)(w0:World)(O:Nat->Option Nat)(Ψ:List (Nat×Fct))(Q:Act->World->Prop):Law:=
 ⟨True,P,ops,w0,O,cst Ψ,E w0,λi w=>if i=κ then Ext w0 w else E w0 w/\(i=μ->S1 w),λw=>E w0 w/\S2 w,λi a b=>(dH Ψ i=none/\Ext a b)∨if i=κ then E a b/\S1 b else if i=μ then E a b/\S2 b else Ext a b,λ_=>X,Q⟩
def bX(E:World->World->Prop)(X:List PanicEntry->World->Prop)(κ μ:Nat)(S1 S2:World->Prop)(P:Program)(ops:Array Oper)(w0:World)(O:Nat->Option Nat)(Ψ:List (Nat×Fct))(Q:Act->World->Prop):List Oper->Nat->Act->eU->Made->Prop:=(law E X κ μ S1 S2 P ops w0 O Ψ Q).rel
def DX(ops:Array Oper)(Ψ:List (Nat×(Value->World->Prop)))(κ μ n:Nat):Prop:=
 κ≠μ/\κ<n/\μ<n/\(dA ops μ).testBit κ=true/\(∀o,ops[κ]?=some o->o.guard=none)/\(∀o,ops[μ]?=some o->o.guard=none)/\dH Ψ κ≠none/\dH Ψ μ≠none
theorem tm{E:World->World->Prop}(hE:Pre E){X:List PanicEntry->World->Prop}{κ μ:Nat}{S1 S2:World->Prop}{P:Program}{ops:Array Oper}{w:World}{n:Nat}{O:Nat->Option Nat}(hO:∀i b,O i=some b->b<w.heap.size)(hOO:∀i j b,i≠j->O i=some b->O j≠some b){Ψ:List (Nat×Fct)}
  (hst:∀i φ,dH Ψ i=some φ->∀v w w',E w w'->φ v w->φ v w') (hS1:∀w w',Ext w w'->S1 w->S1 w') (hS2:∀w w',Ext w w'->S2 w->S2 w') (h2:DX ops Ψ κ μ n) (Q:Act->World->Prop) :
  (law E X κ μ S1 S2 P ops w.drew O Ψ Q).Ok n λL w'=>E w.drew w'/\(L κ=false->Ext w.drew w')/\(L κ=true->L μ=false->S1 w')/\(L μ=true->S2 w'/\L κ=true):=by
 obtain⟨hkm,hkn,hmn,hanc,hko,hmo,htk,htm⟩:=h2
 have hJ:∀ {i:Nat} {a b:World},(law E X κ μ S1 S2 P ops w.drew O Ψ Q).J i a b->E a b:=fun {i a b} h=>by
  rcases h with h|h
  ·exact hE.ext h.2
  ·split at h
   ·exact h.1
   ·split at h
    ·exact h.1
    ·exact hE.ext h
 refine⟨⟨hE.refl _,λ_=>aj _ _,λh=>(by cases h),λh=>(by cases h)⟩,λL i a b _ h hL ha hj=>?_,λ_ _ h=>h.1,λL i a _ h hL ha=>?_,λL _ h hf=>⟨h.1,(h.2.2.2 (hf μ hmn)).1⟩,λi _=>?_,λi a b h=>hE.size (hJ h),λ_ _ h=>hE.size h.1,λi j φ _ ht ls v a b hj hf=>?_,λi b h=>by simpa[law]using hO i b h,hOO⟩
 ·obtain⟨h1,h2,h3,h4⟩:=h;by_cases hk:i=κ
  ·subst hk
   have hs:E a b/\S1 b:=by
    rcases hj with hj|hj
    ·exact absurd hj.1 htk
    ·rwa [if_pos rfl]at hj
   have hm:L μ=false:=by
    cases hm:L μ with
    | false=>rfl
    | true=>rw[(h4 hm).2]at hL;cases hL
   refine⟨hE.trans h1 hs.1,λe=>by simp at e,λ_ _=>hs.2,λe=>by simp[lQ hkm,hm]at e⟩
  ·by_cases hu:i=μ
   ·subst hu
    have hs:E a b/\S2 b:=by
     rcases hj with hj|hj
     ·exact absurd hj.1 htm
     ·rwa [if_neg hk,if_pos rfl]at hj
    have hL':L κ=true:=ha κ hkn hanc;exact⟨hE.trans h1 hs.1,λe=>by simp[hL']at e,λ_ e=>by simp at e,λ_=>⟨hs.2,by simp[hL']⟩⟩
   ·have hx:Ext a b:=by
     rcases hj with hj|hj
     ·exact hj.2
     ·rwa [if_neg hk,if_neg hu]at hj
    refine⟨hE.trans h1 (hE.ext hx),λe=>?_,λe e'=>?_,λe=>?_⟩
    ·exact Ext.trans (h2 (by simpa[lQ hk]using e)) hx
    ·exact hS1 _ _ hx (h3 (by simpa[lQ hk]using e) (by simpa[lQ hu]using e'))
    ·have:=h4 (by simpa[lQ hu]using e);exact⟨hS2 _ _ hx this.1,by simp[this.2]⟩
 ·obtain⟨h1,h2,h3,h4⟩:=h;simp only[law];split
  ·rename_i e;subst e;exact h2 hL
  ·exact⟨h1,λe=>by subst e;exact h3 (ha κ hkn hanc) hL⟩
 ·by_cases hk:i=κ
  ·subst hk;exact .inr ⟨by simp[law,kG,htk],hko⟩
  ·by_cases hu:i=μ
   ·subst hu;exact .inr ⟨by simp[law,kG,htm],hmo⟩
   ·exact .inl λa => .inr (by rw[if_neg hk,if_neg hu];exact aj _ _)
 ·simp only[law,kG]at ht
  cases hψ:dH Ψ j with
  | none=>rw[hψ]at ht;cases ht
  | some ψ=>rw[hψ]at ht;cases ht;exact hst j ψ hψ v a b (hJ hj) hf
theorem dW{E:World->World->Prop}(hE:Pre E)(X:List PanicEntry->World->Prop)(κ μ:Nat)(S1 S2:World->Prop){P:Program}{id:Nat}{Q:Exit->Act->World->Prop}{a:Act}{w:World}{l:List Oper}(n:Nat)(O:Nat->Option Nat)(hO:∀i b,O i=some b->b<w.heap.size)(hOO:∀i j b,i≠j->O i=some b->O j≠some b)(Ψ:List (Nat×(Value->World->Prop)))(hm:P.follows .mixedOrders=true)(hB:vH l.toArray n=true)
  (hst:∀i φ,dH Ψ i=some φ->∀v w w',E w w'->φ v w->φ v w') (hX:∀ch a' w',a'.defers=a.defers->X ch w'->Q (.panic ch) a' w')
  (hS1:∀w w',Ext w w'->S1 w->S1 w') (hS2:∀w w',Ext w w'->S2 w->S2 w') (h2:DX l.toArray Ψ κ μ n) (g:Nat) (hg:n+g=l.toArray.size)
  (h:bX E X κ μ S1 S2 P l.toArray w.drew O Ψ (λa' w'=>wpAny P .any l.toArray Q g (bD n true++bD g false) a' w') (l.take n) 0 a [] []):(gC id l.toArray true).wp P Q a w:=
 j9 (tm hE hO hOO hst hS1 hS2 h2 λa' w'=>wpAny P .any l.toArray Q g (bD n true++bD g false) a' w') hm (rR hB) rfl (λ_=>hX) (λ_ _ h=>by rw[show(law E X κ μ S1 S2 P l.toArray w.drew O Ψ _).ops.size-n=g by simp only[law];omega];exact h) (by simpa[law,bX]using h)
theorem bB{E:World->World->Prop}(hE:Pre E)(X:List PanicEntry->World->Prop)(κ μ:Nat)(S1 S2:World->Prop){P:Program}{id:Nat}{Q:Exit->Act->World->Prop}{a:Act}{w:World}{l:List Oper}(n:Nat)(O:Nat->Option Nat)(hO:∀i b,O i=some b->b<w.heap.size)(hOO:∀i j b,i≠j->O i=some b->O j≠some b)(Ψ:List (Nat×(Value->World->Prop)))(hm:P.follows .mixedOrders=true)(hB:ng l.toArray n=true)
  (hst:∀i φ,dH Ψ i=some φ->∀v w w',E w w'->φ v w->φ v w') (hX:∀ch a' w',a'.defers=a.defers->X ch w'->Q (.panic ch) a' w')
  (hS1:∀w w',Ext w w'->S1 w->S1 w') (hS2:∀w w',Ext w w'->S2 w->S2 w') (h2:DX l.toArray Ψ κ μ n)
  (h:bX E X κ μ S1 S2 P l.toArray w.drew O Ψ (λa' w'=>wpList P l.toArray Q (l.drop n) a' w') (l.take n) 0 a [] []):(gC id l.toArray true).wp P Q a w:=
 j9 (tm hE hO hOO hst hS1 hS2 h2 λa' w'=>wpList P l.toArray Q (l.drop n) a' w') hm (mE hB) rfl (λ_=>hX) (λ_ _=>pW hB) (by simpa[law,bX]using h)
theorem cS{E:World->World->Prop}{Ψ:List (Nat×(Value->World->Prop))}(h:∀x∈Ψ,∀v w w',E w w'->x.2 v w->x.2 v w'):
  ∀i φ,dH Ψ i=some φ->∀v w w',E w w'->φ v w->φ v w':=by
 induction Ψ with
 | nil=>intro i φ ht;cases ht
 | cons x r ih=>
  intro i φ ht v w w' he hf;unfold dH at ht;split at ht
  ·cases ht;exact h x (cy ..) v w w' he hf
  ·exact ih (λy hy=>h y (cO _ hy)) i φ ht v w w' he hf
section
variable {E : World → World → Prop} {X : List PanicEntry → World → Prop} {κ μ : Nat} {S1 S2 : World → Prop} {P : Program} {ops : Array Oper} {w0 : World} {O : Nat → Option Nat} {Ψ : List (Nat × (Value → World → Prop))} {Q : Act → World → Prop} {o : Oper} {r : List Oper} {i : Nat} {a : Act} {F : eU} {G : Made}
theorem bu(hw:bO o (yielded ops a.tmps)=false)(h:∀K:Act->Prop,(∀a,bX E X κ μ S1 S2 P ops w0 O Ψ Q r (i+1) a F G->K a)->K (a.put o.dst undef)):bX E X κ μ S1 S2 P ops w0 O Ψ Q (o::r) i a F G:=
 Law.skip hw (h _ λ_ h=>h)
theorem ay(hw:bO o (yielded ops a.tmps)=true)(ht:dH Ψ i=none)
  (h:∀K:Act->Prop,(∀a,bX E X κ μ S1 S2 P ops w0 O Ψ Q r (i+1) a F G->K a)->∃v,(∀w',E w0 w'->cg (dA ops i) F w'->Xk.jP P o a w' v)/\K (a.put o.dst v)):bX E X κ μ S1 S2 P ops w0 O Ψ Q (o::r) i a F G:=by
 obtain⟨v,h1,h2⟩:=h _ λ_ h=>h;exact Law.det hw (oD ht) (λh => .inl ⟨ht,h⟩) h1 h2
theorem bd{φ:Value->World->Prop}(hw:bO o (yielded ops a.tmps)=true)(ht:dH Ψ i=some φ)(hi:i≠κ/\i≠μ)
  (h:∀w',E w0 w'->cg (dA ops i) F w'->Xe.dQ Ext P o a w' (O i) φ)
  (hn:∀v,∀K:Act->Prop,(∀a,bX E X κ μ S1 S2 P ops w0 O Ψ Q r (i+1) a ((i,φ v)::F) ((i,v)::G)->K a)->K (a.put o.dst v)):bX E X κ μ S1 S2 P ops w0 O Ψ Q (o::r) i a F G:=
 have hj:∀ {a b},Ext a b->(law E X κ μ S1 S2 P ops w0 O Ψ Q).J i a b:=λh => .inr (by rw[if_neg hi.1,if_neg hi.2];exact h);Law.make hw (jm ht) (λw' hx hf=>Xe.oB hj hj (h w' (by simp only[law,if_neg hi.1]at hx;exact hx.1) hf)) λv=>hn v _ λ_ h=>h
def kF(E:World->World->Prop)(X:List PanicEntry->World->Prop)(S:World->Prop)(w:World)(old:Option Nat)(φ:Value->World->Prop)(e:Ending)(w2:World):Prop:=
 (∃v,e = .returned v/\E w w2/\S w2/\φ v w2/\jD w w2 old v)∨∃ch,e = .panicked ch/\X ch w2
def jz(E:World->World->Prop)(X:List PanicEntry->World->Prop)(S:World->Prop)(P:Program)(o:Oper)(a:Act)(w:World)(old:Option Nat)(φ:Value->World->Prop):Prop:=
 match (execOp a.eval o).run P w with
 | .ok (.enter f args) w'=>w'=w/\Calls P f args w (kF E X S w old φ)
 | _=>False
attribute [go_sem] jz
theorem oC{J:World->World->Prop}{B:Prop}{S:World->Prop}{w:World}{old:Option Nat}{φ:Fct}(hJ:∀ {a b},E a b->S b->J a b)(h:jz E X S P o a w old φ):gP B J X P w old φ ((execOp a.eval o).run P w):=by
 unfold jz at h;generalize (execOp a.eval o).run P w=q at h
 cases q with
 | ok x w'=>
  cases x<;>simp only[kF]at h<;>simp only[gP]
  case enter=>exact⟨h.1,h.2.mono λe w2 h=>h.imp (λ⟨v,h1,h2,hs,h3,h4⟩=>⟨v,h1,hJ h2 hs,h3,λ_=>h4⟩) id⟩
 | halt x w'=>simp only at h
theorem uF{φ:Value->World->Prop}(hw:bO o (yielded ops a.tmps)=true)(ht:dH Ψ i=some φ)(hi:i=κ)
  (h:∀w',Ext w0 w'->cg (dA ops i) F w'->jz E X S1 P o a w' (O i) φ)
  (hn:∀v,∀K:Act->Prop,(∀a,bX E X κ μ S1 S2 P ops w0 O Ψ Q r (i+1) a ((i,φ v)::F) ((i,v)::G)->K a)->K (a.put o.dst v)):bX E X κ μ S1 S2 P ops w0 O Ψ Q (o::r) i a F G:=
 Law.make hw (jm ht) (λw' hx hf=>oC (λh hs => .inr (by rw[if_pos hi];exact⟨h,hs⟩)) (h w' (by simpa only[law,if_pos hi]using hx) hf)) λv=>hn v _ λ_ h=>h
theorem uE{φ:Value->World->Prop}(hw:bO o (yielded ops a.tmps)=true)(ht:dH Ψ i=some φ)(hi:i≠κ/\i=μ)
  (h:∀w',E w0 w'->S1 w'->cg (dA ops i) F w'->jz E X S2 P o a w' (O i) φ)
  (hn:∀v,∀K:Act->Prop,(∀a,bX E X κ μ S1 S2 P ops w0 O Ψ Q r (i+1) a ((i,φ v)::F) ((i,v)::G)->K a)->K (a.put o.dst v)):bX E X κ μ S1 S2 P ops w0 O Ψ Q (o::r) i a F G:=
 Law.make hw (jm ht) (λw' hx hf=>oC (λh hs => .inr (by rw[if_neg hi.1,if_pos hi.2];exact⟨h,hs⟩)) (by
  simp only[law,if_neg hi.1]at hx;exact h w' hx.1 (hx.2 hi.2) hf)) λv=>hn v _ λ_ h=>h
theorem bm(h:∀w',E w0 w'->S2 w'->fW F w'->apart G->Q a w'):bX E X κ μ S1 S2 P ops w0 O Ψ Q [] i a F G:=λw hz hf hb=>h w hz.1 hz.2 hf (hb trivial)
end
attribute [irreducible] bX
end Go.Xh
namespace Go.Xk
open Go.RowKit
theorem Ee{P:Program}(w:World)(src dst e:TypeId)(hs:P.underlying src=some (.slice e))(he:P.underlying e=some (.int .u8))(hd:P.underlying dst=some .string)(b off len cap:Nat)(ns:List Int)(hl:ns.length=len)
  (hc:∀j,j<len->w.cell? ⟨b,off+j,none⟩=some (.int .u8 (ns.getD j 0))) :
  (convert src dst (.slice (some ⟨b,off,none⟩) len cap)).run P w = .ok (.string ⟨(ns.map λn=>kQ n.toNat).toArray⟩) w:=by
 subst hl;rw[run_convert_bytes_string w src dst e _ _ _ hs he hd,run_bytesToString w _ _ _ ns,foldl_push_bytes]
 ·have e:(ByteArray.empty).data = #[]:=rfl;rw[e,Array.empty_append]
 ·have:=run_loadCells_list (P:=P) (w:=w) ⟨b,off,none⟩ (ns.map (jF .u8)) (λj v hj=>by
   simp only[jc,fx]at hj;obtain⟨n,hn,rfl⟩:=hj;have hlt:j<ns.length:=(cP.1 hn).1;have h:=hc j hlt
   have e1:(zi ⟨b,off,none⟩ j)=⟨b,off+j,none⟩:=by
    unfold zi;split
    ·rename_i h0;subst h0;rfl
    ·rfl
   rw[e1,h];simp[hn])
  simpa using this
@[go_sem] theorem KN{P:Program}(w:World)(src dst B c:Nat)(n:Int)(t:TypeId)(hB:B=w.heap.size)(hs:P.underlying src=some (.slice (P.elem src)))(he:P.underlying (P.elem src)=some (.int .u8))(hd:P.underlying dst=some .string):
  (convert src dst (.slice (some ⟨B,0,none⟩) 1 c)).run P (w.alloc (.cells #[.int .u8 n] t)) = .ok (.string ⟨#[kQ n.toNat]⟩) (w.alloc (.cells #[.int .u8 n] t)):=by
 subst hB
 have:=Ee (P:=P) (w.alloc (.cells #[.int .u8 n] t)) src dst _ hs he hd w.heap.size 0 1 c [n] rfl (λj hj=>by
  obtain rfl:j=0:=by omega
  simp)
 simpa using this
theorem addr_add(b off j:Nat):zi ⟨b,off,none⟩ j=⟨b,off+j,none⟩:=by
 unfold zi;split
 ·rename_i h0;subst h0;rfl
 ·rfl
theorem rU{w:World}{b:Nat}{e:TypeId}{size:Nat}{v:Value}{n:Nat}{xs:List Value}(h:w.ownsRow b e size v n xs):∀k,v.ownBlock=some k->b≤k:=by
 obtain⟨h1,h2⟩:=h;intro k hk;rcases h2 with⟨rfl,_⟩|⟨g,cap,cur,rfl,hg,r⟩
 ·cases hk
 ·simp only[gA,fg]at hk;omega
end Go.Xk
