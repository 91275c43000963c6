/- Plain laws: how long the print of what was read is. No program in sight. -/
import Derived.Test.YtkpmclddjkebeaaGreatDoorBA
set_option linter.unusedSimpArgs false
set_option linter.unusedVariables false
set_option maxRecDepth 100000
set_option maxHeartbeats 8000000
open Bool renaming and_eq_true→aq
open Classical renaming not_not→zl
open Go.Lib renaming itoa→ee,join→nj
open List renaming find?_some→pP,length_append→aB,length_cons→aK,length_nil→cM,map_append→iS,map_map→iq,zipWith→kS
open Nat renaming le_refl→ag,le_trans→bH,zero_add→fe,zero_le→fP
namespace P12
open P11 (Tok)
def nd:E->Nat
 | .none=>0
 | .val _ _ _=>1
 | .col _ _=>1
 | .una _ a=>nd a+1
 | .bin _ a b=>nd a+nd b+1
 | .call _ a=>nd a+1
 | .all=>1
def sm{α:Type}(f:α->Nat)(l:List α):Nat:=(l.map f).sum
theorem ku{α:Type}(f:α->Nat):sm f []=0:=rfl
theorem qb{α:Type}(f:α->Nat)(a:α)(l:List α):sm f (a::l)=f a+sm f l:=by simp[sm]
theorem GV{α:Type}(f:α->Nat)(a:α)(l:List α):sm f (l ++ [a])=sm f l+f a:=by simp[sm]
def stN(x:St):Nat:=sm nd x.tb.checks+sm (sm nd) x.rows+sm (λs=>nd s.2) x.sets+nd x.wher+sm (λi=>nd i.2.1) x.items+nd x.join+sm nd x.group+sm (λo=>nd o.1) x.order
def Zd{α:Type}(v:Except Er (α×R))(sz:α->Nat)(n:Nat):Prop:=∀a r,v = .ok (a,r)->sz a+r.l.length≤n
section
variable {α β : Type} {sz : α → Nat} {sz' : β → Nat} {n n' : Nat}
theorem Zd.bj{c:Int}{r:R}:Zd (bj c r) sz n:=λa r h=>by cases h
theorem Zd.ok{a:α}{r:R}(h:sz a+r.l.length≤n):Zd (.ok (a,r)) sz n:=λ_ _ e=>by cases e;exact h
theorem Zd.bind{v:Except Er (α×R)}{K:α×R->Except Er (β×R)}(h:Zd v sz n)(hK:∀a r,sz a+r.l.length≤n->Zd (K (a,r)) sz' n'):Zd (v >>= K) sz' n':=by
 cases v with
 | error er=>intro a r e;cases e
 | ok z=>exact hK z.1 z.2 (h z.1 z.2 rfl)
theorem dy(r:R):(ax r).l.length≤r.l.length:=(aX r).le
theorem qP{r:R}(h:(nxt r).kind≠0):(ax r).l.length+1≤r.l.length:=by
 rw[dC h]
 cases hl:r.l with
 | nil=>exact absurd (by simp[nxt,hl]) h
 | cons t l=>simp
theorem qn{s:T}{r:R}(h:isT s r=true):(ax r).l.length+1≤r.l.length:=qP (kK h)
theorem Zd.bc{s:T}{r:R}{K:R->Except Er (β×R)}(hK:∀r',r'.l.length+1≤r.l.length->Zd (K r') sz' n'):Zd (bc s r >>= K) sz' n':=by
 unfold P12.bc;split
 ·rename_i h;exact hK _ (qn h)
 ·intro a r e;cases e
theorem Zd.opens{r:R}{K:R->Except Er (β×R)}(hK:∀r',r'.l.length=r.l.length->(ax r').l.length=(ax r).l.length->Zd (K r') sz' n'):Zd (opens r >>= K) sz' n':=by
 unfold P12.opens;split
 ·intro a r e;cases e
 ·refine hK _ rfl ?_;by_cases h:(nxt r).kind=0
  ·rw[oe h,oe (by exact h)]
  ·rw[dC h,dC (by exact h)]
theorem Zd.ite{c:Prop}[Decidable c]{a b:Except Er (α×R)}(h1:c->Zd a sz n)(h2:¬c->Zd b sz n):Zd (if c then a else b) sz n:=by split;exact h1 ‹_›;exact h2 ‹_›
theorem Zd.elim{γ:Type}{o:Option γ}{a:Except Er (α×R)}{f:γ->Except Er (α×R)}(h1:o=none->Zd a sz n)(h2:∀c,o = .some c->Zd (f c) sz n):Zd (o.elim a f) sz n:=by cases o;exact h1 rfl;exact h2 _ rfl
theorem Zd.le{v:Except Er (α×R)}(h:Zd v sz n)(hn:n≤n'):Zd v sz n':=λa r e=>bH (h a r e) hn
end
theorem ij(r:R):Zd (name r) (λ_=>1) r.l.length:=by
 unfold name;refine Zd.ite (λ_=>Zd.bj) λh=>Zd.ite (λ_=>Zd.bj) λ_=>Zd.ok ?_;have:=qP (r:=r) (by have:=zl.1 h;rw[this];decide);omega
theorem Fl(m:Nat)(r:R):Zd (int m r) (λ_=>0) (ax r).l.length:=by
 unfold int;exact Zd.ite (λ_=>Zd.bj) λ_=>Zd.ok (by omega)
theorem nH{α:Type}{most:Nat}{could:R->Bool}{read:R->Except Er (α×R)}{sz:α->Nat}(hr:∀r,Zd (read r) sz r.l.length):∀ (f n:Nat) (r:R),Zd (eO most could read f n r) (sm sz) r.l.length
 | 0,_,_=>Zd.bj
 | f+1,n,r=>by
  rw[l8];refine Zd.ite (λ_=>Zd.bj) λ_=>Zd.bind (hr r) λa r1 h1=>Zd.ite (λhc=>Zd.bind (nH hr f _ _) λl r2 h2=>Zd.ok ?_) λ_=>Zd.ok ?_
  ·have:=dy r1;rw[qb];dsimp only at h2 ⊢;omega
  ·rw[qb,ku];dsimp only at h1 ⊢;omega
theorem sx{α:Type}{read:R->Except Er (α×R)}{sz:α->Nat}(hr:∀r,Zd (read r) sz r.l.length)(r:R):Zd (within read r) sz r.l.length:=by
 rw[nZ];refine Zd.ite (λ_=>Zd.bj) λ_=>Zd.opens λr1 h1 _=>Zd.bind (hr _) λa r2 h2=>Zd.bc λr3 h3=>Zd.ok ?_;have:=dy r1;show sz a+r3.l.length≤_
 dsimp only at h3;omega
theorem yM(r:R):Zd (column r) nd r.l.length:=by
 rw[ki];refine Zd.bind (ij r) λa r1 h1=>Zd.ite (λ_=>Zd.bind (ij _) λb r2 h2=>Zd.ok ?_) λ_=>Zd.ok ?_
 ·have:=dy r1;dsimp only at h2 ⊢;unfold nd;omega
 ·dsimp only;unfold nd;omega
theorem Du{ex:R->Except Er (E×R)}(hr:∀r,Zd (ex r) nd r.l.length)(op:Int)(r:R):Zd (en ex op r) (λz=>nd z.2) r.l.length:=by
 unfold en;refine Zd.ite (λ_=>Zd.ok ?_) λ_=>?_
 ·have:=dy r;show 0+_≤_;omega
 ·have:=hr r
  cases hx:ex r with
  | error er=>intro a r e;cases e
  | ok z=>exact Zd.ok (this z.1 z.2 hx)
theorem KB{ex:R->Except Er (E×R)}(hr:∀r,Zd (ex r) nd r.l.length)(op:Int)(r:R):Zd (call ex op r) nd (r.l.length+1):=by
 rw[ss];refine Zd.bind (sx (Du hr op) r) λz r1 h1=>Zd.ok ?_;dsimp only at h1 ⊢;split
 ·show 1+_≤_;omega
 ·show nd z.2+1+_≤_;omega
theorem CM{ex:R->Except Er (E×R)}(hr:∀r,Zd (ex r) nd r.l.length)(r:R):Zd (dZ ex r) nd r.l.length:=by
 rw[eV];have one:∀ {k:Int},(nxt r).kind=k->k≠0->(ax r).l.length+1≤r.l.length:=λh hk=>qP (by rw[h];exact hk)
 refine Zd.ite (λh=>Zd.bind (Fl _ r) λa r1 h1=>Zd.ok ?_) λ_=>Zd.ite (λh=>Zd.ite (λ_=>Zd.bj) λ_=>Zd.ok ?_) λ_=>Zd.ite (λ_=>yM r) λ_=>Zd.ite (λ_=>sx hr r) λ_=>
  Zd.ite (λh=>Zd.elim (λ_=>Zd.ite (λ_=>Zd.ok ?_) λ_=>Zd.ite (λ_=>Zd.ok ?_) λ_=>Zd.ite (λ_=>Zd.ok ?_) λ_=>Zd.bj) λop _=>Zd.le (KB hr op _) ?_) λ_=>Zd.bj
 ·have:=one h (by decide);show 1+r1.l.length≤_;omega
 all_goals
  have:=one h (by decide);first|exact this|(show 1+_≤_;omega)
theorem uX{ex:R->Except Er (E×R)}(hr:∀r,Zd (ex r) nd r.l.length):∀ (f:Nat) (r:R),Zd (dS ex f r) nd r.l.length
 | 0,r=>Zd.bj
 | f+1,r=>by
  rw[gj];refine Zd.ite (λ_=>CM hr r) λhs=>?_;have h1:=qn (s := [45]) (r:=r) (by simpa using hs);refine Zd.ite (λ_=>Zd.bind (Fl _ _) λa r1 h2=>Zd.ok ?_) λ_=>Zd.opens λr1 h2 h4=>Zd.bind (uX hr f _) λa r2 h3=>Zd.ok ?_
  ·have:=dy (ax r);show 1+r1.l.length≤_;omega
  ·show nd a+1+r2.l.length≤_;omega
theorem Gf{part:R->Except Er (E×R)}(hr:∀r,Zd (part r) nd r.l.length)(ops:List (T×Int)):∀ (f:Nat) (a:E) (r:R) (n:Nat),nd a+r.l.length≤n->Zd (kY part ops f a r) nd n
 | 0,_,_,_,_=>Zd.bj
 | f+1,a,r,n,hn=>by
  rw[js];refine Zd.elim (λ_=>Zd.ok hn) λo ho=>Zd.bind (hr _) λb r1 h1=>Gf hr ops f _ r1 n ?_;have h2:=qn (s:=o.1) (r:=r) (by simpa using pP ho);show nd a+nd b+1+r1.l.length≤n;omega
theorem qv{part:R->Except Er (E×R)}(hr:∀r,Zd (part r) nd r.l.length)(ops:List (T×Int))(r:R):Zd (binary part ops r) nd r.l.length:=by
 rw[km];exact Zd.bind (hr r) λa r1 h1=>Gf hr ops _ a r1 _ h1
theorem vW(s:T)(r:R):(has s r).2.l.length≤r.l.length:=by unfold has;split;exact dy r;exact ag _
theorem JF{sum:R->Except Er (E×R)}(hr:∀r,Zd (sum r) nd r.l.length)(r:R):Zd (test sum r) nd r.l.length:=by
 rw[k7];refine Zd.bind (hr r) λa r1 h1=>Zd.elim (λ_=>Zd.ite (λ_=>Zd.ok h1) λhs=>Zd.bc λr2 h2=>Zd.ok ?_) λo ho=>Zd.bind (hr _) λb r2 h2=>Zd.ok ?_
 ·have h3:=vW [78,79,84] (ax r1);have h4:=dy r1;dsimp only at h2 ⊢;show nd a+1+r2.l.length≤_;omega
 ·have h3:=qn (s:=o.1) (r:=r1) (by simpa using pP ho);dsimp only at h2 ⊢;show nd a+nd b+1+r2.l.length≤_;omega
theorem EM{tst:R->Except Er (E×R)}(hr:∀r,Zd (tst r) nd r.l.length):∀ (f:Nat) (r:R),Zd (lH tst f r) nd r.l.length
 | 0,r=>Zd.bj
 | f+1,r=>by
  rw[kg];refine Zd.ite (λ_=>hr r) λhs=>Zd.opens λr1 h1 h2=>Zd.bind (EM hr f _) λa r2 h3=>Zd.ok ?_;have h4:=qn (s := [78,79,84]) (r:=r) (by simpa using hs);show nd a+1+r2.l.length≤_;omega
theorem BP:∀ (f:Nat) (r:R),Zd (eG f r) nd r.l.length
 | 0,r=>Zd.bj
 | f+1,r=>qv (qv (EM (JF (qv (qv (uX (BP f) _) _) _)) _) _) _ r
theorem pD(r:R):Zd (expr r) nd r.l.length:=BP 101 r
theorem vK(r:R):Zd (names r) (λ_=>0) r.l.length:=by
 rw[qh];refine Zd.bc λr1 h1=>Zd.bind (nH (sz:=λ_=>1) ij _ _ _) λa r2 h2=>Zd.bc λr3 h3=>Zd.ok ?_;dsimp only at h3 ⊢;omega
def cnN:Con->Nat
 | .inl a=>nd a
 | .inr _=>0
theorem yO(c:T)(r:R):Zd (dv c r) (λ_=>0) r.l.length:=Zd.ite (λ_=>vK r) λ_=>Zd.ok (by omega)
theorem BV(n:Nat)(c:T)(r:R):Zd (ie n c r) cnN r.l.length:=by
 rw[kO];have h0:=dy r;refine Zd.ite (λ_=>Zd.bj) λ_=>Zd.ite (λ_=>Zd.bind (sx pD _) λa r1 h1=>Zd.ok ?_) λ_=>Zd.ite (λ_=>Zd.bc λr1 h1=>Zd.bind (yO c _) λa r2 h2=>Zd.ok ?_) λ_=>Zd.bc λr1 h1=>Zd.bind (yO c _) λa r2 h2=>Zd.ok ?_
 ·show nd a+r1.l.length≤_;omega
 ·show 0+r2.l.length≤_;omega
 ·show 0+r2.l.length≤_;omega
abbrev tN(t:Tb):Nat:=sm nd t.checks
theorem GA(t:Tb)(o:Con):tN (gS t o)=tN t+cnN o:=by
 cases o with
 | inl a=>exact GV nd a t.checks
 | inr p=>rfl
theorem vr(c:T):∀ (f:Nat) (t:Tb) (k:List (List T)) (n:Nat) (nn:Bool) (r:R) (m:Nat),tN t+r.l.length≤m->Zd (eP c f t k n nn r) (λz=>tN z.1) m
 | 0,_,_,_,_,_,_,_=>Zd.bj
 | f+1,t,k,n,nn,r,m,hm=>by
  rw[jj];have h0:=dy r;refine Zd.ite (λ_=>Zd.bc λr1 h1=>vr c f t k n true r1 m (by omega)) λ_=>Zd.ite (λ_=>Zd.bind (BV n c r) λo r1 h1=>vr c f _ _ _ _ r1 m ?_) λ_=>Zd.ok hm;rw[GA];dsimp only;omega
theorem DU(r:R):Zd (typeOf r) (λ_=>0) r.l.length:=by
 have h0:=dy r;exact Zd.ite (λ_=>Zd.ok (by omega)) λ_=>Zd.ite (λ_=>Zd.ok (by omega)) λ_=>Zd.ite (λ_=>Zd.ok (by omega)) λ_=>Zd.bj
theorem JQ(t:Tb)(k:List (List T))(n:Nat)(r:R)(m:Nat)(hm:tN t+r.l.length≤m):Zd (part t k n r) (λz=>tN z.1) m:=by
 rw[ov];refine Zd.ite (λ_=>Zd.bind (BV n [] r) λo r1 h1=>Zd.ok ?_) λ_=>Zd.ite (λ_=>Zd.bj) λ_=>Zd.bind (ij r) λa r1 h1=>Zd.bind (DU _) λty r2 h2=>Zd.bind (vr a _ t k _ _ r2 m (by dsimp only at h2;omega)) λw r3 h3=>Zd.ok h3;show tN (gS t o)+r1.l.length≤m
 rw[GA];omega
theorem xH:∀ (f:Nat) (t:Tb) (k:List (List T)) (n:Nat) (r:R) (m:Nat),tN t+r.l.length≤m->Zd (gf f t k n r) (λz=>tN z.1) m
 | 0,_,_,_,_,_,_=>Zd.bj
 | f+1,t,k,n,r,m,hm=>by
  rw[iL];refine Zd.bind (JQ t k n r m hm) λz r1 h1=>Zd.ite (λ_=>xH f _ _ _ _ m ?_) λ_=>Zd.ok h1;have h0:=dy r1;dsimp only;omega
theorem F0(r:R):Zd (create r) stN r.l.length:=by
 rw[rj];have h0:=dy r;refine Zd.ite (λ_=>?_) λ_=>Zd.ite (λ_=>?_) λ_=>Zd.bj
 ·unfold rV;refine Zd.bind (ij _) λa r1 h1=>Zd.bc λr2 h2=>Zd.bind (xH _ { name:=a } [] 0 r2 r.l.length (by show 0+r2.l.length≤_;dsimp only at h2;omega)) λw r3 h3=>Zd.bc λr4 h4=>Zd.ok ?_;show stN { made 1 with tb:=w.1,keyCols:=w.2 }+r4.l.length≤_
  have e:stN { made 1 with tb:=w.1,keyCols:=w.2 }=tN w.1:=by simp[stN,made,ku,nd]
  rw[e];dsimp only at h4;omega
 ·have h1:=vW [85,78,73,81,85,69] r;unfold mkIdx;refine Zd.bc λr1 h2=>Zd.bind (ij _) λa r2 h3=>Zd.bc λr3 h4=>Zd.bind (ij _) λb r4 h5=>Zd.bind (vK _) λl r5 h6=>Zd.ok ?_;show 0+r5.l.length≤_
  dsimp only at h4 h6;omega
theorem Kz(r:R):Zd (drop r) stN r.l.length:=by
 rw[drop_eq];have h0:=dy r;refine Zd.ite (λ_=>Zd.bind (ij _) λa r1 h1=>Zd.ok ?_) λ_=>Zd.bc λr1 h1=>Zd.bind (ij _) λa r2 h2=>Zd.ok ?_
 ·show 0+r1.l.length≤_;omega
 ·show 0+r2.l.length≤_;omega
theorem zp(r:R):Zd (wher r) nd r.l.length:=by
 have h0:=dy r;exact Zd.ite (λ_=>Zd.le (pD _) h0) λ_=>Zd.ok (by show 0+_≤_;omega)
theorem wM(r:R):Zd (eB r) (sm nd) r.l.length:=by
 rw[iT];refine Zd.bc λr1 h1=>Zd.bind (nH pD _ _ _) λa r2 h2=>Zd.bc λr3 h3=>Zd.ok ?_;dsimp only at h3 ⊢;omega
theorem Fp(r:R):Zd (insert r) stN r.l.length:=by
 rw[insert_eq];refine Zd.bc λr1 h1=>Zd.bind (ij _) λa r2 h2=>Zd.bind (sz:=λ_=>0) (n:=r2.l.length) (Zd.ite (λ_=>vK _) λ_=>Zd.ok (Nat.le_of_eq (fe _))) λl r3 h3=>Zd.bc λr4 h4=>Zd.bind (nH wM _ _ _) λw r5 h5=>Zd.ok ?_;have e:stN { made 5 with name:=a,cols:=l,rows:=w }=sm (sm nd) w:=by simp[stN,made,ku,nd]
 show stN { made 5 with name:=a,cols:=l,rows:=w }+r5.l.length≤_
 rw[e];dsimp only at h4;omega
theorem GY(r:R):Zd (setOf r) (λs=>nd s.2) r.l.length:=by
 rw[nF];refine Zd.bind (ij r) λa r1 h1=>Zd.bc λr2 h2=>Zd.bind (pD _) λb r3 h3=>Zd.ok ?_;show nd b+r3.l.length≤_
 dsimp only at h2;omega
theorem DQ(r:R):Zd (update r) stN r.l.length:=by
 rw[ob];refine Zd.bind (ij r) λa r1 h1=>Zd.bc λr2 h2=>Zd.bind (nH GY _ _ _) λl r3 h3=>Zd.bind (zp _) λw r4 h4=>Zd.ok ?_;have e:stN { made 6 with name:=a,sets:=l,wher:=w }=sm (λs=>nd s.2) l+nd w:=by simp[stN,made,ku,nd]
 show stN { made 6 with name:=a,sets:=l,wher:=w }+r4.l.length≤_
 rw[e];dsimp only at h2 h4;omega
theorem Dn(r:R):Zd (ia r) stN r.l.length:=by
 rw[mT];refine Zd.bc λr1 h1=>Zd.bind (ij _) λa r2 h2=>Zd.bind (zp _) λw r3 h3=>Zd.ok ?_;have e:stN { made 7 with name:=a,wher:=w }=nd w:=by simp[stN,made,ku,nd]
 show stN { made 7 with name:=a,wher:=w }+r3.l.length≤_
 rw[e];dsimp only at h3;omega
theorem Ke(r:R):Zd (item r) (λi=>nd i.2.1) r.l.length:=by
 rw[ql];have h0:=dy r;refine Zd.ite (λ_=>Zd.ok (by show 0+_≤_;omega)) λ_=>Zd.bind (pD r) λa r1 h1=>Zd.ite (λ_=>Zd.bind (ij _) λb r2 h2=>Zd.ok ?_) λ_=>Zd.ok h1;have:=dy r1;show nd a+r2.l.length≤_
 dsimp only at h2;omega
theorem xf(r:R):Zd (source r) (λ_=>0) r.l.length:=by
 rw[oo];refine Zd.bind (ij r) λa r1 h1=>Zd.bind (sz:=λ_=>0) (n:=r1.l.length) (Zd.ite (λ_=>Zd.ok (Nat.le_of_eq (fe _))) λ_=>λb r2 h2=>by have:=ij _ b r2 h2;dsimp only at this ⊢;omega) λb r2 h2=>Zd.ok ?_;show 0+r2.l.length≤_;omega
theorem CW(r:R):Zd (fs r) (λo=>nd o.1) r.l.length:=by
 rw[kD];refine Zd.bind (pD r) λa r1 h1=>Zd.ok ?_;have h2:=vW [68,69,83,67] r1;have h3:=vW [65,83,67] (has [68,69,83,67] r1).2;dsimp only;split<;>omega
theorem Cr(s:T×T)(r:R):Zd (ou s r) (λj=>nd j.2) r.l.length:=by
 have h0:=dy r;refine Zd.ite (λ_=>Zd.bind (xf _) λa r1 h1=>Zd.bc λr2 h2=>Zd.bind (pD _) λb r3 h3=>Zd.ok ?_) λ_=>Zd.ok (by show 0+_≤_;omega);show nd b+r3.l.length≤_
 dsimp only at h2;omega
theorem zR(r:R):Zd (lZ r) (sm nd) r.l.length:=by
 have h0:=dy r;exact Zd.ite (λ_=>Zd.bc λr1 h1=>Zd.le (nH yM _ _ _) (by omega)) λ_=>Zd.ok (by show 0+_≤_;omega)
theorem zN(r:R):Zd (lX r) (sm λo=>nd o.1) r.l.length:=by
 have h0:=dy r;exact Zd.ite (λ_=>Zd.bc λr1 h1=>Zd.le (nH CW _ _ _) (by omega)) λ_=>Zd.ok (by show 0+_≤_;omega)
theorem zO(r:R):Zd (kz r) (λ_=>0) r.l.length:=by
 have h0:=dy r;have h1:=dy (ax r);exact Zd.ite (λ_=>Zd.ite (λ_=>Zd.bj) λ_=>Zd.bind (Fl _ _) λa r1 h2=>Zd.ok (by show 0+r1.l.length≤_;omega)) λ_=>Zd.ok (by omega)
theorem Cp(r:R):Zd (gH r) stN r.l.length:=by
 rw[lf];refine Zd.bind (nH Ke _ _ _) λz r1 h1=>Zd.bc λr2 h2=>Zd.bind (xf _) λs r3 h3=>Zd.bind (Cr _ _) λj r4 h4=>Zd.bind (zp _) λw r5 h5=>Zd.bind (zR _) λg r6 h6=>Zd.bind (zN _) λo r7 h7=>Zd.bind (zO _) λl r8 h8=>Zd.ok ?_;have e:stN { made 8 with items:=z,frm:=j.1,join:=j.2,wher:=w,group:=g,order:=o,limit:=l }=nd w+sm (λi=>nd i.2.1) z+nd j.2+sm nd g+sm (λo=>nd o.1) o:=by simp[stN,made,ku]
 show stN { made 8 with items:=z,frm:=j.1,join:=j.2,wher:=w,group:=g,order:=o,limit:=l }+r8.l.length≤_
 rw[e];dsimp only at h2 h3 h4 h5 h6 h7 h8;omega
theorem xa(r:R):Zd (cG r) stN r.l.length:=by
 have h0:=dy r
 refine Zd.ite (λ_=>Zd.le (F0 _) h0) λ_=>Zd.ite (λ_=>Zd.le (Kz _) h0) λ_=>Zd.ite (λ_=>Zd.le (Fp _) h0) λ_=>Zd.ite (λ_=>Zd.le (DQ _) h0) λ_=>Zd.ite (λ_=>Zd.le (Dn _) h0) λ_=>Zd.ite (λ_=>Zd.le (Cp _) h0) λ_=>
  Zd.ite (λ_=>Zd.ok ?_) λ_=>Zd.ite (λ_=>Zd.ok ?_) λ_=>Zd.ite (λ_=>Zd.ok ?_) λ_=>Zd.bj
 all_goals(show 0+_≤_;omega)
theorem kL(b:Bool)(t:T):(mO b t).length≤t.length+2:=by unfold mO;split<;>simp
theorem BD{c:Prop}[Decidable c]{a b:T}{n:Nat}(h1:a.length≤n)(h2:b.length≤n):(if c then a else b).length≤n:=by split;exact h1;exact h2
theorem zJ(op:Int):(fb op).length≤3:=by
 unfold fb;iterate 14 refine BD (by decide) ?_
 decide
theorem AN(op:Int):(eL op).length≤5:=by
 unfold eL;iterate 4 refine BD (by decide) ?_
 decide
theorem gu:∀e:E,isE e=true->(text e).length≤140*nd e
 | .none,h=>by cases h
 | .val k i s,h=>by
  simp only[isE,aq,decide_eq_true_eq]at h;obtain⟨⟨hv,h1⟩,h2⟩:=h;show(P6.fU k i s).length≤140
  unfold P6.fU;rw[if_pos hv];split
  ·simp
  split
  ·split<;>simp
  split
  ·unfold ee;split
   ·have:=gB (u:=i.natAbs) (by omega);simp;omega
   ·have:=gB (u:=i.toNat) (by omega);omega
  ·rename_i h0 h1 h2;unfold P6.isV at hv;rw[if_neg h0,if_neg h1,if_neg h2]at hv;split at hv
   ·simp only[aq,decide_eq_true_eq]at hv;have:=P6.pF s;have:=hv.1.2;simp[P6.quote];omega
   ·cases hv
 | .col t n,h=>by
  simp only[isE,aq]at h;have h1:=cT h.1;have h2:=iv h.2;show _≤140
  unfold text;split
  ·omega
  ·simp;omega
 | .una op a,h=>by
  simp only[isE,aq]at h;have h1:=gu a h.2;have h2:=kL (closed op a) (text a);show _≤140*(nd a+1)
  unfold text;split
  ·simp;omega
  split
  ·simp;omega
  split<;>(simp;omega)
 | .bin op a b,h=>by
  simp only[isE,aq]at h;have h1:=gu a h.1.2;have h2:=gu b h.2;have h3:=kL (closed op a) (text a);have h4:=kL (closed op b) (text b);have h5:=zJ op;show _≤140*(nd a+nd b+1)
  unfold text;simp;omega
 | .all,h=>by show _≤140;unfold text;simp
 | .call op a,h=>by
  simp only[isE,aq]at h;have h1:=gu a h.2;have h2:=AN op;show _≤140*(nd a+1)
  unfold text;simp;omega
theorem iX{α:Type}{f:α->T}{g:α->Nat}:∀l:List α,(∀a∈l,(f a).length+2≤g a)->(join (l.map f)).length≤sm g l
 | [],_=>fP _
 | [a],h=>by have:=h a (by simp);simp[join,nj,sm];omega
 | a::b::l,h=>by
  have ih:=iX (b::l) λc hc=>h c (by simp at hc ⊢;exact .inr hc);have:=h a (by simp);rw[qb];have e:join ((a::b::l).map f)=f a ++ [44,32]++join ((b::l).map f):=by simp[join,nj]
  rw[e];simp only[aB,aK,cM];omega
theorem qa{α:Type}{g h:α->Nat}{c k:Nat}:∀l:List α,(∀a∈l,g a≤k*h a+c)->sm g l≤k*sm h l+c*l.length
 | [],_=>fP _
 | a::l,hh=>by
  have ih:=qa l λb hb=>hh b (by simp[hb]);have:=hh a (by simp);rw[qb,qb,aK,Nat.mul_add,Nat.mul_add];omega
theorem mg{l:List T}(h:∀s∈l,isName s=true):(join l).length≤26*l.length:=by
 have h1:=iX (f:=λs:T=>s) (g:=λ_=>26) l λa ha=>by have:=cT (h a ha);omega
 have h2:=qa (g:=λ_:T=>26) (h:=λ_:T=>0) (k:=0) (c:=26) l λa _=>by simp
 simp only[List.map_id',Nat.zero_mul,fe]at h1 h2;omega
theorem qK{e:E}(h:eW e=true):(dG e).length≤140*nd e+7:=by
 unfold dG;split
 ·simp
 ·rename_i h0;unfold eW at h;have:=gu e (by simpa[h0]using h);simp;omega
theorem CJ{x:St}(h:isS x):(print x).length≤140*stN x+20000:=by
 obtain⟨hx,h⟩:=h;rcases h with⟨hk,h⟩|⟨hk,h⟩|⟨hk,h⟩|⟨hk,h1,h2,h3⟩|⟨hk,h1,h2,h3⟩|⟨hk,h1,h2,h3⟩|⟨hk,h1,h2⟩|⟨hk,h⟩|hk|hk|hk
 all_goals(unfold print;simp only[hk];simp(config := { decide:=true }) only[if_true,if_false])
 ·obtain⟨h1,h2,h3,h4,h5⟩:=qR h;have g1:=cT h1;unfold k9;rw[sU]
  have ptN:∀p∈partsOf x.tb x.keyCols,(sR p).length+2≤140*(match p with | .chk e=>nd e|_=>0)+500:=λp hp=>by
   have:=h5 p hp
   cases p with
   | col c=>
    have h6:=cT this.1;show(dT c).length+2≤0+500
    unfold dT fB;simp only[aB];repeat' split
    all_goals(simp;omega)
   | key b l=>
    obtain⟨-,h7,h8⟩:=eu this;have h9:=mg h8;show(fR b l).length+2≤0+500
    unfold fR;split<;>(simp;omega)
   | chk e=>
    have h6:=gu e this;show([67,72,69,67,75,32,40]++text e ++ [41]).length+2≤140*nd e+500
    simp;omega
  have j1:=iX (f:=sR) (g:=λp=>140*(match p with | .chk e=>nd e|_=>0)+500) (partsOf x.tb x.keyCols) ptN;have j2:=qa (g:=λp=>140*(match p with | .chk e=>nd e|_=>0)+500) (h:=λp:Pt=>match p with | .chk e=>nd e|_=>0) (k:=140) (c:=500) (partsOf x.tb x.keyCols) λa _=>ag _
  have j3:sm (λp:Pt=>match p with | .chk e=>nd e|_=>0) (partsOf x.tb x.keyCols)=sm nd x.tb.checks:=by
   have c1:∀l:List (T×Int×Bool),((l.map Pt.col).map (λp:Pt=>match p with | .chk e=>nd e|_=>0)).sum=0:=by
    intro l;induction l with
    | nil=>rfl
    | cons a l ih=>simpa using ih
   have c2:∀ (a:List Bool) (b:List (List T)),((kS Pt.key a b).map (λp:Pt=>match p with | .chk e=>nd e|_=>0)).sum=0:=by
    intro a;induction a with
    | nil=>intro b;rfl
    | cons p a ih=>intro b;cases b with
     | nil=>rfl
     | cons l b=>simpa using ih b
   unfold sm partsOf;rw[iS,iS,List.sum_append,List.sum_append,c1,c2,iq];simp[Function.comp_def]
  have j4:stN x=sm nd x.tb.checks:=by rw[hx];simp[eF,hk,stN,ku,nd]
  rw[j3]at j2;simp only[aB,aK,cM];rw[j4];omega
 ·have:=cT h;simp;omega
 ·have:=cT h;simp;omega
 ·have g1:=cT h1;have g2:=cT h2;obtain⟨-,g3,g4⟩:=eu h3;have g5:=mg g4;unfold fF;split<;>split<;>(simp;omega)
 ·have g1:=cT h1;obtain⟨-,g3,g4⟩:=eu h3
  have g5:(fF x.cols).length≤500:=by
   unfold fF;split
   ·simp
   ·rename_i h0;obtain⟨-,g6,g7⟩:=eu (by rcases h2 with h2|h2;exact absurd h2 h0;exact h2);have:=mg g7;simp;omega
  have j1:=iX (f:=iz) (g:=λl=>140*sm nd l+100) x.rows λl hl=>by
   obtain⟨-,f1,f2⟩:=eu (g4 l hl);have k1:=iX (f:=text) (g:=λe=>140*nd e+2) l λe he=>by have:=gu e (f2 e he);omega
   have k2:=qa (g:=λe=>140*nd e+2) (h:=nd) (k:=140) (c:=2) l λa _=>ag _;unfold iz;simp;omega
  have j2:=qa (g:=λl=>140*sm nd l+100) (h:=sm nd) (k:=140) (c:=100) x.rows λa _=>ag _;have j4:stN x=sm (sm nd) x.rows:=by rw[hx];simp[eF,hk,stN,ku,nd]
  simp only[aB,aK,cM];rw[j4];omega
 ·have g1:=cT h1;obtain⟨-,g3,g4⟩:=eu h2
  have j1:=iX (f:=gX) (g:=λs=>140*nd s.2+50) x.sets λs hs=>by
   have:=g4 s hs;simp only[aq]at this;have f1:=cT this.1;have f2:=gu _ this.2;unfold gX;simp;omega
  have j2:=qa (g:=λs:T×E=>140*nd s.2+50) (h:=λs=>nd s.2) (k:=140) (c:=50) x.sets λa _=>ag _;have j3:=qK h3;have j4:stN x=sm (λs=>nd s.2) x.sets+nd x.wher:=by rw[hx];simp[eF,hk,stN,ku,nd]
  simp only[aB,aK,cM];rw[j4];omega
 ·have g1:=cT h1;have j3:=qK h2;have j4:stN x=nd x.wher:=by rw[hx];simp[eF,hk,stN,ku,nd]
  simp only[aB,aK,cM];rw[j4];omega
 ·have hs:=qU h
  have i1:=iX (f:=ey) (g:=λi=>140*nd i.2.1+50) x.items λi hi=>by
   have:=hs.items.2.2 i hi;unfold iF at this;unfold ey;split
   ·simp
   ·rename_i hb;rw[if_neg hb]at this;simp only[aq]at this;have f1:=gu _ this.1;have f2:=iv this.2;split<;>(simp;omega)
  have i2:=qa (g:=λi:Bool×E×T=>140*nd i.2.1+50) (h:=λi=>nd i.2.1) (k:=140) (c:=50) x.items λa _=>ag _
  have src:∀s:T×T,(s∈x.frm∨s=([],[]))->(eR s).length≤60:=λs hs2=>by
   unfold eR;rcases hs2 with hs2|rfl
   ·have:(isName s.1&&cf s.2)=true:=hs.frm.2.2 s hs2
    simp only[aq]at this;have f1:=cT this.1;have f2:=iv this.2;split
    ·omega
    ·simp;omega
   ·simp
  have s1:=src (x.frm.headD ([],[])) (by cases x.frm<;>simp)
  have s2:=src (x.frm.tail.headD ([],[])) (by
   match x.frm with
   | []=>simp
   | [a]=>simp
   | a::b::l=>simp)
  have hj:(text x.join).length≤140*nd x.join:=by
   have:=hs.join;split at this
   ·exact gu _ this
   ·rw[qf this];exact fP _
  have w1:=qK hs.wher;have g1:=iX (f:=text) (g:=λe=>140*nd e+2) x.group λe he=>by have:=gu e (qo (hs.group.2 e he));omega
  have g2:=qa (g:=λe=>140*nd e+2) (h:=nd) (k:=140) (c:=2) x.group λa _=>ag _
  have o1:=iX (f:=ft) (g:=λo=>140*nd o.1+10) x.order λo ho=>by
   have:=gu _ (hs.order.2 o ho);unfold ft;split
   ·simp;omega
   ·omega
  have o2:=qa (g:=λo:E×Bool=>140*nd o.1+10) (h:=λo=>nd o.1) (k:=140) (c:=10) x.order λa _=>ag _
  have l1:(ee x.limit).length≤50:=by
   unfold ee;have:=hs.limit;split
   ·have:=gB (u:=x.limit.natAbs) (by omega);simp;omega
   ·have:=gB (u:=x.limit.toNat) (by omega);omega
  have j4:stN x=nd x.wher+sm (λi=>nd i.2.1) x.items+nd x.join+sm nd x.group+sm (λo=>nd o.1) x.order:=by rw[hx];simp[eF,hk,stN,ku]
  have t1:=hs.items.2.1;have t2:=hs.group.1;have t3:=hs.order.1
  have p1:(if x.frm.length≤1 then[]else[32,74,79,73,78,32]++eR (x.frm.tail.headD ([],[]))++ [32,79,78,32]++text x.join).length≤140*nd x.join+100:=by
   split
   ·simp
   ·simp only[aB,aK,cM];omega
  have p2:(if x.group = []then[]else[32,71,82,79,85,80,32,66,89,32]++join (x.group.map text)).length≤140*sm nd x.group+100:=by
   split
   ·simp
   ·simp only[aB,aK,cM];omega
  have p3:(if x.order = []then[]else[32,79,82,68,69,82,32,66,89,32]++join (x.order.map ft)).length≤140*sm (λo=>nd o.1) x.order+400:=by
   split
   ·simp
   ·simp only[aB,aK,cM];omega
  have p4:(if x.limit<0 then[]else[32,76,73,77,73,84,32]++ee x.limit).length≤100:=by
   split
   ·simp
   ·simp only[aB,aK,cM];omega
  unfold fq;simp only[aB]at p1 p2 p3 p4 ⊢;simp only[aK,cM]at p1 p2 p3 p4 ⊢;rw[j4];omega
 all_goals(simp)
theorem CT{s:T}{x:St}(h:parse s = .ok x)(hs:s.length≤2000):(print x).length≤1000000:=by
 have h1:=CJ (uI h);unfold parse at h
 cases hl:P11.ff s with
 | inr a=>rw[hl]at h;cases h
 | inl l=>
  rw[hl]at h
  have hb:l.length≤4001:=by
   unfold P11.ff at hl;rw[if_neg (by omega)]at hl;have:=P11.qN _ s 0 l (ag _) hl;have:=P11.sd l;omega
  unfold fV at h;dsimp only at h
  cases hs:cG ⟨l,0⟩with
  | error er=>rw[hs]at h;cases h
  | ok z=>
   obtain⟨y,r⟩:=z;have:=xa _ y r hs;rw[hs]at h;have h':(if(nxt (has [59] r).2).kind≠0 then bj 120 (has [59] r).2 else .ok y:Except Er St) = .ok x:=h;split at h'
   ·cases h'
   ·cases h';dsimp only at this;omega
end P12
