/- What the claim's proof leans on, part 17: walks of functions and plain laws. -/
import Derived.Test.YtkpmclddjkebeaaGreatDoorRZF
set_option linter.unusedSimpArgs false
set_option linter.unusedVariables false
set_option maxRecDepth 100000
set_option maxHeartbeats 80000000
open Array renaming getElem?_eq_some_iff→ae
open Bool renaming and_eq_true→aT,false_eq_true→aS,false_or→im,or_false→mh,true_and→sB,true_eq_false→eO,true_or→lu
open Except renaming ok→kg
open Go.IntWalk renaming i64_in→pb
open Go.Lib renaming hid→aa
open Go.Op renaming bytesLess→kH
open Go.Proofs.Tryz renaming prog→af,underlying35→aA
open Go.RowKit.Below renaming refl→al
open Go.Value renaming slice→gU
open Go.World renaming cell?→ak,cell?_of_block→kf,setCells→zT,size_alloc→ag,size_drew→bM,size_setCell→aM
open Go renaming bodyPost_ret→ar,frozen_of_row→aD,heap_setCell_other→an,results_none→uj
open List renaming all_eq_true→ft,append_nil→pL,drop_succ_cons→aL,drop_zero→bd,eq_nil_of_length_eq_zero→iQ,find?_cons→gG,getElem?_eq_getElem→aZ,getElem_mem→i6,headD_eq_head?_getD→D6,length_append→aN,length_cons→aW,length_drop→ez,length_nil→mc,length_singleton→bf,mem_cons→aJ,not_mem_nil→aF,take_succ_cons→aG,take_succ_eq_append_getElem→uF,take_zero→aY
open Nat renaming add_mul→Ea,le_refl→ai,le_trans→bI,lt_of_lt_of_le→aK,mul_le_mul_right→fe,strongRecOn→uf,zero_add→eF
open Option renaming none→mg,some→mE
open Option.some renaming inj→iy,injEq→fq
open Or renaming inl→kr
open UInt8 renaming le_iff_toNat_le→fp,toNat_inj→jL
namespace P12
open P11 (Tok)
structure Gd(r:R):Prop where
 good:Good r
 kts:∃a e,r.l=a ++ [e]/\e.kind=0/\∀t∈a,P11.good (P11.kt t)
abbrev PS:=Except Er R
def okB:PS->Bool
 | .ok _=>true
 | .error _=>false
def Nx{α:Type}(F:R->Except Er (α×R))(s:PS)(x:α)(s':PS):Prop:=
 match s with
 | .error e=>s' = .error e
 | .ok r=>match F r with
  | .error e=>s' = .error e
  | .ok (y,r')=>x=y/\s' = .ok r'
def cH(e:Int):PS->PS
 | .error x => .error x
 | .ok r => .error ((nxt r).pos,e)
def isK(k:Int)(x:T):PS->Bool
 | .error _=>false
 | .ok r=>(nxt r).kind==k&&(nxt r).text==x
def cf:PS->PS
 | .error x => .error x
 | .ok r => .ok (ax r)
theorem qV{t:Tok}(h:P11.good (P11.kt t)):t.kind≠0:=by
 rcases h with⟨k,-⟩|⟨k,-⟩|⟨k,-⟩|⟨k,-⟩|⟨k,-⟩<;>(simp only[P11.kt]at k;omega)
theorem Gd.cases{r:R}(h:Gd r):((P12.nxt r).kind=0/\r.l.length=1)∨(P11.good (P11.kt (P12.nxt r))/\1<r.l.length/\Gd ⟨r.l.tail,r.deep⟩):=by
 obtain⟨a,e,h1,h2,h3⟩:=h.kts
 cases a with
 | nil=>exact .inl ⟨by unfold P12.nxt;rw[h1];exact h2,by rw[h1];rfl⟩
 | cons t a=>
  have hn:P12.nxt r=t:=by unfold P12.nxt;rw[h1];rfl
  have hg:=h3 t aI;refine .inr ⟨by rw[hn];exact hg,by rw[h1];simp,?_,a,e,by rw[h1];rfl,h2,λx hx=>h3 x (by simp[hx])⟩;have:=h.good.ax;rwa [fj (by rw[hn];exact qV hg)]at this
theorem Gd.ax{r:R}(h:Gd r):Gd (ax r):=by
 rcases h.cases with⟨h1,-⟩|⟨h1,-,h2⟩
 ·rw[ob h1];exact h
 ·rw[fj (qV h1)];exact h2
theorem Gd.nxt{r:R}(h:Gd r):(P12.nxt r).kind=0∨P11.good (P11.kt (P12.nxt r)):=h.cases.imp And.left And.left
theorem FZ{r:R}(h:Good r)(hl:r.l.length≤1):(P12.nxt r).kind=0:=by
 obtain⟨a,e,h1,h2⟩:=h.ends;have ha:a = []:=iQ (by rw[h1,aN,bf]at hl;omega);subst ha;unfold P12.nxt;rw[h1];exact h2
theorem Dy{r:R}(h:Gd r)(hl:1<r.l.length):(P12.nxt r).kind≠0:=by
 rcases h.cases with⟨-,h1⟩|⟨h1,-⟩
 ·omega
 ·exact qV h1
theorem Fv{s:List UInt8}{l:List Tok}(h:P11.eP s = .inl l):Gd ⟨l,0⟩:=by
 refine⟨pq h,?_⟩;unfold P11.eP at h;split at h
 ·cases h
 ·obtain⟨l',rfl,hg⟩:=P11.nY _ s 0 l (ai _) h;exact⟨l',_,rfl,rfl,hg⟩
theorem gl{x:T}{r:R}(h:Gd r)(hx:P11.fI.contains x=false):isK 2 x (.ok r)=isT x r:=by
 unfold isK isT;by_cases h2:(P12.nxt r).kind=2
 ·simp[h2]
 ·by_cases h5:(P12.nxt r).kind=5
  ·rcases h.nxt with h0|h0
   ·omega
   ·have hs:(P12.nxt r).text∈P11.fI:=by
     rcases h0 with⟨k,-⟩|⟨k,-⟩|⟨k,-⟩|⟨k,-⟩|⟨-,k⟩<;>first|(simp only[P11.kt]at k;omega)|exact k
    have hne:(P12.nxt r).text≠x:=λe=>by
     rw[e]at hs;rw[List.contains_iff_mem.2 hs]at hx
     cases hx
    simp[h5,hne]
  ·rw[show((P12.nxt r).kind==2)=false by simpa using h2,show((P12.nxt r).kind==5)=false by simpa using h5];simp_all
theorem gn{x:T}{r:R}(h:Gd r)(hx:P11.words.contains x=false):isK 5 x (.ok r)=isT x r:=by
 unfold isK isT;by_cases h5:(P12.nxt r).kind=5
 ·simp[h5]
 ·by_cases h2:(P12.nxt r).kind=2
  ·rcases h.nxt with h0|h0
   ·omega
   ·have hs:P11.words.contains (P12.nxt r).text=true:=by
     rcases h0 with⟨k,-⟩|⟨-,-,-,-,k⟩|⟨k,-⟩|⟨k,-⟩|⟨k,-⟩<;>first|(simp only[P11.kt]at k;omega)|exact k
    have hne:(P12.nxt r).text≠x:=λe=>by
     rw[e,hx]at hs
     cases hs
    simp[h2,hne]
  ·rw[show((P12.nxt r).kind==2)=false by simpa using h2,show((P12.nxt r).kind==5)=false by simpa using h5];simp_all
end P12
namespace Go.Proofs.YtkpmclddjkebeaaGreatDoor
open Go.RowKit
open _root_.P12 (PS Gd okB cH isK cf Nx)
structure pH(bp b cap:Nat)(L:List P11.Tok)(i:Nat)(d a e:Int)(w:World):Prop where
 blk:w.heap[bp]?=some (.cells #[.slice (some ⟨b,0,none⟩) L.length cap,.int .i64 i,.int .i64 d,.int .i64 a,.int .i64 e] 79)
 lo:b<bp
 cap:L.length≤cap
 toks:ud b 0 L w
 hi:i<L.length
 len:L.length≤8193
def xx(L:List P11.Tok)(i:Nat)(d a e:Int):PS->Prop
 | .ok r=>r.l=L.drop i/\d=r.deep/\e=0/\Gd r
 | .error x=>a=x.1/\e=x.2/\e≠0
def Ps(bp:Nat)(s:PS)(w:World):Prop:=∃b cap L i d a e,pH bp b cap L i d a e w/\xx L i d a e s
theorem pH.ext{bp b cap:Nat}{L:List P11.Tok}{i:Nat}{d a e:Int}{w w':World}(h:pH bp b cap L i d a e w)(hx:Xk.Ext w w'):pH bp b cap L i d a e w':=
 ⟨(hx.block bp (ae.1 h.blk).1).trans h.blk,h.lo,h.cap,h.toks.ext hx,h.hi,h.len⟩
theorem Ps.ext{bp:Nat}{s:PS}{w w':World}(h:Ps bp s w)(hx:Xk.Ext w w'):Ps bp s w':=by
 obtain⟨b,cap,L,i,d,a,e,h,hs⟩:=h;exact⟨b,cap,L,i,d,a,e,h.ext hx,hs⟩
theorem pH.cells{bp b cap:Nat}{L:List P11.Tok}{i:Nat}{d a e:Int}{w:World}(h:pH bp b cap L i d a e w):bp<w.heap.size/\w.cell? ⟨bp,0,none⟩=some (.slice (some ⟨b,0,none⟩) L.length cap)/\w.cell? ⟨bp,1,none⟩=some (.int .i64 i)/\w.cell? ⟨bp,2,none⟩=some (.int .i64 d)/\w.cell? ⟨bp,3,none⟩=some (.int .i64 a)/\w.cell? ⟨bp,4,none⟩=some (.int .i64 e):=by
 refine⟨(ae.1 h.blk).1,?_,?_,?_,?_,?_⟩<;>simp[ak,h.blk]
theorem pH.frozen{bp b cap:Nat}{L:List P11.Tok}{i:Nat}{d a e:Int}{w:World}(h:pH bp b cap L i d a e w)(o:Nat):w.frozen? ⟨bp,o,none⟩=false:=aD w bp o _ _ h.blk
theorem pH.tok{bp b cap:Nat}{L:List P11.Tok}{i:Nat}{d a e:Int}{w:World}(h:pH bp b cap L i d a e w):∃t,L[i]?=some t/\b<w.heap.size/\w.cell? ⟨b,i*3,none⟩=some (.int .i64 t.kind)/\w.cell? ⟨b,i*3+1,none⟩=some (.string ⟨t.text.toArray⟩)/\w.cell? ⟨b,i*3+2,none⟩=some (.int .i64 t.pos):=by
 refine⟨L[i]'h.hi,aZ _,h.toks.1,?_⟩;have:=h.toks.2 i _ (aZ h.hi);simpa using this
theorem xx.tok{L:List P11.Tok}{i:Nat}{d a e:Int}{r:P12.R}{t:P11.Tok}(h:xx L i d a e (.ok r))(ht:L[i]?=some t):P12.nxt r=t:=by
 obtain⟨h1,-⟩:=h;unfold P12.nxt;rw[h1];simp[D6,List.head?_drop,ht]
theorem E4{L:List P11.Tok}{i:Nat}{d a e:Int}{s:PS}(h:xx L i d a e s):(e==0)=okB s:=by
 cases s with
 | ok r=>simp[okB,h.2.2.1]
 | error x=>simpa[okB]using h.2.2
theorem eK(bp:Nat)(s:PS)(w:World)(h:Ps bp s w):Calls af 26 #[rp bp] w λe w'=>e = .returned (.bool (okB s))/\w=w':=by
 obtain⟨b,cap,L,i,d,a,e,h,hs⟩:=h;obtain⟨l0,c0,c1,c2,c3,c4⟩:=h.cells;have ho:=E4 hs;rw[← ho];clear h hs ho;go_enter Tryz.func26,Tryz.ntmps26;go_wp2_with fail;go_ret;exact⟨rfl,rfl⟩
theorem uM{a b c:Value}{T:TypeId}{W:World}{g:Nat}(h:W.heap[g]?=some (.cells [a,b,c].toArray T)):g<W.heap.size/\W.cell? ⟨g,0,none⟩=some a/\W.cell? ⟨g,1,none⟩=some b/\W.cell? ⟨g,2,none⟩=some c:=by
 refine⟨(ae.1 h).1,?_,?_,?_⟩<;>simp[ak,h]
theorem uL{w:World}{b i:Nat}{x y z:Value}(h0:w.cell? ⟨b,i*3,none⟩=some x)(h1:w.cell? ⟨b,i*3+1,none⟩=some y)(h2:w.cell? ⟨b,i*3+2,none⟩=some z):w.rangeAt b (i*3) [x,y,z]:=λj v hj=>by
 match j,hj with
 | 0,hj=>simp at hj;subst hj;simpa using h0
 | 1,hj=>simp at hj;subst hj;exact h1
 | 2,hj=>simp at hj;subst hj;exact h2
theorem sG{P:Prop}{Q:Nat->World->List Value->Prop}(k:∀g W tl,Q g W tl)(h:(∀g W tl,Q g W tl)->P:=by
 intro k;have KQ:=Lib.hid k;clear k;obtain⟨tl,htl⟩:∃tl:List Value,tl = [.int .i64 t.kind,.string ⟨t.text.toArray⟩,.int .i64 t.pos]:=⟨_,rfl⟩;have htr:=uL t0 t1 t2;rw[← htl]at htr;have HTL:=Lib.hid htl;clear htl;refine Xd.bm (E:=ET w.heap.size (.cells tl.toArray 72)) (eh _ _) 12 (λ_=>none) (λ_ _ h=>by cases h) (λ_ _ _ _ h=>by cases h) [(10,sl 72 3 w.heap.size),(11,ua 72 w.heap.size tl)] au au (Xd.mJ ?_) ?_
 ·intro y hy;simp only[List.mem_cons,List.not_mem_nil,or_false]at hy;rcases hy with rfl|rfl
  ·exact sl.et (by rw[HTL.out];rfl)
  ·exact ua.et
 simp only[List.take_succ_cons,List.take_zero,List.drop_succ_cons,List.drop_zero];(refine Xs.d ?_)
 (refine Xs.d ?_)
 (refine Xs.d ?_)
 (refine Xd.aX (eh _ _) (Xk.aQ az) az (λK hK=>?_);apply Exists.intro;refine⟨λW hx hp=>?_,?_⟩;((have c:=oD hx rfl c0);go_simp;exact⟨rfl,rfl⟩);(go_simp;refine hK _ ?_;clear hK K))
 (refine Xs.d ?_)
 (refine Xs.d ?_)
 (refine Xs.d ?_)
 (refine Xd.aX (eh _ _) (Xk.aQ az) az (λK hK=>?_);apply Exists.intro;refine⟨λW hx hp=>?_,?_⟩;((have c:=oD hx rfl c1);go_simp;exact⟨rfl,rfl⟩);(go_simp;refine hK _ ?_;clear hK K))
 (refine Xs.d ?_)
 refine Xd.ld (eh _ _) 72 b (i*3) tl Tryz.underlying72 (λW hx=>xc hx rfl htr lb) ?_ (hi:=by rw[HTL.out];kernel_rfl);go_simp;(refine Xd.bc (eh _ _) az az (λW hx hp=>?_) (λr1 K hK=>?_);((go_simp;exact xd 72 _ _ hx (Nat.le_refl _) rfl _));(go_simp;refine hK _ ?_;clear hK K))
 (refine Xd.bc (eh _ _) az az (λW hx hp=>?_) (λr2 K hK=>?_);((obtain⟨g,c,rfl,hg,hc,hw⟩:=Xd.bG hp au;exact kz _ _ _ rfl g c _ _ rfl rfl hw (by rw[hc,HTL.out];rfl) (by rw[HTL.out];kernel_rfl) (by rw[HTL.out];kernel_rfl) hg (λW hW g' hg' _=>by cases hg';exact hW)));(go_simp;refine hK _ ?_;clear hK K))
 refine Xd.bD (λW hx hp hG=>?_);obtain⟨f2,f1,-⟩:=hp;obtain⟨g,c,rfl,hg,-,-⟩:=f1;have hT:=f2 g rfl hg;have HXW:=Lib.hid (xa (Below.refl _ _:Xk.Ext w w) hx);rw[HTL.out]at hT;obtain⟨lg,x0,x1,x2⟩:=uM hT;clear f2 hG hT hx htr HTL;revert lg x0 x1 x2 hg HXW
 exact KQ.out g W tl):P:=h k
theorem Kx(bp:Nat)(s:PS)(k:Int)(x:P12.T)(w:World)(h:Ps bp s w):Calls af 168 #[rp bp,.int .i64 k,bs x] w λe w'=>e = .returned (.bool (isK k x s))/\Xk.Ext w w':=by
 have HO:=aa λW (hx:Xk.Ext w W)=>eK bp s W (h.ext hx);obtain⟨b,cap,L,i,d,a,e,h,hs⟩:=h;obtain⟨l0,c0,c1,c2,c3,c4⟩:=h.cells;obtain⟨t,ht,lb,t0,t1,t2⟩:=h.tok;have hi:=h.hi;have hlen:=h.len;have hib:(i:Int)<(L.length:Int):=ab
 have hR:isK k x s=(okB s&&((t.kind==k)&&(t.text==x))):=by
  cases s with
  | ok r=>simp[isK,okB,hs.tok ht]
  | error y=>rfl
 rw[hR];clear hR hs h;generalize okB s=o at HO ⊢;go_enter Tryz.func168,Tryz.ntmps168;go_wp2_with fail;refine sG λg W tl=>?_;intro hg HXW lg x0 x1 x2;go_wp2_with fail;refine(HO.out _ HXW.out).mono ?_;rintro e' W2 ⟨rfl,rfl⟩
 cases o
 ·go_wp2_with fail;go_ret;exact⟨rfl,HXW.out⟩
 ·by_cases hk:t.kind=k
  ·subst hk;go_wp2_with fail;go_ret;exact⟨by simp,HXW.out⟩
  ·have hk':(t.kind==k)=false:=by simpa using hk
   go_wp2_with fail;go_ret;exact⟨by simp[hk'],HXW.out⟩
theorem mH(bp:Nat)(s:PS)(x:P12.T)(w:World)(h:Ps bp s w):Calls af 155 #[rp bp,bs x] w λe w'=>e = .returned (.bool (isK 2 x s))/\Xk.Ext w w':=by
 have HI:=aa (Kx bp s 2 x w h);clear h;go_enter Tryz.func155,Tryz.ntmps155;go_wp2_with (go_at_call 168;with_reducible refine Xk.cl (HI.out) λp=>?_);go_ret;exact⟨rfl,Xk.xt⟩
theorem nu(bp:Nat)(s:PS)(x:P12.T)(w:World)(h:Ps bp s w):Calls af 92 #[rp bp,bs x] w λe w'=>e = .returned (.bool (isK 5 x s))/\Xk.Ext w w':=by
 have HI:=aa (Kx bp s 5 x w h);clear h;go_enter Tryz.func92,Tryz.ntmps92;go_wp2_with (go_at_call 168;with_reducible refine Xk.cl (HI.out) λp=>?_);go_ret;exact⟨rfl,Xk.xt⟩
theorem pH.set{bp b cap:Nat}{L:List P11.Tok}{i i':Nat}{d a e d' a' e':Int}{w:World}(h:pH bp b cap L i d a e w){o:Nat}{v:Value}(hi:i'<L.length)
  (hc:(#[gU (some ⟨b,0,none⟩) L.length cap,.int .i64 i,.int .i64 d,.int .i64 a,.int .i64 e]:Array Value).setIfInBounds o v = #[.slice (some ⟨b,0,none⟩) L.length cap,.int .i64 i',.int .i64 d',.int .i64 a',.int .i64 e']):pH bp b cap L i' d' a' e' (w.setCell ⟨bp,o,none⟩ v):=by
 refine⟨?_,h.lo,h.cap,⟨by rw[aM];exact h.toks.1,λj t hj=>?_⟩,hi,h.len⟩
 ·rw[heap_setCell_same w bp o _ _ v h.blk,hc]
 ·have hne:b≠bp:=Nat.ne_of_lt h.lo;obtain⟨g1,g2,g3⟩:=h.toks.2 j t hj;have hb:(w.setCell ⟨bp,o,none⟩ v).heap[b]?=w.heap[b]?:=an w ⟨bp,o,none⟩ b v (λe=>hne (by simpa using e));refine⟨?_,?_,?_⟩<;>(unfold ak at *;simp only at *;rw[hb];assumption)
theorem iG(bp:Nat)(s:PS)(x:Int)(hx:x≠0)(w:World)(h:Ps bp s w):Calls af 27 #[rp bp,.int .i64 x] w λe w'=>e = .returned (.tuple #[])/\ah bp w w'/\Ps bp (cH x s) w':=by
 obtain⟨b,cap,L,i,d,a,e,h,hs⟩:=h;obtain⟨l0,c0,c1,c2,c3,c4⟩:=h.cells;obtain⟨t,ht,lb,t0,t1,t2⟩:=h.tok;have hi:=h.hi;have hlen:=h.len;have hib:(i:Int)<(L.length:Int):=ab;have f0:=h.frozen 3;have f1:=h.frozen 4;have HH:=aa h;have HS:=aa hs
 cases s with
 | error y=>
  have he:(e==0)=false:=by simpa using hs.2.2
  clear h hs;go_enter Tryz.func27,Tryz.ntmps27;go_wp2_with fail;go_end0
  exact⟨rfl,ah.refl _ _,b,cap,L,i,d,a,e,HH.out,HS.out⟩
 | ok r=>
  have he:(e==0)=true:=by simpa using hs.2.2.1
  clear h hs;go_enter Tryz.func27,Tryz.ntmps27;go_wp2_with fail;refine Xk.reg 14 (Xk.w0 λp=>?_);go_wp2_with fail;go_end0
  have hn:=xx.tok HS.out ht;exact⟨rfl,(tu trivial),b,cap,L,i,d,t.pos,x,((HH.out.set hi rfl).set hi rfl).ext (Xk.cF _ _),by rw[hn],rfl,hx⟩
theorem fL(bp:Nat)(s:PS)(w:World)(h:Ps bp s w):Calls af 93 #[rp bp] w λe w'=>e = .returned (.tuple #[])/\ah bp w w'/\Ps bp (cf s) w':=by
 have HO:=aa λW (hx:Xk.Ext w W)=>eK bp s W (h.ext hx);obtain⟨b,cap,L,i,d,a,e,h,hs⟩:=h;obtain⟨l0,c0,c1,c2,c3,c4⟩:=h.cells;have hi:=h.hi;have hlen:=h.len;have f1:=h.frozen 1;have HH:=aa h;have HS:=aa hs;clear h hs
 cases s with
 | error y=>
  have hO:∀W,Xk.Ext w W->Calls af 26 #[rp bp] W λe w'=>e = .returned (.bool false)/\W=w':=HO.out;have HO:=aa hO;clear hO;go_enter Tryz.func93,Tryz.ntmps93;go_wp2_with fail;refine Xk.reg 15 (Xk.w1 HO.out λp=>?_);go_wp2_with fail;go_end0
  exact⟨rfl,(tu trivial),b,cap,L,i,d,a,e,HH.out.ext Xk.xt,HS.out⟩
 | ok r=>
  have hO:∀W,Xk.Ext w W->Calls af 26 #[rp bp] W λe w'=>e = .returned (.bool true)/\W=w':=HO.out;have HO:=aa hO;clear hO;have hwr:IntKind.i64.wrap ((i:Int)+1)=(i:Int)+1:=pb _ ab;by_cases hl:i+1<L.length
  ·have hlb:(i:Int)+1<(L.length:Int):=ab;go_enter Tryz.func93,Tryz.ntmps93;go_wp2_with fail;refine Xk.reg 15 (Xk.w1 HO.out λp=>?_);go_wp2_with fail;go_end0
   refine⟨rfl,(tu trivial),b,cap,L,i+1,d,a,e,(HH.out.set (i':=i+1) hl aI).ext (Xk.cF _ _),?_⟩;obtain⟨h1,h2,h3,h4⟩:=HS.out;have hk:(P12.nxt r).kind≠0:=P12.Dy h4 (by rw[h1,ez];omega);show xx L (i+1) d a e (.ok (P12.ax r))
   refine⟨?_,by rw[(P12.aO r).deep];exact h2,h3,h4.ax⟩;rw[P12.fj hk,h1,List.tail_drop]
  ·have hlb:¬ (i:Int)+1<(L.length:Int):=ab;go_enter Tryz.func93,Tryz.ntmps93;go_wp2_with fail;refine Xk.reg 15 (Xk.w1 HO.out λp=>?_);go_wp2_with fail;go_end0
   refine⟨rfl,(tu trivial),b,cap,L,i,d,a,e,HH.out.ext Xk.xt,?_⟩;obtain⟨h1,h2,h3,h4⟩:=HS.out;have hk:(P12.nxt r).kind=0:=P12.FZ h4.good (by rw[h1,ez];omega);show xx L i d a e (.ok (P12.ax r))
   rw[P12.ob hk];exact⟨h1,h2,h3,h4⟩
end Go.Proofs.YtkpmclddjkebeaaGreatDoor
namespace P12
def bn(x:T):PS->Bool×PS
 | .error e=>(false,.error e)
 | .ok r=>((has x r).1,.ok (has x r).2)
def bE(x:T):PS->PS
 | .error e => .error e
 | .ok r=>bL x r
def bZ:PS->T×PS
 | .error e=>([],.error e)
 | .ok r=>match name r with
  | .error e=>([],.error e)
  | .ok (x,r')=>(x,.ok r')
def bR:PS->Bool
 | .error _=>false
 | .ok r=>(nxt r).kind==1
theorem Cq(x:T)(s:PS)(b:Bool)(h:∀r,s = .ok r->b=isT x r)(h2:okB s=false->b=false):bn x s=(b,if b=true then cf s else s):=by
 cases s with
 | error e=>rw[h2 rfl];rfl
 | ok r=>
  have:=h r rfl;subst this
  cases hi:isT x r<;>simp[bn,has,hi,cf]
theorem th(x:T)(s:PS):bE x s=if(bn x s).1=true then(bn x s).2 else cH 120 (bn x s).2:=by
 cases s with
 | error e=>rfl
 | ok r=>
  cases hi:isT x r<;>simp[bE,bL,bn,has,hi,cH,bU]
end P12
namespace Go.Proofs.YtkpmclddjkebeaaGreatDoor
open Go.RowKit
open _root_.P12 (PS Gd okB cH isK cf Nx bn bE bZ bR)
theorem Ps.gd{bp:Nat}{r:P12.R}{w:World}(h:Ps bp (.ok r) w):Gd r:=by
 obtain⟨b,cap,L,i,d,a,e,-,h⟩:=h;exact h.2.2.2
theorem fD(bp:Nat)(s:PS)(x:P12.T)(hx:P11.fI.contains x=false)(w:World)(h:Ps bp s w):Calls af 84 #[rp bp,bs x] w λe w'=>e = .returned (.bool (bn x s).1)/\ah bp w w'/\Ps bp (bn x s).2 w':=by
 have hH:=P12.Cq x s (isK 2 x s) (λr hr=>by subst hr;exact P12.gl h.gd hx) (λh=>by cases s<;>first|rfl|cases h);have HI:=aa (mH bp s x w h);have HN:=aa λW (hx:Xk.Ext w W)=>fL bp s W (h.ext hx);have HP:=aa h;rw[hH];clear hH h
 cases hk:isK 2 x s
 ·rw[hk]at HI;go_enter Tryz.func84,Tryz.ntmps84;go_wp2_with (go_at_call 155;with_reducible refine Xk.cl (HI.out) λp=>?_);go_ret;exact⟨rfl,(tu trivial),HP.out.ext Xk.xt⟩
 ·rw[hk]at HI;go_enter Tryz.func84,Tryz.ntmps84;go_wp2_with (go_at_call 155;with_reducible refine Xk.cl (HI.out) λp=>?_);refine(HN.out _ Xk.xt).mono ?_;rintro e w2 ⟨rfl,ht,hp⟩;go_wp2_with fail;go_ret;exact⟨rfl,ah.trans (tu trivial) ht,hp⟩
theorem eW(bp:Nat)(s:PS)(x:P12.T)(hx:P11.words.contains x=false)(w:World)(h:Ps bp s w):Calls af 25 #[rp bp,bs x] w λe w'=>e = .returned (.bool (bn x s).1)/\ah bp w w'/\Ps bp (bn x s).2 w':=by
 have hH:=P12.Cq x s (isK 5 x s) (λr hr=>by subst hr;exact P12.gn h.gd hx) (λh=>by cases s<;>first|rfl|cases h);have HI:=aa (nu bp s x w h);have HN:=aa λW (hx:Xk.Ext w W)=>fL bp s W (h.ext hx);have HP:=aa h;rw[hH];clear hH h
 cases hk:isK 5 x s
 ·rw[hk]at HI;go_enter Tryz.func25,Tryz.ntmps25;go_wp2_with (go_at_call 92;with_reducible refine Xk.cl (HI.out) λp=>?_);go_ret;exact⟨rfl,(tu trivial),HP.out.ext Xk.xt⟩
 ·rw[hk]at HI;go_enter Tryz.func25,Tryz.ntmps25;go_wp2_with (go_at_call 92;with_reducible refine Xk.cl (HI.out) λp=>?_);refine(HN.out _ Xk.xt).mono ?_;rintro e w2 ⟨rfl,ht,hp⟩;go_wp2_with fail;go_ret;exact⟨rfl,ah.trans (tu trivial) ht,hp⟩
theorem iU(bp:Nat)(s:PS)(x:P12.T)(hx:P11.fI.contains x=false)(w:World)(h:Ps bp s w):Calls af 87 #[rp bp,bs x] w λe w'=>e = .returned (.tuple #[])/\ah bp w w'/\Ps bp (bE x s) w':=by
 have HM:=aa (fD bp s x hx w h);rw[P12.th];clear h;generalize bn x s=q at HM ⊢;obtain⟨b,s'⟩:=q;go_enter Tryz.func87,Tryz.ntmps87;go_wp2_with fail;refine HM.out.mono ?_;rintro e w2 ⟨rfl,ht,hp⟩;have HF:=aa (iG bp s' 120 aq w2 hp);have HT:=aa ht;have HP:=aa hp;clear ht hp
 cases b
 ·go_wp2_with fail;refine HF.out.mono ?_;rintro e w3 ⟨rfl,ht,hp⟩;go_wp2_with fail;go_end0
  exact⟨rfl,ah.trans HT.out ht,hp⟩
 ·go_wp2_with fail;go_end0
  exact⟨rfl,HT.out,HP.out⟩
theorem dO(bp:Nat)(s:PS)(x:P12.T)(hx:P11.words.contains x=false)(w:World)(h:Ps bp s w):Calls af 157 #[rp bp,bs x] w λe w'=>e = .returned (.tuple #[])/\ah bp w w'/\Ps bp (bE x s) w':=by
 have HM:=aa (eW bp s x hx w h);rw[P12.th];clear h;generalize bn x s=q at HM ⊢;obtain⟨b,s'⟩:=q;go_enter Tryz.func157,Tryz.ntmps157;go_wp2_with fail;refine HM.out.mono ?_;rintro e w2 ⟨rfl,ht,hp⟩;have HF:=aa (iG bp s' 120 aq w2 hp);have HT:=aa ht;have HP:=aa hp;clear ht hp
 cases b
 ·go_wp2_with fail;refine HF.out.mono ?_;rintro e w3 ⟨rfl,ht,hp⟩;go_wp2_with fail;go_end0
  exact⟨rfl,ah.trans HT.out ht,hp⟩
 ·go_wp2_with fail;go_end0
  exact⟨rfl,HT.out,HP.out⟩
end Go.Proofs.YtkpmclddjkebeaaGreatDoor
namespace P12
def ew(n most:Nat)(s:PS):PS:=if most<n then cH 122 s else s
def dA:PS->PS
 | .error e => .error e
 | .ok r=>opens r
def de:PS->PS
 | .error e => .error e
 | .ok r => .ok (il r)
theorem tf{r:R}:bZ (.ok r)=if(nxt r).kind≠1 then([],cH 120 (.ok r))else if 24<(nxt r).text.length then([],cH 124 (.ok r))else((nxt r).text,cf (.ok r)):=by
 by_cases h1:(nxt r).kind=1
 ·by_cases h2:24<(nxt r).text.length<;>simp[bZ,name,h1,h2,bU,cH,cf]
 ·simp[bZ,name,h1,bU,cH]
end P12
namespace Go.Proofs.YtkpmclddjkebeaaGreatDoor
open Go.RowKit
open _root_.P12 (PS Gd okB cH isK cf Nx bn bE bZ bR ew dA de)
theorem mr(bp:Nat)(s:PS)(w:World)(h:Ps bp s w):Calls af 159 #[rp bp] w λe w'=>e = .returned (.bool (bR s))/\Xk.Ext w w':=by
 have HO:=aa λW (hx:Xk.Ext w W)=>eK bp s W (h.ext hx);obtain⟨b,cap,L,i,d,a,e,h,hs⟩:=h;obtain⟨l0,c0,c1,c2,c3,c4⟩:=h.cells;obtain⟨t,ht,lb,t0,t1,t2⟩:=h.tok;have hi:=h.hi;have hlen:=h.len;have hib:(i:Int)<(L.length:Int):=ab
 cases s with
 | error y=>
  have hO:∀W,Xk.Ext w W->Calls af 26 #[rp bp] W λe w'=>e = .returned (.bool false)/\W=w':=HO.out;have HO:=aa hO;clear hO h hs;go_enter Tryz.func159,Tryz.ntmps159;go_wp2_with fail;refine Xk.reg 17 (Xk.w1 HO.out λp=>?_);go_wp2_with fail;go_ret;exact⟨rfl,Xk.xt⟩
 | ok r=>
  have hO:∀W,Xk.Ext w W->Calls af 26 #[rp bp] W λe w'=>e = .returned (.bool true)/\W=w':=HO.out;have HO:=aa hO;have hn:=hs.tok ht;show Calls _ _ _ _ λe w'=>e = .returned (.bool ((P12.nxt r).kind==1))/\_
  rw[hn];clear hO h hs;go_enter Tryz.func159,Tryz.ntmps159;go_wp2_with fail;refine Xk.reg 17 (Xk.w1 HO.out λp=>?_);go_wp2_with fail;go_ret;exact⟨rfl,Xk.xt⟩
theorem iE(bp:Nat)(s:PS)(w:World)(h:Ps bp s w):Calls af 86 #[rp bp] w λe w'=>e = .returned (bs (bZ s).1)/\ah bp w w'/\Ps bp (bZ s).2 w':=by
 have HI:=aa (mr bp s w h);have HF:=aa λ(x:Int) (hx:x≠0) W (hxw:Xk.Ext w W)=>iG bp s x hx W (h.ext hxw);have HN:=aa λW (hxw:Xk.Ext w W)=>fL bp s W (h.ext hxw);obtain⟨b,cap,L,i,d,a,e,h,hs⟩:=h;obtain⟨l0,c0,c1,c2,c3,c4⟩:=h.cells;obtain⟨t,ht,lb,t0,t1,t2⟩:=h.tok;have hi:=h.hi;have hlen:=h.len;have hib:(i:Int)<(L.length:Int):=ab
 cases hk:bR s
 ·have hq:bZ s=([],cH 120 s):=by
   cases s with
   | error y=>rfl
   | ok r=>rw[P12.tf,if_pos (by simpa[bR]using hk)]
  rw[hk]at HI;rw[hq];clear h hs hq;go_enter Tryz.func86,Tryz.ntmps86;go_wp2_with (go_at_call 159;with_reducible refine Xk.cl (HI.out) λp=>?_);refine(HF.out 120 aq _ Xk.xt).mono ?_;rintro e w2 ⟨rfl,ht,hp⟩;go_wp2_with fail;go_ret;exact⟨rfl,ah.trans (tu trivial) ht,hp⟩
 ·cases s with
  | error y=>cases hk
  | ok r=>
   have hn:=hs.tok ht;have hk1:(P12.nxt r).kind=1:=by simpa[bR]using hk
   rw[hk]at HI;rw[P12.tf,if_neg (by simp[hk1]),hn];clear h hs;by_cases hl:24<t.text.length
   ·rw[if_pos hl];have hlb:(24:Int)<(t.text.length:Int):=ab;go_enter Tryz.func86,Tryz.ntmps86;go_wp2_with (go_at_call 159;with_reducible refine Xk.cl (HI.out) λp=>?_);refine Xk.reg 12 (Xk.w0 λp=>?_);go_wp2_with fail;refine(HF.out 124 aq _ Xk.xt).mono ?_;rintro e w2 ⟨rfl,ht,hp⟩;go_wp2_with fail;go_ret;exact⟨rfl,ah.trans (tu trivial) ht,hp⟩
   ·rw[if_neg hl];have hlb:¬ (24:Int)<(t.text.length:Int):=ab;go_enter Tryz.func86,Tryz.ntmps86;go_wp2_with (go_at_call 159;with_reducible refine Xk.cl (HI.out) λp=>?_);refine Xk.reg 12 (Xk.w0 λp=>?_);go_wp2_with fail;refine(HN.out _ Xk.xt).mono ?_;rintro e w2 ⟨rfl,ht,hp⟩;go_wp2_with fail;go_ret;exact⟨rfl,ah.trans (tu trivial) ht,hp⟩
theorem ki(bp:Nat)(s:PS)(n most:Nat)(w:World)(h:Ps bp s w):Calls af 160 #[rp bp,.int .i64 n,.int .i64 most] w λe w'=>e = .returned (.tuple #[])/\ah bp w w'/\Ps bp (ew n most s) w':=by
 have HF:=aa (iG bp s 122 aq w h);have HP:=aa h;clear h;unfold ew;by_cases hm:most<n
 ·rw[if_pos hm];have hb:(most:Int)<(n:Int):=ab;go_enter Tryz.func160,Tryz.ntmps160;go_wp2_with fail;refine HF.out.mono ?_;rintro e w2 ⟨rfl,ht,hp⟩;go_wp2_with fail;go_end0
  exact⟨rfl,ht,hp⟩
 ·rw[if_neg hm];have hb:¬ (most:Int)<(n:Int):=ab;go_enter Tryz.func160,Tryz.ntmps160;go_wp2_with fail;go_end0
  exact⟨rfl,ah.refl _ _,HP.out⟩
theorem sU(bp:Nat)(s:PS)(w:World)(h:Ps bp s w):Calls af 242 #[rp bp] w λe w'=>e = .returned (.tuple #[])/\ah bp w w'/\Ps bp (dA s) w':=by
 have HF:=aa (iG bp s 121 aq w h);obtain⟨b,cap,L,i,d,a,e,h,hs⟩:=h;obtain⟨l0,c0,c1,c2,c3,c4⟩:=h.cells;have f2:=h.frozen 2;have HH:=aa h;have HS:=aa hs;by_cases hd:d=100
 ·have hq:dA s=cH 121 s:=by
   cases s with
   | error y=>rfl
   | ok r=>
    have h100:r.deep=100:=by have:=hs.2.1;omega
    simp[dA,P12.opens,h100,cH,P12.bU]
  rw[hq];subst hd;clear h hs hq;go_enter Tryz.func242,Tryz.ntmps242;go_wp2_with fail;refine HF.out.mono ?_;rintro e w2 ⟨rfl,ht,hp⟩;go_wp2_with fail;refine ar (uj rfl _ _ _) rfl ?_;exact⟨rfl,ht,hp⟩
 ·have hd':(d==100)=false:=by simpa using hd
  obtain⟨d',hd2⟩:∃d',d'=wrap64 (d+1):=⟨_,rfl⟩
  have hq:xx L i d' a e (dA s):=by
   cases s with
   | error y=>exact hs
   | ok r=>
    obtain⟨h1,h2,h3,h4⟩:=hs;have hle:=h4.good.deep;have hne:r.deep≠100:=ab;rw[show dA (.ok r) = .ok ⟨r.l,r.deep+1⟩ by simp[dA,P12.opens,hne]];refine⟨h1,?_,h3,h4.good.J1 hne,h4.kts⟩;rw[hd2,show wrap64 (d+1)=d+1 by unfold wrap64;omega,h2];rfl
  have HQ:=aa hq;clear h hs hq;go_enter Tryz.func242,Tryz.ntmps242;go_wp2_with fail;go_end0
  rw[← hd2];exact⟨rfl,(tu trivial),b,cap,L,i,d',a,e,HH.out.set HH.out.hi aI,HQ.out⟩
theorem mX(bp:Nat)(s:PS)(w:World)(h:Ps bp s w)(hd:∀r,s = .ok r->0<r.deep):Calls af 243 #[rp bp] w λe w'=>e = .returned (.tuple #[])/\ah bp w w'/\Ps bp (de s) w':=by
 obtain⟨b,cap,L,i,d,a,e,h,hs⟩:=h;obtain⟨l0,c0,c1,c2,c3,c4⟩:=h.cells;have f2:=h.frozen 2;have HH:=aa h;have HS:=aa hs;have hi:=h.hi;obtain⟨d',hd2⟩:∃d',d'=wrap64 (d-1):=⟨_,rfl⟩
 have hq:xx L i d' a e (de s):=by
  cases s with
  | error y=>exact hs
  | ok r=>
   obtain⟨h1,h2,h3,h4⟩:=hs;have hle:=h4.good.deep;have hp:=hd r rfl;refine⟨h1,?_,h3,h4.good.il,h4.kts⟩;rw[hd2,show wrap64 (d-1)=d-1 by unfold wrap64;omega,h2];show((r.deep:Int)-1)=((r.deep-1:Nat):Int)
   omega
 have HQ:=aa hq;clear h hs hq;go_enter Tryz.func243,Tryz.ntmps243;go_wp2_with fail;go_end0
 rw[← hd2];exact⟨rfl,(tu trivial),b,cap,L,i,d',a,e,HH.out.set hi aI,HQ.out⟩
open _root_.P12 (PS Gd okB cH isK cf Nx bn bE bZ bR ew dA de)
theorem Ek(op:Int)(kd o vk vi:Int)(vs tb nm:P12.T)(pp:Option Addr)(pm pc:Nat)(w:World):
  Calls af 270 #[.int .i64 op,.agg (ao kd o vk vi vs tb nm (.slice pp pm pc)).toArray] w (Jn 3 op (ao kd o vk vi vs tb nm (.slice pp pm pc)) w):=by
 have H:=aa (aw ((w.alloc (bu (ao kd o vk vi vs tb nm (.slice pp pm pc)))).alloc (bu (ao 3 op 0 0 [] [] [] (.slice (some ⟨w.heap.size+1+1,0,none⟩) 1 1)))) (bu (ao kd o vk vi vs tb nm (.slice pp pm pc))));go_enter Tryz.func270,Tryz.ntmps270;go_wp2;refine ar (v := .agg (ao 3 op 0 0 [] [] [] (.slice (some ⟨w.heap.size+1+1,0,none⟩) 1 1)).toArray) (by simp[results,Tryz.results270,go_sem]) rfl ⟨w.heap.size+1+1,rfl,by omega,?_,Xk.xt⟩;have:=H.out;simpa only[ag]using this
theorem Jl(op:Int)(kd o vk vi:Int)(vs tb nm:P12.T)(pp:Option Addr)(pm pc:Nat)(kd' o' vk' vi':Int)(vs' tb' nm':P12.T)(pp':Option Addr)(pm' pc':Nat)(w:World):
  Calls af 211 #[.int .i64 op,.agg (ao kd o vk vi vs tb nm (.slice pp pm pc)).toArray,.agg (ao kd' o' vk' vi' vs' tb' nm' (.slice pp' pm' pc')).toArray] w λe w'=>∃g,e = .returned (.agg (ao 4 op 0 0 [] [] [] (.slice (some ⟨g,0,none⟩) 2 2)).toArray)/\w.heap.size≤g/\w'.heap[g]?=some (.cells (ao kd o vk vi vs tb nm (.slice pp pm pc)++ao kd' o' vk' vi' vs' tb' nm' (.slice pp' pm' pc')).toArray 35)/\Xk.Ext w w':=by
 go_enter Tryz.func211,Tryz.ntmps211;go_wp2;refine ar (v := .agg (ao 4 op 0 0 [] [] [] (.slice (some ⟨w.heap.size+1+1+1,0,none⟩) 2 2)).toArray) (by simp[results,Tryz.results211,go_sem]) rfl ⟨w.heap.size+1+1+1,rfl,by omega,?_,Xk.xt⟩;have:=aw (((w.alloc (bu (ao kd o vk vi vs tb nm (.slice pp pm pc)))).alloc (bu (ao kd' o' vk' vi' vs' tb' nm' (.slice pp' pm' pc')))).alloc (bu (ao 4 op 0 0 [] [] [] (.slice (some ⟨w.heap.size+1+1+1,0,none⟩) 2 2)))) (.cells (ao kd o vk vi vs tb nm (.slice pp pm pc)++ao kd' o' vk' vi' vs' tb' nm' (.slice pp' pm' pc')).toArray 35);simp only[ag]at this;exact this
end Go.Proofs.YtkpmclddjkebeaaGreatDoor
namespace P12
open P11 (digit)
theorem oC:∀ (l:T) (a:Nat),l.foldl (λa c=>10*a+(c.toNat-48)) a=a*10 ^ l.length+dec l
 | [],a=>by simp[dec]
 | c::l,a=>by
  unfold dec;rw[List.foldl_cons,List.foldl_cons,oC l,oC l,aW,Nat.pow_succ];simp only[Ea,Nat.mul_zero,eF];have:a*(10 ^ l.length*10)=(10*a)*10 ^ l.length:=by rw[Nat.mul_comm 10 a,Nat.mul_assoc,Nat.mul_comm 10]
  omega
theorem nN(c:UInt8)(l:T):dec (c::l)=(c.toNat-48)*10 ^ l.length+dec l:=by
 have:=oC l (10*0+(c.toNat-48));simpa[dec]using this
theorem kF{c:UInt8}(h:digit c=true):48≤c.toNat/\c.toNat≤57:=by
 simp only[digit,aT,decide_eq_true_eq,fp]at h;exact⟨h.1,h.2⟩
theorem dec_lt:∀ (l:T),(∀c∈l,digit c=true)->dec l<10 ^ l.length
 | [],_=>by simp[dec]
 | c::l,h=>by
  have h1:=dec_lt l λx hx=>h x (by simp[hx]);have h2:=kF (h c aI);rw[nN,aW,Nat.pow_succ];have:(c.toNat-48)*10 ^ l.length≤9*10 ^ l.length:=fe _ ab
  omega
theorem zz:∀ (s m:T),s.length=m.length->(∀c∈s,digit c=true)->(∀c∈m,digit c=true)->(kH s m||s==m)=decide (dec s≤dec m)
 | [],[],_,_,_=>by simp[kH]
 | [],_::_,h,_,_=>by simp at h
 | _::_,[],h,_,_=>by simp at h
 | a::s,b::m,h,hs,hm=>by
  have hl:s.length=m.length:=by simpa using h
  have ih:=zz s m hl (λx hx=>hs x (by simp[hx])) (λx hx=>hm x (by simp[hx]));have ls:=dec_lt s λx hx=>hs x (by simp[hx]);have lm:=dec_lt m λx hx=>hm x (by simp[hx]);have da:=kF (hs a aI);have db:=kF (hm b aI);rw[nN,nN,hl];rw[hl]at ls;by_cases hab:a=b
  ·subst hab;have:(a::s==a::m)=(s==m):=aI
   rw[kH,this];simp only[UInt8.lt_irrefl,decide_false,im,beq_self_eq_true,sB];rw[ih,decide_eq_decide];omega
  ·have hne:a.toNat≠b.toNat:=λe=>hab (jL.1 e);have e1:(a::s==b::m)=false:=by simp[hab]
   have e2:(a==b)=false:=by simpa using hab
   rw[kH,e1,e2,Bool.false_and,mh,mh,decide_eq_decide,UInt8.lt_iff_toNat_lt];constructor
   ·intro hlt;have:(a.toNat-48+1)*10 ^ m.length≤(b.toNat-48)*10 ^ m.length:=fe _ ab
    rw[Ea]at this;omega
   ·intro hle;refine Nat.lt_of_not_le λhge=>?_;have:(b.toNat-48+1)*10 ^ m.length≤(a.toNat-48)*10 ^ m.length:=fe _ ab
    rw[Ea]at this;omega
def Ct(s m:T):Bool:=decide (s.length<m.length)||(s.length==m.length&&(kH s m||s==m))
theorem zj{c:UInt8}{s:T}{k:UInt8}{m:T}(h0:s ≠ []->c≠48)(hs:∀x∈c::s,digit x=true)(hm:∀x∈k::m,digit x=true)(hk:k≠48)(h1:1≤m.length):Ct (c::s) (k::m)=decide (dec (c::s)≤dec (k::m)):=by
 have dk:=kF (hm k aI);have hk':k.toNat≠48:=λe=>hk (jL.1 e);have ls:=dec_lt (c::s) hs;have lm:=dec_lt (k::m) hm;have gm:1*10 ^ m.length≤(k.toNat-48)*10 ^ m.length:=fe _ ab;unfold Ct;rcases Nat.lt_trichotomy (c::s).length (k::m).length with h|h|h
 ·rw[decide_eq_true h,lu,eq_comm,decide_eq_true_eq];have:10 ^ (c::s).length≤10 ^ m.length:=Nat.pow_le_pow_right ab (by simp only[aW]at h ⊢;omega)
  rw[nN k m];omega
 ·rw[show decide ((c::s).length<(k::m).length)=false by simp only[decide_eq_false_iff_not];omega,im,show((c::s).length==(k::m).length)=true by simpa using h,sB];exact zz _ _ h hs hm
 ·rw[show decide ((c::s).length<(k::m).length)=false by simp only[decide_eq_false_iff_not];omega,im,show((c::s).length==(k::m).length)=false by rw[beq_eq_false_iff_ne];omega,Bool.false_and,eq_comm,decide_eq_false_iff_not];have hs0:s ≠ []:=λe=>by subst e;simp only[aW,mc]at h;omega
  have hc:c.toNat≠48:=λe=>h0 hs0 (jL.1 e);have dc:=kF (hs c aI);have gs:1*10 ^ s.length≤(c.toNat-48)*10 ^ s.length:=fe _ ab;have:10 ^ (k::m).length≤10 ^ s.length:=Nat.pow_le_pow_right ab (by simp only[aW]at h ⊢;omega)
  rw[nN c s];omega
abbrev yL:T := [57,50,50,51,51,55,50,48,51,54,56,53,52,55,55,53,56,48,55]
abbrev Fo:T := [57,50,50,51,51,55,50,48,51,54,56,53,52,55,55,53,56,48,56]
theorem nG{t:P11.Tok}(h:P11.good (P11.kt t))(hk:t.kind=3):∃c s,t.text=c::s/\(s ≠ []->c≠48)/\∀x∈c::s,digit x=true:=by
 rcases h with⟨k,-⟩|⟨k,-⟩|⟨-,h1,h2,h3⟩|⟨k,-⟩|⟨k,-⟩<;>try(simp only[P11.kt]at k;omega)
 simp only[P11.kt]at h1 h2 h3
 cases ht:t.text with
 | nil=>exact absurd ht h1
 | cons c s=>
  rw[ht]at h2 h3;refine⟨c,s,rfl,λhs e=>?_,λx hx=>ft.1 h2 x hx⟩
  cases s with
  | nil=>exact hs rfl
  | cons d s=>
   subst e;rw[P11.numOf,if_pos rfl]at h3;have:=P11.qP (d::s);rw[h3]at this;simp only[aW]at this;omega
theorem Jh{t:P11.Tok}(h:P11.good (P11.kt t))(hk:t.kind=3):Ct t.text yL=decide (dec t.text≤9223372036854775807):=by
 obtain⟨c,s,e,h0,hd⟩:=nG h hk;rw[e];exact zj h0 hd aq aq aq
theorem Kz{t:P11.Tok}(h:P11.good (P11.kt t))(hk:t.kind=3):Ct t.text Fo=decide (dec t.text≤9223372036854775808):=by
 obtain⟨c,s,e,h0,hd⟩:=nG h hk;rw[e];exact zj h0 hd aq aq aq
end P12
namespace Go.Proofs.YtkpmclddjkebeaaGreatDoor
open Go.RowKit
open _root_.P12 (PS Gd okB cH isK cf Nx bn bE bZ bR ew dA de)
theorem Bo(s m:P12.T)(w:World):Calls af 213 #[bs s,bs m] w λe w'=>e = .returned (.bool (decide (s.length<m.length)||(s.length==m.length&&(Op.bytesLess s m||s==m))))/\w=w':=by
 by_cases h1:(s.length:Int)<(m.length:Int)
 ·rw[show decide (s.length<m.length)=true by simpa using h1];go_enter Tryz.func213,Tryz.ntmps213;go_wp2;go_ret;exact⟨rfl,rfl⟩
 ·rw[show decide (s.length<m.length)=false by simpa using h1];by_cases h2:(s.length:Int)=(m.length:Int)
  ·go_enter Tryz.func213,Tryz.ntmps213;go_wp2;go_ret;exact⟨by rw[show(s.length==m.length)=true by simpa using(by omega:s.length=m.length)];rfl,rfl⟩
  ·have h3:(s.length==m.length)=false:=by simpa using(by omega:s.length≠m.length)
   have h4:(((s.length:Int))==((m.length:Int)))=false:=by rw[beq_eq_false_iff_ne];exact h2
   rw[h3];go_enter Tryz.func213,Tryz.ntmps213;go_wp2;go_ret;exact⟨rfl,rfl⟩
end Go.Proofs.YtkpmclddjkebeaaGreatDoor
namespace P12
def nc(t:P11.Tok):Bool:=t.kind==1||t.kind==3||t.kind==4||(t.kind==5&&(t.text == [40]||t.text == [45]))||(t.kind==2&&(t.text == [78,79,84]||t.text == [84,82,85,69]||t.text == [70,65,76,83,69]||t.text == [78,85,76,76]||t.text == [67,79,85,78,84]||t.text == [83,85,77]||t.text == [77,73,78]||t.text == [77,65,88]))
def kk(t:P11.Tok):Int:=if t.kind=1/\24<t.text.length then 124 else if t.kind=3/\¬ dec t.text≤9223372036854775807 then 123 else 0
end P12
namespace Go.Proofs.YtkpmclddjkebeaaGreatDoor
open Go.RowKit
open _root_.P12 (PS Gd okB cH isK cf Nx bn bE bZ bR ew dA de)
theorem Gl(bp b cap:Nat)(L:List P11.Tok)(i:Nat)(d a e:Int)(w:World)(h:pH bp b cap L i d a e w)(t:P11.Tok)(ht:L[i]?=some t):Calls af 212 #[rp bp] w λe w'=>e = .returned (.bool (P12.nc t))/\Xk.Ext w w':=by
 obtain⟨l0,c0,c1,c2,c3,c4⟩:=h.cells;obtain⟨t',ht',lb,t0,t1,t2⟩:=h.tok;have htt:t'=t:=by rw[ht]at ht';exact(iy ht').symm
 rw[htt]at t0 t1 t2;have hi:=h.hi;have hlen:=h.len;have hib:(i:Int)<(L.length:Int):=ab;clear h ht ht' htt;clear t';obtain⟨R,hR⟩:∃R,R=P12.nc t:=⟨_,rfl⟩;rw[← hR];have HR:=aa hR;clear hR;go_enter Tryz.func212,Tryz.ntmps212;go_wp2_with fail;refine sG λg W tl=>?_;intro hg HXW lg x0 x1 x2
 have HC:t.kind=1∨t.kind=2∨t.kind=3∨t.kind=4∨t.kind=5∨((t.kind==1)=false/\(t.kind==2)=false/\(t.kind==3)=false/\(t.kind==4)=false/\(t.kind==5)=false):=by
  simp only[beq_eq_false_iff_ne];omega
 rcases HC with h1|h1|h1|h1|h1|⟨h1,h2,h3,h4,h5⟩
 iterate 5
  ·rw[h1]at x0;go_wp2_with fail
   all_goals
    go_ret;exact⟨by rw[HR.out];simp_all [P12.nc],HXW.out⟩
 go_wp2_with fail
 all_goals
  go_ret;exact⟨by rw[HR.out];simp_all [P12.nc],HXW.out⟩
theorem I3(bp b cap:Nat)(L:List P11.Tok)(i:Nat)(d a e:Int)(w:World)(h:pH bp b cap L i d a e w)(t:P11.Tok)(ht:L[i]?=some t)(hg:t.kind=0∨P11.good (P11.kt t)):Calls af 166 #[rp bp] w λe w'=>e = .returned (.int .i64 (P12.kk t))/\Xk.Ext w w':=by
 obtain⟨l0,c0,c1,c2,c3,c4⟩:=h.cells;obtain⟨t',ht',lb,t0,t1,t2⟩:=h.tok;have htt:t'=t:=by rw[ht]at ht';exact(iy ht').symm
 rw[htt]at t0 t1 t2;have hi:=h.hi;have hlen:=h.len;have hib:(i:Int)<(L.length:Int):=ab;clear h ht ht' htt;clear t';obtain⟨R,hR⟩:∃R,R=P12.kk t:=⟨_,rfl⟩;rw[← hR];have HR:=aa hR;have HG:=aa hg;clear hR hg;go_enter Tryz.func166,Tryz.ntmps166;go_wp2_with fail;refine sG λg W tl=>?_;intro hg HXW lg x0 x1 x2;by_cases h1:t.kind=1
 ·rw[h1]at x0;go_wp2_with fail
  all_goals
   go_ret;exact⟨by rw[HR.out];simp_all [P12.kk];try omega,HXW.out⟩
 by_cases h3:t.kind=3
 ·have hf:=P12.Jh (HG.out.resolve_left ab) h3
  have HF:∀W,Calls af 213 #[bs t.text,bs P12.yL] W λe w'=>e = .returned (.bool (decide (P12.dec t.text≤9223372036854775807)))/\W=w':=λW=>by
   have h:=Bo t.text P12.yL W;rw[← hf];exact h
  have HF:=aa HF;rw[h3]at x0;clear hf;go_wp2_with fail;refine(HF.out _).mono ?_;rintro e' W2 ⟨rfl,rfl⟩;by_cases hd:P12.dec t.text≤9223372036854775807
  ·rw[decide_eq_true hd];go_wp2_with fail;go_ret;exact⟨by rw[HR.out];simp[P12.kk,h3,hd],HXW.out⟩
  ·rw[decide_eq_false hd];go_wp2_with fail;go_ret;exact⟨by rw[HR.out];simp[P12.kk,h3,hd],HXW.out⟩
 have k1:(t.kind==1)=false:=by simpa using h1
 have k2:(t.kind==3)=false:=by simpa using h3
 go_wp2_with fail
 all_goals
  go_ret;exact⟨by rw[HR.out];simp_all [P12.kk],HXW.out⟩
end Go.Proofs.YtkpmclddjkebeaaGreatDoor
namespace P12
def cB(n most:Nat):PS->PS
 | .error e => .error e
 | .ok r=>if n≤most then .ok r else if nc (nxt r)=false then cH 120 (.ok r)else if kk (nxt r)≠0 then cH (kk (nxt r)) (.ok r)else cH 122 (.ok r)
end P12
namespace Go.Proofs.YtkpmclddjkebeaaGreatDoor
open Go.RowKit
open _root_.P12 (PS Gd okB cH isK cf Nx bn bE bZ bR ew dA de cB)
theorem qY(bp:Nat)(s:PS)(n most:Nat)(w:World)(h:Ps bp s w):Calls af 163 #[rp bp,.int .i64 n,.int .i64 most] w λe w'=>e = .returned (.tuple #[])/\ah bp w w'/\Ps bp (cB n most s) w':=by
 have HO:=aa (eK bp s w h);have HP:=aa h
 cases s with
 | error y=>
  have hO:Calls af 26 #[rp bp] w λe w'=>e = .returned (.bool false)/\w=w':=HO.out;have HO:=aa hO;clear hO h;go_enter Tryz.func163,Tryz.ntmps163;go_wp2_with fail;refine HO.out.mono ?_;rintro e w2 ⟨rfl,rfl⟩;go_wp2_with fail;refine ar (uj rfl _ _ _) rfl ?_;exact⟨rfl,ah.refl _ _,HP.out⟩
 | ok r=>
  have hO:Calls af 26 #[rp bp] w λe w'=>e = .returned (.bool true)/\w=w':=HO.out;have HO:=aa hO;have HF:=aa λ(x:Int) (hx:x≠0) W (hxw:Xk.Ext w W)=>iG bp (.ok r) x hx W (h.ext hxw);have hgd:=h.gd;obtain⟨b,cap,L,i,d,a,e,h,hs⟩:=h;obtain⟨t,ht,-⟩:=h.tok;have hn:=hs.tok ht;have HB:=aa λW (hxw:Xk.Ext w W)=>Gl bp b cap L i d a e W (h.ext hxw) t ht;have HW:=aa λW (hxw:Xk.Ext w W)=>I3 bp b cap L i d a e W (h.ext hxw) t ht (by rw[← hn];exact hgd.nxt)
  have hE:cB n most (.ok r)=if n≤most then .ok r else if P12.nc t=false then cH 120 (.ok r)else if P12.kk t≠0 then cH (P12.kk t) (.ok r)else cH 122 (.ok r):=by rw[← hn];rfl
  rw[hE];clear hE h hs hO ht hn hgd;by_cases hm:n≤most
  ·have hmb:(n:Int)≤(most:Int):=ab;rw[if_pos hm];go_enter Tryz.func163,Tryz.ntmps163;go_wp2_with fail;refine HO.out.mono ?_;rintro e w2 ⟨rfl,rfl⟩;go_wp2_with fail;refine ar (uj rfl _ _ _) rfl ?_;exact⟨rfl,ah.refl _ _,HP.out⟩
  ·have hmb:¬ (n:Int)≤(most:Int):=ab;rw[if_neg hm]
   cases hb:P12.nc t
   ·rw[if_pos rfl];rw[hb]at HB;go_enter Tryz.func163,Tryz.ntmps163;go_wp2_with fail;refine HO.out.mono ?_;rintro e w2 ⟨rfl,rfl⟩;go_wp2_with (go_at_call 212;with_reducible refine Xk.cl (HB.out _ Xk.xt) λp=>?_);refine(HF.out 120 aq _ Xk.xt).mono ?_;rintro e w2 ⟨rfl,ht,hp⟩;go_wp2_with fail;refine ar (uj rfl _ _ _) rfl ?_;exact⟨rfl,ah.trans (tu trivial) ht,hp⟩
   ·rw[if_neg aI];rw[hb]at HB;by_cases ho:P12.kk t=0
    ·rw[if_neg (by simpa using ho)];rw[ho]at HW;go_enter Tryz.func163,Tryz.ntmps163;go_wp2_with fail;refine HO.out.mono ?_;rintro e w2 ⟨rfl,rfl⟩;go_wp2_with (first|(go_at_call 212;with_reducible refine Xk.cl (HB.out _ Xk.xt) λp=>?_)|(go_at_call 166;with_reducible refine Xk.cl (HW.out _ Xk.xt) λp=>?_));refine(HF.out 122 aq _ Xk.xt).mono ?_;rintro e w2 ⟨rfl,ht,hp⟩;go_wp2_with fail;go_end0
     exact⟨rfl,ah.trans (tu trivial) ht,hp⟩
    ·rw[if_pos ho];have hob:(P12.kk t==0)=false:=by simpa using ho
     go_enter Tryz.func163,Tryz.ntmps163;go_wp2_with fail;refine HO.out.mono ?_;rintro e w2 ⟨rfl,rfl⟩;go_wp2_with (first|(go_at_call 212;with_reducible refine Xk.cl (HB.out _ Xk.xt) λp=>?_)|(go_at_call 166;with_reducible refine Xk.cl (HW.out _ Xk.xt) λp=>?_));refine(HF.out _ ho _ Xk.xt).mono ?_;rintro e w2 ⟨rfl,ht,hp⟩;go_wp2_with fail;refine ar (uj rfl _ _ _) rfl ?_;exact⟨rfl,ah.trans (tu trivial) ht,hp⟩
end Go.Proofs.YtkpmclddjkebeaaGreatDoor
namespace P12
theorem vD(s:PS):Nx column s (if(bn [46] (bZ s).2).1=true then .col (bZ s).1 (bZ (bn [46] (bZ s).2).2).1 else .col [] (bZ s).1) (if(bn [46] (bZ s).2).1=true then(bZ (bn [46] (bZ s).2).2).2 else(bn [46] (bZ s).2).2):=by
 cases s with
 | error e=>rfl
 | ok r=>
  cases hn:name r with
  | error e=>simp[Nx,column,bZ,hn,bn]
  | ok p=>
   obtain⟨a,r1⟩:=p
   cases hi:isT [46] r1
   ·simp[Nx,column,bZ,hn,bn,has,hi]
   ·cases hm:name (ax r1)with
    | error e=>simp[Nx,column,bZ,hn,bn,has,hi,hm]
    | ok q=>simp[Nx,column,bZ,hn,bn,has,hi,hm]
end P12
namespace Go.Proofs.YtkpmclddjkebeaaGreatDoor
open Go.RowKit
open _root_.P12 (PS Gd okB cH isK cf Nx bn bE bZ bR ew dA de cB)
def Comes{α:Type}(bp:Nat)(w0:World)(s:PS)(V:Value->α->World->Prop)(F:P12.R->Except P12.Er (α×P12.R))(e:Ending)(w':World):Prop:=
 ∃v x s',e = .returned v/\V v x w'/\ah bp w0 w'/\Ps bp s' w'/\Nx F s x s'
theorem Ps.lt{bp:Nat}{s:PS}{w:World}(h:Ps bp s w):bp<w.heap.size:=by
 obtain⟨b,cap,L,i,d,a,e,h,-⟩:=h;exact h.cells.1
theorem Ps.setCell{bp:Nat}{s:PS}{w:World}(h:Ps bp s w){g:Nat}(hg:bp<g)(o:Nat)(u:Value):Ps bp s (w.setCell ⟨g,o,none⟩ u):=by
 obtain⟨b,cap,L,i,d,a,e,h,hs⟩:=h;have lo:=h.lo;have hb:∀k,k≠g->(w.setCell ⟨g,o,none⟩ u).heap[k]?=w.heap[k]?:=λk hk=>an w ⟨g,o,none⟩ k u (λe=>hk (by simpa using e));refine⟨b,cap,L,i,d,a,e,⟨(hb bp ab).trans h.blk,h.lo,h.cap,⟨by rw[aM];exact h.toks.1,λj t hj=>?_⟩,h.hi,h.len⟩,hs⟩;obtain⟨g1,g2,g3⟩:=h.toks.2 j t hj;have hbb:=hb b ab;refine⟨?_,?_,?_⟩<;>(unfold ak at *;simp only at *;rw[hbb];assumption)
theorem Ps.setCells{bp:Nat}{s:PS}{g:Nat}(hg:bp<g):∀ (vs:List Value) (o:Nat) {w:World},Ps bp s w->Ps bp s (w.setCells g o vs)
 | [],_,_,h=>h
 | v::vs,o,_,h=>Ps.setCells hg vs (o+1) (Ps.setCell h hg o v)
theorem Ps.drew{bp:Nat}{s:PS}{w:World}(h:Ps bp s w):Ps bp s w.drew:=h.ext ((al _ _).drew)
theorem psx{A P:Prop}(a:A)(h:A->P:=by intro a;repeat(first|with_reducible exact a|((with_reducible refine Ps.setCell ?_ ?_ _ _);rotate_left;exact Go.Xk.sz)|((with_reducible refine Ps.setCells ?_ _ _ ?_);exact Go.Xk.sz)|(with_reducible refine Ps.drew ?_))):P:=h a
theorem zA(br:Nat)(s:PS)(w:World)(h:Ps br s w):Calls af 165 #[rp br] w (Comes br w s (eN w) P12.column):=by
 have HX:=aa (P12.vD s);have HN:=aa λW (hx:Xk.Ext w W)=>iE br s W (h.ext hx);have lr:=h.lt;clear h;generalize bZ s=q at HX HN;obtain⟨a,s1⟩:=q;dsimp only at HX HN;go_enter Tryz.func165,Tryz.ntmps165;go_wp2_with fail;go_at_call 86;refine(HN.out _ Xk.xt).mono ?_;rintro e w1 ⟨rfl,ht,hr1⟩;have hsz:=ht.size;simp only[ag]at hsz;have HR1:=aa hr1;have hz1:w1.heap[w.heap.size]?=some (bu df.toList):=ht.held (aw w _) ab;have HT:Hid (ah br w w1):=aa (ah.trans (tu trivial) ht);clear ht hr1;go_wp2_with fail;go_at_call 25;refine(eW br s1 [46] aq _ (HR1.out.ext Xk.xt)).mono ?_;generalize hq:bn [46] s1=q2
 obtain⟨c,s2⟩:=q2;rw[hq]at HX;rintro e w2 ⟨rfl,ht2,hr2⟩;have HC3:=aa (ht2.held (aw w1 (bu (ao 2 0 0 0 [] [] a aj))) ab);have HZ2:=aa (ht2.held ((ah.alloc (ah.refl br w1) _).held hz1 ab) ab);have hsz2:=ht2.size;simp only[ag]at hsz2;have HR2:=aa hr2;have HT2:Hid (ah br w w2):=aa (ah.trans (tu HT.out) ht2);clear ht2 hr2 hz1
 cases c
 ·obtain⟨c0,c1,c2,c3,c4,c5,c6,c7,c8,c9⟩:=bA HC3.out;simp only[aS,if_false]at HX;have lRet:=(ae.1 HZ2.out).1;obtain⟨d0,d1,d2,d3,d4,d5,d6,d7,d8,d9⟩:=bA HZ2.out;obtain⟨f0,f1,f2,f3,f4,f5,f6,f7,f8,f9⟩:=dH HZ2.out;go_wp2;refine ar (v := .agg (ao 2 0 0 0 [] [] a aj).toArray) (by simp[results,Tryz.results165,go_sem,d0,d1,d2,d3,d4,d5,d6,d7,d8,d9]) rfl ⟨_,_,s2,rfl,⟨_,rfl,?_⟩,?_,?_,HX.out⟩
  ·exact(aC.sets (g:=w.heap.size) (S:=λb=>w.heap.size<b) (show aC (λb=>w.heap.size<b) _ (.col [] a) _ from rfl) ab (ao 2 0 0 0 [] [] a aj) 0).mono (λb hb _=>by omega)
  ·exact ah.setCells (g:=w.heap.size) (.inl ab) (ao 2 0 0 0 [] [] a aj) 0 HT2.out
  ·exact Ps.setCells (g:=w.heap.size) ab (ao 2 0 0 0 [] [] a aj) 0 HR2.out
 ·simp only[if_true]at HX;generalize hq3:bZ s2=q3;obtain⟨b,s3⟩:=q3;rw[hq3]at HX;obtain⟨c0,c1,c2,c3,c4,c5,c6,c7,c8,c9⟩:=bA HC3.out;obtain⟨g0,g1,g2,g3,g4,g5,g6,g7,g8,g9⟩:=dH HC3.out;have lC:=(ae.1 HC3.out).1;go_wp2_with fail;go_at_call 86;refine(iE br s2 _ (psx HR2.out)).mono ?_;rw[hq3];rintro e w3 ⟨rfl,hx,hr3⟩;clear c0 c1 c2 c3 c4 c5 c6 c7 c8 c9 g0 g1 g2 g3 g4 g5 g6 g7 g8 g9;have hcW:w3.heap[w1.heap.size]?=some (bu (ao 2 0 0 0 [] a a aj)):=hx.held ((heap_setCell_same w2 w1.heap.size 5 _ _ (bs a) HC3.out)) ab
  have hzW:=hx.held ((an w2 ⟨w1.heap.size,5,none⟩ w.heap.size (bs a) (by simp;omega)).trans HZ2.out) ab;have hxW:ah br w w3:=ah.trans (tu HT2.out) hx;obtain⟨c0,c1,c2,c3,c4,c5,c6,c7,c8,c9⟩:=bA hcW;obtain⟨g0,g1,g2,g3,g4,g5,g6,g7,g8,g9⟩:=dH hcW;have lC:=(ae.1 hcW).1;have lRet:=(ae.1 (hzW)).1;obtain⟨d0,d1,d2,d3,d4,d5,d6,d7,d8,d9⟩:=bA (hzW);obtain⟨f0,f1,f2,f3,f4,f5,f6,f7,f8,f9⟩:=dH (hzW);have HTW:=aa hxW;have HR3:=aa hr3;have hne:¬ w1.heap.size=w.heap.size:=ab;have hne2:¬ w.heap.size=w1.heap.size:=ab;clear hx hxW hcW hzW hr3;go_wp2_with fail
  refine ar (v := .agg (ao 2 0 0 0 [] a b aj).toArray) (by simp[results,Tryz.results165,go_sem,hne,hne2,d0,d1,d2,d3,d4,d5,d6,d7,d8,d9]) rfl ⟨_,_,s3,rfl,⟨_,rfl,?_⟩,?_,?_,HX.out⟩
  ·exact(aC.sets (g:=w.heap.size) (S:=λb=>w.heap.size<b) (show aC (λb=>w.heap.size<b) _ (.col a b) _ from rfl) ab (ao 2 0 0 0 [] a b aj) 0).mono (λb hb _=>by omega)
  ·exact ah.setCells (g:=w.heap.size) (.inl ab) (ao 2 0 0 0 [] a b aj) 0 (tu HTW.out)
  ·exact Ps.setCells (g:=w.heap.size) ab (ao 2 0 0 0 [] a b aj) 0 (psx HR3.out)
end Go.Proofs.YtkpmclddjkebeaaGreatDoor
namespace P12
theorem Gb(s:T)(k:Nat):dec (s.take k)≤dec s:=by
 have h:dec s=(s.drop k).foldl (λa c=>10*a+(c.toNat-48)) (dec (s.take k)):=by
  conv=>lhs;rw[← List.take_append_drop k s]
  unfold dec;rw[List.foldl_append]
 rw[h,oC];exact bI (Nat.le_mul_of_pos_right _ (Nat.pow_pos ab)) (Nat.le_add_right _ _)
theorem uB(s:T)(k:Nat)(h:k<s.length):dec (s.take (k+1))=10*dec (s.take k)+(s[k].toNat-48):=by
 rw[uF h];unfold dec;rw[List.foldl_append];rfl
end P12
namespace Go.Proofs.YtkpmclddjkebeaaGreatDoor
open Go.RowKit
open _root_.P12 (PS Gd okB cH isK cf Nx bn bE bZ bR ew dA de cB)
theorem KR(s:P12.T)(w:World):Calls af 298 #[bs s] w λe w'=>e = .returned (.int .i64 ((P12.lZ s).getD 0))/\w=w':=by
 obtain⟨R,hR⟩:∃R,R=(P12.lZ s).getD 0:=⟨_,rfl⟩;rw[← hR];have HR:=aa hR;clear hR;go_enter Tryz.func298,Tryz.ntmps298;go_wp2_with fail
 all_goals
  go_ret;exact⟨by rw[HR.out];simp_all [P12.lZ],rfl⟩
theorem qi(s:P12.T)(w:World)(hl:s.length≤1000000):Calls af 167 #[bs s] w λe w'=>∃n:Int,e = .returned (.int .u64 n)/\((∀c∈s,P11.digit c=true)->P12.dec s≤9223372036854775808->n=P12.dec s)/\w=w':=by
 go_enter Tryz.func167,Tryz.ntmps167;go_wp2;go_loopw [3,4] (λx y wr=>∃ (q:Nat) (n:Int),q≤s.length/\y = .int .i64 q/\x = .int .u64 n/\((∀c∈s,P11.digit c=true)->P12.dec s≤9223372036854775808->n=P12.dec (s.take q))/\w=wr) (λ_ y _=>s.length-(intOf y).toNat)
 case atStart=>exact⟨0,0,by omega,rfl,rfl,λ_ _=>rfl,rfl⟩
 case round=>
  obtain⟨q,n,hq,rfl,rfl,hn,rfl⟩:=hrel;by_cases hlt:q<s.length
  ·have hqb:(q:Int)<(s.length:Int):=ab;go_wp2;refine⟨⟨q+1,_,by omega,by simp,rfl,λh1 h2=>?_,trivial⟩,by simp[intOf];omega⟩;have hd:=P12.kF (h1 _ (i6 hlt));have h3:=P12.Gb s (q+1);have h4:=P12.uB s q hlt;have h5:=hn h1 h2;have h6:(({ data:=s.toArray }:ByteArray)[q]'(show q<s.length from hlt))=s[q]:=rfl;rw[h6];generalize s[q]=c at *
   have e1:((c.toNat:Int)-48) % 256=(c.toNat:Int)-48:=ab;rw[e1,h5];rw[IntWalk.u64_in (10*_) ab,IntWalk.u64_in _ ab];omega
  ·have hqb:¬ (q:Int)<(s.length:Int):=ab;go_wp2;go_ret;exact⟨n,rfl,λh1 h2=>by have:=hn h1 h2;rwa [List.take_of_length_le ab]at this,rfl⟩
end Go.Proofs.YtkpmclddjkebeaaGreatDoor
namespace P12
def cmpL:List T := [[61],[60,62],[60],[60,61],[62],[62,61]]
def rh(s:T):Int:=if s = [61]then 3 else if s = [60,62]then 4 else if s = [60]then 5 else if s = [60,61]then 6 else if s = [62]then 7 else if s = [62,61]then 8 else 0
end P12
namespace Go.Proofs.YtkpmclddjkebeaaGreatDoor
open Go.RowKit
open _root_.P12 (PS Gd okB cH isK cf Nx bn bE bZ bR ew dA de cB)
theorem Jk(s:P12.T)(w:World):Calls af 285 #[bs s] w λe w'=>e = .returned (.int .i64 (P12.rh s))/\Xk.Ext w w':=by
 go_enter Tryz.func285,Tryz.ntmps285;go_wp2;go_loopw [4] (λy wr=>∃q:Nat,q≤6/\y = .int .i64 q/\(∀j x,j<q->P12.cmpL[j]?=some x->s≠x)/\Xk.Ext w wr/\w.heap.size<wr.heap.size/\(∀j x,P12.cmpL[j]?=some x->wr.cell? ⟨w.heap.size,j,none⟩=some (.string ⟨x.toArray⟩))) (λy _=>6-(intOf y).toNat)
 case atStart=>
  refine⟨0,by omega,rfl,λj x h=>absurd h ab,Xk.xt,by simp,λj x h=>?_⟩;rcases j with _|_|_|_|_|_|j<;>(simp only[P12.cmpL,List.getElem?_cons_zero,List.getElem?_cons_succ,List.getElem?_nil,fq,reduceCtorEq]at h)<;>(subst h;rw[ak,aw];rfl)
 case round=>
  obtain⟨q,hq,rfl,hn,hx,lw,hc⟩:=hrel;have c0:=hc 0 _ rfl;have c1:=hc 1 _ rfl;have c2:=hc 2 _ rfl;have c3:=hc 3 _ rfl;have c4:=hc 4 _ rfl;have c5:=hc 5 _ rfl;have HC:=aa hc;have HX:=aa hx;have HN:=aa hn;clear hc hx hn;have hq6:q=0∨q=1∨q=2∨q=3∨q=4∨q=5∨q=6:=ab;rcases hq6 with rfl|rfl|rfl|rfl|rfl|rfl|rfl
  ·by_cases he:s = [61]
   ·subst he;go_wp2;go_ret;exact⟨by simp[P12.rh],HX.out⟩
   ·have hN:∀j x,j<1->P12.cmpL[j]?=some x->s≠x:=λj x hj hx=>by
     by_cases h:j<0
     ·exact HN.out j x h hx
     ·obtain rfl:j=0:=ab;have hx2:some ([61]:P12.T)=some x:=hx
      cases hx2;exact he
    have hN:=aa hN;have hb:(s == [61])=false:=by simpa using he
    have hb2:([61]==s)=false:=by simpa using λe=>he e.symm
    go_wp2;exact⟨⟨1,by omega,by simp,hN.out,HX.out,lw,HC.out⟩,by simp[intOf]⟩
  ·by_cases he:s = [60,62]
   ·subst he;go_wp2;go_ret;exact⟨by simp[P12.rh],HX.out⟩
   ·have hN:∀j x,j<2->P12.cmpL[j]?=some x->s≠x:=λj x hj hx=>by
     by_cases h:j<1
     ·exact HN.out j x h hx
     ·obtain rfl:j=1:=ab;have hx2:some ([60,62]:P12.T)=some x:=hx
      cases hx2;exact he
    have hN:=aa hN;have hb:(s == [60,62])=false:=by simpa using he
    have hb2:([60,62]==s)=false:=by simpa using λe=>he e.symm
    go_wp2;exact⟨⟨2,by omega,by simp,hN.out,HX.out,lw,HC.out⟩,by simp[intOf]⟩
  ·by_cases he:s = [60]
   ·subst he;go_wp2;go_ret;exact⟨by simp[P12.rh],HX.out⟩
   ·have hN:∀j x,j<3->P12.cmpL[j]?=some x->s≠x:=λj x hj hx=>by
     by_cases h:j<2
     ·exact HN.out j x h hx
     ·obtain rfl:j=2:=ab;have hx2:some ([60]:P12.T)=some x:=hx
      cases hx2;exact he
    have hN:=aa hN;have hb:(s == [60])=false:=by simpa using he
    have hb2:([60]==s)=false:=by simpa using λe=>he e.symm
    go_wp2;exact⟨⟨3,by omega,by simp,hN.out,HX.out,lw,HC.out⟩,by simp[intOf]⟩
  ·by_cases he:s = [60,61]
   ·subst he;go_wp2;go_ret;exact⟨by simp[P12.rh],HX.out⟩
   ·have hN:∀j x,j<4->P12.cmpL[j]?=some x->s≠x:=λj x hj hx=>by
     by_cases h:j<3
     ·exact HN.out j x h hx
     ·obtain rfl:j=3:=ab;have hx2:some ([60,61]:P12.T)=some x:=hx
      cases hx2;exact he
    have hN:=aa hN;have hb:(s == [60,61])=false:=by simpa using he
    have hb2:([60,61]==s)=false:=by simpa using λe=>he e.symm
    go_wp2;exact⟨⟨4,by omega,by simp,hN.out,HX.out,lw,HC.out⟩,by simp[intOf]⟩
  ·by_cases he:s = [62]
   ·subst he;go_wp2;go_ret;exact⟨by simp[P12.rh],HX.out⟩
   ·have hN:∀j x,j<5->P12.cmpL[j]?=some x->s≠x:=λj x hj hx=>by
     by_cases h:j<4
     ·exact HN.out j x h hx
     ·obtain rfl:j=4:=ab;have hx2:some ([62]:P12.T)=some x:=hx
      cases hx2;exact he
    have hN:=aa hN;have hb:(s == [62])=false:=by simpa using he
    have hb2:([62]==s)=false:=by simpa using λe=>he e.symm
    go_wp2;exact⟨⟨5,by omega,by simp,hN.out,HX.out,lw,HC.out⟩,by simp[intOf]⟩
  ·by_cases he:s = [62,61]
   ·subst he;go_wp2;go_ret;exact⟨by simp[P12.rh],HX.out⟩
   ·have hN:∀j x,j<6->P12.cmpL[j]?=some x->s≠x:=λj x hj hx=>by
     by_cases h:j<5
     ·exact HN.out j x h hx
     ·obtain rfl:j=5:=ab;have hx2:some ([62,61]:P12.T)=some x:=hx
      cases hx2;exact he
    have hN:=aa hN;have hb:(s == [62,61])=false:=by simpa using he
    have hb2:([62,61]==s)=false:=by simpa using λe=>he e.symm
    go_wp2;exact⟨⟨6,by omega,by simp,hN.out,HX.out,lw,HC.out⟩,by simp[intOf]⟩
  ·go_wp2;go_ret;refine⟨?_,HX.out⟩;have n0:=HN.out 0 _ ab rfl;have n1:=HN.out 1 _ ab rfl;have n2:=HN.out 2 _ ab rfl;have n3:=HN.out 3 _ ab rfl;have n4:=HN.out 4 _ ab rfl;have n5:=HN.out 5 _ ab rfl;simp[P12.rh,n0,n1,n2,n3,n4,n5]
end Go.Proofs.YtkpmclddjkebeaaGreatDoor
namespace P12
theorem Gi{r:R}(h:Gd r):((kp.find? λo=>isT o.1 r):Option (T×Int))=if(nxt r).kind=5/\rh (nxt r).text≠0 then mE ((nxt r).text,rh (nxt r).text)else mg:=by
 have e:∀x:T,P11.words.contains x=false->isT x r=((nxt r).kind==5&&(nxt r).text==x):=λx hx=>(gn h hx).symm;unfold kp;simp only[gG,List.find?_nil,e [61] aq,e [60,62] aq,e [60] aq,e [60,61] aq,e [62] aq,e [62,61] aq];by_cases hk:(nxt r).kind=5
 ·have hb:((nxt r).kind==5)=true:=by simpa using hk
  simp only[hb,sB,hk,true_and];generalize (nxt r).text=t;unfold rh;by_cases h1:t = [61]
  ·subst h1;rfl
  by_cases h2:t = [60,62]
  ·subst h2;rfl
  by_cases h3:t = [60]
  ·subst h3;rfl
  by_cases h4:t = [60,61]
  ·subst h4;rfl
  by_cases h5:t = [62]
  ·subst h5;rfl
  by_cases h6:t = [62,61]
  ·subst h6;rfl
  have b1:(t == [61])=false:=by simpa using h1
  have b2:(t == [60,62])=false:=by simpa using h2
  have b3:(t == [60])=false:=by simpa using h3
  have b4:(t == [60,61])=false:=by simpa using h4
  have b5:(t == [62])=false:=by simpa using h5
  have b6:(t == [62,61])=false:=by simpa using h6
  rw[b1,b2,b3,b4,b5,b6];simp only[if_neg h1,if_neg h2,if_neg h3,if_neg h4,if_neg h5,if_neg h6];rfl
 ·have hb:((nxt r).kind==5)=false:=by simpa using hk
  simp[hb,hk]
end P12
namespace P12
theorem Ik{tst:R->Except Er (E×R)}{f:Nat}{r:R}{x:E}{s:PS}(hT:isT [78,79,84] r=true)(h:Nx (ly tst f) (cf (dA (.ok r))) x s):Nx (ly tst (f+1)) (.ok r) (.una 15 x) (de s):=by
 unfold Nx at h ⊢;dsimp only at h ⊢;rw[ly,if_neg (by rw[hT];simp)]
 cases ho:opens r with
 | error e=>
  simp only[dA,ho,cf]at h;subst h;rfl
 | ok r1=>
  simp only[dA,ho,cf]at h
  cases hn:ly tst f (ax r1)with
  | error e=>
   rw[hn]at h;dsimp only at h;subst h;simp only[hn,de]
  | ok p=>
   rw[hn]at h;obtain⟨rfl,rfl⟩:=h;simp only[hn,de,and_self]
theorem Bp{ex:R->Except Er (E×R)}{f:Nat}{r:R}{x:E}{s:PS}(hT:isT [45] r=true)(hk:(nxt ⟨r.l.tail,r.deep⟩).kind≠3)(h:Nx (dU ex f) (cf (dA (.ok r))) x s):Nx (dU ex (f+1)) (.ok r) (.una 16 x) (de s):=by
 unfold Nx at h ⊢;dsimp only at h ⊢;rw[dU,if_neg (by rw[hT];simp),if_neg hk]
 cases ho:opens r with
 | error e=>
  simp only[dA,ho,cf]at h;subst h;rfl
 | ok r1=>
  simp only[dA,ho,cf]at h
  cases hn:dU ex f (ax r1)with
  | error e=>
   rw[hn]at h;dsimp only at h;subst h;simp only[hn,de]
  | ok p=>
   rw[hn]at h;obtain⟨rfl,rfl⟩:=h;simp only[hn,de,and_self]
end P12
namespace P12
def Sk(s s':PS):Prop:=match s with
 | .error e=>s' = .error e
 | .ok r=>∀r',s' = .ok r'->bW r r'
theorem Sk.refl(s:PS):Sk s s:=by
 cases s with
 | error e=>rfl
 | ok r=>intro r' h;cases h;exact bW.refl r
theorem Sk.trans{a b c:PS}(h:Sk a b)(k:Sk b c):Sk a c:=by
 cases a with
 | error e=>unfold Sk at h;dsimp only at h;subst h;exact k
 | ok r=>
  intro r' hc;subst hc
  cases b with
  | error e=>cases k
  | ok r1=>exact(h r1 rfl).trans (k r' rfl)
theorem eI(s:PS):Sk s (cf s):=by
 cases s with
 | error e=>rfl
 | ok r=>intro r' h;cases h;exact aO r
theorem gQ(c:Int)(s:PS):Sk s (cH c s):=by
 cases s with
 | error e=>rfl
 | ok r=>intro r' h;cases h
theorem dK(x:T)(s:PS):Sk s (bn x s).2:=by
 cases s with
 | error e=>rfl
 | ok r=>
  intro r' h;unfold bn has at h;dsimp only at h
  cases hi:isT x r<;>rw[hi]at h<;>cases h
  ·exact bW.refl r
  ·exact aO r
theorem du(x:T)(s:PS):Sk s (bE x s):=by
 rw[th]
 cases(bn x s).1
 ·exact(dK x s).trans (gQ _ _)
 ·exact dK x s
theorem fM(s:PS):Sk s (bZ s).2:=by
 cases s with
 | error e=>rfl
 | ok r=>
  rw[tf];split
  ·exact gQ _ _
  ·split
   ·exact gQ _ _
   ·exact eI _
theorem qZ{r:R}{s3:PS}(h:Sk (cf (dA (.ok r))) s3):(∀r2,cf (dA (.ok r)) = .ok r2->r2.deep=r.deep+1)/\(∀r3,s3 = .ok r3->0<r3.deep)/\Sk (.ok r) (de s3):=by
 unfold dA opens at h ⊢;by_cases hd:r.deep=100
 ·simp only[hd,if_true,bU,cf]at h ⊢;unfold Sk at h;dsimp only at h;subst h;exact⟨λ_ e=>by simp at e,λ_ e=>by simp at e,λ_ e=>by simp[de]at e⟩
 ·simp only[hd,if_false,cf]at h ⊢;have hk:=aO ⟨r.l,r.deep+1⟩;refine⟨λr2 e=>?_,λr3 e=>?_,λr' e=>?_⟩
  ·cases e;exact hk.deep
  ·have h1:=(h r3 e).deep;have h2:=hk.deep;dsimp only at h2;omega
  ·cases s3 with
   | error e2=>cases e
   | ok r3=>
    cases e;have h0:=h r3 rfl;have h2:=hk.deep;dsimp only at h2;have h3:=h0.deep;exact⟨h0.suf.trans hk.suf,by show r3.deep-1=r.deep;omega⟩
theorem JD{tst:R->Except Er (E×R)}{f:Nat}{s:PS}{x:E}{s':PS}(hk:isK 2 [78,79,84] s=false)(hf:∀r,s = .ok r->1≤f/\Gd r)(h:Nx tst s x s'):Nx (ly tst f) s x s':=by
 cases s with
 | error e=>exact h
 | ok r=>
  obtain⟨h1,h2⟩:=hf r rfl;obtain⟨f,rfl⟩:∃g,f=g+1:=⟨f-1,by omega⟩;rw[gl h2 aq]at hk;unfold Nx at h ⊢;dsimp only at h ⊢;rw[ly,if_pos hk];exact h
end P12
namespace Go.Proofs.YtkpmclddjkebeaaGreatDoor
open Go.RowKit
open _root_.P12 (PS Gd okB cH isK cf Nx bn bE bZ bR ew dA de cB Sk)
def Cm{α:Type}(bp:Nat)(w0:World)(s:PS)(V:Value->α->World->Prop)(F:P12.R->Except P12.Er (α×P12.R))(e:Ending)(w':World):Prop:=
 ∃v x s',e = .returned v/\V v x w'/\ah bp w0 w'/\Ps bp s' w'/\Nx F s x s'/\Sk s s'
theorem bt.ps{g br:Nat}{c:Array Value}{T:TypeId}{s:PS}{w w':World}(h:bt g c T w w')(hr:Ps br s w)(hg:br<g):Ps br s w':=by
 obtain⟨b,cap,L,i,d,a,e,hr,hs⟩:=hr;have hl:=hr.lo
 have hk:∀ {c o':Nat} {v:Value},c≠g->w.cell? ⟨c,o',none⟩=some v->w'.cell? ⟨c,o',none⟩=some v:=fun {c o' v} hne hc=>by
  rw[kf (h.rest c hne)];exact hc
 refine⟨b,cap,L,i,d,a,e,⟨(h.rest br ab).trans hr.blk,hr.lo,hr.cap,⟨by rw[h.size];exact hr.toks.1,λj t hj=>?_⟩,hr.hi,hr.len⟩,hs⟩;obtain⟨h1,h2,h3⟩:=hr.toks.2 j t hj;exact⟨hk ab h1,hk ab h2,hk ab h3⟩
theorem Cm.expr{br:Nat}{w0 w1 w2:World}{s s':PS}{x:P12.E}{L:List Value}{F:P12.R->Except P12.Er (P12.E×P12.R)}(hp:bt w0.heap.size L.toArray 35 w1 w2)(he:aC (λb=>w0.heap.size<b) w1 x L)(ht:ah br w0 w1)(hq:Ps br s' w1)(hb:br<w0.heap.size)(hN:Nx F s x s')(hS:Sk s s'):Cm br w0 s (eN w0) F (.returned (.agg L.toArray)) w2:=
 ⟨_,x,s',rfl,⟨L,rfl,(bt.expr hp he ab).mono (λb hb _=>Nat.le_of_lt hb)⟩,bt.turn hp ht (ai _),bt.ps hp hq hb,hN,hS⟩
def jx(fn br:Nat)(P:P12.R->Prop)(F:P12.R->Except P12.Er (P12.E×P12.R)):Prop:=
 ∀ (s:PS) (w:World),(∀r,s = .ok r->P r)->Ps br s w->Calls af fn #[rp br] w (Cm br w s (eN w) F)
theorem JF(P:P12.R->Prop)(br:Nat)(tst:P12.R->Except P12.Er (P12.E×P12.R))(h:jx 271 br P tst)(s:PS)(w:World)(hP:∀r,s = .ok r->P r)(hr:Ps br s w)(hk:isK 2 [78,79,84] s=false):Calls af 244 #[rp br] w (Cm br w s (eN w) tst):=by
 have HW:=aa λW (hx:Xk.Ext w W)=>mH br s [78,79,84] W (hr.ext hx);have HT:=aa λW (hx:Xk.Ext w W)=>h s W hP (hr.ext hx);have lr:=hr.lt;rw[hk]at HW;clear hr h;go_enter Tryz.func244,Tryz.ntmps244;go_wp2_with (go_at_call 155;with_reducible refine Xk.cl (HW.out _ Xk.xt) λp=>?_);refine(HT.out _ Xk.xt).mono ?_;rintro e w2 ⟨v,x,s',rfl,⟨l,rfl,he⟩,ht,hp,hn,hsk⟩;obtain⟨kd,op,vk,vi,vs,tb,nm,pp,pm,pc,rfl⟩:=he.form;have hsz:=ht.size;simp only[Xk.kV,ag,bM]at hsz;have hz2:=ht.held ((ah.aR (br:=br) (Xk.cF _ _)).held (aw w _) ab) ab;have HT2:Hid (ah br w w2):=aa (ah.trans (tu trivial) ht)
 have HE:=aa (he.mono (S':=λb=>w.heap.size<b) (λb hb _=>by simp only[Xk.kV,ag,bM]at hb;omega));have HP:=aa hp;clear he ht hp;go_wp2_with ((refine pw (hz2) ?_;intro wZ hpZ));exact ar (aH rfl rfl hpZ.blk aA rfl au) rfl (Cm.expr hpZ (HE.out) (HT2.out) (HP.out) lr hn hsk)
theorem Kr(P:P12.R->Prop)(hPd:∀r r':P12.R,P r->r.deep≤r'.deep->P r')(br:Nat)(tst:P12.R->Except P12.Er (P12.E×P12.R))(h:jx 271 br P tst)(f:Nat):∀ (s:PS) (w:World),(∀r,s = .ok r->101≤f+r.deep/\P r)->Ps br s w->Calls af 244 #[rp br] w (Cm br w s (eN w) (P12.ly tst f)):=by
 induction f using uf with
 | ind f ih=>
  intro s w hf hr;have hf1:∀r,s = .ok r->1≤f/\Gd r:=λr e=>by subst e;have:=(hf r rfl).1;have:=hr.gd.good.deep;exact⟨by omega,hr.gd⟩
  cases hk:isK 2 [78,79,84] s
  ·refine(JF P br tst h s w (λr e=>(hf r e).2) hr hk).mono ?_;rintro e w' ⟨v,x,s',h1,h2,h3,h4,h5,h6⟩;exact⟨v,x,s',h1,h2,h3,h4,P12.JD hk hf1 h5,h6⟩
  ·cases s with
   | error e=>cases hk
   | ok r=>
    obtain⟨g,rfl⟩:∃g,f=g+1:=⟨f-1,by have:=(hf1 r rfl).1;omega⟩;have hT:P12.isT [78,79,84] r=true:=by rw[← hk,P12.gl hr.gd aq]
    obtain⟨hf2,hP⟩:=hf r rfl;have HI:=aa λ(s3:PS) (W:World) (h3:∀r2,s3 = .ok r2->r2.deep=r.deep+1) (hp:Ps br s3 W)=>ih g ab s3 W (λr2 e=>⟨by have:=h3 r2 e;omega,hPd _ _ hP (by have:=h3 r2 e;omega)⟩) hp;have HW:=aa λW (hx:Xk.Ext w W)=>mH br (.ok r) [78,79,84] W (hr.ext hx);have HR:=aa hr;have lr:=hr.lt;rw[hk]at HW;have HD:=aa λs3=>P12.qZ (r:=r) (s3:=s3);have HN:=aa λx s3=>P12.Ik (tst:=tst) (f:=g) (r:=r) (x:=x) (s:=s3) hT;clear hr h ih hf hf1 hf2;go_enter Tryz.func244,Tryz.ntmps244;go_wp2_with (go_at_call 155;with_reducible refine Xk.cl (HW.out _ Xk.xt) λp=>?_)
    refine(sU br (.ok r) _ (HR.out.ext Xk.xt)).mono ?_;rintro e w1 ⟨rfl,ht1,hp1⟩;have hsz:=ht1.size;simp only[Xk.kV,ag,bM]at hsz;have hz1:=ht1.held ((ah.aR (br:=br) (Xk.cF _ _)).held (aw w _) ab) ab;have HT1:Hid (ah br w w1):=aa (ah.trans (tu trivial) ht1);clear ht1 hk HW HR;go_wp2_with fail;refine(fL br _ _ (hp1.ext Xk.xt)).mono ?_;rintro e w2 ⟨rfl,ht2,hp2⟩;have hz2:=ht2.held hz1 ab;have hsz2:=ht2.size;have HT2:Hid (ah br w w2):=aa (ah.trans HT1.out (ah.trans (tu trivial) ht2));clear ht2 hp1 hz1 HT1;go_wp2_with fail;refine(HI.out _ _ (HD.out _ (Sk.refl _)).1 (hp2.ext Xk.xt)).mono ?_
    rintro e w3 ⟨v,x,s3,rfl,⟨l,rfl,he⟩,ht3,hp3,hn,hsk⟩;obtain⟨kd,op,vk,vi,vs,tb,nm,pp,pm,pc,rfl⟩:=he.form;obtain⟨-,hd3,hsk3⟩:=HD.out s3 hsk;have hN:=HN.out x s3 hn;have hsz3:=ht3.size;have hz3:=ht3.held hz2 ab;have HT3:Hid (ah br w w3):=aa (ah.trans HT2.out ht3);have HE:=aa he;clear HI HD HN hPd hz2 ht3 hp2 HT2 hn hsk he;go_wp2_with fail;refine(mX br s3 _ (hp3.ext Xk.xt) hd3).mono ?_;rintro e w4 ⟨rfl,ht4,hp4⟩;have hsz4:=ht4.size;simp only[ag]at hsz4;have ha4:=ht4.held (aw w3 _) ab;have hz4:=ht4.held ((ah.alloc (ah.refl br w3) _).held hz3 ab) ab
    have HE4:=aa (aC.bg (w':=w4) (S':=λb=>w.heap.size<b) (λb hb hl=>((ah.alloc (ah.refl br w3) _).trans ht4).block hl ab) (λb hb hl=>by omega) HE.out);obtain⟨c0,c1,c2,c3,c4,c5,c6,c7,c8,c9⟩:=bA ha4;obtain⟨g0,g1,g2,g3,g4,g5,g6,g7,g8,g9⟩:=dH ha4;have lC:=(ae.1 ha4).1;have HT4:Hid (ah br w w4):=aa (ah.trans HT3.out (ah.trans (tu trivial) ht4));have HZ4:=aa hz4;clear ht4 hz4 ha4 hz3 HE HT3 hp3;go_wp2_with fail;refine(Ek 15 kd op vk vi vs tb nm pp pm pc _).mono ?_;rintro e w5 ⟨g5,rfl,hg5,hgc5,hx5⟩;have hz5:=(hx5.block _ (ae.1 HZ4.out).1).trans HZ4.out;have hl5:=hx5.size
    have hu5:aC (λb=>w.heap.size<b) w5 (.una 15 x) (ao 3 15 0 0 [] [] [] (.slice (some ⟨g5,0,none⟩) 1 1)):=
     ⟨g5,ao kd op vk vi vs tb nm (.slice pp pm pc),by omega,rfl,dh hgc5,rfl,HE4.out.ext hx5⟩
    have HU5:=aa hu5;have HT5:=aa (ah.trans HT4.out (ah.aR hx5));have HP5:=aa (hp4.ext hx5);clear hu5 hx5 hgc5 c0 c1 c2 c3 c4 c5 c6 c7 c8 c9;go_wp2_with ((refine pw (hz5) ?_;intro wZ hpZ));exact ar (aH rfl rfl hpZ.blk aA rfl au) rfl (Cm.expr hpZ (HU5.out) (HT5.out) (HP5.out) lr hN hsk3)
end Go.Proofs.YtkpmclddjkebeaaGreatDoor
namespace P12
theorem Ij{part:R->Except Er (E×R)}{ops:List (T×Int)}{s0 s1:PS}{x:E}(h:Nx part s0 x s1){X:E}{S':PS}(hX:Nx (nh part ops (match s1 with | .ok r=>r.l.length | .error _=>0) x) s1 X S'):Nx (binary part ops) s0 X S':=by
 cases s0 with
 | error e=>unfold Nx at h hX ⊢;dsimp only at h;subst h;exact hX
 | ok r=>
  unfold Nx at h ⊢;dsimp only at h ⊢;unfold binary
  cases hp:part r with
  | error e=>rw[hp]at h;dsimp only at h;subst h;exact hX
  | ok p=>
   rw[hp]at h;obtain⟨rfl,rfl⟩:=h;exact hX
theorem Ii{part:R->Except Er (E×R)}{ops:List (T×Int)}{r:R}{o:T×Int}(hf:(ops.find? (λo:T×Int=>isT o.1 r):Option (T×Int))=mE o){y x:E}{s2:PS}(h:Nx part (.ok (ax r)) y s2){f:Nat}{X:E}{S':PS}(hX:Nx (nh part ops f (.bin o.2 x y)) s2 X S'):Nx (nh part ops (f+1) x) (.ok r) X S':=by
 unfold Nx at h ⊢;dsimp only at h ⊢;rw[nh,hf];dsimp only
 cases hp:part (ax r)with
 | error e=>rw[hp]at h;dsimp only at h;subst h;exact hX
 | ok p=>
  rw[hp]at h;obtain⟨rfl,rfl⟩:=h;exact hX
theorem Ih{part:R->Except Er (E×R)}{ops:List (T×Int)}{s:PS}{f:Nat}(hf:∀r,s = .ok r->1≤f/\(ops.find? (λo:T×Int=>isT o.1 r):Option (T×Int))=mg)(x:E):Nx (nh part ops f x) s x s:=by
 cases s with
 | error e=>rfl
 | ok r=>
  obtain⟨h1,h2⟩:=hf r rfl;obtain⟨f,rfl⟩:∃g,f=g+1:=⟨f-1,by omega⟩;unfold Nx;dsimp only;rw[nh,h2];exact⟨rfl,rfl⟩
theorem cp{x:T}{s:PS}(h:(bn x s).1=false):(bn x s).2=s/\∀r,s = .ok r->isT x r=false:=by
 cases s with
 | error e=>exact⟨rfl,λr e=>by cases e⟩
 | ok r=>
  unfold bn has at h ⊢;dsimp only at h ⊢
  cases hi:isT x r<;>rw[hi]at h
  ·exact⟨rfl,λr' e=>by cases e;exact hi⟩
  ·cases h
theorem ie{x:T}{s:PS}(h:(bn x s).1=true):∃r,s = .ok r/\isT x r=true/\(bn x s).2 = .ok (ax r):=by
 cases s with
 | error e=>cases h
 | ok r=>
  unfold bn has at h ⊢;dsimp only at h ⊢
  cases hi:isT x r<;>rw[hi]at h
  ·cases h
  ·exact⟨r,rfl,hi,rfl⟩
theorem pn{α:Type}{F:R->Except Er (α×R)}{s s1 s2:PS}{x y:α}(h:Nx F s x s1)(k:Nx F s y s2):s1=s2:=by
 cases s with
 | error e=>exact h.trans k.symm
 | ok r=>
  unfold Nx at h k;dsimp only at h k
  cases hp:F r with
  | error e=>rw[hp]at h k;exact h.trans k.symm
  | ok p=>rw[hp]at h k;exact h.2.trans k.2.symm
end P12
namespace Go.Proofs.YtkpmclddjkebeaaGreatDoor
open Go.RowKit
open _root_.P12 (PS Gd okB cH isK cf Nx bn bE bZ bR ew dA de cB Sk)
def eB(br:Nat)(w:World):Nat:=match w.cell? ⟨br,0,none⟩,w.cell? ⟨br,1,none⟩,w.cell? ⟨br,4,none⟩with
 | some (.slice _ n _),some (.int _ i),some (.int _ e)=>if e=0 then n-i.toNat else 0
 | _,_,_=>0
theorem Ps.len{br:Nat}{r:P12.R}{w:World}(h:Ps br (.ok r) w):eB br w=r.l.length:=by
 obtain⟨b,cap,L,i,d,a,e,h,h1,h2,rfl,-⟩:=h;obtain⟨l0,c0,c1,c2,c3,c4⟩:=h.cells;simp only[eB,c0,c1,c4,if_true];rw[h1,ez];simp
theorem Ps.tA{br:Nat}{x:P12.Er}{w:World}(h:Ps br (.error x) w):eB br w=0:=by
 obtain⟨b,cap,L,i,d,a,e,h,h1,h2,h3⟩:=h;obtain⟨l0,c0,c1,c2,c3,c4⟩:=h.cells;simp only[eB,c0,c1,c4,if_neg h3]
def nS(br B:Nat)(F:P12.R->Except P12.Er (P12.E×P12.R))(s:PS)(v:Value)(W:World):Prop:=∃l2 y s2,v = .agg l2.toArray/\aC (λb=>B≤b) W y l2/\Ps br s2 W/\Nx F s y s2/\Sk s s2
theorem nS.ext{br B:Nat}{F:P12.R->Except P12.Er (P12.E×P12.R)}{s:PS}:∀v w w',Xk.Ext w w'->nS br B F s v w->nS br B F s v w':=by
 rintro v w w' hx ⟨l2,y,s2,rfl,h1,h2,h3⟩;exact⟨l2,y,s2,rfl,h1.ext hx,h2.ext hx,h3⟩
def ue(B:Nat)(F:P12.R->Except P12.Er (P12.E×P12.R))(s:PS)(l:List Value)(op:Int)(v:Value)(W:World):Prop:=∃g l2 y s2,v = .agg (ao 4 op 0 0 [] [] [] (.slice (some ⟨g,0,none⟩) 2 2)).toArray/\B≤g/\W.heap[g]?=some (.cells (l++l2).toArray 35)/\aC (λb=>B≤b) W y l2/\Nx F s y s2
theorem ue.turn{B br:Nat}{F:P12.R->Except P12.Er (P12.E×P12.R)}{s:PS}{l:List Value}{op:Int}(hB:br<B):∀v w w',ah br w w'->ue B F s l op v w->ue B F s l op v w':=by
 rintro v w w' ht ⟨g,l2,y,s2,rfl,h1,h2,h3,h4⟩;exact⟨g,l2,y,s2,rfl,h1,ht.held h2 ab,h3.turn ht (λb hb=>by omega),h4⟩
open _root_.P12 (PS Gd okB cH isK cf Nx bn bE bZ bR ew dA de cB Sk)
def KE(br:Nat)(x:P12.T)(s:PS)(w:World)(e:Ending)(w':World):Prop:=∃b S2,e = .returned (.bool b)/\ah br w w'/\Ps br S2 w'/\(b=false->S2=s/\∀r,s = .ok r->P12.isT x r=false)/\(b=true->∃r,s = .ok r/\P12.isT x r=true/\S2 = .ok (P12.ax r))
theorem I5(br:Nat)(s:PS)(x:P12.T)(hx:P11.fI.contains x=false)(w:World)(h:Ps br s w):Calls af 84 #[rp br,bs x] w (KE br x s w):=(fD br s x hx w h).mono λ_ _ ⟨a,b,c⟩=>⟨_,_,a,b,c,P12.cp,P12.ie⟩
theorem kE(br:Nat)(s:PS)(x:P12.T)(hx:P11.words.contains x=false)(w:World)(h:Ps br s w):Calls af 25 #[rp br,bs x] w (KE br x s w):=(eW br s x hx w h).mono λ_ _ ⟨a,b,c⟩=>⟨_,_,a,b,c,P12.cp,P12.ie⟩
theorem J5(P:P12.R->Prop)(hP:∀r r',P r->P12.bW r r'->P r')(br:Nat)(part:P12.R->Except P12.Er (P12.E×P12.R))(ops:List (P12.T×Int))(s:PS)(w:World)(hp:∀r,s = .ok r->P r)(hr:Ps br s w):
  (jx 210 br P part->ops=P12.vc->Calls af 162 #[rp br] w (Cm br w s (eN w) (P12.binary part ops)))/\
  (jx 244 br P part->ops=P12.uc->Calls af 210 #[rp br] w (Cm br w s (eN w) (P12.binary part ops)))/\
  (jx 292 br P part->ops=P12.po->Calls af 289 #[rp br] w (Cm br w s (eN w) (P12.binary part ops)))/\
  (jx 289 br P part->ops=P12.pG->Calls af 284 #[rp br] w (Cm br w s (eN w) (P12.binary part ops))):=by
 have HR:=aa hr;have lr:=hr.lt;clear hr;refine⟨?a,?b,?c,?d⟩
 case' a|b|c|d=>
  intro h ho;have HPT:=aa h;have HO:=aa ho;clear h ho
 case' a=>go_enter Tryz.func162,Tryz.ntmps162
 case' b=>go_enter Tryz.func210,Tryz.ntmps210
 case' c=>go_enter Tryz.func289,Tryz.ntmps289
 case' d=>go_enter Tryz.func284,Tryz.ntmps284
 case' a|b|c|d=>
  go_wp2_with fail;refine(HPT.out s _ hp (HR.out.ext Xk.xt)).mono ?_;rintro e w1 ⟨v,x,s1,rfl,⟨l,rfl,he⟩,ht1,hp1,hn1,hsk1⟩;obtain⟨kd,op,vk,vi,vs,tb,nm,pp,pm,pc,rfl⟩:=he.form;have hsz:=ht1.size;simp only[ag]at hsz;have hz1:=ht1.held (aw w _) ab;have HT1:Hid (ah br w w1):=aa (ah.trans (tu trivial) ht1);have HE1:=aa he;clear ht1 he;go_wp2
  go_loopw [7] (λ_ wr=>∃ (x:P12.E) (l:List Value) (s':PS) (f:Nat),Ps br s' wr/\P12.Sk s s'/\(∀r,s' = .ok r->r.l.length≤f)/\ah br w wr/\wr.heap[w.heap.size]?=some (bu df.toList)/\wr.heap[w1.heap.size]?=some (bu l)/\aC (λb=>w.heap.size<b/\b≠w1.heap.size) wr x l/\∀X S',Nx (P12.nh part ops f x) s' X S'->Nx (P12.binary part ops) s X S') (λ_ wr=>eB br wr)
  case atStart=>
   refine⟨x,_,s1,_,hp1.ext Xk.xt,hsk1,λr e=>?_,ah.trans HT1.out (tu trivial),(ah.alloc (ah.refl br w1) _).held hz1 ab,aw w1 _,?_,λX S' h=>P12.Ij hn1 h⟩
   ·subst e;exact ai _
   ·exact(HE1.out.mono (λb hb hl=>⟨by simp only[ag]at hb;omega,by omega⟩)).ext Xk.xt
  obtain⟨x,l,s',f,hps,hsk,hf,ht,hz,hb7,he,hN⟩:=hrel;obtain⟨kd,op,vk,vi,vs,tb,nm,pp,pm,pc,rfl⟩:=he.form;have HPS:=aa hps;have HSK:=aa hsk;have HT:=aa ht;have HZ:=aa hz;have HB:=aa hb7;have HE:=aa he;have HN:=aa hN;have lwr:=ht.size;have l7:=(ae.1 hb7).1
  have hPS:∀r,s' = .ok r->P r:=λr e=>by
   subst e
   cases s with
   | error e=>cases hsk
   | ok r0=>exact hP _ _ (hp r0 rfl) (hsk r rfl)
  clear hps hsk ht hz hb7 he hN;go_wp2_with fail
 case' a=>
  refine(I5 br s' _ aq _ (HPS.out.ext Xk.xt)).mono ?_;rintro e w2 ⟨b,S2,rfl,ht2,hp2,hno,hyes⟩
  cases b
  case' true=>
   obtain⟨r,rfl,hisT,hS2⟩:=hyes rfl;clear hno;have hfind:ops.find? (λo:P12.T×Int=>P12.isT o.1 r)=some ([79,82],1):=by simp[HO.out,P12.vc,hisT]
   rw[hS2]at hp2;obtain⟨f,rfl⟩:∃k,f=k+1:=⟨f-1,by have:=hf r rfl;have:=HPS.out.gd.good.pos;omega⟩;have hlt2:=P12.fz HPS.out.gd.good (P12.el hisT);have hPr:∀r',(kg (P12.ax r):PS) = .ok r'->P r':=λr' e=>by cases e;exact hP _ _ (hPS r rfl) (P12.aO r)
   have hsz2:=ht2.size;have HB2:=aa (ht2.held HB.out ab);have HZ2:=aa (ht2.held HZ.out ab);have HE2:=aa (aC.bg (w':=w2) (S':=λb=>w.heap.size<b/\b≠w1.heap.size) (λb hb hl=>ht2.block hl ab) (λb hb _=>hb) HE.out);have HT2:=aa (ah.trans HT.out ht2);have HP2:=aa hp2;have HL:=aa HPS.out.len;have HS2:=aa (P12.Sk.trans HSK.out (P12.eI (.ok r)));clear ht2 hp2 hisT hS2 HB HZ HE HPS HSK HT;go_wp2_with fail;generalize (1:Int)=nn at hfind ⊢;have HFD:=aa hfind;clear hfind
  case' false=>
   obtain⟨hs2,n1⟩:=hno rfl;rw[hs2]at hp2;clear hyes hno hs2 S2;have hq:∀r,s' = .ok r->ops.find? (λo:P12.T×Int=>P12.isT o.1 r)=none:=λr e=>by simp[HO.out,P12.vc,n1 r e]
 case' b=>
  refine(I5 br s' _ aq _ (HPS.out.ext Xk.xt)).mono ?_;rintro e w2 ⟨b,S2,rfl,ht2,hp2,hno,hyes⟩
  cases b
  case' true=>
   obtain⟨r,rfl,hisT,hS2⟩:=hyes rfl;clear hno;have hfind:ops.find? (λo:P12.T×Int=>P12.isT o.1 r)=some ([65,78,68],2):=by simp[HO.out,P12.uc,hisT]
   rw[hS2]at hp2;obtain⟨f,rfl⟩:∃k,f=k+1:=⟨f-1,by have:=hf r rfl;have:=HPS.out.gd.good.pos;omega⟩;have hlt2:=P12.fz HPS.out.gd.good (P12.el hisT);have hPr:∀r',(kg (P12.ax r):PS) = .ok r'->P r':=λr' e=>by cases e;exact hP _ _ (hPS r rfl) (P12.aO r)
   have hsz2:=ht2.size;have HB2:=aa (ht2.held HB.out ab);have HZ2:=aa (ht2.held HZ.out ab);have HE2:=aa (aC.bg (w':=w2) (S':=λb=>w.heap.size<b/\b≠w1.heap.size) (λb hb hl=>ht2.block hl ab) (λb hb _=>hb) HE.out);have HT2:=aa (ah.trans HT.out ht2);have HP2:=aa hp2;have HL:=aa HPS.out.len;have HS2:=aa (P12.Sk.trans HSK.out (P12.eI (.ok r)));clear ht2 hp2 hisT hS2 HB HZ HE HPS HSK HT;go_wp2_with fail;generalize (2:Int)=nn at hfind ⊢;have HFD:=aa hfind;clear hfind
  case' false=>
   obtain⟨hs2,n1⟩:=hno rfl;rw[hs2]at hp2;clear hyes hno hs2 S2;have hq:∀r,s' = .ok r->ops.find? (λo:P12.T×Int=>P12.isT o.1 r)=none:=λr e=>by simp[HO.out,P12.uc,n1 r e]
 case' c=>
  refine(kE br s' _ aq _ (HPS.out.ext Xk.xt)).mono ?_;rintro e w2 ⟨b,S2,rfl,ht2,hp2,hno,hyes⟩
  cases b
  case' true=>
   obtain⟨r,rfl,hisT,hS2⟩:=hyes rfl;clear hno;have hfind:ops.find? (λo:P12.T×Int=>P12.isT o.1 r)=some ([42],11):=by simp[HO.out,P12.po,hisT]
   rw[hS2]at hp2;obtain⟨f,rfl⟩:∃k,f=k+1:=⟨f-1,by have:=hf r rfl;have:=HPS.out.gd.good.pos;omega⟩;have hlt2:=P12.fz HPS.out.gd.good (P12.el hisT);have hPr:∀r',(kg (P12.ax r):PS) = .ok r'->P r':=λr' e=>by cases e;exact hP _ _ (hPS r rfl) (P12.aO r)
   have hsz2:=ht2.size;have HB2:=aa (ht2.held HB.out ab);have HZ2:=aa (ht2.held HZ.out ab);have HE2:=aa (aC.bg (w':=w2) (S':=λb=>w.heap.size<b/\b≠w1.heap.size) (λb hb hl=>ht2.block hl ab) (λb hb _=>hb) HE.out);have HT2:=aa (ah.trans HT.out ht2);have HP2:=aa hp2;have HL:=aa HPS.out.len;have HS2:=aa (P12.Sk.trans HSK.out (P12.eI (.ok r)));clear ht2 hp2 hisT hS2 HB HZ HE HPS HSK HT;go_wp2_with fail;generalize (11:Int)=nn at hfind ⊢;have HFD:=aa hfind;clear hfind
  case' false=>
   obtain⟨hs2,n1⟩:=hno rfl;rw[hs2]at hp2;clear hyes hno hs2 S2;have hsA:=ht2.size;go_wp2_with fail;refine(kE br s' _ aq _ (hp2.ext Xk.xt)).mono ?_;clear hp2;rintro e w2 ⟨b,S2,rfl,ht3,hp2,hno,hyes⟩;replace ht2:=ah.trans ht2 (ah.trans (tu trivial) ht3)
   clear ht3
   cases b
   case' true=>
    obtain⟨r,rfl,hisT,hS2⟩:=hyes rfl;clear hno;have hfind:ops.find? (λo:P12.T×Int=>P12.isT o.1 r)=some ([47],12):=by simp[HO.out,P12.po,hisT,n1 r rfl]
    rw[hS2]at hp2;obtain⟨f,rfl⟩:∃k,f=k+1:=⟨f-1,by have:=hf r rfl;have:=HPS.out.gd.good.pos;omega⟩;have hlt2:=P12.fz HPS.out.gd.good (P12.el hisT);have hPr:∀r',(kg (P12.ax r):PS) = .ok r'->P r':=λr' e=>by cases e;exact hP _ _ (hPS r rfl) (P12.aO r)
    have hsz2:=ht2.size;have HB2:=aa (ht2.held HB.out ab);have HZ2:=aa (ht2.held HZ.out ab);have HE2:=aa (aC.bg (w':=w2) (S':=λb=>w.heap.size<b/\b≠w1.heap.size) (λb hb hl=>ht2.block hl ab) (λb hb _=>hb) HE.out);have HT2:=aa (ah.trans HT.out ht2);have HP2:=aa hp2;have HL:=aa HPS.out.len;have HS2:=aa (P12.Sk.trans HSK.out (P12.eI (.ok r)));clear ht2 hp2 hisT hS2 HB HZ HE HPS HSK HT;go_wp2_with fail;generalize (12:Int)=nn at hfind ⊢;have HFD:=aa hfind;clear hfind
   case' false=>
    obtain⟨hs2,n2⟩:=hno rfl;rw[hs2]at hp2;clear hyes hno hs2 S2;have hsB:=ht2.size;go_wp2_with fail;refine(kE br s' _ aq _ (hp2.ext Xk.xt)).mono ?_;clear hp2;rintro e w2 ⟨b,S2,rfl,ht3,hp2,hno,hyes⟩;replace ht2:=ah.trans ht2 (ah.trans (tu trivial) ht3)
    clear ht3
    cases b
    case' true=>
     obtain⟨r,rfl,hisT,hS2⟩:=hyes rfl;clear hno;have hfind:ops.find? (λo:P12.T×Int=>P12.isT o.1 r)=some ([37],13):=by simp[HO.out,P12.po,hisT,n1 r rfl,n2 r rfl]
     rw[hS2]at hp2;obtain⟨f,rfl⟩:∃k,f=k+1:=⟨f-1,by have:=hf r rfl;have:=HPS.out.gd.good.pos;omega⟩;have hlt2:=P12.fz HPS.out.gd.good (P12.el hisT);have hPr:∀r',(kg (P12.ax r):PS) = .ok r'->P r':=λr' e=>by cases e;exact hP _ _ (hPS r rfl) (P12.aO r)
     have hsz2:=ht2.size;have HB2:=aa (ht2.held HB.out ab);have HZ2:=aa (ht2.held HZ.out ab);have HE2:=aa (aC.bg (w':=w2) (S':=λb=>w.heap.size<b/\b≠w1.heap.size) (λb hb hl=>ht2.block hl ab) (λb hb _=>hb) HE.out);have HT2:=aa (ah.trans HT.out ht2);have HP2:=aa hp2;have HL:=aa HPS.out.len;have HS2:=aa (P12.Sk.trans HSK.out (P12.eI (.ok r)));clear ht2 hp2 hisT hS2 HB HZ HE HPS HSK HT;go_wp2_with fail;generalize (13:Int)=nn at hfind ⊢;have HFD:=aa hfind;clear hfind
    case' false=>
     obtain⟨hs2,n3⟩:=hno rfl;rw[hs2]at hp2;clear hyes hno hs2 S2;have hq:∀r,s' = .ok r->ops.find? (λo:P12.T×Int=>P12.isT o.1 r)=none:=λr e=>by simp[HO.out,P12.po,n1 r e,n2 r e,n3 r e]
 case' d=>
  refine(kE br s' _ aq _ (HPS.out.ext Xk.xt)).mono ?_;rintro e w2 ⟨b,S2,rfl,ht2,hp2,hno,hyes⟩
  cases b
  case' true=>
   obtain⟨r,rfl,hisT,hS2⟩:=hyes rfl;clear hno;have hfind:ops.find? (λo:P12.T×Int=>P12.isT o.1 r)=some ([43],9):=by simp[HO.out,P12.pG,hisT]
   rw[hS2]at hp2;obtain⟨f,rfl⟩:∃k,f=k+1:=⟨f-1,by have:=hf r rfl;have:=HPS.out.gd.good.pos;omega⟩;have hlt2:=P12.fz HPS.out.gd.good (P12.el hisT);have hPr:∀r',(kg (P12.ax r):PS) = .ok r'->P r':=λr' e=>by cases e;exact hP _ _ (hPS r rfl) (P12.aO r)
   have hsz2:=ht2.size;have HB2:=aa (ht2.held HB.out ab);have HZ2:=aa (ht2.held HZ.out ab);have HE2:=aa (aC.bg (w':=w2) (S':=λb=>w.heap.size<b/\b≠w1.heap.size) (λb hb hl=>ht2.block hl ab) (λb hb _=>hb) HE.out);have HT2:=aa (ah.trans HT.out ht2);have HP2:=aa hp2;have HL:=aa HPS.out.len;have HS2:=aa (P12.Sk.trans HSK.out (P12.eI (.ok r)));clear ht2 hp2 hisT hS2 HB HZ HE HPS HSK HT;go_wp2_with fail;generalize (9:Int)=nn at hfind ⊢;have HFD:=aa hfind;clear hfind
  case' false=>
   obtain⟨hs2,n1⟩:=hno rfl;rw[hs2]at hp2;clear hyes hno hs2 S2;have hsA:=ht2.size;go_wp2_with fail;refine(kE br s' _ aq _ (hp2.ext Xk.xt)).mono ?_;clear hp2;rintro e w2 ⟨b,S2,rfl,ht3,hp2,hno,hyes⟩;replace ht2:=ah.trans ht2 (ah.trans (tu trivial) ht3)
   clear ht3
   cases b
   case' true=>
    obtain⟨r,rfl,hisT,hS2⟩:=hyes rfl;clear hno;have hfind:ops.find? (λo:P12.T×Int=>P12.isT o.1 r)=some ([45],10):=by simp[HO.out,P12.pG,hisT,n1 r rfl]
    rw[hS2]at hp2;obtain⟨f,rfl⟩:∃k,f=k+1:=⟨f-1,by have:=hf r rfl;have:=HPS.out.gd.good.pos;omega⟩;have hlt2:=P12.fz HPS.out.gd.good (P12.el hisT);have hPr:∀r',(kg (P12.ax r):PS) = .ok r'->P r':=λr' e=>by cases e;exact hP _ _ (hPS r rfl) (P12.aO r)
    have hsz2:=ht2.size;have HB2:=aa (ht2.held HB.out ab);have HZ2:=aa (ht2.held HZ.out ab);have HE2:=aa (aC.bg (w':=w2) (S':=λb=>w.heap.size<b/\b≠w1.heap.size) (λb hb hl=>ht2.block hl ab) (λb hb _=>hb) HE.out);have HT2:=aa (ah.trans HT.out ht2);have HP2:=aa hp2;have HL:=aa HPS.out.len;have HS2:=aa (P12.Sk.trans HSK.out (P12.eI (.ok r)));clear ht2 hp2 hisT hS2 HB HZ HE HPS HSK HT;go_wp2_with fail;generalize (10:Int)=nn at hfind ⊢;have HFD:=aa hfind;clear hfind
   case' false=>
    obtain⟨hs2,n2⟩:=hno rfl;rw[hs2]at hp2;clear hyes hno hs2 S2;have hsB:=ht2.size;go_wp2_with fail;refine(kE br s' _ aq _ (hp2.ext Xk.xt)).mono ?_;clear hp2;rintro e w2 ⟨b,S2,rfl,ht3,hp2,hno,hyes⟩;replace ht2:=ah.trans ht2 (ah.trans (tu trivial) ht3)
    clear ht3
    cases b
    case' true=>
     obtain⟨r,rfl,hisT,hS2⟩:=hyes rfl;clear hno;have hfind:ops.find? (λo:P12.T×Int=>P12.isT o.1 r)=some ([124,124],14):=by simp[HO.out,P12.pG,hisT,n1 r rfl,n2 r rfl]
     rw[hS2]at hp2;obtain⟨f,rfl⟩:∃k,f=k+1:=⟨f-1,by have:=hf r rfl;have:=HPS.out.gd.good.pos;omega⟩;have hlt2:=P12.fz HPS.out.gd.good (P12.el hisT);have hPr:∀r',(kg (P12.ax r):PS) = .ok r'->P r':=λr' e=>by cases e;exact hP _ _ (hPS r rfl) (P12.aO r)
     have hsz2:=ht2.size;have HB2:=aa (ht2.held HB.out ab);have HZ2:=aa (ht2.held HZ.out ab);have HE2:=aa (aC.bg (w':=w2) (S':=λb=>w.heap.size<b/\b≠w1.heap.size) (λb hb hl=>ht2.block hl ab) (λb hb _=>hb) HE.out);have HT2:=aa (ah.trans HT.out ht2);have HP2:=aa hp2;have HL:=aa HPS.out.len;have HS2:=aa (P12.Sk.trans HSK.out (P12.eI (.ok r)));clear ht2 hp2 hisT hS2 HB HZ HE HPS HSK HT;go_wp2_with fail;generalize (14:Int)=nn at hfind ⊢;have HFD:=aa hfind;clear hfind
    case' false=>
     obtain⟨hs2,n3⟩:=hno rfl;rw[hs2]at hp2;clear hyes hno hs2 S2;have hq:∀r,s' = .ok r->ops.find? (λo:P12.T×Int=>P12.isT o.1 r)=none:=λr e=>by simp[HO.out,P12.pG,n1 r e,n2 r e,n3 r e]
 case false|false|false|false=>
  have hsz2:=ht2.size;have hz2:=ht2.held HZ.out ab;have hb2:=ht2.held HB.out ab;have HE2:=aa (aC.bg (w':=w2) (S':=λb=>w.heap.size<b) (λb hb hl=>ht2.block hl ab) (λb hb _=>hb.1) HE.out);have HT2:=aa (ah.trans HT.out ht2);have HP2:=aa hp2;have HSK2:=aa HSK.out;have hN2:=HN.out x s' (P12.Ih (λr e=>⟨by have h1:=hf r e;subst e;have:=HPS.out.gd.good.pos;omega,hq r e⟩) x);obtain⟨c0,c1,c2,c3,c4,c5,c6,c7,c8,c9⟩:=bA hb2;clear ht2 hp2 hb2 HB HZ HE HT;go_wp2_with ((refine pw (hz2) ?_;intro wZ hpZ));exact ar (aH rfl rfl hpZ.blk aA rfl au) rfl (Cm.expr hpZ (HE2.out) (HT2.out) (HP2.out) lr hN2 HSK2.out)
 all_goals
  refine Xg.bm (E:=ah br) (Xe.bS _) (λch W=>False) 2 4 (λ_=>none) (λ_ _ h=>by cases h) (λ_ _ _ _ h=>by cases h) [(2,nS br w2.heap.size part (.ok (P12.ax r))),(3,ue w2.heap.size part (.ok (P12.ax r)) (ao kd op vk vi vs tb nm (.slice pp pm pc)) nn)] au au (Xg.cg ((by
     intro y hy;simp only[aJ,aF,or_false]at hy;rcases hy with rfl|rfl
     ·rw[if_pos rfl];exact nS.ext
     ·rw[if_neg (show ¬ (3=2) by decide)];exact ue.turn ab))) ((λch a w' hd hX=>hX.elim)) ?_
  simp only[aG,aY,aL,bd];refine Xs.gc (show w2.drew.heap[w1.heap.size]?=_ from HB2.out) ?_;refine Xg.gs ?_;(refine Xg.dM az az rfl (λW hx hp=>?_) (λu5 K hK=>?_);(go_simp;((refine(HPT.out (.ok (P12.ax r)) W hPr (HP2.out.drew.ext hx)).mono ?_);intro e w3 h;obtain⟨v3,y,s3,rfl,⟨l3,rfl,he3⟩,h1,h2,h3,h4⟩:=h;exact kr ⟨_,rfl,h1,⟨l3,y,s3,rfl,he3.mono (λb hb _=>by have:=hx.size;simp only[bM]at this;omega),h2,h3,h4⟩,λb hb=>by cases hb⟩));(go_simp;refine hK _ ?_;clear hK K))
  (refine Xg.bc az az aq (λW hx hp=>?_) (λu6 K hK=>?_);((obtain⟨l3,y,s3,hu,he3,-,hn3,-⟩:=Xe.bG hp au;obtain⟨kd2,op2,vk2,vi2,vs2,tb2,nm2,pp2,pm2,pc2,rfl⟩:=he3.form;subst hu;go_simp;exact(Jl nn kd op vk vi vs tb nm pp pm pc kd2 op2 vk2 vi2 vs2 tb2 nm2 pp2 pm2 pc2 W).mono (λe w' h=>by obtain⟨g,rfl,hg,hgc,hx'⟩:=h;exact⟨_,rfl,hx',⟨g,_,y,s3,rfl,(by have:=hx.size;simp only[bM]at this;omega),hgc,he3.ext hx',hn3⟩,λb hb=>by cases hb⟩)));(go_simp;refine hK _ ?_;clear hK K))
  refine Xg.bD (λW hx hp hg=>?_);obtain⟨⟨g,l2,y,s3,rfl,hge,hgc,he2,hn2⟩,⟨l2',y',s3',rfl,-,hp3,hn3,hsk3⟩,-⟩:=hp;have hss:=P12.pn hn2 hn3;subst hss;have hxW:ah br w2 W:=(ah.drew (ah.refl _ _)).trans hx;have hbW:=hxW.held HB2.out ab;have hszW:=hxW.size;have HBW:=aa hbW;have HZW:=aa (hxW.held HZ2.out ab);have HEW:=aa (aC.bg (w':=W) (S':=λb=>w.heap.size<b/\b≠w1.heap.size) (λb hb hl=>hxW.block hl ab) (λb hb _=>hb) HE2.out);have HEY:=aa he2;have HP3:=aa hp3;have HGC:=aa hgc;have HTW:=aa (ah.trans HT2.out hxW);have HSW:=aa (P12.Sk.trans HS2.out hsk3)
  have HNW:=aa λX S' h=>HN.out X S' (P12.Ii HFD.out hn2 h);obtain⟨d0,d1,d2,d3,d4,d5,d6,d7,d8,d9⟩:=bA hbW;obtain⟨f0,f1,f2,f3,f4,f5,f6,f7,f8,f9⟩:=dH hbW;have hle3:∀r',s3 = .ok r'->r'.l.length≤(P12.ax r).l.length:=λr' e=>by subst e;exact(hsk3 r' rfl).le
  clear hx hg hxW hbW he2 hp3 hgc hn2 hn3 hsk3 HN HB2 HZ2 HE2 HT2 HP2 HS2;go_wp2;go_roundw
  case rel=>
   refine⟨.bin nn x y,ao 4 nn 0 0 [] [] [] (.slice (some ⟨g,0,none⟩) 2 2),s3,f,?_,HSW.out,?_,?_,?_,?_,?_,HNW.out⟩
   ·exact Ps.setCells (g:=w1.heap.size) ab (ao 4 nn 0 0 [] [] [] (.slice (some ⟨g,0,none⟩) 2 2)) 0 HP3.out
   ·intro r' e;have:=hle3 r' e;have:=hf r rfl;omega
   ·exact ah.setCells (g:=w1.heap.size) (.inl ab) (ao 4 nn 0 0 [] [] [] (.slice (some ⟨g,0,none⟩) 2 2)) 0 HTW.out
   ·exact(dL w1.heap.size (ao 4 nn 0 0 [] [] [] (.slice (some ⟨g,0,none⟩) 2 2)) 0 W ab).trans HZW.out
   ·exact ir HBW.out (ao 4 nn 0 0 [] [] [] (.slice (some ⟨g,0,none⟩) 2 2)) rfl
   ·refine⟨g,ao kd op vk vi vs tb nm (.slice pp pm pc),l2,⟨by omega,by omega⟩,rfl,?_,rfl,HEY.out.length,?_,?_⟩
    ·exact eV (dh HGC.out) (dL w1.heap.size (ao 4 nn 0 0 [] [] [] (.slice (some ⟨g,0,none⟩) 2 2)) 0 W ab)
    ·exact aC.sets (g:=w1.heap.size) HEW.out ab (ao 4 nn 0 0 [] [] [] (.slice (some ⟨g,0,none⟩) 2 2)) 0
    ·exact(aC.sets (g:=w1.heap.size) (S:=λb=>w2.heap.size≤b) HEY.out ab (ao 4 nn 0 0 [] [] [] (.slice (some ⟨g,0,none⟩) 2 2)) 0).mono (λb hb _=>⟨by omega,by omega⟩)
  case measure=>
   have hL:=HL.out;have hq:=Ps.setCells (g:=w1.heap.size) ab (ao 4 nn 0 0 [] [] [] (.slice (some ⟨g,0,none⟩) 2 2)) 0 HP3.out;show eB br (zT W w1.heap.size 0 (ao 4 nn 0 0 [] [] [] (.slice (some ⟨g,0,none⟩) 2 2)))<_
   cases s3 with
   | error e=>rw[hq.tA];omega
   | ok r3=>rw[hq.len];have:=hle3 r3 rfl;omega
end Go.Proofs.YtkpmclddjkebeaaGreatDoor
namespace P12
theorem yy{sum:R->Except Er (E×R)}{s:PS}{x:E}{e:Er}(h:Nx sum s x (.error e)):Nx (test sum) s x (.error e):=by
 cases s with
 | error e'=>exact h
 | ok r=>
  unfold Nx at h ⊢;dsimp only at h ⊢;unfold test
  cases hp:sum r with
  | error e=>rw[hp]at h;exact h
  | ok p=>rw[hp]at h;cases h.2
theorem pk{sum:R->Except Er (E×R)}{s:PS}{x:E}{r1:R}(h:Nx sum s x (.ok r1)):∃r,s = .ok r/\sum r = .ok (x,r1):=by
 cases s with
 | error e'=>cases h
 | ok r=>
  unfold Nx at h;dsimp only at h
  cases hp:sum r with
  | error e=>rw[hp]at h;cases h
  | ok p=>
   rw[hp]at h;obtain⟨rfl,h2⟩:=h
   cases h2;exact⟨r,rfl,hp⟩
theorem yz{sum:R->Except Er (E×R)}{s:PS}{x y:E}{r1:R}{o:T×Int}{s2:PS}(h:Nx sum s x (.ok r1))(hf:(kp.find? (λo:T×Int=>isT o.1 r1):Option (T×Int))=mE o)(h2:Nx sum (.ok (ax r1)) y s2):Nx (test sum) s (.bin o.2 x y) s2:=by
 obtain⟨r,rfl,hp⟩:=pk h;unfold Nx at h2 ⊢;dsimp only at h2 ⊢;unfold test;rw[hp];dsimp only;rw[hf];dsimp only
 cases hq:sum (ax r1)with
 | error e=>rw[hq]at h2;exact h2
 | ok p=>
  rw[hq]at h2;obtain⟨rfl,rfl⟩:=h2;exact⟨rfl,rfl⟩
theorem AM{sum:R->Except Er (E×R)}{s:PS}{x:E}{r1:R}(h:Nx sum s x (.ok r1))(hf:(kp.find? (λo:T×Int=>isT o.1 r1):Option (T×Int))=mg)(hi:isT [73,83] r1=false):Nx (test sum) s x (.ok r1):=by
 obtain⟨r,rfl,hp⟩:=pk h;unfold Nx;dsimp only;unfold test;rw[hp];dsimp only;rw[hf];dsimp only;rw[if_pos hi];exact⟨rfl,rfl⟩
theorem AN{sum:R->Except Er (E×R)}{s:PS}{x:E}{r1:R}(h:Nx sum s x (.ok r1))(hf:(kp.find? (λo:T×Int=>isT o.1 r1):Option (T×Int))=mg)(hi:isT [73,83] r1=true):Nx (test sum) s (.una (if(bn [78,79,84] (.ok (ax r1))).1=true then 18 else 17) x) (bE [78,85,76,76] (bn [78,79,84] (.ok (ax r1))).2):=by
 obtain⟨r,rfl,hp⟩:=pk h;unfold Nx;dsimp only;unfold test;rw[hp];dsimp only;rw[hf];dsimp only;rw[if_neg (by rw[hi];simp)];simp only[bE,bn]
 cases hm:bL [78,85,76,76] (has [78,79,84] (ax r1)).2 with
 | error e=>rfl
 | ok r2=>exact⟨rfl,rfl⟩
end P12
namespace Go.Proofs.YtkpmclddjkebeaaGreatDoor
open Go.RowKit
open _root_.P12 (PS Gd okB cH isK cf Nx bn bE bZ bR ew dA de cB Sk)
theorem JT{m i:Nat}{φ:World->Prop}{r:Xk.fc}{w:World}(h:Xk.cd m ((i,φ)::r) w):Xk.cd m r w:=by
 unfold Xk.cd at h;split at h
 ·exact h.2
 ·exact h
theorem xal(w:World)(o:Obj):Xk.Ext w (w.alloc o):=(al _ _).alloc (ai _) _
theorem Ju(P:P12.R->Prop)(hP:∀r r',P r->P12.bW r r'->P r')(br:Nat)(part:P12.R->Except P12.Er (P12.E×P12.R))(h:jx 284 br P part)(s:PS)(wo:World)(hp:∀r,s = .ok r->P r)(hr:Ps br s wo):Calls af 271 #[rp br] wo (Cm br wo s (eN wo) (P12.test part)):=by
 have HPT:=aa h;have HR:=aa hr;have lr:=hr.lt;clear hr h;go_enter Tryz.func271,Tryz.ntmps271;go_wp2_with fail;refine(HPT.out s _ hp (HR.out.ext Xk.xt)).mono ?_;rintro e w1 ⟨v,x,s1,rfl,⟨l,rfl,he⟩,ht1,hp1,hn1,hsk1⟩;obtain⟨kd,op,vk,vi,vs,tb,nm,pp,pm,pc,rfl⟩:=he.form;have hsz:=ht1.size;simp only[ag]at hsz;have HZ1:=aa (ht1.held (aw wo _) ab);have HT1:Hid (ah br wo w1):=aa (ah.trans (tu trivial) ht1);have HE1:=aa (he.mono (S':=λb=>wo.heap.size<b/\b<w1.heap.size) (λb hb hl=>⟨by simp only[ag]at hb;omega,hl⟩));have HN1:=aa hn1;have HS1:=aa hsk1;have HP1:=aa hp1;clear ht1 he hn1 hsk1 hp1 HR
 go_wp2_with fail;refine(eK br s1 _ (HP1.out.ext Xk.xt)).mono ?_;rintro e w2 ⟨rfl,rfl⟩
 cases s1 with
 | error e1=>
  have hz:=(ah.alloc (ah.refl br w1) (bu (ao kd op vk vi vs tb nm (.slice pp pm pc)))).held HZ1.out ab;have hN:=P12.yy HN1.out;have HT2:=aa (ah.alloc HT1.out (bu (ao kd op vk vi vs tb nm (.slice pp pm pc))));have HE2:=aa ((HE1.out.ext (xal w1 (bu (ao kd op vk vi vs tb nm (.slice pp pm pc))))).mono (S':=λb=>wo.heap.size<b) (λb hb _=>hb.1));have HP2:=aa (HP1.out.ext (xal w1 (bu (ao kd op vk vi vs tb nm (.slice pp pm pc)))));obtain⟨c0,c1,c2,c3,c4,c5,c6,c7,c8,c9⟩:=bA (aw w1 (bu (ao kd op vk vi vs tb nm (.slice pp pm pc))));have hS1:=HS1.out;go_wp2_with ((refine pw (hz) ?_;intro wZ hpZ))
  exact ar (aH rfl rfl hpZ.blk aA rfl au) rfl (Cm.expr hpZ (HE2.out) (HT2.out) (HP2.out) lr hN hS1)
 | ok r1=>
  obtain⟨lX,hlX⟩:∃lX,lX=ao kd op vk vi vs tb nm (.slice pp pm pc):=⟨_,rfl⟩;have ha:=aw w1 (bu (ao kd op vk vi vs tb nm (.slice pp pm pc)));have hz:=(ah.alloc (ah.refl br w1) (bu (ao kd op vk vi vs tb nm (.slice pp pm pc)))).held HZ1.out ab;have hta:=ah.alloc HT1.out (bu (ao kd op vk vi vs tb nm (.slice pp pm pc)));have hea:=HE1.out.ext (xal w1 (bu (ao kd op vk vi vs tb nm (.slice pp pm pc))));have hps:=HP1.out.ext (xal w1 (bu (ao kd op vk vi vs tb nm (.slice pp pm pc))));have hsa:w1.heap.size+1≤(w1.alloc (bu (ao kd op vk vi vs tb nm (.slice pp pm pc)))).heap.size:=Nat.le_of_eq (ag ..).symm
  generalize w1.alloc (bu (ao kd op vk vi vs tb nm (.slice pp pm pc)))=w at ha hz hta hea hps hsa ⊢;have hgd:=hps.gd;obtain⟨b,cap,L,i,d,a,e,h,hs⟩:=hps;obtain⟨l0,c0,c1,c2,c3,c4⟩:=h.cells;obtain⟨t,ht,lb,t0,t1,t2⟩:=h.tok;have hi:=h.hi;have hlen:=h.len;have hib:(i:Int)<(L.length:Int):=ab;have hnt:=hs.tok ht;have HCF:=aa (P12.Gi hgd);have HA:=aa ha;have HZ:=aa hz;have HTA:=aa hta;have HEA:=aa hea;have HPS:Hid (Ps br (.ok r1) w):=aa ⟨b,cap,L,i,d,a,e,h,hs⟩;rw[hnt]at HCF;clear h hs ha hz hta hea hlX ht HZ1 HT1 HE1 HP1;clear lX;go_wp2_with fail;refine sG λg W tl=>?_;intro hg HXW lg x0 x1 x2
  by_cases hk:t.kind=5/\P12.rh t.text≠0
  ·obtain⟨hk5,hc0⟩:=hk;obtain⟨n,hn⟩:∃n,n=P12.rh t.text:=⟨_,rfl⟩;rw[if_pos ⟨hk5,hc0⟩,← hn]at HCF;have HCM:∀W,Calls af 285 #[bs t.text] W λe w'=>e = .returned (.int .i64 n)/\Xk.Ext W w':=λW=>by rw[hn];exact Jk t.text W
   have HCM:=aa HCM;rw[← hn]at hc0;have hn0:(n !=0)=true:=by simpa using hc0
   rw[hk5]at x0;clear hn hc0;go_wp2_with (go_at_call 285;with_reducible refine Xk.cl (HCM.out _) λp=>?_);refine(fL br (.ok r1) _ (HPS.out.ext (Xk.Ext.trans HXW.out Xk.xt))).mono ?_;rintro e w4 ⟨rfl,ht4,hp4⟩;have htC:ah br w w4:=ah.trans (ah.aR HXW.out) (ah.trans (tu trivial) ht4);have hs4:=htC.size;have ht4':ah br W w4:=ah.trans (tu trivial) ht4;have HG4:=aa (ht4'.cell x1 ab);have hgl:=aK lg ht4'.size;have HA4:=aa (htC.held HA.out ab);have HZ4:=aa (htC.held HZ.out ab);have HE4:=aa (aC.bg (w':=w4) (S':=λb=>wo.heap.size<b/\b<w1.heap.size) (λb hb hl=>htC.block hl ab) (λb hb _=>hb) HEA.out)
   have HT4:=aa (ah.trans HTA.out htC);have HP4:=aa hp4;clear htC ht4 ht4' HA HZ HEA HTA hp4 HPS HXW x0 x1 x2 lg
   have hPr:∀r',(kg (P12.ax r1):PS) = .ok r'->P r':=λr' e=>by
    cases e
    cases s with
    | error e=>cases HS1.out
    | ok r0=>exact hP _ _ (hP _ _ (hp r0 rfl) (HS1.out r1 rfl)) (P12.aO r1)
   go_wp2_with fail
   refine Xg.bm (E:=ah br) (Xe.bS _) (λch W=>False) 5 7 (λ_=>none) (λ_ _ h=>by cases h) (λ_ _ _ _ h=>by cases h) [(2,λv _=>v = .int .i64 n),(5,nS br w4.heap.size part (.ok (P12.ax r1))),(6,ue w4.heap.size part (.ok (P12.ax r1)) (ao kd op vk vi vs tb nm (.slice pp pm pc)) n)] au au (Xg.cg ((by
       intro y hy;simp only[aJ,aF,or_false]at hy;rcases hy with rfl|rfl|rfl
       ·rw[if_neg (show ¬ (2=5) by decide)];exact λ_ _ _ _ h=>h
       ·rw[if_pos rfl];exact nS.ext
       ·rw[if_neg (show ¬ (6=5) by decide)];exact ue.turn ab))) ((λch a w' hd hX=>hX.elim)) ?_
   simp only[aG,aY,aL,bd];refine Xg.gs ?_;refine Xs.gf (show w4.drew.cell? ⟨g,1,none⟩=some (bs t.text)from HG4.out) ?_;(refine Xg.bc az az aq (λW hx hp=>?_) (λu2 K hK=>?_);(go_simp;exact(HCM.out W).mono (λe w' h=>by obtain⟨rfl,hx'⟩:=h;exact⟨_,rfl,hx',rfl,λb hb=>by cases hb⟩));(go_simp;refine hK _ ?_;clear hK K))
   refine Xs.gc (show w4.drew.heap[w1.heap.size]?=_ from HA4.out) ?_;refine Xg.gs ?_;(refine Xg.dM az az rfl (λW hx hp=>?_) (λu5 K hK=>?_);(go_simp;((refine(HPT.out (.ok (P12.ax r1)) W hPr (HP4.out.drew.ext hx)).mono ?_);intro e w3 h;obtain⟨v3,y,s3,rfl,⟨l3,rfl,he3⟩,h1,h2,h3,h4⟩:=h;exact kr ⟨_,rfl,h1,⟨l3,y,s3,rfl,he3.mono (λb hb _=>by have:=hx.size;simp only[bM]at this;omega),h2,h3,h4⟩,λb hb=>by cases hb⟩));(go_simp;refine hK _ ?_;clear hK K))
   (refine Xg.bc az az aq (λW hx hp=>?_) (λu6 K hK=>?_);((obtain⟨l3,y,s3,hu,he3,-,hn3,-⟩:=Xe.bG hp au;have hu2:=Xe.bG (JT hp) au;dsimp only at hu2;obtain⟨kd2,op2,vk2,vi2,vs2,tb2,nm2,pp2,pm2,pc2,rfl⟩:=he3.form;subst hu;subst hu2;go_simp;exact(Jl n kd op vk vi vs tb nm pp pm pc kd2 op2 vk2 vi2 vs2 tb2 nm2 pp2 pm2 pc2 W).mono (λe w' h=>by obtain⟨g,rfl,hg,hgc,hx'⟩:=h;exact⟨_,rfl,hx',⟨g,_,y,s3,rfl,(by have:=hx.size;simp only[bM]at this;omega),hgc,he3.ext hx',hn3⟩,λb hb=>by cases hb⟩)));(go_simp;refine hK _ ?_;clear hK K))
   refine Xg.bD (λW5 hx hp hg=>?_);obtain⟨⟨g5,l2,y,s3,rfl,hge,hgc,he2,hn2⟩,⟨l2',y',s3',rfl,-,hp3,hn3,hsk3⟩,-,-⟩:=hp;have hss:=P12.pn hn2 hn3;subst hss;have hxW:ah br w4 W5:=(ah.drew (ah.refl _ _)).trans hx;have hszW:=hxW.size;have hzW:=hxW.held HZ4.out ab;have HEW:=aa (aC.bg (w':=W5) (S':=λb=>wo.heap.size<b/\b<w1.heap.size) (λb hb hl=>hxW.block hl ab) (λb hb _=>hb) HE4.out);have HTW:=aa (ah.trans HT4.out hxW);have hS:Sk s s3:=P12.Sk.trans HS1.out (P12.Sk.trans (P12.eI (.ok r1)) hsk3);have hN:=P12.yz HN1.out HCF.out hn2
   have hu:aC (λb=>wo.heap.size<b) W5 (.bin n x y) (ao 4 n 0 0 [] [] [] (.slice (some ⟨g5,0,none⟩) 2 2)):=
    ⟨g5,ao kd op vk vi vs tb nm (.slice pp pm pc),l2,by omega,rfl,dh hgc,rfl,he2.length,HEW.out.mono (λb hb _=>hb.1),he2.mono (λb hb _=>by omega)⟩
   have HU:=aa hu;have HP5:=aa hp3;clear hx hg hxW he2 hp3 hgc hn2 hn3 hsk3 hu HEW HE4 HT4 HP4 HG4;go_wp2_with ((refine pw (hzW) ?_;intro wZ hpZ));exact ar (aH rfl rfl hpZ.blk aA rfl au) rfl (Cm.expr hpZ (HU.out) (HTW.out) (HP5.out) lr hN hS)
  ·rw[if_neg hk]at HCF;by_cases hk5:t.kind=5
   case' pos=>
    have HCM:=aa (Jk t.text);rw[Classical.not_not.1 λh=>hk ⟨hk5,h⟩]at HCM;rw[hk5]at x0;go_wp2_with (go_at_call 285;with_reducible refine Xk.cl (HCM.out _) λp=>?_);clear HCM
   case' neg=>
    have hk5':(t.kind==5)=false:=by simpa using hk5
    go_wp2_with fail
   all_goals
    refine(fD br (.ok r1) [73,83] aq _ (HPS.out.ext (Xk.Ext.trans HXW.out Xk.xt))).mono ?_;rintro e w4 ⟨rfl,ht4,hp4⟩;have htC:ah br w w4:=ah.trans (ah.aR HXW.out) (ah.trans (tu trivial) ht4);have hs4:=htC.size;have HA4:=aa (htC.held HA.out ab);have HZ4:=aa (htC.held HZ.out ab);have HE4:=aa (aC.bg (w':=w4) (S':=λb=>wo.heap.size<b/\b<w1.heap.size) (λb hb hl=>htC.block hl ab) (λb hb _=>hb) HEA.out);have HT4:=aa (ah.trans HTA.out htC);clear htC ht4 HA HZ HEA HTA
    cases hb:(bn [73,83] (.ok r1)).1
    ·obtain⟨hs2,hno⟩:=P12.cp hb;rw[hs2]at hp4;have hN:=P12.AM HN1.out HCF.out (hno r1 rfl);have hS:=HS1.out;have hz4:=HZ4.out;obtain⟨q0,q1,q2,q3,q4,q5,q6,q7,q8,q9⟩:=bA HA4.out;go_wp2_with ((refine pw (hz4) ?_;intro wZ hpZ));exact ar (aH rfl rfl hpZ.blk aA rfl au) rfl (Cm.expr hpZ ((HE4.out.mono (S':=λb=>wo.heap.size<b) (λb hb _=>hb.1))) (HT4.out) (hp4) lr hN hS)
    ·obtain⟨r1',hr1',hyes,hs2⟩:=P12.ie hb
     cases hr1';rw[hs2]at hp4;have hN:=P12.AN HN1.out HCF.out hyes;have hS:Sk s (P12.bE [78,85,76,76] (bn [78,79,84] (.ok (P12.ax r1))).2):=P12.Sk.trans HS1.out (P12.Sk.trans (P12.eI (.ok r1)) (P12.Sk.trans (P12.dK _ _) (P12.du _ _)));have HN:=aa hN;have HS:=aa hS;clear hN hS hb hs2 hyes;go_wp2_with fail;refine(fD br (.ok (P12.ax r1)) [78,79,84] aq _ (hp4.ext Xk.xt)).mono ?_;rintro e w5 ⟨rfl,ht5,hp5⟩;generalize bn [78,79,84] (.ok (P12.ax r1))=q at hp5 HN HS ⊢;obtain⟨q,s5⟩:=q;dsimp only at hp5 HN HS ⊢;have ht5':ah br w4 w5:=ah.trans (tu trivial) ht5;clear ht5
     cases q
     case' false=>
      go_wp2_with fail;generalize (17:Int)=k at HN ⊢
     case' true=>
      go_wp2_with fail;generalize (18:Int)=k at HN ⊢
     all_goals
      refine(iU br s5 [78,85,76,76] aq _ (hp5.ext Xk.xt)).mono ?_;rintro e w6 ⟨rfl,ht6,hp6⟩;have ht6':ah br w4 w6:=ah.trans ht5' (ah.trans (tu trivial) ht6);have hs6:=ht6'.size;have HZ6:=aa (ht6'.held HZ4.out ab);have HE6:=aa (aC.bg (w':=w6) (S':=λb=>wo.heap.size<b) (λb hb hl=>ht6'.block hl ab) (λb hb _=>hb.1) HE4.out);have HT6:=aa (ah.trans HT4.out ht6');obtain⟨q0,q1,q2,q3,q4,q5,q6,q7,q8,q9⟩:=bA (ht6'.held HA4.out ab);clear ht6 ht6' ht5' HA4 HZ4 HE4 HT4;go_wp2_with fail;refine(Ek k kd op vk vi vs tb nm pp pm pc _).mono ?_;rintro e w7 ⟨g7,rfl,hg7,hgc7,hx7⟩
      have hz7:=(hx7.block _ (ae.1 HZ6.out).1).trans HZ6.out;have hl7:=hx7.size
      have hu7:aC (λb=>wo.heap.size<b) w7 (.una k x) (ao 3 k 0 0 [] [] [] (.slice (some ⟨g7,0,none⟩) 1 1)):=
       ⟨g7,ao kd op vk vi vs tb nm (.slice pp pm pc),by omega,rfl,dh hgc7,rfl,HE6.out.ext hx7⟩
      have HU7:=aa hu7;have HT7:=aa (ah.trans HT6.out (ah.aR hx7));have HP7:=aa (hp6.ext hx7);have hN:=HN.out;have hS:=HS.out;clear hu7 hx7 hgc7 q0 q1 q2 q3 q4 q5 q6 q7 q8 q9;go_wp2_with ((refine pw (hz7) ?_;intro wZ hpZ));exact ar (aH rfl rfl hpZ.blk aA rfl au) rfl (Cm.expr hpZ (HU7.out) (HT7.out) (HP7.out) lr hN hS)
end Go.Proofs.YtkpmclddjkebeaaGreatDoor
namespace P12
theorem wH{ex:R->Except Er (E×R)}{f:Nat}{s:PS}{x:E}{s':PS}(hk:isK 5 [45] s=false)(hf:∀r,s = .ok r->1≤f/\Gd r)(h:Nx (cZ ex) s x s'):Nx (dU ex f) s x s':=by
 cases s with
 | error e=>exact h
 | ok r=>
  obtain⟨h1,h2⟩:=hf r rfl;obtain⟨f,rfl⟩:∃g,f=g+1:=⟨f-1,by omega⟩;rw[gn h2 aq]at hk;unfold Nx at h ⊢;dsimp only at h ⊢;rw[dU,if_pos hk];exact h
theorem uv{ex:R->Except Er (E×R)}{f:Nat}{r:R}(hT:isT [45] r=true)(hk:(nxt ⟨r.l.tail,r.deep⟩).kind=3)(hd:dec (nxt ⟨r.l.tail,r.deep⟩).text≤9223372036854775808):Nx (dU ex (f+1)) (.ok r) (.val 2 (-(dec (nxt ⟨r.l.tail,r.deep⟩).text:Int)) []) (.ok (ax (ax r))):=by
 unfold Nx;dsimp only;have e1:ax r=⟨r.l.tail,r.deep⟩:=fj (el hT);rw[dU,if_neg (by rw[hT];simp),if_pos hk,int,e1,if_neg ab];exact⟨rfl,rfl⟩
theorem uw{ex:R->Except Er (E×R)}{f:Nat}{r:R}(hT:isT [45] r=true)(hk:(nxt ⟨r.l.tail,r.deep⟩).kind=3)(hd:¬ dec (nxt ⟨r.l.tail,r.deep⟩).text≤9223372036854775808)(X:E):Nx (dU ex (f+1)) (.ok r) X (cH 123 (.ok (ax r))):=by
 unfold Nx;dsimp only;have e1:ax r=⟨r.l.tail,r.deep⟩:=fj (el hT);rw[dU,if_neg (by rw[hT];simp),if_pos hk,int,e1,if_pos ab];rfl
end P12
namespace Go.Proofs.YtkpmclddjkebeaaGreatDoor
open Go.RowKit
open _root_.P12 (PS Gd okB cH isK cf Nx bn bE bZ bR ew dA de cB Sk)
theorem DJ(P:P12.R->Prop)(br:Nat)(F:P12.R->Except P12.Er (P12.E×P12.R))(h:jx 295 br P F)(s:PS)(w:World)(hP:∀r,s = .ok r->P r)(hr:Ps br s w)(hk:isK 5 [45] s=false):Calls af 292 #[rp br] w (Cm br w s (eN w) F):=by
 have HW:=aa λW (hx:Xk.Ext w W)=>nu br s [45] W (hr.ext hx);have HT:=aa λW (hx:Xk.Ext w W)=>h s W hP (hr.ext hx);have lr:=hr.lt;rw[hk]at HW;clear hr h;go_enter Tryz.func292,Tryz.ntmps292;go_wp2_with (go_at_call 92;with_reducible refine Xk.cl (HW.out _ Xk.xt) λp=>?_);refine(HT.out _ Xk.xt).mono ?_;rintro e w2 ⟨v,x,s',rfl,⟨l,rfl,he⟩,ht,hp,hn,hsk⟩;obtain⟨kd,op,vk,vi,vs,tb,nm,pp,pm,pc,rfl⟩:=he.form;have hsz:=ht.size;simp only[Xk.kV,ag,bM]at hsz;have hz2:=ht.held ((ah.aR (br:=br) (Xk.cF _ _)).held (aw w _) ab) ab;have HT2:Hid (ah br w w2):=aa (ah.trans (tu trivial) ht)
 have HE:=aa (he.mono (S':=λb=>w.heap.size<b) (λb hb _=>by simp only[Xk.kV,ag,bM]at hb;omega));have HP:=aa hp;clear he ht hp;go_wp2_with ((refine pw (hz2) ?_;intro wZ hpZ));exact ar (aH rfl rfl hpZ.blk aA rfl au) rfl (Cm.expr hpZ (HE.out) (HT2.out) (HP.out) lr hn hsk)
theorem Gz{P:Prop}{Q:Nat->World->List Value->Prop}(k:∀g W tl,Q g W tl)(h:(∀g W tl,Q g W tl)->P:=by
 intro k;have KQ:=Lib.hid k;clear k;obtain⟨tl,htl⟩:∃tl:List Value,tl = [.int .i64 t.kind,.string ⟨t.text.toArray⟩,.int .i64 t.pos]:=⟨_,rfl⟩;have htr:=uL t0 t1 t2;rw[← htl]at htr;have HTL:=Lib.hid htl;clear htl;refine Xd.bm (E:=ET wt.heap.size (.cells tl.toArray 72)) (eh _ _) 13 (λ_=>none) (λ_ _ h=>by cases h) (λ_ _ _ _ h=>by cases h) [(11,sl 72 3 wt.heap.size),(12,ua 72 wt.heap.size tl)] au au (Xd.mJ ?_) ?_
 ·intro y hy;simp only[List.mem_cons,List.not_mem_nil,or_false]at hy;rcases hy with rfl|rfl
  ·exact sl.et (by rw[HTL.out];rfl)
  ·exact ua.et
 simp only[List.take_succ_cons,List.take_zero,List.drop_succ_cons,List.drop_zero];(refine Xs.d ?_)
 (refine Xs.d ?_)
 (refine Xs.d ?_)
 (refine Xd.aX (eh _ _) (Xk.aQ az) az (λK hK=>?_);apply Exists.intro;refine⟨λW hx hp=>?_,?_⟩;((have c:=oD hx rfl c0);go_simp;exact⟨rfl,rfl⟩);(go_simp;refine hK _ ?_;clear hK K))
 (refine Xs.d ?_)
 (refine Xs.d ?_)
 (refine Xs.d ?_)
 (refine Xd.aX (eh _ _) (Xk.aQ az) az (λK hK=>?_);apply Exists.intro;refine⟨λW hx hp=>?_,?_⟩;((have c:=oD hx rfl c1);go_simp;exact⟨rfl,rfl⟩);(go_simp;refine hK _ ?_;clear hK K))
 (refine Xs.d ?_)
 (refine Xs.d ?_)
 refine Xd.ld (eh _ _) 72 b ((i+1)*3) tl Tryz.underlying72 (λW hx=>xc hx rfl htr lb) ?_ (hi:=by rw[HTL.out];kernel_rfl);go_simp;(refine Xd.bc (eh _ _) az az (λW hx hp=>?_) (λr1 K hK=>?_);((go_simp;exact xd 72 _ _ hx (Nat.le_refl _) rfl _));(go_simp;refine hK _ ?_;clear hK K))
 (refine Xd.bc (eh _ _) az az (λW hx hp=>?_) (λr2 K hK=>?_);((obtain⟨g,c,rfl,hg,hc,hw⟩:=Xd.bG hp au;exact kz _ _ _ rfl g c _ _ rfl rfl hw (by rw[hc,HTL.out];rfl) (by rw[HTL.out];kernel_rfl) (by rw[HTL.out];kernel_rfl) hg (λW hW g' hg' _=>by cases hg';exact hW)));(go_simp;refine hK _ ?_;clear hK K))
 refine Xd.bD (λW hx hp hG=>?_);obtain⟨f2,f1,-⟩:=hp;obtain⟨g,c,rfl,hg,-,-⟩:=f1;have hT:=f2 g rfl hg;have HXW:=Lib.hid (xa (Below.refl _ _:Xk.Ext wt wt) hx);rw[HTL.out]at hT;obtain⟨lg,x0,x1,x2⟩:=uM hT;clear f2 hG hT hx htr HTL;revert lg x0 x1 x2 hg HXW
 exact KQ.out g W tl):P:=h k
theorem Fk{n:Nat}(h:n≤9223372036854775808):wrap64 (IntKind.u64.wrap (-(n:Int))) = -(n:Int):=by
 have h1:IntKind.u64.wrap (-(n:Int))=(-(n:Int)) % 18446744073709551616:=rfl;rw[h1];unfold wrap64;omega
theorem FR(P:P12.R->Prop)(hPd:∀r r':P12.R,P r->r.deep≤r'.deep->P r')(br:Nat)(ex:P12.R->Except P12.Er (P12.E×P12.R))(h:jx 295 br P (P12.cZ ex))(f:Nat):∀ (s:PS) (w:World),(∀r,s = .ok r->101≤f+r.deep/\P r)->Ps br s w->Calls af 292 #[rp br] w (Cm br w s (eN w) (P12.dU ex f)):=by
 induction f using uf with
 | ind f ih=>
  intro s w hf hr;have hf1:∀r,s = .ok r->1≤f/\Gd r:=λr e=>by subst e;have:=(hf r rfl).1;have:=hr.gd.good.deep;exact⟨by omega,hr.gd⟩
  cases hk:isK 5 [45] s
  ·refine(DJ P br _ h s w (λr e=>(hf r e).2) hr hk).mono ?_;rintro e w' ⟨v,x,s',h1,h2,h3,h4,h5,h6⟩;exact⟨v,x,s',h1,h2,h3,h4,P12.wH hk hf1 h5,h6⟩
  ·cases s with
   | error e=>cases hk
   | ok r=>
    obtain⟨g0,rfl⟩:∃g,f=g+1:=⟨f-1,by have:=(hf1 r rfl).1;omega⟩;have hT:P12.isT [45] r=true:=by rw[← hk,P12.gn hr.gd aq]
    obtain⟨hf2,hP⟩:=hf r rfl;have HI:=aa λ(s3:PS) (W:World) (h3:∀r2,s3 = .ok r2->r2.deep=r.deep+1) (hp:Ps br s3 W)=>ih g0 ab s3 W (λr2 e=>⟨by have:=h3 r2 e;omega,hPd _ _ hP (by have:=h3 r2 e;omega)⟩) hp;have HW:=aa λW (hx:Xk.Ext w W)=>nu br (.ok r) [45] W (hr.ext hx);rw[hk]at HW;have lr:=hr.lt;have hgd:=hr.gd;have HR:=aa hr;have HD:=aa λs3=>P12.qZ (r:=r) (s3:=s3);obtain⟨b,cap,L,i,d,a,e,h,hs⟩:=hr;obtain⟨l0,c0,c1,c2,c3,c4⟩:=h.cells;have hlen:=h.len
    have hi1:i+1<L.length:=by
     have h1:=hgd.cases;have h2:=congrArg List.length hs.1;rw[ez]at h2;have h3:=P12.el hT;rcases h1 with⟨h1,-⟩|⟨-,h1,-⟩
     ·exact absurd h1 h3
     ·omega
    obtain⟨t,ht⟩:∃t,L[i+1]?=some t:=⟨_,aZ hi1⟩
    have hnt:P12.nxt ⟨r.l.tail,r.deep⟩=t:=by
     unfold P12.nxt;rw[hs.1,List.tail_drop];simp[D6,List.head?_drop,ht]
    have htt:P12.ax r=⟨r.l.tail,r.deep⟩:=P12.fj (P12.el hT);have hgt:=hgd.ax.nxt;rw[htt,hnt]at hgt
    have hlt:t.text.length≤8193:=by
     have:=hgd.ax.good.lR.len;rwa [htt,hnt]at this
    have hib:(i:Int)+1<(L.length:Int):=ab;have hwr:IntKind.i64.wrap ((i:Int)+1)=((i+1:Nat):Int):=by rw[pb _ ab];omega
    have htk:=h.toks;clear h hs hgd hk ih hf hf1 hf2;go_enter Tryz.func292,Tryz.ntmps292;go_wp2_with (go_at_call 92;with_reducible refine Xk.cl (HW.out _ Xk.xt) λp=>?_);have hz:=(ah.aR (br:=br) (Xk.cF (w.alloc (bu df.toList)) p)).held (aw w _) ab;have hx:Xk.Ext w (Xk.exw (w.alloc (bu df.toList)) p):=Xk.xt;have hsz:w.heap.size+1≤(Xk.exw (w.alloc (bu df.toList)) p).heap.size:=by rw[Xk.kV,ag];omega
    generalize Xk.exw (w.alloc (bu df.toList)) p=wt at hz hx hsz ⊢;replace c0:=Xk.bO hx c0
    replace c1:=Xk.bO hx c1
    replace htk:=htk.ext hx
    have lb:=htk.1;obtain⟨t0,t1,t2⟩:=htk.2 (i+1) t ht;simp only[eF]at t0 t1 t2;have HX:=aa hx;have HZ:=aa hz;clear hx hz htk c2 c3 c4 l0;refine Gz λg W tl=>?_;intro hg HXW lg x0 x1 x2;have hsW:=HXW.out.size;have HZ2:=aa ((ah.aR (br:=br) HXW.out).held HZ.out ab);have HX2:=aa (Xk.Ext.trans HX.out HXW.out);clear HZ HX HXW t0 t1 t2 c0 c1;by_cases hk3:t.kind=3
    ·rw[hk3]at x0;have hf8:=P12.Kz (hgt.resolve_left ab) hk3
     have HF:∀W,Calls af 213 #[bs t.text,bs P12.Fo] W λe w'=>e = .returned (.bool (decide (P12.dec t.text≤9223372036854775808)))/\W=w':=λW=>by
      have h:=Bo t.text P12.Fo W;rw[← hf8];exact h
     have HF:=aa HF;clear hf8;go_wp2_with fail;refine(fL br (.ok r) _ (HR.out.ext HX2.out)).mono ?_;rintro e w3 ⟨rfl,ht3,hp3⟩;have hx1:=ht3.cell x1 ab;have hsz3:=ht3.size;have hlg:=aK lg ht3.size;have HT3:=aa (ah.trans (ah.aR HX2.out) ht3);have HZ3:=aa (ht3.held HZ2.out ab);have HP3:=aa hp3;clear ht3 hp3 HX2 HZ2 x0 x1 x2;go_wp2_with fail;refine(HF.out _).mono ?_;rintro e' W2 ⟨rfl,rfl⟩;by_cases hd:P12.dec t.text≤9223372036854775808
     ·rw[decide_eq_true hd];go_wp2_with fail;refine(fL br _ _ (HP3.out.ext Xk.xt)).mono ?_;rintro e w4 ⟨rfl,ht4,hp4⟩;have hx1:=ht4.cell hx1 ab;have hlg:=aK hlg ht4.size;have hsz4:=ht4.size;have HT4:=aa (ah.trans HT3.out ht4);have HZ4:=aa (ht4.held HZ3.out ab);have HP4:=aa hp4;clear ht4 hp4 HP3 HT3 HZ3
      have hdg:∀c∈t.text,P11.digit c=true:=by
       obtain⟨c,s,h1,-,h2⟩:=P12.nG (hgt.resolve_left ab) hk3;rw[h1];exact h2
      go_wp2_with fail;refine(qi t.text _ ab).mono ?_;rintro e w5 ⟨n,rfl,hn,rfl⟩;have hn:=hn hdg hd;have hN:=P12.uv (ex:=ex) (f:=g0) hT (by rw[hnt];exact hk3) (by rw[hnt];exact hd);rw[hnt]at hN;have HN:=aa hN;have hv:wrap64 (IntKind.u64.wrap (-(P12.dec t.text:Int))) = -(P12.dec t.text:Int):=Fk hd;have hS:Sk (.ok r) (.ok (P12.ax (P12.ax r))):=P12.Sk.trans (P12.eI (.ok r)) (P12.eI _);have hz4:=HZ4.out;have hN:=HN.out;subst hn;clear hdg;go_wp2_with ((refine pw (hz4) ?_;intro wZ hpZ))
      exact ar (aH rfl rfl hpZ.blk aA rfl au) rfl (Cm.expr hpZ ((show aC (λb=>w.heap.size<b) _ (.val 2 (-(P12.dec t.text:Int)) []) _ from rfl)) (HT4.out) (HP4.out) lr hN hS)
     ·rw[decide_eq_false hd];have hN:=λX=>P12.uw (ex:=ex) (f:=g0) hT (by rw[hnt];exact hk3) (by rw[hnt];exact hd) X;have HN:=aa hN;clear hN;go_wp2_with fail;refine(iG br _ 123 aq _ (HP3.out.ext Xk.xt)).mono ?_;rintro e w4 ⟨rfl,ht4,hp4⟩;have hsz4:=ht4.size;have HT4:=aa (ah.trans HT3.out ht4);have hz4:=ht4.held HZ3.out ab;have HP4:=aa hp4;have hN:=HN.out .none;have hS:Sk (.ok r) (cH 123 (.ok (P12.ax r))):=P12.Sk.trans (P12.eI (.ok r)) (P12.gQ _ _);clear ht4 hp4 HP3 HT3 HZ3;go_wp2_with ((refine pw (hz4) ?_;intro wZ hpZ))
      exact ar (aH rfl rfl hpZ.blk aA rfl au) rfl (Cm.expr hpZ ((show aC (λb=>w.heap.size<b) _ .none _ from rfl)) (HT4.out) (HP4.out) lr hN hS)
    ·have hk3':(t.kind==3)=false:=by simpa using hk3
     have HN:=aa λx s3=>P12.Bp (ex:=ex) (f:=g0) (r:=r) (x:=x) (s:=s3) hT (by rw[hnt];exact hk3);go_wp2_with fail;refine(sU br (.ok r) _ (HR.out.ext HX2.out)).mono ?_;rintro e w1 ⟨rfl,ht1,hp1⟩;have hz1:=ht1.held HZ2.out ab;have hsz1:=ht1.size;have HT1:Hid (ah br w w1):=aa (ah.trans (ah.aR HX2.out) ht1);clear ht1 HZ2 HX2 HW HR x0 x1 x2;go_wp2_with fail;refine(fL br _ _ (hp1.ext Xk.xt)).mono ?_;rintro e w2 ⟨rfl,ht2,hp2⟩;have hz2:=ht2.held hz1 ab;have hsz2:=ht2.size;have HT2:Hid (ah br w w2):=aa (ah.trans HT1.out (ah.trans (tu trivial) ht2));clear ht2 hp1 hz1 HT1;go_wp2_with fail
     refine(HI.out _ _ (HD.out _ (Sk.refl _)).1 (hp2.ext Xk.xt)).mono ?_;rintro e w3 ⟨v,x,s3,rfl,⟨l,rfl,he⟩,ht3,hp3,hn,hsk⟩;obtain⟨kd,op,vk,vi,vs,tb,nm,pp,pm,pc,rfl⟩:=he.form;obtain⟨-,hd3,hsk3⟩:=HD.out s3 hsk;have hN:=HN.out x s3 hn;have hsz3:=ht3.size;have hz3:=ht3.held hz2 ab;have HT3:Hid (ah br w w3):=aa (ah.trans HT2.out ht3);have HE:=aa he;clear HI HD HN hPd hz2 ht3 hp2 HT2 hn hsk he;go_wp2_with fail;refine(mX br s3 _ (hp3.ext Xk.xt) hd3).mono ?_;rintro e w4 ⟨rfl,ht4,hp4⟩;have hsz4:=ht4.size;simp only[ag]at hsz4;have ha4:=ht4.held (aw w3 _) ab
     have hz4:=ht4.held ((ah.alloc (ah.refl br w3) _).held hz3 ab) ab;have HE4:=aa (aC.bg (w':=w4) (S':=λb=>w.heap.size<b) (λb hb hl=>((ah.alloc (ah.refl br w3) _).trans ht4).block hl ab) (λb hb hl=>by omega) HE.out);obtain⟨c0,c1,c2,c3,c4,c5,c6,c7,c8,c9⟩:=bA ha4;have HT4:Hid (ah br w w4):=aa (ah.trans HT3.out (ah.trans (tu trivial) ht4));have HZ4:=aa hz4;clear ht4 hz4 ha4 hz3 HE HT3 hp3;go_wp2_with fail;refine(Ek 16 kd op vk vi vs tb nm pp pm pc _).mono ?_;rintro e w5 ⟨g5,rfl,hg5,hgc5,hx5⟩;have hz5:=(hx5.block _ (ae.1 HZ4.out).1).trans HZ4.out;have hl5:=hx5.size
     have hu5:aC (λb=>w.heap.size<b) w5 (.una 16 x) (ao 3 16 0 0 [] [] [] (.slice (some ⟨g5,0,none⟩) 1 1)):=
      ⟨g5,ao kd op vk vi vs tb nm (.slice pp pm pc),by omega,rfl,dh hgc5,rfl,HE4.out.ext hx5⟩
     have HU5:=aa hu5;have HT5:=aa (ah.trans HT4.out (ah.aR hx5));have HP5:=aa (hp4.ext hx5);clear hu5 hx5 hgc5 c0 c1 c2 c3 c4 c5 c6 c7 c8 c9;go_wp2_with ((refine pw (hz5) ?_;intro wZ hpZ));exact ar (aH rfl rfl hpZ.blk aA rfl au) rfl (Cm.expr hpZ (HU5.out) (HT5.out) (HP5.out) lr hN hsk3)
end Go.Proofs.YtkpmclddjkebeaaGreatDoor
namespace P12
def inS(s:PS):PS:=bE [40] (if isK 5 [40] s=true then dA s else s)
theorem Co(e:Er):inS (.error e) = .error e:=rfl
theorem Bk{r:R}(h:Gd r):inS (.ok r)=if isT [40] r=true then(match opens r with | .error e => .error e | .ok r1 => .ok (ax r1))else bU 120 r:=by
 unfold inS;rw[gn h aq]
 cases hi:isT [40] r
 ·simp[bE,bL,hi]
 ·simp only[if_true];unfold dA opens;by_cases hd:r.deep=100
  ·simp[hd,bU,bE]
  ·have:isT [40] ⟨r.l,r.deep+1⟩=true:=hi
   simp[hd,bE,bL,this]
theorem Cx{ex:R->Except Er (E×R)}{op:Int}{r:R}(h:Gd r):call ex op r=(match inS (.ok r)with | .error e => .error e | .ok r1=>match gD ex op r1 with | .error e => .error e | .ok ((all,a),r2)=>match bL [41] r2 with | .error e => .error e | .ok r3 => .ok (if all then .all else .call op a,il r3)):=by
 rw[Bk h];unfold call within
 cases hi:isT [40] r
 ·simp[bU]
 ·simp only[eO,if_false,if_true]
  cases opens r with
  | error e=>rfl
  | ok r1=>
   dsimp only
   cases gD ex op (ax r1)with
   | error e=>rfl
   | ok p=>
    obtain⟨⟨all,a⟩,r2⟩:=p;dsimp only
    cases bL [41] r2<;>rfl
theorem yH{ex:R->Except Er (E×R)}{op:Int}{s:PS}(hg:∀r,s = .ok r->Gd r)(ho:op=20)(hb:(bn [42] (inS (cf s))).1=true):Nx (λr=>call ex op (ax r)) s .all (de (bE [41] (bn [42] (inS (cf s))).2)):=by
 cases s with
 | error e=>rfl
 | ok r=>
  have h:=(hg r rfl).ax;unfold Nx;dsimp only;rw[Cx h];have hn:cf (.ok r) = .ok (ax r):=rfl;rw[hn]at hb ⊢
  cases hi:inS (.ok (ax r))with
  | error e=>rfl
  | ok r1=>
   rw[hi]at hb
   have hb':isT [42] r1=true:=by
    unfold bn has at hb;dsimp only at hb
    cases h:isT [42] r1
    ·rw[h]at hb;cases hb
    ·rfl
   simp only[gD,ho,hb',and_self,if_true,bn,has,bE]
   cases bL [41] (ax r1)with
   | error e=>rfl
   | ok r3=>exact⟨rfl,rfl⟩
theorem sW{ex:R->Except Er (E×R)}{op:Int}{s:PS}(hg:∀r,s = .ok r->Gd r)(hb:¬ (op=20/\(bn [42] (inS (cf s))).1=true)){y:E}{s4:PS}(h4:Nx ex (inS (cf s)) y s4):Nx (λr=>call ex op (ax r)) s (.call op y) (de (bE [41] s4)):=by
 cases s with
 | error e=>cases h4;rfl
 | ok r=>
  have h:=(hg r rfl).ax;unfold Nx;dsimp only;rw[Cx h];have hn:cf (.ok r) = .ok (ax r):=rfl;rw[hn]at hb h4
  cases hi:inS (.ok (ax r))with
  | error e=>rw[hi]at h4;cases h4;rfl
  | ok r1=>
   rw[hi]at hb h4;have hb':¬ (op=20/\isT [42] r1=true):=λk=>hb ⟨k.1,by simp[bn,has,k.2]⟩;unfold Nx at h4;dsimp only at h4 ⊢;rw[gD,if_neg hb']
   cases he:ex r1 with
   | error e=>rw[he]at h4;cases h4;rfl
   | ok p=>
    rw[he]at h4;obtain⟨rfl,rfl⟩:=h4;simp only[bE]
    cases bL [41] p.2 with
    | error e=>rfl
    | ok r3=>exact⟨rfl,rfl⟩
theorem xm{s s5:PS}(hg:∀r,s = .ok r->Gd r)(h:Sk (inS s) s5):(∀r1,inS s = .ok r1->∃r,s = .ok r/\r1.deep=r.deep+1)/\(∀r5,s5 = .ok r5->0<r5.deep)/\Sk s (de s5):=by
 cases s with
 | error e=>
  rw[Co]at h ⊢
  cases h;exact⟨λ_ e=>(by cases e),λ_ e=>(by cases e),rfl⟩
 | ok r=>
  have key:∀r1,inS (.ok r) = .ok r1->r1.deep=r.deep+1/\r1.l <:+ r.l:=λr1 e=>by
   rw[Bk (hg r rfl)]at e
   cases hi:isT [40] r
   ·rw[hi]at e;cases e
   ·rw[hi,if_pos rfl]at e;unfold opens at e;by_cases hd:r.deep=100
    ·rw[if_pos hd]at e;cases e
    ·rw[if_neg hd]at e
     cases e;have hk:=aO ⟨r.l,r.deep+1⟩;exact⟨hk.deep,hk.suf⟩
  refine⟨λr1 e=>⟨r,rfl,(key r1 e).1⟩,λr5 e=>?_,λr' e=>?_⟩
  ·cases hi:inS (.ok r)with
   | error e1=>rw[hi]at h;cases h;cases e
   | ok r1=>
    rw[hi]at h;have h1:=(h r5 e).deep;have h2:=(key r1 hi).1;omega
  ·cases s5 with
   | error e5=>cases e
   | ok r5=>
    cases e
    cases hi:inS (.ok r)with
    | error e1=>rw[hi]at h;cases h
    | ok r1=>
     rw[hi]at h;have h1:=h r5 rfl;have h2:=key r1 hi;exact⟨h1.suf.trans h2.2,by show r5.deep-1=r.deep;have:=h1.deep;omega⟩
end P12
namespace Go.Proofs.YtkpmclddjkebeaaGreatDoor
open Go.RowKit
open _root_.P12 (PS Gd okB cH isK cf Nx bn bE bZ bR ew dA de cB Sk inS)
theorem Ps.gds{bp:Nat}{s:PS}{w:World}(h:Ps bp s w):∀r,s = .ok r->Gd r:=λr e=>by subst e;exact h.gd
theorem J4(br:Nat)(op:Int)(ex:P12.R->Except P12.Er (P12.E×P12.R))(s:PS)(w:World)(hr:Ps br s w)
  (hX:∀ (s1:PS) (W:World),(∀r1,s1 = .ok r1->∃r,s = .ok r/\r1.deep=r.deep+1)->Ps br s1 W->Calls af 162 #[rp br] W (Cm br W s1 (eN W) ex)) :
  Calls af 299 #[rp br,.int .i64 op] w (Cm br w s (eN w) λr=>P12.call ex op (P12.ax r)):=by
 have HG:=aa hr.gds;have HR:=aa hr;have lr:=hr.lt;have HX:=aa hX
 have hg1:∀r,cf s = .ok r->Gd r:=λr e=>by
  cases s with
  | error e=>cases e
  | ok r0=>cases e;exact hr.gd.ax
 have hs0:∀r,cf s = .ok r->∃r0,s = .ok r0/\r.deep=r0.deep:=λr e=>by
  cases s with
  | error e=>cases e
  | ok r0=>cases e;exact⟨r0,rfl,(P12.aO r0).deep⟩
 have HDI:Hid ((∀r1,inS (cf s) = .ok r1->∃r,s = .ok r/\r1.deep=r.deep+1)/\∀s5,Sk (inS (cf s)) s5->True/\(∀r5,s5 = .ok r5->0<r5.deep)/\Sk s (de s5)):=aa (by
  refine⟨λr1 e=>?_,λs5 h=>?_⟩
  ·obtain⟨r,h1,h2⟩:=(P12.xm hg1 (Sk.refl _)).1 r1 e;obtain⟨r0,h3,h4⟩:=hs0 r h1;exact⟨r0,h3,by omega⟩
  ·obtain⟨-,h2,h3⟩:=P12.xm hg1 h;exact⟨trivial,h2,P12.Sk.trans (P12.eI s) h3⟩)
 clear hr hX hs0 hg1;go_enter Tryz.func299,Tryz.ntmps299;go_wp2_with fail;refine(fL br s _ (HR.out.ext Xk.xt)).mono ?_;rintro e w1 ⟨rfl,ht1,hp1⟩;have hsz1:=ht1.size;simp only[ag]at hsz1;have hz1:=ht1.held (aw w _) ab;have HT1:Hid (ah br w w1):=aa (ah.trans (tu trivial) ht1);clear ht1 HR;go_wp2_with fail;refine(nu br (cf s) [40] _ (hp1.ext Xk.xt)).mono ?_;rintro e w2 ⟨rfl,hx2⟩;have hp2:=(hp1.ext Xk.xt).ext hx2;have ht2:ah br w1 w2:=ah.trans (tu trivial) (ah.aR hx2);clear hx2
 cases hb:isK 5 [40] (cf s)
 case' false=>
  have hin:bE [40] (cf s)=inS (cf s):=by unfold inS;rw[hb];rfl
  have hp3:=hp2
 case' true=>
  have hin:bE [40] (dA (cf s))=inS (cf s):=by unfold inS;rw[hb];rfl
  go_wp2_with fail;refine(sU br _ _ (hp2.ext Xk.xt)).mono ?_;rintro e w3 ⟨rfl,ht3,hp3⟩;replace ht2:=ah.trans ht2 (ah.trans (tu trivial) ht3)
  clear ht3
 all_goals
  clear hp2;go_wp2_with fail;refine(dO br _ [40] aq _ (hp3.ext Xk.xt)).mono ?_;rintro e w4 ⟨rfl,ht4,hp4⟩;rw[hin]at hp4;have ht4':ah br w1 w4:=ah.trans ht2 (ah.trans (tu trivial) ht4);clear ht4;by_cases ho:op=20
  ·subst ho;go_wp2_with fail;refine(eW br (inS (cf s)) [42] aq _ (hp4.ext Xk.xt)).mono ?_;rintro e w5 ⟨rfl,ht5,hp5⟩;have ht5':ah br w1 w5:=ah.trans ht4' (ah.trans (tu trivial) ht5);clear ht5
   cases hb2:(bn [42] (inS (cf s))).1
   ·obtain⟨hs2,-⟩:=P12.cp hb2;rw[hs2]at hp5;go_wp2_with fail;refine(HX.out _ _ HDI.out.1 (hp5.ext Xk.xt)).mono ?_;rintro e w6 ⟨v,x,s4,rfl,⟨l,rfl,he⟩,ht6,hp6,hn6,hsk6⟩;obtain⟨kd,op',vk,vi,vs,tb,nm,pp,pm,pc,rfl⟩:=he.form;have hN:=P12.sW (op:=20) HG.out (λh=>by rw[hb2]at h;exact absurd h.2 aI) hn6;obtain⟨-,hd7,hsk7⟩:=HDI.out.2 _ (P12.Sk.trans hsk6 (P12.du [41] s4));have HT6:=aa (ah.trans HT1.out (ah.trans ht5' (ah.trans (tu trivial) ht6)));have hq6:ah br w1 w6:=ah.trans ht5' (ah.trans (tu trivial) ht6);have hs6:=hq6.size;have hsx6:=ht5'.size;have HZ6:=aa (hq6.held hz1 ab)
    have HE6:=aa (he.mono (S':=λb=>w.heap.size<b/\b<w6.heap.size) (λb hb hl=>⟨by omega,hl⟩));clear ht6 hq6 hn6 hsk6 he;go_wp2_with fail;refine(dO br s4 [41] aq _ (hp6.ext Xk.xt)).mono ?_;rintro e w7 ⟨rfl,ht7,hp7⟩;have hs7:=ht7.size;simp only[ag]at hs7;go_wp2_with fail;refine(mX br _ _ (hp7.ext Xk.xt) hd7).mono ?_;rintro e w8 ⟨rfl,ht8,hp8⟩;have ht8':ah br (w6.alloc (bu (ao kd op' vk vi vs tb nm (.slice pp pm pc)))) w8:=ah.trans ht7 (ah.trans (tu trivial) ht8);have hs8:=ht8'.size;simp only[ag]at hs8;have ha8:=ht8'.held (aw w6 _) ab
    have HZ8:=aa (ht8'.held ((ah.alloc (ah.refl br w6) _).held HZ6.out ab) ab);have HE8:=aa (aC.bg (w':=w8) (S':=λb=>w.heap.size<b/\b<w6.heap.size) (λb hb hl=>((ah.alloc (ah.refl br w6) _).trans ht8').block hl ab) (λb hb _=>hb) HE6.out);have HT8:=aa (ah.trans HT6.out ((ah.alloc (ah.refl br w6) _).trans ht8'));have HP8:=aa hp8;obtain⟨c0,c1,c2,c3,c4,c5,c6,c7,c8,c9⟩:=bA ha8;clear ht7 ht8 ht8' ha8 HZ6 HE6 HT6;have hz8:=HZ8.out;have hE8:=HE8.out.mono (S':=λb=>w.heap.size<b) (λb hb _=>hb.1);have hzA:=((xal w8 (bu (ao kd op' vk vi vs tb nm (.slice pp pm pc)))).block _ ab).trans hz8
    have HEF:Hid (aC (λb=>w.heap.size<b) (w8.alloc (bu (ao kd op' vk vi vs tb nm (.slice pp pm pc)))) (.call 20 x) (ao 5 20 0 0 [] [] [] (.slice (some ⟨w8.heap.size,0,none⟩) 1 1))):=aa ⟨w8.heap.size,ao kd op' vk vi vs tb nm (.slice pp pm pc),by omega,rfl,dh (aw w8 _),rfl,hE8.ext (xal _ _)⟩;have HTF:=aa (ah.alloc HT8.out (bu (ao kd op' vk vi vs tb nm (.slice pp pm pc))));have HPF:=aa (HP8.out.ext (xal _ (bu (ao kd op' vk vi vs tb nm (.slice pp pm pc)))));clear HX HG HDI HT1 hz1 HZ8 HE8 HT8 HP8 hp6 hp7 hp8 hE8 hz8;go_wp2_with ((refine pw (hzA) ?_;intro wZ hpZ))
    exact ar (aH rfl rfl hpZ.blk aA rfl au) rfl (Cm.expr hpZ (HEF.out) (HTF.out) (HPF.out) lr hN hsk7)
   ·have hN:=P12.yH (ex:=ex) HG.out rfl hb2;obtain⟨-,hd7,hsk7⟩:=HDI.out.2 _ (P12.Sk.trans (P12.dK [42] _) (P12.du [41] _));go_wp2_with fail;refine(dO br _ [41] aq _ (hp5.ext Xk.xt)).mono ?_;rintro e w7 ⟨rfl,ht7,hp7⟩;go_wp2_with fail;refine(mX br _ _ (hp7.ext Xk.xt) hd7).mono ?_;rintro e w8 ⟨rfl,ht8,hp8⟩;have ht8':ah br w1 w8:=ah.trans ht5' (ah.trans (tu trivial) (ah.trans ht7 (ah.trans (tu trivial) ht8)));have hs8:=ht8'.size;have hz8:=ht8'.held hz1 ab;have HT8:=aa (ah.trans HT1.out ht8');have HP8:=aa hp8;clear ht7 ht8 ht8' ht5' ht4';go_wp2_with ((refine pw (hz8) ?_;intro wZ hpZ))
    exact ar (aH rfl rfl hpZ.blk aA rfl au) rfl (Cm.expr hpZ ((show aC (λb=>w.heap.size<b) _ .all _ from rfl)) (HT8.out) (HP8.out) lr hN hsk7)
  ·have hob:(op==20)=false:=by simpa using ho
   go_wp2_with fail;refine(HX.out _ _ HDI.out.1 (hp4.ext Xk.xt)).mono ?_;rintro e w6 ⟨v,x,s4,rfl,⟨l,rfl,he⟩,ht6,hp6,hn6,hsk6⟩;obtain⟨kd,op',vk,vi,vs,tb,nm,pp,pm,pc,rfl⟩:=he.form;have hN:=P12.sW (op:=op) HG.out (λh=>ho h.1) hn6;obtain⟨-,hd7,hsk7⟩:=HDI.out.2 _ (P12.Sk.trans hsk6 (P12.du [41] s4));have HT6:=aa (ah.trans HT1.out (ah.trans ht4' (ah.trans (tu trivial) ht6)));have hq6:ah br w1 w6:=ah.trans ht4' (ah.trans (tu trivial) ht6);have hs6:=hq6.size;have hsx6:=ht4'.size;have HZ6:=aa (hq6.held hz1 ab);have HE6:=aa (he.mono (S':=λb=>w.heap.size<b/\b<w6.heap.size) (λb hb hl=>⟨by omega,hl⟩))
   clear ht6 hq6 hn6 hsk6 he;go_wp2_with fail;refine(dO br s4 [41] aq _ (hp6.ext Xk.xt)).mono ?_;rintro e w7 ⟨rfl,ht7,hp7⟩;have hs7:=ht7.size;simp only[ag]at hs7;go_wp2_with fail;refine(mX br _ _ (hp7.ext Xk.xt) hd7).mono ?_;rintro e w8 ⟨rfl,ht8,hp8⟩;have ht8':ah br (w6.alloc (bu (ao kd op' vk vi vs tb nm (.slice pp pm pc)))) w8:=ah.trans ht7 (ah.trans (tu trivial) ht8);have hs8:=ht8'.size;simp only[ag]at hs8;have ha8:=ht8'.held (aw w6 _) ab;have HZ8:=aa (ht8'.held ((ah.alloc (ah.refl br w6) _).held HZ6.out ab) ab)
   have HE8:=aa (aC.bg (w':=w8) (S':=λb=>w.heap.size<b/\b<w6.heap.size) (λb hb hl=>((ah.alloc (ah.refl br w6) _).trans ht8').block hl ab) (λb hb _=>hb) HE6.out);have HT8:=aa (ah.trans HT6.out ((ah.alloc (ah.refl br w6) _).trans ht8'));have HP8:=aa hp8;obtain⟨c0,c1,c2,c3,c4,c5,c6,c7,c8,c9⟩:=bA ha8;clear ht7 ht8 ht8' ha8 HZ6 HE6 HT6;have hz8:=HZ8.out;have hE8:=HE8.out.mono (S':=λb=>w.heap.size<b) (λb hb _=>hb.1);have hzA:=((xal w8 (bu (ao kd op' vk vi vs tb nm (.slice pp pm pc)))).block _ ab).trans hz8
   have HEF:Hid (aC (λb=>w.heap.size<b) (w8.alloc (bu (ao kd op' vk vi vs tb nm (.slice pp pm pc)))) (.call op x) (ao 5 op 0 0 [] [] [] (.slice (some ⟨w8.heap.size,0,none⟩) 1 1))):=aa ⟨w8.heap.size,ao kd op' vk vi vs tb nm (.slice pp pm pc),by omega,rfl,dh (aw w8 _),rfl,hE8.ext (xal _ _)⟩;have HTF:=aa (ah.alloc HT8.out (bu (ao kd op' vk vi vs tb nm (.slice pp pm pc))));have HPF:=aa (HP8.out.ext (xal _ (bu (ao kd op' vk vi vs tb nm (.slice pp pm pc)))));clear HX HG HDI HT1 hz1 HZ8 HE8 HT8 HP8 hp6 hp7 hp8 hE8 hz8;go_wp2_with ((refine pw (hzA) ?_;intro wZ hpZ))
   exact ar (aH rfl rfl hpZ.blk aA rfl au) rfl (Cm.expr hpZ (HEF.out) (HTF.out) (HPF.out) lr hN hsk7)
end Go.Proofs.YtkpmclddjkebeaaGreatDoor
namespace P12
theorem B4{ex:R->Except Er (E×R)}{F:R->Except Er (E×R)}{r:R}(h:cZ ex r=F r){x:E}{s':PS}(hx:Nx F (.ok r) x s'):Nx (cZ ex) (.ok r) x s':=by
 unfold Nx at hx ⊢;dsimp only at hx ⊢;rw[h];exact hx
theorem uT{s:PS}{x:E}{s':PS}(h:Nx column s x s'):Sk s s':=by
 rw[pn h (vD s)];split
 ·exact((fM s).trans (dK _ _)).trans (fM _)
 ·exact(fM s).trans (dK _ _)
theorem EP{ex:R->Except Er (E×R)}{r:R}(hk:(nxt r).kind=1):cZ ex r=column r:=by
 unfold cZ;simp only[hk,if_true];rw[if_neg aq,if_neg aq]
theorem rQ{ex:R->Except Er (E×R)}{r:R}(hk:(nxt r).kind=3)(X:E)(hX:dec (nxt r).text≤9223372036854775807->X = .val 2 (dec (nxt r).text) []):Nx (cZ ex) (.ok r) X (cf (if dec (nxt r).text≤9223372036854775807 then .ok r else cH 123 (.ok r))):=by
 unfold Nx cZ;simp only[hk,if_true,int];by_cases hd:dec (nxt r).text≤9223372036854775807
 ·rw[if_neg ab,if_pos hd,hX hd];exact⟨rfl,rfl⟩
 ·rw[if_pos ab,if_neg hd];rfl
theorem wA{ex:R->Except Er (E×R)}{r:R}(hk:(nxt r).kind=4):Nx (cZ ex) (.ok r) (.val 3 0 (nxt r).text) (cf (ew (nxt r).text.length 40 (.ok r))):=by
 unfold Nx cZ ew;simp only[hk,if_true];rw[if_neg aq];by_cases hl:40<(nxt r).text.length
 ·rw[if_pos hl,if_pos hl];rfl
 ·rw[if_neg hl,if_neg hl];exact⟨rfl,rfl⟩
def Oth(r:R):Prop:=(nxt r).kind≠3/\(nxt r).kind≠4/\(nxt r).kind≠1
theorem qe{ex:R->Except Er (E×R)}{r:R}(h:Oth r):cZ ex r=if isT [40] r then within ex r else if(nxt r).kind=2 then
  match lZ (nxt r).text with
  | mE op=>call ex op (ax r)
  | mg=>
   if(nxt r).text = [78,85,76,76]then .ok (E.val 0 0 [],ax r)
   else if(nxt r).text = [84,82,85,69]then .ok (E.val 1 1 [],ax r)
   else if(nxt r).text = [70,65,76,83,69]then .ok (E.val 1 0 [],ax r)
   else bU 120 r
 else bU 120 r:=by
 unfold cZ;simp only[h.1,h.2.1,h.2.2,if_false];rfl
theorem mR{ex:R->Except Er (E×R)}{r:R}(hg:Gd r)(h:Oth r){w:T}{x:E}(hw:(w = [78,85,76,76]/\x = .val 0 0 [])∨(w = [84,82,85,69]/\x = .val 1 1 [])∨(w = [70,65,76,83,69]/\x = .val 1 0 []))(hb:(bn w (.ok r)).1=true):Nx (cZ ex) (.ok r) x (bn w (.ok r)).2:=by
 obtain⟨r',e,h1,h2⟩:=ie hb
 cases e;rw[h2]
 have hk:(nxt r).kind=2/\(nxt r).text=w:=by
  have:isK 2 w (.ok r)=true:=by rw[gl hg (by rcases hw with⟨rfl,-⟩|⟨rfl,-⟩|⟨rfl,-⟩<;>decide)];exact h1
  unfold isK at this;simpa using this
 have h40:isT [40] r=false:=by rw[← gn hg aq];unfold isK;simp[hk.1]
 unfold Nx;dsimp only;rw[qe h,h40];simp only[aS,if_false,hk.1,if_true,hk.2];rcases hw with⟨rfl,rfl⟩|⟨rfl,rfl⟩|⟨rfl,rfl⟩<;>exact⟨rfl,rfl⟩
theorem AP{ex:R->Except Er (E×R)}{r:R}(hg:Gd r)(h:Oth r)(hb:isK 5 [40] (.ok r)=true){x:E}{s3:PS}(hx:Nx ex (cf (dA (.ok r))) x s3):Nx (cZ ex) (.ok r) x (de (bE [41] s3)):=by
 rw[gn hg aq]at hb;unfold Nx;dsimp only;rw[qe h,hb,if_pos rfl,within,if_neg (by rw[hb];simp)]
 cases ho:opens r with
 | error e=>
  simp only[dA,ho,cf]at hx
  cases hx;rfl
 | ok r1=>
  simp only[dA,ho,cf]at hx;unfold Nx at hx;dsimp only at hx ⊢
  cases he:ex (ax r1)with
  | error e=>rw[he]at hx;cases hx;rfl
  | ok p=>
   rw[he]at hx;obtain⟨rfl,rfl⟩:=hx;dsimp only[bE]
   cases bL [41] p.2 with
   | error e=>rfl
   | ok r3=>exact⟨rfl,rfl⟩
theorem wG{ex:R->Except Er (E×R)}{r:R}(hg:Gd r)(h:Oth r)(hk:(nxt r).kind=2){op:Int}(ho:lZ (nxt r).text=mE op){x:E}{s':PS}(hx:Nx (λr=>call ex op (ax r)) (.ok r) x s'):Nx (cZ ex) (.ok r) x s':=by
 refine B4 ?_ hx;have h40:isT [40] r=false:=by rw[← gn hg aq];unfold isK;simp[hk]
 rw[qe h,h40];simp only[aS,if_false,hk,if_true,ho]
theorem yA{ex:R->Except Er (E×R)}{r:R}(hg:Gd r)(h:Oth r)(h1:isK 5 [40] (.ok r)=false)(h2:(bn [78,85,76,76] (.ok r)).1=false)(h3:(bn [84,82,85,69] (.ok r)).1=false)(h4:(bn [70,65,76,83,69] (.ok r)).1=false)(h5:(nxt r).kind=2->lZ (nxt r).text=mg)(X:E):Nx (cZ ex) (.ok r) X (cH 120 (.ok r)):=by
 rw[gn hg aq]at h1
 have e:∀w:T,P11.fI.contains w=false->(bn w (.ok r)).1=false->(nxt r).kind=2->(nxt r).text≠w:=λw hw hb hk e=>by
  have:=(cp hb).2 r rfl;rw[← gl hg hw]at this;unfold isK at this;simp[hk,e]at this
 unfold Nx;dsimp only;rw[qe h,h1];simp only[aS,if_false];by_cases hk:(nxt r).kind=2
 ·rw[if_pos hk,h5 hk];dsimp only;rw[if_neg (e _ aq h2 hk),if_neg (e _ aq h3 hk),if_neg (e _ aq h4 hk)];rfl
 ·rw[if_neg hk];rfl
end P12
namespace P12
def Rw{α:Type}(F:R->Except Er (List α×R))(most:Nat)(could:R->Bool)(read:R->Except Er (α×R))(s s':PS)(xs:List α):Prop:=
 Sk s s'/\∃f,(∀r,s' = .ok r->r.l.length≤f)/\∀X S',Nx (eJ most could read f xs.length) s' X S'->Nx F s (xs++X) S'
theorem Rw.start{α:Type}(most:Nat)(could:R->Bool)(read:R->Except Er (α×R))(s:PS):Rw (λr=>eJ most could read r.l.length 0 r) most could read s s []:=by
 refine⟨Sk.refl s,?_⟩
 cases s with
 | error e=>exact⟨0,λr e=>(by cases e),λX S' h=>h⟩
 | ok r=>exact⟨r.l.length,λr' e=>(by cases e;exact ai _),λX S' h=>h⟩
theorem Rw.err{α:Type}{F:R->Except Er (List α×R)}{most:Nat}{could:R->Bool}{read:R->Except Er (α×R)}{s:PS}{e:Er}{xs:List α}(h:Rw F most could read s (.error e) xs):Nx F s xs (.error e):=by
 obtain⟨-,f,-,h⟩:=h;have:=h [] (.error e) rfl;rwa [pL]at this
def dF(most n:Nat)(could:R->Bool):PS->PS
 | .error e => .error e
 | .ok r=>if(decide (most<n+1)&&could r)=true then cH 122 (.ok r)else .ok r
theorem B1(most n:Nat)(could:R->Bool)(s:PS):Sk s (dF most n could s):=by
 cases s with
 | error e=>rfl
 | ok r=>
  unfold dF;dsimp only;split
  ·exact gQ _ _
  ·exact Sk.refl _
theorem EJ{α:Type}{most:Nat}{could:R->Bool}{read:R->Except Er (α×R)}{f n:Nat}{r:R}{y:α}{s2:PS}(h2:Nx read (dF most n could (.ok r)) y s2):
  ((bn [44] s2).1=false->Nx (eJ most could read (f+1) n) (.ok r) [y] s2)/\∀X S',(bn [44] s2).1=true->Nx (eJ most could read f (n+1)) (bn [44] s2).2 X S'->Nx (eJ most could read (f+1) n) (.ok r) (y::X) S':=by
 unfold dF at h2;dsimp only at h2;by_cases hc:(decide (most<n+1)&&could r)=true
 ·rw[if_pos hc]at h2;have h3:s2=cH 122 (.ok r):=h2;subst h3;refine⟨λ_=>?_,λX S' h=>by cases h⟩;unfold Nx;dsimp only;rw[eJ,if_pos hc];rfl
 ·rw[if_neg hc]at h2;unfold Nx at h2 ⊢;dsimp only at h2 ⊢;rw[eJ,if_neg hc]
  cases hr:read r with
  | error e=>
   rw[hr]at h2;dsimp only at h2 ⊢;subst h2;exact⟨λ_=>rfl,λX S' h=>by cases h⟩
  | ok p=>
   obtain⟨x,r2⟩:=p;rw[hr]at h2;dsimp only at h2 ⊢;obtain⟨rfl,rfl⟩:=h2;unfold bn has;dsimp only
   cases hi:isT [44] r2
   ·simp only[aS,if_false,and_self,true_implies,false_implies,implies_true]
   ·simp only[if_true,true_implies,eO,false_implies,true_and];intro X S' h
    cases hq:eJ most could read f (n+1) (ax r2)with
    | error e=>rw[hq]at h;exact h
    | ok q=>
     rw[hq]at h;obtain⟨rfl,rfl⟩:=h;exact⟨rfl,rfl⟩
theorem Rw.step{α:Type}{F:R->Except Er (List α×R)}{most:Nat}{could:R->Bool}{read:R->Except Er (α×R)}{s:PS}{r:R}{xs:List α}(h:Rw F most could read s (.ok r) xs)(hg:Gd r){y:α}{s2:PS}(h2:Nx read (dF most xs.length could (.ok r)) y s2)(hs:Sk (dF most xs.length could (.ok r)) s2):
  ((bn [44] s2).1=false->Nx F s (xs ++ [y]) s2/\Sk s s2)/\((bn [44] s2).1=true->Rw F most could read s (bn [44] s2).2 (xs ++ [y])/\∀r3,(bn [44] s2).2 = .ok r3->r3.l.length<r.l.length):=by
 obtain⟨h0,f,h1,h⟩:=h;have hp:=hg.good.pos;have hsk:Sk (.ok r) s2:=(B1 _ _ _ _).trans hs;obtain⟨f,rfl⟩:∃k,f=k+1:=⟨f-1,by have:=h1 r rfl;omega⟩;have hst:=EJ (f:=f) h2;refine⟨λhb=>⟨h _ _ (hst.1 hb),h0.trans hsk⟩,λhb=>?_⟩
 have hlt:∀r3,(bn [44] s2).2 = .ok r3->r3.l.length<r.l.length:=λr3 e=>by
  obtain⟨r2,rfl,ht,hs2⟩:=P12.ie hb;rw[hs2]at e
  cases e;have hk:=hsk r2 rfl
  have h3:r2.l ≠ []:=λe=>by
   unfold isT nxt at ht;rw[e]at ht;simp at ht
  have h4:=fj (el ht);have h5:=hk.suf.length_le;have h6:=List.length_pos_iff.2 h3;rw[h4];simp only[List.length_tail];omega
 refine⟨⟨h0.trans (hsk.trans (dK _ _)),f,λr3 e=>(by have:=hlt r3 e;have:=h1 r rfl;omega),λX S' hX=>?_⟩,hlt⟩;have:=h _ _ (hst.2 X S' hb (by rwa [aN,bf]at hX));rwa [List.append_assoc,List.singleton_append]
def gJ{α:Type}(F:R->Except Er (List α×R))(r:R):Except Er (List α×R):=
 match F r with
 | .error e => .error e
 | .ok (l,r)=>
  match bL [41] r with
  | .error e => .error e
  | .ok r => .ok (l,r)
theorem yE{α:Type}{F:R->Except Er (List α×R)}{s s1:PS}{l:List α}(h:Nx F s l s1):Nx (gJ F) s l (bE [41] s1):=by
 cases s with
 | error e=>cases h;rfl
 | ok r=>
  unfold Nx at h ⊢;dsimp only at h ⊢;unfold gJ
  cases hF:F r with
  | error e=>rw[hF]at h;cases h;rfl
  | ok p=>
   rw[hF]at h;obtain⟨rfl,rfl⟩:=h;dsimp only[bE]
   cases bL [41] p.2 with
   | error e=>rfl
   | ok r2=>exact⟨rfl,rfl⟩
end P12
namespace P12
def km(r:R):Er:=((nxt r).pos,if nc (nxt r)=true then kk (nxt r)else 120)
theorem rk(r:R):dV r=(nc (nxt r)&&kk (nxt r)==0):=by
 unfold dV nc kk named;generalize nxt r=t;dsimp only;by_cases h1:t.kind=1
 ·by_cases h:t.text.length≤24<;>simp[h1,h]
 by_cases h3:t.kind=3
 ·by_cases h:dec t.text≤9223372036854775807<;>simp[h3,h]
 by_cases h4:t.kind=4
 ·simp[h4]
 by_cases h5:t.kind=5
 ·simp[h5]
 by_cases h2:t.kind=2
 ·simp only[h2,lZ];by_cases a1:t.text = [67,79,85,78,84]
  ·simp[a1]
  by_cases a2:t.text = [83,85,77]
  ·simp[a2]
  by_cases a3:t.text = [77,73,78]
  ·simp[a3]
  by_cases a4:t.text = [77,65,88]
  ·simp[a4]
  simp[a1,a2,a3,a4];grind
 ·simp[h1,h2,h3,h4,h5]
theorem AE{ex:R->Except Er (E×R)}{r:R}(hg:Gd r)(hb:dV r=false):cZ ex r = .error (km r):=by
 have e40:isT [40] r=((nxt r).kind==5&&(nxt r).text == [40]):=(gn hg aq).symm;unfold dV at hb;unfold cZ km;rw[e40];dsimp only at hb ⊢;by_cases h1:(nxt r).kind=1
 ·simp only[h1,if_true,named]at hb;have hl:24<(nxt r).text.length:=by simpa using hb
  simp[h1,column,name,hl,bU,nc,kk]
 by_cases h3:(nxt r).kind=3
 ·simp[h3]at hb;have hl:¬ dec (nxt r).text≤9223372036854775807:=ab;simp[h3,int,hb,bU,nc,kk,hl]
 by_cases h4:(nxt r).kind=4
 ·simp[h4]at hb
 by_cases h5:(nxt r).kind=5
 ·simp[h5]at hb;simp[h5,hb,bU,nc]
 by_cases h2:(nxt r).kind=2
 ·simp[h2]at hb;obtain⟨⟨⟨⟨b1,b2⟩,b3⟩,b4⟩,b5⟩:=hb
  have hc:(nxt r).text ≠ [67,79,85,78,84]/\(nxt r).text ≠ [83,85,77]/\(nxt r).text ≠ [77,73,78]/\(nxt r).text ≠ [77,65,88]:=by
   refine⟨?_,?_,?_,?_⟩<;>(intro e;rw[e]at b1;simp[lZ]at b1)
  simp[h2,b1,b2,b3,b4,b5,bU,nc,hc]
 ·simp[h1,h2,h3,h4,h5,bU,nc]
theorem pz{r:R}(hg:Gd r)(hb:dV r=false):expr r = .error (km r):=by
 have hm:isT [45] r=false:=by
  rw[← gn hg aq];unfold isK;rw[rk]at hb;unfold nc kk at hb;by_cases h5:(nxt r).kind=5
  ·simp[h5]at hb;simp[h5,hb]
  ·simp[h5]
 have hn:isT [78,79,84] r=false:=by
  rw[← gl hg aq];unfold isK;rw[rk]at hb;unfold nc kk at hb;by_cases h2:(nxt r).kind=2
  ·simp[h2]at hb;simp[h2,hb]
  ·simp[h2]
 have h1:dU (kY 100) 101 r = .error (km r):=by rw[dU,if_pos hm];exact AE hg hb
 have h3:Kl (kY 100) 101 r = .error (km r):=kZ (kZ h1);have h4:uN (kY 100) 101 r = .error (km r):=by unfold uN test;rw[h3]
 have h5:ly (uN (kY 100) 101) 101 r = .error (km r):=by rw[ly,if_pos hn];exact h4
 exact kZ (kZ h5)
theorem oE{α:Type}{read:R->Except Er (α×R)}{r:R}(hf:dV r=false->read r = .error (km r)){n:Nat}{y:α}{s2:PS}(h:Nx read (cB (n+1) 16 (.ok r)) y s2)(hs:Sk (cB (n+1) 16 (.ok r)) s2):Nx read (dF 16 n dV (.ok r)) y s2/\Sk (dF 16 n dV (.ok r)) s2:=by
 unfold cB at h hs;unfold dF;dsimp only at h hs ⊢;by_cases hn:n+1≤16
 ·rw[if_pos hn]at h hs;rw[if_neg (by simp;omega)];exact⟨h,hs⟩
 ·rw[if_neg hn]at h hs;rw[show decide (16<n+1)=true by simp;omega,sB];have hbe:=rk r
  cases hb:dV r
  ·rw[if_neg aI];rw[hb]at hbe;have hr:=hf hb
   have hE:s2 = .error (km r):=by
    unfold km
    cases hbt:nc (nxt r)
    ·rw[if_pos hbt]at h;simpa[Nx,cH]using h
    ·rw[hbt]at hbe h;have ho:kk (nxt r)≠0:=by simpa using hbe.symm
     rw[if_neg aI,if_pos ho]at h;simpa[Nx,cH]using h
   subst hE;refine⟨?_,λr' e=>by cases e⟩;unfold Nx;dsimp only;rw[hr]
  ·rw[hb]at hbe;have h1:nc (nxt r)=true/\kk (nxt r)=0:=by simpa using hbe.symm
   rw[if_pos rfl];rw[if_neg (by simp[h1.1]),if_neg (by simp[h1.2])]at h hs;exact⟨h,hs⟩
end P12
namespace P12
theorem cE{α β:Type}{F:R->Except Er (α×R)}{G:α×R->Except Er (β×R)}{s s1 s2:PS}{x:α}{y:β}(h1:Nx F s x s1)(h2:Nx (λr=>G (x,r)) s1 y s2):Nx (λr=>F r >>= G) s y s2:=by
 cases s with
 | error e=>cases h1;exact h2
 | ok r=>
  unfold Nx at h1 ⊢;dsimp only at h1 ⊢
  cases hF:F r with
  | error e=>rw[hF]at h1;cases h1;exact h2
  | ok p=>
   rw[hF]at h1;obtain⟨rfl,rfl⟩:=h1;exact h2
theorem fw{β:Type}{G:R->Except Er (β×R)}{s s2:PS}{t:T}{y:β}(h:Nx G (bE t s) y s2):Nx (λr=>bL t r >>= G) s y s2:=by
 cases s with
 | error e=>exact h
 | ok r=>
  unfold bE at h;unfold Nx at h ⊢;dsimp only at h ⊢
  cases hF:bL t r with
  | error e=>rw[hF]at h;exact h
  | ok r1=>rw[hF]at h;exact h
theorem fo{α:Type}(x:α)(s:PS):Nx (λr => .ok (x,r)) s x s:=by
 cases s with
 | error e=>rfl
 | ok r=>exact⟨rfl,rfl⟩
theorem fS{β:Type}{A B:R->Except Er (β×R)}{s s2:PS}{t:T}{y:β}(hb:(bn t s).1=true)(h:Nx A (bn t s).2 y s2):Nx (λr=>if isT t r=true then A (ax r)else B r) s y s2:=by
 obtain⟨r,rfl,h1,h2⟩:=ie hb;rw[h2]at h;unfold Nx at h ⊢;dsimp only at h ⊢;rw[if_pos h1];exact h
theorem dq{β:Type}{A B:R->Except Er (β×R)}{s s2:PS}{t:T}{y:β}(hb:(bn t s).1=false)(h:Nx B s y s2):Nx (λr=>if isT t r=true then A r else B r) s y s2:=by
 obtain⟨-,h2⟩:=cp hb
 cases s with
 | error e=>exact h
 | ok r=>
  unfold Nx at h ⊢;dsimp only at h ⊢;rw[if_neg (by rw[h2 r rfl];simp)];exact h
theorem gR(s:PS):Nx name s (bZ s).1 (bZ s).2:=by
 cases s with
 | error e=>rfl
 | ok r=>
  unfold bZ Nx;dsimp only
  cases name r with
  | error e=>rfl
  | ok p=>exact⟨rfl,rfl⟩
theorem B5{α:Type}{F G:R->Except Er (α×R)}{s s':PS}{x:α}(h:Nx F s x s')(e:∀r,s = .ok r->F r=G r):Nx G s x s':=by
 cases s with
 | error e=>exact h
 | ok r=>
  unfold Nx at h ⊢;dsimp only at h ⊢;rwa [← e r rfl]
end P12
namespace Go.Proofs.YtkpmclddjkebeaaGreatDoor
open Go.RowKit
open _root_.P12 (PS Gd okB cH isK cf Nx bn bE bZ bR ew dA de cB Sk inS)
theorem ym(br:Nat)(e0:P12.Er)(F:P12.R->Except P12.Er (P12.E×P12.R))(w:World)(hr:Ps br (.error e0) w):Calls af 295 #[rp br] w (Cm br w (.error e0) (eN w) F):=by
 have HO:=aa λW (hx:Xk.Ext w W)=>eK br (.error e0) W (hr.ext hx);have HR:=aa hr;have lr:=hr.lt;have hz:=aw w (bu df.toList);clear hr;go_enter Tryz.func295,Tryz.ntmps295;go_wp2_with fail;have hT2:=ah.alloc (ah.refl br w) (bu df.toList);have hP2:=HR.out.ext (xal w (bu df.toList));have hO2:=HO.out _ (xal w (bu df.toList));have hsz:w.heap.size<(w.alloc (bu df.toList)).heap.size:=by rw[ag];omega
 change Calls _ _ _ (w.alloc (bu df.toList)) _
 generalize w.alloc (bu df.toList)=wz at hz hT2 hP2 hO2 hsz ⊢;refine hO2.mono ?_;rintro e w2 ⟨rfl,rfl⟩;have HT2:=aa hT2;have HP2:=aa hP2;clear hT2 hP2 HR HO;have hN:Nx F (.error e0) P12.E.none (.error e0):=rfl;have hS:Sk (.error e0) (.error e0):=rfl;go_wp2_with ((refine pw (hz) ?_;intro wZ hpZ));exact ar (aH rfl rfl hpZ.blk aA rfl au) rfl (Cm.expr hpZ ((show aC (λb=>w.heap.size<b) _ .none _ from rfl)) (HT2.out) (HP2.out) lr hN hS)
theorem AA(br:Nat)(ex:P12.R->Except P12.Er (P12.E×P12.R))(r:P12.R)(wo:World)(hr:Ps br (.ok r) wo)
  (hX:∀ (s1:PS) (W:World),(∀r1,s1 = .ok r1->r1.deep=r.deep+1)->Ps br s1 W->Calls af 162 #[rp br] W (Cm br W s1 (eN W) ex)) :
  Calls af 295 #[rp br] wo (Cm br wo (.ok r) (eN wo) (P12.cZ ex)):=by
 have lr:=hr.lt;have hgd:=hr.gd;have hz:=aw wo (bu df.toList);have hT:=ah.alloc (ah.refl br wo) (bu df.toList);have hP:=hr.ext (xal wo (bu df.toList));have hsz:wo.heap.size+1≤(wo.alloc (bu df.toList)).heap.size:=Nat.le_of_eq (ag ..).symm;have HX:=aa hX;clear hr hX;go_enter Tryz.func295,Tryz.ntmps295;go_wp2_with fail;change Calls _ _ _ (wo.alloc (bu df.toList)) _
 generalize wo.alloc (bu df.toList)=w at hz hT hP hsz ⊢;refine(eK br (.ok r) w hP).mono ?_;rintro e w2 ⟨rfl,rfl⟩;have HPS:=aa hP;have HZ:=aa hz;have HTA:=aa hT;have HGD:=aa hgd;obtain⟨b,cap,L,i,d,a,e,h,hs⟩:=hP;obtain⟨l0,c0,c1,c2,c3,c4⟩:=h.cells;obtain⟨t,ht,lb,t0,t1,t2⟩:=h.tok;have hi:=h.hi;have hlen:=h.len;have hib:(i:Int)<(L.length:Int):=ab;have hnt:=hs.tok ht;have HGT:Hid (t.kind=0∨P11.good (P11.kt t)):=aa (by rw[← hnt];exact hgd.nxt);have htl:t.text.length≤8193:=by rw[← hnt];exact hgd.good.lR.len
 have HNT:=aa hnt;clear h hs ht hz hT hgd hnt;go_wp2_with fail;refine sG λg W tl=>?_;intro hg HXW lg x0 x1 x2;clear c0 c1 c2 c3 c4 t0 t1 t2;have hsW:=HXW.out.size;by_cases k3:t.kind=3
 ·have hf7:=P12.Jh (HGT.out.resolve_left ab) k3
  have HF:∀W,Calls af 213 #[bs t.text,bs P12.yL] W λe w'=>e = .returned (.bool (decide (P12.dec t.text≤9223372036854775807)))/\W=w':=λW=>by
   have h:=Bo t.text P12.yL W;rw[← hf7];exact h
  have HF:=aa HF;have HK3:=aa k3;clear hf7;rw[k3]at x0;go_wp2_with fail;refine(HF.out _).mono ?_;rintro e' W2 ⟨rfl,rfl⟩;by_cases hd:P12.dec t.text≤9223372036854775807
  ·rw[decide_eq_true hd]
   have hdg:∀c∈t.text,P11.digit c=true:=by
    obtain⟨c,s,h1,-,h2⟩:=P12.nG (HGT.out.resolve_left (by rw[HK3.out];decide)) HK3.out;rw[h1];exact h2
   go_wp2_with fail;refine(qi t.text _ ab).mono ?_;rintro e w5 ⟨n,rfl,hn,rfl⟩;have hw:wrap64 n=(P12.dec t.text:Int):=by rw[hn hdg ab];unfold wrap64;omega
   have hN:=P12.rQ (ex:=ex) (r:=r) (by rw[HNT.out];exact HK3.out) (.val 2 (wrap64 n) []) (λ_=>by rw[HNT.out,hw]);rw[HNT.out,if_pos hd]at hN;have HN:=aa hN;clear hdg hN k3 hw hn hd HF HK3;go_wp2_with fail;refine(fL br (.ok r) _ (HPS.out.ext (Xk.Ext.trans HXW.out Xk.xt))).mono ?_;rintro e w4 ⟨rfl,ht4,hp4⟩;have htW:ah br W w4:=ah.trans (tu trivial) ht4;have htC:ah br w w4:=ah.trans (ah.aR HXW.out) htW;have hz4:=htC.held HZ.out ab;have hs4:=htW.size;have hv4:w4.heap[W.heap.size]?=some (bu (ao 1 0 2 (wrap64 n) [] [] [] aj)):=ht4.held (aw W _) ab;have HT4:=aa (ah.trans HTA.out htC);have HP4:=aa hp4
   have hN:=HN.out;have hS:=P12.eI (.ok r);obtain⟨c0,c1,c2,c3,c4,c5,c6,c7,c8,c9⟩:=bA hv4;have lV:=(ae.1 hv4).1;clear ht4 hp4 htC htW HPS HZ HTA HXW x0 x1 x2;go_wp2_with ((refine pw (hz4) ?_;intro wZ hpZ));exact ar (aH rfl rfl hpZ.blk aA rfl au) rfl (Cm.expr hpZ ((show aC (λb=>wo.heap.size<b) _ (.val 2 (wrap64 n) []) _ from rfl)) (HT4.out) (HP4.out) lr hN hS)
  ·rw[decide_eq_false hd];have HN:=aa λX=>P12.rQ (ex:=ex) (r:=r) (by rw[HNT.out];exact HK3.out) X (λh=>absurd (by rw[HNT.out]at h;exact h) hd);rw[HNT.out,if_neg hd]at HN;clear k3;go_wp2_with fail;refine(iG br _ 123 aq _ (HPS.out.ext (Xk.Ext.trans HXW.out Xk.xt))).mono ?_;rintro e w3 ⟨rfl,ht3,hp3⟩;have hv3:w3.heap[W.heap.size]?=some (bu (ao 1 0 0 0 [] [] [] aj)):=ht3.held (aw W _) ab;have htW:ah br W w3:=ah.trans (tu trivial) ht3;have hx1:=htW.cell x1 ab;have hlg:=aK lg htW.size;have hs3:=htW.size;obtain⟨c0,c1,c2,c3,c4,c5,c6,c7,c8,c9⟩:=bA hv3;obtain⟨f0,f1,f2,f3,f4,f5,f6,f7,f8,f9⟩:=dH hv3
   have lV:=(ae.1 hv3).1;clear ht3;go_wp2_with fail;refine(qi t.text _ ab).mono ?_;rintro e w5 ⟨n,rfl,hn,rfl⟩;clear hn hd HF HK3;go_wp2_with fail;refine(fL br (cH 123 (.ok r)) _ (psx hp3)).mono ?_;rintro e w4 ⟨rfl,ht4,hp4⟩;have htC:ah br w w4:=ah.trans (ah.aR HXW.out) (ah.trans (tu htW) ht4);have hs4:=ht4.size;simp only[aM]at hs4;have hz4:=htC.held HZ.out ab;have hv4:w4.heap[W.heap.size]?=some (bu (ao 1 0 2 (wrap64 n) [] [] [] aj)):=ht4.held (heap_setCell_same _ W.heap.size 4 _ _ _ (heap_setCell_same _ W.heap.size 3 _ _ _ (heap_setCell_same w3 W.heap.size 2 _ _ _ hv3))) ab
   have HT4:=aa (ah.trans HTA.out htC);have HP4:=aa hp4;have hN:=(HN.out (.val 2 (wrap64 n) []));have hS:Sk (.ok r) (cf (cH 123 (.ok r))):=P12.Sk.trans (P12.gQ _ _) (P12.eI _);clear c0 c1 c2 c3 c4 c5 c6 c7 c8 c9 f0 f1 f2 f3 f4 f5 f6 f7 f8 f9;obtain⟨c0,c1,c2,c3,c4,c5,c6,c7,c8,c9⟩:=bA hv4;clear ht4 hp4 htC htW HPS HZ HTA HXW x0 x1 x2 hx1 hv3 lV;have lV:=(ae.1 hv4).1;go_wp2_with ((refine pw (hz4) ?_;intro wZ hpZ));exact ar (aH rfl rfl hpZ.blk aA rfl au) rfl (Cm.expr hpZ ((show aC (λb=>wo.heap.size<b) _ (.val 2 (wrap64 n) []) _ from rfl)) (HT4.out) (HP4.out) lr hN hS)
 by_cases k4:t.kind=4
 ·have hN:=P12.wA (ex:=ex) (r:=r) (by rw[HNT.out];exact k4);rw[HNT.out]at hN;have HN:=aa hN;rw[k4]at x0;clear hN k3 k4;by_cases hl:40<t.text.length
  ·have hlb:(40:Int)<(t.text.length:Int):=ab;unfold P12.ew at HN;rw[if_pos hl]at HN;go_wp2_with fail;refine(iG br _ 122 aq _ (HPS.out.ext (Xk.Ext.trans HXW.out Xk.xt))).mono ?_;rintro e w3 ⟨rfl,ht3,hp3⟩;have hv3:w3.heap[W.heap.size]?=some (bu (ao 1 0 0 0 [] [] [] aj)):=ht3.held (aw W _) ab;have htW:ah br W w3:=ah.trans (tu trivial) ht3;have hx1:=htW.cell x1 ab;have hlg:=aK lg htW.size;have hs3:=htW.size;obtain⟨c0,c1,c2,c3,c4,c5,c6,c7,c8,c9⟩:=bA hv3;obtain⟨f0,f1,f2,f3,f4,f5,f6,f7,f8,f9⟩:=dH hv3;have lV:=(ae.1 hv3).1;clear ht3;go_wp2_with fail;refine(fL br (cH 122 (.ok r)) _ (psx hp3)).mono ?_
   rintro e w4 ⟨rfl,ht4,hp4⟩;have htC:ah br w w4:=ah.trans (ah.aR HXW.out) (ah.trans (tu htW) ht4);have hs4:=ht4.size;simp only[aM]at hs4;have hz4:=htC.held HZ.out ab;have hv4:w4.heap[W.heap.size]?=some (bu (ao 1 0 3 0 t.text [] [] aj)):=ht4.held (heap_setCell_same _ W.heap.size 4 _ _ _ (heap_setCell_same _ W.heap.size 3 _ _ _ (heap_setCell_same w3 W.heap.size 2 _ _ _ hv3))) ab;have HT4:=aa (ah.trans HTA.out htC);have HP4:=aa hp4;have hN:=HN.out;have hS:Sk (.ok r) (cf (cH 122 (.ok r))):=P12.Sk.trans (P12.gQ _ _) (P12.eI _);clear c0 c1 c2 c3 c4 c5 c6 c7 c8 c9 f0 f1 f2 f3 f4 f5 f6 f7 f8 f9
   obtain⟨c0,c1,c2,c3,c4,c5,c6,c7,c8,c9⟩:=bA hv4;clear ht4 hp4 htC htW HPS HZ HTA HXW x0 x1 x2 hx1 hv3 lV;have lV:=(ae.1 hv4).1;go_wp2_with ((refine pw (hz4) ?_;intro wZ hpZ));exact ar (aH rfl rfl hpZ.blk aA rfl au) rfl (Cm.expr hpZ ((show aC (λb=>wo.heap.size<b) _ (.val 3 0 t.text) _ from rfl)) (HT4.out) (HP4.out) lr hN hS)
  ·have hlb:¬ (40:Int)<(t.text.length:Int):=ab;unfold P12.ew at HN;rw[if_neg hl]at HN;go_wp2_with fail;refine(fL br (.ok r) _ (HPS.out.ext (Xk.Ext.trans HXW.out Xk.xt))).mono ?_;rintro e w4 ⟨rfl,ht4,hp4⟩;have htW:ah br W w4:=ah.trans (tu trivial) ht4;have htC:ah br w w4:=ah.trans (ah.aR HXW.out) htW;have hz4:=htC.held HZ.out ab;have hs4:=htW.size;have hv4:w4.heap[W.heap.size]?=some (bu (ao 1 0 3 0 t.text [] [] aj)):=ht4.held (aw W _) ab;have HT4:=aa (ah.trans HTA.out htC);have HP4:=aa hp4;have hN:=HN.out;have hS:=P12.eI (.ok r);obtain⟨c0,c1,c2,c3,c4,c5,c6,c7,c8,c9⟩:=bA hv4
   have lV:=(ae.1 hv4).1;clear ht4 hp4 htC htW HPS HZ HTA HXW x0 x1 x2;go_wp2_with ((refine pw (hz4) ?_;intro wZ hpZ));exact ar (aH rfl rfl hpZ.blk aA rfl au) rfl (Cm.expr hpZ ((show aC (λb=>wo.heap.size<b) _ (.val 3 0 t.text) _ from rfl)) (HT4.out) (HP4.out) lr hN hS)
 by_cases k1:t.kind=1
 ·(
   have HPC:=aa (P12.EP (ex:=ex) (r:=r) (by rw[HNT.out];exact k1));rw[k1]at x0;go_wp2_with fail;refine(zA br (.ok r) _ (HPS.out.ext (Xk.Ext.trans HXW.out Xk.xt))).mono ?_;rintro e w4 ⟨v,x,s4,rfl,⟨l,rfl,he⟩,ht4,hp4,hn4⟩;obtain⟨kd,op,vk,vi,vs,tb,nm,pp,pm,pc,rfl⟩:=he.form;have hS:=P12.uT hn4;have hN:=P12.B4 HPC.out hn4;have htC:ah br w w4:=ah.trans (ah.aR HXW.out) (ah.trans (tu trivial) ht4);have hz4:=htC.held HZ.out ab;have HT4:=aa (ah.trans HTA.out htC);have hle:W.heap.size≤w4.heap.size:=(ah.trans (tu trivial:ah br W _) ht4).size
   have HE4:=aa (he.mono (S':=λb=>wo.heap.size<b) (λb hb _=>by simp only[ag]at hb;omega));have HP4:=aa hp4;clear he ht4 hp4 htC x0 x1 x2 HPS HZ HTA;go_wp2_with ((refine pw (hz4) ?_;intro wZ hpZ));exact ar (aH rfl rfl hpZ.blk aA rfl au) rfl (Cm.expr hpZ (HE4.out) (HT4.out) (HP4.out) lr hN hS))
 have HOT:Hid (P12.Oth r):=aa (by unfold P12.Oth;rw[HNT.out];exact⟨k3,k4,k1⟩);have e3:(t.kind==3)=false:=by simpa using k3
 have e4:(t.kind==4)=false:=by simpa using k4
 have e1:(t.kind==1)=false:=by simpa using k1
 clear k3 k4 k1 HGT;go_wp2_with fail;refine(fD br (.ok r) [84,82,85,69] aq _ (HPS.out.ext (Xk.Ext.trans HXW.out Xk.xt))).mono ?_;rintro e w2 ⟨rfl,ht2,hp2⟩;have hv2:w2.heap[W.heap.size]?=some (bu (ao 1 0 0 0 [] [] [] aj)):=ht2.held (aw W _) ab;have htW:ah br W w2:=ah.trans (tu trivial) ht2;have hx0:=htW.cell x0 ab;have hx1:=htW.cell x1 ab;have hlg:=aK lg htW.size;have hT2:=ah.trans HTA.out (ah.trans (ah.aR HXW.out) htW);have hz2:=htW.held ((ah.aR (br:=br) HXW.out).held HZ.out ab) ab;clear ht2 x0 x1 x2 HTA HZ HPS htW HXW;have HN0:=aa λX=>P12.yA (ex:=ex) HGD.out HOT.out (X:=X)
 cases hb1:(bn [84,82,85,69] (.ok r)).1
 case true=>
  have hN:=P12.mR (ex:=ex) HGD.out HOT.out (.inr (.inl ⟨rfl,rfl⟩)) hb1;have hS:=P12.dK [84,82,85,69] (.ok r);obtain⟨c0,c1,c2,c3,c4,c5,c6,c7,c8,c9⟩:=bA hv2;obtain⟨g0,g1,g2,g3,g4,g5,g6,g7,g8,g9⟩:=dH hv2;have lV:=(ae.1 hv2).1;have lRet:=(ae.1 (hz2)).1;obtain⟨d0,d1,d2,d3,d4,d5,d6,d7,d8,d9⟩:=bA (hz2);obtain⟨f0,f1,f2,f3,f4,f5,f6,f7,f8,f9⟩:=dH (hz2);have hne:¬ W.heap.size=wo.heap.size:=ab;have hne2:¬ wo.heap.size=W.heap.size:=ab;have HT2:=aa hT2;have HP2:=aa hp2;clear hp2 hT2 hx0 hx1 HN0 HX HGD HOT;go_wp2_with fail
  refine ar (v := .agg (ao 1 0 1 1 [] [] [] aj).toArray) (by simp[results,Tryz.results295,go_sem,hne,hne2,d0,d1,d2,d3,d4,d5,d6,d7,d8,d9]) rfl ⟨_,_,_,rfl,⟨_,rfl,?_⟩,?_,?_,hN,hS⟩
  ·exact(aC.sets (g:=wo.heap.size) (S:=λb=>wo.heap.size<b) (show aC (λb=>wo.heap.size<b) _ (.val 1 1 []) _ from rfl) ab (ao 1 0 1 1 [] [] [] aj) 0).mono (λb hb _=>by omega)
  ·exact ah.setCells (g:=wo.heap.size) (.inl ab) (ao 1 0 1 1 [] [] [] aj) 0 (tu HT2.out)
  ·exact Ps.setCells (g:=wo.heap.size) ab (ao 1 0 1 1 [] [] [] aj) 0 (psx HP2.out)
 obtain⟨hs2,-⟩:=P12.cp hb1;rw[hs2]at hp2;go_wp2_with fail;refine(fD br (.ok r) [70,65,76,83,69] aq _ (hp2.ext Xk.xt)).mono ?_;rintro e w3 ⟨rfl,ht3,hp3⟩;have htW:ah br w2 w3:=ah.trans (tu trivial) ht3;replace hx0:=htW.cell hx0 ab
 replace hx1:=htW.cell hx1 ab
 replace hlg:=aK hlg htW.size
 replace hv2:=htW.held hv2 ab
 replace hT2:=ah.trans hT2 htW
 replace hz2:=htW.held hz2 ab
 clear htW;replace hp2:=hp3
 clear ht3 hp3 hs2;rename World=>w2
 cases hb2:(bn [70,65,76,83,69] (.ok r)).1
 case true=>
  have hN:=P12.mR (ex:=ex) HGD.out HOT.out (.inr (.inr ⟨rfl,rfl⟩)) hb2;have hS:=P12.dK [70,65,76,83,69] (.ok r);obtain⟨c0,c1,c2,c3,c4,c5,c6,c7,c8,c9⟩:=bA hv2;obtain⟨g0,g1,g2,g3,g4,g5,g6,g7,g8,g9⟩:=dH hv2;have lV:=(ae.1 hv2).1;have lRet:=(ae.1 (hz2)).1;obtain⟨d0,d1,d2,d3,d4,d5,d6,d7,d8,d9⟩:=bA (hz2);obtain⟨f0,f1,f2,f3,f4,f5,f6,f7,f8,f9⟩:=dH (hz2);have hne:¬ W.heap.size=wo.heap.size:=ab;have hne2:¬ wo.heap.size=W.heap.size:=ab;have HT2:=aa hT2;have HP2:=aa hp2;clear hp2 hT2 hx0 hx1 HN0 HX HGD HOT;go_wp2_with fail
  refine ar (v := .agg (ao 1 0 1 0 [] [] [] aj).toArray) (by simp[results,Tryz.results295,go_sem,hne,hne2,d0,d1,d2,d3,d4,d5,d6,d7,d8,d9]) rfl ⟨_,_,_,rfl,⟨_,rfl,?_⟩,?_,?_,hN,hS⟩
  ·exact(aC.sets (g:=wo.heap.size) (S:=λb=>wo.heap.size<b) (show aC (λb=>wo.heap.size<b) _ (.val 1 0 []) _ from rfl) ab (ao 1 0 1 0 [] [] [] aj) 0).mono (λb hb _=>by omega)
  ·exact ah.setCells (g:=wo.heap.size) (.inl ab) (ao 1 0 1 0 [] [] [] aj) 0 (tu HT2.out)
  ·exact Ps.setCells (g:=wo.heap.size) ab (ao 1 0 1 0 [] [] [] aj) 0 (psx HP2.out)
 obtain⟨hs2,-⟩:=P12.cp hb2;rw[hs2]at hp2;go_wp2_with fail;refine(fD br (.ok r) [78,85,76,76] aq _ (hp2.ext Xk.xt)).mono ?_;rintro e w3 ⟨rfl,ht3,hp3⟩;have htW:ah br w2 w3:=ah.trans (tu trivial) ht3;replace hx0:=htW.cell hx0 ab
 replace hx1:=htW.cell hx1 ab
 replace hlg:=aK hlg htW.size
 replace hv2:=htW.held hv2 ab
 replace hT2:=ah.trans hT2 htW
 replace hz2:=htW.held hz2 ab
 clear htW;replace hp2:=hp3
 clear ht3 hp3 hs2;rename World=>w2
 cases hb3:(bn [78,85,76,76] (.ok r)).1
 case true=>
  have hN:=P12.mR (ex:=ex) HGD.out HOT.out (.inl ⟨rfl,rfl⟩) hb3;have hS:=P12.dK [78,85,76,76] (.ok r);obtain⟨c0,c1,c2,c3,c4,c5,c6,c7,c8,c9⟩:=bA hv2;have lV:=(ae.1 hv2).1;have HT2:=aa hT2;have HP2:=aa hp2;clear hp2 hT2 hx0 hx1 HN0 HX HGD HOT;go_wp2_with ((refine pw (hz2) ?_;intro wZ hpZ));exact ar (aH rfl rfl hpZ.blk aA rfl au) rfl (Cm.expr hpZ ((show aC (λb=>wo.heap.size<b) _ (.val 0 0 []) _ from rfl)) (HT2.out) (HP2.out) lr hN hS)
 obtain⟨hs2,-⟩:=P12.cp hb3;rw[hs2]at hp2;go_wp2_with fail;refine(nu br (.ok r) [40] _ (hp2.ext Xk.xt)).mono ?_;rintro e w3 ⟨rfl,hx3⟩;have htW:ah br w2 w3:=ah.trans (tu trivial) (ah.aR hx3);replace hp2:=(hp2.ext Xk.xt).ext hx3
 replace hx0:=htW.cell hx0 ab
 replace hx1:=htW.cell hx1 ab
 replace hlg:=aK hlg htW.size
 replace hv2:=htW.held hv2 ab
 replace hT2:=ah.trans hT2 htW
 replace hz2:=htW.held hz2 ab
 clear htW;clear hx3 hv2
 cases hb4:isK 5 [40] (.ok r)
 case true=>
  have HN:=aa λx s3=>P12.AP (ex:=ex) HGD.out HOT.out hb4 (x:=x) (s3:=s3);have HD:=aa λs3=>P12.qZ (r:=r) (s3:=s3);go_wp2_with fail;refine(sU br (.ok r) _ (hp2.ext Xk.xt)).mono ?_;rintro e w4 ⟨rfl,ht4,hp4⟩;go_wp2_with fail;refine(fL br _ _ (hp4.ext Xk.xt)).mono ?_;rintro e w5 ⟨rfl,ht5,hp5⟩;have hT5:=ah.trans hT2 (ah.trans (tu trivial) (ah.trans ht4 (ah.trans (tu trivial) ht5)));have hz5:=(ah.trans (tu trivial:ah br w3 _) (ah.trans ht4 (ah.trans (tu trivial) ht5))).held hz2 ab;have hs5:=(ae.1 hz5).1;have HT5:=aa hT5;clear ht4 ht5 hp4 hp2 hz2 hT5 hT2 HN0;go_wp2_with fail
  refine(HX.out _ _ (HD.out _ (Sk.refl _)).1 (hp5.ext Xk.xt)).mono ?_;rintro e w6 ⟨v,x,s3,rfl,⟨l,rfl,he⟩,ht6,hp6,hn,hsk⟩;obtain⟨kd,op,vk,vi,vs,tb,nm,pp,pm,pc,rfl⟩:=he.form;have hN:=HN.out x s3 hn;have hz6:=ht6.held hz5 ab;have hs6:=ht6.size;have HE:=aa (he.mono (S':=λb=>wo.heap.size<b) (λb hb _=>by omega));have HT6:=aa (ah.trans HT5.out ht6);obtain⟨-,hd3,hsk3⟩:=HD.out _ (P12.Sk.trans hsk (P12.du [41] s3));clear HN HD hn hsk he ht6 hp5 hz5 HT5;go_wp2_with fail;refine(dO br s3 [41] aq _ (hp6.ext Xk.xt)).mono ?_;rintro e w7 ⟨rfl,ht7,hp7⟩;go_wp2_with fail
  refine(mX br _ _ (hp7.ext Xk.xt) hd3).mono ?_;rintro e w8 ⟨rfl,ht8,hp8⟩;have ht68:ah br (w6.alloc (bu (ao kd op vk vi vs tb nm (.slice pp pm pc)))) w8:=ah.trans ht7 (ah.trans (tu trivial) ht8);have hv8:=ht68.held (aw w6 _) ab;have hz8:=ht68.held ((ah.alloc (ah.refl br w6) _).held hz6 ab) ab;have HE8:=aa (aC.bg (w':=w8) (S':=λb=>wo.heap.size<b) (λb hb hl=>((ah.alloc (ah.refl br w6) _).trans ht68).block hl ab) (λb hb hl=>hb) HE.out);have HT8:=aa (ah.trans HT6.out ((ah.alloc (ah.refl br w6) _).trans ht68));have HP8:=aa hp8;have hs8:=(ae.1 hz8).1;obtain⟨c0,c1,c2,c3,c4,c5,c6,c7,c8,c9⟩:=bA hv8
  have lV:=(ae.1 hv8).1;clear ht7 ht8 ht68 hp7 hp8 hp6 hz6 HE HT6 hx0 hx1;go_wp2_with ((refine pw (hz8) ?_;intro wZ hpZ));exact ar (aH rfl rfl hpZ.blk aA rfl au) rfl (Cm.expr hpZ (HE8.out) (HT8.out) (HP8.out) lr hN hsk3)
 by_cases k2:t.kind=2
 ·rw[k2]at hx0;have k2r:(P12.nxt r).kind=2:=by rw[HNT.out];exact k2
  have HFN:=aa λW=>KR t.text W
  cases hf:P12.lZ t.text with
  | none=>
   rw[hf]at HFN;have HFN:Hid (∀W,Calls af 298 #[bs t.text] W λe w'=>e = .returned (.int .i64 0)/\W=w'):=HFN;have hN:=HN0.out .none hb4 hb3 hb1 hb2 (λ_=>by rw[HNT.out];exact hf);go_wp2_with fail;refine(HFN.out _).mono ?_;rintro e' W2 ⟨rfl,rfl⟩;go_wp2_with fail;refine(iG br _ 120 aq _ (hp2.ext Xk.xt)).mono ?_;rintro e w4 ⟨rfl,ht4,hp4⟩;have htW:ah br w3 w4:=ah.trans (tu trivial) ht4;have hz4:=htW.held hz2 ab;have HT4:=aa (ah.trans hT2 htW);have HP4:=aa hp4;have hS:Sk (.ok r) (cH 120 (.ok r)):=P12.gQ _ _;clear ht4 hp4 htW hx0 hx1 HX hT2 hp2 hz2 HN0;go_wp2_with ((refine pw (hz4) ?_;intro wZ hpZ))
   exact ar (aH rfl rfl hpZ.blk aA rfl au) rfl (Cm.expr hpZ ((show aC (λb=>wo.heap.size<b) _ .none _ from rfl)) (HT4.out) (HP4.out) lr hN hS)
  | some op=>
   rw[hf]at HFN;have HFN:Hid (∀W,Calls af 298 #[bs t.text] W λe w'=>e = .returned (.int .i64 op)/\W=w'):=HFN
   have hop:(op !=0)=true:=by
    unfold P12.lZ at hf;split at hf
    ·cases hf;rfl
    ·split at hf
     ·cases hf;rfl
     ·split at hf
      ·cases hf;rfl
      ·split at hf
       ·cases hf;rfl
       ·cases hf
   have hNC:=λ(x:P12.E) (s':PS)=>P12.wG (ex:=ex) (x:=x) (s':=s') HGD.out HOT.out k2r (op:=op) (by rw[HNT.out];exact hf);have HNC:=aa hNC;clear hf hNC HN0;go_wp2_with fail;refine(HFN.out _).mono ?_;rintro e' W2 ⟨rfl,rfl⟩;go_wp2_with fail;refine(HFN.out _).mono ?_;rintro e' W2 ⟨rfl,rfl⟩;go_wp2_with fail;refine(J4 br op ex (.ok r) _ (hp2.ext Xk.xt) (λs1 W h1=>HX.out s1 W (λr1 e=>by obtain⟨r',h,h2⟩:=h1 r1 e;cases h;exact h2))).mono ?_;rintro e w4 ⟨v,x,s4,rfl,⟨l,rfl,he⟩,ht4,hp4,hn4,hS⟩;obtain⟨kd,op',vk,vi,vs,tb,nm,pp,pm,pc,rfl⟩:=he.form;have hN:=HNC.out x s4 hn4
   have htW:ah br w3 w4:=ah.trans (tu trivial) ht4;have hz4:=htW.held hz2 ab;have hs3:=(ae.1 hz2).1;have hs4:=htW.size;have HT4:=aa (ah.trans hT2 htW);have HE4:=aa (he.mono (S':=λb=>wo.heap.size<b) (λb hb _=>by omega));have HP4:=aa hp4;clear he ht4 hp4 htW hx0 hx1 hn4 HNC HFN HX hT2 hp2 hz2;go_wp2_with ((refine pw (hz4) ?_;intro wZ hpZ));exact ar (aH rfl rfl hpZ.blk aA rfl au) rfl (Cm.expr hpZ (HE4.out) (HT4.out) (HP4.out) lr hN hS)
 ·have e2:(t.kind==2)=false:=by simpa using k2
  have hN:=HN0.out .none hb4 hb3 hb1 hb2 (λh=>absurd (by rw[HNT.out]at h;exact h) k2);go_wp2_with fail;refine(iG br _ 120 aq _ (hp2.ext Xk.xt)).mono ?_;rintro e w4 ⟨rfl,ht4,hp4⟩;have htW:ah br w3 w4:=ah.trans (tu trivial) ht4;have hz4:=htW.held hz2 ab;have HT4:=aa (ah.trans hT2 htW);have HP4:=aa hp4;have hS:Sk (.ok r) (cH 120 (.ok r)):=P12.gQ _ _;clear ht4 hp4 htW hx0 hx1 HX hT2 hp2 hz2 HN0;go_wp2_with ((refine pw (hz4) ?_;intro wZ hpZ));exact ar (aH rfl rfl hpZ.blk aA rfl au) rfl (Cm.expr hpZ ((show aC (λb=>wo.heap.size<b) _ .none _ from rfl)) (HT4.out) (HP4.out) lr hN hS)
open _root_.P12 (PS Gd okB cH isK cf Nx bn bE bZ bR ew dA de cB Sk inS)
theorem FB(br f:Nat)(P:P12.R->Prop)(hf:∀r,P r->101≤f+r.deep)(hD:∀r r':P12.R,P r->r.deep≤r'.deep->P r')(ex:P12.R->Except P12.Er (P12.E×P12.R))
  (h:∀r w,P r->Ps br (.ok r) w->∀ (s1:PS) (W:World),(∀r1,s1 = .ok r1->r1.deep=r.deep+1)->Ps br s1 W->Calls af 162 #[rp br] W (Cm br W s1 (eN W) ex)) :
  jx 162 br P (P12.binary (P12.KC ex f) P12.vc):=by
 have hK:∀r r':P12.R,P r->P12.bW r r'->P r':=λr r' h hk=>hD r r' h (by rw[hk.deep];exact ai _)
 have h1:jx 295 br P (P12.cZ ex):=λs w hp hr=>by
  cases s with
  | error e=>exact ym br e _ w hr
  | ok r=>exact AA br ex r w hr (h r w (hp r rfl) hr)
 have h2:jx 292 br P (P12.dU ex f):=λs w hp hr=>FR P hD br ex h1 f s w (λr e=>⟨hf r (hp r e),hp r e⟩) hr;have hB:=λpart ops s w hp hr=>J5 P hK br part ops s w hp hr;have h5:=Ju P hK br _ (λs w hp hr=>(hB _ _ s w hp hr).2.2.2 (λs w hp hr=>(hB _ _ s w hp hr).2.2.1 h2 rfl) rfl);have h6:jx 244 br P (P12.ly (P12.uN ex f) f):=λs w hp hr=>Kr P hD br _ h5 f s w (λr e=>⟨hf r (hp r e),hp r e⟩) hr;exact λs w hp hr=>(hB _ _ s w hp hr).1 (λs w hp hr=>(hB _ _ s w hp hr).2.1 h6 rfl) rfl
theorem Bs(br:Nat):∀f,jx 162 br (λr=>101≤f+r.deep) (P12.kY f):=by
 intro f;induction f with
 | zero=>
  intro s w hp hr;refine(FB br 0 (λr=>101≤0+r.deep) (λr h=>h) (λr r' h hd=>by omega) (λr=>P12.bU 120 r) (λr w h hr=>by have:=hr.gd.good.deep;omega) s w hp hr).mono ?_;rintro e w' ⟨v,x,s',h1,h2,h3,h4,h5,h6⟩;refine⟨v,x,s',h1,h2,h3,h4,?_,h6⟩
  cases s with
  | error e=>exact h5
  | ok r=>have h7:101≤0+r.deep:=hp r rfl;have:=hr.gd.good.deep;omega
 | succ f ih=>
  exact FB br (f+1) (λr=>101≤f+1+r.deep) (λr h=>h) (λr r' h hd=>by omega) (P12.kY f) (λr w h hr s1 W h1 hr1=>ih s1 W (λr1 e=>by have:=h1 r1 e;omega) hr1)
theorem kX(br:Nat)(s:PS)(w:World)(h:Ps br s w):Calls af 162 #[rp br] w (Cm br w s (eN w) P12.expr):=
 Bs br 101 s w (λr _=>Nat.le_add_right _ _) h
end Go.Proofs.YtkpmclddjkebeaaGreatDoor
