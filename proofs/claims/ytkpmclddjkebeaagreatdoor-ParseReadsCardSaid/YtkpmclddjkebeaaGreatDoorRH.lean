/- What the claim's proof leans on, part 8: walks of functions and plain laws. -/
import Derived.Test.YtkpmclddjkebeaaGreatDoorRG
import Derived.Test.YtkpmclddjkebeaaGreatDoorRD
set_option linter.unusedSimpArgs false
set_option linter.unusedVariables false
set_option maxRecDepth 100000
set_option maxHeartbeats 80000000
open Array renaming getD_eq_getD_getElem?→Eb,getElem?_eq_getElem→cM,getElem?_eq_some_iff→ae,replicate→bH
open Bool renaming false_eq_true→aS,false_or→im,or_eq_true→fu,true_or→lu
open Except renaming bind→cG,pure→dz
open Exists renaming intro→aU
open Go.DataW.lit renaming inj→oK
open Go.Instr renaming build→cR,lookup→D9,mapUpdate→eG
open Go.Lib renaming hid→aa
open Go.Lit.int renaming inj→BQ
open Go.Proofs.Tryz renaming f19→mf,prog→af,underlying3→jB,underlying40→aB,underlying9→ef
open Go.Result renaming andThen_ok→oZ
open Go.RowKit.Below renaming refl→al,setCell→jc
open Go.Value renaming bool→bT,int→lK,slice→gU
open Go.WideMaps renaming keyOf_string_mk→vI
open Go.World renaming block_lt_of_cell?→ay,cell?→ak,cell?_of_block→kf,cell?_setCell_other→jz,ownsMap_made→uk,size_alloc→ag,size_drew→bM,size_setCell→aM
open Go renaming bodyPost_ret→ar,frozen_of_row→aD,heap_setCell_other→an,results_none→uj
open Int renaming natCast_zero→gH
open List renaming all_eq_true→ft,drop_succ_cons→aL,drop_zero→bd,find?_cons→gG,getElem?_append_left→cb,getElem?_append_right→dB,getElem?_eq_getElem→aZ,getElem?_eq_some_iff→cr,getElem_mem→i6,mem_cons→aJ,mem_cons_self→cy,mem_range→lh,not_mem_nil→aF,range→xy,size_toArray→aP,take_succ_cons→aG,take_zero→aY
open Nat renaming add_zero→oH,le_refl→ai,le_trans→bI,lt_of_lt_of_le→aK,lt_or_ge→jY,succ_mul→gE,zero_add→eF,zero_le→gM
open Option.some renaming inj→iy,injEq→fq
namespace Go.Proofs.YtkpmclddjkebeaaGreatDoor
open Go.RowKit
theorem Tab.Ay{B gx:Nat}{t:P12.Tb}{k:List (List P12.T)}{col:Nat->Nat}{tc tk tq kc:Value}{c:Array Value}{w:World}(h:Tab B gx t k col tc tk tq kc c w)(col':Nat->Nat)(hc:∀b,b<w.heap.size->col b<4->col' b=col b):Tab B gx t k col' tc tk tq kc c w:=
 ⟨h.blk,h.tc.bg fm (λ_ _ _=>rfl) (λb hb hl=>⟨hb.1,by rw[hc b hl (by rw[hb.2];decide)];exact hb.2⟩),h.tk.bg fB (λ_ _ _=>rfl) (λb hb hl=>⟨hb.1,by rw[hc b hl (by rw[hb.2];decide)];exact hb.2⟩),h.tq.bg bj (λ_ _ _=>rfl) (λb hb hl=>⟨hb.1,by rw[hc b hl (by rw[hb.2];decide)];exact hb.2⟩),h.kc.bg eT (λ_ _ _=>rfl) (λb hb hl=>⟨hb.1,by rw[hc b hl (by rw[hb.2];decide)];exact hb.2⟩),h.bx,h.bs⟩
theorem Tab.oL{B gx:Nat}{t:P12.Tb}{k:List (List P12.T)}{col:Nat->Nat}{tc tk tq kc:Value}{c:Array Value}{w:World}(h:Tab B gx t k col tc tk tq kc c w){g:Nat}(hg:col g=4)(hB:B≤g)(o:Nat)(u:Value):Tab B gx t k col tc tk tq kc c (w.setCell ⟨g,o,none⟩ u):=by
 have hb:∀b,b≠g->(w.setCell ⟨g,o,none⟩ u).heap[b]?=w.heap[b]?:=λb hb=>an w ⟨g,o,none⟩ b u (λe=>hb (by simpa using e));have hne:∀i b,i≠4->(B≤b/\col b=i)->b≠g:=λi b hi hb e=>hi (by rw[← hb.2,e,hg]);exact⟨(hb gx (by have:=h.bx;omega)).trans h.blk,h.tc.bg fm (λb hb' _=>hb b (hne 0 b aq hb')) (λb hb _=>hb),h.tk.bg fB (λb hb' _=>hb b (hne 1 b aq hb')) (λb hb _=>hb),h.tq.bg bj (λb hb' _=>hb b (hne 2 b aq hb')) (λb hb _=>hb),h.kc.bg eT (λb hb' _=>hb b (hne 3 b aq hb')) (λb hb _=>hb),h.bx,by rw[aM];exact h.bs⟩
structure Ck(br gx gm gc B n:Nat)(Tp:World->Prop)(w0:World)(r0 r:P12.R)(w:World):Prop where
 rd:Rd br r w
 tab:Tp w
 tst:∀w w',B≤w.heap.size->Tp w->ah br w w'->Tp w'
 many:w.heap[gm]?=some (gu br n 16)
 kept:cD B gc [br,gx,gm] w0 w
 keeps:P12.bW r0 r
 h1:br<gx
 h2:br<gm
 h3:gm<B
 h4:gm≠gx
 h5:gx<B
 h6:B≤w.heap.size
 h7:gc<w.heap.size
section
variable {br gx gm gc B n : Nat} {Tp Tp' : World → Prop} {w0 : World} {r0 r r' : P12.R} {w w' : World}
theorem Ck.step(F:Ck br gx gm gc B n Tp w0 r0 r w)(ht:ah br w w')(hr:Rd br r' w')(hk:P12.bW r r'):Ck br gx gm gc B n Tp w0 r0 r' w':=by
 obtain⟨a1,a2,a3,a4,a5,a6,a7,a8,a9,a10,a11,a12,a13⟩:=F;exact⟨hr,a3 _ _ a12 a2 ht,a3,ht.held a4 ab,a5.trans (cD.bB ht aI ab),a6.trans hk,a7,a8,a9,a10,a11,bI a12 ht.size,aK a13 ht.size⟩
theorem Ck.ext(F:Ck br gx gm gc B n Tp w0 r0 r w)(hx:Xk.Ext w w'):Ck br gx gm gc B n Tp w0 r0 r w':=F.step (ah.aR hx) (F.rd.ext hx) (P12.bW.refl _)
theorem Ck.alloc(F:Ck br gx gm gc B n Tp w0 r0 r w)(o:Obj):Ck br gx gm gc B n Tp w0 r0 r (w.alloc o):=F.ext ((al _ _).alloc (ai _) _)
theorem Ck.after(F:Ck br gx gm gc B n Tp w0 r0 r w)(ht:ah br w w'):cD B gc [br,gx,gm] w0 w':=F.kept.trans (cD.bB ht aI (by have:=F.h1;have:=F.h5;omega))
theorem Ck.oL(F:Ck br gx gm gc B n Tp w0 r0 r w){g:Nat}(hB:B≤g)(hG:B≤gc->g≠gc)(o:Nat)(u:Value)(hT:Tp' (w.setCell ⟨g,o,none⟩ u))(hst:∀w w',B≤w.heap.size->Tp' w->ah br w w'->Tp' w'):Ck br gx gm gc B n Tp' w0 r0 r (w.setCell ⟨g,o,none⟩ u):=by
 obtain⟨a1,a2,a3,a4,a5,a6,a7,a8,a9,a10,a11,a12,a13⟩:=F;exact⟨Rd.setCell a1 ab _ _,hT,hst,(an w ⟨g,o,none⟩ gm u (λe=>by(have h:gm=g:=(by simpa using e));omega)).trans a4,a5.setCell (.inl ⟨hB,hG⟩) _ _,a6,a7,a8,a9,a10,a11,by rw[aM];exact a12,by rw[aM];exact a13⟩
theorem Ck.gV(F:Ck br gx gm gc B n Tp w0 r0 r w)(o:Nat)(u:Value)(hT:Tp' (w.setCell ⟨gx,o,none⟩ u))(hst:∀w w',B≤w.heap.size->Tp' w->ah br w w'->Tp' w'):Ck br gx gm gc B n Tp' w0 r0 r (w.setCell ⟨gx,o,none⟩ u):=by
 obtain⟨a1,a2,a3,a4,a5,a6,a7,a8,a9,a10,a11,a12,a13⟩:=F;exact⟨Rd.setCell a1 ab _ _,hT,hst,(an w ⟨gx,o,none⟩ gm u (λe=>a10 (by simpa using e))).trans a4,a5.setCell (.inr ⟨by simp,a11⟩) _ _,a6,a7,a8,a9,a10,a11,by rw[aM];exact a12,by rw[aM];exact a13⟩
theorem Ck.grown(F:Ck br gx gm gc B n Tp w0 r0 r w){k:Option Nat}(hg:w.grownBy w' k)(hk:∀b,k=some b->B≤b/\(B≤gc->b≠gc))(hT:Tp' w')(hst:∀w w',B≤w.heap.size->Tp' w->ah br w w'->Tp' w'):Ck br gx gm gc B n Tp' w0 r0 r w':=by
 obtain⟨a1,a2,a3,a4,a5,a6,a7,a8,a9,a10,a11,a12,a13⟩:=F;exact⟨a1.grown hg (λb hb=>by have:=(hk b hb).1;omega),hT,hst,(hg.block gm ab (λe=>by have:=(hk gm e.symm).1;omega)).trans a4,a5.grown hg hk,a6,a7,a8,a9,a10,a11,bI a12 hg.size,aK a13 hg.size⟩
end
abbrev qS(p:Bool):List Value := [.string ⟨#[]⟩,aj,.bool true,.bool p]
theorem Tryz.Cl:(af.info? 139).map (λi=>(i.zero,i.size,i.bytes))=some (some (.agg #[.string ⟨#[]⟩,aj,.bool false,.bool false]),4,48):=au
theorem Tryz.ze:(af.info? 29).map (λi=>(i.zero,i.size,i.bytes))=some (some aj,1,24):=au
def xC(B gx g:Nat)(t:P12.Tb)(k:List (List P12.T))(col:Nat->Nat)(tc tk tq kc:Value)(p:Bool)(W:World):Prop:=
 Tab B gx t k col tc tk tq kc (xL t.name tc tk tq kc) W/\W.heap[g]?=some (.cells (qS p).toArray 139)
theorem xC.turn{B gx g br:Nat}{t:P12.Tb}{k:List (List P12.T)}{col:Nat->Nat}{tc tk tq kc:Value}{p:Bool}{w w':World}(h:xC B gx g t k col tc tk tq kc p w)(ht:ah br w w')(h1:br<gx)(h2:br<g):xC B gx g t k col tc tk tq kc p w':=
 ⟨h.1.turn ht h1,ht.held h.2 ab⟩
theorem P12.A0{s:P12.T}{r r':P12.R}(h:P12.bL s r = .ok r'):P12.bW (P12.ax r) r':=by
 unfold P12.bL at h;split at h
 ·cases h;exact P12.bW.refl _
 ·cases h
theorem vQ{w:World}{g:Nat}{c:P12.T}{S:Nat->Prop}(h:w.heap[g]?=some (.cells #[bs c] 9))(hS:S g):aE S w 1 lP [c] (.slice (some ⟨g,0,none⟩) 1 1):=by
 refine .inr ⟨g,1,[[bs c]],rfl,hS,by simp,by simp,rfl,by simp,by decide,λj v hj=>?_,λj y u hy hu=>?_⟩
 ·have hj' : #[bs c][j]?=some v:=by simpa using hj
  unfold ak;rw[h];simpa using hj'
 ·match j,hy,hu with
  | 0,hy,hu=>cases hy;cases hu;rfl
theorem tV(br gx gm gc B n:Nat)(t:P12.Tb)(k:List (List P12.T))(c:P12.T)(r:P12.R)(w:World)(h:Rd br r w)(hx:dx B gx gc t k w)(hm:w.heap[gm]?=some (gu br n 16))(h1:br<gx)(h2:br<gm)(h3:gm<B)(hne:gm≠gx)(hn:n≤16)
  (hgs:gc<w.heap.size) (hl:t.keys.length≤100/\k.length≤100) (hcc:(decide (16<n+1)&&P12.bh r)=false) (hck:P12.isT [67,72,69,67,75] r=false) :
  Calls af 199 #[rp br,rp gx,rp gm,bs c] w (sA br gx gm gc B n t k w r (match P12.jU r with
   | .error e => .error e
   | .ok r1=>match P12.eL c r1 with
    | .error e => .error e
    | .ok (l,r2)=> .ok (.inr (P12.isT [80,82,73,77,65,82,89] r,l),r2))):=by
 have lr:=h.lt;have H:=aa h;have HX:=aa hx;have HM:=aa hm;have HB:=hx.bounds;clear h hx hm
 generalize hres:(match P12.jU r with
   | .error e => .error e
   | .ok r1=>match P12.eL c r1 with
    | .error e => .error e
    | .ok (l,r2)=> .ok (.inr (P12.isT [80,82,73,77,65,82,89] r,l),r2):Except P12.Er (P12.Con×P12.R))=res
 have HE:=aa hres;clear hres;have hbk:∀ (W:World),(cR 139 #[(2,bT true)]).run af W = .ok (.agg (qS false).toArray) W:=λW=>by kernel_rfl
 go_enter Tryz.func199,Tryz.ntmps199;go_wp2_with fail;go_at_call 200;refine(iW br n 16 gm r _ (rp br) 198 (P12.bh r) w H.out HM.out h2 ab ab (.inl rfl) jt (λW hr _=>fb br r W hr)).mono ?_;rintro e w1 ⟨hx1,he1⟩;rw[if_neg (by rw[hcc];simp)]at he1;subst he1
 have hm1:w1.heap[gm]?=some (gu br (n+1) 16):=by
  rw[hx1.block _ (by rw[aM];exact(ae.1 HM.out).1),heap_setCell_same w gm 1 _ _ _ HM.out];simp
 have F1:Cf br gx gm gc B (n+1) t k w r r w1:=⟨(Rd.setCell H.out ab 1 _).ext hx1,(HX.out.setCell h3 hne 1 _).ext hx1,hm1,((cD.refl _ _ _ _).setCell (.inr ⟨by simp,h3⟩) 1 _).trans (cD.aR hx1),P12.bW.refl _,h1,h2,h3,hne,by have:=hx1.size;rw[aM]at this;omega⟩;clear hx1 hm1;go_wp2_with fail;go_at_call 20;refine(jm br r [67,72,69,67,75] _ F1.rd).mono ?_;rw[hck];rintro e w2 ⟨rfl,ht2,hr2,hk2⟩;simp only[P12.has,hck,aS,if_true,if_false]at hr2 hk2;have F2:=F1.step ht2 hr2 hk2;clear ht2 hr2 hk2 F1;have hB2:=F2.gxB;obtain⟨col0,tc,tk,tq,kc,T0,h90⟩:=F2.tab
 obtain⟨col,hcol⟩:∃col:Nat->Nat,∀b,col b=if b<w2.heap.size then col0 b else 4:=⟨_,λ_=>rfl⟩
 have T2:=T0.Ay col (λb hb _=>by rw[hcol,if_pos hb]);have h9:B≤gc->col gc=9:=λh=>by rw[hcol,if_pos F2.h5];exact h90 h
 have hgs2:=F2.h5;have hnew:∀b,w2.heap.size≤b->col b=4:=λb hb=>by rw[hcol,if_neg ab]
 have hold:∀b,col b<4->b<w2.heap.size:=λb hb=>by
  rcases jY b w2.heap.size with h|h
  ·exact h
  ·rw[hnew b h]at hb;omega
 have hst:∀p (w w':World),B≤w.heap.size->xC B gx w2.heap.size t k col tc tk tq kc p w->ah br w w'->xC B gx w2.heap.size t k col tc tk tq kc p w':=λp w w' _ h ht=>h.turn ht h1 ab;have HST:=aa hst;have F2H:=aa F2;have T2H:=aa T2;clear T0 hcol hst T2 F2;go_wp2_with ((refine pw (aw w2 _) ?_;intro w3 hp3));have hx3:Xk.Ext w2 w3:=jj hp3 ((al _ _).alloc (ai _) _) (ai _);have F3:=F2H.out.ext hx3
 have G3:Ck br gx gm gc B (n+1) (xC B gx w2.heap.size t k col tc tk tq kc false) w r r w3:=
  ⟨F3.rd,⟨T2H.out.ext hx3,hp3.blk⟩,HST.out false,F3.many,F3.kept,F3.keeps,h1,h2,h3,hne,hB2.1,F3.gxB.2,F3.h5⟩
 clear hx3 F3 hp3 F2H T2H;obtain⟨p,hp⟩:∃p,P12.isT [80,82,73,77,65,82,89] r=p:=⟨_,rfl⟩;go_at_call 20;refine(jm br r [80,82,73,77,65,82,89] _ G3.rd).mono ?_;rw[hp];rintro e w4 ⟨rfl,ht4,hr4,hk4⟩;have G4:=G3.step ht4 hr4 hk4;have c4:w4.cell? ⟨w2.heap.size,3,none⟩=some (.bool false):=by simp[ak,G4.tab.2]
 have f4:=aD w4 w2.heap.size 3 _ _ G4.tab.2;have hk5:(w4.setCell ⟨w2.heap.size,3,none⟩ (.bool p)).heap[w2.heap.size]?=some (.cells (qS p).toArray 139):=heap_setCell_same w4 w2.heap.size 3 _ _ _ G4.tab.2;have G5:=G4.oL hB2.2 (λ_ e=>by omega) 3 (.bool p) (Tp':=xC B gx w2.heap.size t k col tc tk tq kc p) ⟨G4.tab.1.oL (hnew _ (ai _)) hB2.2 3 (.bool p),hk5⟩ (HST.out p);have c5:(w4.setCell ⟨w2.heap.size,3,none⟩ (.bool p)).cell? ⟨w2.heap.size,3,none⟩=some (.bool p):=by simp[ak,hk5]
 have hs5:(w4.setCell ⟨w2.heap.size,3,none⟩ (.bool p)).heap.size=w4.heap.size:=aM _ _ _;clear ht4 hr4 hk4 G3 G4 hk5;go_upto_if 37 with fail
 generalize w4.setCell ⟨w2.heap.size,3,none⟩ (.bool p)=w5 at *
 clear c4 f4 c5 hs5;go_cut []from 10 (λw'=>∃r',P12.jU r = .ok r'/\P12.bW (P12.ax r) r'/\Ck br gx gm gc B (n+1) (xC B gx w2.heap.size t k col tc tk tq kc p) w r r' w')
 case first=>
  cases p
  ·have hK:P12.jU r=P12.bL [85,78,73,81,85,69] r:=by simp[P12.jU,P12.has,hp]
   have hE:=HE.out;rw[hK]at hE;clear HE;have HE:=aa hE;simp only[P12.has,hp,aS,if_false]at G5;have hW5:=G5.h6;clear hE;go_wp2_with fail;go_at_call 132;refine(dN br [85,78,73,81,85,69] r _ _ (G5.alloc _).rd (eM _ _ _ rfl) ab).mono ?_;intro e w6 h
   cases hn:P12.bL [85,78,73,81,85,69] r
   case error er=>exact ste (G5.alloc _).after
   rename_i p;rw[hn]at h HE;dsimp only at HE;rename P12.R=>r6
   obtain⟨rfl,ht,hr,hk⟩:=h;have G6:=(G5.alloc _).step ht hr hk;clear ht hr hk G5;go_wp2_with fail;go_meet
   case rel=>exact⟨r6,hK.trans hn,P12.A0 hn,G6⟩
  ·have hK:P12.jU r=P12.bL [75,69,89] (P12.ax r):=by simp[P12.jU,P12.has,hp]
   have hE:=HE.out;rw[hK]at hE;clear HE;have HE:=aa hE;simp only[P12.has,hp,if_true]at G5;have hW5:=G5.h6;clear hE;go_wp2_with fail;go_at_call 132;refine(dN br [75,69,89] (P12.ax r) _ _ (G5.alloc _).rd (eM _ _ _ rfl) ab).mono ?_;intro e w6 h
   cases hn:P12.bL [75,69,89] (P12.ax r)
   case error er=>exact ste (G5.alloc _).after
   rename_i p;rw[hn]at h HE;dsimp only at HE;rename P12.R=>r6
   obtain⟨rfl,ht,hr,hk⟩:=h;have G6:=(G5.alloc _).step ht hr hk;have hkk:=hk;clear ht hr hk G5;go_wp2_with fail;go_meet
   case rel=>exact⟨r6,hK.trans hn,hkk,G6⟩
 case rest=>
  obtain⟨r6,hK,hk6,G6⟩:=hcut;have hE:=HE.out;rw[hK]at hE;clear HE G5;dsimp only at hE;have HE:=aa hE;have hW6:w2.heap.size<wc.heap.size:=(ae.1 G6.tab.2).1;clear hE;have G7:=G6.alloc (.cells #[bs c] 9);have hg7:=aw wc (.cells #[bs c] 9);clear G6;go_upto_if 47 with fail
  generalize wc.alloc (.cells #[bs c] 9)=w7 at *
  go_cut [9]from 10 (λv w'=>∃ (l:List P12.T) (r':P12.R) (p1:Option Addr) (p2 p3:Nat),P12.eL c r6 = .ok (l,r')/\P12.bW r6 r'/\v = .slice p1 p2 p3/\aE (λb=>w2.heap.size≤b) w' 1 lP l v /\
   Ck br gx gm gc B (n+1) (xC B gx w2.heap.size t k col tc tk tq kc p) w r r' w')
  case first=>
   cases hce:c.isEmpty
   ·have hc:c ≠ []:=λe=>by rw[e]at hce;cases hce
    go_wp2_with fail;go_meet
    case rel=>exact⟨[c],r6,some ⟨wc.heap.size,0,none⟩,1,1,by simp[P12.eL,hc],P12.bW.refl _,rfl,vQ hg7 ab,G7⟩
   ·have hc:c = []:=List.isEmpty_iff.1 hce;have hC:P12.eL c r6=P12.names r6:=by simp[P12.eL,hc]
    have hE:=HE.out;rw[hC]at hE;clear HE;have HE:=aa hE;have hl7:=(ae.1 hg7).1;clear hE hc hce;go_wp2_with fail;go_at_call 134;refine(oo br _ _ G7.rd).mono ?_;intro e w8 h
    cases hn:P12.names r6
    case error er=>exact ste G7.after
    rename_i p;rw[hn]at h HE;dsimp only at HE;obtain⟨l,r8⟩:=p;obtain⟨_,rfl,⟨hpos,hs⟩,ht,hr,hk⟩:=h;obtain⟨q1,q2,q3,rfl⟩:=ee hs;have G8:=G7.step ht hr hk;have hkk:=hk;clear ht hr hk;go_wp2_with fail;go_meet
    case rel=>exact⟨l,r8,q1,q2,q3,hC.trans hn,hkk,rfl,hs.bg (λ_ _ _=>rfl) (λb hb _=>by omega) (λ_ _ h=>h),G8⟩
  case rest=>
   obtain⟨l,r9,p1,p2,p3,hC,hk9,rfl,hs,G9⟩:=hcut;have hE:=HE.out;rw[hC]at hE;clear HE hC G7 hg7;dsimp only at hE;have HE:=aa hE;clear hE hK;obtain⟨a1,a2,b1,b2,c1,c2,d1,d2,rfl,rfl,rfl,rfl⟩:=G9.tab.1.form;have cK:wc.cell? ⟨gx,3,none⟩=some (.slice b1 t.keys.length b2):=by simp[ak,G9.tab.1.blk]
   have k0:wc.cell? ⟨w2.heap.size,0,none⟩=some (.string ⟨#[]⟩):=by simp[ak,G9.tab.2]
   have k1:wc.cell? ⟨w2.heap.size,1,none⟩=some aj:=by simp[ak,G9.tab.2]
   have k2:wc.cell? ⟨w2.heap.size,2,none⟩=some (.bool true):=by simp[ak,G9.tab.2]
   have k3:wc.cell? ⟨w2.heap.size,3,none⟩=some (.bool p):=by simp[ak,G9.tab.2]
   have lgk:w2.heap.size<wc.heap.size:=(ae.1 G9.tab.2).1;have lgx:gx<wc.heap.size:=ab;obtain⟨col1,hcol1⟩:∃col1:Nat->Nat,∀b,col1 b=if b<wc.heap.size then col b else 1:=⟨_,λ_=>rfl⟩
   have T10:=G9.tab.1.Ay col1 (λb hb _=>by rw[hcol1,if_pos hb]);obtain⟨us,-,hown,-,hu2,hu3,hu4⟩:=T10.tk
   have hlt:∀b,(gU b1 t.keys.length b2).ownBlock=some b->B≤b/\b<w2.heap.size:=λb hb=>by
    obtain⟨⟨h1,h2⟩,h3⟩:=T10.tk.lt b hb;rw[hcol1,if_pos h3]at h2;exact⟨h1,hold b ab⟩
   have HF:Hid (∀W,Xe.ES (Xe.fR 139 4 (t.keys.length+1) (us.flatten++qS p) (.slice b1 t.keys.length b2)) wc.drew W->W.cell? ⟨gx,3,none⟩=some (.slice b1 t.keys.length b2)/\gx<W.heap.size/\W.cell? ⟨w2.heap.size,0,none⟩=some (.string ⟨#[]⟩)/\W.cell? ⟨w2.heap.size,1,none⟩=some aj/\W.cell? ⟨w2.heap.size,2,none⟩=some (.bool true)/\W.cell? ⟨w2.heap.size,3,none⟩=some (.bool p)/\w2.heap.size<W.heap.size):=aa λW hx=>by
    have hn:∀x,x<B∨w2.heap.size≤x->∀q∈Xe.fR 139 4 (t.keys.length+1) (us.flatten++qS p) (.slice b1 t.keys.length b2),q.1≠x:=λx hx q hq e=>by
     have:=hlt _ (Xe.fv hq);omega
    have hs:=hx.2.2.2.1;simp only[bM]at hs;have d:∀b o v,b<B∨w2.heap.size≤b->wc.cell? ⟨b,o,none⟩=some v->W.cell? ⟨b,o,none⟩=some v:=λb o v hb hc=>hx.cell (show wc.drew.cell? ⟨b,o,none⟩=some v from hc) (hn b hb);exact⟨d _ _ _ ab cK,by omega,d _ _ _ ab k0,d _ _ _ ab k1,d _ _ _ ab k2,d _ _ _ ab k3,by omega⟩
   have T10H:=aa T10;have HU:=aa hu4;have HS:=aa hs;have G9H:=aa G9;have hkl:t.keys.length≤4000000:=ab;obtain⟨ks,hks⟩:∃ks:Xe.gT,ks=Xe.fR 139 4 (t.keys.length+1) (us.flatten++qS p) (.slice b1 t.keys.length b2):=⟨_,rfl⟩;have HKS:=aa hks
   have HSB:Hid (∀k∈ks,(.slice b1 t.keys.length b2:Value).ownBlock=some k.1/\k.1<(wc).heap.size):=aa λk hk=>by
    rw[hks]at hk;exact⟨Xe.fv hk,((hown).lt _ (Xe.fv hk)).2⟩
   have HS6:Hid (∀k∈ks,(.slice b1 t.keys.length b2:Value).ownBlock=some k.1->k∈Xe.fR 139 4 (t.keys.length+1) (us.flatten++qS p) (.slice b1 t.keys.length b2)):=aa λk hk _=>by rw[hks]at hk;exact hk
   have HVL:Hid (∀b,(.slice b1 t.keys.length b2:Value).ownBlock=some b->b<(wc).heap.size):=aa λb hb=>((hown).lt b hb).2;have HOA:=aa (hown);clear hks;rw[← HKS.out]at HF;obtain⟨i0,hi,hz0,hz1,hz2⟩:=cP Tryz.Cl;have Hi:=aa hi;have Hz0:=aa hz0;have Hz1:=aa hz1;have Hz2:=aa hz2;clear hi hz0 hz1 hz2;clear cK k0 k1 k2 k3 hown T10 hu4 hs G9;go_wp2
   refine Xe.bm (E:=Xe.ES ks) (Xe.bS _) 12 (Xe.O2 8 _ 99 none) (Xe.Gv HVL.out (λb hb=>by cases hb)) (Xe.Gu (λb hb e=>by cases e)) [(7,Xe.newRow (wc).heap.size (qS p) 139),(8,Xe.DZ 139 4 (wc).heap.size (.slice b1 t.keys.length b2) t.keys.length us.flatten (qS p))] au au (Xe.jD (by
       intro y hy;simp only[aJ,aF,or_false]at hy;rcases hy with rfl|rfl
       ·exact Xe.newRow.es λk hk=>(HSB.out k hk).2
       ·exact Xe.lG.es HS6.out λk hk=>(HSB.out k hk).2)) ?_
   simp only[aG,aY,aL,bd]
   repeat(first
    | ((first|refine Xe.aX (Xe.bS _) (Xk.aQ az) az (λK hK=>?_)|refine Xe.aX (Xe.bS _) az az (λK hK=>?_));apply aU;refine⟨λW hx hp=>?_,?_⟩;(obtain⟨f1,f2,f3,f4,f5,f6,f7⟩:=HF.out _ hx;go_simp;exact⟨rfl,rfl⟩);(go_simp;refine hK _ ?_;clear hK K))
    | (refine Xe.cQ az (λK hK=>?_);go_simp;refine hK _ ?_;clear hK K))
   (refine Xe.bc (Xe.bS _) az az (λW hx hp=>?_) (λynew K hK=>?_);(go_simp;exact Xe.wI _ _ _ _ (by first|rfl|kernel_rfl) (by have:=hx.2.2.2.1;simpa using this));(go_simp;refine hK _ ?_;clear hK K))
   (refine Xe.bc (Xe.bS _) az az (λW hx hp=>?_) (λz1 K hK=>?_);(obtain⟨g,rfl,hg,hc⟩:=Xe.bG hp au;exact Xe.qQ _ _ _ 24 az 139 i0 _ 4 48 Tryz.underlying24 Hi.out Hz0.out Hz1.out Hz2.out rfl aq (.slice b1 t.keys.length b2) t.keys.length us.flatten (qS p) az (hx.own (m:=1) (Xo.ny HOA.out) HS6.out) g 1 az az hc (dS au) ab (by have:=hx.2.2.2.1;simpa using this) (by rw[HKS.out];exact λk hk=>hk) az);(go_simp;refine hK _ ?_;clear hK K))
   repeat(first
    | ((first|refine Xe.aX (Xe.bS _) (Xk.aQ az) az (λK hK=>?_)|refine Xe.aX (Xe.bS _) az az (λK hK=>?_));apply aU;refine⟨λW hx hp=>?_,?_⟩;(obtain⟨f1,f2,f3,f4,f5,f6,f7⟩:=HF.out _ hx;go_simp;exact⟨rfl,rfl⟩);(go_simp;refine hK _ ?_;clear hK K))
    | (refine Xe.cQ az (λK hK=>?_);go_simp;refine hK _ ?_;clear hK K))
   refine Xe.bD (λW hx hp hg=>?_);simp only[Xk.fP]at hp;obtain⟨p1',-,-⟩:=hp;obtain⟨z,cz,rfl,ho7,hz7⟩:=p1'.form;have hg7:=Xe.ES.grown (e:=139) (size:=4) (n:=0) (xs := []) hx HSB.out
   have hzB:B≤z:=by
    rcases hz7 with h|h
    ·exact(hlt z h).1
    ·have:=G9H.out.h6;omega
   have T11:Tab B gx { t with keys:=t.keys ++ [p] } k col1 (.slice a1 t.cols.length a2) (.slice (some ⟨z,0,none⟩) (t.keys.length+1) cz) (.slice c1 t.checks.length c2) (.slice d1 k.length d2) (xL t.name (.slice a1 t.cols.length a2) (.slice b1 t.keys.length b2) (.slice c1 t.checks.length c2) (.slice d1 k.length d2)) W:=
    Tab.Jc (x:=p) T10H.out (λb hb=>by rw[hcol1,if_neg ab]) hu2 hu3 HU.out hg7 ho7 (λb hb=>by cases hb;exact hz7) rfl rfl
   have hst11:∀ (c0:Array Value) (w w':World),B≤w.heap.size->Tab B gx { t with keys:=t.keys ++ [p] } k col1 (.slice a1 t.cols.length a2) (.slice (some ⟨z,0,none⟩) (t.keys.length+1) cz) (.slice c1 t.checks.length c2) (.slice d1 k.length d2) c0 w->ah br w w'->Tab B gx { t with keys:=t.keys ++ [p] } k col1 (.slice a1 t.cols.length a2) (.slice (some ⟨z,0,none⟩) (t.keys.length+1) cz) (.slice c1 t.checks.length c2) (.slice d1 k.length d2) c0 w':=λc0 w w' _ h ht=>h.turn ht h1
   have G11:=G9H.out.grown hg7 (λb hb=>⟨(hlt b hb).1,λhB e=>by have h2:=(T10H.out.tk.lt b hb).1.2;rw[e,hcol1,if_pos (show gc<wc.heap.size by omega),h9 hB]at h2;omega⟩) T11 (hst11 _);have f11:=aD W gx 3 _ _ T11.blk;have c11:W.cell? ⟨gx,3,none⟩=some (.slice b1 t.keys.length b2):=by simp[ak,T11.blk]
   have G12:=G11.gV 3 (.slice (some ⟨z,0,none⟩) (t.keys.length+1) cz) (T11.gV 3 (.slice (some ⟨z,0,none⟩) (t.keys.length+1) cz)) (hst11 _);have hs12:=gy l (.slice p1 p2 p3) _ (λb=>w2.heap.size≤b/\b<wc.heap.size) _ (W.setCell ⟨gx,3,none⟩ (.slice (some ⟨z,0,none⟩) (t.keys.length+1) cz)) HS.out (λb hb hl=>(an W ⟨gx,3,none⟩ b _ (λe=>by(have h:b=gx:=(by simpa using e));omega)).trans (hg7.block b hl (λe=>by have:=(hlt b e.symm).2;omega))) (λb hb hl=>⟨hb,hl⟩);have hw12:Hid (wc.heap.size≤(W.setCell ⟨gx,3,none⟩ (.slice (some ⟨z,0,none⟩) (t.keys.length+1) cz)).heap.size):=aa (by rw[aM];exact hg7.size)
   have G12H:=aa G12;have HS12:=aa hs12;have HC11:=aa c11;have HF11:=aa f11;clear hx p1' ho7 hg7 T11 G11 G12 hs12 HOA HSB HS6 HVL HKS HF hst11 hg c11 f11;have c11:=HC11.out;have f11:=HF11.out;go_upto_region 12 with fail
   generalize W.setCell ⟨gx,3,none⟩ (.slice (some ⟨z,0,none⟩) (t.keys.length+1) cz)=w12 at *
   have T12:=G12H.out.tab;have hw12:=hw12.out
   have hlt2:∀b,(gU d1 k.length d2).ownBlock=some b->B≤b/\b<w2.heap.size:=λb hb=>by
    obtain⟨⟨e1,e2⟩,e3⟩:=T12.kc.lt b hb;rw[hcol1]at e2;split at e2
    ·exact⟨e1,hold b ab⟩
    ·omega
   obtain⟨col2,hcol2⟩:∃col2:Nat->Nat,∀b,col2 b=if b<w12.heap.size then(if col1 b=4 then 3 else col1 b)else 3:=⟨_,λ_=>rfl⟩
   have T13:=(T12.Ay col2 (λb hb h4=>by rw[hcol2,if_pos hb,if_neg ab])).ext (show Xk.Ext w12 (w12.alloc (.cells #[.slice p1 p2 p3] 29))from(al _ _).alloc (ai _) _);obtain⟨us2,-,hown2,-,hv2,hv3,hv4⟩:=T13.kc
   have hxs:rC (λb=>(B≤b/\col2 b=3)/\¬ (gU d1 k.length d2).ownBlock=some b) (w12.alloc (.cells #[.slice p1 p2 p3] 29)) l [.slice p1 p2 p3]:=
    ⟨_,rfl,HS12.out.bg (λb hb hl=>(show Xk.Ext w12 _ from(al _ _).alloc (ai _) _).block b hl) (λb hb hl=>⟨⟨by omega,by rw[hcol2,if_pos hl,hcol1,if_pos hb.2,hnew b hb.1,if_pos rfl]⟩,λe=>by have:=(hlt2 b e).2;omega⟩) (λ_ _ h=>h)⟩
   have c12:w12.cell? ⟨gx,5,none⟩=some (.slice d1 k.length d2):=by simp[ak,T12.blk]
   have lx12:gx<w12.heap.size:=ab;have hkl2:k.length≤4000000:=ab
   have hc29:B≤gc->col2 gc=9:=λh=>by
    have h2:=h9 h;rw[hcol2,if_pos (show gc<w12.heap.size by omega),hcol1,if_pos (show gc<wc.heap.size by omega),h2];rfl
   have HOW:=aa hown2;have T13H:=aa T13;have HV4:=aa hv4;have HXS:=aa hxs;clear Hi Hz0 Hz1 Hz2 i0 hown2 T12 T13 hv4 hxs HC11 HF11 c11 f11;obtain⟨i0,hi,hz0,hz1,hz2⟩:=cP Tryz.ze;have Hi:=aa hi;have Hz0:=aa hz0;have Hz1:=aa hz1;have Hz2:=aa hz2;clear hi hz0 hz1 hz2
   go_wp2_with (at_builtin;refine Xo.bY 0 rfl _ _ 28 rfl 29 i0 _ 1 24 Tryz.underlying28 Hi.out Hz0.out Hz1.out Hz2.out rfl aq (.slice d1 k.length d2) k.length us2.flatten rfl HOW.out w12.heap.size 0 1 1 [.slice p1 p2 p3] rfl aq rfl (ey w12 _ _ rfl) (dS au) ab (gM _) ?_;intro v' w13 ho' hg' hk';obtain⟨z2,cz2,rfl⟩:=eR ho' ab;have T14:Tab B gx { t with keys:=t.keys ++ [p] } (k ++ [l]) col2 (.slice a1 t.cols.length a2) (.slice (some ⟨z,0,none⟩) (t.keys.length+1) cz) (.slice c1 t.checks.length c2) (.slice (some ⟨z2,0,none⟩) (k.length+1) cz2) _ w13:=Tab.Ja (x:=l) T13H.out (λb hb=>by rw[ag]at hb;rw[hcol2,if_neg ab]) hv2 hv3 HV4.out hg' ho' hk' rfl HXS.out;have c13:w13.cell? ⟨gx,5,none⟩=some (.slice d1 k.length d2):=(by simp[ak,T14.blk]);have f13:=aD w13 gx 5 _ _ T14.blk;have HG13:=aa hg';have T14H:=aa T14;clear ho' hg' hk' T14)
   go_end0
   have hE:=HE.out;subst hE;have G13:=((G12H.out.alloc (.cells #[.slice p1 p2 p3] 29)).grown (Tp':=λ_=>True) HG13.out (λb hb=>⟨(hlt2 b hb).1,λhB e=>by have h2:=(T13H.out.kc.lt b hb).1.2;rw[e,hc29 hB]at h2;omega⟩) trivial (λ_ _ _ _ _=>trivial)).gV (Tp':=λ_=>True) 5 (.slice (some ⟨z2,0,none⟩) (k.length+1) cz2) trivial (λ_ _ _ _ _=>trivial);exact⟨rfl,⟨col2,_,_,_,_,by rw[hp];exact T14H.out.gV 5 (.slice (some ⟨z2,0,none⟩) (k.length+1) cz2),hc29⟩,G13.many,G13.rd,hk6.trans hk9,G13.kept⟩
end Go.Proofs.YtkpmclddjkebeaaGreatDoor
namespace P12
structure Small(t:Tb)(k:List (List T))(n:Nat):Prop where
 sum:t.cols.length+t.keys.length+t.checks.length≤n
 keys:k.length=t.keys.length
 most:n≤16
theorem Small.add{t:Tb}{k:List (List T)}{n:Nat}(h:Small t k n)(hn:n+1≤16)(o:Con):Small (gq t o) (jw k o) (n+1):=by
 obtain⟨h1,h2,h3⟩:=h
 cases o with
 | inl e=>exact⟨by simp[gq];omega,by simpa[gq,jw]using h2,hn⟩
 | inr p=>exact⟨by simp[gq];omega,by simp[gq,jw,h2],hn⟩
theorem tW{n:Nat}{c:T}{r r':R}{o:Con}(h:gv n c r = .ok (o,r'))(hc:bh r=true):n+1≤16:=by
 unfold gv at h;rw[hc]at h;by_cases hn:16<n+1
 ·rw[if_pos (by simpa using hn)]at h
  cases h
 ·omega
def pQ:Nat->T
 | 1 => [66,79,79,76]
 | 2 => [73,78,84]
 | 3 => [84,69,88,84]
 | _ => []
def tyQ(r:R):Nat->Nat×R
 | 0=>(0,r)
 | q+1=>if pQ q ≠ []/\(tyQ r q).1=0/\isT (pQ q) (tyQ r q).2=true then(q,ax (tyQ r q).2)else tyQ r q
theorem En(r:R):typeOf r=if(tyQ r 4).1=0 then bU 120 (tyQ r 4).2 else .ok (((tyQ r 4).1:Int),(tyQ r 4).2):=by
 unfold typeOf
 cases h1:isT [66,79,79,76] r
 ·cases h2:isT [73,78,84] r
  ·cases h3:isT [84,69,88,84] r<;>simp[tyQ,pQ,h1,h2,h3]
  ·simp[tyQ,pQ,h1,h2]
 ·simp[tyQ,pQ,h1]
theorem qH(r:R):∀q,bW r (tyQ r q).2
 | 0=>bW.refl r
 | q+1=>by
  unfold tyQ;split
  ·exact(qH r q).trans (aO _)
  ·exact qH r q
theorem AZ{r r':R}{c:T}(h:name r = .ok (c,r')):bW (ax r) r':=by
 unfold name at h;split at h
 ·cases h
 ·split at h
  ·cases h
  ·cases h;exact bW.refl _
theorem td{r r':R}{c:T}(h:name r = .ok (c,r')):named r=true:=by
 unfold name at h;split at h
 ·cases h
 ·rename_i hk;split at h
  ·cases h
  ·rename_i hl;have hk:(nxt r).kind=1:=by simpa using hk
   simp[named,hk];omega
theorem BW{c:T}{f:Nat}{t:Tb}{k:List (List T)}{n:Nat}{nn:Bool}{r:R}(h1:isT [78,79,84] r=false)(h2:bh r=false):gj c (f+1) t k n nn r = .ok ((t,k,n,nn),r):=by
 rw[gj,h1,h2];rfl
theorem sJ{c:T}{f:Nat}{t:Tb}{k:List (List T)}{n:Nat}{nn:Bool}{r:R}(h1:isT [78,79,84] r=false)(h2:bh r=true):gj c (f+1) t k n nn r=match gv n c r with
  | .error e => .error e
  | .ok (o,r2)=>gj c f (gq t o) (jw k o) (n+1) (nn||isT [80,82,73,77,65,82,89] r) r2:=by
 rw[gj,h1,h2];rfl
theorem sI{c:T}{f:Nat}{t:Tb}{k:List (List T)}{n:Nat}{nn:Bool}{r:R}(h1:isT [78,79,84] r=true):gj c (f+1) t k n nn r=match bL [78,85,76,76] (ax r)with
  | .error e => .error e
  | .ok r=>gj c f t k n true r:=by
 rw[gj,h1];rfl
theorem ng{r:R}(h:bh r=true):(nxt r).kind≠0:=by
 unfold bh at h;simp only[fu]at h;rcases h with(h|h)|h<;>exact el h
theorem B7{r r':R}{c:T}(g:Good r)(h:name r = .ok (c,r')):c ≠ []:=by
 unfold name at h;split at h
 ·cases h
 ·rename_i hk;split at h
  ·cases h
  ·cases h;exact g.lR.name (by simpa using hk)
end P12
namespace Go.Proofs.YtkpmclddjkebeaaGreatDoor
open Go.RowKit
theorem sj(br gx gm gc B n:Nat)(t:P12.Tb)(k:List (List P12.T))(c:P12.T)(r:P12.R)(w:World)(h:Rd br r w)(hx:dx B gx gc t k w)(hm:w.heap[gm]?=some (gu br n 16))(h1:br<gx)(h2:br<gm)(h3:gm<B)(hne:gm≠gx)(hn:n≤16)
  (hcc:(decide (16<n+1)&&P12.bh r)=true) :
  Calls af 199 #[rp br,rp gx,rp gm,bs c] w (sA br gx gm gc B n t k w r (.error ((P12.nxt r).pos,122))):=by
 have lr:=h.lt;have H:=aa h;have HM:=aa hm;clear h hx hm;go_enter Tryz.func199,Tryz.ntmps199;go_wp2_with fail;go_at_call 200;refine(iW br n 16 gm r _ (rp br) 198 (P12.bh r) w H.out HM.out h2 ab ab (.inl rfl) jt (λW hr _=>fb br r W hr)).mono ?_;rintro e w1 ⟨hx1,he1⟩;rw[if_pos hcc]at he1;subst he1;simp only[bq];go_wp2;exact⟨rfl,rfl,((cD.refl _ _ _ _).setCell (.inr ⟨by simp,h3⟩) 1 _).trans (cD.aR hx1)⟩
theorem nO(br gx gm gc B n:Nat)(t:P12.Tb)(k:List (List P12.T))(c:P12.T)(r:P12.R)(w:World)(h:Rd br r w)(hx:dx B gx gc t k w)(hm:w.heap[gm]?=some (gu br n 16))(h1:br<gx)(h2:br<gm)(h3:gm<B)(hne:gm≠gx)(hs:t.keys.length≤100/\t.checks.length≤100/\k.length≤100)(hn:n≤16)(hgs:gc<w.heap.size):
  Calls af 199 #[rp br,rp gx,rp gm,bs c] w (sA br gx gm gc B n t k w r (P12.gv n c r)):=by
 cases hcc:(decide (16<n+1)&&P12.bh r)
 ·cases hck:P12.isT [67,72,69,67,75] r
  ·rw[show P12.gv n c r=(match P12.jU r with
   | .error e => .error e
   | .ok r1=>match P12.eL c r1 with
    | .error e => .error e
    | .ok (l,r2)=> .ok (.inr (P12.isT [80,82,73,77,65,82,89] r,l),r2)) by
     unfold P12.gv;rw[hcc,hck];simp only[aS,if_false]
     have:(P12.has [80,82,73,77,65,82,89] r).1=P12.isT [80,82,73,77,65,82,89] r:=by
      unfold P12.has
      cases P12.isT [80,82,73,77,65,82,89] r<;>rfl
     rw[this];rfl]
   exact tV br gx gm gc B n t k c r w h hx hm h1 h2 h3 hne hn hgs ⟨hs.1,hs.2.2⟩ hcc hck
  ·rw[show P12.gv n c r=(match P12.within P12.expr (P12.ax r)with | .error e => .error e | .ok (e,r)=> .ok (.inl e,r)) by
     unfold P12.gv;rw[hcc,hck];simp only[aS,if_false,if_true];rfl]
   have hb:=hx.bounds;exact rf br gx gm gc B n t k c r w h hx hm h1 h2 h3 hne hn hs.2.1 hcc hck ab hgs
 ·rw[show P12.gv n c r = .error ((P12.nxt r).pos,122) by
     unfold P12.gv P12.bU;rw[if_pos (by exact hcc)]]
  exact sj br gx gm gc B n t k c r w h hx hm h1 h2 h3 hne hn hcc
structure Pk(br gx gm B n:Nat)(Tp:World->Prop)(w0:World)(r0 r:P12.R)(w:World):Prop where
 rd:Rd br r w
 tab:Tp w
 tst:∀w w',B≤w.heap.size->Tp w->ah br w w'->Tp w'
 many:w.heap[gm]?=some (gu br n 16)
 kept:Kept B [br,gx,gm] w0 w
 keeps:P12.bW r0 r
 h1:br<gx
 h2:br<gm
 h3:gm<B
 h4:gm≠gx
 h5:gx<B
 h6:B≤w.heap.size
section
variable {br gx gm B n : Nat} {Tp Tp' : World → Prop} {w0 : World} {r0 r r' : P12.R} {w w' : World}
theorem Pk.step(F:Pk br gx gm B n Tp w0 r0 r w)(ht:ah br w w')(hr:Rd br r' w')(hk:P12.bW r r'):Pk br gx gm B n Tp w0 r0 r' w':=by
 obtain⟨a1,a2,a3,a4,a5,a6,a7,a8,a9,a10,a11,a12⟩:=F;exact⟨hr,a3 _ _ a12 a2 ht,a3,ht.held a4 ab,a5.trans (Kept.bB ht aI),a6.trans hk,a7,a8,a9,a10,a11,bI a12 ht.size⟩
theorem Pk.ext(F:Pk br gx gm B n Tp w0 r0 r w)(hx:Xk.Ext w w'):Pk br gx gm B n Tp w0 r0 r w':=F.step (ah.aR hx) (F.rd.ext hx) (P12.bW.refl _)
theorem Pk.alloc(F:Pk br gx gm B n Tp w0 r0 r w)(o:Obj):Pk br gx gm B n Tp w0 r0 r (w.alloc o):=F.ext ((al _ _).alloc (ai _) _)
theorem Pk.after(F:Pk br gx gm B n Tp w0 r0 r w)(ht:ah br w w'):Kept B [br,gx,gm] w0 w':=F.kept.trans (Kept.bB ht aI)
theorem Pk.oL(F:Pk br gx gm B n Tp w0 r0 r w){g:Nat}(hB:B≤g)(o:Nat)(u:Value)(hT:Tp' (w.setCell ⟨g,o,none⟩ u))(hst:∀w w',B≤w.heap.size->Tp' w->ah br w w'->Tp' w'):Pk br gx gm B n Tp' w0 r0 r (w.setCell ⟨g,o,none⟩ u):=by
 obtain⟨a1,a2,a3,a4,a5,a6,a7,a8,a9,a10,a11,a12⟩:=F;exact⟨Rd.setCell a1 ab _ _,hT,hst,(an w ⟨g,o,none⟩ gm u (λe=>by(have h:gm=g:=(by simpa using e));omega)).trans a4,a5.setCell (.inl hB) _ _,a6,a7,a8,a9,a10,a11,by rw[aM];exact a12⟩
theorem Pk.gV(F:Pk br gx gm B n Tp w0 r0 r w)(o:Nat)(u:Value)(hT:Tp' (w.setCell ⟨gx,o,none⟩ u))(hst:∀w w',B≤w.heap.size->Tp' w->ah br w w'->Tp' w'):Pk br gx gm B n Tp' w0 r0 r (w.setCell ⟨gx,o,none⟩ u):=by
 obtain⟨a1,a2,a3,a4,a5,a6,a7,a8,a9,a10,a11,a12⟩:=F;exact⟨Rd.setCell a1 ab _ _,hT,hst,(an w ⟨gx,o,none⟩ gm u (λe=>a10 (by simpa using e))).trans a4,a5.setCell (.inr (.inl aI)) _ _,a6,a7,a8,a9,a10,a11,by rw[aM];exact a12⟩
theorem Pk.grown(F:Pk br gx gm B n Tp w0 r0 r w){k:Option Nat}(hg:w.grownBy w' k)(hk:∀b,k=some b->B≤b)(hT:Tp' w')(hst:∀w w',B≤w.heap.size->Tp' w->ah br w w'->Tp' w'):Pk br gx gm B n Tp' w0 r0 r w':=by
 obtain⟨a1,a2,a3,a4,a5,a6,a7,a8,a9,a10,a11,a12⟩:=F;exact⟨a1.grown hg (λb hb=>by have:=hk b hb;omega),hT,hst,(hg.block gm ab (λe=>by have:=hk gm e.symm;omega)).trans a4,a5.grown hg hk,a6,a7,a8,a9,a10,a11,bI a12 hg.size⟩
theorem Pk.with(F:Pk br gx gm B n Tp w0 r0 r w)(hT:Tp' w)(hst:∀w w',B≤w.heap.size->Tp' w->ah br w w'->Tp' w'):Pk br gx gm B n Tp' w0 r0 r w:=by
 obtain⟨a1,a2,a3,a4,a5,a6,a7,a8,a9,a10,a11,a12⟩:=F;exact⟨a1,hT,hst,a4,a5,a6,a7,a8,a9,a10,a11,a12⟩
end
theorem Cs{sz:Nat}:∀ (us:List (List Value)),(∀u∈us,u.length=sz)->∀ (j:Nat) (u:List Value),us[j]?=some u->∀i,i<sz->us.flatten[j*sz+i]?=u[i]?
 | [],_,_,_,h,_,_=>by simp at h
 | v::us,hl,j,u,h,i,hi=>by
  have hv:=hl v aI;rw[List.flatten_cons]
  cases j with
  | zero=>
   simp only[List.getElem?_cons_zero,fq]at h;subst h;rw[Nat.zero_mul,eF,cb ab]
  | succ j=>
   rw[gE,dB ab,hv,show j*sz+sz+i-sz=j*sz+i by omega];exact Cs us (λu hu=>hl u (by simp[hu])) j u (by simpa using h) i hi
theorem aE.elem{α:Type}{S:Nat->Prop}{w:World}{sz:Nat}{R:α->List Value->Prop}{l:List α}{g n c:Nat}(h:aE S w sz R l (.slice (some ⟨g,0,none⟩) n c)):
  n=l.length/\S g/\∀ (j:Nat) x,l[j]?=some x->∃u,R x u/\u.length=sz/\w.rangeAt g (j*sz) u:=by
 rcases h with⟨-,h⟩|⟨g',c',us,h1,h2,h3,h4,h5,h6,h7,h8,h9⟩
 ·cases h
 ·cases h1;refine⟨rfl,h2,λj x hx=>?_⟩;have hj:j<us.length:=by have:=(cr.1 hx).1;omega
  have hu:us[j]?=some us[j]:=aZ hj;refine⟨us[j],h9 j x _ hx hu,h6 _ (i6 hj),λi v hv=>?_⟩;have hi:i<sz:=by have:=(cr.1 hv).1;rw[h6 _ (i6 hj)]at this;exact this
  have:=h8 (j*sz+i) v (by rw[Cs us h6 j _ hu i hi];exact hv);rwa [eF]at this
theorem xY{c:Array Value}{o:Nat}{v:Value}(h:c[o]?=some v):c.setIfInBounds o v=c:=by
 apply Array.ext aI;intro i h1 h2;rw[Array.getElem_setIfInBounds (by simpa using h2)];split
 ·rename_i e;subst e;rw[cM h2]at h;exact(iy h).symm
 ·rfl
theorem Tab.I0{B gx:Nat}{t:P12.Tb}{k:List (List P12.T)}{col:Nat->Nat}{tk tq kc:Value}{cc:Array Value}{w:World}{c:P12.T}{ty:Int}{nn:Bool}{z cz:Nat}{cs:List (P12.T×Int×Bool)}
  (h:Tab B gx { t with cols:=cs ++ [(c,ty,nn)] } k col (.slice (some ⟨z,0,none⟩) (cs.length+1) cz) tk tq kc cc w) (b:Bool) :
  Tab B gx { t with cols:=cs ++ [(c,ty,b)] } k col (.slice (some ⟨z,0,none⟩) (cs.length+1) cz) tk tq kc cc (w.setCell ⟨z,cs.length*3+2,none⟩ (.bool b))/\w.cell? ⟨z,cs.length*3+2,none⟩=some (.bool nn)/\w.frozen? ⟨z,cs.length*3+2,none⟩=false:=by
 obtain⟨-,cur,hc,hcs⟩:=h.tc.mem;obtain⟨-,-,he⟩:=aE.elem (h.tc.slc fm aq);obtain⟨u,hu,-,hr⟩:=he cs.length (c,ty,nn) aI;have hu:u = [(.string ⟨c.toArray⟩),.int .i64 ty,.bool nn]:=hu;subst hu;have e0:cur[cs.length*3]?=some ((.string ⟨c.toArray⟩)):=by have:=hr 0 _ rfl;simpa[ak,hc]using this
 have e1:cur[cs.length*3+1]?=some (.int .i64 ty):=by have:=hr 1 _ rfl;simpa[ak,hc]using this
 refine⟨?_,hr 2 _ rfl,aD w z _ _ _ hc⟩;refine Tab.KP (t := { t with cols:=cs }) (l := [(.string ⟨c.toArray⟩),.int .i64 ty,.bool b]) h hc ?_ rfl rfl;have hp:=gZ hc [.bool b] (cs.length*3+2)
 have hw:fZ cur (cs.length*3) [(.string ⟨c.toArray⟩),.int .i64 ty,.bool b]=fZ cur (cs.length*3+2) [.bool b]:=by
  show((cur.setIfInBounds (cs.length*3) ((.string ⟨c.toArray⟩))).setIfInBounds (cs.length*3+1) (.int .i64 ty)).setIfInBounds (cs.length*3+1+1) (.bool b)=cur.setIfInBounds (cs.length*3+2) (.bool b)
  rw[xY e0,xY e1]
 show bt z (fZ cur (cs.length*3) [(.string ⟨c.toArray⟩),.int .i64 ty,.bool b]) _ w _
 rw[hw];exact hp
theorem Own.Jg{α:Type}{S:Nat->Prop}{e:TypeId}{sz:Nat}{R:(Nat->Prop)->World->α->List Value->Prop}{xs:List α}{x:α}{v:Value}{w:World}(h:Own S e sz R (xs ++ [x]) v w):∃z cz,v = .slice (some ⟨z,0,none⟩) (xs.length+1) cz:=by
 obtain⟨us,-,ho,-⟩:=h;rcases ho.2 with⟨-,h0⟩|⟨g,cap,cur,rfl,-⟩
 ·simp at h0
 ·exact⟨g,cap,by simp⟩
theorem dx.mark{B gx gc:Nat}{t:P12.Tb}{k:List (List P12.T)}{w:World}(h:dx B gx 0 t k w)(hg:w.heap.size≤gc):dx B gx gc t k w:=by
 obtain⟨col,tc,tk,tq,kc,h,-⟩:=h;exact⟨λb=>if b<w.heap.size then col b else 9,tc,tk,tq,kc,h.Ay _ (λb hb _=>by simp only[hb,if_true]),λ_=>if_neg ab⟩
theorem dx.Ej{B gx gc:Nat}{t:P12.Tb}{k:List (List P12.T)}{w:World}(h:dx B gx gc t k w):dx B gx 0 t k w:=by
 obtain⟨col,tc,tk,tq,kc,h,-⟩:=h;exact⟨col,tc,tk,tq,kc,h,λhb=>by have:=h.bx;omega⟩
theorem dx.oL{B gx gc:Nat}{t:P12.Tb}{k:List (List P12.T)}{w:World}(h:dx B gx gc t k w)(hB:B≤gc)(o:Nat)(u:Value):dx B gx gc t k (w.setCell ⟨gc,o,none⟩ u):=by
 obtain⟨col,tc,tk,tq,kc,h,h9⟩:=h;have hb:∀b,b≠gc->(w.setCell ⟨gc,o,none⟩ u).heap[b]?=w.heap[b]?:=λb hb=>an w ⟨gc,o,none⟩ b u (λe=>hb (by simpa using e));have hne:∀i b,i≠9->(B≤b/\col b=i)->b≠gc:=λi b hi hb e=>hi (by rw[← hb.2,e,h9 hB]);exact⟨col,tc,tk,tq,kc,⟨(hb gx (by have:=h.bx;omega)).trans h.blk,h.tc.bg fm (λb hb' _=>hb b (hne 0 b aq hb')) (λb hb _=>hb),h.tk.bg fB (λb hb' _=>hb b (hne 1 b aq hb')) (λb hb _=>hb),h.tq.bg bj (λb hb' _=>hb b (hne 2 b aq hb')) (λb hb _=>hb),h.kc.bg eT (λb hb' _=>hb b (hne 3 b aq hb')) (λb hb _=>hb),h.bx,by rw[aM];exact h.bs⟩,h9⟩
abbrev xr(c:P12.T)(ty:Nat):Obj := .cells #[bs c,.int .i64 ty,.bool false] 137
def Gw(B gx gc:Nat)(t:P12.Tb)(k:List (List P12.T))(c:P12.T)(ty:Nat)(W:World):Prop:=dx B gx gc t k W/\W.heap[gc]?=some (xr c ty)
theorem Gw.turn{B gx gc br:Nat}{t:P12.Tb}{k:List (List P12.T)}{c:P12.T}{ty:Nat}{w w':World}(h:Gw B gx gc t k c ty w)(ht:ah br w w')(h1:br<gx)(h2:br<gc):Gw B gx gc t k c ty w':=
 ⟨h.1.turn ht h1,ht.held h.2 ab⟩
def qz(br gx gm B:Nat)(w0:World)(r0:P12.R)(res:Except P12.Er ((P12.Tb×List (List P12.T)×Nat)×P12.R))(e:Ending)(w':World):Prop:=
 match res with
 | .error er=>e=bq er/\Kept B [br,gx,gm] w0 w'
 | .ok ((t,k,n),r')=>e = .returned (.tuple #[])/\dx B gx 0 t k w'/\w'.heap[gm]?=some (gu br n 16)/\Rd br r' w'/\P12.bW (P12.ax r0) r'/\Kept B [br,gx,gm] w0 w'/\P12.Small t k n
theorem EV(br gx gm B n:Nat)(t:P12.Tb)(k:List (List P12.T))(r:P12.R)(w:World)(h:Rd br r w)(hx:dx B gx 0 t k w)(hm:w.heap[gm]?=some (gu br n 16))(h1:br<gx)(h2:br<gm)(h3:gm<B)(hne:gm≠gx)(hs:P12.Small t k n)(hc:P12.bh r=true):
  Calls af 133 #[rp br,rp gx,rp gm] w (qz br gx gm B w r (P12.part t k n r)):=by
 have HR:=aa h;have HX:=aa hx;have HM:=aa hm;have HS:=aa hs;have lr:=h.lt;clear h hx hm hs;go_enter Tryz.func133,Tryz.ntmps133;go_wp2_with fail;go_at_call 198;refine(fb br r w HR.out).mono ?_;rw[hc];rintro e w1 ⟨rfl,hx1⟩;go_wp2_with fail;go_at_call 199;refine(nO br gx gm 0 B n t k [] r w1 (HR.out.ext hx1) (HX.out.ext hx1) ((hx1.block _ (ae.1 HM.out).1).trans HM.out) h1 h2 h3 hne (by have:=HS.out.sum;have:=HS.out.keys;have:=HS.out.most;omega) HS.out.most (by have:=hx1.size;omega)).mono ?_;intro e w2 h
 cases hn:P12.gv n [] r with
 | error er=>
  rw[hn]at h;obtain⟨rfl,hk⟩:=h;simp only[bq];go_wp2;rw[show P12.part t k n r = .error er by unfold P12.part;rw[hc,hn];rfl];exact⟨rfl,rfl,(Kept.aR hx1).trans hk.kept⟩
 | ok p=>
  obtain⟨o,r2⟩:=p;rw[hn]at h;obtain⟨rfl,hT,hM,hR,hK,hk⟩:=h;go_wp2;refine ar (uj rfl _ _ _) rfl ?_;rw[show P12.part t k n r = .ok ((P12.gq t o,P12.jw k o,n+1),r2) by unfold P12.part;rw[hc,hn];rfl];exact⟨rfl,hT,hM,hR,hK,(Kept.aR hx1).trans hk.kept,HS.out.add (P12.tW hn hc) o⟩
theorem Df(br gx gm B n:Nat)(t:P12.Tb)(k:List (List P12.T))(r:P12.R)(w:World)(h:Rd br r w)(hx:dx B gx 0 t k w)(hm:w.heap[gm]?=some (gu br n 16))(h1:br<gx)(h2:br<gm)(h3:gm<B)(hne:gm≠gx)(hs:P12.Small t k n)(hc:P12.bh r=false)(hr:(decide (16<n+1)&&P12.named r)=true):
  Calls af 133 #[rp br,rp gx,rp gm] w (qz br gx gm B w r (.error ((P12.nxt r).pos,122))):=by
 have HR:=aa h;have HM:=aa hm;have HS:=aa hs;have lr:=h.lt;have hmf:=nF;clear h hx hm hs;go_enter Tryz.func133,Tryz.ntmps133;go_wp2_with fail;go_at_call 198;refine(fb br r w HR.out).mono ?_;rw[hc];rintro e w1 ⟨rfl,hx1⟩;go_wp2_with fail;go_at_call 200;refine(iW br n 16 gm r _ (rp br) 141 (P12.named r) w1 (HR.out.ext hx1) ((hx1.block _ (ae.1 HM.out).1).trans HM.out) h2 (by have:=HS.out.most;omega) ab (.inl rfl) mx (λW hr _=>kD br r W hr)).mono ?_;rintro e w2 ⟨hx2,he2⟩;rw[if_pos hr]at he2;subst he2;simp only[bq];go_wp2
 exact⟨rfl,rfl,((Kept.aR hx1).setCell (.inr (.inl aI)) 1 _).trans (Kept.aR hx2)⟩
theorem Tryz.Cn:(af.info? 137).map (λi=>(i.zero,i.size,i.bytes))=some (some (.agg #[.string ⟨#[]⟩,.int .i64 0,.bool false]),3,32):=au
abbrev Pc(br gx gm gc B n:Nat)(t:P12.Tb)(k:List (List P12.T))(c:P12.T)(ty:Nat)(w0:World)(r0 r:P12.R)(w:World):Prop:=Pk br gx gm B n (Gw B gx gc t k c ty) w0 r0 r w
theorem Pk.ct{br gx gm gc B n:Nat}{t:P12.Tb}{k:List (List P12.T)}{c:P12.T}{ty:Nat}{w0 w:World}{r0 r:P12.R}(F:Pc br gx gm gc B n t k c ty w0 r0 r w)(hg:B≤gc)(q:Nat):Pc br gx gm gc B n t k c q w0 r0 r (w.setCell ⟨gc,1,none⟩ (.int .i64 q)):=
 F.oL hg 1 (.int .i64 q) ⟨F.tab.1.oL hg _ _,heap_setCell_same w gc 1 _ _ _ F.tab.2⟩ (λw w' _ h ht=>h.turn ht F.h1 (by have:=F.h5;have:=F.h1;omega))
theorem EW(br gx gm B n:Nat)(t:P12.Tb)(k:List (List P12.T))(r:P12.R)(w:World)(h:Rd br r w)(hx:dx B gx 0 t k w)(hm:w.heap[gm]?=some (gu br n 16))(h1:br<gx)(h2:br<gm)(h3:gm<B)(hne:gm≠gx)(hs:P12.Small t k n)(hc:P12.bh r=false)(hr:(decide (16<n+1)&&P12.named r)=false):
  Calls af 133 #[rp br,rp gx,rp gm] w (qz br gx gm B w r (match P12.name r with
  | .error e => .error e
  | .ok (c,r)=>
   match P12.typeOf r with
   | .error e => .error e
   | .ok (ty,r)=>
    match P12.gj c r.l.length t k (n+1) false r with
    | .error e => .error e
    | .ok ((t,k,n,nn),r)=> .ok (({ t with cols:=t.cols ++ [(c,ty,nn)] },k,n),r))):=by
 have HR:=aa h;have HX:=aa hx;have HM:=aa hm;have HS:=aa hs;have HB:=hx.bounds;have lr:=h.lt;have hmf:=nF
 generalize hres:(match P12.name r with
  | .error e => .error e
  | .ok (c,r)=>
   match P12.typeOf r with
   | .error e => .error e
   | .ok (ty,r)=>
    match P12.gj c r.l.length t k (n+1) false r with
    | .error e => .error e
    | .ok ((t,k,n,nn),r)=> .ok (({ t with cols:=t.cols ++ [(c,ty,nn)] },k,n),r):Except P12.Er ((P12.Tb×List (List P12.T)×Nat)×P12.R))=res
 have HE:=aa hres;clear h hx hm hs hres;go_enter Tryz.func133,Tryz.ntmps133;go_wp2_with fail;go_at_call 198;refine(fb br r w HR.out).mono ?_;rw[hc];rintro e w1 ⟨rfl,hx1⟩;go_wp2_with fail;go_at_call 200;have hm1:w1.heap[gm]?=some (gu br n 16):=(hx1.block _ (ae.1 HM.out).1).trans HM.out;refine(iW br n 16 gm r _ (rp br) 141 (P12.named r) w1 (HR.out.ext hx1) hm1 h2 (by have:=HS.out.most;omega) ab (.inl rfl) mx (λW hr _=>kD br r W hr)).mono ?_;rintro e w2 ⟨hx2,he2⟩;rw[if_neg (by rw[hr];simp)]at he2;subst he2
 have hm2:w2.heap[gm]?=some (gu br (n+1) 16):=by
  rw[hx2.block _ (by rw[aM];exact(ae.1 hm1).1),heap_setCell_same w1 gm 1 _ _ _ hm1];simp
 have F2:Pk br gx gm B (n+1) (dx B gx 0 t k) w r r w2:=
  ⟨(Rd.setCell (HR.out.ext hx1) ab 1 _).ext hx2,((HX.out.ext hx1).setCell h3 hne 1 _).ext hx2,λw w' _ h ht=>h.turn ht h1,hm2,((Kept.aR hx1).setCell (.inr (.inl aI)) 1 _).trans (Kept.aR hx2),P12.bW.refl _,h1,h2,h3,hne,HB.1,by have:=hx1.size;have:=hx2.size;rw[aM]at this;omega⟩
 have lr2:=F2.rd.lt;clear hx1 hm1 hx2 hm2;go_wp2_with fail;go_at_call 131;refine(dG br r _ F2.rd).mono ?_;intro e w3 h
 cases hn:P12.name r
 case error er=>exact ste F2.after
 rename_i p;rw[hn]at h HE;dsimp only at HE;obtain⟨c,r3⟩:=p;obtain⟨_,rfl,rfl,ht,hr3,hk3⟩:=h;have hk3':P12.bW (P12.ax r) r3:=P12.AZ hn;have hc0:c ≠ []:=P12.B7 HR.out.good hn;have F3:=F2.step ht hr3 hk3;have hB3:=F3.h6;clear ht hr3 hk3 F2;go_upto_region 5 with fail
 have hgt:((w3.alloc (xr c 0)).alloc (.cells #[.string ⟨#[]⟩,bs [66,79,79,76],bs [73,78,84],bs [84,69,88,84]] 157)).heap[w3.heap.size+1]?=some (.cells #[.string ⟨#[]⟩,bs [66,79,79,76],bs [73,78,84],bs [84,69,88,84]] 157):=by
  have:=aw (w3.alloc (xr c 0)) (.cells #[.string ⟨#[]⟩,bs [66,79,79,76],bs [73,78,84],bs [84,69,88,84]] 157);rwa [ag]at this
 have F5:Pc br gx gm w3.heap.size B (n+1) t k c 0 w r r3 ((w3.alloc (xr c 0)).alloc (.cells #[.string ⟨#[]⟩,bs [66,79,79,76],bs [73,78,84],bs [84,69,88,84]] 157)):=
  ((F3.alloc (xr c 0)).with (Tp':=Gw B gx w3.heap.size t k c 0) ⟨(F3.tab.mark (ai _)).ext ((al _ _).alloc (ai _) _),aw w3 _⟩ (λw w' _ h ht=>h.turn ht h1 ab)).alloc _
 clear F3;generalize ((w3.alloc (xr c 0)).alloc (.cells #[.string ⟨#[]⟩,bs [66,79,79,76],bs [73,78,84],bs [84,69,88,84]] 157))=w5 at *
 have hlt5:=(ae.1 hgt).1;generalize hgc:w3.heap.size=gc at *
 clear hgc;go_wp2_with ((refine lw hgt Tryz.underlying157 ?_));clear hgt hlt5;go_loopw [27] (λx wr=>∃q:Nat,q≤4/\x = .int .i64 q/\Pc br gx gm gc B (n+1) t k c (P12.tyQ r3 q).1 w r (P12.tyQ r3 q).2 wr) (λx _=>4-(intOf x).toNat)
 case atStart=>exact⟨0,by omega,rfl,F5⟩
 case round=>
  obtain⟨q,hq,rfl,F⟩:=hrel;clear F5;have hgB:B≤gc:=hB3;have hq5:q=0∨q=1∨q=2∨q=3∨q=4:=ab;rcases hq5 with rfl|rfl|rfl|rfl|rfl
  ·go_wp2_with fail;go_roundw
   case rel=>exact⟨1,by omega,by go_num,by rw[show P12.tyQ r3 1=P12.tyQ r3 0 by simp[P12.tyQ,P12.pQ]];exact F⟩
   case measure=>simp[intOf]
  ·generalize hy:P12.tyQ r3 1=st at F;obtain⟨y,r'⟩:=st;dsimp only at F
   have hnx:P12.tyQ r3 (1+1)=if y=0/\P12.isT [66,79,79,76] r'=true then(1,P12.ax r')else(y,r'):=by
    rw[P12.tyQ,hy];simp[P12.pQ]
   have cY:wr.cell? ⟨gc,1,none⟩=some (.int .i64 y):=by simp[ak,F.tab.2]
   have fY:=aD wr gc 1 _ _ F.tab.2;have lY:=(ae.1 F.tab.2).1;by_cases hy0:y=0
   ·subst hy0
    cases hi:P12.isT [66,79,79,76] r'
    ·rw[if_neg (by rw[hi];simp)]at hnx;simp only[gH]at cY;go_wp2_with fail;go_at_call 20;refine(fk br r' [66,79,79,76] wr F.rd hi).mono ?_;rintro e w7 ⟨rfl,hx7⟩;go_wp2_with fail;go_roundw
     case rel=>exact⟨1+1,by omega,by go_num,by rw[hnx];exact F.ext hx7⟩
     case measure=>simp[intOf]
    ·rw[if_pos ⟨rfl,hi⟩]at hnx;simp only[gH]at cY;go_wp2_with fail;go_at_call 20;refine(dT br r' [66,79,79,76] wr F.rd hi).mono ?_;rintro e w7 ⟨rfl,ht7,hr7⟩;have F7:=F.step ht7 hr7 (P12.aO r');have c7:w7.cell? ⟨gc,1,none⟩=some (.int .i64 (0:Nat)):=by simp[ak,F7.tab.2]
     have f7:=aD w7 gc 1 _ _ F7.tab.2;have l7:=(ae.1 F7.tab.2).1;clear ht7 hr7;go_wp2_with fail;go_roundw
     case rel=>exact⟨1+1,by omega,by go_num,by rw[hnx];exact F7.ct hgB 1⟩
     case measure=>simp[intOf]
   ·rw[if_neg (by simp[hy0])]at hnx;have hyb:((y:Int)==0)=false:=by simpa using hy0
    go_wp2_with fail;go_roundw
    case rel=>exact⟨1+1,by omega,by go_num,by rw[hnx];exact F⟩
    case measure=>simp[intOf]
  ·generalize hy:P12.tyQ r3 2=st at F;obtain⟨y,r'⟩:=st;dsimp only at F
   have hnx:P12.tyQ r3 (2+1)=if y=0/\P12.isT [73,78,84] r'=true then(2,P12.ax r')else(y,r'):=by
    rw[P12.tyQ,hy];simp[P12.pQ]
   have cY:wr.cell? ⟨gc,1,none⟩=some (.int .i64 y):=by simp[ak,F.tab.2]
   have fY:=aD wr gc 1 _ _ F.tab.2;have lY:=(ae.1 F.tab.2).1;by_cases hy0:y=0
   ·subst hy0
    cases hi:P12.isT [73,78,84] r'
    ·rw[if_neg (by rw[hi];simp)]at hnx;simp only[gH]at cY;go_wp2_with fail;go_at_call 20;refine(fk br r' [73,78,84] wr F.rd hi).mono ?_;rintro e w7 ⟨rfl,hx7⟩;go_wp2_with fail;go_roundw
     case rel=>exact⟨2+1,by omega,by go_num,by rw[hnx];exact F.ext hx7⟩
     case measure=>simp[intOf]
    ·rw[if_pos ⟨rfl,hi⟩]at hnx;simp only[gH]at cY;go_wp2_with fail;go_at_call 20;refine(dT br r' [73,78,84] wr F.rd hi).mono ?_;rintro e w7 ⟨rfl,ht7,hr7⟩;have F7:=F.step ht7 hr7 (P12.aO r');have c7:w7.cell? ⟨gc,1,none⟩=some (.int .i64 (0:Nat)):=by simp[ak,F7.tab.2]
     have f7:=aD w7 gc 1 _ _ F7.tab.2;have l7:=(ae.1 F7.tab.2).1;clear ht7 hr7;go_wp2_with fail;go_roundw
     case rel=>exact⟨2+1,by omega,by go_num,by rw[hnx];exact F7.ct hgB 2⟩
     case measure=>simp[intOf]
   ·rw[if_neg (by simp[hy0])]at hnx;have hyb:((y:Int)==0)=false:=by simpa using hy0
    go_wp2_with fail;go_roundw
    case rel=>exact⟨2+1,by omega,by go_num,by rw[hnx];exact F⟩
    case measure=>simp[intOf]
  ·generalize hy:P12.tyQ r3 3=st at F;obtain⟨y,r'⟩:=st;dsimp only at F
   have hnx:P12.tyQ r3 (3+1)=if y=0/\P12.isT [84,69,88,84] r'=true then(3,P12.ax r')else(y,r'):=by
    rw[P12.tyQ,hy];simp[P12.pQ]
   have cY:wr.cell? ⟨gc,1,none⟩=some (.int .i64 y):=by simp[ak,F.tab.2]
   have fY:=aD wr gc 1 _ _ F.tab.2;have lY:=(ae.1 F.tab.2).1;by_cases hy0:y=0
   ·subst hy0
    cases hi:P12.isT [84,69,88,84] r'
    ·rw[if_neg (by rw[hi];simp)]at hnx;simp only[gH]at cY;go_wp2_with fail;go_at_call 20;refine(fk br r' [84,69,88,84] wr F.rd hi).mono ?_;rintro e w7 ⟨rfl,hx7⟩;go_wp2_with fail;go_roundw
     case rel=>exact⟨3+1,by omega,by go_num,by rw[hnx];exact F.ext hx7⟩
     case measure=>simp[intOf]
    ·rw[if_pos ⟨rfl,hi⟩]at hnx;simp only[gH]at cY;go_wp2_with fail;go_at_call 20;refine(dT br r' [84,69,88,84] wr F.rd hi).mono ?_;rintro e w7 ⟨rfl,ht7,hr7⟩;have F7:=F.step ht7 hr7 (P12.aO r');have c7:w7.cell? ⟨gc,1,none⟩=some (.int .i64 (0:Nat)):=by simp[ak,F7.tab.2]
     have f7:=aD w7 gc 1 _ _ F7.tab.2;have l7:=(ae.1 F7.tab.2).1;clear ht7 hr7;go_wp2_with fail;go_roundw
     case rel=>exact⟨3+1,by omega,by go_num,by rw[hnx];exact F7.ct hgB 3⟩
     case measure=>simp[intOf]
   ·rw[if_neg (by simp[hy0])]at hnx;have hyb:((y:Int)==0)=false:=by simpa using hy0
    go_wp2_with fail;go_roundw
    case rel=>exact⟨3+1,by omega,by go_num,by rw[hnx];exact F⟩
    case measure=>simp[intOf]
  ·have hE:=HE.out;rw[P12.En]at hE;have hk4:=P12.qH r3 4;generalize hy:P12.tyQ r3 4=st at F hE hk4;obtain⟨y,r4⟩:=st;dsimp only at F hE hk4;have cY:wr.cell? ⟨gc,1,none⟩=some (.int .i64 y):=by simp[ak,F.tab.2]
   have fY:=aD wr gc 1 _ _ F.tab.2;have lY:=(ae.1 F.tab.2).1;by_cases hy0:y=0
   ·subst hy0;rw[if_pos rfl]at hE;dsimp only[P12.bU]at hE;subst hE;simp only[gH]at cY;go_wp2_with fail;go_at_call 22;refine(eC br r4 120 wr F.rd).mono ?_;rintro e w7 ⟨rfl,hx7⟩;simp only[bq];go_wp2;exact⟨rfl,rfl,F.after (ah.aR hx7)⟩
   rw[if_neg hy0]at hE;dsimp only at hE;clear HE;have HE:=aa hE;have hyb:((y:Int)==0)=false:=by simpa using hy0
   obtain⟨col,tc,tk,tq,kc,T,h9⟩:=F.tab.1;have h9:=h9 hgB;obtain⟨a1,a2,b1,b2,c1,c2,d1,d2,rfl,rfl,rfl,rfl⟩:=T.form;have cC:wr.cell? ⟨gx,2,none⟩=some (.slice a1 t.cols.length a2):=by simp[ak,T.blk]
   have k0:wr.cell? ⟨gc,0,none⟩=some (bs c):=by simp[ak,F.tab.2]
   have k2:wr.cell? ⟨gc,2,none⟩=some (.bool false):=by simp[ak,F.tab.2]
   have hBg:=F.h5;have lgx:gx<wr.heap.size:=ab;have T10:=T.yh 0;obtain⟨us,-,hown,-,hu2,hu3,hu4⟩:=T10.tc
   have hlt:∀b,(gU a1 t.cols.length a2).ownBlock=some b->B≤b/\b<wr.heap.size/\b≠gc:=λb hb=>by
    obtain⟨⟨h1,h2⟩,h3⟩:=T10.tc.lt b hb;try dsimp only at h2
    rw[if_pos h3]at h2;exact⟨h1,h3,λe=>by rw[e,h9]at h2;omega⟩
   have HF:Hid (∀W,Xe.ES (Xe.fR 137 3 (t.cols.length+1) (us.flatten ++ [bs c,.int .i64 y,.bool false]) (.slice a1 t.cols.length a2)) wr.drew W->W.cell? ⟨gx,2,none⟩=some (.slice a1 t.cols.length a2)/\gx<W.heap.size/\W.cell? ⟨gc,0,none⟩=some (bs c)/\W.cell? ⟨gc,1,none⟩=some (.int .i64 y)/\W.cell? ⟨gc,2,none⟩=some (.bool false)/\gc<W.heap.size):=aa λW hx=>by
    have hn:∀x,x<B∨x=gc->∀q∈Xe.fR 137 3 (t.cols.length+1) (us.flatten ++ [bs c,.int .i64 y,.bool false]) (.slice a1 t.cols.length a2),q.1≠x:=λx hx q hq e=>by
     have:=hlt _ (Xe.fv hq);omega
    have hs:=hx.2.2.2.1;simp only[bM]at hs;have d:∀b o v,b<B∨b=gc->wr.cell? ⟨b,o,none⟩=some v->W.cell? ⟨b,o,none⟩=some v:=λb o v hb hc=>hx.cell (show wr.drew.cell? ⟨b,o,none⟩=some v from hc) (hn b hb);exact⟨d _ _ _ ab cC,by omega,d _ _ _ ab k0,d _ _ _ ab cY,d _ _ _ ab k2,by omega⟩
   have T10H:=aa T10;have HU:=aa hu4;have hkl:t.cols.length≤4000000:=by have:=HS.out.sum;have:=HS.out.most;omega
   obtain⟨ks,hks⟩:∃ks:Xe.gT,ks=Xe.fR 137 3 (t.cols.length+1) (us.flatten ++ [bs c,.int .i64 y,.bool false]) (.slice a1 t.cols.length a2):=⟨_,rfl⟩;have HKS:=aa hks
   have HSB:Hid (∀k∈ks,(.slice a1 t.cols.length a2:Value).ownBlock=some k.1/\k.1<(wr).heap.size):=aa λk hk=>by
    rw[hks]at hk;exact⟨Xe.fv hk,((hown).lt _ (Xe.fv hk)).2⟩
   have HS6:Hid (∀k∈ks,(.slice a1 t.cols.length a2:Value).ownBlock=some k.1->k∈Xe.fR 137 3 (t.cols.length+1) (us.flatten ++ [bs c,.int .i64 y,.bool false]) (.slice a1 t.cols.length a2)):=aa λk hk _=>by rw[hks]at hk;exact hk
   have HVL:Hid (∀b,(.slice a1 t.cols.length a2:Value).ownBlock=some b->b<(wr).heap.size):=aa λb hb=>((hown).lt b hb).2;have HOA:=aa (hown);clear hks;rw[← HKS.out]at HF;obtain⟨i0,hi,hz0,hz1,hz2⟩:=cP Tryz.Cn;have Hi:=aa hi;have Hz0:=aa hz0;have Hz1:=aa hz1;have Hz2:=aa hz2;clear hi hz0 hz1 hz2;go_upto_region 14 with fail
   have FH:=aa F;clear cC k0 k2 hown T10 hu4 F cY fY
   refine Xe.bm (E:=Xe.ES ks) (Xe.bS _) 12 (Xe.O2 8 _ 99 none) (Xe.Gv HVL.out (λb hb=>by cases hb)) (Xe.Gu (λb hb e=>by cases e)) [(7,Xe.newRow (wr).heap.size [bs c,.int .i64 y,.bool false] 137),(8,Xe.DZ 137 3 (wr).heap.size (.slice a1 t.cols.length a2) t.cols.length us.flatten [bs c,.int .i64 y,.bool false])] au au (Xe.jD (by
       intro y hy;simp only[aJ,aF,or_false]at hy;rcases hy with rfl|rfl
       ·exact Xe.newRow.es λk hk=>(HSB.out k hk).2
       ·exact Xe.lG.es HS6.out λk hk=>(HSB.out k hk).2)) ?_
   simp only[aG,aY,aL,bd]
   repeat(first
    | ((first|refine Xe.aX (Xe.bS _) (Xk.aQ az) az (λK hK=>?_)|refine Xe.aX (Xe.bS _) az az (λK hK=>?_));apply aU;refine⟨λW hx hp=>?_,?_⟩;(obtain⟨f1,f2,f3,f4,f5,f6⟩:=HF.out _ hx;go_simp;exact⟨rfl,rfl⟩);(go_simp;refine hK _ ?_;clear hK K))
    | (refine Xe.cQ az (λK hK=>?_);go_simp;refine hK _ ?_;clear hK K))
   (refine Xe.bc (Xe.bS _) az az (λW hx hp=>?_) (λynew K hK=>?_);(go_simp;exact Xe.wI _ _ _ _ (by first|rfl|kernel_rfl) (by have:=hx.2.2.2.1;simpa using this));(go_simp;refine hK _ ?_;clear hK K))
   (refine Xe.bc (Xe.bS _) az az (λW hx hp=>?_) (λz1 K hK=>?_);(obtain⟨g,rfl,hg,hc⟩:=Xe.bG hp au;exact Xe.qQ _ _ _ 23 az 137 i0 _ 3 32 Tryz.underlying23 Hi.out Hz0.out Hz1.out Hz2.out rfl aq (.slice a1 t.cols.length a2) t.cols.length us.flatten [bs c,.int .i64 y,.bool false] az (hx.own (m:=1) (Xo.ny HOA.out) HS6.out) g 1 az az hc (dS au) ab (by have:=hx.2.2.2.1;simpa using this) (by rw[HKS.out];exact λk hk=>hk) az);(go_simp;refine hK _ ?_;clear hK K))
   repeat(first
    | ((first|refine Xe.aX (Xe.bS _) (Xk.aQ az) az (λK hK=>?_)|refine Xe.aX (Xe.bS _) az az (λK hK=>?_));apply aU;refine⟨λW hx hp=>?_,?_⟩;(obtain⟨f1,f2,f3,f4,f5,f6⟩:=HF.out _ hx;go_simp;exact⟨rfl,rfl⟩);(go_simp;refine hK _ ?_;clear hK K))
    | (refine Xe.cQ az (λK hK=>?_);go_simp;refine hK _ ?_;clear hK K))
   refine Xe.bD (λW hx hp hg=>?_);simp only[Xk.fP]at hp;obtain⟨p1',-,-⟩:=hp;obtain⟨z,cz,rfl,ho7,hz7⟩:=p1'.form;have hg7:=Xe.ES.grown (e:=137) (size:=3) (n:=0) (xs := []) hx HSB.out;have T11:=Tab.Jd (x:=(c,(y:Int),false)) T10H.out (λb hb=>if_neg ab) hu2 hu3 HU.out hg7 ho7 (λb hb=>by cases hb;exact hz7) rfl rfl;have hgc7:W.heap[gc]?=some (xr c y):=(hg7.block gc lY (λe=>(hlt gc e.symm).2.2 rfl)).trans FH.out.tab.2;have f11:=aD W gx 2 _ _ T11.blk;have c11:W.cell? ⟨gx,2,none⟩=some (.slice a1 t.cols.length a2):=by simp[ak,T11.blk]
   have F12:Pc br gx gm gc B (n+1) { t with cols:=t.cols ++ [(c,(y:Int),false)] } k c y w r r4 (W.setCell ⟨gx,2,none⟩ (.slice (some ⟨z,0,none⟩) (t.cols.length+1) cz)):=
    (FH.out.grown (Tp':=λ_=>True) hg7 (λb hb=>(hlt b hb).1) trivial (λ_ _ _ _ _=>trivial)).gV 2 _
     ⟨⟨_,_,_,_,_,T11.gV 2 (.slice (some ⟨z,0,none⟩) (t.cols.length+1) cz),λ_=>(if_pos lY).trans h9⟩,(an W ⟨gx,2,none⟩ gc _ (λe=>by(have h:gc=gx:=(by simpa using e));omega)).trans hgc7⟩
     (λw w' _ h ht=>h.turn ht h1 ab)
   clear hx p1' ho7 hg7 T11 hgc7 HOA HSB HS6 HVL HKS HF hg;go_wp2_with fail;clear c11 f11 Hi Hz0 Hz1 Hz2 i0 FH T10H HU;have hE:=HE.out;obtain⟨resT,hRT⟩:∃x,P12.gj c r4.l.length t k (n+1) false r4=x:=⟨_,rfl⟩;rw[hRT]at hE;clear HE;have HE:=aa hE;have HRT:=aa hRT;have hk34:=hk3'.trans hk4
   have hs12:P12.Small { t with cols:=t.cols ++ [(c,(y:Int),false)] } k (n+1):=⟨by have:=HS.out.sum;simp;omega,HS.out.keys,by
    have:=P12.td hn;rw[this]at hr;simp at hr;omega⟩
   have hlen0:t.cols.length≤16:=by have:=HS.out.sum;have:=HS.out.most;omega
   clear hE hRT HS HX HM;generalize W.setCell ⟨gx,2,none⟩ (.slice (some ⟨z,0,none⟩) (t.cols.length+1) cz)=w12 at *
   go_loopw [69] (λ_ wr=>∃ (t':P12.Tb) (k':List (List P12.T)) (n':Nat) (nn:Bool) (r':P12.R) (f:Nat),Pc br gx gm gc B n' { t' with cols:=t'.cols ++ [(c,(y:Int),nn)] } k' c y w r r' wr/\t'.cols.length=t.cols.length/\P12.Small { t' with cols:=t'.cols ++ [(c,(y:Int),nn)] } k' n'/\r'.l.length≤f/\P12.bW (P12.ax r) r'/\P12.gj c f t' k' n' nn r'=resT) (λ_ wr=>rM br wr)
   case atStart=>exact⟨t,k,n+1,false,r4,r4.l.length,F12,rfl,hs12,ai _,hk34,HRT.out⟩
   case round=>
    obtain⟨t',k',n',nn,r',f,F,htl,hsm,hf,hkr,hres⟩:=hrel;clear F12;have hgood:=F.rd.good;have hpos:=hgood.pos;have hlen:=F.rd.len;obtain⟨f,rfl⟩:∃j,f=j+1:=⟨f-1,by omega⟩;have HRS:=aa hres;have HSM:=aa hsm;clear hres hsm
    cases hN:P12.isT [78,79,84] r'
    ·go_wp2_with fail;go_at_call 20;refine(fk br r' [78,79,84] _ F.rd hN).mono ?_;rintro e w7 ⟨rfl,hx7⟩;have F7:=F.ext hx7;clear F hx7;go_wp2_with fail;go_at_call 198;refine(fb br r' _ F7.rd).mono ?_
     cases hC:P12.bh r'
     ·rintro e w8 ⟨rfl,hx8⟩;have F8:=F7.ext hx8;go_wp2_with fail;refine ar (uj rfl _ _ _) rfl ?_;have hE:=HE.out;rw[← HRS.out,P12.BW hN hC]at hE;dsimp only at hE;subst hE;exact⟨rfl,F8.tab.1.Ej,F8.many,F8.rd,hkr,F8.kept,HSM.out⟩
     ·rintro e w8 ⟨rfl,hx8⟩;have F8:=F7.ext hx8;clear F7 hx8;go_wp2_with fail;go_at_call 77;refine(ix br r' [80,82,73,77,65,82,89] _ F8.rd).mono ?_;generalize hpp:P12.isT [80,82,73,77,65,82,89] r'=pp;rintro e w9 ⟨rfl,hx9⟩;have F9:=F8.ext hx9;have k0:w9.cell? ⟨gc,0,none⟩=some (bs c):=by simp[ak,F9.tab.2]
      have l9:=(ae.1 F9.tab.2).1;clear F8 hx9;go_wp2_with fail;go_at_call 199;refine(nO br gx gm gc B n' _ k' c r' w9 F9.rd F9.tab.1 F9.many h1 h2 h3 hne (by have:=HSM.out.sum;have:=HSM.out.keys;have:=HSM.out.most;dsimp only at *;omega) HSM.out.most l9).mono ?_;intro e w10 h
      cases hn:P12.gv n' c r' with
      | error er=>
       rw[hn]at h;obtain⟨rfl,hk⟩:=h;simp only[bq];go_wp2;have hE:=HE.out;rw[← HRS.out,P12.sJ hN hC,hn]at hE;dsimp only at hE;subst hE;exact⟨rfl,rfl,F9.kept.trans hk.kept⟩
      | ok p=>
       obtain⟨o,r10⟩:=p;rw[hn]at h;obtain⟨rfl,hT,hM,hR,hK,hk⟩:=h;have hRS:=HRS.out;rw[P12.sJ hN hC,hn]at hRS;dsimp only at hRS;rw[hpp]at hRS;have ht2:P12.gq { t' with cols:=t'.cols ++ [(c,(y:Int),nn)] } o = { P12.gq t' o with cols:=(P12.gq t' o).cols ++ [(c,(y:Int),nn)] }:=by cases o<;>rfl
       have hcl:(P12.gq t' o).cols.length=t.cols.length:=by rw[← htl];cases o<;>rfl
       have hsm2:=HSM.out.add (P12.tW hn hC) o;rw[ht2]at hT hsm2
       have F10:Pc br gx gm gc B (n'+1) { P12.gq t' o with cols:=(P12.gq t' o).cols ++ [(c,(y:Int),nn)] } (P12.jw k' o) c y w r r10 w10:=
        ⟨hR,⟨hT,(hk.fore hgB l9).trans F9.tab.2⟩,λw w' _ h ht=>h.turn ht h1 ab,hM,F9.kept.trans hk.kept,F9.keeps.trans ((P12.aO r').trans hK),h1,h2,h3,hne,F9.h5,bI F9.h6 hk.kept.size⟩
       have hlt10:r10.l.length<r'.l.length:=by
        have:=hK.le;have:=P12.fz F9.rd.good (P12.ng hC);omega
       have hkr10:=hkr.trans ((P12.aO r').trans hK);clear F9 hT hM hR hk HRS HSM;obtain⟨col,tc,tk,tq,kc,T,h9⟩:=F10.tab.1;obtain⟨z2,cz2,rfl⟩:=T.tc.Jg;have hset:=λb=>T.I0 b;simp only[hcl]at hset;obtain⟨-,cNN,fNN⟩:=hset nn;have hzB:=(T.tc.lt z2 rfl).1;have hzg:z2≠gc:=λe=>by have h:=hzB.2;rw[e,h9 hgB]at h;omega
       have F11:∀b:Bool,Pc br gx gm gc B (n'+1) { P12.gq t' o with cols:=(P12.gq t' o).cols ++ [(c,(y:Int),b)] } (P12.jw k' o) c y w r r10 (w10.setCell ⟨z2,t.cols.length*3+2,none⟩ (.bool b)):=λb=>
        F10.oL hzB.1 _ _ ⟨⟨_,_,_,_,_,(hset b).1,h9⟩,(an w10 ⟨z2,t.cols.length*3+2,none⟩ gc _ (λe=>hzg (by simpa using e.symm))).trans F10.tab.2⟩ (λw w' _ h ht=>h.turn ht h1 ab)
       have hsm3:∀b:Bool,P12.Small { P12.gq t' o with cols:=(P12.gq t' o).cols ++ [(c,(y:Int),b)] } (P12.jw k' o) (n'+1):=λb=>⟨by have:=hsm2.sum;simpa using this,hsm2.keys,hsm2.most⟩;have cC:w10.cell? ⟨gx,2,none⟩=some (.slice (some ⟨z2,0,none⟩) (t.cols.length+1) cz2):=by simp[ak,T.blk,hcl]
       have lgx:gx<w10.heap.size:=(ae.1 T.blk).1;have lz:=ay _ _ cNN;have F11H:=aa F11;have hl10:∀b p,rM br (Xk.exw (w10.setCell ⟨z2,t.cols.length*3+2,none⟩ (.bool b)) p)=r10.l.length:=λb p=>((F11 b).rd.exw p).len;clear F10 T hset hsm2 F11;have hb1:(t.cols.length:Int)<(t.cols.length:Int)+1:=ab
       cases nn
       ·go_wp2_with fail;refine Xk.reg 20 (Xk.w0 λp=>?_);go_wp2_with fail;go_roundw
        case rel=>exact⟨P12.gq t' o,P12.jw k' o,n'+1,pp,r10,f,(F11H.out pp).ext (Xk.cF _ _),hcl,hsm3 pp,by omega,hkr10,by rw[← hRS,im]⟩
        case measure=>rw[hl10,hlen];exact hlt10
       ·go_wp2_with fail;refine Xk.reg 20 (Xk.w0 λp=>?_);go_wp2_with fail;go_roundw
        case rel=>exact⟨P12.gq t' o,P12.jw k' o,n'+1,true,r10,f,(F11H.out true).ext (Xk.cF _ _),hcl,hsm3 true,by omega,hkr10,by rw[← hRS,lu]⟩
        case measure=>rw[hl10,hlen];exact hlt10
    ·go_wp2_with fail;go_at_call 20;refine(dT br r' [78,79,84] _ F.rd hN).mono ?_;rintro e w7 ⟨rfl,ht7,hr7⟩;have F7:=F.step ht7 hr7 (P12.aO r');have hlt7:=P12.fz hgood (P12.el hN);have hW7:=F7.h6;clear ht7 hr7 F;go_wp2_with fail;go_at_call 132;refine(dN br [78,85,76,76] (P12.ax r') _ _ (F7.alloc _).rd (eM _ _ _ rfl) ab).mono ?_;intro e w8 h
     cases hn:P12.bL [78,85,76,76] (P12.ax r')with
     | error er=>
      rw[hn]at h;obtain⟨rfl,ht⟩:=h;simp only[bq];go_wp2;have hE:=HE.out;rw[← HRS.out,P12.sI hN,hn]at hE;dsimp only at hE;subst hE;exact⟨rfl,rfl,(F7.alloc _).after ht⟩
     | ok r10=>
      rw[hn]at h;obtain⟨rfl,ht,hr8,hk8⟩:=h;have hRS:=HRS.out;rw[P12.sI hN,hn]at hRS;dsimp only at hRS;have F10:=(F7.alloc (.cells #[bs [78,85,76,76]] 9)).step ht hr8 hk8;have hlt10:r10.l.length<r'.l.length:=by have:=hk8.le;omega
      have hkr10:=hkr.trans ((P12.aO r').trans hk8);have hsm2:=HSM.out;clear ht hr8 F7 HRS HSM;obtain⟨col,tc,tk,tq,kc,T,h9⟩:=F10.tab.1;obtain⟨z2,cz2,rfl⟩:=T.tc.Jg;have hset:=λb=>T.I0 b;simp only[htl]at hset;obtain⟨-,cNN,fNN⟩:=hset nn;have hzB:=(T.tc.lt z2 rfl).1;have hzg:z2≠gc:=λe=>by have h:=hzB.2;rw[e,h9 hgB]at h;omega
      have F11:Pc br gx gm gc B n' { t' with cols:=t'.cols ++ [(c,(y:Int),true)] } k' c y w r r10 (w8.setCell ⟨z2,t.cols.length*3+2,none⟩ (.bool true)):=
       F10.oL hzB.1 _ _ ⟨⟨_,_,_,_,_,(hset true).1,h9⟩,(an w8 ⟨z2,t.cols.length*3+2,none⟩ gc _ (λe=>hzg (by simpa using e.symm))).trans F10.tab.2⟩ (λw w' _ h ht=>h.turn ht h1 ab)
      have hsm3:P12.Small { t' with cols:=t'.cols ++ [(c,(y:Int),true)] } k' n':=⟨by have:=hsm2.sum;simpa using this,hsm2.keys,hsm2.most⟩;have cC:w8.cell? ⟨gx,2,none⟩=some (.slice (some ⟨z2,0,none⟩) (t.cols.length+1) cz2):=by simp[ak,T.blk,htl]
      have lgx:gx<w8.heap.size:=(ae.1 T.blk).1;have lz:=ay _ _ cNN;have F11H:=aa F11;have hl10:=F11.rd.len;clear F10 T hset hsm2 F11;have hb1:(t.cols.length:Int)<(t.cols.length:Int)+1:=ab;go_wp2_with fail;go_roundw
      case rel=>exact⟨t',k',n',true,r10,f,F11H.out,htl,hsm3,by omega,hkr10,hRS⟩
      case measure=>rw[hl10,hlen];exact hlt10
theorem EX(br gx gm B n:Nat)(t:P12.Tb)(k:List (List P12.T))(r:P12.R)(w:World)(h:Rd br r w)(hx:dx B gx 0 t k w)(hm:w.heap[gm]?=some (gu br n 16))(h1:br<gx)(h2:br<gm)(h3:gm<B)(hne:gm≠gx)(hs:P12.Small t k n):
  Calls af 133 #[rp br,rp gx,rp gm] w (qz br gx gm B w r (P12.part t k n r)):=by
 cases hc:P12.bh r
 ·cases hr:(decide (16<n+1)&&P12.named r)
  ·rw[show P12.part t k n r=(match P12.name r with
  | .error e => .error e
  | .ok (c,r)=>
   match P12.typeOf r with
   | .error e => .error e
   | .ok (ty,r)=>
    match P12.gj c r.l.length t k (n+1) false r with
    | .error e => .error e
    | .ok ((t,k,n,nn),r)=> .ok (({ t with cols:=t.cols ++ [(c,ty,nn)] },k,n),r)) by
     unfold P12.part;rw[hc,hr];rfl]
   exact EW br gx gm B n t k r w h hx hm h1 h2 h3 hne hs hc hr
  ·rw[show P12.part t k n r = .error ((P12.nxt r).pos,122) by
     unfold P12.part;rw[hc,hr];rfl]
   exact Df br gx gm B n t k r w h hx hm h1 h2 h3 hne hs hc hr
 ·exact EV br gx gm B n t k r w h hx hm h1 h2 h3 hne hs hc
theorem Bz(br:Nat)(r:P12.R)(w:World)(h:Rd br r w)(hj:P12.isT [84,65,66,76,69] r=false):Calls af 69 #[rp br] w (Got br w r (jC w) (P12.create r)):=by
 have HR:=aa h;have lr:=h.lt;clear h;generalize hres:P12.create r=res;have hE:=hres;simp only[P12.create,bind,cG,pure,dz]at hE;have HE:=aa hE;clear hE hres;have HM:=aa λW=>iN 3 W;rw[if_neg aq]at HM;have hE:=HE.out;rw[hj]at hE;simp only[aS,if_false]at hE;clear HE;have HE:=aa hE;clear hE;go_enter Tryz.func69,Tryz.ntmps69;go_wp2_with fail;go_at_call 20;refine(fk br r [84,65,66,76,69] _ (HR.out.alloc _) hj).mono ?_;rintro e w1 ⟨rfl,hx1⟩;go_wp2_with fail;go_at_call 76;refine(HM.out _).mono ?_;rintro e w2 ⟨rfl,hx2⟩;have hx12:=Xk.Ext.trans hx1 hx2
 go_wp2_with ((refine pw (aw w2 _) ?_;intro w3 hp3);have F3:=(Fz.start (wm:=w2) HR.out (ah.aR hx12) ((HR.out.alloc _).ext hx12) (P12.bW.refl _) hp3).cells (c':=(cT 3 [] aj aj aj aj [] [] false aj aj aj noE aj aj noE aj aj 0).toArray) rfl);have hzx:=F3.zx;clear hp3 hx1 hx2 hx12
 cases hu:P12.isT [85,78,73,81,85,69] r
 ·have hE:=HE.out;simp only[P12.has,hu,aS,if_false,im]at hE;clear HE;have HE:=aa hE;clear hE;go_at_call 20;refine(fk br r [85,78,73,81,85,69] _ F3.rd hu).mono ?_;rintro e w4 ⟨rfl,hx4⟩;have F4:=F3.ext hx4;have c4:=F4.cell (o:=8) rfl;have f4:=F4.free 8;have hW4:=F4.size;have F5:=(F4.set 8 (.bool false)).cells (c':=(cT 3 [] aj aj aj aj [] [] false aj aj aj noE aj aj noE aj aj 0).toArray) rfl;have c5:=F5.cell (o:=8) rfl;have hW5:=F5.size;clear hx4 F3 F4;go_wp2_with fail;go_at_call 77;refine(ix br r [73,78,68,69,88] _ F5.rd).mono ?_
  cases hi:P12.isT [73,78,68,69,88] r
  ·have hE:=HE.out;simp only[hi,aS,if_false,P12.bU]at hE;subst hE;rintro e w6 ⟨rfl,hx6⟩;have F6:=F5.ext hx6;go_wp2_with fail;go_at_call 22;refine(eC br r 120 _ F6.rd).mono ?_;rintro e w7 ⟨rfl,hx7⟩;simp only[bq];go_wp2;exact⟨rfl,rfl,F6.after (ah.aR hx7)⟩
  ·have hE:=HE.out;simp only[hi,if_true]at hE;clear HE;have HE:=aa hE;clear hE;rintro e w6 ⟨rfl,hx6⟩;have F5':=F5.ext hx6;have hW5':=F5'.size;clear F5 c5 c4 f4 hx6;go_wp2_with fail;go_at_call 132;refine(dN br [73,78,68,69,88] r _ _ (F5'.alloc _).rd (eM _ _ _ (rfl)) ab).mono ?_;intro e w6 h
   cases hn:P12.bL [73,78,68,69,88] r
   case error er=>exact ste (F5'.alloc _).after
   rename_i p;rw[hn]at h HE;dsimp only at HE;rename P12.R=>r6
   obtain⟨rfl,ht,hr,hk⟩:=h;have F6:=(F5'.alloc _).step ht hr hk;clear ht hr hk;go_wp2_with fail;go_at_call 131;refine(dG br _ _ F6.rd).mono ?_;intro e w7 h
   cases hn:P12.name r6
   case error er=>exact ste F6.after
   rename_i p;rw[hn]at h HE;dsimp only at HE;obtain⟨a,r7⟩:=p;obtain⟨_,rfl,rfl,ht,hr,hk⟩:=h;have F7:=F6.step ht hr hk;have c7:=F7.cell (o:=6) rfl;have f7:=F7.free 6;have hW7:=F7.size;have F8:=(F7.set 6 (bs a)).cells (c':=(cT 3 [] aj aj aj aj a [] false aj aj aj noE aj aj noE aj aj 0).toArray) rfl;clear ht hr hk F6 F7;go_wp2_with fail;go_at_call 132;refine(dN br [79,78] r7 _ _ (F8.alloc _).rd (eM _ _ _ (by rw[aM])) ab).mono ?_;intro e w9 h
   cases hn:P12.bL [79,78] r7
   case error er=>exact ste (F8.alloc _).after
   rename_i p;rw[hn]at h HE;dsimp only at HE;rename P12.R=>r9
   obtain⟨rfl,ht,hr,hk⟩:=h;have F9:=(F8.alloc _).step ht hr hk;clear ht hr hk F8 c7 f7;go_wp2_with fail;go_at_call 131;refine(dG br _ _ F9.rd).mono ?_;intro e w10 h
   cases hn:P12.name r9
   case error er=>exact ste F9.after
   rename_i p;rw[hn]at h HE;dsimp only at HE;obtain⟨b,r10⟩:=p;obtain⟨_,rfl,rfl,ht,hr,hk⟩:=h;have F10:=F9.step ht hr hk;have c10:=F10.cell (o:=7) rfl;have f10:=F10.free 7;have hW10:=F10.size;have F11:=(F10.set 7 (bs b)).cells (c':=(cT 3 [] aj aj aj aj a b false aj aj aj noE aj aj noE aj aj 0).toArray) rfl;clear ht hr hk F9 F10;go_wp2_with fail;go_at_call 134;refine(oo br _ _ F11.rd).mono ?_;intro e w12 h
   cases hn:P12.names r10
   case error er=>exact ste F11.after
   rename_i p;rw[hn]at h HE;dsimp only at HE;obtain⟨l,r12⟩:=p;obtain⟨_,rfl,⟨hpos,hs⟩,ht,hr,hk⟩:=h;obtain⟨q1,q2,q3,rfl⟩:=ee hs;have F12:=(F11.step ht hr hk).add (bF iK 1 l (.slice q1 q2 q3)) (F11.up (bF iK 1 l (.slice q1 q2 q3)) hs);have c12:=F12.cell (o:=9) rfl;have f12:=F12.free 9;have F13:=(F12.set 9 (.slice q1 q2 q3)).cells (c':=(cT 3 [] aj aj aj aj a b false (.slice q1 q2 q3) aj aj noE aj aj noE aj aj 0).toArray) rfl;have hb13:=F13.blk;have hz13:=F13.zero;have hW12:=F12.size;clear ht hr hk F11 c10 f10 hs;go_wp2_with (first|(refine lw hb13 aB ?_)|(refine pw hz13 ?_;intro w14 hp14))
   refine ar (aH (fn:=Tryz.f69) rfl rfl hp14.blk aB rfl au) rfl ?_;have hE:=HE.out;subst hE;refine Fz.finish F13 hp14 (λ⟨_,hcl⟩=>?_);exact⟨aj,aj,aj,aj,_,aj,aj,noE,aj,aj,noE,aj,aj,rfl,aE.nil _ _ _ _,aE.nil _ _ _ _,aE.nil _ _ _ _,aE.nil _ _ _ _,hcl,aE.nil _ _ _ _,aE.nil _ _ _ _,rfl,aE.nil _ _ _ _,aE.nil _ _ _ _,rfl,aE.nil _ _ _ _,aE.nil _ _ _ _⟩
 ·have hE:=HE.out;simp only[P12.has,hu,if_true,lu]at hE;clear HE;have HE:=aa hE;clear hE;go_at_call 20;refine(dT br r [85,78,73,81,85,69] _ F3.rd hu).mono ?_;rintro e w4 ⟨rfl,ht,hr⟩;have F4:=F3.step ht hr (P12.aO r);have c4:=F4.cell (o:=8) rfl;have f4:=F4.free 8;have hW4:=F4.size;have F5:=(F4.set 8 (.bool true)).cells (c':=(cT 3 [] aj aj aj aj [] [] true aj aj aj noE aj aj noE aj aj 0).toArray) rfl;have c5:=F5.cell (o:=8) rfl;have hW5:=F5.size;clear ht hr F3 F4;go_wp2_with fail;go_at_call 132;refine(dN br [73,78,68,69,88] (P12.ax r) _ _ (F5.alloc _).rd (eM _ _ _ (by rw[aM])) ab).mono ?_
  intro e w6 h
  cases hn:P12.bL [73,78,68,69,88] (P12.ax r)
  case error er=>exact ste (F5.alloc _).after
  rename_i p;rw[hn]at h HE;dsimp only at HE;rename P12.R=>r6
  obtain⟨rfl,ht,hr,hk⟩:=h;have F6:=(F5.alloc _).step ht hr hk;clear ht hr hk;go_wp2_with fail;go_at_call 131;refine(dG br _ _ F6.rd).mono ?_;intro e w7 h
  cases hn:P12.name r6
  case error er=>exact ste F6.after
  rename_i p;rw[hn]at h HE;dsimp only at HE;obtain⟨a,r7⟩:=p;obtain⟨_,rfl,rfl,ht,hr,hk⟩:=h;have F7:=F6.step ht hr hk;have c7:=F7.cell (o:=6) rfl;have f7:=F7.free 6;have hW7:=F7.size;have F8:=(F7.set 6 (bs a)).cells (c':=(cT 3 [] aj aj aj aj a [] true aj aj aj noE aj aj noE aj aj 0).toArray) rfl;clear ht hr hk F6 F7;go_wp2_with fail;go_at_call 132;refine(dN br [79,78] r7 _ _ (F8.alloc _).rd (eM _ _ _ (by rw[aM])) ab).mono ?_;intro e w9 h
  cases hn:P12.bL [79,78] r7
  case error er=>exact ste (F8.alloc _).after
  rename_i p;rw[hn]at h HE;dsimp only at HE;rename P12.R=>r9
  obtain⟨rfl,ht,hr,hk⟩:=h;have F9:=(F8.alloc _).step ht hr hk;clear ht hr hk F8 c7 f7;go_wp2_with fail;go_at_call 131;refine(dG br _ _ F9.rd).mono ?_;intro e w10 h
  cases hn:P12.name r9
  case error er=>exact ste F9.after
  rename_i p;rw[hn]at h HE;dsimp only at HE;obtain⟨b,r10⟩:=p;obtain⟨_,rfl,rfl,ht,hr,hk⟩:=h;have F10:=F9.step ht hr hk;have c10:=F10.cell (o:=7) rfl;have f10:=F10.free 7;have hW10:=F10.size;have F11:=(F10.set 7 (bs b)).cells (c':=(cT 3 [] aj aj aj aj a b true aj aj aj noE aj aj noE aj aj 0).toArray) rfl;clear ht hr hk F9 F10;go_wp2_with fail;go_at_call 134;refine(oo br _ _ F11.rd).mono ?_;intro e w12 h
  cases hn:P12.names r10
  case error er=>exact ste F11.after
  rename_i p;rw[hn]at h HE;dsimp only at HE;obtain⟨l,r12⟩:=p;obtain⟨_,rfl,⟨hpos,hs⟩,ht,hr,hk⟩:=h;obtain⟨q1,q2,q3,rfl⟩:=ee hs;have F12:=(F11.step ht hr hk).add (bF iK 1 l (.slice q1 q2 q3)) (F11.up (bF iK 1 l (.slice q1 q2 q3)) hs);have c12:=F12.cell (o:=9) rfl;have f12:=F12.free 9;have F13:=(F12.set 9 (.slice q1 q2 q3)).cells (c':=(cT 3 [] aj aj aj aj a b true (.slice q1 q2 q3) aj aj noE aj aj noE aj aj 0).toArray) rfl;have hb13:=F13.blk;have hz13:=F13.zero;have hW12:=F12.size;clear ht hr hk F11 c10 f10 hs;go_wp2_with (first|(refine lw hb13 aB ?_)|(refine pw hz13 ?_;intro w14 hp14))
  refine ar (aH (fn:=Tryz.f69) rfl rfl hp14.blk aB rfl au) rfl ?_;have hE:=HE.out;subst hE;refine Fz.finish F13 hp14 (λ⟨_,hcl⟩=>?_);exact⟨aj,aj,aj,aj,_,aj,aj,noE,aj,aj,noE,aj,aj,rfl,aE.nil _ _ _ _,aE.nil _ _ _ _,aE.nil _ _ _ _,aE.nil _ _ _ _,hcl,aE.nil _ _ _ _,aE.nil _ _ _ _,rfl,aE.nil _ _ _ _,aE.nil _ _ _ _,rfl,aE.nil _ _ _ _,aE.nil _ _ _ _⟩
theorem KN{gx gm:Nat}{a:P12.T}{w:World}(hb:w.heap[gx]?=some (.cells (xL a aj aj aj aj) 40))(h:gx<gm)(hs:gm+1≤w.heap.size):dx (gm+1) gx 0 { name:=a } [] w:=
 ⟨λ_=>9,aj,aj,aj,aj,⟨hb,Own.nil,Own.nil,Own.nil,Own.nil,by omega,hs⟩,λ_=>rfl⟩
theorem Kept.xu{br gx gm B:Nat}{w0 w w':World}(h:Kept B [br,gx,gm] w w')(ht:ah br w0 w)(hB:w0.heap.size≤B)(h1:w0.heap.size≤gx)(h2:w0.heap.size≤gm):ah br w0 w':=by
 obtain⟨a1,a2,a3,a4,a5⟩:=ht;refine⟨h.os.trans a1,h.tape.trans a2,h.output.trans a3,bI a4 h.size,λb hb=>?_⟩;by_cases hbr:b=br
 ·exact .inr ⟨(br,λ_=>True),by simp,hbr.symm,trivial⟩
 ·rw[h.block b ab ab (by simp;omega)];exact a5 b hb
theorem P12.parts_eq{f:Nat}{t:P12.Tb}{k:List (List P12.T)}{n:Nat}{r:P12.R}:P12.gA (f+1) t k n r=match P12.part t k n r with
  | .error e => .error e
  | .ok ((t,k,n),r)=>if P12.isT [44] r then P12.gA f t k n (P12.ax r)else .ok ((t,k),r):=by
 rw[P12.gA];rfl
theorem By(br:Nat)(r:P12.R)(w:World)(h:Rd br r w)(hj:P12.isT [84,65,66,76,69] r=true):Calls af 69 #[rp br] w (Got br w r (jC w) (P12.create r)):=by
 have HR:=aa h;have lr:=h.lt;clear h;generalize hres:P12.create r=res;have hE:=hres;simp only[P12.create,bind,cG,pure,dz]at hE;have HE:=aa hE;clear hE hres;have HM:=aa λW=>iN 1 W;rw[if_neg aq]at HM;have hE:=HE.out;rw[hj]at hE;simp only[if_true]at hE;clear HE;have HE:=aa hE;clear hE;have hnot:=mS;go_enter Tryz.func69,Tryz.ntmps69;go_wp2_with fail;go_at_call 20;refine(dT br r [84,65,66,76,69] _ (HR.out.alloc _) hj).mono ?_;rintro e w1 ⟨rfl,ht1,hr1⟩;go_wp2_with fail;go_at_call 76;refine(HM.out _).mono ?_;rintro e w2 ⟨rfl,hx2⟩;have ht12:=ah.trans ht1 (ah.aR hx2);have hr2:=hr1.ext hx2
 go_wp2_with ((refine pw (aw w2 _) ?_;intro w3 hp3);have F3:=(Fz.start (wm:=w2) HR.out ht12 hr2 (P12.aO r) hp3).cells (c':=(cT 1 [] aj aj aj aj [] [] false aj aj aj noE aj aj noE aj aj 0).toArray) rfl);have hzx:=F3.zx;clear hp3 ht1 hr1 hx2 ht12 hr2;go_at_call 131;refine(dG br _ _ F3.rd).mono ?_;intro e w4 h
 cases hn:P12.name (P12.ax r)
 case error er=>exact ste F3.after
 rename_i p;rw[hn]at h HE;dsimp only at HE;obtain⟨a,r4⟩:=p;obtain⟨_,rfl,rfl,ht,hr,hk⟩:=h;have F4:=F3.step ht hr hk;have c4:=F4.cell (o:=1) rfl;have f4:=F4.free 1;have hW4:=F4.size;have F5:=(F4.set 1 (bs a)).cells (c':=xL a aj aj aj aj) rfl;clear ht hr hk F3 F4;go_wp2_with fail;go_at_call 132;refine(dN br [40] r4 _ _ (F5.alloc _).rd (eM _ _ _ (by rw[aM])) ab).mono ?_;intro e w6 h
 cases hn:P12.bL [40] r4
 case error er=>exact ste (F5.alloc _).after
 rename_i p;rw[hn]at h HE;dsimp only at HE;rename P12.R=>r6
 obtain⟨rfl,ht,hr,hk⟩:=h;have F6:=(F5.alloc _).step ht hr hk;have hW6:=F6.size;clear ht hr hk F5 c4 f4;have hbm:∀ (W:World),(cR 179 #[(0,rp br),(2,lK .i64 16)]).run af W = .ok (.agg #[rp br,.int .i64 0,.int .i64 16]) W:=λW=>by kernel_rfl
 go_wp2_with fail;have hz7:=(F6.alloc (.cells #[rp br,.int .i64 0,.int .i64 16] 179)).zero;have hT7:=(F6.alloc (.cells #[rp br,.int .i64 0,.int .i64 16] 179)).turn;have hk7:=F6.keeps;have hR7:=(F6.alloc (.cells #[rp br,.int .i64 0,.int .i64 16] 179)).rd;have hM7:=aw w6 (.cells #[rp br,.int .i64 0,.int .i64 16] 179);have hS7:w6.heap.size+1≤(w6.alloc (.cells #[rp br,.int .i64 0,.int .i64 16] 179)).heap.size:=by rw[ag];omega
 have hA7:=KN (F6.alloc (.cells #[rp br,.int .i64 0,.int .i64 16] 179)).blk hW6 hS7;have hgw:=F6.gzge;clear F6;generalize (w6.alloc (.cells #[rp br,.int .i64 0,.int .i64 16] 179))=w7 at *
 generalize w6.heap.size=gm at *
 generalize w2.heap.size=gx at *
 have hE:=HE.out;obtain⟨resP,hRP⟩:∃x,P12.gA r6.l.length { name:=a } [] 0 r6=x:=⟨_,rfl⟩;rw[hRP]at hE;clear HE;have HE:=aa hE;have HRP:=aa hRP;clear hE hRP;go_loopw [24] (λ_ wr=>∃ (t':P12.Tb) (k':List (List P12.T)) (n':Nat) (r':P12.R) (f:Nat),Rd br r' wr/\dx (gm+1) gx 0 t' k' wr/\wr.heap[gm]?=some (gu br n' 16)/\Kept (gm+1) [br,gx,gm] w7 wr/\P12.bW r6 r'/\P12.Small t' k' n'/\r'.l.length≤f/\P12.gA f t' k' n' r'=resP) (λ_ wr=>rM br wr)
 case atStart=>exact⟨{ name:=a },[],0,r6,r6.l.length,hR7,hA7,hM7,Kept.refl _ _ _,P12.bW.refl _,⟨by simp,rfl,by omega⟩,ai _,HRP.out⟩
 case round=>
  obtain⟨t',k',n',r',f,hR,hA,hM,hK,hkr,hsm,hf,hres⟩:=hrel;have hpos:=hR.good.pos;have hlen:=hR.len;obtain⟨f,rfl⟩:∃j,f=j+1:=⟨f-1,by omega⟩;rw[P12.parts_eq]at hres;have HRS:=aa hres;clear hres hR7 hA7 hM7 HRP;go_wp2_with fail;go_at_call 133;refine(EX br gx gm (gm+1) n' t' k' r' wr hR hA hM ab ab ab ab hsm).mono ?_;intro e w8 h
  cases hn:P12.part t' k' n' r' with
  | error er=>
   rw[hn]at h;obtain⟨rfl,hk⟩:=h;simp only[bq];go_wp2;have hE:=HE.out;rw[← HRS.out,hn]at hE;dsimp only at hE;subst hE;exact⟨rfl,rfl,Kept.xu (hK.trans hk) hT7 ab ab ab⟩
  | ok p=>
   obtain⟨⟨t8,k8,n8⟩,r8⟩:=p;rw[hn]at h;obtain⟨rfl,hA8,hM8,hR8,hkk,hk8,hsm8⟩:=h;have hRS:=HRS.out;rw[hn]at hRS;dsimp only at hRS;have hK8:=hK.trans hk8;have hkr8:=hkr.trans ((P12.aO r').trans hkk);have hle8:=((P12.aO r').trans hkk).le;clear hA hM hK hk8 hR HRS;go_wp2_with fail;go_at_call 20
   cases hc:P12.isT [44] r8
   ·refine(fk br r8 [44] _ hR8 hc).mono ?_;rintro e w9 ⟨rfl,hx9⟩;rw[hc]at hRS;simp only[aS,if_false]at hRS;have hE:=HE.out;rw[← hRS]at hE;dsimp only at hE;clear HE hRS;have HE:=aa hE;clear hE;have hR9:=hR8.ext hx9;have hA9:=hA8.ext hx9;have hK9:=hK8.trans (Kept.aR hx9);have hl9:=hx9.size;have hS9:=hA9.bounds.2;clear hR8 hA8 hM8 hK8 hx9;go_wp2_with fail;go_at_call 132;refine(dN br [41] r8 _ _ (hR9.alloc _) (eM _ _ _ rfl) ab).mono ?_;intro e w10 h
    cases hn:P12.bL [41] r8
    case error er=>
     rw[hn]at h;have hE:=HE.out;rw[hn]at hE;dsimp only at hE;subst hE;obtain⟨rfl,ht⟩:=h;simp only[bq];go_wp2;exact⟨rfl,rfl,Kept.xu (hK9.trans ((Kept.aR ((al _ _).alloc (ai _) _)).trans (Kept.bB ht aI))) hT7 ab ab ab⟩
    rename_i p;rw[hn]at h HE;dsimp only at HE;rename P12.R=>r10
    obtain⟨rfl,ht,hr10,hk10⟩:=h;have hA10:=(hA9.ext (show Xk.Ext w9 (w9.alloc (.cells #[bs [41]] 9))from(al _ _).alloc (ai _) _)).turn ht ab;have hK10:=hK9.trans ((Kept.aR (show Xk.Ext w9 (w9.alloc (.cells #[bs [41]] 9))from(al _ _).alloc (ai _) _)).trans (Kept.bB ht aI));have hz10:=hK10.held hz7 ab (by simp;omega);obtain⟨tc,tk,tq,kc,hb10,s1,s2,s3,s4⟩:=hA10.stmt (S:=λb=>gm+1≤b) (λb hb=>hb);obtain⟨x1,x2,x3,rfl⟩:=ee s1;obtain⟨y1,y2,y3,rfl⟩:=ee s2;obtain⟨z1,z2,z3,rfl⟩:=ee s3;obtain⟨v1,v2,v3,rfl⟩:=ee s4
    have hSI:dv (λb=>gm+1≤b) w10 { P12.made 1 with tb:=t8,keyCols:=k8 } (cT 1 t8.name (.slice x1 x2 x3) (.slice y1 y2 y3) (.slice z1 z2 z3) (.slice v1 v2 v3) [] [] false aj aj aj noE aj aj noE aj aj 0):=
     ⟨_,_,_,_,aj,aj,aj,noE,aj,aj,noE,aj,aj,rfl,s1,s2,s3,s4,aE.nil _ _ _ _,aE.nil _ _ _ _,aE.nil _ _ _ _,rfl,aE.nil _ _ _ _,aE.nil _ _ _ _,rfl,aE.nil _ _ _ _,aE.nil _ _ _ _⟩
    have HSI:=aa hSI;have hTk:=Kept.xu hK10 hT7 ab ab ab;have HTK:=aa hTk;clear ht hR9 hA9 hK9 hA10 s1 s2 s3 s4 hSI hTk;go_wp2_with (first|(refine lw hb10 aB ?_)|(refine pw hz10 ?_;intro w11 hp11));refine ar (aH (fn:=Tryz.f69) rfl rfl hp11.blk aB rfl au) rfl ?_;have hE:=HE.out;subst hE;exact⟨_,rfl,⟨_,rfl,HSI.out.bg (λb hb _=>hp11.rest b ab) (λb hb _=>by omega)⟩,bt.turn hp11 HTK.out (ai _),bt.rd hp11 hr10 ab,hk7.trans (hkr8.trans hk10)⟩
   ·refine(dT br r8 [44] _ hR8 hc).mono ?_;rintro e w9 ⟨rfl,ht9,hr9⟩;rw[hc]at hRS;simp only[if_true]at hRS;have hlt9:=P12.fz hR8.good (P12.el hc);have hl9:=hr9.len;go_wp2_with fail;go_roundw
    case rel=>exact⟨t8,k8,n8,P12.ax r8,f,hr9,hA8.turn ht9 ab,ht9.held hM8 ab,hK8.trans (Kept.bB ht9 aI),hkr8.trans (P12.aO r8),hsm8,by omega,hRS⟩
    case measure=>rw[hl9,hlen];omega
theorem BA(br:Nat)(r:P12.R)(w:World)(h:Rd br r w):Calls af 69 #[rp br] w (Got br w r (jC w) (P12.create r)):=by
 cases hj:P12.isT [84,65,66,76,69] r
 ·exact Bz br r w h hj
 ·exact By br r w h hj
end Go.Proofs.YtkpmclddjkebeaaGreatDoor
namespace Go.Proofs.YtkpmclddjkebeaaGreatDoor
open Go.RowKit Go.WideMaps Go.Maps
open Classical in
noncomputable def tm(br:Nat):Value->Option (DataW Unit×List MemPlace):=λv=>
 if h:∃f:Nat,v = .func (.func f) #[rp br] #[]then some (.lit (.int .i64 (h.choose:Nat)),[])else if v = .nilFunc then some (.lit (.int .i64 (-1)),[])else none
theorem A1(br f:Nat):tm br (.func (.func f) #[rp br] #[])=some (.lit (.int .i64 f),[]):=by
 unfold tm;have h:∃g:Nat,Value.func (.func f) #[rp br] #[] = .func (.func g) #[rp br] #[]:=⟨f,rfl⟩;rw[dif_pos h];have e:f=h.choose:=Fn.func.inj (Value.func.inj h.choose_spec).1;exact congrArg (λg:Nat=>some (DataW.lit (Lit.int .i64 (g:Int)),([]:List MemPlace))) e.symm
theorem Dq(br:Nat):tm br .nilFunc=some (.lit (.int .i64 (-1)),[]):=by
 unfold tm;rw[dif_neg (λ⟨_,h⟩=>by cases h),if_pos rfl]
theorem Dr{br:Nat}{v:Value}{y:DataW Unit×List MemPlace}(h:tm br v=some y):(∃f:Nat,v = .func (.func f) #[rp br] #[]/\y.1 = .lit (.int .i64 f))∨(v = .nilFunc/\y.1 = .lit (.int .i64 (-1))):=by
 unfold tm at h;split at h
 ·rename_i hh
  cases h;exact .inl ⟨hh.choose,hh.choose_spec,rfl⟩
 ·split at h
  ·rename_i hv
   cases h;exact .inr ⟨hv,rfl⟩
  ·cases h
theorem Ge(s:P12.T)(d:Int):∀l,(dR l).atKey (.string s) (.lit (.int .i64 d)) = .lit (.int .i64 (((l.find? λx=>x.1==s).map (·.2)).getD d))
 | []=>rfl
 | x::l=>by
  rw[dR,gG];by_cases h:x.1=s
  ·subst h;rw[atKey_put_same (xp l) (by trivial)];simp
  ·rw[atKey_put_other (by intro e;cases e;exact h rfl),Ge s d l,show(x.1==s)=false by simpa using h]
abbrev Dt(br:Nat)(w:World)(b n:Nat)(D:DataW Unit):Prop:=w.ownsMap af 9 (tm br) b n D
theorem Ke(w:World):(zeroValue 70).run af w = .ok .nilFunc w:=au
theorem vp{br:Nat}{w:World}{b n:Nat}{l:List (P12.T×Int)}(h:Dt br w b n (dR l))(hn:n≤100)(s:P12.T)(f:Nat)(hs:s.length≤100):
  ∃w',(eG 124 (.map (some b)) (.string ⟨s.toArray⟩) (.func (.func f) #[rp br] #[])).run af w = .ok () w'/\Dt br w' b (n+1) (dR ((s,(f:Int))::l))/\w.grownBy w' (some b):=by
 have hkey:keyOf af 9 (.string ⟨s.toArray⟩)=some (.string s):=by
  have:=vI ef (s:=⟨s.toArray⟩) (by show s.length≤_;unfold maxLen;omega);simpa using this
 exact h.update Fy Tryz.underlying124 (by unfold maxLen;omega) hkey (A1 br f)
theorem JG{br:Nat}{w:World}{b n:Nat}{l:List (P12.T×Int)}(h:Dt br w b n (dR l))(s:P12.T)(hs:s.length≤100000):
  ∃v,(D9 124 (.map (some b)) (.string ⟨s.toArray⟩) true).run af w = .ok (.tuple #[v,.bool (l.find? λx=>x.1==s).isSome]) w/\∀f:Nat,((l.find? λx=>x.1==s).map (·.2))=some (f:Int)->v = .func (.func f) #[rp br] #[]:=by
 have hkey:keyOf af 9 (.string ⟨s.toArray⟩)=some (.string s):=by
  have:=vI ef (s:=⟨s.toArray⟩) (by show s.length≤_;unfold maxLen;omega);simpa using this
 obtain⟨v,ps,hr,hv⟩:=h.look_ok Fy Tryz.underlying124 (Ke _) (Dq br) hkey;rw[Bx]at hr;refine⟨v,hr,λf hf=>?_⟩;rw[Ge]at hv;rw[hf]at hv;rcases Dr hv with⟨g,rfl,hg⟩|⟨rfl,hg⟩
 ·have h1:=oK hg;have h2:=(BQ h1).2;simp only[Option.getD_some]at h2;rw[show f=g by omega]
 ·have h1:=oK hg;have h2:=(BQ h1).2;simp only[Option.getD_some]at h2;omega
def stL:List (P12.T×Int):= [([83,69,76,69,67,84],((74:Nat):Int)),([68,69,76,69,84,69],((73:Nat):Int)),([85,80,68,65,84,69],((72:Nat):Int)),([73,78,83,69,82,84],((71:Nat):Int)),([68,82,79,80],((70:Nat):Int)),([67,82,69,65,84,69],((69:Nat):Int))]
theorem Fp(br:Nat)(w:World):∃w1 w2 w3 w4 w5 w6:World,(eG 124 (.map (some w.heap.size)) (.string ⟨[67,82,69,65,84,69].toArray⟩) (.func (.func 69) #[rp br] #[])).run af (w.alloc (.map #[] 0)) = .ok () w1/\(eG 124 (.map (some w.heap.size)) (.string ⟨[68,82,79,80].toArray⟩) (.func (.func 70) #[rp br] #[])).run af (w1) = .ok () w2/\(eG 124 (.map (some w.heap.size)) (.string ⟨[73,78,83,69,82,84].toArray⟩) (.func (.func 71) #[rp br] #[])).run af (w2) = .ok () w3/\(eG 124 (.map (some w.heap.size)) (.string ⟨[85,80,68,65,84,69].toArray⟩) (.func (.func 72) #[rp br] #[])).run af (w3) = .ok () w4/\(eG 124 (.map (some w.heap.size)) (.string ⟨[68,69,76,69,84,69].toArray⟩) (.func (.func 73) #[rp br] #[])).run af (w4) = .ok () w5/\(eG 124 (.map (some w.heap.size)) (.string ⟨[83,69,76,69,67,84].toArray⟩) (.func (.func 74) #[rp br] #[])).run af (w5) = .ok () w6/\Dt br w6 w.heap.size 6 (dR stL)/\Xk.Ext w w6:=by
 have o0:Dt br (w.alloc (.map #[] 0)) w.heap.size 0 (dR []):=uk _ _ _ _;have x0:Below w.heap.size w (w.alloc (.map #[] 0)):=(al _ _).alloc (ai _) _;obtain⟨w1,h1,o1,g1⟩:=vp o0 aq [67,82,69,65,84,69] 69 aq;have x1:=bP x0 x0.size g1;obtain⟨w2,h2,o2,g2⟩:=vp o1 aq [68,82,79,80] 70 aq;have x2:=bP x1 x1.size g2;obtain⟨w3,h3,o3,g3⟩:=vp o2 aq [73,78,83,69,82,84] 71 aq;have x3:=bP x2 x2.size g3;obtain⟨w4,h4,o4,g4⟩:=vp o3 aq [85,80,68,65,84,69] 72 aq;have x4:=bP x3 x3.size g4;obtain⟨w5,h5,o5,g5⟩:=vp o4 aq [68,69,76,69,84,69] 73 aq;have x5:=bP x4 x4.size g5
 obtain⟨w6,h6,o6,g6⟩:=vp o5 aq [83,69,76,69,67,84] 74 aq;have x6:=bP x5 x5.size g6;exact⟨w1,w2,w3,w4,w5,w6,h1,h2,h3,h4,h5,h6,o6,x6⟩
theorem JI:Keyed af 3:=int_keyed jB
def dX:List (Int×P12.T)->DataW Unit
 | []=> .map []
 | x::l=>(dX l).put (.int .i64 x.1) (.lit (.string x.2))
theorem Bw:∀l,IsMap (dX l)
 | []=>isMap_empty
 | x::l=>(Bw l).put _ _
theorem Ji(k:Int)(d:DataW Unit):∀l,(dX l).atKey (.int .i64 k) d=(((l.find? λx=>x.1==k).map λx=>(.lit (.string x.2):DataW Unit))).getD d
 | []=>rfl
 | x::l=>by
  rw[dX,gG];by_cases h:x.1=k
  ·subst h;rw[atKey_put_same (Bw l) (by trivial)];simp
  ·rw[atKey_put_other (by intro e;cases e;exact h rfl),Ji k d l,show(x.1==k)=false by simpa using h]
theorem xo(k:Int):∀l,Maps.has (dX l) (.int .i64 k)=(l.find? λx=>x.1==k).isSome
 | []=>rfl
 | x::l=>by
  rw[dX,gG];by_cases h:x.1=k
  ·subst h;rw[has_put_same (Bw l) (by trivial)];simp only[beq_self_eq_true,Option.isSome_some]
  ·rw[has_put_other (by intro e;cases e;exact h rfl),xo k l,show(x.1==k)=false by simpa using h]
abbrev Im(w:World)(b n:Nat)(D:DataW Unit):Prop:=w.ownsMap af 3 (plainElem af 9) b n D
theorem Fx{w:World}{b n:Nat}{l:List (Int×P12.T)}(h:Im w b n (dX l))(hn:n≤100)(k:Int)(s:P12.T)(hs:s.length≤100)(hk:(Lit.int .i64 k).wf=true):
  ∃w',(eG 126 (.map (some b)) (.int .i64 k) (.string ⟨s.toArray⟩)).run af w = .ok () w'/\Im w' b (n+1) (dX ((k,s)::l))/\w.grownBy w' (some b):=by
 have hv:=plainElem_string (H:=Unit) (P:=af) (e:=9) ef (s:=⟨s.toArray⟩) (by show s.length≤_;unfold maxLen;omega);exact h.update JI Tryz.underlying126 (by unfold maxLen;omega) (keyOf_int_mk jB hk) (by simpa using hv)
def txL:List (Int×P12.T):= [(11,[82,79,76,76,66,65,67,75]),(10,[67,79,77,77,73,84]),(9,[66,69,71,73,78])]
theorem Gy(w:World):∃w1 w2 w3:World,(eG 126 (.map (some w.heap.size)) (.int .i64 9) (.string ⟨[66,69,71,73,78].toArray⟩)).run af (w.alloc (.map #[] 0)) = .ok () w1/\(eG 126 (.map (some w.heap.size)) (.int .i64 10) (.string ⟨[67,79,77,77,73,84].toArray⟩)).run af (w1) = .ok () w2/\(eG 126 (.map (some w.heap.size)) (.int .i64 11) (.string ⟨[82,79,76,76,66,65,67,75].toArray⟩)).run af (w2) = .ok () w3/\Im w3 w.heap.size 3 (dX txL)/\Xk.Ext w w3:=by
 have o0:Im (w.alloc (.map #[] 0)) w.heap.size 0 (dX []):=uk _ _ _ _;have x0:Below w.heap.size w (w.alloc (.map #[] 0)):=(al _ _).alloc (ai _) _;obtain⟨w1,h1,o1,g1⟩:=Fx o0 aq 9 [66,69,71,73,78] aq aq;have x1:=bP x0 x0.size g1;obtain⟨w2,h2,o2,g2⟩:=Fx o1 aq 10 [67,79,77,77,73,84] aq aq;have x2:=bP x1 x1.size g2;obtain⟨w3,h3,o3,g3⟩:=Fx o2 aq 11 [82,79,76,76,66,65,67,75] aq aq;have x3:=bP x2 x2.size g3;exact⟨w1,w2,w3,h1,h2,h3,o3,x3⟩
theorem Kj{x:Int}{c:ByteArray}(h:∀zd,(dX txL).atKey (.int .i64 x) zd = .lit (.string c.data.toList)):(x=9/\c=⟨[66,69,71,73,78].toArray⟩)∨(x=10/\c=⟨[67,79,77,77,73,84].toArray⟩)∨(x=11/\c=⟨[82,79,76,76,66,65,67,75].toArray⟩):=by
 have e:∀zd,(((txL.find? λy=>y.1==x).map λy=>(.lit (.string y.2):DataW Unit))).getD zd = .lit (.string c.data.toList):=λzd=>by rw[← Ji];exact h zd
 have bx:∀s:P12.T,(.lit (.string s):DataW Unit) = .lit (.string c.data.toList)->c=⟨s.toArray⟩:=λs h=>by
  have:=Lit.string.inj (oK h);rw[this]
 by_cases h1:x=9
 ·subst h1;exact .inl ⟨rfl,bx _ (e (.lit (.bool true)))⟩
 by_cases h2:x=10
 ·subst h2;exact .inr (.inl ⟨rfl,bx _ (e (.lit (.bool true)))⟩)
 by_cases h3:x=11
 ·subst h3;exact .inr (.inr ⟨rfl,bx _ (e (.lit (.bool true)))⟩)
 have f:∀k:Int,¬ x=k->(k==x)=false:=λk h=>by simpa using λe=>h e.symm
 have:=e (.lit (.bool true));simp only[txL,gG,List.find?_nil,f _ h1,f _ h2,f _ h3,Option.map_none,Option.getD_none]at this
 cases this
end Go.Proofs.YtkpmclddjkebeaaGreatDoor
namespace P12
def txn(r:R):Except Er (St×R):=
 if isT [66,69,71,73,78] r then .ok (made 9,ax r)
 else if isT [67,79,77,77,73,84] r then .ok (made 10,ax r)
 else if isT [82,79,76,76,66,65,67,75] r then .ok (made 11,ax r)
 else bU 120 r
def kws:List T := [[67,82,69,65,84,69],[68,82,79,80],[73,78,83,69,82,84],[85,80,68,65,84,69],[68,69,76,69,84,69],[83,69,76,69,67,84]]
theorem CL{r:R}(h:(nxt r).kind≠2∨(nxt r).text∉kws):cA r=txn r:=by
 have e:∀s∈kws,(isT s r&&(nxt r).kind==2)=false:=λs hs=>by
  rcases h with h|h
  ·simp[h]
  ·have:(nxt r).text≠s:=λe=>h (e▸hs)
   simp[isT,this]
 unfold cA;rw[e _ aq,e _ aq,e _ aq,e _ aq,e _ aq,e _ aq];rfl
theorem xQ{r:R}(h:(nxt r).kind=2)(ht:(nxt r).text = [67,82,69,65,84,69]):cA r=create (ax r):=by simp[cA,isT,h,ht]
theorem CM{r:R}(h:(nxt r).kind=2)(ht:(nxt r).text = [68,82,79,80]):cA r=drop (ax r):=by simp[cA,isT,h,ht]
theorem xP{r:R}(h:(nxt r).kind=2)(ht:(nxt r).text = [73,78,83,69,82,84]):cA r=insert (ax r):=by simp[cA,isT,h,ht]
theorem xN{r:R}(h:(nxt r).kind=2)(ht:(nxt r).text = [85,80,68,65,84,69]):cA r=update (ax r):=by simp[cA,isT,h,ht]
theorem vO{r:R}(h:(nxt r).kind=2)(ht:(nxt r).text = [68,69,76,69,84,69]):cA r=iP (ax r):=by simp[cA,isT,h,ht]
theorem vN{r:R}(h:(nxt r).kind=2)(ht:(nxt r).text = [83,69,76,69,67,84]):cA r=ga (ax r):=by simp[cA,isT,h,ht]
theorem Bf{r:R}{s s':T}(h:isT s r=true)(hne:(s==s')=false):isT s' r=false:=by
 unfold isT;rw[yZ h,hne,Bool.and_false]
theorem KL{r:R}(h:isT [66,69,71,73,78] r=true):txn r = .ok (made 9,ax r):=by
 unfold txn;rw[if_pos h]
theorem Ki{r:R}(h:isT [67,79,77,77,73,84] r=true):txn r = .ok (made 10,ax r):=by
 unfold txn;rw[Bf h rfl,if_neg aI,if_pos h]
theorem Kh{r:R}(h:isT [82,79,76,76,66,65,67,75] r=true):txn r = .ok (made 11,ax r):=by
 unfold txn;rw[Bf h rfl,Bf h rfl,if_neg aI,if_neg aI,if_pos h]
end P12
namespace Go.Proofs.YtkpmclddjkebeaaGreatDoor
open Go.RowKit Go.WideMaps Go.Maps
theorem gC{w w':World}(h:Xk.Ext w w'):w.grownBy w' none:=
 let t:ah 0 w w':=ah.aR h
 ⟨t.1,t.2.1,t.2.2.1,h.size,λx h2 _=>h.block x h2⟩
theorem gY{α:Type}{S:Nat->Prop}{w:World}{sz:Nat}{R:α->List Value->Prop}{l:List α}{v:Value}(h:aE S w sz R l v):v.oneCell'=true:=by
 obtain⟨a,b,c,rfl⟩:=ee h;rfl
theorem dv.one{S:Nat->Prop}{w:World}{x:P12.St}{l:List Value}(h:dv S w x l):l.toArray.all (·.oneCell')=true:=by
 obtain⟨tc,tk,tq,kc,cols,rows,sets,wh,items,frm,jn,grp,ord,h⟩:=h
 have hw:∀u∈wh,u.oneCell'=true:=by
  obtain⟨_,_,_,_,_,_,_,_,_,_,e⟩:=h.wh.form;rw[e];intro u hu;simp only[aJ,aF,or_false]at hu;rcases hu with rfl|rfl|rfl|rfl|rfl|rfl|rfl|rfl|rfl|rfl<;>rfl
 have hj:∀u∈jn,u.oneCell'=true:=by
  obtain⟨_,_,_,_,_,_,_,_,_,_,e⟩:=h.jn.form;rw[e];intro u hu;simp only[aJ,aF,or_false]at hu;rcases hu with rfl|rfl|rfl|rfl|rfl|rfl|rfl|rfl|rfl|rfl<;>rfl
 rw[h.form];simp only[List.all_toArray,List.all_cons,List.all_append,List.all_nil,gY h.tc,gY h.tk,gY h.tq,gY h.kc,gY h.cols,gY h.rows,gY h.sets,gY h.items,gY h.frm,gY h.grp,gY h.ord,ft.2 hw,ft.2 hj];rfl
theorem uo(br:Nat)(r:P12.R)(w:World)(h:Rd br r w):Calls af 19 #[rp br] w (Got br w r (jC w) (P12.cA r)):=by
 have HR:=aa h;have lr:=h.lt;have hok:=h.good.lR.len;have hmf:=nF;have hmm:=@run_makeMap af;clear h;generalize hres:P12.cA r=res;have HE:=aa hres;clear hres;obtain⟨w0,hw0⟩:∃W,W=w.alloc (cL bC):=⟨_,rfl⟩;have HW0:=aa hw0;obtain⟨w1,w2,w3,w4,w5,w6,m1,m2,m3,m4,m5,m6,O,X⟩:=Fp br w0;rw[hw0]at m1 m2 m3 m4 m5 m6;rw[ag]at m1 m2 m3 m4 m5 m6;have HO:=aa O;have HX:=aa X;clear O X hw0;go_enter Tryz.func19,Tryz.ntmps19;go_wp2_with fail;go_at_call 21;have hx06:Xk.Ext w w6:=Xk.Ext.trans (by rw[HW0.out];exact(al _ _).alloc (ai _) _) HX.out;refine(gI br r _ (HR.out.ext hx06)).mono ?_;rintro e w7 ⟨rfl,hx7⟩
 have hz0:w0.heap[w.heap.size]?=some (cL bC):=by rw[HW0.out];exact aw w _
 have hxt:Xk.Ext w (w7.alloc (.cells #[.int .i64 (P12.nxt r).kind,.string ⟨(P12.nxt r).text.toArray⟩,.int .i64 (P12.nxt r).pos] 72)):=Xk.Ext.trans (Xk.Ext.trans hx06 hx7) ((al _ _).alloc (ai _) _);have hgt:=aw w7 (.cells #[.int .i64 (P12.nxt r).kind,.string ⟨(P12.nxt r).text.toArray⟩,.int .i64 (P12.nxt r).pos] 72);have h0t:Xk.Ext w0 (w7.alloc (.cells #[.int .i64 (P12.nxt r).kind,.string ⟨(P12.nxt r).text.toArray⟩,.int .i64 (P12.nxt r).pos] 72)):=Xk.Ext.trans (Xk.Ext.trans HX.out hx7) ((al _ _).alloc (ai _) _);have hzt:=(h0t.block _ (ae.1 hz0).1).trans hz0
 have hOt:Dt br (w7.alloc (.cells #[.int .i64 (P12.nxt r).kind,.string ⟨(P12.nxt r).text.toArray⟩,.int .i64 (P12.nxt r).pos] 72)) w0.heap.size 6 (dR stL):=HO.out.kept (gC (Xk.Ext.trans hx7 ((al _ _).alloc (ai _) _))) aI;rw[HW0.out,ag]at hOt;go_upto_if 27 with fail
 clear m1 m2 m3 m4 m5 m6 hx06 hx7 h0t hz0 HO HX HW0;generalize hw7:w7.heap.size=g7 at *
 generalize w7.alloc (.cells #[.int .i64 (P12.nxt r).kind,.string ⟨(P12.nxt r).text.toArray⟩,.int .i64 (P12.nxt r).pos] 72)=wt at *
 have hwlt:w.heap.size<wt.heap.size:=(ae.1 hzt).1;go_cut []from 3 (λw'=>w'=wt/\((P12.nxt r).kind≠2∨(P12.nxt r).text∉P12.kws))
 case first=>
  by_cases h2:(P12.nxt r).kind=2
  ·obtain⟨v,hlook,hv⟩:=JG hOt (P12.nxt r).text ab;have k1:wt.cell? ⟨g7,1,none⟩=some (.string ⟨(P12.nxt r).text.toArray⟩):=by simp[ak,hgt]
   have l1:=ay _ _ k1;have h2b:((P12.nxt r).kind==2)=true:=by simpa using h2
   clear hgt hOt;by_cases hw:(P12.nxt r).text∈P12.kws
   ·simp only[P12.kws,aJ,aF,or_false]at hw;rcases hw with ht|ht|ht|ht|ht|ht
    ·have hv:=hv 69 (by rw[ht];rfl);subst hv;rw[ht]at hlook;rw[show((stL.find? λx=>x.1 == [67,82,69,65,84,69]).isSome)=true from rfl]at hlook;have hE:=HE.out;rw[P12.xQ h2 ht]at hE;clear HE hv;have HE:=aa hE;clear hE;rw[ht]at k1;go_wp2_with fail;go_at_call 75;refine(eS br r _ (HR.out.ext hxt)).mono ?_;rintro e w8 ⟨rfl,ht8,hr8⟩;have hT8:=ah.trans (ah.aR hxt) ht8;have hz8:=ht8.held hzt ab;have hl8:=ht8.size;clear hlook k1;go_wp2_with fail;go_at_call 69;refine(BA br (P12.ax r) w8 hr8).mono ?_;intro e w9 h
     cases hn:P12.create (P12.ax r)with
     | error er=>
      rw[hn]at h;have hE:=HE.out;rw[hn]at hE;subst hE;obtain⟨rfl,ht9⟩:=h;simp only[bq];go_wp2;exact⟨rfl,rfl,ah.trans hT8 ht9⟩
     | ok p=>
      obtain⟨x,r9⟩:=p;rw[hn]at h;have hE:=HE.out;rw[hn]at hE;subst hE;obtain⟨v,rfl,⟨l,rfl,hs⟩,ht9,hr9,hk9⟩:=h;have hz9:=ht9.held hz8 ab;have hl37:=hs.length;have HS:=aa hs;have HT9:=aa (ah.trans hT8 ht9);have HR9:=aa hr9;clear hs ht9 hr9 ht8 hT8;go_wp2_with ((refine bQ rfl 40 _ _ rfl (w.heap.size) _ _ 40 rfl rfl (hz9) ((by simp[hl37])) ((by simp only[aP,hl37];kernel_rfl)) (HS.out.one) ?_;intro w10 hp10));refine ar (aH (fn:=mf) rfl rfl hp10.blk aB rfl (by simp only[aP,hl37];kernel_rfl)) rfl ?_
      exact⟨_,rfl,⟨l,rfl,HS.out.bg (λb hb _=>hp10.rest b ab) (λb hb _=>by omega)⟩,bt.turn hp10 HT9.out (ai _),bt.rd hp10 HR9.out ab,(P12.aO r).trans hk9⟩
    ·have hv:=hv 70 (by rw[ht];rfl);subst hv;rw[ht]at hlook;rw[show((stL.find? λx=>x.1 == [68,82,79,80]).isSome)=true from rfl]at hlook;have hE:=HE.out;rw[P12.CM h2 ht]at hE;clear HE hv;have HE:=aa hE;clear hE;rw[ht]at k1;go_wp2_with fail;go_at_call 75;refine(eS br r _ (HR.out.ext hxt)).mono ?_;rintro e w8 ⟨rfl,ht8,hr8⟩;have hT8:=ah.trans (ah.aR hxt) ht8;have hz8:=ht8.held hzt ab;have hl8:=ht8.size;clear hlook k1;go_wp2_with fail;go_at_call 70;refine(Ga br (P12.ax r) w8 hr8).mono ?_;intro e w9 h
     cases hn:P12.drop (P12.ax r)with
     | error er=>
      rw[hn]at h;have hE:=HE.out;rw[hn]at hE;subst hE;obtain⟨rfl,ht9⟩:=h;simp only[bq];go_wp2;exact⟨rfl,rfl,ah.trans hT8 ht9⟩
     | ok p=>
      obtain⟨x,r9⟩:=p;rw[hn]at h;have hE:=HE.out;rw[hn]at hE;subst hE;obtain⟨v,rfl,⟨l,rfl,hs⟩,ht9,hr9,hk9⟩:=h;have hz9:=ht9.held hz8 ab;have hl37:=hs.length;have HS:=aa hs;have HT9:=aa (ah.trans hT8 ht9);have HR9:=aa hr9;clear hs ht9 hr9 ht8 hT8;go_wp2_with ((refine bQ rfl 40 _ _ rfl (w.heap.size) _ _ 40 rfl rfl (hz9) ((by simp[hl37])) ((by simp only[aP,hl37];kernel_rfl)) (HS.out.one) ?_;intro w10 hp10));refine ar (aH (fn:=mf) rfl rfl hp10.blk aB rfl (by simp only[aP,hl37];kernel_rfl)) rfl ?_
      exact⟨_,rfl,⟨l,rfl,HS.out.bg (λb hb _=>hp10.rest b ab) (λb hb _=>by omega)⟩,bt.turn hp10 HT9.out (ai _),bt.rd hp10 HR9.out ab,(P12.aO r).trans hk9⟩
    ·have hv:=hv 71 (by rw[ht];rfl);subst hv;rw[ht]at hlook;rw[show((stL.find? λx=>x.1 == [73,78,83,69,82,84]).isSome)=true from rfl]at hlook;have hE:=HE.out;rw[P12.xP h2 ht]at hE;clear HE hv;have HE:=aa hE;clear hE;rw[ht]at k1;go_wp2_with fail;go_at_call 75;refine(eS br r _ (HR.out.ext hxt)).mono ?_;rintro e w8 ⟨rfl,ht8,hr8⟩;have hT8:=ah.trans (ah.aR hxt) ht8;have hz8:=ht8.held hzt ab;have hl8:=ht8.size;clear hlook k1;go_wp2_with fail;go_at_call 71;refine(Bi br (P12.ax r) w8 hr8).mono ?_;intro e w9 h
     cases hn:P12.insert (P12.ax r)with
     | error er=>
      rw[hn]at h;have hE:=HE.out;rw[hn]at hE;subst hE;obtain⟨rfl,ht9⟩:=h;simp only[bq];go_wp2;exact⟨rfl,rfl,ah.trans hT8 ht9⟩
     | ok p=>
      obtain⟨x,r9⟩:=p;rw[hn]at h;have hE:=HE.out;rw[hn]at hE;subst hE;obtain⟨v,rfl,⟨l,rfl,hs⟩,ht9,hr9,hk9⟩:=h;have hz9:=ht9.held hz8 ab;have hl37:=hs.length;have HS:=aa hs;have HT9:=aa (ah.trans hT8 ht9);have HR9:=aa hr9;clear hs ht9 hr9 ht8 hT8;go_wp2_with ((refine bQ rfl 40 _ _ rfl (w.heap.size) _ _ 40 rfl rfl (hz9) ((by simp[hl37])) ((by simp only[aP,hl37];kernel_rfl)) (HS.out.one) ?_;intro w10 hp10));refine ar (aH (fn:=mf) rfl rfl hp10.blk aB rfl (by simp only[aP,hl37];kernel_rfl)) rfl ?_
      exact⟨_,rfl,⟨l,rfl,HS.out.bg (λb hb _=>hp10.rest b ab) (λb hb _=>by omega)⟩,bt.turn hp10 HT9.out (ai _),bt.rd hp10 HR9.out ab,(P12.aO r).trans hk9⟩
    ·have hv:=hv 72 (by rw[ht];rfl);subst hv;rw[ht]at hlook;rw[show((stL.find? λx=>x.1 == [85,80,68,65,84,69]).isSome)=true from rfl]at hlook;have hE:=HE.out;rw[P12.xN h2 ht]at hE;clear HE hv;have HE:=aa hE;clear hE;rw[ht]at k1;go_wp2_with fail;go_at_call 75;refine(eS br r _ (HR.out.ext hxt)).mono ?_;rintro e w8 ⟨rfl,ht8,hr8⟩;have hT8:=ah.trans (ah.aR hxt) ht8;have hz8:=ht8.held hzt ab;have hl8:=ht8.size;clear hlook k1;go_wp2_with fail;go_at_call 72;refine(Ae br (P12.ax r) w8 hr8).mono ?_;intro e w9 h
     cases hn:P12.update (P12.ax r)with
     | error er=>
      rw[hn]at h;have hE:=HE.out;rw[hn]at hE;subst hE;obtain⟨rfl,ht9⟩:=h;simp only[bq];go_wp2;exact⟨rfl,rfl,ah.trans hT8 ht9⟩
     | ok p=>
      obtain⟨x,r9⟩:=p;rw[hn]at h;have hE:=HE.out;rw[hn]at hE;subst hE;obtain⟨v,rfl,⟨l,rfl,hs⟩,ht9,hr9,hk9⟩:=h;have hz9:=ht9.held hz8 ab;have hl37:=hs.length;have HS:=aa hs;have HT9:=aa (ah.trans hT8 ht9);have HR9:=aa hr9;clear hs ht9 hr9 ht8 hT8;go_wp2_with ((refine bQ rfl 40 _ _ rfl (w.heap.size) _ _ 40 rfl rfl (hz9) ((by simp[hl37])) ((by simp only[aP,hl37];kernel_rfl)) (HS.out.one) ?_;intro w10 hp10));refine ar (aH (fn:=mf) rfl rfl hp10.blk aB rfl (by simp only[aP,hl37];kernel_rfl)) rfl ?_
      exact⟨_,rfl,⟨l,rfl,HS.out.bg (λb hb _=>hp10.rest b ab) (λb hb _=>by omega)⟩,bt.turn hp10 HT9.out (ai _),bt.rd hp10 HR9.out ab,(P12.aO r).trans hk9⟩
    ·have hv:=hv 73 (by rw[ht];rfl);subst hv;rw[ht]at hlook;rw[show((stL.find? λx=>x.1 == [68,69,76,69,84,69]).isSome)=true from rfl]at hlook;have hE:=HE.out;rw[P12.vO h2 ht]at hE;clear HE hv;have HE:=aa hE;clear hE;rw[ht]at k1;go_wp2_with fail;go_at_call 75;refine(eS br r _ (HR.out.ext hxt)).mono ?_;rintro e w8 ⟨rfl,ht8,hr8⟩;have hT8:=ah.trans (ah.aR hxt) ht8;have hz8:=ht8.held hzt ab;have hl8:=ht8.size;clear hlook k1;go_wp2_with fail;go_at_call 73;refine(zy br (P12.ax r) w8 hr8).mono ?_;intro e w9 h
     cases hn:P12.iP (P12.ax r)with
     | error er=>
      rw[hn]at h;have hE:=HE.out;rw[hn]at hE;subst hE;obtain⟨rfl,ht9⟩:=h;simp only[bq];go_wp2;exact⟨rfl,rfl,ah.trans hT8 ht9⟩
     | ok p=>
      obtain⟨x,r9⟩:=p;rw[hn]at h;have hE:=HE.out;rw[hn]at hE;subst hE;obtain⟨v,rfl,⟨l,rfl,hs⟩,ht9,hr9,hk9⟩:=h;have hz9:=ht9.held hz8 ab;have hl37:=hs.length;have HS:=aa hs;have HT9:=aa (ah.trans hT8 ht9);have HR9:=aa hr9;clear hs ht9 hr9 ht8 hT8;go_wp2_with ((refine bQ rfl 40 _ _ rfl (w.heap.size) _ _ 40 rfl rfl (hz9) ((by simp[hl37])) ((by simp only[aP,hl37];kernel_rfl)) (HS.out.one) ?_;intro w10 hp10));refine ar (aH (fn:=mf) rfl rfl hp10.blk aB rfl (by simp only[aP,hl37];kernel_rfl)) rfl ?_
      exact⟨_,rfl,⟨l,rfl,HS.out.bg (λb hb _=>hp10.rest b ab) (λb hb _=>by omega)⟩,bt.turn hp10 HT9.out (ai _),bt.rd hp10 HR9.out ab,(P12.aO r).trans hk9⟩
    ·have hv:=hv 74 (by rw[ht];rfl);subst hv;rw[ht]at hlook;rw[show((stL.find? λx=>x.1 == [83,69,76,69,67,84]).isSome)=true from rfl]at hlook;have hE:=HE.out;rw[P12.vN h2 ht]at hE;clear HE hv;have HE:=aa hE;clear hE;rw[ht]at k1;go_wp2_with fail;go_at_call 75;refine(eS br r _ (HR.out.ext hxt)).mono ?_;rintro e w8 ⟨rfl,ht8,hr8⟩;have hT8:=ah.trans (ah.aR hxt) ht8;have hz8:=ht8.held hzt ab;have hl8:=ht8.size;clear hlook k1;go_wp2_with fail;go_at_call 74;refine(yb br (P12.ax r) w8 hr8).mono ?_;intro e w9 h
     cases hn:P12.ga (P12.ax r)with
     | error er=>
      rw[hn]at h;have hE:=HE.out;rw[hn]at hE;subst hE;obtain⟨rfl,ht9⟩:=h;simp only[bq];go_wp2;exact⟨rfl,rfl,ah.trans hT8 ht9⟩
     | ok p=>
      obtain⟨x,r9⟩:=p;rw[hn]at h;have hE:=HE.out;rw[hn]at hE;subst hE;obtain⟨v,rfl,⟨l,rfl,hs⟩,ht9,hr9,hk9⟩:=h;have hz9:=ht9.held hz8 ab;have hl37:=hs.length;have HS:=aa hs;have HT9:=aa (ah.trans hT8 ht9);have HR9:=aa hr9;clear hs ht9 hr9 ht8 hT8;go_wp2_with ((refine bQ rfl 40 _ _ rfl (w.heap.size) _ _ 40 rfl rfl (hz9) ((by simp[hl37])) ((by simp only[aP,hl37];kernel_rfl)) (HS.out.one) ?_;intro w10 hp10));refine ar (aH (fn:=mf) rfl rfl hp10.blk aB rfl (by simp only[aP,hl37];kernel_rfl)) rfl ?_
      exact⟨_,rfl,⟨l,rfl,HS.out.bg (λb hb _=>hp10.rest b ab) (λb hb _=>by omega)⟩,bt.turn hp10 HT9.out (ai _),bt.rd hp10 HR9.out ab,(P12.aO r).trans hk9⟩
   ·have hf:(stL.find? λx=>x.1==(P12.nxt r).text).isSome=false:=by
     have e:∀s∈P12.kws,(s==(P12.nxt r).text)=false:=λs hs=>by simpa using(λe:s=(P12.nxt r).text=>hw (e▸hs))
     simp only[stL,gG,List.find?_nil,e _ (show[83,69,76,69,67,84]∈P12.kws by decide),e _ (show[68,69,76,69,84,69]∈P12.kws by decide),e _ (show[85,80,68,65,84,69]∈P12.kws by decide),e _ (show[73,78,83,69,82,84]∈P12.kws by decide),e _ (show[68,82,79,80]∈P12.kws by decide),e _ (show[67,82,69,65,84,69]∈P12.kws by decide),Option.isSome_none]
    rw[hf]at hlook;go_wp2_with fail;go_meet
    case rel=>exact⟨rfl,.inr hw⟩
  ·have h2b:((P12.nxt r).kind==2)=false:=by simpa using h2
   go_wp2_with fail;go_meet
   case rel=>exact⟨rfl,.inl h2⟩
 case rest=>
  obtain⟨rfl,hno⟩:=hcut;have hE:=HE.out;rw[P12.CL hno]at hE;clear HE hgt hOt;have HE:=aa hE;clear hE;obtain⟨v1,v2,v3,n1,n2,n3,O,X⟩:=Gy wc;go_wp2_with (at_range;refine wpList_range_own _ rfl _ 126 rfl 3 9 JI Tryz.underlying126 _ wc.heap.size 3 _ rfl O ?_;intro wq hrg0 hg0 hs0);go_frame
  have hxq:Xk.Ext wc wq:=Below.grown X hg0 X.size (λj hj=>by cases hj)
  go_loopw [7] (λ_ wr=>∃ (left:Lit->Bool) (cnt:Nat),wr.ranges af 3 (plainElem af 9) wc.heap.size v3.heap.size 3 (dX txL) left cnt/\Xk.Ext wc wr /\
   ((left (.int .i64 9)=true∨P12.isT [66,69,71,73,78] r=false)/\(left (.int .i64 10)=true∨P12.isT [67,79,77,77,73,84] r=false)/\(left (.int .i64 11)=true∨P12.isT [82,79,76,76,66,65,67,75] r=false))) (λ_ wr=>wr.rangeLeft wc.heap.size v3.heap.size)
  case atStart=>exact⟨_,_,hrg0,hxq,.inl (by rw[xo];rfl),.inl (by rw[xo];rfl),.inl (by rw[xo];rfl)⟩
  case round=>
   obtain⟨left,cnt,hrg,hxr,hl9,hl10,hl11⟩:=hrel;clear hrg0 hg0 hs0 hxq n1 n2 n3 O;go_wp2_with (at_next;refine wpList_next_ranges_is _ rfl _ rfl 3 9 .i64 JI jB ef wc.heap.size v3.heap.size 3 _ _ _ rfl hrg ?_ ?_)
   ·intro _ hl0;have e9:P12.isT [66,69,71,73,78] r=false:=hl9.resolve_left (by rw[hl0];simp);have e10:P12.isT [67,79,77,77,73,84] r=false:=hl10.resolve_left (by rw[hl0];simp);have e11:P12.isT [82,79,76,76,66,65,67,75] r=false:=hl11.resolve_left (by rw[hl0];simp);have hE:=HE.out;rw[show P12.txn r = .error ((P12.nxt r).pos,120) by unfold P12.txn;rw[e9,e10,e11];rfl]at hE;subst hE;have hxr0:=Xk.Ext.trans hxt hxr;go_wp2_with fail;go_at_call 22;refine(eC br r 120 _ (HR.out.ext hxr0)).mono ?_;rintro e w8 ⟨rfl,hx8⟩;simp only[bq];go_wp2;exact⟨rfl,rfl,ah.aR (Xk.Ext.trans hxr0 hx8)⟩
   ·intro x c wn cnt1 hwx hwc hlx hat hrg1 hlt hg1 hs1 hen;have hx1:Xk.Ext wc wn:=Below.grown hxr hg1 hxr.size (λj hj=>by cases hj;exact X.size);have hxq1:=Xk.Ext.trans hxt hx1;have hzq1:=(hx1.block _ hwlt).trans hzt;have hl1:=hx1.size;rcases Kj hat with⟨rfl,rfl⟩|⟨rfl,rfl⟩|⟨rfl,rfl⟩
    ·go_wp2_with fail;go_at_call 20
     cases hi:P12.isT [66,69,71,73,78] r
     ·refine(fk br r [66,69,71,73,78] _ (HR.out.ext hxq1) hi).mono ?_;rintro e w8 ⟨rfl,hx8⟩;go_wp2_with fail;go_roundw
      case rel=>exact⟨_,cnt1,hrg1.kept (gC hx8) aI aI,Xk.Ext.trans hx1 hx8,⟨.inr hi,hl10.imp_left (λh=>by rw[h];rfl),hl11.imp_left (λh=>by rw[h];rfl)⟩⟩
      case measure=>rw[(hrg1.kept (gC hx8) aI aI).left_eq,hrg.left_eq];exact hlt
     ·refine(dT br r [66,69,71,73,78] _ (HR.out.ext hxq1) hi).mono ?_;rintro e w8 ⟨rfl,ht8,hr8⟩;have hT8:=ah.trans (ah.aR hxq1) ht8;have hz8:=ht8.held hzq1 ab;have hl8:=ht8.size;have hE:=HE.out;rw[P12.KL hi]at hE;subst hE;go_wp2_with fail;go_at_call 76;refine(iN 9 _).mono ?_;rintro e w9 ⟨rfl,hx9⟩;have hz9:=(hx9.block _ (ae.1 hz8).1).trans hz8;have HT9:=aa (ah.trans hT8 (ah.aR hx9));have HR9:=aa (hr8.ext hx9);clear ht8 hr8 hT8 hx9;rw[if_neg aq];go_wp2_with ((refine pw hz9 ?_;intro w10 hp10));refine ar (aH (fn:=mf) rfl rfl hp10.blk aB rfl au) rfl ?_
      exact⟨_,rfl,⟨_,rfl,by have:=pX (λb=>w.heap.size≤b) w10 9;rwa [if_neg aq]at this⟩,bt.turn hp10 HT9.out (ai _),bt.rd hp10 HR9.out ab,P12.aO r⟩
    ·go_wp2_with fail;go_at_call 20
     cases hi:P12.isT [67,79,77,77,73,84] r
     ·refine(fk br r [67,79,77,77,73,84] _ (HR.out.ext hxq1) hi).mono ?_;rintro e w8 ⟨rfl,hx8⟩;go_wp2_with fail;go_roundw
      case rel=>exact⟨_,cnt1,hrg1.kept (gC hx8) aI aI,Xk.Ext.trans hx1 hx8,⟨hl9.imp_left (λh=>by rw[h];rfl),.inr hi,hl11.imp_left (λh=>by rw[h];rfl)⟩⟩
      case measure=>rw[(hrg1.kept (gC hx8) aI aI).left_eq,hrg.left_eq];exact hlt
     ·refine(dT br r [67,79,77,77,73,84] _ (HR.out.ext hxq1) hi).mono ?_;rintro e w8 ⟨rfl,ht8,hr8⟩;have hT8:=ah.trans (ah.aR hxq1) ht8;have hz8:=ht8.held hzq1 ab;have hl8:=ht8.size;have hE:=HE.out;rw[P12.Ki hi]at hE;subst hE;go_wp2_with fail;go_at_call 76;refine(iN 10 _).mono ?_;rintro e w9 ⟨rfl,hx9⟩;have hz9:=(hx9.block _ (ae.1 hz8).1).trans hz8;have HT9:=aa (ah.trans hT8 (ah.aR hx9));have HR9:=aa (hr8.ext hx9);clear ht8 hr8 hT8 hx9;rw[if_neg aq];go_wp2_with ((refine pw hz9 ?_;intro w10 hp10));refine ar (aH (fn:=mf) rfl rfl hp10.blk aB rfl au) rfl ?_
      exact⟨_,rfl,⟨_,rfl,by have:=pX (λb=>w.heap.size≤b) w10 10;rwa [if_neg aq]at this⟩,bt.turn hp10 HT9.out (ai _),bt.rd hp10 HR9.out ab,P12.aO r⟩
    ·go_wp2_with fail;go_at_call 20
     cases hi:P12.isT [82,79,76,76,66,65,67,75] r
     ·refine(fk br r [82,79,76,76,66,65,67,75] _ (HR.out.ext hxq1) hi).mono ?_;rintro e w8 ⟨rfl,hx8⟩;go_wp2_with fail;go_roundw
      case rel=>exact⟨_,cnt1,hrg1.kept (gC hx8) aI aI,Xk.Ext.trans hx1 hx8,⟨hl9.imp_left (λh=>by rw[h];rfl),hl10.imp_left (λh=>by rw[h];rfl),.inr hi⟩⟩
      case measure=>rw[(hrg1.kept (gC hx8) aI aI).left_eq,hrg.left_eq];exact hlt
     ·refine(dT br r [82,79,76,76,66,65,67,75] _ (HR.out.ext hxq1) hi).mono ?_;rintro e w8 ⟨rfl,ht8,hr8⟩;have hT8:=ah.trans (ah.aR hxq1) ht8;have hz8:=ht8.held hzq1 ab;have hl8:=ht8.size;have hE:=HE.out;rw[P12.Kh hi]at hE;subst hE;go_wp2_with fail;go_at_call 76;refine(iN 11 _).mono ?_;rintro e w9 ⟨rfl,hx9⟩;have hz9:=(hx9.block _ (ae.1 hz8).1).trans hz8;have HT9:=aa (ah.trans hT8 (ah.aR hx9));have HR9:=aa (hr8.ext hx9);clear ht8 hr8 hT8 hx9;rw[if_neg aq];go_wp2_with ((refine pw hz9 ?_;intro w10 hp10));refine ar (aH (fn:=mf) rfl rfl hp10.blk aB rfl au) rfl ?_
      exact⟨_,rfl,⟨_,rfl,by have:=pX (λb=>w.heap.size≤b) w10 11;rwa [if_neg aq]at this⟩,bt.turn hp10 HT9.out (ai _),bt.rd hp10 HR9.out ab,P12.aO r⟩
end Go.Proofs.YtkpmclddjkebeaaGreatDoor
namespace Go.Xe
open Go.RowKit
open Go.Xk
open Go.Proofs.YtkpmclddjkebeaaGreatDoor (gZ ir)
theorem oe{P:Program}{o:Oper}{a:Act}{ks:gT}{w:World}(t:TypeId)(x y:Operand)(ho:o.op = .store t x y)(g:Nat)(c c':Array Value)(T:TypeId)(hx:a.eval x = .pointer (some ⟨g,0,none⟩))(hy:a.eval y = .agg c')
  (hg:w.heap[g]?=some (.cells c T)) (hs:c.size=c'.size) (hi:(P.info? t).map (·.size)=some c'.size) (h1:c'.all (·.oneCell')=true) (hk:(g,λo=>o=some (.cells c' T))∈ks):eE (ES ks) P o a w none (eD g (.cells c' T)):=by
 have ht:w.there g 0 c'.size:=λj hj=>by
  rw[eF];exact⟨by simp[ak,hg,show j<c.size by omega],aD w g j _ _ hg⟩
 have hp:=gZ hg c'.toList 0;have hw:(w.setCells g 0 c'.toList).heap[g]?=some (.cells c' T):=by simpa using ir hg c'.toList (by simpa using hs.symm)
 unfold eE execOp;simp only[ho,hx,hy,Instr.storeAt,Instr.sureAddr,Sem.run_bind,Sem.run_pure,oZ,run_storeVar_mid w g 0 t c' ht hi h1];refine⟨⟨hp.os,hp.tape,hp.output,Nat.le_of_eq hp.size.symm,λb hb=>?_⟩,hw,λb hb=>by cases hb⟩;by_cases hbg:b=g
 ·subst hbg;exact .inr ⟨_,hk,rfl,hw⟩
 ·exact .inl (hp.rest b hbg)
theorem Ey{ks:gT}{W:World}{b:Nat}{a0 x:Value}{t:TypeId}(h:W.heap[b]?=some (.cells #[a0] t))(hk:(b,λo=>o=some (.cells #[x] t))∈ks):
  gS (ES ks) W none (eD b (.cells #[x] t)) undef (W.setCell ⟨b,0,none⟩ x):=by
 have h1:(W.setCell ⟨b,0,none⟩ x).heap[b]?=some (.cells #[x] t):=by rw[heap_setCell_same W b 0 _ t x h];rfl
 refine⟨⟨rfl,rfl,rfl,by simp,λc hc=>?_⟩,h1,λc hc=>by cases hc⟩;by_cases hcb:c=b
 ·subst hcb;exact .inr ⟨_,hk,rfl,h1⟩
 ·exact .inl (an W ⟨b,0,none⟩ c x (λe=>hcb (by simpa using e)))
end Go.Xe
namespace Go.Proofs.YtkpmclddjkebeaaGreatDoor
open Go.RowKit
def oM(g:Nat)(l:List Value)(a k:Int)(w:World):Prop:=
 w.heap[g]?=some (cL l)/\w.heap[g+1]?=some (.cells #[.int .i64 a] 3)/\w.heap[g+2]?=some (.cells #[.int .i64 k] 41)
theorem Gj(g:Nat)(l:List Value)(hl:l.length=37)(a0 k0 a k:Int)(w:World)(h:oM g l a0 k0 w):
  CallsD af 18 #[.pointer (some ⟨g,0,none⟩),.pointer (some ⟨g+1,0,none⟩),.pointer (some ⟨g+2,0,none⟩)] (.panicking [{ v := .iface 65 (.agg #[.int .i64 a,.int .i64 k]),recovered:=false }]) w λe u' w'=>
   e = .returned (.tuple #[])/\u' = .panicking [{ v := .iface 65 (.agg #[.int .i64 a,.int .i64 k]),recovered:=true }]/\oM g bC a k w'/\Kept w.heap.size [g,g+1,g+2] w w':=by
 have HP:=aa h;clear h;refine callsD_of_wpS Tryz.func18 rfl λc₀ cs hu=>?_;apply wpS_seq;apply wpS_region;simp[wpOpsS,go_sem,recoverD,hu,Tryz.ntmps18,Exit.thenS];refine wpS_of_wp ?_;have hnot:=mS
 have et:(#[Value.pointer (some ⟨g,0,none⟩),.pointer (some ⟨g+1,0,none⟩),.pointer (some ⟨g+2,0,none⟩)]++((bH 19 undef).setIfInBounds 3 (.iface 65 (.agg #[.int .i64 a,.int .i64 k]))).setIfInBounds 0 (.iface 65 (.agg #[.int .i64 a,.int .i64 k]))) =
  #[.pointer (some ⟨g,0,none⟩),.pointer (some ⟨g+1,0,none⟩),.pointer (some ⟨g+2,0,none⟩),.iface 65 (.agg #[.int .i64 a,.int .i64 k]),undef,undef,.iface 65 (.agg #[.int .i64 a,.int .i64 k]),undef,undef,undef,undef,undef,undef,undef,undef,undef,undef,undef,undef,undef,undef,undef]:=au
 rw[et];clear et;have hta:∀W:World,(Instr.typeAssert (.iface 65 (.agg #[.int .i64 a,.int .i64 k])) 20 65 true).run af W = .ok (.tuple #[.agg #[.int .i64 a,.int .i64 k],.bool true]) W:=λW=>by kernel_rfl
 generalize hQ:(λ(e:Exit) (a':Act) (w':World)=>bodyPostS af Tryz.f18 c₀ cs _ e a' _ w')=Q;have HQ:=aa hQ;clear hQ;obtain⟨p0,p1,p2⟩:=HP.out;have lg:=(ae.1 p2).1;go_upto_region 5 with fail
 obtain⟨ks,hks⟩:∃ks:Xe.gT,ks = [(g,λo=>o=some (cL bC)),(g+1,λo=>o=some (.cells #[.int .i64 a] 3))]:=⟨_,rfl⟩;have HKS:=aa hks
 have hkb:∀k∈ks,k.1=g∨k.1=g+1:=λk hk=>by
  rw[hks]at hk;simp only[aJ,aF,or_false]at hk;rcases hk with rfl|rfl
  ·exact .inl rfl
  ·exact .inr rfl
 have hgt:=aw w (.cells #[.int .i64 a,.int .i64 k] 65);have hxa:Xk.Ext w (w.alloc (.cells #[.int .i64 a,.int .i64 k] 65)):=(al _ _).alloc (ai _) _;have q0:=(hxa.block _ ab).trans p0;have q1:=(hxa.block _ ab).trans p1;have q2:=(hxa.block _ ab).trans p2;have hl1:w.heap.size<(w.alloc (.cells #[.int .i64 a,.int .i64 k] 65)).heap.size:=by rw[ag];omega
 have hKa:Kept w.heap.size [g,g+1,g+2] w (w.alloc (.cells #[.int .i64 a,.int .i64 k] 65)):=Kept.aR hxa;generalize w.alloc (.cells #[.int .i64 a,.int .i64 k] 65)=w1 at *
 have HF:Hid (∀W,Xe.ES ks w1.drew W->W.cell? ⟨w.heap.size,0,none⟩=some (.int .i64 a)/\W.cell? ⟨w.heap.size,1,none⟩=some (.int .i64 k)/\w.heap.size<W.heap.size):=aa λW hx=>by
  have hb:=(hx.block (w:=w1.drew) (by simpa using hl1) (λk hk e=>by rcases hkb k hk with h|h<;>omega)).trans hgt;exact⟨by simp[ak,hb],by simp[ak,hb],(ae.1 hb).1⟩
 have HG0:Hid (∀W,Xe.ES ks w1.drew W->∃c:Array Value,W.heap[g]?=some (.cells c 40)/\c.size=37):=aa λW hx=>by
  rcases hx.2.2.2.2 g (by simp;omega)with e|⟨k,hk,e1,e2⟩
  ·exact⟨_,e.trans q0,by simp[hl]⟩
  ·rw[hks]at hk;simp only[aJ,aF,or_false]at hk;rcases hk with rfl|rfl
   ·exact⟨_,e2,rfl⟩
   ·simp at e1
 have HG1:Hid (∀W,Xe.ES ks w1.drew W->∃a0,W.heap[g+1]?=some (.cells #[a0] 3)):=aa λW hx=>by
  rcases hx.2.2.2.2 (g+1) (by simp;omega)with e|⟨k,hk,e1,e2⟩
  ·exact⟨_,e.trans q1⟩
  ·rw[hks]at hk;simp only[aJ,aF,or_false]at hk;rcases hk with rfl|rfl
   ·simp at e1
   ·exact⟨_,e2⟩
 have hbz:∀W:World,(cR 40 #[]).run af W = .ok (.agg bC.toArray) W:=λW=>by kernel_rfl
 clear hks q0 q1 hgt p0 p1 p2 hta hnot
 refine Xe.bm (E:=Xe.ES ks) (Xe.bS _) 7 (λ_=>none) (λ_ _ h=>by cases h) (λ_ _ _ _ h=>by cases h) [(5,Xe.eD g (cL bC)),(6,Xe.eD (g+1) (.cells #[.int .i64 a] 3))] au au (Xe.jD (by
   intro y hy;simp only[aJ,aF,or_false]at hy;rcases hy with rfl|rfl
   ·exact Xe.eD.es λk hk e=>by
     rw[HKS.out]at hk;simp only[aJ,aF,or_false]at hk;rcases hk with rfl|rfl
     ·rfl
     ·simp at e
   ·exact Xe.eD.es λk hk e=>by
     rw[HKS.out]at hk;simp only[aJ,aF,or_false]at hk;rcases hk with rfl|rfl
     ·simp at e
     ·rfl)) ?_
 simp only[List.take_succ_cons,List.take_zero,List.drop_succ_cons,List.drop_zero];(refine Xs.s3 HF.out ?_)
 (refine Xs.s3 HF.out ?_)
 (refine Xs.s3 HF.out ?_)
 (refine Xs.s3 HF.out ?_)
 (refine Xs.s3 HF.out ?_)
 refine Xe.bc (Xe.bS _) az az (λW hx hp=>?_) (λy K hK=>?_)
 ·obtain⟨c,hc,hcs⟩:=HG0.out W hx;exact Xe.oe _ _ _ rfl g c bC.toArray _ rfl rfl hc (by rw[hcs];rfl) au au (by rw[HKS.out];exact cy ..)
 go_simp;refine hK _ ?_;clear hK K;refine Xe.bc (Xe.bS _) az az (λW hx hp=>?_) (λy2 K hK=>?_)
 ·obtain⟨a0,hc⟩:=HG1.out W hx;have c1:W.cell? ⟨g+1,0,none⟩=some a0:=by simp[ak,hc]
  have f1:=aD W (g+1) 0 _ _ hc;have l1:=(ae.1 hc).1;go_simp;exact Xe.Ey hc (by rw[HKS.out];simp)
 go_simp;refine hK _ ?_;clear hK K;refine Xe.bD (λW hx hp hg=>?_);simp only[Xk.fP]at hp;obtain⟨r1,r0,-⟩:=hp;have r2:=(hx.block (w:=w1.drew) (b:=g+2) (by simp;omega) (λk hk e=>by rcases hkb k hk with h|h<;>omega)).trans q2;have hKW:Kept w.heap.size [g,g+1,g+2] w W:=hKa.trans ⟨hx.1,hx.2.1,hx.2.2.1,hx.2.2.2.1,λb _ h2 h3=>hx.block (w:=w1.drew) h2 (λk hk e=>h3 (by rcases hkb k hk with h|h<;>simp[← e,h]))⟩;have c2:W.cell? ⟨g+2,0,none⟩=some (.int .i64 k0):=by simp[ak,r2]
 have f2:=aD W (g+2) 0 _ _ r2;have l2:=(ae.1 r2).1;have HR0:=aa (show W.heap[g]?=some (cL bC)from r0);have HR1:=aa (show W.heap[g+1]?=some (.cells #[.int .i64 a] 3)from r1);have HR2:=aa r2;have HKW:=aa hKW;clear r0 r1 r2 hx hKW hg;go_wp2_with fail;rw[← HQ.out]
 have hR:oM g bC a k (W.setCell ⟨g+2,0,none⟩ (.int .i64 k)):=
  ⟨(an W ⟨g+2,0,none⟩ g _ aI).trans HR0.out,(an W ⟨g+2,0,none⟩ (g+1) _ aI).trans HR1.out,by rw[heap_setCell_same W (g+2) 0 _ _ _ HR2.out];rfl⟩
 have hK:Kept w.heap.size [g,g+1,g+2] w (W.setCell ⟨g+2,0,none⟩ (.int .i64 k)):=HKW.out.setCell (.inr (.inl aI)) _ _;simp[bodyPostS,results,Tryz.results18];exact⟨hR,hK⟩
theorem idle(g:Nat)(w:World):
  CallsD af 18 #[.pointer (some ⟨g,0,none⟩),.pointer (some ⟨g+1,0,none⟩),.pointer (some ⟨g+2,0,none⟩)] .returning w λe u' w'=>e = .returned (.tuple #[])/\u' = .returning/\w'=w:=by
 refine callsD_of_wpS Tryz.func18 rfl λc₀ cs hu=>?_;apply wpS_seq;apply wpS_region;simp[wpOpsS,go_sem,recoverD,hu,Tryz.ntmps18,Exit.thenS];refine wpS_of_wp ?_
 have et:(#[Value.pointer (some ⟨g,0,none⟩),.pointer (some ⟨g+1,0,none⟩),.pointer (some ⟨g+2,0,none⟩)]++((bH 19 undef).setIfInBounds 3 .nilIface).setIfInBounds 0 .nilIface) =
  #[.pointer (some ⟨g,0,none⟩),.pointer (some ⟨g+1,0,none⟩),.pointer (some ⟨g+2,0,none⟩),.nilIface,undef,undef,.nilIface,undef,undef,undef,undef,undef,undef,undef,undef,undef,undef,undef,undef,undef,undef,undef]:=au
 rw[et];clear et;generalize hQ:(λ(e:Exit) (a':Act) (w':World)=>bodyPostS af Tryz.f18 c₀ cs _ e a' _ w')=Q;have HQ:=aa hQ;clear hQ;go_wp2_with fail;rw[← HQ.out];simp[bodyPostS,results,Tryz.results18,hu]
 cases c₀;simp_all
theorem jQ{tmps:Array Value}{w:World}{g:Nat}{l:List Value}{a k:Int}(hl:l.length=37)(h0:tmps.getD 2 undef = .pointer (some ⟨g,0,none⟩))(h1:tmps.getD 3 undef = .pointer (some ⟨g+1,0,none⟩))(h2:tmps.getD 4 undef = .pointer (some ⟨g+2,0,none⟩))(h:oM g l a k w):
  (results Tryz.f11 tmps).run af w = .ok (.tuple #[.agg l.toArray,.int .i64 a,.int .i64 k]) w:=by
 obtain⟨p0,p1,p2⟩:=h;have e0:=run_loadVar_row (P:=af) w g 40 40 l.toArray (0,0) _ p0 aB rfl (by simp only[aP,hl];kernel_rfl);have e1:w.cell? ⟨g+1,0,none⟩=some (.int .i64 a):=by simp[ak,p1]
 have e2:w.cell? ⟨g+2,0,none⟩=some (.int .i64 k):=by simp[ak,p2]
 simp only[Eb]at h0 h1 h2;have e3:(loadVar 3 ⟨g+1,0,none⟩).run af w = .ok (.int .i64 a) w:=by simp[go_sem,e1]
 have e4:(loadVar 41 ⟨g+2,0,none⟩).run af w = .ok (.int .i64 k) w:=by simp[go_sem,e2]
 simp[results,Tryz.results11,h0,h1,h2,asAddr,e0,e3,e4]
def zV(w:World):Prop:=∃tp p,w.cell? ⟨6,0,none⟩=some (.iface tp p)
theorem zV.ext{w w':World}(h:zV w)(hx:Xk.Ext w w'):zV w':=by
 obtain⟨tp,p,hc⟩:=h;exact⟨tp,p,Xk.bO hx hc⟩
theorem mv{br:Nat}{w w5 w6:World}(hx:Xk.Ext w w5)(ht:ah br w5 w6)(hb:w.heap.size≤br):Xk.Ext w w6:=
 ⟨ht.1.trans hx.os,ht.2.1.trans hx.tape,ht.2.2.1.trans hx.output,bI hx.size ht.size,λk hk=>(ht.block (aK hk hx.size) ab).trans (hx.block k hk)⟩
theorem zn{B:Nat}{ks:List Nat}{w w6 w7:World}(hx:Xk.Ext w w6)(h:Kept B ks w6 w7)(hB:w.heap.size≤B)(hk:∀k∈ks,w.heap.size≤k):Xk.Ext w w7:=
 ⟨h.os.trans hx.os,h.tape.trans hx.tape,h.output.trans hx.output,bI hx.size h.size,λk hk'=>(h.block k ab (aK hk' hx.size) (λe=>by have:=hk k e;omega)).trans (hx.block k hk')⟩
theorem nK{g:Nat}{c:Array Value}{T:TypeId}{w w6 w7:World}(hx:Xk.Ext w w6)(h:bt g c T w6 w7)(hg:w.heap.size≤g):Xk.Ext w w7:=
 ⟨h.os.trans hx.os,h.tape.trans hx.tape,h.output.trans hx.output,by rw[h.size];exact hx.size,λk hk'=>(h.rest k ab).trans (hx.block k hk')⟩
def isI:Option Value->Bool
 | some (.int _ _)=>true
 | _=>false
def isS:Option Value->Bool
 | some (.string _)=>true
 | _=>false
theorem Ee:(xy 40).all (λo => !(isI bC[o]?&&isS bC[o+1]?&&isI bC[o+2]?))=true:=au
theorem Ec{o:Nat}{a p:Int}{s:ByteArray}(h1:bC[o]?=some (.int .i64 a))(h2:bC[o+1]?=some (.string s))(h3:bC[o+2]?=some (.int .i64 p)):False:=by
 have ho:o<37:=(cr.1 h1).1;have:=ft.1 Ee o (lh.2 ab);rw[h1,h2,h3]at this;simp[isI,isS]at this
theorem Rd.Jw{br g:Nat}{r:P12.R}{c:Array Value}{w w':World}(h:Rd br r w)(hz:w.heap[g]?=some (cL bC))(hp:bt g c 40 w w')(hg:g<br)(he:g≠6):Rd br r w':=by
 obtain⟨b,off,cap,h⟩:=h
 have hb:b≠g:=λe=>by
  subst e;obtain⟨h1,h2,h3⟩:=h.toks.2 0 _ (P12.wy h.good);simp only[Nat.zero_mul,oH,ak,hz,Option.isSome_none,aS,if_false,List.getElem?_toArray]at h1 h2 h3;exact Ec h1 h2 h3
 have hk:∀ {x o':Nat} {v:Value},x≠g->w.cell? ⟨x,o',none⟩=some v->w'.cell? ⟨x,o',none⟩=some v:=fun {x o' v} hne hc=>by
  rw[kf (hp.rest x hne)];exact hc
 refine⟨b,off,cap,(hp.rest br ab).trans h.blk,h.lo,h.cap,⟨by rw[hp.size];exact h.toks.1,λj t hj=>?_⟩,h.good,h.glo,let⟨tp,p,hc⟩:=h.env;⟨tp,p,hk (λe=>he e.symm) hc⟩⟩;obtain⟨h1,h2,h3⟩:=h.toks.2 j t hj;exact⟨hk hb h1,hk hb h2,hk hb h3⟩
def jM(w:World)(r:Except P12.Er P12.St)(e:Ending)(w':World):Prop:=
 Xk.Ext w w'/\match r with
  | .ok x=>∃l,e = .returned (.tuple #[.agg l.toArray,.int .i64 0,.int .i64 0])/\dv (λb=>w.heap.size≤b) w' x l
  | .error er=>e = .returned (.tuple #[.agg bC.toArray,.int .i64 er.1,.int .i64 er.2])
theorem EY(s:ByteArray)(l:List P11.Tok)(w:World)(hE:zV w)(h:P11.eP s.data.toList = .inl l):Calls af 11 #[.string s] w (jM w (P12.fx l)):=by
 have HE:=aa hE;have hgood:=P12.pq h;have HT:=aa λW=>Af s l h W;have hmf:=nF;clear h hE;generalize hres:P12.fx l=res;have HRES:=aa hres;clear hres;go_enter_defers Tryz.func11,Tryz.ntmps11;go_wp2_with fail;refine(HT.out _).mono ?_;rintro e w1 ⟨b,off,cap,rfl,htk,hcap,hx1⟩;obtain⟨w3,hw3⟩:∃W,W=((w.alloc (cL bC)).alloc (.cells #[.int .i64 0] 3)).alloc (.cells #[.int .i64 0] 41):=⟨_,rfl⟩;have hx03:Xk.Ext w w3:=by rw[hw3];exact Xk.xt
 have hb3:oM w.heap.size bC 0 0 w3:=by
  rw[hw3];refine⟨?_,?_,?_⟩
  ·exact((ah.alloc (ah.refl (w.heap.size+5) _) _).held ((ah.alloc (ah.refl (w.heap.size+5) _) _).held (aw w _) ab) ab)
  ·refine(ah.alloc (ah.refl (w.heap.size+5) _) _).held ?_ ab;have:=aw (w.alloc (cL bC)) (.cells #[.int .i64 0] 3);rwa [ag]at this
  ·have:=aw ((w.alloc (cL bC)).alloc (.cells #[.int .i64 0] 3)) (.cells #[.int .i64 0] 41);rwa [ag,ag]at this
 have hx31:Xk.Ext w3 w1:=by rw[hw3];exact hx1
 have hl3:w3.heap.size=w.heap.size+3:=by rw[hw3,ag,ag,ag]
 have hl1:=hx31.size;have d0:=(hx31.block _ ab).trans hb3.1;have d1:=(hx31.block _ ab).trans hb3.2.1;have d2:=(hx31.block _ ab).trans hb3.2.2;have hx01:=Xk.Ext.trans hx03 hx31;clear hx1 hw3 hb3 hx03 hx31;have c1:w1.cell? ⟨w.heap.size+1,0,none⟩=some (.int .i64 0):=by simp[ak,d1]
 have c2:w1.cell? ⟨w.heap.size+1+1,0,none⟩=some (.int .i64 0):=by simp[ak,d2]
 have f1:=aD w1 (w.heap.size+1) 0 _ _ d1;have f2:=aD w1 (w.heap.size+1+1) 0 _ _ d2;go_wp2_with fail
 have hne1:b≠w.heap.size+1/\b≠w.heap.size+1+1:=by
  obtain⟨t0,ll,e1,-⟩:=hgood.head;have e1:l=t0::ll:=e1;have c:=(htk.2 0 t0 (by rw[e1];rfl)).2.1;constructor
  ·intro e;rw[e]at c;simp[ak,d1]at c
  ·intro e;rw[e]at c;simp[ak,d2]at c
 have hs4:(((w1.setCell ⟨w.heap.size+1,0,none⟩ (.int .i64 0)).setCell ⟨w.heap.size+1+1,0,none⟩ (.int .i64 0))).heap.size=w1.heap.size:=by rw[aM,aM]
 have hP4:oM w.heap.size bC 0 0 ((w1.setCell ⟨w.heap.size+1,0,none⟩ (.int .i64 0)).setCell ⟨w.heap.size+1+1,0,none⟩ (.int .i64 0)):=by
  have d1':=heap_setCell_same w1 (w.heap.size+1) 0 _ _ (.int .i64 0) d1;refine⟨?_,?_,?_⟩
  ·rw[an _ ⟨w.heap.size+1+1,0,none⟩ _ _ (by show ¬ _=_;first|(simp;done)|(simp;omega)),an _ ⟨w.heap.size+1,0,none⟩ _ _ (by show ¬ _=_;first|(simp;done)|(simp;omega))];exact d0
  ·rw[an _ ⟨w.heap.size+1+1,0,none⟩ _ _ (by show ¬ _=_;first|(simp;done)|(simp;omega))];exact d1'
  ·exact heap_setCell_same _ (w.heap.size+1+1) 0 _ _ (.int .i64 0) ((an w1 ⟨w.heap.size+1,0,none⟩ _ _ aI).trans d2)
 have hX4:Xk.Ext w ((w1.setCell ⟨w.heap.size+1,0,none⟩ (.int .i64 0)).setCell ⟨w.heap.size+1+1,0,none⟩ (.int .i64 0)):=(jc (jc hx01 (by show w.heap.size≤w.heap.size+1;omega) _) (by show w.heap.size≤w.heap.size+1+1;omega) _)
 have hT4:ud b off l ((w1.setCell ⟨w.heap.size+1,0,none⟩ (.int .i64 0)).setCell ⟨w.heap.size+1+1,0,none⟩ (.int .i64 0)):=by
  have hk:∀ {o:Nat} {v:Value},w1.cell? ⟨b,o,none⟩=some v->((w1.setCell ⟨w.heap.size+1,0,none⟩ (.int .i64 0)).setCell ⟨w.heap.size+1+1,0,none⟩ (.int .i64 0)).cell? ⟨b,o,none⟩=some v:=fun {o v} hc=>by
   rw[jz _ _ _ _ (λe=>hne1.2 (by cases e;rfl)),jz _ _ _ _ (λe=>hne1.1 (by cases e;rfl))];exact hc
  exact⟨by rw[hs4];exact htk.1,λj t hj=>⟨hk (htk.2 j t hj).1,hk (htk.2 j t hj).2.1,hk (htk.2 j t hj).2.2⟩⟩
 have hb1:=htk.1;clear c1 c2 f1 f2 d0 d1 d2 htk hx01 hne1;generalize ((w1.setCell ⟨w.heap.size+1,0,none⟩ (.int .i64 0)).setCell ⟨w.heap.size+1+1,0,none⟩ (.int .i64 0))=w4 at *
 rw[← hs4]at hb1 hl1 ⊢;clear hs4;have hxa:Xk.Ext w4 (w4.alloc (.cells #[.slice (some ⟨b,off,none⟩) l.length cap,.int .i64 0] 69)):=(al _ _).alloc (ai _) _;have hX5:=Xk.Ext.trans hX4 hxa;have hP5:oM w.heap.size bC 0 0 (w4.alloc (.cells #[.slice (some ⟨b,off,none⟩) l.length cap,.int .i64 0] 69)):=⟨(hxa.block _ ab).trans hP4.1,(hxa.block _ ab).trans hP4.2.1,(hxa.block _ ab).trans hP4.2.2⟩
 have hR5:Rd w4.heap.size ⟨l,0⟩ (w4.alloc (.cells #[.slice (some ⟨b,off,none⟩) l.length cap,.int .i64 0] 69)):=by
  obtain⟨tp,p,hc⟩:=HE.out;exact⟨b,off,cap,⟨aw w4 _,hb1,hcap,hT4.ext hxa,hgood,by have h:=ay _ _ hc;simp only at h;omega,⟨tp,p,Xk.bO hX5 hc⟩⟩⟩
 generalize w4.alloc (.cells #[.slice (some ⟨b,off,none⟩) l.length cap,.int .i64 0] 69)=w5 at *
 generalize hbr:w4.heap.size=br at *
 clear hxa hP4 hX4 hT4 hbr;have lbr:=hR5.lt;go_at_call 19;refine(uo br ⟨l,0⟩ w5 hR5).mono ?_;intro e w6 h
 cases hn:P12.cA ⟨l,0⟩with
 | error er=>
  rw[hn]at h;obtain⟨rfl,ht⟩:=h;have hP6:oM w.heap.size bC 0 0 w6:=⟨ht.held hP5.1 ab,ht.held hP5.2.1 ab,ht.held hP5.2.2 ab⟩;simp only[bq];go_wp2;refine leaves_cons (f:=18) (args := #[.pointer (some ⟨w.heap.size,0,none⟩),.pointer (some ⟨w.heap.size+1,0,none⟩),.pointer (some ⟨w.heap.size+1+1,0,none⟩)]) aI (by simp[go_sem]) ?_;refine(Gj w.heap.size bC rfl 0 0 er.1 er.2 w6 hP6).mono ?_;rintro e u' w7 ⟨rfl,rfl,hP7,hK7⟩;have hE:=HRES.out;rw[show P12.fx l = .error er by simp[P12.fx,hn,bind,cG]]at hE;subst hE;have hx7:Xk.Ext w w7:=zn (mv hX5 ht ab) hK7 (by have:=ht.size;have:=hX5.size;omega) aI
  simp[Leaves,settle];exact⟨_,jQ rfl rfl rfl rfl hP7,hx7,rfl⟩
 | ok p=>
  obtain⟨x,r6⟩:=p;rw[hn]at h;obtain⟨v,rfl,⟨ls,rfl,hs⟩,ht,hr6,hk6⟩:=h;have hX6:=mv hX5 ht ab;have q0:=ht.held hP5.1 ab;have q1:=ht.held hP5.2.1 ab;have q2:=ht.held hP5.2.2 ab;have hl37:=hs.length;have hl6:=ht.size;have HS:=aa hs;have HR6:=aa hr6;have HX6:=aa hX6;clear hs hr6 hP5 hR5 hX5 ht hX6;go_wp2_with ((refine bQ rfl 40 _ _ rfl (w.heap.size) _ _ 40 rfl rfl (q0) ((by simp[hl37])) ((by simp only[aP,hl37];kernel_rfl)) (HS.out.one) ?_;intro w7 hp7))
  have hge:w.heap.size≠6:=by
   obtain⟨tp,p,hc⟩:=HE.out;have h:=ay _ _ hc;simp only at h;omega
  have hR7:Rd br r6 w7:=HR6.out.Jw q0 hp7 ab hge;have hX7:Xk.Ext w w7:=nK HX6.out hp7 (ai _);have hs7:dv (λb=>w5.heap.size≤b) w7 x ls:=HS.out.bg (λb hb _=>hp7.rest b ab) (λb hb _=>hb);have hP7:oM w.heap.size ls 0 0 w7:=⟨hp7.blk,(hp7.rest _ ab).trans q1,(hp7.rest _ ab).trans q2⟩;clear q0 q1 q2 hp7 HR6 HX6 HS;go_wp2_with fail;go_at_call 20;refine(jm br r6 [59] w7 hR7).mono ?_;rintro e w8 ⟨rfl,ht8,hr8,hk8⟩;have hl7:=hR7.lt;have hP8:oM w.heap.size ls 0 0 w8:=⟨ht8.held hP7.1 ab,ht8.held hP7.2.1 ab,ht8.held hP7.2.2 ab⟩;have hX8:=mv hX7 ht8 ab
  have hs8:dv (λb=>w5.heap.size≤b) w8 x ls:=hs7.bg (λb hb hl=>ht8.block hl ab) (λb hb _=>hb);generalize hr8':(P12.has [59] r6).2=r8 at *
  clear hP7 hX7 hs7 hR7 ht8 hk8;go_wp2_with fail;go_at_call 21;refine(gI br r8 w8 hr8).mono ?_;rintro e w9 ⟨rfl,hx9⟩
  have hP9:oM w.heap.size ls 0 0 w9:=by
   have hw:=hX8.size;have:=(ae.1 hP8.2.2).1;exact⟨(hx9.block _ ab).trans hP8.1,(hx9.block _ ab).trans hP8.2.1,(hx9.block _ ab).trans hP8.2.2⟩
  have hX9:=Xk.Ext.trans hX8 hx9;have hs9:dv (λb=>w5.heap.size≤b) w9 x ls:=hs8.bg (λb hb hl=>hx9.block b hl) (λb hb _=>hb);have hr9:=hr8.ext hx9;have hlp:=(ae.1 hP9.2.2).1
  have hPT:P12.fx l=if(P12.nxt r8).kind≠0 then P12.bU 120 r8 else .ok x:=by
   simp only[P12.fx,hn,bind,cG,hr8',pure,dz]
  clear hP8 hX8 hs8 hr8 hx9;by_cases hk:(P12.nxt r8).kind=0
  ·have hkb:((P12.nxt r8).kind !=0)=false:=by simpa using hk
   rw[if_neg (by simpa using hk)]at hPT;have hE:=HRES.out;rw[hPT]at hE;subst hE;have hb9:=hP9.1;have HP9:=aa hP9;have HS9:=aa hs9;have HX9:=aa hX9;have lw9:=hX9.size;clear hP9 hs9 hX9 hr9
   go_wp2_with (first|(refine bJ rfl 40 _ rfl (w.heap.size) _ 40 (0,0) _ rfl (hb9) aB rfl ((by simp only[aP,hl37];kernel_rfl)) ?_)|((refine bQ rfl 40 _ _ rfl (w.heap.size) _ _ 40 rfl rfl (hb9) (rfl) ((by simp only[aP,hl37];kernel_rfl)) (HS9.out.one) ?_;intro w10 hp10);have d1:=(hp10.rest _ (show w.heap.size+1≠w.heap.size by omega)).trans HP9.out.2.1;have d2:=(hp10.rest _ (show w.heap.size+2≠w.heap.size by omega)).trans HP9.out.2.2;have c1:w10.cell? ⟨w.heap.size+1,0,none⟩=some (.int .i64 0):=(by simp[ak,d1]);have c2:w10.cell? ⟨w.heap.size+1+1,0,none⟩=some (.int .i64 0):=(by simp[ak,d2]);have f1:=aD w10 (w.heap.size+1) 0 _ _ d1;have f2:=aD w10 (w.heap.size+1+1) 0 _ _ d2))
   have hP11:oM w.heap.size ls 0 0 ((w10.setCell ⟨w.heap.size+1,0,none⟩ (.int .i64 0)).setCell ⟨w.heap.size+1+1,0,none⟩ (.int .i64 0)):=by
    refine⟨?_,?_,?_⟩
    ·rw[an _ ⟨w.heap.size+1+1,0,none⟩ _ _ (by show ¬ _=_;first|(simp;done)|(simp;omega)),an _ ⟨w.heap.size+1,0,none⟩ _ _ (by show ¬ _=_;first|(simp;done)|(simp;omega))];exact hp10.blk
    ·rw[an _ ⟨w.heap.size+1+1,0,none⟩ _ _ (by show ¬ _=_;first|(simp;done)|(simp;omega))];exact heap_setCell_same _ _ _ _ _ (.int .i64 0) d1
    ·exact heap_setCell_same _ (w.heap.size+1+1) 0 _ _ (.int .i64 0) ((an w10 ⟨w.heap.size+1,0,none⟩ _ _ (by show ¬ _=_;first|(simp;done)|(simp;omega))).trans d2)
   have hX11:Xk.Ext w ((w10.setCell ⟨w.heap.size+1,0,none⟩ (.int .i64 0)).setCell ⟨w.heap.size+1+1,0,none⟩ (.int .i64 0)):=(jc (jc (nK HX9.out hp10 (ai _)) (by show w.heap.size≤w.heap.size+1;omega) _) (by show w.heap.size≤w.heap.size+1+1;omega) _);refine leaves_cons (f:=18) (args := #[.pointer (some ⟨w.heap.size,0,none⟩),.pointer (some ⟨w.heap.size+1,0,none⟩),.pointer (some ⟨w.heap.size+1+1,0,none⟩)]) aI (by simp[go_sem]) ?_;refine(idle w.heap.size _).mono ?_;rintro e u' w11 ⟨rfl,rfl,rfl⟩
   have hs11:dv (λb=>w.heap.size≤b) ((w10.setCell ⟨w.heap.size+1,0,none⟩ (.int .i64 0)).setCell ⟨w.heap.size+1+1,0,none⟩ (.int .i64 0)) x ls:=HS9.out.bg (λb hb _=>by
     rw[an _ ⟨w.heap.size+1+1,0,none⟩ _ _ (by show ¬ _=_;simp;omega),an _ ⟨w.heap.size+1,0,none⟩ _ _ (by show ¬ _=_;simp;omega)];exact hp10.rest b ab) (λb hb _=>by omega)
   simp only[Leaves,settle];exact⟨_,jQ hl37 rfl rfl rfl hP11,hX11,ls,rfl,hs11⟩
  ·have hkb:((P12.nxt r8).kind !=0)=true:=by simpa using hk
   rw[if_pos (by simpa using hk)]at hPT;have hE:=HRES.out;rw[hPT]at hE;subst hE;go_wp2_with fail;go_at_call 22;refine(eC br r8 120 w9 hr9).mono ?_;rintro e w10 ⟨rfl,hx10⟩;have hP10:oM w.heap.size ls 0 0 w10:=⟨(hx10.block _ ab).trans hP9.1,(hx10.block _ ab).trans hP9.2.1,(hx10.block _ ab).trans hP9.2.2⟩;simp only[bq];go_wp2;refine leaves_cons (f:=18) (args := #[.pointer (some ⟨w.heap.size,0,none⟩),.pointer (some ⟨w.heap.size+1,0,none⟩),.pointer (some ⟨w.heap.size+1+1,0,none⟩)]) aI (by simp[go_sem]) ?_;refine(Gj w.heap.size ls hl37 0 0 (P12.nxt r8).pos 120 w10 hP10).mono ?_
   rintro e u' w11 ⟨rfl,rfl,hP11,hK11⟩;have hx11:Xk.Ext w w11:=zn (Xk.Ext.trans hX9 hx10) hK11 (by have:=hx10.size;omega) aI;simp[Leaves,settle];exact⟨_,jQ rfl rfl rfl rfl hP11,hx11,rfl⟩
theorem Dg(s:ByteArray)(a:Nat)(k:Int)(w:World)(h:P11.eP s.data.toList = .inr (a,k)):Calls af 11 #[.string s] w (jM w (.error (a,k))):=by
 have HT:=aa λW=>Ag s a k h W
 have hk0:(k !=0)=true:=by
  have:=P11.tv h;simpa using this
 clear h;have hbz:∀W:World,(cR 40 #[]).run af W = .ok (.agg bC.toArray) W:=λW=>by kernel_rfl
 go_enter_defers Tryz.func11,Tryz.ntmps11;go_wp2_with fail;refine(HT.out _).mono ?_;rintro e w1 ⟨rfl,hx1⟩;obtain⟨w3,hw3⟩:∃W,W=((w.alloc (cL bC)).alloc (.cells #[.int .i64 0] 3)).alloc (.cells #[.int .i64 0] 41):=⟨_,rfl⟩;have hx03:Xk.Ext w w3:=by rw[hw3];exact Xk.xt
 have hb3:oM w.heap.size bC 0 0 w3:=by
  rw[hw3];refine⟨?_,?_,?_⟩
  ·exact((ah.alloc (ah.refl (w.heap.size+5) _) _).held ((ah.alloc (ah.refl (w.heap.size+5) _) _).held (aw w _) ab) ab)
  ·refine(ah.alloc (ah.refl (w.heap.size+5) _) _).held ?_ ab;have:=aw (w.alloc (cL bC)) (.cells #[.int .i64 0] 3);rwa [ag]at this
  ·have:=aw ((w.alloc (cL bC)).alloc (.cells #[.int .i64 0] 3)) (.cells #[.int .i64 0] 41);rwa [ag,ag]at this
 have hx31:Xk.Ext w3 w1:=by rw[hw3];exact hx1
 have hl3:w3.heap.size=w.heap.size+3:=by rw[hw3,ag,ag,ag]
 have hl1:=hx31.size;have d0:=(hx31.block _ ab).trans hb3.1;have d1:=(hx31.block _ ab).trans hb3.2.1;have d2:=(hx31.block _ ab).trans hb3.2.2;have hx01:=Xk.Ext.trans hx03 hx31;clear hx1 hw3 hb3 hx03 hx31;have c1:w1.cell? ⟨w.heap.size+1,0,none⟩=some (.int .i64 0):=by simp[ak,d1]
 have c2:w1.cell? ⟨w.heap.size+1+1,0,none⟩=some (.int .i64 0):=by simp[ak,d2]
 have f1:=aD w1 (w.heap.size+1) 0 _ _ d1;have f2:=aD w1 (w.heap.size+1+1) 0 _ _ d2;go_upto_region 3 with fail
 have hP4:oM w.heap.size bC a k ((w1.setCell ⟨w.heap.size+1,0,none⟩ (.int .i64 a)).setCell ⟨w.heap.size+1+1,0,none⟩ (.int .i64 k)):=by
  have d1':=heap_setCell_same w1 (w.heap.size+1) 0 _ _ (.int .i64 a) d1;refine⟨?_,?_,?_⟩
  ·rw[an _ ⟨w.heap.size+1+1,0,none⟩ _ _ (by show ¬ _=_;first|(simp;done)|(simp;omega)),an _ ⟨w.heap.size+1,0,none⟩ _ _ (by show ¬ _=_;first|(simp;done)|(simp;omega))];exact d0
  ·rw[an _ ⟨w.heap.size+1+1,0,none⟩ _ _ (by show ¬ _=_;first|(simp;done)|(simp;omega))];exact d1'
  ·exact heap_setCell_same _ (w.heap.size+1+1) 0 _ _ (.int .i64 k) ((an w1 ⟨w.heap.size+1,0,none⟩ _ _ (by show ¬ _=_;first|(simp;done)|(simp;omega))).trans d2)
 have hX4:Xk.Ext w ((w1.setCell ⟨w.heap.size+1,0,none⟩ (.int .i64 a)).setCell ⟨w.heap.size+1+1,0,none⟩ (.int .i64 k)):=(jc (jc hx01 (by show w.heap.size≤w.heap.size+1;omega) _) (by show w.heap.size≤w.heap.size+1+1;omega) _);clear c1 c2 f1 f2 d0 d1 d2 hx01;generalize ((w1.setCell ⟨w.heap.size+1,0,none⟩ (.int .i64 a)).setCell ⟨w.heap.size+1+1,0,none⟩ (.int .i64 k))=w4 at *
 obtain⟨q0,q1,q2⟩:=hP4;have lq:=(ae.1 q2).1;obtain⟨ks,hks⟩:∃ks:Xe.gT,ks = [(w.heap.size,λo=>o=some (cL bC)),(w.heap.size+1,λo=>o=some (.cells #[.int .i64 a] 3))]:=⟨_,rfl⟩;have HKS:=aa hks
 have hkb:∀k∈ks,k.1=w.heap.size∨k.1=w.heap.size+1:=λk hk=>by
  rw[hks]at hk;simp only[aJ,aF,or_false]at hk;rcases hk with rfl|rfl
  ·exact .inl rfl
  ·exact .inr rfl
 have hq2:∀W,Xe.ES ks w4.drew W->W.heap[w.heap.size+2]?=some (.cells #[.int .i64 k] 41):=λW hx=>(hx.block (w:=w4.drew) (by simp;omega) (λk hk e=>by rcases hkb k hk with h|h<;>omega)).trans q2
 have hq1:∀W,Xe.ES ks w4.drew W->W.heap[w.heap.size+1]?=some (.cells #[.int .i64 a] 3):=λW hx=>by
  rcases hx.2.2.2.2 (w.heap.size+1) (by simp;omega)with e|⟨k,hk,e1,e2⟩
  ·exact e.trans q1
  ·rw[hks]at hk;simp only[aJ,aF,or_false]at hk;rcases hk with rfl|rfl
   ·simp at e1
   ·exact e2
 have hq0:∀W,Xe.ES ks w4.drew W->W.heap[w.heap.size]?=some (cL bC):=λW hx=>by
  rcases hx.2.2.2.2 w.heap.size (by simp;omega)with e|⟨k,hk,e1,e2⟩
  ·exact e.trans q0
  ·rw[hks]at hk;simp only[aJ,aF,or_false]at hk;rcases hk with rfl|rfl
   ·exact e2
   ·simp at e1
 have HF:Hid (∀W,Xe.ES ks w4.drew W->W.cell? ⟨w.heap.size+1,0,none⟩=some (.int .i64 a)/\W.cell? ⟨w.heap.size+1+1,0,none⟩=some (.int .i64 k)/\w.heap.size+1+1<W.heap.size):=aa λW hx=>by
  have h1:=hq1 W hx;have h2:=hq2 W hx;exact⟨by simp[ak,h1],by simp[ak,h2],(ae.1 h2).1⟩
 have HQ0:=aa hq0;have HQ1:=aa hq1;have HQ2:=aa hq2;have HX4:=aa hX4;clear hks q0 q1 q2 hq0 hq1 hq2 hX4
 refine Xe.bm (E:=Xe.ES ks) (Xe.bS _) 5 (λ_=>none) (λ_ _ h=>by cases h) (λ_ _ _ _ h=>by cases h) [(3,Xe.eD w.heap.size (cL bC)),(4,Xe.eD (w.heap.size+1) (.cells #[.int .i64 a] 3))] au au (Xe.jD (by
   intro y hy;simp only[aJ,aF,or_false]at hy;rcases hy with rfl|rfl
   ·exact Xe.eD.es λk hk e=>by
     rw[HKS.out]at hk;simp only[aJ,aF,or_false]at hk;rcases hk with rfl|rfl
     ·rfl
     ·simp at e
   ·exact Xe.eD.es λk hk e=>by
     rw[HKS.out]at hk;simp only[aJ,aF,or_false]at hk;rcases hk with rfl|rfl
     ·simp at e
     ·rfl)) ?_
 simp only[List.take_succ_cons,List.take_zero,List.drop_succ_cons,List.drop_zero];(refine Xs.s3 HF.out ?_)
 (refine Xs.s3 HF.out ?_)
 (refine Xs.s3 HF.out ?_)
 refine Xe.bc (Xe.bS _) az az (λW hx hp=>?_) (λy K hK=>?_)
 ·exact Xe.oe _ _ _ rfl w.heap.size bC.toArray bC.toArray _ rfl rfl (HQ0.out W hx) rfl au au (by rw[HKS.out];exact cy ..)
 go_simp;refine hK _ ?_;clear hK K;refine Xe.bc (Xe.bS _) az az (λW hx hp=>?_) (λy2 K hK=>?_)
 ·have hc:=HQ1.out W hx;have c1:W.cell? ⟨w.heap.size+1,0,none⟩=some (.int .i64 a):=by simp[ak,hc]
  have f1:=aD W (w.heap.size+1) 0 _ _ hc;have l1:=(ae.1 hc).1;go_simp;exact Xe.Ey hc (by rw[HKS.out];simp)
 go_simp;refine hK _ ?_;clear hK K;refine Xe.bD (λW hx hp hg=>?_);have r0:=HQ0.out W hx;have r1:=HQ1.out W hx;have r2:=HQ2.out W hx;have hXW:Xk.Ext w W:=⟨hx.1.trans HX4.out.os,hx.2.1.trans HX4.out.tape,hx.2.2.1.trans HX4.out.output,by have:=hx.2.2.2.1;have:=HX4.out.size;simp at *;omega,λb hb=>(hx.block (w:=w4.drew) (by have:=HX4.out.size;simp;omega) (λk hk e=>by rcases hkb k hk with h|h<;>omega)).trans (HX4.out.block b hb)⟩;have c2:W.cell? ⟨w.heap.size+1+1,0,none⟩=some (.int .i64 k):=by simp[ak,r2]
 have f2:=aD W (w.heap.size+1+1) 0 _ _ r2;have l2:w.heap.size+1+1<W.heap.size:=(ae.1 r2).1;have HR0:=aa r0;have HR1:=aa r1;have HR2:=aa r2;have HXW:=aa hXW;clear r0 r1 r2 hx hXW hg hp;go_wp2_with fail
 have hP:oM w.heap.size bC a k (W.setCell ⟨w.heap.size+1+1,0,none⟩ (.int .i64 k)):=
  ⟨(an W ⟨w.heap.size+1+1,0,none⟩ w.heap.size _ (by show ¬ _=_;first|(simp;done)|(simp;omega))).trans HR0.out,(an W ⟨w.heap.size+1+1,0,none⟩ (w.heap.size+1) _ (by show ¬ _=_;first|(simp;done)|(simp;omega))).trans HR1.out,heap_setCell_same W (w.heap.size+1+1) 0 _ _ (.int .i64 k) HR2.out⟩
 exact⟨_,jQ rfl rfl rfl rfl hP,jc HXW.out (by show w.heap.size≤w.heap.size+1+1;omega) _,rfl⟩
theorem qN(s:ByteArray)(w:World)(hE:zV w):Calls af 11 #[.string s] w (jM w (P12.parse s.data.toList)):=by
 unfold P12.parse;rcases hl:P11.eP s.data.toList with l|⟨a,k⟩
 ·exact EY s l w hE hl
 ·exact Dg s a k w hl
end Go.Proofs.YtkpmclddjkebeaaGreatDoor
