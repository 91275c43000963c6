/- What the claim's proof leans on, part 18: walks of functions and plain laws. -/
import Derived.Test.YtkpmclddjkebeaaGreatDoorRQ
set_option linter.unusedSimpArgs false
set_option linter.unusedVariables false
set_option maxRecDepth 100000
set_option maxHeartbeats 80000000
open Array renaming getElem?_eq_some_iff→ae
open Bool renaming and_eq_true→aT,and_true→mi,false_eq_true→aS,false_or→im,or_false→mh,or_true→pJ
open Except renaming bind→cG
open Exists renaming intro→aU
open Go.Act renaming put→CD
open Go.Instr renaming build→cR
open Go.Lib renaming hid→aa
open Go.Proofs.Tryz renaming f24→jO,prog→af,underlying25→ku,underlying35→aA,underlying40→aB,underlying88→fJ
open Go.Result renaming andThen_ok→oZ
open Go.RowKit.Below renaming refl→al
open Go.Value renaming bool→bT,int→lK,slice→gU
open Go.World renaming block_lt_of_cell?→ay,cell?→ak,cell?_of_block→kf,size_alloc→ag,size_drew→bM,size_setCell→aM
open Go renaming bodyPost_ret→ar,frozen_of_row→aD,heap_setCell_other→an
open List renaming drop_succ_cons→aL,drop_zero→bd,length_append→aN,length_drop→ez,length_singleton→bf,mem_cons→aJ,not_mem_nil→aF,size_toArray→aP,take_succ_cons→aG,take_zero→aY
open Nat renaming le_refl→ai,le_trans→bI,lt_of_lt_of_le→aK,lt_or_ge→jY,zero_le→gM
open Or renaming inl→kr
namespace Go.Proofs.YtkpmclddjkebeaaGreatDoor
open Go.RowKit
open _root_.P12 (PS Gd okB cH isK cf Nx bn bE bZ bR ew dA de cB Sk inS Rw dF gJ)
theorem ka{br:Nat}{s:PS}{w:World}(h:Ps br s w):eB br w≤8193:=by
 cases s with
 | error e=>rw[h.tA];omega
 | ok r=>
  rw[h.len];obtain⟨b,cap,L,i,d,a,e,h,h1,-⟩:=h;have:=h.len;rw[h1,ez];omega
abbrev nD:P12.R->Except P12.Er (List P12.T×P12.R):=λr=>P12.eJ 16 P12.named P12.name r.l.length 0 r
theorem dt.nt{α:Type}{B:Nat}{e:TypeId}{sz:Nat}{R:(Nat->Prop)->World->α->List Value->Prop}{xs:List α}{v:Value}{w:World}(h:dt B e sz R xs v w)(hR:k7 R)(hs:0<sz)(h0:xs = []->v=aj):aE (λb=>B≤b) w sz (R (λb=>B≤b) w) xs v:=by
 cases xs with
 | nil=>exact .inl ⟨rfl,h0 rfl⟩
 | cons x xs=>exact h.slc hR aI hs
theorem dt.form{α:Type}{B:Nat}{e:TypeId}{sz:Nat}{R:(Nat->Prop)->World->α->List Value->Prop}{xs:List α}{v:Value}{w:World}(h:dt B e sz R xs v w):∃q c,v = .slice q xs.length c:=by
 obtain⟨us,ho,-⟩:=h;rcases ho.2 with⟨rfl,h0⟩|⟨g,cap,cur,rfl,-⟩
 ·exact⟨none,0,by rw[h0]⟩
 ·exact⟨_,_,rfl⟩
theorem zg{w w':World}{o:Obj}{k:Option Nat}(h:(w.alloc o).grownBy w' k):w.grownBy w' k:=
 ⟨h.os,h.tape,h.output,bI (by rw[ag];omega) h.size,λb hb hk=>(h.block b (by rw[ag];omega) hk).trans ((ah.alloc (ah.refl w.heap.size w) o).block hb ab)⟩
theorem Ps.grown{br:Nat}{s:PS}{w w':World}{k:Option Nat}(h:Ps br s w)(hg:w.grownBy w' k)(hk:∀b,k=some b->br<b):Ps br s w':=by
 obtain⟨b,cap,L,i,d,a,e,h,hs⟩:=h;have hl:=h.lo;have hb:∀x,x≤br->x<w.heap.size->w'.heap[x]?=w.heap[x]?:=λx hx hlt=>hg.block x hlt (λe=>by have:=hk x e.symm;omega)
 have hc:∀ {c o:Nat} {v:Value},c≤br->w.cell? ⟨c,o,none⟩=some v->w'.cell? ⟨c,o,none⟩=some v:=fun {c o v} hle hc=>by
  rw[kf (hb c hle (ay _ _ hc))];exact hc
 refine⟨b,cap,L,i,d,a,e,⟨(hb br (ai _) (ae.1 h.blk).1).trans h.blk,h.lo,h.cap,⟨aK h.toks.1 hg.size,λj t hj=>?_⟩,h.hi,h.len⟩,hs⟩;obtain⟨h1,h2,h3⟩:=h.toks.2 j t hj;exact⟨hc ab h1,hc ab h2,hc ab h3⟩
theorem P12.kB{most n:Nat}{could:P12.R->Bool}{r:P12.R}(h:could r=true):P12.ew (n+1) most (.ok r)=dF most n could (.ok r):=by
 unfold P12.ew dF;dsimp only;rw[h,mi];simp only[decide_eq_true_eq]
theorem P12.nx{most n:Nat}{could:P12.R->Bool}{r:P12.R}(h:could r=false):(.ok r:PS)=dF most n could (.ok r):=by
 unfold dF;dsimp only;rw[h,Bool.and_false,if_neg aI]
theorem ss(br:Nat)(s:PS)(w:World)(hr:Ps br s w):Calls af 158 #[rp br] w (Cm br w s (λv x w'=>aE (λb=>w.heap.size≤b) w' 1 lP x v) (gJ nD)):=by
 have HR:=aa hr;have lr:=hr.lt;obtain⟨i0,hi,hz0,hz1,hz2⟩:=cP Tryz.Cg;have Hi:=aa hi;have Hz0:=aa hz0;have Hz1:=aa hz1;have Hz2:=aa hz2;clear hi hz0 hz1 hz2;have hl0:=ka hr;clear hr;go_enter Tryz.func158,Tryz.ntmps158;go_wp2;go_loopw [3] (λv wr=>∃ (xs:List P12.T) (s':PS),Ps br s' wr/\Rw nD 16 P12.named P12.name s s' xs/\ah br w wr/\dt w.heap.size 9 1 (λ_ _=>lP) xs v wr/\(xs = []->v=aj)/\xs.length+eB br wr≤8193) (λ_ wr=>eB br wr)
 case atStart=>exact⟨[],s,HR.out,Rw.start _ _ _ _,ah.refl _ _,dt.nil,λ_=>rfl,by simpa using hl0⟩
 case round=>
  obtain⟨xs,s',hps,hrw,ht,hg,hnil,hxl⟩:=hrel;have HPS:=aa hps;have HRW:=aa hrw;have HT:=aa ht;have HG:=aa hg;have HNL:=aa hnil;have hsz:=ht.size;clear hps hrw ht hg hnil HR hl0;go_wp2_with fail;refine(eK br s' _ HPS.out).mono ?_;rintro e w2 ⟨rfl,rfl⟩
  cases s' with
  | error e=>
   have hN:=Rw.err HRW.out;have hS:=HRW.out.1;have HL:=aa (HG.out.nt iK aq HNL.out);have HN:=aa hN;have HS:=aa hS;clear hN hS;go_wp2_with fail;refine(dO br (.error e) [41] aq _ (HPS.out)).mono ?_;rintro e w9 ⟨rfl,ht9,hp9⟩;go_wp2_with fail;go_ret;exact⟨_,_,_,rfl,HL.out.bg (λb hb hl=>ht9.block hl ab) (λb hb _=>hb) (λ_ _ h=>h),ah.trans (HT.out) ht9,hp9,P12.yE HN.out,HS.out.trans (P12.du _ _)⟩
  | ok r=>
   obtain⟨q,cq,rfl⟩:=HG.out.form;have hpl:=HPS.out.gd.good.pos;have HI:=aa λW (hx:Xk.Ext wr W)=>mr br (.ok r) W (HPS.out.ext hx);have HGD:=aa HPS.out.gd;obtain⟨b,cap,L,i,d,a,e,h,hs⟩:=HPS.out;obtain⟨l0,c0,c1,c2,c3,c4⟩:=h.cells;obtain⟨t,ht,lb,t0,t1,t2⟩:=h.tok;have hi:=h.hi;have hlen:=h.len;have hib:(i:Int)<(L.length:Int):=ab;have hnt:=hs.tok ht;have HLN:=aa HPS.out.len;clear h hs ht;have hI:∀b,bR (.ok r)=b->∀W,Xk.Ext wr W->Calls af 159 #[rp br] W λe w'=>e = .returned (.bool b)/\Xk.Ext W w':=λb e W hx=>e▸HI.out W hx;have h3:(t.kind=1/\t.text.length≤24)∨(t.kind=1/\¬ t.text.length≤24)∨t.kind≠1:=ab
   rcases h3 with⟨hk,hl⟩|⟨hk,hl⟩|hk
   case' _=>
    have hI:=hI true (by simp[bR,hnt,hk]);have hlb:(t.text.length:Int)≤24:=ab;have hnm:P12.named r=true:=by simp[P12.named,hnt,hk,hl]
    go_wp2_with fail;refine Xk.reg 17 (Xk.w1 hI λp=>?_);go_wp2_with fail;refine(ki br (.ok r) (xs.length+1) 16 _ (HPS.out.ext Xk.xt)).mono ?_;rintro e w3 ⟨rfl,ht3,hp3⟩;rw[P12.kB hnm]at hp3;have hT3:=ah.trans (tu trivial:ah br wr _) ht3;clear ht3;go_wp2_with fail
   rotate_left 1
   case' _=>
    have hI:=hI true (by simp[bR,hnt,hk]);have hlb:¬ (t.text.length:Int)≤24:=ab;have hnm:P12.named r=false:=by simp[P12.named,hnt,hk,hl]
   rotate_left 1
   case' _=>
    have hI:=hI false (by simp[bR,hnt,hk]);have hnm:P12.named r=false:=by simp[P12.named,hnt,hk]
   rotate_right 1
   iterate 2
    case' _=>
     go_wp2_with fail;refine Xk.reg 17 (Xk.w1 hI λp=>?_);go_wp2_with fail;have hp3:=HPS.out.ext (show Xk.Ext wr (Xk.exw wr p)from Xk.xt);rw[P12.nx (most:=16) (n:=xs.length) hnm]at hp3;have hT3:ah br wr (Xk.exw wr p):=tu trivial;generalize Xk.exw wr p=w3 at hp3 hT3 ⊢
    rotate_left 1
   all_goals
    refine(iE br _ _ hp3).mono ?_;rintro e w4 ⟨rfl,ht4,hp4⟩;have hst:=Rw.step HRW.out HGD.out (P12.gR _) (P12.fM _);generalize bZ (dF 16 xs.length P12.named (.ok r))=q4 at hp4 hst ⊢;obtain⟨x,s4⟩:=q4;dsimp only at hp4 hst ⊢;clear HI hI hnt hk hnm c0 c1 c2 c3 c4 t0 t1 t2;have hlt3:=HG.out.lt;have hs3:=hT3.size;have hT4:=ah.trans hT3 ht4;have hG4:=HG.out.turn iK hT4 ab;have hT04:=ah.trans HT.out hT4;have hs4:=hT04.size;obtain⟨us,ho,hus,huz,hur⟩:=hG4;have hlt:=ho.lt;have HU:=aa (show(λ_ _=>lP) (λb=>w.heap.size≤b/\¬ (gU q xs.length cq).ownBlock=some b) w4 x [bs x]from rfl);have HP4:=aa hp4
    have HST:=aa hst;clear HG HT HRW HPS hst hp4 ht4 hT4 hT3 hp3;go_wp2_with (at_builtin;refine Xo.bY w.heap.size rfl _ _ 29 rfl 9 i0 _ 1 16 Tryz.underlying29 Hi.out Hz0.out Hz1.out Hz2.out rfl aq (.slice q xs.length cq) xs.length us.flatten rfl (fC ho (ah.alloc (ah.refl br w4) _) ab) w4.heap.size 0 1 1 [bs x] rfl aq rfl (ey w4 _ _ rfl) (dS au) ab (by rw[ag];omega) ?_;intro v' w5 ho' hg' hk');have hT5:ah br w w5:=Kept.turn (Kept.grown (B:=w.heap.size) (ks := [br]) (Kept.bB (ah.alloc hT04 _) aI) hg' (λb hb=>(hlt b hb).1))
    have hG5:=dt.push (R:=(λ_ _=>lP)) (e:=9) iK hus huz hur (zg hg') ho' (λb hb=>(hk' b hb).imp id (λh=>by rw[ag]at h;omega)) rfl HU.out;have hp5:=(HP4.out.ext (xal w4 _)).grown hg' (λb hb=>by have:=(hlt b hb).1;omega);have hs5:=hT5.size;clear hg' ho' hk' HP4 HU ho hur;refine(eW br _ [44] aq _ hp5).mono ?_;rintro e w6 ⟨rfl,ht6,hp6⟩;have hT6:=ah.trans hT5 ht6;have hG6:=hG5.turn iK ht6 ab
    cases hcm:(bn [44] s4).1
    case true=>
     obtain⟨hRW,hlt6⟩:=HST.out.2 hcm
     have hpl6:eB br w6<eB br wr:=by
      rw[HLN.out];generalize bn [44] s4=q6 at hp6 hlt6;obtain⟨b6,s6⟩:=q6
      cases s6 with
      | error e=>rw[hp6.tA];omega
      | ok r6=>rw[hp6.len];exact hlt6 r6 rfl
     go_wp2;go_roundw
     case rel=>exact⟨xs ++ [x],_,hp6,hRW,hT6,hG6,λh=>by simp at h,by rw[aN,bf];omega⟩
     case measure=>exact hpl6
    have hs2:=(P12.cp hcm).1;rw[hs2]at hp6;obtain⟨hN,hS⟩:=HST.out.1 hcm;have hL:=hG6.nt iK aq (λh=>by simp at h);clear hs2 hcm HST hG5 hG6;have HL:=aa hL;have HN:=aa hN;have HS:=aa hS;clear hN hS;go_wp2_with fail;refine(dO br s4 [41] aq _ (hp6)).mono ?_;rintro e w9 ⟨rfl,ht9,hp9⟩;go_wp2_with fail;go_ret;exact⟨_,_,_,rfl,HL.out.bg (λb hb hl=>ht9.block hl ab) (λb hb _=>hb) (λ_ _ h=>h),ah.trans (hT6) ht9,hp9,P12.yE HN.out,HS.out.trans (P12.du _ _)⟩
open _root_.P12 (PS Gd okB cH isK cf Nx bn bE bZ bR ew dA de cB Sk inS Rw dF gJ)
theorem IK(br:Nat)(s:PS)(w:World)(hr:Ps br s w):Calls af 161 #[rp br,.int .i64 16] w (Cm br w s (λv x w'=>aE (λb=>w.heap.size≤b) w' 10 (dY (λb=>w.heap.size≤b) w') x v) (P12.exprs P12.expr)):=by
 have HR:=aa hr;have lr:=hr.lt;obtain⟨i0,hi,hz0,hz1,hz2⟩:=cP Tryz.jH;have Hi:=aa hi;have Hz0:=aa hz0;have Hz1:=aa hz1;have Hz2:=aa hz2;clear hi hz0 hz1 hz2;have hl0:=ka hr;clear hr;go_enter Tryz.func161,Tryz.ntmps161;go_wp2;go_loopw [5] (λv wr=>∃ (xs:List P12.E) (s':PS),Ps br s' wr/\Rw (P12.exprs P12.expr) 16 P12.dV P12.expr s s' xs/\ah br w wr/\dt w.heap.size 35 10 dY xs v wr/\(xs = []->v=aj)/\xs.length+eB br wr≤8193) (λ_ wr=>eB br wr)
 case atStart=>exact⟨[],s,HR.out,Rw.start _ _ _ _,ah.refl _ _,dt.nil,λ_=>rfl,by simpa using hl0⟩
 case round=>
  obtain⟨xs,s',hps,hrw,ht,hg,hnil,hxl⟩:=hrel;have HPS:=aa hps;have HRW:=aa hrw;have HT:=aa ht;have HG:=aa hg;have HNL:=aa hnil;have hsz:=ht.size;clear hps hrw ht hg hnil HR hl0;go_wp2_with fail;refine(eK br s' _ HPS.out).mono ?_;rintro e w2 ⟨rfl,rfl⟩
  cases s' with
  | error e=>
   have hN:=Rw.err HRW.out;have hS:=HRW.out.1;have hG:=HG.out.nt bj aq HNL.out;go_wp2_with fail;go_ret;exact⟨_,_,_,rfl,hG,HT.out,HPS.out,hN,hS⟩
  | ok r=>
   obtain⟨q,cq,rfl⟩:=HG.out.form;have HGD:=aa HPS.out.gd;have hpl:=HPS.out.gd.good.pos;have HLN:=aa HPS.out.len;go_wp2_with fail;refine(qY br (.ok r) (xs.length+1) 16 _ (HPS.out.ext Xk.xt)).mono ?_;rintro e w3 ⟨rfl,ht3,hp3⟩;have hT3:=ah.trans (tu trivial:ah br wr _) ht3;clear ht3;go_wp2_with fail;refine(kX br _ _ hp3).mono ?_;rintro e w4 ⟨v,x,s4,rfl,⟨l,rfl,he⟩,ht4,hp4,hn,hsk⟩;obtain⟨kd,op,vk,vi,vs,tb,nm,pp,pm,pc,rfl⟩:=he.form;have hst:=P12.oE (P12.pz HGD.out) hn hsk;replace hst:=Rw.step HRW.out HGD.out hst.1 hst.2
   have hlt3:=HG.out.lt;have hs3:=hT3.size;have hT4:=ah.trans hT3 ht4;have hG4:=HG.out.turn bj hT4 ab;have hT04:=ah.trans HT.out hT4;have hs4:=hT04.size;obtain⟨us,ho,hus,huz,hur⟩:=hG4;have hlt:=ho.lt;have HU:=aa (show dY (λb=>w.heap.size≤b/\¬ (gU q xs.length cq).ownBlock=some b) w4 x (ao kd op vk vi vs tb nm (.slice pp pm pc))from(he.mono (λb hb _=>⟨by omega,λe=>by have:=(hlt3 b e).2;omega⟩)));have HP4:=aa hp4;have HST:=aa hst;clear HG HT HRW HPS hst hp4 ht4 hT4 hT3 hp3
   go_wp2_with (at_builtin;refine Xo.bY w.heap.size rfl _ _ 25 rfl 35 i0 _ 10 120 ku Hi.out Hz0.out Hz1.out Hz2.out rfl aq (.slice q xs.length cq) xs.length us.flatten rfl (fC ho (ah.alloc (ah.refl br w4) _) ab) w4.heap.size 0 1 1 (ao kd op vk vi vs tb nm (.slice pp pm pc)) rfl aq rfl (ey w4 _ _ rfl) (dS au) ab (by rw[ag];omega) ?_;intro v' w5 ho' hg' hk');have hT5:ah br w w5:=Kept.turn (Kept.grown (B:=w.heap.size) (ks := [br]) (Kept.bB (ah.alloc hT04 _) aI) hg' (λb hb=>(hlt b hb).1))
   have hG5:=dt.push (R:=dY) (e:=35) bj hus huz hur (zg hg') ho' (λb hb=>(hk' b hb).imp id (λh=>by rw[ag]at h;omega)) rfl HU.out;have hp5:=(HP4.out.ext (xal w4 _)).grown hg' (λb hb=>by have:=(hlt b hb).1;omega);have hs5:=hT5.size;clear hg' ho' hk' HP4 HU ho hur;refine(eW br _ [44] aq _ hp5).mono ?_;rintro e w6 ⟨rfl,ht6,hp6⟩;have hT6:=ah.trans hT5 ht6;have hG6:=hG5.turn bj ht6 ab
   cases hcm:(bn [44] s4).1
   case true=>
    obtain⟨hRW,hlt6⟩:=HST.out.2 hcm
    have hpl6:eB br w6<eB br wr:=by
     rw[HLN.out];generalize bn [44] s4=q6 at hp6 hlt6;obtain⟨b6,s6⟩:=q6
     cases s6 with
     | error e=>rw[hp6.tA];omega
     | ok r6=>rw[hp6.len];exact hlt6 r6 rfl
    go_wp2;go_roundw
    case rel=>exact⟨xs ++ [x],_,hp6,hRW,hT6,hG6,λh=>by simp at h,by rw[aN,bf];omega⟩
    case measure=>exact hpl6
   have hs2:=(P12.cp hcm).1;rw[hs2]at hp6;obtain⟨hN,hS⟩:=HST.out.1 hcm;have hL:=hG6.nt bj aq (λh=>by simp at h);clear hs2 hcm HST hG5 hG6;go_wp2;go_ret;exact⟨_,_,_,rfl,hL,hT6,hp6,hN,hS⟩
theorem so(br:Nat)(s:PS)(w:World)(hr:Ps br s w):Calls af 90 #[rp br] w (Cm br w s (eN w) P12.wher):=by
 have HM:=aa λW (hx:Xk.Ext w W)=>fD br s [87,72,69,82,69] aq W (hr.ext hx);have lr:=hr.lt;clear hr;go_enter Tryz.func90,Tryz.ntmps90;go_wp2_with fail;refine(HM.out _ Xk.xt).mono ?_;rintro e w1 ⟨rfl,ht1,hp1⟩;have hz1:=ht1.held (aw w _) ab;have hT1:ah br w w1:=ah.trans (tu trivial) ht1;have hs1:=(ae.1 hz1).1;clear ht1 HM
 cases hb:(bn [87,72,69,82,69] s).1
 ·have hN:Nx P12.wher s .none s:=P12.dq hb (P12.fo _ s);rw[(P12.cp hb).1]at hp1;have hS:=Sk.refl s;go_wp2_with ((refine pw (hz1) ?_;intro wZ hpZ));exact ar (aH rfl rfl hpZ.blk aA rfl au) rfl (Cm.expr hpZ ((show aC (λb=>w.heap.size<b) _ .none _ from rfl)) (hT1) (hp1) lr hN hS)
 ·go_wp2_with fail;refine(kX br _ _ (hp1.ext Xk.xt)).mono ?_;rintro e w2 ⟨v,x,s2,rfl,⟨l,rfl,he⟩,ht2,hp2,hn,hsk⟩;obtain⟨kd,op,vk,vi,vs,tb,nm,pp,pm,pc,rfl⟩:=he.form;have hN:Nx P12.wher s x s2:=P12.fS hb hn;have hS:=(P12.dK [87,72,69,82,69] s).trans hsk;have ht12:ah br w1 w2:=ah.trans (tu trivial) ht2;have hz2:=ht12.held hz1 ab;have HT2:=aa (ah.trans hT1 ht12);have HE2:=aa (he.mono (S':=λb=>w.heap.size<b) (λb hb _=>by omega));have HP2:=aa hp2;clear he ht2 ht12 hp2 hp1 hT1 hz1 hn hsk;go_wp2_with ((refine pw (hz2) ?_;intro wZ hpZ))
  exact ar (aH rfl rfl hpZ.blk aA rfl au) rfl (Cm.expr hpZ (HE2.out) (HT2.out) (HP2.out) lr hN hS)
theorem P12.Fb{s:PS}:Nx P12.maybe s (if bR s=true then(bZ s).1 else[]) (if bR s=true then(bZ s).2 else s):=by
 cases s with
 | error e=>rfl
 | ok r=>
  unfold bR P12.maybe Nx;by_cases h:(P12.nxt r).kind=1
  ·have:=P12.gR (.ok r);unfold Nx at this;simpa[h]using this
  ·simp[h]
theorem P12.Dm{s:PS}{b:P12.T}{s2:PS}(h:Nx P12.maybe (bZ s).2 b s2):Nx P12.source s ((bZ s).1,b) s2:=by
 rw[P12.uS];refine P12.cE (P12.gR s) ?_;dsimp only;exact P12.cE h (P12.fo ((bZ s).1,b) s2)
theorem nX{a b:Value}{T:TypeId}{W:World}{g:Nat}(h:W.heap[g]?=some (.cells #[a,b] T)):g<W.heap.size/\W.cell? ⟨g,0,none⟩=some a/\W.cell? ⟨g,1,none⟩=some b/\W.frozen? ⟨g,0,none⟩=false/\W.frozen? ⟨g,1,none⟩=false:=by
 refine⟨(ae.1 h).1,?_,?_,aD W g 0 _ _ h,aD W g 1 _ _ h⟩<;>simp[ak,h]
theorem xV(br:Nat)(s:PS)(w:World)(hr:Ps br s w):Calls af 164 #[rp br] w (Cm br w s (λv x _=>v = .agg #[bs x.1,bs x.2]) P12.source):=by
 have HM:=aa λW (hx:Xk.Ext w W)=>iE br s W (hr.ext hx);have lr:=hr.lt;clear hr;go_enter Tryz.func164,Tryz.ntmps164;go_wp2_with fail;refine(HM.out _ Xk.xt).mono ?_;rintro e w1 ⟨rfl,ht1,hp1⟩;have hNS:=λb s2=>P12.Dm (s:=s) (b:=b) (s2:=s2);have hSK:=P12.fM s;generalize bZ s=q at hp1 hNS hSK ⊢;obtain⟨a,s1⟩:=q;dsimp only at hp1 hNS hSK ⊢;have hz1:=ht1.held (aw w _) ab;have hT1:ah br w w1:=ah.trans (tu trivial) ht1;have hs1:=(ae.1 hz1).1;have HNS:=aa hNS;clear ht1 HM hNS;go_wp2_with fail;refine(mr br s1 _ (hp1.ext Xk.xt)).mono ?_;rintro e w2 ⟨rfl,hx2⟩
 have ha2:=(hx2.block _ (by rw[ag];omega)).trans (aw w1 (.cells #[bs a,bs []] 90));have hz2:=(ah.aR (br:=br) hx2).held ((ah.alloc (ah.refl br w1) _).held hz1 ab) ab;have hT2:ah br w w2:=ah.trans (ah.alloc hT1 _) (ah.aR hx2);have hp2:=(hp1.ext (xal w1 (.cells #[bs a,bs []] 90))).ext hx2;have hs2:=(ae.1 ha2).1;clear hx2 hp1 hT1 hz1;have hm:=P12.Fb (s:=s1)
 cases hb:bR s1
 ·rw[hb]at hm;have hN:=HNS.out _ _ hm;simp only[aS,if_false]at hN;obtain⟨l1,c0,c1,-,-⟩:=nX (ha2);obtain⟨l2,d0,d1,g0,g1⟩:=nX (hz2);have HT:=aa (hT2);have HP:=aa (hp2);go_wp2_with fail;refine ar (v := .agg #[bs a,bs ([])]) (by simp[results,Tryz.results164,go_sem,l2,d0,d1]) rfl ⟨_,(a,[]),_,rfl,rfl,tu HT.out,psx HP.out,hN,hSK⟩
 ·rw[hb]at hm;have hN:=HNS.out _ _ hm;simp only[if_true]at hN;go_wp2_with fail;refine(iE br s1 _ hp2).mono ?_;rintro e w3 ⟨rfl,ht3,hp3⟩;have hS3:=hSK.trans (P12.fM s1);generalize bZ s1=q3 at hp3 hN hS3 ⊢;obtain⟨b,s3⟩:=q3;dsimp only at hp3 hN hS3 ⊢;have ha3:=ht3.held ha2 ab;have hz3:=ht3.held hz2 ab;have hT3:=ah.trans hT2 ht3;have hs3:=ht3.size;clear ht3 ha2 hz2 hT2 hp2 hm hb;obtain⟨l1,c0,c1,f0,f1⟩:=nX ha3;obtain⟨l2,d0,d1,g0,g1⟩:=nX hz3;have HT:=aa hT3;have HP:=aa hp3;have hne:¬ w1.heap.size=w.heap.size:=ab;have hne2:¬ w.heap.size=w1.heap.size:=ab;clear ha3 hz3 hT3 hp3;go_wp2_with fail
  refine ar (v := .agg #[bs a,bs b]) (by simp[results,Tryz.results164,go_sem,l2,d0,d1,hne,hne2]) rfl ⟨_,(a,b),_,rfl,rfl,tu HT.out,psx HP.out,hN,hS3⟩
open _root_.P12 (PS Gd okB cH isK cf Nx bn bE bZ bR ew dA de cB Sk inS Rw dF gJ)
theorem cU{P:Program}{ops:Array Oper}{rest:List Oper}{o:Oper}{a:Act}{w:World}{Q:Exit->Act->World->Prop}(hgd:o.guard=none)(t:TypeId)(fs:List (Nat×Operand))(ho:o.op = .build t fs.toArray)
  (vs:List (Nat×Value)) (he:fs.map (λf=>(f.1,a.eval f.2))=vs) (v:Value) (hb:(cR t vs.toArray).run P w = .ok v w)
  (h:wpList P ops Q rest (a.put o.dst v) w):wpList P ops Q (o::rest) a w:=
 wpList_plain hgd λ_ hK=>by
  subst he;unfold Oper.wp execOp;simp only[ho,List.map_toArray,Sem.run_bind,Sem.run_pure,hb,oZ];exact hK _ _ h
structure Dz(br gz gx:Nat)(w0:World)(s0:PS)(K:(Nat->Prop)->World->Prop)(s:PS)(c:Array Value)(w:World):Prop where
 zero:w.heap[gz]?=some (.cells bC.toArray 40)
 blk:w.heap[gx]?=some (.cells c 40)
 turn:ah br w0 w
 ps:Ps br s w
 sk:Sk s0 s
 stab:mB K
 piece:K (λb=>gx<b) w
 lo:br<w0.heap.size
 gzge:w0.heap.size≤gz
 zx:gz<gx
section
variable {br gz gx : Nat} {w0 : World} {s0 : PS} {K : (Nat → Prop) → World → Prop} {s s' : PS} {c c' : Array Value} {w w' : World}
theorem Dz.size(F:Dz br gz gx w0 s0 K s c w):gx<w.heap.size:=(ae.1 F.blk).1
theorem Dz.step(F:Dz br gz gx w0 s0 K s c w)(ht:ah br w w')(hp:Ps br s' w')(hk:Sk s s'):Dz br gz gx w0 s0 K s' c w':=by
 obtain⟨h2,h3,h4,h5,h6,h7,h8,h9,h11,h13⟩:=F;exact⟨ht.held h2 ab,ht.held h3 ab,ah.trans h4 ht,hp,h6.trans hk,h7,h7 _ _ _ _ h8 (λb hb hl=>ht.block hl ab) (λb hb _=>hb),h9,h11,h13⟩
theorem Dz.ext(F:Dz br gz gx w0 s0 K s c w)(hx:Xk.Ext w w'):Dz br gz gx w0 s0 K s c w':=F.step (ah.aR hx) (F.ps.ext hx) (Sk.refl _)
theorem Dz.qM(F:Dz br gz gx w0 s0 K s c w)(hp:bt gx c' 40 w w'):Dz br gz gx w0 s0 K s c' w':=by
 obtain⟨h2,h3,h4,h5,h6,h7,h8,h9,h11,h13⟩:=F;exact⟨(hp.rest _ ab).trans h2,hp.blk,bt.turn hp h4 ab,bt.ps hp h5 ab,h6,h7,h7 _ _ _ _ h8 (λb hb hl=>hp.rest b ab) (λb hb _=>hb),h9,h11,h13⟩
theorem Dz.set(F:Dz br gz gx w0 s0 K s c w)(o:Nat)(u:Value):Dz br gz gx w0 s0 K s (c.setIfInBounds o u) (w.setCell ⟨gx,o,none⟩ u):=
 F.qM (gZ F.blk [u] o)
theorem Dz.add(F:Dz br gz gx w0 s0 K s c w){A:(Nat->Prop)->World->Prop}(hs:mB A)(ha:A (λb=>gx<b) w):Dz br gz gx w0 s0 (λS w=>K S w/\A S w) s c w:=by
 obtain⟨h2,h3,h4,h5,h6,h7,h8,h9,h11,h13⟩:=F;exact⟨h2,h3,h4,h5,h6,λS S' w w' h hb hS=>⟨h7 _ _ _ _ h.1 hb hS,hs _ _ _ _ h.2 hb hS⟩,⟨h8,ha⟩,h9,h11,h13⟩
theorem Dz.cells(F:Dz br gz gx w0 s0 K s c w)(h:c=c'):Dz br gz gx w0 s0 K s c' w:=h▸F
theorem Dz.cell(F:Dz br gz gx w0 s0 K s c w){o:Nat}{v:Value}(h:c[o]?=some v):w.cell? ⟨gx,o,none⟩=some v:=by simp[ak,F.blk,h]
theorem Dz.free(F:Dz br gz gx w0 s0 K s c w)(o:Nat):w.frozen? ⟨gx,o,none⟩=false:=aD w gx o _ _ F.blk
theorem Dz.up(F:Dz br gz gx w0 s0 K s c w){A:(Nat->Prop)->World->Prop}(hs:mB A)(ha:A (λb=>w.heap.size≤b) w'):A (λb=>gx<b) w':=
 hs _ _ _ _ ha (λ_ _ _=>rfl) (λb hb _=>by have:=F.size;omega)
theorem Dz.row(F:Dz br gz gx w0 s0 K s c w)(hk:Kept w.heap.size [br,gx] w w')(hb:w'.heap[gx]?=some (.cells c' 40))(hr:Ps br s' w')(hkp:Sk s s'):Dz br gz gx w0 s0 K s' c' w':=by
 have hsz:=F.size;obtain⟨h2,h3,h4,h5,h6,h7,h8,h9,h11,h13⟩:=F;exact⟨hk.held h2 ab (by simp;omega),hb,hk.pD h4 ab,hr,h6.trans hkp,h7,h7 _ _ _ _ h8 (λb hb hl=>hk.block b hl hl (by simp;omega)) (λb hb _=>hb),h9,h11,h13⟩
theorem Dz.start{br:Nat}{s s1:PS}{w w1 w2:World}{c:Array Value}{o:Obj}(hlt:br<w.heap.size)(ht:ah br (w.alloc (.cells bC.toArray 40)) w1)(hr:Ps br s1 w1)(hk:Sk s s1)(hp:bt w1.heap.size c 40 (w1.alloc o) w2):
  Dz br w.heap.size w1.heap.size w s (λ_ _=>True) s1 c w2:=by
 have hl:=ht.size;simp only[ag]at hl;have hz:=aw w (.cells bC.toArray 40);have h2:=((ah.alloc (ah.refl br w1) o).held (ht.held hz ab) ab);exact⟨(hp.rest _ ab).trans h2,hp.blk,bt.turn hp (ah.alloc (ah.trans (ah.alloc (ah.refl br w) _) ht) _) ab,bt.ps hp (hr.ext (xal _ _)) ab,hk,λ_ _ _ _ _ _ _=>trivial,trivial,hlt,ai _,by omega⟩
theorem Dz.finish{l:List Value}{x:P12.St}{f:P12.R->Except P12.Er (P12.St×P12.R)}(F:Dz br gz gx w0 s0 K s c w)(hp:bt gz l.toArray 40 w w')(hst:K (λb=>w0.heap.size≤b) w'->dv (λb=>w0.heap.size≤b) w' x l)(hN:Nx f s0 x s):
  Cm br w0 s0 (jC w0) f (.returned (.agg l.toArray)) w':=by
 obtain⟨h2,h3,h4,h5,h6,h7,h8,h9,h11,h13⟩:=F;exact⟨_,x,s,rfl,⟨l,rfl,hst (h7 _ _ _ _ h8 (λb hb hl=>hp.rest b ab) (λb hb _=>by omega))⟩,bt.turn hp h4 h11,bt.ps hp h5 ab,hN,h6⟩
end
theorem P12.JC{s s2:PS}{y:P12.T}{s4:PS}{x:P12.E}(h1:Nx P12.name s y s4)(h2:Nx P12.expr (bE [61] s4) x s2):Nx P12.setOf s (y,x) s2:=by
 rw[P12.ya];refine P12.cE h1 ?_;dsimp only;refine P12.fw ?_;exact P12.cE h2 (P12.fo (y,x) s2)
theorem P12.Dk{s s1 st:PS}{a:P12.T}{l:List (P12.T×P12.E)}(h1:Nx P12.name s a s1)(h2:Nx (λr=>P12.eJ 16 P12.named P12.setOf r.l.length 0 r) (bE [83,69,84] s1) l st)(x:P12.E)(s2:PS)(h3:Nx P12.wher st x s2):Nx P12.update s { P12.made 6 with name:=a,sets:=l,wher:=x } s2:=by
 rw[P12.uI];refine P12.cE h1 ?_;dsimp only;refine P12.fw ?_;refine P12.cE h2 ?_;dsimp only;exact P12.cE h3 (P12.fo ({ P12.made 6 with name:=a,sets:=l,wher:=x }:P12.St) s2)
abbrev IZ:P12.R->Except P12.Er (List (P12.T×P12.E)×P12.R):=λr=>P12.eJ 16 P12.named P12.setOf r.l.length 0 r
theorem Ei(br:Nat)(s:PS)(w:World)(hr:Ps br s w):Calls af 89 #[rp br] w (Cm br w s (jC w) P12.update):=by
 have HR:=aa hr;have lr:=hr.lt;clear hr;have hbs:∀ (a:P12.T) (W:World),(cR 40 #[(0,lK .i64 6),(3,bs a)]).run af W = .ok (.agg (cT 6 [] aj aj aj aj a [] false aj aj aj noE aj aj noE aj aj 0).toArray) W:=λa W=>by kernel_rfl
 have HB:=aa hbs;clear hbs;go_enter Tryz.func89,Tryz.ntmps89;go_wp2_with fail;refine(iE br s _ (HR.out.ext Xk.xt)).mono ?_;rintro e w1 ⟨rfl,ht1,hp1⟩;have hsk:=P12.fM s;generalize hq:bZ s=q at hp1 hsk ⊢;obtain⟨a,s1⟩:=q;dsimp only at hp1 hsk ⊢;go_wp2_with (first|(refine cU rfl 40 _ rfl _ rfl _ (HB.out _ _) ?_)|((refine pw (aw w1 _) ?_;intro w2 hp2);have F2:=Dz.start lr ht1 hp1 hsk hp2));have hNU:=P12.gR s;rw[hq]at hNU;have HNU:=aa hNU;have hzx:=F2.zx;have hgz:=F2.gzge;clear hp2 ht1 hp1 hsk hNU hq;refine(iU br s1 [83,69,84] aq _ F2.ps).mono ?_;rintro e wL ⟨rfl,ht3,hp3⟩
 have F3:=F2.step ht3 hp3 (P12.du _ _);clear ht3 hp3 F2;have hl0:=ka F3.ps;have hlw:=F3.size;have HNU:Hid (∀l st,Nx IZ (bE [83,69,84] s1) l st->∀x s2,Nx P12.wher st x s2->Nx P12.update s { P12.made 6 with name:=a,sets:=l,wher:=x } s2):=aa λl st h=>P12.Dk HNU.out h;generalize bE [83,69,84] s1=s3 at F3 HNU;have F3H:=aa F3;clear F3;obtain⟨i0,hi,hz0,hz1,hz2⟩:=cP Tryz.Ci;have Hi:=aa hi;have Hz0:=aa hz0;have Hz1:=aa hz1;have Hz2:=aa hz2;clear hi hz0 hz1 hz2;generalize hgx:w1.heap.size=gx at *
 clear HB HR hgx;have hbd:∀ (a:P12.T) (W:World),(cR 85 #[(0,bs a)]).run af W = .ok (.agg (bs a :: .int .i64 0::noE).toArray) W:=λa W=>by kernel_rfl
 go_wp2;go_loopw [4] (λ_ wr=>∃ (xs:List (P12.T×P12.E)) (v:Value) (s':PS),Ps br s' wr/\Rw IZ 16 P12.named P12.setOf s3 s' xs/\Kept wL.heap.size [br,gx] wL wr/\wr.heap[gx]?=some (.cells (cT 6 [] aj aj aj aj a [] false aj aj v noE aj aj noE aj aj 0).toArray 40)/\dt wL.heap.size 85 12 Au xs v wr/\(xs = []->v=aj)/\xs.length+eB br wr≤8193) (λ_ wr=>eB br wr)
 case atStart=>exact⟨[],aj,s3,F3H.out.ps,Rw.start _ _ _ _,Kept.refl _ _ _,F3H.out.blk,dt.nil,λ_=>rfl,by simpa using hl0⟩
 case round=>
  obtain⟨xs,v,s',hps,hrw,hkp,hbx,hg,hnil,hxl⟩:=hrel;have HPS:=aa hps;have HRW:=aa hrw;have HK:=aa hkp;have HG:=aa hg;have HX:=aa hbx;have HNL:=aa hnil;have hsz:=hkp.size;have lgx:=(ae.1 hbx).1;obtain⟨q,cq,rfl⟩:=hg.form;have cS:wr.cell? ⟨gx,11,none⟩=some (.slice q xs.length cq):=by simp[ak,hbx]
  clear hps hrw hkp hbx hg hnil hl0;go_wp2_with fail;refine(eK br s' _ HPS.out).mono ?_;rintro e w2 ⟨rfl,rfl⟩
  cases s' with
  | error e=>
   have hN:=Rw.err HRW.out;have hS:=HRW.out.1;have hG:=HG.out.nt eZ aq HNL.out;have F6:=F3H.out.row HK.out HX.out HPS.out hS;have hNN:=HNU.out _ _ hN;have HNN':=aa hNN;have F7:=F6.add (bF eZ 12 (xs) (.slice q xs.length cq)) (bF eZ 12 (xs) (.slice q xs.length cq) _ _ _ _ hG (λ_ _ _=>rfl) (λb hb _=>by omega));clear hN hS hNN hG F6;go_wp2_with fail;refine(so br _ _ F7.ps).mono ?_;rintro e w11 ⟨v,xw,s11,rfl,⟨l,rfl,he⟩,ht,hp,hn,hsk⟩;obtain⟨kd,op',vk,vi,vs,tb,nm,pp,pm,pc,rfl⟩:=he.form;have F8:=(F7.step ht hp hsk).add (dE xw _) (F7.up (dE xw _) he);have hb8:=F8.blk;have hN:=HNN'.out xw s11 hn
   clear ht hp he hn hsk F7;go_wp2_with (first|((refine aV rfl 35 _ _ rfl (gx) (12) _ _ 40 rfl rfl (hb8) (aI) (au) (au) ?_;intro w12 hp12);have F9:=(F8.qM hp12).cells (c':=(cT 6 [] aj aj aj aj a [] false aj aj (.slice q xs.length cq) (ao kd op' vk vi vs tb nm (.slice pp pm pc)) aj aj noE aj aj 0).toArray) au;have hb9:=F9.blk;have hz9:=F9.zero)|(refine lw hb9 aB ?_)|(refine pw hz9 ?_;intro w13 hp13));refine ar (aH (fn:=Tryz.f89) rfl rfl hp13.blk aB rfl au) rfl ?_;refine Dz.finish (x := { P12.made 6 with name:=a,sets:=xs,wher:=xw }) F9 hp13 (λ⟨⟨_,hs⟩,hx⟩=>?_) hN
   exact⟨aj,aj,aj,aj,aj,aj,_,_,aj,aj,noE,aj,aj,rfl,aE.nil _ _ _ _,aE.nil _ _ _ _,aE.nil _ _ _ _,aE.nil _ _ _ _,aE.nil _ _ _ _,aE.nil _ _ _ _,hs,hx,aE.nil _ _ _ _,aE.nil _ _ _ _,rfl,aE.nil _ _ _ _,aE.nil _ _ _ _⟩
  | ok r=>
   have HI:=aa λW (hx:Xk.Ext wr W)=>mr br (.ok r) W (HPS.out.ext hx);have HGD:=aa HPS.out.gd;have hpl:=HPS.out.gd.good.pos;obtain⟨b,cap,L,i,d,a',e,h,hs⟩:=HPS.out;obtain⟨l0,c0,c1,c2,c3,c4⟩:=h.cells;obtain⟨t,ht,lb,t0,t1,t2⟩:=h.tok;have hi:=h.hi;have hlen:=h.len;have hib:(i:Int)<(L.length:Int):=ab;have hnt:=hs.tok ht;have HLN:=aa HPS.out.len;clear h hs ht;have hI:∀b,bR (.ok r)=b->∀W,Xk.Ext wr W->Calls af 159 #[rp br] W λe w'=>e = .returned (.bool b)/\Xk.Ext W w':=λb e W hx=>e▸HI.out W hx;have h3:(t.kind=1/\t.text.length≤24)∨(t.kind=1/\¬ t.text.length≤24)∨t.kind≠1:=ab
   rcases h3 with⟨hk,hl⟩|⟨hk,hl⟩|hk
   case' _=>
    have hI:=hI true (by simp[bR,hnt,hk]);have hlb:(t.text.length:Int)≤24:=ab;have hnm:P12.named r=true:=by simp[P12.named,hnt,hk,hl]
    go_wp2_with fail;refine Xk.reg 17 (Xk.w1 hI λp=>?_);go_wp2_with fail;refine(ki br (.ok r) (xs.length+1) 16 _ (HPS.out.ext Xk.xt)).mono ?_;rintro e w3 ⟨rfl,ht3,hp3⟩;rw[P12.kB hnm]at hp3;have hT3:=ah.trans (tu trivial:ah br wr _) ht3;clear ht3;go_wp2_with fail
   rotate_left 1
   case' _=>
    have hI:=hI true (by simp[bR,hnt,hk]);have hlb:¬ (t.text.length:Int)≤24:=ab;have hnm:P12.named r=false:=by simp[P12.named,hnt,hk,hl]
   rotate_left 1
   case' _=>
    have hI:=hI false (by simp[bR,hnt,hk]);have hnm:P12.named r=false:=by simp[P12.named,hnt,hk]
   rotate_right 1
   iterate 2
    case' _=>
     go_wp2_with fail;refine Xk.reg 17 (Xk.w1 hI λp=>?_);go_wp2_with fail;have hp3:=HPS.out.ext (show Xk.Ext wr (Xk.exw wr p)from Xk.xt);rw[P12.nx (most:=16) (n:=xs.length) hnm]at hp3;have hT3:ah br wr (Xk.exw wr p):=tu trivial;generalize Xk.exw wr p=w3 at hp3 hT3 ⊢
    rotate_left 1
   all_goals
    refine(iE br _ _ hp3).mono ?_;rintro e w4 ⟨rfl,ht4,hp4⟩;have hT4:=ah.trans hT3 ht4;have hNm:=P12.gR (dF 16 xs.length P12.named (.ok r));have hSm:=P12.fM (dF 16 xs.length P12.named (.ok r));generalize bZ (dF 16 xs.length P12.named (.ok r))=q4 at hp4 hNm hSm ⊢;obtain⟨y,s4⟩:=q4;dsimp only at hp4 hNm hSm ⊢;clear HI hI hnt hk hnm c0 c1 c2 c3 c4 t0 t1 t2 cS ht4 hT3 hp3;have HP4:=aa hp4;clear hp4;go_wp2_with ((refine pw (aw w4 _) ?_;intro w5 hp5));have hs4:=hT4.size;have hT5:ah br wr w5:=bt.turn hp5 (ah.alloc hT4 _) ab;have hps5:=bt.ps hp5 (HP4.out.ext (xal w4 _)) ab;have hb5:=hp5.blk
    have hs5:=hp5.size;rw[ag]at hs5;clear hp5 HP4 hT4;refine(dO br s4 [61] aq _ hps5).mono ?_;rintro e w6 ⟨rfl,ht6,hp6⟩;have hT6:=ah.trans hT5 ht6;have hb6:=ht6.held hb5 ab;have hs6:=ht6.size;clear ht6 hps5 hb5 hT5;go_wp2_with fail;refine(kX br _ _ hp6).mono ?_;rintro e w7 ⟨v,x,s7,rfl,⟨l,rfl,he⟩,ht7,hp7,hn7,hsk7⟩;obtain⟨kd,op,vk,vi,vs,tb,nm,pp,pm,pc,rfl⟩:=he.form;have hst:=Rw.step (y:=(y,x)) HRW.out HGD.out (P12.JC hNm hn7) (hSm.trans ((P12.du _ _).trans hsk7));have hT7:=ah.trans hT6 ht7;have hb7:=ht7.held hb6 ab;have hs7:=ht7.size;clear hb6 ht7 hp6 hT6 hNm hSm hn7 hsk7
    obtain⟨us,ho,hus,huz,hur⟩:=HG.out;have hlt:=ho.lt;have HO:=aa ho;have HUR:=aa hur;have HST:=aa hst;clear ho hur hst HG HRW
    go_wp2_with (first|((refine aV rfl 35 _ _ rfl (w4.heap.size) (2) _ _ 85 rfl rfl (hb7) aI au au ?_;intro w8 hp8);have hb8:w8.heap[w4.heap.size]?=some (.cells (bs y :: .int .i64 0::ao kd op vk vi vs tb nm (.slice pp pm pc)).toArray 85):=(by refine hp8.blk.trans (congrArg (λc=>some (Obj.cells c 85)) ?_);kernel_rfl);have hT8:ah br wr w8:=bt.turn hp8 hT7 ab;have hx8:=hT8.held HX.out ab;have c8:w8.cell? ⟨gx,11,none⟩=some (.slice q xs.length cq):=(by simp[ak,hx8]))|(refine lw hb8 Tryz.underlying85 ?_)|(at_builtin;have hs8:=hp8.size;refine Xo.bY wL.heap.size rfl _ _ 31 rfl 85 i0 _ 12 144 Tryz.underlying31 Hi.out Hz0.out Hz1.out Hz2.out rfl aq (.slice q xs.length cq) xs.length us.flatten rfl (fC HO.out (ah.alloc hT8 _) ab) w8.heap.size 0 1 1 (bs y :: .int .i64 0::ao kd op vk vi vs tb nm (.slice pp pm pc)) rfl aq rfl (ey w8 _ _ rfl) (dS au) ab (by rw[ag];omega) ?_;intro v' w9 ho' hg' hk';obtain⟨z,cz,rfl⟩:=eR ho' ab;have hx9:=(hg'.block gx (by rw[ag];omega) (λe=>by have:=(hlt gx e.symm).1;omega)).trans ((ah.alloc (ah.refl br w8) _).held hx8 ab);have c9:w9.cell? ⟨gx,11,none⟩=some (.slice q xs.length cq):=(by simp[ak,hx9]);have f9:=aD w9 gx 11 _ _ hx9;have HO9:=aa ho';have HG9:=aa hg';have HK9:=aa hk';have HX9:=aa hx9;have l9:=(ae.1 hx9).1;clear ho' hg' hk' hx9 hx8 c8))
    have hlp:=hp8.size;have he8:=bt.expr hp8 he ab;have hKW:=((HK.out.trans (Kept.bB (ah.alloc hT8 _) aI)).grown HG9.out (λb hb=>(hlt b hb).1)).setCell (g:=gx) (.inr (.inl aI)) 11 (.slice (some ⟨z,0,none⟩) (xs.length+1) cz);have hbW:(w9.setCell ⟨gx,11,none⟩ (.slice (some ⟨z,0,none⟩) (xs.length+1) cz)).heap[gx]?=some (.cells ((cT 6 [] aj aj aj aj a [] false aj aj (.slice (some ⟨z,0,none⟩) (xs.length+1) cz) noE aj aj noE aj aj 0)).toArray 40):=heap_setCell_same w9 gx 11 _ _ _ HX9.out
    have hGW:=(dt.push (x:=(y,x)) eZ hus huz (λj x u hx hu=>eZ _ _ _ _ _ _ (HUR.out j x u hx hu) (λb hb hl=>(ah.alloc hT8 _).block hl ab) (λb hb _=>hb)) HG9.out HO9.out HK9.out rfl (⟨_,rfl,he8.bg (λb hb hl=>(xal w8 _).block b hl) (λb hb _=>⟨by omega,λe=>by have:=(hlt b e).2;omega⟩)⟩)).set eZ (g:=gx) ab 11 (.slice (some ⟨z,0,none⟩) (xs.length+1) cz);have hPW:=Ps.setCell (((bt.ps hp8 hp7 ab).ext (xal w8 _)).grown HG9.out (λb hb=>by have:=(hlt b hb).1;omega)) (g:=gx) ab 11 (.slice (some ⟨z,0,none⟩) (xs.length+1) cz)
    have hnn:xs ++ [(y,x)] = []->(.slice (some ⟨z,0,none⟩) (xs.length+1) cz:Value)=aj:=λh=>by simp at h
    have HNN:=aa hnn;clear hp8 he8 hT8 HO9 HG9 HK9 HX9 HUR HO c9 f9 HK HX hnn;generalize w9.setCell ⟨gx,11,none⟩ (.slice (some ⟨z,0,none⟩) (xs.length+1) cz)=W at hKW hbW hGW hPW ⊢;refine(eW br _ [44] aq _ hPW).mono ?_;rintro e w10 ⟨rfl,ht10,hp10⟩;have hK10:=hKW.trans (Kept.bB ht10 aI);have hb10:=ht10.held hbW ab;have hsW:=hKW.size;have hG10:=hGW.turn eZ ht10 ab;clear hKW hbW hGW hPW ht10
    cases hcm:(bn [44] s7).1
    case true=>
     obtain⟨hRW,hlt6⟩:=HST.out.2 hcm
     have hpl6:eB br w10<eB br wr:=by
      rw[HLN.out];generalize bn [44] s7=q6 at hp10 hlt6;obtain⟨b6,s6⟩:=q6
      cases s6 with
      | error e=>rw[hp10.tA];omega
      | ok r6=>rw[hp10.len];exact hlt6 r6 rfl
     go_wp2;go_roundw
     case rel=>exact⟨xs ++ [(y,x)],_,_,hp10,hRW,hK10,hb10,hG10,HNN.out,by rw[aN,bf];omega⟩
     case measure=>exact hpl6
    have hs2:=(P12.cp hcm).1;rw[hs2]at hp10;obtain⟨hN,hS⟩:=HST.out.1 hcm;have hG:=hG10.nt eZ aq HNN.out;have F6:=F3H.out.row hK10 hb10 hp10 hS;clear hs2 hcm HST hG10 hb10 hK10;have hNN:=HNU.out _ _ hN;have HNN':=aa hNN;have F7:=F6.add (bF eZ 12 ((xs ++ [(y,x)])) (.slice (some ⟨z,0,none⟩) (xs.length+1) cz)) (bF eZ 12 ((xs ++ [(y,x)])) (.slice (some ⟨z,0,none⟩) (xs.length+1) cz) _ _ _ _ hG (λ_ _ _=>rfl) (λb hb _=>by omega));clear hN hS hNN hG F6;go_wp2_with fail;refine(so br _ _ F7.ps).mono ?_;rintro e w11 ⟨v,xw,s11,rfl,⟨l,rfl,he⟩,ht,hp,hn,hsk⟩;obtain⟨kd,op',vk,vi,vs,tb,nm,pp,pm,pc,rfl⟩:=he.form
    have F8:=(F7.step ht hp hsk).add (dE xw _) (F7.up (dE xw _) he);have hb8:=F8.blk;have hN:=HNN'.out xw s11 hn;clear ht hp he hn hsk F7;go_wp2_with (first|((refine aV rfl 35 _ _ rfl (gx) (12) _ _ 40 rfl rfl (hb8) (aI) (au) (au) ?_;intro w12 hp12);have F9:=(F8.qM hp12).cells (c':=(cT 6 [] aj aj aj aj a [] false aj aj (.slice (some ⟨z,0,none⟩) (xs.length+1) cz) (ao kd op' vk vi vs tb nm (.slice pp pm pc)) aj aj noE aj aj 0).toArray) au;have hb9:=F9.blk;have hz9:=F9.zero)|(refine lw hb9 aB ?_)|(refine pw hz9 ?_;intro w13 hp13));refine ar (aH (fn:=Tryz.f89) rfl rfl hp13.blk aB rfl au) rfl ?_
    refine Dz.finish (x := { P12.made 6 with name:=a,sets:=(xs ++ [(y,x)]),wher:=xw }) F9 hp13 (λ⟨⟨_,hs⟩,hx⟩=>?_) hN;exact⟨aj,aj,aj,aj,aj,aj,_,_,aj,aj,noE,aj,aj,rfl,aE.nil _ _ _ _,aE.nil _ _ _ _,aE.nil _ _ _ _,aE.nil _ _ _ _,aE.nil _ _ _ _,aE.nil _ _ _ _,hs,hx,aE.nil _ _ _ _,aE.nil _ _ _ _,rfl,aE.nil _ _ _ _,aE.nil _ _ _ _⟩
end Go.Proofs.YtkpmclddjkebeaaGreatDoor
namespace P12
theorem EF(n most:Nat)(s:PS):Sk s (ew n most s):=by
 unfold ew;split
 ·exact gQ _ _
 ·exact Sk.refl _
theorem mT{a b:T}{r:R}(h:isT a r=true)(hab:a≠b):isT b r=false:=by
 have ht:=yZ h;unfold isT;rw[ht];simp[hab]
def ik(n:Nat)(r:R):PS:=cf (ew (n+1) 16 (.ok r))
theorem nQ{n:Nat}{r:R}(h:16<n+1):ik n r = .error ((nxt r).pos,122):=by
 unfold ik ew;rw[if_pos h];rfl
theorem sw{n:Nat}{r:R}(h:¬ 16<n+1):ik n r = .ok (ax r):=by
 unfold ik ew;rw[if_neg h];rfl
theorem vR(n:Nat)(r:R):Sk (.ok r) (ik n r):=(EF _ _ _).trans (eI _)
theorem rS{n:Nat}{c:T}{r:R}(h:isT [80,82,73,77,65,82,89] r=true){l:List T}{s2:PS}(h2:Nx (eL c) (bE [75,69,89] (ik n r)) l s2):Nx (gv n c) (.ok r) (.inr (true,l)) s2:=by
 have hc:bh r=true:=by simp[bh,h]
 have hk:=mT (b := [67,72,69,67,75]) h aq;unfold Nx;dsimp only;rw[qt,hc,mi];by_cases hn:16<n+1
 ·rw[if_pos (by simpa using hn)];rw[nQ hn]at h2;exact h2
 ·rw[if_neg (by simpa using hn)];rw[sw hn]at h2;dsimp only;rw[if_neg (by rw[hk];simp),if_pos h];exact fw (s := .ok (ax r)) (G:=λr=>eL c r >>= λz => .ok ((.inr (true,z.1):Con),z.2)) (cE h2 (fo (.inr (true,l):Con) s2))
theorem rR{n:Nat}{c:T}{r:R}(h:isT [85,78,73,81,85,69] r=true){l:List T}{s2:PS}(h2:Nx (eL c) (ik n r) l s2):Nx (gv n c) (.ok r) (.inr (false,l)) s2:=by
 have hc:bh r=true:=by simp[bh,h]
 have hk:=mT (b := [67,72,69,67,75]) h aq;have hp:=mT (b := [80,82,73,77,65,82,89]) h aq;unfold Nx;dsimp only;rw[qt,hc,mi];by_cases hn:16<n+1
 ·rw[if_pos (by simpa using hn)];rw[nQ hn]at h2;exact h2
 ·rw[if_neg (by simpa using hn)];rw[sw hn]at h2;dsimp only;rw[if_neg (by rw[hk];simp),if_neg (by rw[hp];simp)];refine fw (s := .ok r) (t := [85,78,73,81,85,69]) (G:=λr=>eL c r >>= λz => .ok ((.inr (false,z.1):Con),z.2)) ?_;rw[show bE [85,78,73,81,85,69] (.ok r) = .ok (ax r) by simp[bE,bL,h]];exact cE h2 (fo (.inr (false,l):Con) s2)
theorem qh{n:Nat}{c:T}{r:R}(h:isT [67,72,69,67,75] r=true){e:E}{s2:PS}(h2:Nx (within expr) (ik n r) e s2):Nx (gv n c) (.ok r) (.inl e) s2:=by
 have hc:bh r=true:=by simp[bh,h]
 unfold Nx;dsimp only;rw[qt,hc,mi];by_cases hn:16<n+1
 ·rw[if_pos (by simpa using hn)];rw[nQ hn]at h2;exact h2
 ·rw[if_neg (by simpa using hn)];rw[sw hn]at h2;dsimp only;rw[if_pos h];exact cE (s := .ok (ax r)) (F:=within expr) (G:=λz => .ok ((.inl z.1:Con),z.2)) h2 (fo (.inl e:Con) s2)
theorem E8{c:T}(hc:c ≠ [])(s:PS):Nx (eL c) s [c] s:=by
 have e:eL c=λr => .ok ([c],r):=by funext r;unfold eL;rw[if_neg hc]
 rw[e];exact fo [c] s
theorem sV{s:PS}{l:List T}{s':PS}(h:Nx (gJ (λr=>eJ 16 named name r.l.length 0 r)) (bE [40] s) l s'):Nx names s l s':=by
 have e:names=λr=>bL [40] r >>= gJ (λr=>eJ 16 named name r.l.length 0 r):=by
  funext r;rw[ta];dsimp only
  cases bL [40] r with
  | error e=>rfl
  | ok r1=>
   show((λr=>eJ 16 named name r.l.length 0 r) r1 >>= λz=>bL [41] z.2 >>= λr => .ok (z.1,r))=gJ (λr=>eJ 16 named name r.l.length 0 r) r1
   unfold gJ;dsimp only
   cases eJ 16 named name r1.l.length 0 r1 with
   | error e=>rfl
   | ok p=>
    dsimp only[bind,cG]
    cases bL [41] p.2<;>rfl
 rw[e];exact fw h
theorem B6{s:PS}{l:List T}{s':PS}(h:Nx names s l s'):Nx (eL []) s l s':=by
 have e:eL []=names:=by funext r;unfold eL;rw[if_pos rfl]
 rw[e];exact h
theorem Di{ex:R->Except Er (E×R)}{s:PS}(hg:∀r,s = .ok r->Gd r){y:E}{s4:PS}(h4:Nx ex (inS s) y s4):Nx (within ex) s y (de (bE [41] s4)):=by
 cases s with
 | error e=>
  rw[Co]at h4;have h4:s4 = .error e:=h4;subst h4;rfl
 | ok r=>
  rw[Bk (hg r rfl)]at h4;unfold Nx;dsimp only;unfold within
  cases hT:isT [40] r
  ·rw[if_pos rfl];rw[hT]at h4;simp only[aS,if_false]at h4;have h4:s4 = .error ((nxt r).pos,120):=h4;subst h4;rfl
  ·rw[if_neg aI];rw[hT,if_pos rfl]at h4
   cases ho:opens r with
   | error e=>
    rw[ho]at h4;have h4:s4 = .error e:=h4;subst h4;rfl
   | ok r1=>
    rw[ho]at h4;unfold Nx at h4;dsimp only at h4 ⊢
    cases hx:ex (ax r1)with
    | error e=>
     rw[hx]at h4;have h4:s4 = .error e:=h4;subst h4;rfl
    | ok p=>
     obtain⟨x,r2⟩:=p;rw[hx]at h4;obtain⟨rfl,rfl⟩:=h4;dsimp only[bE]
     cases bL [41] r2 with
     | error e=>rfl
     | ok r3=>exact⟨rfl,rfl⟩
def Tl(c:T)(F:R->Except Er ((Tb×List (List T)×Nat×Bool)×R))(s s':PS)(t:Tb)(k:List (List T))(n:Nat)(nn:Bool):Prop:=
 Sk s s'/\∃f,(∀r,s' = .ok r->r.l.length≤f)/\∀X S',Nx (gj c f t k n nn) s' X S'->Nx F s X S'
section
variable {c : T} {F : R → Except Er ((Tb × List (List T) × Nat × Bool) × R)} {s : PS} {r : R} {t : Tb} {k : List (List T)} {n : Nat} {nn : Bool}
theorem Tl.start(c:T)(t:Tb)(k:List (List T))(n:Nat)(s:PS):Tl c (λr=>gj c r.l.length t k n false r) s s t k n false:=by
 refine⟨Sk.refl s,?_⟩
 cases s with
 | error e=>exact⟨0,λr e=>(by cases e),λX S' h=>h⟩
 | ok r=>exact⟨r.l.length,λr' e=>(by cases e;exact ai _),λX S' h=>h⟩
theorem Tl.err{e:Er}(h:Tl c F s (.error e) t k n nn)(X:Tb×List (List T)×Nat×Bool):Nx F s X (.error e):=by
 obtain⟨-,f,-,h⟩:=h;exact h X _ rfl
theorem Tl.out(h:Tl c F s (.ok r) t k n nn)(hg:Gd r)(h1:isT [78,79,84] r=false)(h2:bh r=false):Nx F s (t,k,n,nn) (.ok r):=by
 obtain⟨-,f,hf,h⟩:=h;have h3:=hg.good.pos;have h4:=hf r rfl;obtain⟨f,rfl⟩:∃g,f=g+1:=⟨f-1,by omega⟩;refine h _ _ ?_;unfold Nx;dsimp only;rw[BW h1 h2];exact⟨rfl,rfl⟩
theorem Tl.not(h:Tl c F s (.ok r) t k n nn)(hg:Gd r)(h1:isT [78,79,84] r=true):Tl c F s (bE [78,85,76,76] (.ok (ax r))) t k n true/\∀r3,bE [78,85,76,76] (.ok (ax r)) = .ok r3->r3.l.length<r.l.length:=by
 obtain⟨h0,f,hf,h⟩:=h;have h3:=fz hg.good (el h1);have h4:=hf r rfl;obtain⟨f,rfl⟩:∃g,f=g+1:=⟨f-1,by omega⟩
 have hlt:∀r3,bE [78,85,76,76] (.ok (ax r)) = .ok r3->r3.l.length<r.l.length:=λr3 e=>by
  have:=(du [78,85,76,76] (.ok (ax r)) r3 e).suf.length_le;omega
 refine⟨⟨h0.trans (Sk.trans (b := .ok (ax r)) (eI (.ok r)) (du _ _)),f,λr3 e=>(by have:=hlt r3 e;omega),λX S' hX=>h _ _ ?_⟩,hlt⟩;unfold Nx at hX ⊢;dsimp only at hX ⊢;rw[sI h1];unfold bE at hX;dsimp only at hX
 cases hm:bL [78,85,76,76] (ax r)with
 | error e=>rw[hm]at hX;exact hX
 | ok r1=>rw[hm]at hX;exact hX
theorem J2{s2:PS}(hg:Gd r)(h2:bh r=true)(hs:Sk (ik n r) s2):∀r3,s2 = .ok r3->r3.l.length<r.l.length:=λr3 e=>by
 subst e;have h3:=fz hg.good (ng h2);by_cases hn:16<n+1
 ·rw[nQ hn]at hs
  cases hs
 ·rw[sw hn]at hs;have:=(hs r3 rfl).suf.length_le;omega
theorem Tl.con(h:Tl c F s (.ok r) t k n nn)(hg:Gd r)(h1:isT [78,79,84] r=false)(h2:bh r=true){o:Con}{s2:PS}(hc:Nx (gv n c) (.ok r) o s2)(hs:Sk (ik n r) s2):
  Tl c F s s2 (gq t o) (jw k o) (n+1) (nn||isT [80,82,73,77,65,82,89] r)/\∀r3,s2 = .ok r3->r3.l.length<r.l.length:=by
 have hlt:=J2 hg h2 hs;obtain⟨h0,f,hf,h⟩:=h;have h3:=hg.good.pos;have h4:=hf r rfl;obtain⟨f,rfl⟩:∃g,f=g+1:=⟨f-1,by omega⟩;refine⟨⟨h0.trans ((vR n r).trans hs),f,λr3 e=>(by have:=hlt r3 e;omega),λX S' hX=>h _ _ ?_⟩,hlt⟩;unfold Nx at hc ⊢;dsimp only at hc ⊢;rw[sJ h1 h2]
 cases hm:gv n c r with
 | error e=>
  rw[hm]at hc;have hc:s2 = .error e:=hc;subst hc;exact hX
 | ok p=>
  obtain⟨o',r2⟩:=p;rw[hm]at hc;obtain⟨rfl,rfl⟩:=hc;exact hX
end
def yq(t:Tb)(k:List (List T))(n:Nat):R->Except Er ((Tb×List (List T)×Nat)×R):=λr=>name r >>= λz=>typeOf z.2 >>= λy=>(λr=>gj z.1 r.l.length t k (n+1) false r) y.2 >>= λw => .ok (({ w.1.1 with cols:=w.1.1.cols ++ [(z.1,y.1,w.1.2.2.2)] },w.1.2.1,w.1.2.2.1),w.2)
theorem E6{t t':Tb}{k k':List (List T)}{n n':Nat}{nn:Bool}{c:T}{ty:Int}{s s1 s2 s3:PS}(h1:Nx name s c s1)(h2:Nx typeOf s1 ty s2)(h3:Nx (λr=>gj c r.l.length t k (n+1) false r) s2 (t',k',n',nn) s3):
  Nx (yq t k n) s ({ t' with cols:=t'.cols ++ [(c,ty,nn)] },k',n') s3:=by
 unfold yq;refine cE h1 ?_;dsimp only;refine cE h2 ?_;dsimp only;exact cE h3 (fo (({ t' with cols:=t'.cols ++ [(c,ty,nn)] },k',n'):Tb×List (List T)×Nat) s3)
theorem Dl{s:PS}(h:(bn [73,78,84] s).1=true):Nx typeOf s 2 (bn [73,78,84] s).2:=by
 obtain⟨r,rfl,h1,h2⟩:=ie h;rw[h2];unfold Nx;dsimp only;unfold typeOf;rw[if_neg (by rw[mT h1 aq];simp),if_pos h1];exact⟨rfl,rfl⟩
theorem AL{s:PS}(h:(bn [66,79,79,76] s).1=true):Nx typeOf s 1 (bn [66,79,79,76] s).2:=by
 obtain⟨r,rfl,h1,h2⟩:=ie h;rw[h2];unfold Nx;dsimp only;unfold typeOf;rw[if_pos h1];exact⟨rfl,rfl⟩
theorem AK{s:PS}(h:(bn [84,69,88,84] s).1=true):Nx typeOf s 3 (bn [84,69,88,84] s).2:=by
 obtain⟨r,rfl,h1,h2⟩:=ie h;rw[h2];unfold Nx;dsimp only;unfold typeOf;rw[if_neg (by rw[mT h1 aq];simp),if_neg (by rw[mT h1 aq];simp),if_pos h1];exact⟨rfl,rfl⟩
theorem E5{s:PS}(h1:(bn [73,78,84] s).1=false)(h2:(bn [66,79,79,76] s).1=false)(h3:(bn [84,69,88,84] s).1=false):Nx typeOf s 0 (cH 120 s):=by
 cases s with
 | error e=>rfl
 | ok r=>
  have e1:=(cp h1).2 r rfl;have e2:=(cp h2).2 r rfl;have e3:=(cp h3).2 r rfl;unfold Nx;dsimp only;unfold typeOf;rw[if_neg (by rw[e2];simp),if_neg (by rw[e1];simp),if_neg (by rw[e3];simp)];rfl
theorem yB{t:Tb}{k:List (List T)}{n:Nat}{r:R}(hc:bh r=false){X:Tb×List (List T)×Nat}{s2:PS}(h:Nx (yq t k n) (dF 16 n named (.ok r)) X s2):Nx (part t k n) (.ok r) X s2:=by
 unfold dF at h;dsimp only at h;unfold Nx;dsimp only;rw[wv];dsimp only;rw[if_neg (by rw[hc];simp)];by_cases hn:(decide (16<n+1)&&named r)=true
 ·rw[if_pos hn]at h ⊢;exact h
 ·rw[if_neg hn]at h ⊢;exact h
theorem nA{t:Tb}{k:List (List T)}{n:Nat}{r:R}(hc:bh r=true){o:Con}{s2:PS}(h:Nx (gv n []) (.ok r) o s2):Nx (part t k n) (.ok r) (gq t o,jw k o,n+1) s2:=by
 have e:∀r',(.ok r:PS) = .ok r'->(gv n [] r' >>= λz => .ok ((gq t z.1,jw k z.1,n+1),z.2))=part t k n r':=λr' e=>by
  cases e;rw[wv];dsimp only;rw[if_pos hc]
 exact B5 (cE h (fo (gq t o,jw k o,n+1) s2)) e
def Pt(F:R->Except Er ((Tb×List (List T))×R))(s s':PS)(t:Tb)(k:List (List T))(n:Nat):Prop:=
 Sk s s'/\∃f,(∀r,s' = .ok r->r.l.length≤f)/\∀X S',Nx (gA f t k n) s' X S'->Nx F s X S'
theorem Pt.start(t:Tb)(k:List (List T))(n:Nat)(s:PS):Pt (λr=>gA r.l.length t k n r) s s t k n:=by
 refine⟨Sk.refl s,?_⟩
 cases s with
 | error e=>exact⟨0,λr e=>(by cases e),λX S' h=>h⟩
 | ok r=>exact⟨r.l.length,λr' e=>(by cases e;exact ai _),λX S' h=>h⟩
theorem Pt.err{F:R->Except Er ((Tb×List (List T))×R)}{s:PS}{t:Tb}{k:List (List T)}{n:Nat}{e:Er}(h:Pt F s (.error e) t k n)(X:Tb×List (List T)):Nx F s X (.error e):=by
 obtain⟨-,f,-,h⟩:=h;exact h X _ rfl
theorem Pt.step{F:R->Except Er ((Tb×List (List T))×R)}{s:PS}{r:R}{t:Tb}{k:List (List T)}{n:Nat}(h:Pt F s (.ok r) t k n)(hg:Gd r){t':Tb}{k':List (List T)}{n':Nat}{s2:PS}(h2:Nx (part t k n) (.ok r) (t',k',n') s2)(hs:Sk (.ok r) s2):
  ((bn [44] s2).1=false->Nx F s (t',k') s2/\Sk s s2)/\((bn [44] s2).1=true->Pt F s (bn [44] s2).2 t' k' n'/\∀r3,(bn [44] s2).2 = .ok r3->r3.l.length<r.l.length):=by
 obtain⟨h0,f,hf,h⟩:=h;have hp:=hg.good.pos;obtain⟨f,rfl⟩:∃g,f=g+1:=⟨f-1,by have:=hf r rfl;omega⟩
 have hst:∀ {X S'},Nx (λr2=>if isT [44] r2=true then gA f t' k' n' (ax r2)else .ok ((t',k'),r2)) s2 X S'->Nx (gA (f+1) t k n) (.ok r) X S':=fun {X S'} h3=>by
  rw[rN];exact cE h2 h3
 have hlt:(bn [44] s2).1=true->∀r3,(bn [44] s2).2 = .ok r3->r3.l.length<r.l.length:=λhb r3 e=>by
  obtain⟨r2,rfl,ht,hs2⟩:=ie hb;rw[hs2]at e
  cases e;have hk:=hs r2 rfl
  have h3:r2.l ≠ []:=λe=>by
   unfold isT nxt at ht;rw[e]at ht;simp at ht
  have h4:=fj (el ht);have h5:=hk.suf.length_le;have h6:=List.length_pos_iff.2 h3;rw[h4];simp only[List.length_tail];omega
 refine⟨λhb=>⟨h _ _ (hst (dq hb (fo (t',k') s2))),h0.trans hs⟩,λhb=>⟨⟨h0.trans (hs.trans (dK _ _)),f,λr3 e=>(by have:=hlt hb r3 e;have:=hf r rfl;omega),λX S' hX=>h _ _ (hst (fS hb hX))⟩,hlt hb⟩⟩
theorem E9{s s1 s2:PS}{a:T}{t:Tb}{k:List (List T)}(h1:Nx name s a s1)(h2:Nx (λr=>gA r.l.length { name:=a } [] 0 r) (bE [40] s1) (t,k) s2):Nx tj s { made 1 with tb:=t,keyCols:=k } (bE [41] s2):=by
 unfold tj;refine cE h1 ?_;dsimp only;refine fw ?_;refine cE h2 ?_;dsimp only;exact fw (fo ({ made 1 with tb:=t,keyCols:=k }:St) _)
theorem Fa{u:Bool}{s s1 s2 s3:PS}{a b:T}{l:List T}(h1:Nx name (bE [73,78,68,69,88] s) a s1)(h2:Nx name (bE [79,78] s1) b s2)(h3:Nx names s2 l s3):Nx (mkIdx u) s { made 3 with unique:=u,name:=a,on:=b,cols:=l } s3:=by
 unfold mkIdx;refine fw ?_;refine cE h1 ?_;dsimp only;refine fw ?_;refine cE h2 ?_;dsimp only;exact cE h3 (fo ({ made 3 with unique:=u,name:=a,on:=b,cols:=l }:St) s3)
theorem ux{s s2:PS}{x:St}(hb:(bn [84,65,66,76,69] s).1=true)(h:Nx tj (bn [84,65,66,76,69] s).2 x s2):Nx create s x s2:=by
 rw[re];exact fS hb h
theorem uy{s s2:PS}{x:St}(hb:(bn [84,65,66,76,69] s).1=false)(h:Nx (mkIdx (bn [85,78,73,81,85,69] s).1) (bn [85,78,73,81,85,69] s).2 x s2):Nx create s x s2:=by
 rw[re];refine dq (A:=λr=>tj (ax r)) hb ?_
 cases s with
 | error e=>exact h
 | ok r=>
  unfold bn at h;dsimp only at h;unfold Nx;dsimp only
  cases hu:isT [85,78,73,81,85,69] r
  ·have e1:has [85,78,73,81,85,69] r=(false,r):=by unfold has;rw[hu];rfl
   rw[e1]at h ⊢;dsimp only at h ⊢
   cases hi:isT [73,78,68,69,88] r
   ·have e2:mkIdx false r=bU 120 r:=by unfold mkIdx bL;rw[hi];rfl
    unfold Nx at h;dsimp only at h;rw[e2]at h;exact h
   ·exact h
  ·have e1:has [85,78,73,81,85,69] r=(true,ax r):=by unfold has;rw[hu];rfl
   rw[e1]at h ⊢;exact h
theorem yF{s s2:PS}{a:T}(hb:(bn [84,65,66,76,69] s).1=true)(h:Nx name (bn [84,65,66,76,69] s).2 a s2):Nx drop s { made 2 with name:=a } s2:=by
 rw[drop_eq];refine fS (A:=λr=>name r >>= λz => .ok ({ made 2 with name:=z.1 },z.2)) hb ?_;exact cE h (fo ({ made 2 with name:=a }:St) s2)
theorem yG{s s2:PS}{a:T}(hb:(bn [84,65,66,76,69] s).1=false)(h:Nx name (bE [73,78,68,69,88] s) a s2):Nx drop s { made 4 with name:=a } s2:=by
 rw[drop_eq];refine dq (A:=λr=>name (ax r) >>= λz => .ok ({ made 2 with name:=z.1 },z.2)) hb ?_;refine fw ?_;exact cE h (fo ({ made 4 with name:=a }:St) s2)
theorem AS{s s1 s2:PS}{a:T}{e:E}(h1:Nx name (bE [70,82,79,77] s) a s1)(h2:Nx wher s1 e s2):Nx iP s { made 7 with name:=a,wher:=e } s2:=by
 rw[tQ];refine fw ?_;refine cE h1 ?_;dsimp only;exact cE h2 (fo ({ made 7 with name:=a,wher:=e }:St) s2)
def kM:R->Except Er (St×R):=λr=>
 if isT [67,82,69,65,84,69] r=true then create (ax r)
 else if isT [68,82,79,80] r=true then drop (ax r)
 else if isT [73,78,83,69,82,84] r=true then insert (ax r)
 else if isT [85,80,68,65,84,69] r=true then update (ax r)
 else if isT [68,69,76,69,84,69] r=true then iP (ax r)
 else if isT [83,69,76,69,67,84] r=true then ga (ax r)
 else if isT [66,69,71,73,78] r=true then .ok (made 9,ax r)
 else if isT [67,79,77,77,73,84] r=true then .ok (made 10,ax r)
 else if isT [82,79,76,76,66,65,67,75] r=true then .ok (made 11,ax r)
 else bU 120 r
theorem ml{x:T}{r:R}(h:Gd r)(hx:P11.fI.contains x=false):(isT x r&&(nxt r).kind==2)=isT x r:=by
 have h2:=gl h hx;unfold isK at h2
 cases hi:isT x r
 ·rfl
 ·rw[hi]at h2;simp only[aT]at h2;rw[h2.1];rfl
theorem Ez{r:R}(h:Gd r):kM r=cA r:=by
 unfold kM cA;rw[ml h aq,ml h aq,ml h aq,ml h aq,ml h aq,ml h aq]
theorem iM{s s2:PS}{x:St}(hg:∀r,s = .ok r->Gd r)(h:Nx kM s x s2):Nx cA s x s2:=B5 h λr e=>Ez (hg r e)
end P12
namespace Go.Proofs.YtkpmclddjkebeaaGreatDoor
open Go.RowKit
open _root_.P12 (PS Gd okB cH isK cf Nx bn bE bZ bR ew dA de cB Sk inS Rw dF gJ)
def zN(n0 B gx gc:Nat)(t:P12.Tb)(k:List (List P12.T))(w:World):Prop:=∃col tc tk tq kc,Tab B gx t k col tc tk tq kc (xL t.name tc tk tq kc) w/\(B≤gc->col gc=9)/\∀b,n0≤b->col b=4
theorem dx.fresh{B gx gc:Nat}{t:P12.Tb}{k:List (List P12.T)}{w:World}(h:dx B gx gc t k w)(hg:gc<w.heap.size):zN w.heap.size B gx gc t k w:=by
 obtain⟨col,tc,tk,tq,kc,h,h9⟩:=h;exact⟨λb=>if b<w.heap.size then col b else 4,tc,tk,tq,kc,h.Ay _ (λb hb _=>by simp only[hb,if_true]),λhb=>(if_pos hg).trans (h9 hb),λb hb=>if_neg ab⟩
theorem zN.turn{n0 B gx gc br:Nat}{t:P12.Tb}{k:List (List P12.T)}{w w':World}(h:zN n0 B gx gc t k w)(ht:ah br w w')(h1:br<gx):zN n0 B gx gc t k w':=by
 obtain⟨col,tc,tk,tq,kc,h,h9⟩:=h;exact⟨col,tc,tk,tq,kc,h.turn ht h1,h9⟩
theorem zN.ext{n0 B gx gc:Nat}{t:P12.Tb}{k:List (List P12.T)}{w w':World}(h:zN n0 B gx gc t k w)(ht:Xk.Ext w w'):zN n0 B gx gc t k w':=by
 obtain⟨col,tc,tk,tq,kc,h,h9⟩:=h;exact⟨col,tc,tk,tq,kc,h.ext ht,h9⟩
theorem Cc(B gx gc n0:Nat)(t:P12.Tb)(k:List (List P12.T))(p:Bool)(l:List P12.T)(p1:Option Addr)(p2 p3:Nat)(w:World)(h:zN n0 B gx gc t k w)(hn0:B≤n0/\gc<n0/\n0≤w.heap.size)(hs:aE (λb=>n0≤b) w 1 lP l (.slice p1 p2 p3))(hl:t.keys.length≤100/\k.length≤100):
  Calls af 207 #[rp gx,.bool p,.slice p1 p2 p3] w λe w'=>e = .returned (.tuple #[])/\dx B gx gc { t with keys:=t.keys ++ [p] } (k ++ [l]) w'/\cD B gc [gx] w w':=by
 obtain⟨col0,tc,tk,tq,kc,T0,h90,hn4⟩:=h;obtain⟨a1,a2,b1,b2,c1,c2,d1,d2,rfl,rfl,rfl,rfl⟩:=T0.form;have lgx:gx<w.heap.size:=by have:=T0.bx;have:=T0.bs;omega
 have hgB:=T0.bx;obtain⟨col1,hcol1⟩:∃col1:Nat->Nat,∀b,col1 b=if b<w.heap.size then col0 b else 1:=⟨_,λ_=>rfl⟩
 have T1:=(T0.Ay col1 (λb hb _=>by rw[hcol1,if_pos hb])).ext (show Xk.Ext w (w.alloc (.cells (qS p).toArray 139))from(al _ _).alloc (ai _) _);have cK:w.cell? ⟨gx,3,none⟩=some (.slice b1 t.keys.length b2):=by simp[ak,T0.blk]
 obtain⟨us,-,hown,-,hu2,hu3,hu4⟩:=T1.tk
 have hlt:∀b,(gU b1 t.keys.length b2).ownBlock=some b->B≤b/\b<n0:=λb hb=>by
  obtain⟨⟨h1,h2⟩,h3⟩:=T0.tk.lt b hb;refine⟨h1,?_⟩;rcases jY b n0 with h|h
  ·exact h
  ·rw[hn4 b h]at h2;omega
 have hc9:B≤gc->col1 gc=9:=λh=>by rw[hcol1,if_pos ab];exact h90 h
 have HOW:=aa hown;have HU:=aa hu4;have T1H:=aa T1;have HS:=aa hs;have hbk:∀ (W:World),(cR 139 #[(2,bT true),(3,bT p)]).run af W = .ok (.agg (qS p).toArray) W:=λW=>by kernel_rfl
 have HBK:=aa hbk;clear hown hu4 T1 hs hbk T0;obtain⟨i0,hi,hz0,hz1,hz2⟩:=cP Tryz.Cl;have Hi:=aa hi;have Hz0:=aa hz0;have Hz1:=aa hz1;have Hz2:=aa hz2;clear hi hz0 hz1 hz2;go_enter Tryz.func207,Tryz.ntmps207
 go_upto_region 1 with(first|(refine cU rfl 139 _ rfl _ rfl _ (HBK.out _) ?_)|(at_builtin;refine Xo.bY 0 rfl _ _ 24 rfl 139 i0 _ 4 48 Tryz.underlying24 Hi.out Hz0.out Hz1.out Hz2.out rfl aq (.slice b1 t.keys.length b2) t.keys.length us.flatten rfl HOW.out w.heap.size 0 1 1 (qS p) rfl aq rfl (ey w _ _ rfl) (dS au) ab (gM _) ?_;intro v' w9 ho' hg' hk';obtain⟨z,cz,rfl⟩:=eR ho' ab;have T9:=Tab.Jc (x:=p) T1H.out (λb hb=>by rw[ag]at hb;rw[hcol1,if_neg ab]) hu2 hu3 HU.out hg' ho' hk' rfl rfl;have c9:w9.cell? ⟨gx,3,none⟩=some (.slice b1 t.keys.length b2):=(by simp[ak,T9.blk]);have f9:=aD w9 gx 3 _ _ T9.blk;have l9:=(ae.1 T9.blk).1;have HG9:=aa hg';have T9H:=aa T9;clear ho' hg' hk' T9))
 have hg9:=HG9.out;have hs9:=hg9.size;rw[ag]at hs9;have T12:=T9H.out.gV 3 (.slice (some ⟨z,0,none⟩) (t.keys.length+1) cz);have hs12:aE (λb=>n0≤b/\b<w.heap.size) (w9.setCell ⟨gx,3,none⟩ (.slice (some ⟨z,0,none⟩) (t.keys.length+1) cz)) 1 lP l (.slice p1 p2 p3):=HS.out.bg (λb hb hl=>(an w9 ⟨gx,3,none⟩ b _ (λe=>by(have h:b=gx:=(by simpa using e));omega)).trans ((hg9.block b (by rw[ag];omega) (λe=>by have:=(hlt b e.symm).2;omega)).trans ((xal w _).block b hl))) (λb hb hl=>⟨hb,hl⟩) (λ_ _ h=>h)
 have hK12:cD B gc [gx] w (w9.setCell ⟨gx,3,none⟩ (.slice (some ⟨z,0,none⟩) (t.keys.length+1) cz)):=(((cD.refl B gc [gx] w).trans (cD.aR (xal w _))).grown hg9 (λb hb=>⟨(hlt b hb).1,λhB e=>by have h2:=(T1H.out.tk.lt b hb).1.2;rw[e,hc9 hB]at h2;omega⟩)).setCell (.inr ⟨by simp,hgB⟩) 3 _;have hw12:w.heap.size≤(w9.setCell ⟨gx,3,none⟩ (.slice (some ⟨z,0,none⟩) (t.keys.length+1) cz)).heap.size:=by rw[aM];omega
 clear hg9 HG9 T9H c9 f9 l9;generalize w9.setCell ⟨gx,3,none⟩ (.slice (some ⟨z,0,none⟩) (t.keys.length+1) cz)=w12 at *
 have hlt2:∀b,(gU d1 k.length d2).ownBlock=some b->B≤b/\b<n0:=λb hb=>by
  obtain⟨⟨e1,e2⟩,e3⟩:=T12.kc.lt b hb;refine⟨e1,?_⟩;rcases jY b n0 with h|h
  ·exact h
  ·rw[hcol1]at e2;split at e2
   ·rw[hn4 b h]at e2;omega
   ·omega
 obtain⟨col2,hcol2⟩:∃col2:Nat->Nat,∀b,col2 b=if b<w12.heap.size then(if col1 b=4 then 3 else col1 b)else 3:=⟨_,λ_=>rfl⟩
 have T13:=(T12.Ay col2 (λb hb h4=>by rw[hcol2,if_pos hb,if_neg ab])).ext (show Xk.Ext w12 (w12.alloc (.cells #[.slice p1 p2 p3] 29))from(al _ _).alloc (ai _) _);obtain⟨us2,-,hown2,-,hv2,hv3,hv4⟩:=T13.kc
 have hxs:rC (λb=>(B≤b/\col2 b=3)/\¬ (gU d1 k.length d2).ownBlock=some b) (w12.alloc (.cells #[.slice p1 p2 p3] 29)) l [.slice p1 p2 p3]:=
  ⟨_,rfl,hs12.bg (λb hb hl=>(show Xk.Ext w12 _ from(al _ _).alloc (ai _) _).block b hl) (λb hb hl=>⟨⟨by omega,by rw[hcol2,if_pos hl,hcol1,if_pos hb.2,hn4 b hb.1,if_pos rfl]⟩,λe=>by have:=(hlt2 b e).2;omega⟩) (λ_ _ h=>h)⟩
 have c12:w12.cell? ⟨gx,5,none⟩=some (.slice d1 k.length d2):=by simp[ak,T12.blk]
 have lx12:gx<w12.heap.size:=ab
 have hc29:B≤gc->col2 gc=9:=λh=>by
  have h2:=h90 h;rw[hcol2,if_pos (show gc<w12.heap.size by omega),hcol1,if_pos (show gc<w.heap.size by omega),h2];rfl
 have HOW2:=aa hown2;have T13H:=aa T13;have HV4:=aa hv4;have HXS:=aa hxs;clear Hi Hz0 Hz1 Hz2 i0 hown2 T12 T13 hv4 hxs cK;obtain⟨i0,hi,hz0,hz1,hz2⟩:=cP Tryz.ze;have Hi:=aa hi;have Hz0:=aa hz0;have Hz1:=aa hz1;have Hz2:=aa hz2;clear hi hz0 hz1 hz2
 go_wp2_with (at_builtin;refine Xo.bY 0 rfl _ _ 28 rfl 29 i0 _ 1 24 Tryz.underlying28 Hi.out Hz0.out Hz1.out Hz2.out rfl aq (.slice d1 k.length d2) k.length us2.flatten rfl HOW2.out w12.heap.size 0 1 1 [.slice p1 p2 p3] rfl aq rfl (ey w12 _ _ rfl) (dS au) ab (gM _) ?_;intro v' w13 ho' hg' hk';obtain⟨z2,cz2,rfl⟩:=eR ho' ab;have T14:=Tab.Ja (x:=l) T13H.out (λb hb=>by rw[ag]at hb;rw[hcol2,if_neg ab]) hv2 hv3 HV4.out hg' ho' hk' rfl HXS.out;have c13:w13.cell? ⟨gx,5,none⟩=some (.slice d1 k.length d2):=(by simp[ak,T14.blk]);have f13:=aD w13 gx 5 _ _ T14.blk;have l13:=(ae.1 T14.blk).1;have HG13:=aa hg';have T14H:=aa T14;clear ho' hg' hk' T14)
 go_end0
 exact⟨rfl,⟨col2,_,_,_,_,T14H.out.gV 5 (.slice (some ⟨z2,0,none⟩) (k.length+1) cz2),hc29⟩,((hK12.trans (cD.aR (xal w12 _))).grown HG13.out (λb hb=>⟨(hlt2 b hb).1,λhB e=>by have h2:=(T13H.out.kc.lt b hb).1.2;rw[e,hc29 hB]at h2;omega⟩)).setCell (.inr ⟨by simp,hgB⟩) 5 _⟩
theorem Cw(br gx gc B:Nat)(t:P12.Tb)(k:List (List P12.T))(s:PS)(w:World)(hr:Ps br s w)(hx:dx B gx gc t k w)(h1:br<gx)(hgs:gc<w.heap.size)(hl:t.checks.length≤100):
  Calls af 208 #[rp br,.pointer (some ⟨gx,1,none⟩)] w λe w'=>∃x s',e = .returned (.tuple #[])/\dx B gx gc { t with checks:=t.checks ++ [x] } k w'/\cD B gc [br,gx] w w'/\Ps br s' w'/\Nx (P12.within P12.expr) s x s'/\Sk s s':=by
 have HG:=aa hr.gds;have HR:=aa hr;have HX:=aa hx;have HB:=hx.bounds;have lr:=hr.lt;have HD:=aa λ(s5:PS) (h:Sk (inS s) s5)=>P12.xm HG.out h;clear hr hx;obtain⟨i0,hi,hz0,hz1,hz2⟩:=cP Tryz.jH;have Hi:=aa hi;have Hz0:=aa hz0;have Hz1:=aa hz1;have Hz2:=aa hz2;clear hi hz0 hz1 hz2;go_enter Tryz.func208,Tryz.ntmps208;go_wp2_with fail;refine(nu br s [40] _ HR.out).mono ?_;rintro e w1 ⟨rfl,hx1⟩
 cases hb:isK 5 [40] s
 case' true=>
  go_wp2_with fail;refine(sU br s _ (HR.out.ext hx1)).mono ?_;rintro e w2 ⟨rfl,ht2,hp2⟩;have hT2:ah br w w2:=ah.trans (ah.aR hx1) ht2;have hin:bE [40] (dA s)=inS s:=by unfold inS;rw[hb];rfl
  clear ht2 hx1 hb
 case' false=>
  have hp2:=HR.out.ext hx1;have hT2:ah br w w1:=ah.aR hx1;have hin:bE [40] s=inS s:=by unfold inS;rw[hb];rfl
  clear hx1 hb;generalize w1=w2 at *
 all_goals
  go_wp2_with fail;refine(dO br _ [40] aq _ hp2).mono ?_;rintro e w3 ⟨rfl,ht3,hp3⟩;rw[hin]at hp3;have hT3:=ah.trans hT2 ht3;have hs3:=hT3.size;have HP3:=aa hp3;clear hp2 hT2 hin ht3 hp3;go_upto_region 3 with fail
  go_cut []from 4 (λw'=>∃x s4,dx B gx gc { t with checks:=t.checks ++ [x] } k w'/\cD B gc [br,gx] w w'/\Ps br s4 w'/\Nx P12.expr (inS s) x s4/\Sk (inS s) s4)
  case rest=>
   obtain⟨x,s4,hA,hK,hp,hn,hsk⟩:=hcut;clear HP3 hT3 hs3;obtain⟨-,hd,hs⟩:=HD.out _ (hsk.trans (P12.du [41] s4));have HN:=aa (P12.Di HG.out hn);clear hn hsk;go_wp2_with fail;refine(dO br s4 [41] aq _ hp).mono ?_;rintro e w5 ⟨rfl,ht5,hp5⟩;go_wp2_with fail;refine(mX br _ _ hp5 hd).mono ?_;rintro e w6 ⟨rfl,ht6,hp6⟩;have ht:=ah.trans ht5 ht6;go_wp2_with fail;go_end0
   exact⟨x,_,rfl,hA.turn ht h1,hK.trans (cD.bB ht aI ab),hp6,HN.out,hs⟩
  case first=>
   have HT3:=aa hT3;obtain⟨col,tc,tk,tq,kc,T0,h9⟩:=HX.out.turn hT3 h1;have T:=T0.yh 2;obtain⟨a1,a2,b1,b2,c1,c2,d1,d2,rfl,rfl,rfl,rfl⟩:=T.form;have hG1:w3.cell? ⟨gx,4,none⟩=some (.slice c1 t.checks.length c2):=by simp[ak,T.blk]
   have G1:=aa hG1;clear hG1 T0 hT3 HX;go_wp2
   refine Xg.ed (E:=ah br) (Xe.bS _) (λch W=>False) 5 8 (λ_=>none) (λ_ _ h=>by cases h) (λ_ _ _ _ h=>by cases h) [(5,nS br w3.heap.size P12.expr (inS s)),(7,nC w3)] au au (Xg.cg ((by
       intro y hy;simp only[aJ,aF,or_false]at hy;rcases hy with rfl|rfl
       ·rw[if_pos rfl];exact nS.ext
       ·rw[if_neg (show ¬ (7=5) by decide)];exact nC.turn ab))) ((λch a w' hd hX=>hX.elim)) 6 rfl ?_
   simp only[aG,aY,aL,bd];refine Xg.gs ?_;refine Xs.gf (show w3.drew.cell? ⟨gx,4,none⟩=some (.slice c1 t.checks.length c2)from G1.out) ?_;refine Xg.gs ?_;(refine Xg.dM az az rfl (λW hx hp=>?_) (λu K hK=>?_);(go_simp;((refine(kX br _ W (HP3.out.drew.ext hx)).mono ?_);intro e w8 h;obtain⟨v8,y,s8,rfl,⟨l8,rfl,he8⟩,h2,h3,h4,h5⟩:=h;exact kr ⟨_,rfl,h2,⟨l8,y,s8,rfl,he8.mono (λb hb _=>by have:=hx.size;simp only[bM]at this;omega),h3,h4,h5⟩,λb hb=>by cases hb⟩));(go_simp;refine hK _ ?_;clear hK K))
   refine Xg.gs ?_;(refine Xg.bc az az aq (λW hx hp=>?_) (λu2 K hK=>?_);((go_simp;exact⟨(al _ _).alloc (ai _) _,⟨W.heap.size,rfl,by simpa using hx.size,aw W _⟩,λb hb=>by cases hb;exact⟨.inr (ai _),by simp⟩⟩));(go_simp;refine hK _ ?_;clear hK K))
   refine Xg.bD (λW hx hp hg=>?_);obtain⟨⟨g,rfl,hge,hgc⟩,⟨l,x,s4,rfl,he,hr1,hn1,hk1⟩,-⟩:=hp;have hx':ah br w3 W:=(ah.drew (ah.refl _ _)).trans hx;have hsz:=hx'.size;have TW:=T.turn hx' h1;have HTW:=aa TW;obtain⟨us,-,hown,hS,hu2,hu3,hu4⟩:=TW.tq;have HU:=aa hu4;have hlt0:=T.tq.lt;have hlt:=TW.tq.lt;have hcg:B≤gc->(λb=>if b<w3.heap.size then col b else 2) gc=9:=λh=>(if_pos ab).trans (h9 h);have hnew:∀b,w3.heap.size≤b->(λb=>if b<w3.heap.size then col b else 2) b=2:=λb hb=>if_neg ab;clear hu4 hx hg TW;refine Xg.bK (k:=8) au rfl ?_
   refine Xo.bY 0 rfl _ _ 25 rfl 35 i0 _ 10 120 ku Hi.out Hz0.out Hz1.out Hz2.out rfl aq (.slice c1 t.checks.length c2) t.checks.length us.flatten rfl hown g 0 1 1 noE rfl aq rfl (jJ hgc) (dS au) ab (gM _) ?_;intro v' w7 ho' hg' hk';obtain⟨z,cz,rfl⟩:=eR ho' ab;have T7:=Tab.Jb (x:=P12.E.none) HTW.out (λb hb=>hnew b ab) hu2 hu3 HU.out hg' ho' hk' rfl rfl;have HE7:=aa (he.bg (S':=λb=>w3.heap.size≤b/\b<W.heap.size) (w':=w7) (λb hb hl=>hg'.block b hl (λe=>by have:=(hlt0 b e.symm).2;omega)) (λb hb hl=>⟨hb,hl⟩));have HR7:=aa (hr1.grown hg' (λb hb=>by have:=(hlt b hb).1.1;omega))
   have HK7:=aa ((cD.bB (B:=B) (gc:=gc) (ks := [br,gx]) (ah.trans HT3.out hx') aI ab).grown hg' (λb hb=>⟨(hlt b hb).1.1,λhB e=>by have h2:=(hlt b hb).1.2;rw[e]at h2;have h3:=hcg hB;dsimp only at h2 h3;omega⟩));have HN1:=aa hn1;have HS1:=aa hk1;have hzB:B≤z:=(T7.tq.lt z rfl).1.1;have hzG:B≤z/\(B≤gc->z≠gc):=⟨hzB,λhB e=>by have h2:=(T7.tq.lt z rfl).1.2;rw[e]at h2;have h3:=hcg hB;dsimp only at h2 h3;omega⟩
   have hzW:∀b,w3.heap.size≤b->b<W.heap.size->¬ z=b:=λb h1 h2 e=>by
    subst e;rcases hk' z rfl with h|h
    ·have:=(hlt0 z h).2;omega
    ·omega
   obtain⟨-,cur,hcur,hcs0⟩:=T7.tq.mem
   have hcs:t.checks.length*10+10≤cur.size:=by
    have:(t.checks ++ [P12.E.none]).length=t.checks.length+1:=aI
    rw[show({ t with checks:=t.checks ++ [P12.E.none] }:P12.Tb).checks=t.checks ++ [P12.E.none]from rfl,this]at hcs0;omega
   have HC7:=aa hcur;have hb7:w7.cell? ⟨gx,4,none⟩=some (.slice c1 t.checks.length c2):=by simp[ak,T7.blk]
   have f7:=aD w7 gx 4 _ _ T7.blk;have T7H:=aa T7;have l7:=(ae.1 T7.blk).1;clear ho' hg' hk' hlt hown hu2 hu3 HU us HTW hx' hgc hge hr1 he hcur T7 T hS hcs0 hn1 hk1 HT3 HP3;show wpAny _ _ _ _ _ _ _ _
   obtain⟨kd,op',vk,vi,vs,tb,nm,pp,pm,pc,rfl⟩:=HE7.out.form;refine Xg.dC (j:=9) (k:=11) au rfl rfl ?_ ?_
   ·go_wp2;show wpAny _ _ _ _ _ _ _ _
    refine Xg.dC (j:=10) (k:=11) au rfl rfl ?_ ?_
    ·refine aV rfl 35 _ _ rfl z (t.checks.length*10) cur _ 35 rfl rfl HC7.out hcs au au ?_;intro w8 hp8;show wpAny _ _ _ _ _ _ _ _
     have T8:=Tab.kj T7H.out HC7.out hp8 rfl (HE7.out.bg (λ_ _ _=>rfl) (λb hb _=>⟨⟨by omega,hnew b hb.1⟩,hzW b hb.1 hb.2⟩));have hb8:w8.cell? ⟨gx,4,none⟩=some (.slice c1 t.checks.length c2):=by simp[ak,T8.blk]
     have f8:=aD w8 gx 4 _ _ T8.blk;have T8H:=aa T8;have HP8:=aa hp8;clear T8 hp8;refine Xg.bK (k:=11) au rfl ?_;go_wp2;show wpAny _ _ _ _ _ _ _ _
     refine Xg.bK (k:=12) au rfl ?_;go_wp2;show wpAny _ _ _ _ _ _ _ _
     refine Xg.bK (k:=13) au rfl ?_;go_wp2;show wpAny _ _ _ _ _ _ _ _
     refine Xg.any_nil au ?_;go_wp2;go_meet
     case rel=>exact⟨x,s4,⟨_,_,_,_,_,T8H.out.gV 4 (.slice (some ⟨z,0,none⟩) (t.checks.length+1) cz),hcg⟩,(HK7.out.trans (cD.dd HP8.out hzG)).setCell (.inr ⟨by simp,HB.1⟩) _ _,Ps.setCell (bt.ps HP8.out HR7.out ab) h1 _ _,HN1.out,HS1.out⟩
    ·go_wp2;show wpAny _ _ _ _ _ _ _ _
     refine Xg.dC (j:=10) (k:=12) au rfl rfl ?_ ?_
     ·refine aV rfl 35 _ _ rfl z (t.checks.length*10) cur _ 35 rfl rfl HC7.out hcs au au ?_;intro w8 hp8;show wpAny _ _ _ _ _ _ _ _
      have T8:=Tab.kj T7H.out HC7.out hp8 rfl (HE7.out.bg (λ_ _ _=>rfl) (λb hb _=>⟨⟨by omega,hnew b hb.1⟩,hzW b hb.1 hb.2⟩));have hb8:w8.cell? ⟨gx,4,none⟩=some (.slice c1 t.checks.length c2):=by simp[ak,T8.blk]
      have f8:=aD w8 gx 4 _ _ T8.blk;have T8H:=aa T8;have HP8:=aa hp8;clear T8 hp8;refine Xg.bK (k:=12) au rfl ?_;go_wp2;show wpAny _ _ _ _ _ _ _ _
      refine Xg.bK (k:=13) au rfl ?_;go_wp2;show wpAny _ _ _ _ _ _ _ _
      refine Xg.any_nil au ?_;go_wp2;go_meet
      case rel=>exact⟨x,s4,⟨_,_,_,_,_,T8H.out.gV 4 (.slice (some ⟨z,0,none⟩) (t.checks.length+1) cz),hcg⟩,(HK7.out.trans (cD.dd HP8.out hzG)).setCell (.inr ⟨by simp,HB.1⟩) _ _,Ps.setCell (bt.ps HP8.out HR7.out ab) h1 _ _,HN1.out,HS1.out⟩
     ·go_wp2;show wpAny _ _ _ _ _ _ _ _
      refine Xg.dC (j:=10) (k:=13) au rfl rfl ?_ ?_
      ·refine aV rfl 35 _ _ rfl z (t.checks.length*10) cur _ 35 rfl rfl HC7.out hcs au au ?_;intro w8 hp8;show wpAny _ _ _ _ _ _ _ _
       have T8:=Tab.kj T7H.out HC7.out hp8 rfl (HE7.out.bg (λ_ _ _=>rfl) (λb hb _=>⟨⟨by omega,hnew b hb.1⟩,hzW b hb.1 hb.2⟩));have hb8:w8.cell? ⟨gx,4,none⟩=some (.slice c1 t.checks.length c2):=by simp[ak,T8.blk]
       have f8:=aD w8 gx 4 _ _ T8.blk;have T8H:=aa T8;have HP8:=aa hp8;clear T8 hp8;refine Xg.bK (k:=13) au rfl ?_;go_wp2;show wpAny _ _ _ _ _ _ _ _
       refine Xg.any_nil au ?_;go_wp2;go_meet
       case rel=>exact⟨x,s4,⟨_,_,_,_,_,T8H.out.gV 4 (.slice (some ⟨z,0,none⟩) (t.checks.length+1) cz),hcg⟩,(HK7.out.trans (cD.dd HP8.out hzG)).setCell (.inr ⟨by simp,HB.1⟩) _ _,Ps.setCell (bt.ps HP8.out HR7.out ab) h1 _ _,HN1.out,HS1.out⟩
      ·go_wp2;show wpAny _ _ _ _ _ _ _ _
       refine Xg.bK (k:=10) au rfl ?_;refine aV rfl 35 _ _ rfl z (t.checks.length*10) cur _ 35 rfl rfl ((an w7 ⟨gx,4,none⟩ z _ (λe=>by(have h:z=gx:=(by simpa using e));omega)).trans HC7.out) hcs au au ?_;intro w8 hp8;show wpAny _ _ _ _ _ _ _ _
       refine Xg.any_nil au ?_;go_wp2;go_meet
       have hrst:∀b,b≠gx->(w7.setCell ⟨gx,4,none⟩ (.slice (some ⟨z,0,none⟩) (t.checks.length+1) cz)).heap[b]?=w7.heap[b]?:=λb hb=>an w7 ⟨gx,4,none⟩ b _ (λe=>hb (by simpa using e))
       case rel=>exact⟨x,s4,⟨_,_,_,_,_,Tab.kj (T7H.out.gV 4 (.slice (some ⟨z,0,none⟩) (t.checks.length+1) cz)) ((hrst z ab).trans HC7.out) hp8 rfl (HE7.out.bg (λb hb hl=>hrst b ab) (λb hb _=>⟨⟨by omega,hnew b hb.1⟩,hzW b hb.1 hb.2⟩)),hcg⟩,(HK7.out.setCell (.inr ⟨by simp,HB.1⟩) _ _).trans (cD.dd hp8 hzG),bt.ps hp8 (Ps.setCell HR7.out h1 _ _) ab,HN1.out,HS1.out⟩
   ·go_wp2;show wpAny _ _ _ _ _ _ _ _
    refine Xg.dC (j:=9) (k:=12) au rfl rfl ?_ ?_
    ·go_wp2;show wpAny _ _ _ _ _ _ _ _
     refine Xg.dC (j:=10) (k:=12) au rfl rfl ?_ ?_
     ·refine aV rfl 35 _ _ rfl z (t.checks.length*10) cur _ 35 rfl rfl HC7.out hcs au au ?_;intro w8 hp8;show wpAny _ _ _ _ _ _ _ _
      have T8:=Tab.kj T7H.out HC7.out hp8 rfl (HE7.out.bg (λ_ _ _=>rfl) (λb hb _=>⟨⟨by omega,hnew b hb.1⟩,hzW b hb.1 hb.2⟩));have hb8:w8.cell? ⟨gx,4,none⟩=some (.slice c1 t.checks.length c2):=by simp[ak,T8.blk]
      have f8:=aD w8 gx 4 _ _ T8.blk;have T8H:=aa T8;have HP8:=aa hp8;clear T8 hp8;refine Xg.bK (k:=12) au rfl ?_;go_wp2;show wpAny _ _ _ _ _ _ _ _
      refine Xg.bK (k:=13) au rfl ?_;go_wp2;show wpAny _ _ _ _ _ _ _ _
      refine Xg.any_nil au ?_;go_wp2;go_meet
      case rel=>exact⟨x,s4,⟨_,_,_,_,_,T8H.out.gV 4 (.slice (some ⟨z,0,none⟩) (t.checks.length+1) cz),hcg⟩,(HK7.out.trans (cD.dd HP8.out hzG)).setCell (.inr ⟨by simp,HB.1⟩) _ _,Ps.setCell (bt.ps HP8.out HR7.out ab) h1 _ _,HN1.out,HS1.out⟩
     ·go_wp2;show wpAny _ _ _ _ _ _ _ _
      refine Xg.dC (j:=10) (k:=13) au rfl rfl ?_ ?_
      ·refine aV rfl 35 _ _ rfl z (t.checks.length*10) cur _ 35 rfl rfl HC7.out hcs au au ?_;intro w8 hp8;show wpAny _ _ _ _ _ _ _ _
       have T8:=Tab.kj T7H.out HC7.out hp8 rfl (HE7.out.bg (λ_ _ _=>rfl) (λb hb _=>⟨⟨by omega,hnew b hb.1⟩,hzW b hb.1 hb.2⟩));have hb8:w8.cell? ⟨gx,4,none⟩=some (.slice c1 t.checks.length c2):=by simp[ak,T8.blk]
       have f8:=aD w8 gx 4 _ _ T8.blk;have T8H:=aa T8;have HP8:=aa hp8;clear T8 hp8;refine Xg.bK (k:=13) au rfl ?_;go_wp2;show wpAny _ _ _ _ _ _ _ _
       refine Xg.any_nil au ?_;go_wp2;go_meet
       case rel=>exact⟨x,s4,⟨_,_,_,_,_,T8H.out.gV 4 (.slice (some ⟨z,0,none⟩) (t.checks.length+1) cz),hcg⟩,(HK7.out.trans (cD.dd HP8.out hzG)).setCell (.inr ⟨by simp,HB.1⟩) _ _,Ps.setCell (bt.ps HP8.out HR7.out ab) h1 _ _,HN1.out,HS1.out⟩
      ·go_wp2;show wpAny _ _ _ _ _ _ _ _
       refine Xg.bK (k:=10) au rfl ?_;refine aV rfl 35 _ _ rfl z (t.checks.length*10) cur _ 35 rfl rfl ((an w7 ⟨gx,4,none⟩ z _ (λe=>by(have h:z=gx:=(by simpa using e));omega)).trans HC7.out) hcs au au ?_;intro w8 hp8;show wpAny _ _ _ _ _ _ _ _
       refine Xg.any_nil au ?_;go_wp2;go_meet
       have hrst:∀b,b≠gx->(w7.setCell ⟨gx,4,none⟩ (.slice (some ⟨z,0,none⟩) (t.checks.length+1) cz)).heap[b]?=w7.heap[b]?:=λb hb=>an w7 ⟨gx,4,none⟩ b _ (λe=>hb (by simpa using e))
       case rel=>exact⟨x,s4,⟨_,_,_,_,_,Tab.kj (T7H.out.gV 4 (.slice (some ⟨z,0,none⟩) (t.checks.length+1) cz)) ((hrst z ab).trans HC7.out) hp8 rfl (HE7.out.bg (λb hb hl=>hrst b ab) (λb hb _=>⟨⟨by omega,hnew b hb.1⟩,hzW b hb.1 hb.2⟩)),hcg⟩,(HK7.out.setCell (.inr ⟨by simp,HB.1⟩) _ _).trans (cD.dd hp8 hzG),bt.ps hp8 (Ps.setCell HR7.out h1 _ _) ab,HN1.out,HS1.out⟩
    ·go_wp2;show wpAny _ _ _ _ _ _ _ _
     refine Xg.dC (j:=9) (k:=13) au rfl rfl ?_ ?_
     ·go_wp2;show wpAny _ _ _ _ _ _ _ _
      refine Xg.dC (j:=10) (k:=13) au rfl rfl ?_ ?_
      ·refine aV rfl 35 _ _ rfl z (t.checks.length*10) cur _ 35 rfl rfl HC7.out hcs au au ?_;intro w8 hp8;show wpAny _ _ _ _ _ _ _ _
       have T8:=Tab.kj T7H.out HC7.out hp8 rfl (HE7.out.bg (λ_ _ _=>rfl) (λb hb _=>⟨⟨by omega,hnew b hb.1⟩,hzW b hb.1 hb.2⟩));have hb8:w8.cell? ⟨gx,4,none⟩=some (.slice c1 t.checks.length c2):=by simp[ak,T8.blk]
       have f8:=aD w8 gx 4 _ _ T8.blk;have T8H:=aa T8;have HP8:=aa hp8;clear T8 hp8;refine Xg.bK (k:=13) au rfl ?_;go_wp2;show wpAny _ _ _ _ _ _ _ _
       refine Xg.any_nil au ?_;go_wp2;go_meet
       case rel=>exact⟨x,s4,⟨_,_,_,_,_,T8H.out.gV 4 (.slice (some ⟨z,0,none⟩) (t.checks.length+1) cz),hcg⟩,(HK7.out.trans (cD.dd HP8.out hzG)).setCell (.inr ⟨by simp,HB.1⟩) _ _,Ps.setCell (bt.ps HP8.out HR7.out ab) h1 _ _,HN1.out,HS1.out⟩
      ·go_wp2;show wpAny _ _ _ _ _ _ _ _
       refine Xg.bK (k:=10) au rfl ?_;refine aV rfl 35 _ _ rfl z (t.checks.length*10) cur _ 35 rfl rfl ((an w7 ⟨gx,4,none⟩ z _ (λe=>by(have h:z=gx:=(by simpa using e));omega)).trans HC7.out) hcs au au ?_;intro w8 hp8;show wpAny _ _ _ _ _ _ _ _
       refine Xg.any_nil au ?_;go_wp2;go_meet
       have hrst:∀b,b≠gx->(w7.setCell ⟨gx,4,none⟩ (.slice (some ⟨z,0,none⟩) (t.checks.length+1) cz)).heap[b]?=w7.heap[b]?:=λb hb=>an w7 ⟨gx,4,none⟩ b _ (λe=>hb (by simpa using e))
       case rel=>exact⟨x,s4,⟨_,_,_,_,_,Tab.kj (T7H.out.gV 4 (.slice (some ⟨z,0,none⟩) (t.checks.length+1) cz)) ((hrst z ab).trans HC7.out) hp8 rfl (HE7.out.bg (λb hb hl=>hrst b ab) (λb hb _=>⟨⟨by omega,hnew b hb.1⟩,hzW b hb.1 hb.2⟩)),hcg⟩,(HK7.out.setCell (.inr ⟨by simp,HB.1⟩) _ _).trans (cD.dd hp8 hzG),bt.ps hp8 (Ps.setCell HR7.out h1 _ _) ab,HN1.out,HS1.out⟩
     ·go_wp2;show wpAny _ _ _ _ _ _ _ _
      refine Xg.bK (k:=9) au rfl ?_;go_wp2;show wpAny _ _ _ _ _ _ _ _
      refine Xg.bK (k:=10) au rfl ?_;refine aV rfl 35 _ _ rfl z (t.checks.length*10) cur _ 35 rfl rfl ((an w7 ⟨gx,4,none⟩ z _ (λe=>by(have h:z=gx:=(by simpa using e));omega)).trans HC7.out) hcs au au ?_;intro w8 hp8;show wpAny _ _ _ _ _ _ _ _
      refine Xg.any_nil au ?_;go_wp2;go_meet
      have hrst:∀b,b≠gx->(w7.setCell ⟨gx,4,none⟩ (.slice (some ⟨z,0,none⟩) (t.checks.length+1) cz)).heap[b]?=w7.heap[b]?:=λb hb=>an w7 ⟨gx,4,none⟩ b _ (λe=>hb (by simpa using e))
      case rel=>exact⟨x,s4,⟨_,_,_,_,_,Tab.kj (T7H.out.gV 4 (.slice (some ⟨z,0,none⟩) (t.checks.length+1) cz)) ((hrst z ab).trans HC7.out) hp8 rfl (HE7.out.bg (λb hb hl=>hrst b ab) (λb hb _=>⟨⟨by omega,hnew b hb.1⟩,hzW b hb.1 hb.2⟩)),hcg⟩,(HK7.out.setCell (.inr ⟨by simp,HB.1⟩) _ _).trans (cD.dd hp8 hzG),bt.ps hp8 (Ps.setCell HR7.out h1 _ _) ab,HN1.out,HS1.out⟩
end Go.Proofs.YtkpmclddjkebeaaGreatDoor
namespace P12
structure Sm(c:Nat)(t:Tb)(k:List (List T))(n:Nat):Prop where
 sum:t.cols.length+t.keys.length+t.checks.length+c≤n
 keys:k.length=t.keys.length
 most:n≤18
theorem Sm.add{c:Nat}{t:Tb}{k:List (List T)}{n:Nat}(h:Sm c t k n)(hn:n+1≤18)(o:Con):Sm c (gq t o) (jw k o) (n+1):=by
 obtain⟨h1,h2,h3⟩:=h
 cases o with
 | inl e=>exact⟨by simp[gq];omega,by simpa[gq,jw]using h2,hn⟩
 | inr p=>exact⟨by simp[gq];omega,by simp[gq,jw,h2],hn⟩
theorem Sk.E3{a:PS}{r:R}(h:Sk a (.ok r)):∃r0,a = .ok r0:=by
 cases a with
 | error e=>cases h
 | ok r0=>exact⟨r0,rfl⟩
theorem Fm{s:PS}(hg:∀r,s = .ok r->Gd r){r:R}(h:(bZ s).2 = .ok r):(bZ s).1 ≠ []:=by
 cases s with
 | error e=>cases h
 | ok r0=>
  unfold bZ at h ⊢;dsimp only at h ⊢
  cases hn:name r0 with
  | error e=>rw[hn]at h;cases h
  | ok p=>exact B7 (hg r0 rfl).good hn
theorem dT{x:T}{r:R}(h:isT x r=true):bn x (.ok r)=(true,.ok (ax r)):=by
 unfold bn has;dsimp only;rw[if_pos h]
theorem fk{x:T}{r:R}(h:isT x r=false):bn x (.ok r)=(false,.ok r):=by
 unfold bn has;dsimp only;rw[if_neg (by rw[h];simp)]
theorem mz{n:Nat}{r r':R}{s:PS}(h:Sk (ik n r) s)(e:s = .ok r'):n+1≤16:=by
 by_cases hn:16<n+1
 ·rw[nQ hn]at h;subst e
  cases h
 ·omega
end P12
namespace Go.Proofs.YtkpmclddjkebeaaGreatDoor
open Go.RowKit
open _root_.P12 (PS Gd okB cH isK cf Nx bn bE bZ bR ew dA de cB Sk inS Rw dF gJ Sm Tl ik)
theorem Ps.kept{br B:Nat}{ks:List Nat}{s:PS}{w w':World}(h:Ps br s w)(hk:Kept B ks w w')(hB:br<B)(hks:∀x∈ks,br<x):Ps br s w':=by
 obtain⟨b,cap,L,i,d,a,e,h,hs⟩:=h;have hl:=h.lo;have hb:∀x,x≤br->x<w.heap.size->w'.heap[x]?=w.heap[x]?:=λx hx hlt=>hk.block x ab hlt (λhm=>by have:=hks x hm;omega)
 have hc:∀ {c o:Nat} {v:Value},c≤br->w.cell? ⟨c,o,none⟩=some v->w'.cell? ⟨c,o,none⟩=some v:=fun {c o v} hle hc=>by
  rw[kf (hb c hle (ay _ _ hc))];exact hc
 refine⟨b,cap,L,i,d,a,e,⟨(hb br (ai _) (ae.1 h.blk).1).trans h.blk,h.lo,h.cap,⟨aK h.toks.1 hk.size,λj t hj=>?_⟩,h.hi,h.len⟩,hs⟩;obtain⟨h1,h2,h3⟩:=h.toks.2 j t hj;exact⟨hc ab h1,hc ab h2,hc ab h3⟩
theorem yl{br:Nat}{r:P12.R}{s2:PS}{w w':World}(h:Ps br (.ok r) w)(h2:Ps br s2 w')(hlt:∀r3,s2 = .ok r3->r3.l.length<r.l.length):eB br w'<eB br w:=by
 rw[h.len];have:=h.gd.good.pos
 cases s2 with
 | error e=>rw[h2.tA];omega
 | ok r3=>rw[h2.len];exact hlt r3 rfl
structure Cd(br gx gc B:Nat)(w0:World)(t:P12.Tb)(k:List (List P12.T))(c:P12.T)(ty:Int)(nn:Bool)(s:PS)(w:World):Prop where
 ps:Ps br s w
 tab:dx B gx gc t k w
 col:w.heap[gc]?=some (.cells #[bs c,.int .i64 ty,.bool nn] 137)
 kept:Kept B [br,gx] w0 w
 h1:br<gx
 h2:B≤gc
section
variable {br gx gc B : Nat} {w0 : World} {t t' : P12.Tb} {k k' : List (List P12.T)} {c : P12.T} {ty : Int} {nn : Bool} {s s' : PS} {w w' : World}
theorem Cd.step(F:Cd br gx gc B w0 t k c ty nn s w)(ht:ah br w w')(hp:Ps br s' w'):Cd br gx gc B w0 t k c ty nn s' w':=by
 obtain⟨a1,a2,a3,a4,a5,a6⟩:=F;have hb:=a2.bounds;exact⟨hp,a2.turn ht a5,ht.held a3 ab,a4.trans (Kept.bB ht aI),a5,a6⟩
theorem Cd.ext(F:Cd br gx gc B w0 t k c ty nn s w)(hx:Xk.Ext w w'):Cd br gx gc B w0 t k c ty nn s w':=F.step (ah.aR hx) (F.ps.ext hx)
theorem Cd.gs(F:Cd br gx gc B w0 t k c ty nn s w):gc<w.heap.size:=(ae.1 F.col).1
theorem Cd.cells(F:Cd br gx gc B w0 t k c ty nn s w):w.cell? ⟨gc,0,none⟩=some (bs c)/\w.cell? ⟨gc,1,none⟩=some (.int .i64 ty)/\w.cell? ⟨gc,2,none⟩=some (.bool nn)/\w.frozen? ⟨gc,1,none⟩=false/\w.frozen? ⟨gc,2,none⟩=false:=by
 refine⟨?_,?_,?_,aD w gc 1 _ _ F.col,aD w gc 2 _ _ F.col⟩<;>simp[ak,F.col]
theorem Cd.oL(F:Cd br gx gc B w0 t k c ty nn s w)(o:Nat)(u:Value){ty':Int}{nn':Bool}(h:(#[bs c,.int .i64 ty,.bool nn]:Array Value).setIfInBounds o u = #[bs c,.int .i64 ty',.bool nn']):Cd br gx gc B w0 t k c ty' nn' s (w.setCell ⟨gc,o,none⟩ u):=by
 obtain⟨a1,a2,a3,a4,a5,a6⟩:=F;have hb:=a2.bounds;exact⟨Ps.setCell a1 ab _ _,a2.oL a6 _ _,(heap_setCell_same w gc o _ _ _ a3).trans (by rw[h]),a4.setCell (.inl a6) _ _,a5,a6⟩
theorem Cd.con(F:Cd br gx gc B w0 t k c ty nn s w){ks:List Nat}(hA:dx B gx gc t' k' w')(hK:cD B gc ks w w')(hks:∀x∈ks,x ∈ [br,gx])(hp:Ps br s' w'):Cd br gx gc B w0 t' k' c ty nn s' w':=by
 have hg:=F.gs;obtain⟨a1,a2,a3,a4,a5,a6⟩:=F;exact⟨hp,hA,(hK.fore a6 hg).trans a3,a4.trans (hK.kept.mono (ai _) hks),a5,a6⟩
end
def IX(br gx B n:Nat)(t:P12.Tb)(k:List (List P12.T))(s:PS)(w:World)(e:Ending)(w':World):Prop:=∃t' k' n' s',e = .returned (.int .i64 (n':Nat))/\dx B gx 0 t' k' w'/\Kept B [br,gx] w w'/\Ps br s' w'/\Nx (P12.yq t k n) s (t',k',n') s'/\Sk s s'/\Sm 0 t' k' n'/\∀r,s' = .ok r->n'≤16
theorem KB(br gx B n:Nat)(t:P12.Tb)(k:List (List P12.T))(s:PS)(w:World)(hr:Ps br s w)(hx:dx B gx 0 t k w)(h1:br<gx)(hsm:Sm 0 t k n)(hn:n≤16)(hnm:∀r,(bZ s).2 = .ok r->n+1≤16):
  Calls af 209 #[rp br,rp gx,.int .i64 ((n+1:Nat):Int)] w (IX br gx B n t k s w):=by
 have HR:=aa hr;have HX:=aa hx;have HB:=hx.bounds;have lr:=hr.lt;have hNm:=P12.gR s;have hSm:=P12.fM s;have hne:∀r,(bZ s).2 = .ok r->(bZ s).1 ≠ []/\n+1≤16:=λr h=>⟨P12.Fm hr.gds h,hnm r h⟩;clear hr hx hnm;go_enter Tryz.func209,Tryz.ntmps209;go_wp2_with fail;refine(iE br s _ HR.out).mono ?_;rintro e w1 ⟨rfl,ht1,hp1⟩;generalize bZ s=q at hNm hSm hne hp1 ⊢;obtain⟨c,s1⟩:=q;dsimp only at hNm hSm hne hp1 ⊢;have HNM:=aa hNm;have HSM:=aa hSm;have HNE:=aa hne;have hs1:=ht1.size
 have F2:Cd br gx w1.heap.size B w t k c 0 false s1 (w1.alloc (xr c 0)):=
  ⟨hp1.ext (xal w1 _),((HX.out.turn ht1 h1).mark (ai _)).ext (xal w1 _),aw w1 _,(Kept.bB ht1 aI).trans (Kept.aR (xal w1 _)),h1,by omega⟩
 clear hNm hSm hne ht1 hp1 HR HX;go_upto_block 0 with fail
 generalize w1.alloc (xr c 0)=w2 at *
 generalize w1.heap.size=gc at *
 clear hs1;try dsimp only[CD]
 go_cut []from 8 (λw'=>∃ty s2,Nx P12.typeOf s1 ty s2/\Sk s1 s2/\Cd br gx gc B w t k c ty false s2 w')
 case first=>
  go_wp2_with fail;refine(fD br s1 [73,78,84] aq _ F2.ps).mono ?_;rintro e w3 ⟨rfl,ht3,hp3⟩;have F3:=F2.step ht3 hp3;clear ht3 hp3 F2
  cases hb1:(bn [73,78,84] s1).1
  case true=>
   obtain⟨k0,k1,k2,g1,g2⟩:=F3.cells;have lg:=F3.gs;go_wp2_with fail;go_meet
   case rel=>exact⟨2,_,P12.Dl hb1,P12.dK _ _,F3.oL 1 (.int .i64 2) rfl⟩
  rw[(P12.cp hb1).1]at F3;go_wp2_with fail;refine(fD br s1 [66,79,79,76] aq _ F3.ps).mono ?_;rintro e w4 ⟨rfl,ht4,hp4⟩;have F4:=F3.step ht4 hp4;clear ht4 hp4 F3
  cases hb2:(bn [66,79,79,76] s1).1
  case true=>
   obtain⟨k0,k1,k2,g1,g2⟩:=F4.cells;have lg:=F4.gs;go_wp2_with fail;go_meet
   case rel=>exact⟨1,_,P12.AL hb2,P12.dK _ _,F4.oL 1 (.int .i64 1) rfl⟩
  rw[(P12.cp hb2).1]at F4;go_wp2_with fail;refine(fD br s1 [84,69,88,84] aq _ F4.ps).mono ?_;rintro e w5 ⟨rfl,ht5,hp5⟩;have F5:=F4.step ht5 hp5;clear ht5 hp5 F4
  cases hb3:(bn [84,69,88,84] s1).1
  case true=>
   obtain⟨k0,k1,k2,g1,g2⟩:=F5.cells;have lg:=F5.gs;go_wp2_with fail;go_meet
   case rel=>exact⟨3,_,P12.AK hb3,P12.dK _ _,F5.oL 1 (.int .i64 3) rfl⟩
  rw[(P12.cp hb3).1]at F5;go_wp2_with fail;refine(iG br s1 120 aq _ F5.ps).mono ?_;rintro e w6 ⟨rfl,ht6,hp6⟩;have F6:=F5.step ht6 hp6;clear ht6 hp6 F5;go_wp2_with fail;go_meet
  case rel=>exact⟨0,_,P12.E5 hb1 hb2 hb3,P12.gQ _ _,F6⟩
 case rest=>
  obtain⟨ty,s2,hNT,hST,F⟩:=hcut;have HNT:=aa hNT;have HST:=aa hST;clear F2 hNT hST;go_upto_block 1 with fail
  go_cut [2]from 8 (λv w'=>∃t' k' n' nn s3,v = .int .i64 (n':Nat)/\Cd br gx gc B w t' k' c ty nn s3 w'/\Nx (λr=>P12.gj c r.l.length t k (n+1) false r) s2 (t',k',n',nn) s3/\Sk s2 s3/\Sm 1 t' k' n'/\∀r,s3 = .ok r->n'≤16)
  case first=>
   go_wp2;go_loopw [2] (λv wr=>∃ (t':P12.Tb) (k':List (List P12.T)) (n':Nat) (nn:Bool) (s':PS),v = .int .i64 (n':Nat)/\Cd br gx gc B w t' k' c ty nn s' wr/\Tl c (λr=>P12.gj c r.l.length t k (n+1) false r) s2 s' t' k' n' nn/\Sm 1 t' k' n'/\∀r,s' = .ok r->n'≤16) (λ_ wr=>eB br wr)
   case atStart=>exact⟨t,k,n+1,false,s2,rfl,F,Tl.start _ _ _ _ _,⟨by have:=hsm.sum;omega,hsm.keys,by omega⟩,λr e=>by
    subst e;obtain⟨r1,e1⟩:=P12.Sk.E3 HST.out;exact(HNE.out r1 e1).2⟩
   case round=>
    obtain⟨t',k',n',nn,s',rfl,F',hTl,hsm',hok⟩:=hrel;have HTL:=aa hTl;have HSM':=aa hsm';clear F hTl hsm' hsm;go_wp2_with fail;refine(eK br s' _ F'.ps).mono ?_;rintro e w9 ⟨rfl,rfl⟩
    cases s' with
    | error e=>
     have hNE:=P12.Tl.err HTL.out;have hSE:=HTL.out.1;go_wp2_with fail;go_meet
     case rel=>exact⟨t',k',n',nn,.error e,rfl,F',hNE _,hSE,HSM'.out,λr e=>by cases e⟩
    | ok r=>
     have hgd:=F'.ps.gd;have HGD:=aa hgd;have hn16:=hok r rfl
     have hcn:c ≠ []:=by
      obtain⟨r2,e2⟩:=P12.Sk.E3 HTL.out.1;rw[e2]at HST;obtain⟨r1,e1⟩:=P12.Sk.E3 HST.out;exact(HNE.out r1 e1).1
     have HCN:=aa hcn;have HPL:=aa λ(s8:PS) (W:World) (h:Ps br s8 W) (hl:∀r3,s8 = .ok r3->r3.l.length<r.l.length)=>yl F'.ps h hl;have hkl:t'.keys.length≤100/\k'.length≤100/\t'.checks.length≤100:=by have:=HSM'.out.sum;have:=HSM'.out.keys;have:=HSM'.out.most;omega
     have hgB:=F'.tab.bounds;have hgcB:=F'.h2;clear hgd hok hcn;go_wp2_with fail;refine(fD br (.ok r) [78,79,84] aq _ F'.ps).mono ?_;rintro e w3 ⟨rfl,ht3,hp3⟩;have F3:=F'.step ht3 hp3;clear ht3 hp3 F'
     cases hN:P12.isT [78,79,84] r
     case true=>
      obtain⟨hTN,hlt⟩:=HTL.out.not HGD.out hN;rw[P12.dT hN]at F3 ⊢;dsimp only at F3 ⊢;go_wp2_with fail;refine(iU br _ [78,85,76,76] aq _ F3.ps).mono ?_;rintro e w4 ⟨rfl,ht4,hp4⟩;have F4:=F3.step ht4 hp4;obtain⟨k0,k1,k2,g1,g2⟩:=F4.cells;have lg:=F4.gs;have F5:=F4.oL 2 (.bool true) (nn':=true) rfl;have hm:=HPL.out _ _ F5.ps hlt;clear ht4 hp4 F3;go_wp2_with fail;go_roundw
      case rel=>exact⟨t',k',n',true,_,rfl,F5,hTN,HSM'.out,λ_ _=>hn16⟩
      case measure=>exact hm
     rw[P12.fk hN]at F3 ⊢;dsimp only at F3 ⊢;go_wp2_with fail;refine(mH br (.ok r) [80,82,73,77,65,82,89] _ F3.ps).mono ?_;rw[P12.gl HGD.out aq];rintro e w4 ⟨rfl,hx4⟩;have F4:=F3.ext hx4;clear hx4 F3
     cases hP:P12.isT [80,82,73,77,65,82,89] r
     case true=>
      have hC:P12.bh r=true:=by simp[P12.bh,hP]
      have hcon:=P12.rS (n:=n') hP (P12.E8 HCN.out (bE [75,69,89] (ik n' r)));obtain⟨hTC,hlt⟩:=HTL.out.con HGD.out hN hC hcon (P12.du _ _);have hrm:=λr3=>P12.mz (n:=n') (r:=r) (r':=r3) (P12.du [75,69,89] (ik n' r));have HTC:=aa hTC;rw[hP,pJ]at HTC;clear hcon hTC;go_wp2_with fail;refine(ki br (.ok r) (n'+1) 16 _ F4.ps).mono ?_;rintro e w5 ⟨rfl,ht5,hp5⟩;have F5:=F4.step ht5 hp5;clear ht5 hp5 F4;go_wp2_with fail;refine(fL br _ _ F5.ps).mono ?_;rintro e w6 ⟨rfl,ht6,hp6⟩;have F6:Cd br gx gc B w t' k' c ty nn (ik n' r) w6:=F5.step ht6 hp6;clear ht6 hp6 F5;go_wp2_with fail
      refine(iU br _ [75,69,89] aq _ F6.ps).mono ?_;rintro e w7 ⟨rfl,ht7,hp7⟩;have F7:=F6.step ht7 hp7;obtain⟨k0,k1,k2,g1,g2⟩:=F7.cells;have lg:=F7.gs;have F8:=F7.oL 2 (.bool true) (nn':=true) rfl;clear ht7 hp7 F6;go_upto_region 19 with fail
      generalize w7.setCell ⟨gc,2,none⟩ (.bool true)=w8 at *
      clear k0 k1 k2 g1 g2 F7 lg;obtain⟨k0,-,-,-,-⟩:=F8.cells;have lg:=F8.gs;have hB8:=F8.tab.bounds;go_wp2_with fail;refine(Cc B gx gc w8.heap.size t' k' true [c] (some ⟨w8.heap.size,0,none⟩) 1 1 _ ((F8.tab.fresh lg).ext (xal w8 _)) ⟨hB8.2,lg,by rw[ag];omega⟩ (vQ (aw w8 _) (ai _)) ⟨hkl.1,hkl.2.1⟩).mono ?_;rintro e w10 ⟨rfl,hA,hKG⟩;have F9:=F8.ext (xal w8 (.cells #[bs c] 9));have hp10:=F9.ps.kept hKG.kept ab (λx hx=>by simp at hx;omega);have F10:Cd br gx gc B w (P12.gq t' (.inr (true,[c]))) (P12.jw k' (.inr (true,[c]))) c ty true _ w10:=F9.con hA hKG (λx hx=>by simp at hx;simp[hx]) hp10
      have hm:=HPL.out _ _ hp10 hlt;clear hA hKG hp10 F8 F9;go_wp2_with fail;go_roundw
      case rel=>exact⟨_,_,n'+1,true,_,rfl,F10,HTC.out,HSM'.out.add ab _,λr3 e=>hrm r3 e⟩
      case measure=>exact hm
     have hp0:(nn||P12.isT [80,82,73,77,65,82,89] r)=nn:=by rw[hP,mh]
     go_wp2_with fail;refine(mH br (.ok r) [85,78,73,81,85,69] _ F4.ps).mono ?_;rw[P12.gl HGD.out aq];rintro e w5 ⟨rfl,hx5⟩;have F5:=F4.ext hx5;clear hx5 F4
     cases hU:P12.isT [85,78,73,81,85,69] r
     case true=>
      have hC:P12.bh r=true:=by simp[P12.bh,hU]
      have hcon:=P12.rR (n:=n') hU (P12.E8 HCN.out (ik n' r));obtain⟨hTC,hlt⟩:=HTL.out.con HGD.out hN hC hcon (Sk.refl _);have hrm:=λr3=>P12.mz (n:=n') (r:=r) (r':=r3) (Sk.refl (ik n' r));have HTC:=aa hTC;rw[hp0]at HTC;clear hcon hTC;go_wp2_with fail;refine(ki br (.ok r) (n'+1) 16 _ F5.ps).mono ?_;rintro e w6 ⟨rfl,ht6,hp6⟩;have F6:=F5.step ht6 hp6;clear ht6 hp6 F5;go_wp2_with fail;refine(fL br _ _ F6.ps).mono ?_;rintro e w8 ⟨rfl,ht8,hp8⟩;have F8:Cd br gx gc B w t' k' c ty nn (ik n' r) w8:=F6.step ht8 hp8;clear ht8 hp8 F6;obtain⟨k0,-,-,-,-⟩:=F8.cells;have lg:=F8.gs;have hB8:=F8.tab.bounds
      go_wp2_with fail;refine(Cc B gx gc w8.heap.size t' k' false [c] (some ⟨w8.heap.size,0,none⟩) 1 1 _ ((F8.tab.fresh lg).ext (xal w8 _)) ⟨hB8.2,lg,by rw[ag];omega⟩ (vQ (aw w8 _) (ai _)) ⟨hkl.1,hkl.2.1⟩).mono ?_;rintro e w10 ⟨rfl,hA,hKG⟩;have F9:=F8.ext (xal w8 (.cells #[bs c] 9));have hp10:=F9.ps.kept hKG.kept ab (λx hx=>by simp at hx;omega);have F10:Cd br gx gc B w (P12.gq t' (.inr (false,[c]))) (P12.jw k' (.inr (false,[c]))) c ty nn _ w10:=F9.con hA hKG (λx hx=>by simp at hx;simp[hx]) hp10;have hm:=HPL.out _ _ hp10 hlt;clear hA hKG hp10 F8 F9;go_wp2_with fail;go_roundw
      case rel=>exact⟨_,_,n'+1,nn,_,rfl,F10,HTC.out,HSM'.out.add ab _,λr3 e=>hrm r3 e⟩
      case measure=>exact hm
     go_wp2_with fail;refine(mH br (.ok r) [67,72,69,67,75] _ F5.ps).mono ?_;rw[P12.gl HGD.out aq];rintro e w6 ⟨rfl,hx6⟩;have F6:=F5.ext hx6;clear hx6 F5
     cases hK:P12.isT [67,72,69,67,75] r
     case true=>
      have hC:P12.bh r=true:=by simp[P12.bh,hK]
      have HCO:=aa λ(x:P12.E) (s4:PS) (h:Nx (P12.within P12.expr) (ik n' r) x s4) (k:Sk (ik n' r) s4)=>HTL.out.con HGD.out hN hC (P12.qh hK h) k;go_wp2_with fail;refine(ki br (.ok r) (n'+1) 16 _ F6.ps).mono ?_;rintro e w7 ⟨rfl,ht7,hp7⟩;have F7:=F6.step ht7 hp7;clear ht7 hp7 F6;go_wp2_with fail;refine(fL br _ _ F7.ps).mono ?_;rintro e w8 ⟨rfl,ht8,hp8⟩;have F8:Cd br gx gc B w t' k' c ty nn (ik n' r) w8:=F7.step ht8 hp8;have lg:=F8.gs;have lgx:gx<w8.heap.size:=by have:=F8.tab.bounds;omega
      clear ht8 hp8 F7;go_wp2_with fail;refine(Cw br gx gc B t' k' _ _ F8.ps F8.tab h1 F8.gs hkl.2.2).mono ?_;rintro e w10 ⟨x,s4,rfl,hA,hKG,hp10,hn10,hsk10⟩;obtain⟨hTC,hlt⟩:=HCO.out x s4 hn10 hsk10;have hrm:=λr3=>P12.mz (n:=n') (r:=r) (r':=r3) hsk10;rw[hp0]at hTC;have F10:Cd br gx gc B w (P12.gq t' (.inl x)) (P12.jw k' (.inl x)) c ty nn s4 w10:=F8.con hA hKG (λx hx=>hx) hp10;have hm:=HPL.out _ _ hp10 hlt;clear hA hKG hp10 F8;go_wp2_with fail;go_roundw
      case rel=>exact⟨_,_,n'+1,nn,s4,rfl,F10,hTC,HSM'.out.add ab _,λr3 e=>hrm r3 e⟩
      case measure=>exact hm
     have hC:P12.bh r=false:=by simp[P12.bh,hP,hU,hK]
     have hN3:=HTL.out.out HGD.out hN hC;have hS3:=HTL.out.1;go_wp2_with fail;go_meet
     case rel=>exact⟨t',k',n',nn,.ok r,rfl,F6,hN3,hS3,HSM'.out,λ_ _=>hn16⟩
  case rest=>
   obtain⟨t',k',n',nn,s3,rfl,F3,hNx,hSk,hsm',hok⟩:=hcut;have hN:=P12.E6 HNM.out HNT.out hNx;have hS:Sk s s3:=HSM.out.trans (HST.out.trans hSk);have HN:=aa hN;have HS:=aa hS;have HOK:=aa hok;clear F hNx hSk hN hS HNM HNT HST HNE HSM hok;obtain⟨k0,cY,k2,-,-⟩:=F3.cells;obtain⟨col,tc,tk,tq,kc,T,h9⟩:=F3.tab;have hgB:=F3.h2;have h9:=h9 hgB;have lY:=F3.gs;obtain⟨a1,a2,b1,b2,c1,c2,d1,d2,rfl,rfl,rfl,rfl⟩:=T.form;have cC:wc.cell? ⟨gx,2,none⟩=some (.slice a1 t'.cols.length a2):=by simp[ak,T.blk]
   have lgx:gx<wc.heap.size:=(ae.1 T.blk).1;have T10:=T.yh 0;obtain⟨us,-,hown,-,hu2,hu3,hu4⟩:=T10.tc
   have hlt:∀b,(gU a1 t'.cols.length a2).ownBlock=some b->B≤b/\b<wc.heap.size/\b≠gc:=λb hb=>by
    obtain⟨⟨h1,h2⟩,h3⟩:=T10.tc.lt b hb;try dsimp only at h2
    rw[if_pos h3]at h2;exact⟨h1,h3,λe=>by rw[e,h9]at h2;omega⟩
   have HF:Hid (∀W,Xe.ES (Xe.fR 137 3 (t'.cols.length+1) (us.flatten ++ [bs c,.int .i64 ty,.bool nn]) (.slice a1 t'.cols.length a2)) wc.drew W->W.cell? ⟨gx,2,none⟩=some (.slice a1 t'.cols.length a2)/\gx<W.heap.size/\W.cell? ⟨gc,0,none⟩=some (bs c)/\W.cell? ⟨gc,1,none⟩=some (.int .i64 ty)/\W.cell? ⟨gc,2,none⟩=some (.bool nn)/\gc<W.heap.size):=aa λW hx=>by
    have hn:∀x,x<B∨x=gc->∀q∈Xe.fR 137 3 (t'.cols.length+1) (us.flatten ++ [bs c,.int .i64 ty,.bool nn]) (.slice a1 t'.cols.length a2),q.1≠x:=λx hx q hq e=>by
     have:=hlt _ (Xe.fv hq);omega
    have hs:=hx.2.2.2.1;simp only[bM]at hs;have d:∀b o v,b<B∨b=gc->wc.cell? ⟨b,o,none⟩=some v->W.cell? ⟨b,o,none⟩=some v:=λb o v hb hc=>hx.cell (show wc.drew.cell? ⟨b,o,none⟩=some v from hc) (hn b hb);exact⟨d _ _ _ ab cC,by omega,d _ _ _ ab k0,d _ _ _ ab cY,d _ _ _ ab k2,by omega⟩
   have T10H:=aa T10;have HU:=aa hu4;have HSM':=aa hsm';have hkl:t'.cols.length≤4000000:=by have:=hsm'.sum;have:=hsm'.most;omega
   obtain⟨ks,hks⟩:∃ks:Xe.gT,ks=Xe.fR 137 3 (t'.cols.length+1) (us.flatten ++ [bs c,.int .i64 ty,.bool nn]) (.slice a1 t'.cols.length a2):=⟨_,rfl⟩;have HKS:=aa hks
   have HSB:Hid (∀k∈ks,(.slice a1 t'.cols.length a2:Value).ownBlock=some k.1/\k.1<(wc).heap.size):=aa λk hk=>by
    rw[hks]at hk;exact⟨Xe.fv hk,((hown).lt _ (Xe.fv hk)).2⟩
   have HS6:Hid (∀k∈ks,(.slice a1 t'.cols.length a2:Value).ownBlock=some k.1->k∈Xe.fR 137 3 (t'.cols.length+1) (us.flatten ++ [bs c,.int .i64 ty,.bool nn]) (.slice a1 t'.cols.length a2)):=aa λk hk _=>by rw[hks]at hk;exact hk
   have HVL:Hid (∀b,(.slice a1 t'.cols.length a2:Value).ownBlock=some b->b<(wc).heap.size):=aa λb hb=>((hown).lt b hb).2;have HOA:=aa (hown);clear hks;rw[← HKS.out]at HF;obtain⟨i0,hi,hz0,hz1,hz2⟩:=cP Tryz.Cn;have Hi:=aa hi;have Hz0:=aa hz0;have Hz1:=aa hz1;have Hz2:=aa hz2;clear hi hz0 hz1 hz2;go_upto_region 30 with fail
   have FH:=aa F3;clear cC k0 k2 hown T10 hu4 F3 cY T hsm'
   refine Xe.bm (E:=Xe.ES ks) (Xe.bS _) 12 (Xe.O2 8 _ 99 none) (Xe.Gv HVL.out (λb hb=>by cases hb)) (Xe.Gu (λb hb e=>by cases e)) [(7,Xe.newRow (wc).heap.size [bs c,.int .i64 ty,.bool nn] 137),(8,Xe.DZ 137 3 (wc).heap.size (.slice a1 t'.cols.length a2) t'.cols.length us.flatten [bs c,.int .i64 ty,.bool nn])] au au (Xe.jD (by
       intro y hy;simp only[aJ,aF,or_false]at hy;rcases hy with rfl|rfl
       ·exact Xe.newRow.es λk hk=>(HSB.out k hk).2
       ·exact Xe.lG.es HS6.out λk hk=>(HSB.out k hk).2)) ?_
   simp only[aG,aY,aL,bd]
   repeat(first
    | ((first|refine Xe.aX (Xe.bS _) (Xk.aQ az) az (λK hK=>?_)|refine Xe.aX (Xe.bS _) az az (λK hK=>?_));apply aU;refine⟨λW hx hp=>?_,?_⟩;(obtain⟨f1,f2,f3,f4,f5,f6⟩:=HF.out _ hx;go_simp;exact⟨rfl,rfl⟩);(go_simp;refine hK _ ?_;clear hK K))
    | (refine Xe.cQ az (λK hK=>?_);go_simp;refine hK _ ?_;clear hK K))
   (refine Xe.bc (Xe.bS _) az az (λW hx hp=>?_) (λynew K hK=>?_);(go_simp;exact Xe.wI _ _ _ _ (by first|rfl|kernel_rfl) (by have:=hx.2.2.2.1;simpa using this));(go_simp;refine hK _ ?_;clear hK K))
   (refine Xe.bc (Xe.bS _) az az (λW hx hp=>?_) (λz1 K hK=>?_);(obtain⟨g,rfl,hg,hc⟩:=Xe.bG hp au;exact Xe.qQ _ _ _ 23 az 137 i0 _ 3 32 Tryz.underlying23 Hi.out Hz0.out Hz1.out Hz2.out rfl aq (.slice a1 t'.cols.length a2) t'.cols.length us.flatten [bs c,.int .i64 ty,.bool nn] az (hx.own (m:=1) (Xo.ny HOA.out) HS6.out) g 1 az az hc (dS au) ab (by have:=hx.2.2.2.1;simpa using this) (by rw[HKS.out];exact λk hk=>hk) az);(go_simp;refine hK _ ?_;clear hK K))
   repeat(first
    | ((first|refine Xe.aX (Xe.bS _) (Xk.aQ az) az (λK hK=>?_)|refine Xe.aX (Xe.bS _) az az (λK hK=>?_));apply aU;refine⟨λW hx hp=>?_,?_⟩;(obtain⟨f1,f2,f3,f4,f5,f6⟩:=HF.out _ hx;go_simp;exact⟨rfl,rfl⟩);(go_simp;refine hK _ ?_;clear hK K))
    | (refine Xe.cQ az (λK hK=>?_);go_simp;refine hK _ ?_;clear hK K))
   refine Xe.bD (λW hx hp hg=>?_);simp only[Xk.fP]at hp;obtain⟨p1',-,-⟩:=hp;obtain⟨z,cz,rfl,ho7,hz7⟩:=p1'.form;have hg7:=Xe.ES.grown (e:=137) (size:=3) (n:=0) (xs := []) hx HSB.out;have T11:=Tab.Jd (x:=(c,ty,nn)) T10H.out (λb hb=>if_neg ab) hu2 hu3 HU.out hg7 ho7 (λb hb=>by cases hb;exact hz7) rfl rfl;have f11:=aD W gx 2 _ _ T11.blk;have c11:W.cell? ⟨gx,2,none⟩=some (.slice a1 t'.cols.length a2):=by simp[ak,T11.blk]
   have HT12:Hid (dx B gx gc { t' with cols:=t'.cols ++ [(c,ty,nn)] } k' (W.setCell ⟨gx,2,none⟩ (.slice (some ⟨z,0,none⟩) (t'.cols.length+1) cz))):=aa
    ⟨_,_,_,_,_,T11.gV 2 (.slice (some ⟨z,0,none⟩) (t'.cols.length+1) cz),λ_=>(if_pos lY).trans h9⟩
   have HK12:=aa ((FH.out.kept.grown hg7 (λb hb=>(hlt b hb).1)).setCell (g:=gx) (.inr (.inl aI)) 2 (.slice (some ⟨z,0,none⟩) (t'.cols.length+1) cz));have HP12:=aa (Ps.setCell (FH.out.ps.grown hg7 (λb hb=>by have:=(hlt b hb).1;omega)) (g:=gx) h1 2 (.slice (some ⟨z,0,none⟩) (t'.cols.length+1) cz));have l11:=(ae.1 T11.blk).1;clear hx p1' ho7 hg7 T11 HOA HSB HS6 HVL HKS HF hg;go_wp2_with fail;refine ar (v := .int .i64 (n':Nat)) (by simp[results,Tryz.results209,go_sem]) rfl ?_
   exact⟨_,k',n',s3,rfl,HT12.out.Ej,HK12.out,HP12.out,HN.out,HS.out,⟨by have:=HSM'.out.sum;simp;omega,HSM'.out.keys,HSM'.out.most⟩,HOK.out⟩
open _root_.P12 (PS Gd okB cH isK cf Nx bn bE bZ bR ew dA de cB Sk inS Rw dF gJ Sm Tl ik Pt)
theorem P12.AY{n:Nat}{r r':P12.R}(h:(bZ (dF 16 n P12.named (.ok r))).2 = .ok r'):n+1≤16:=by
 unfold dF at h;dsimp only at h;by_cases hc:(decide (16<n+1)&&P12.named r)=true
 ·rw[if_pos hc]at h
  cases h
 ·rw[if_neg hc]at h
  cases hn:P12.name r with
  | error e=>simp[bZ,hn]at h
  | ok p=>
   rw[P12.td hn]at hc;simp at hc;omega
theorem GD(br:Nat)(s:PS)(w:World)(hr:Ps br s w):Calls af 156 #[rp br] w (Cm br w s (jC w) P12.tj):=by
 have HR:=aa hr;have lr:=hr.lt;clear hr;have hbs:∀ (W:World),(cR 40 #[(0,lK .i64 1)]).run af W = .ok (.agg (cT 1 [] aj aj aj aj [] [] false aj aj aj noE aj aj noE aj aj 0).toArray) W:=λW=>by kernel_rfl
 have HB:=aa hbs;clear hbs;go_enter Tryz.func156,Tryz.ntmps156;go_wp2_with (first|(refine cU rfl 40 _ rfl _ rfl _ (HB.out _) ?_)|((refine bQ rfl 40 _ _ rfl ((w.heap.size+1)) _ _ 40 rfl rfl ((Cp _ _ (by rw[ag]))) rfl au au ?_;intro w2 hp2)));have F2:=Dz.start (w1:=w.alloc (.cells bC.toArray 40)) lr (ah.refl _ _) (HR.out.ext (xal w (.cells bC.toArray 40))) (Sk.refl s) (by rw[ag];exact hp2);rw[ag]at F2;clear hp2 HB HR;have hgw:w.heap.size<w.heap.size+1:=ab;generalize w.heap.size+1=gx at *
 refine(iE br s _ F2.ps).mono ?_;rintro e w3 ⟨rfl,ht3,hp3⟩;have F3:=F2.step ht3 hp3 (P12.fM s);have hNA:=P12.gR s;clear ht3 hp3 F2;generalize bZ s=q at F3 hNA ⊢;obtain⟨a,s1⟩:=q;dsimp only at F3 hNA ⊢;have c3:=F3.cell (o:=1) rfl;have f3:=F3.free 1;have l3:=F3.size;have F4:=(F3.set 1 (bs a)).cells (c':=xL a aj aj aj aj) rfl;clear F3;go_wp2_with fail;refine(dO br s1 [40] aq _ F4.ps).mono ?_;rintro e wL ⟨rfl,ht5,hp5⟩;have F5:=F4.step ht5 hp5 (P12.du [40] s1);have HNU:=aa λ(t:P12.Tb) (k:List (List P12.T)) (s2:PS) (h:Nx (λr=>P12.gA r.l.length { name:=a } [] 0 r) (bE [40] s1) (t,k) s2)=>P12.E9 hNA h
 clear ht5 hp5 F4 hNA c3 f3 l3;generalize bE [40] s1=s2 at F5 HNU;have hlw:=F5.size;have hT0:dx wL.heap.size gx 0 { name:=a } [] wL:=⟨λ_=>9,aj,aj,aj,aj,⟨F5.blk,Own.nil,Own.nil,Own.nil,Own.nil,hlw,ai _⟩,λ_=>rfl⟩;have h1:br<gx:=by have:=F5.zx;have:=F5.gzge;have:=F5.lo;omega
 have F5H:=aa F5;have hP5:=F5.ps;clear F5;go_upto_block 0 with fail
 try dsimp only[CD]
 go_cut [4]from 5 (λ_ w'=>∃t' k' s3,Ps br s3 w'/\dx wL.heap.size gx 0 t' k' w'/\Kept wL.heap.size [br,gx] wL w'/\Nx (λr=>P12.gA r.l.length { name:=a } [] 0 r) s2 (t',k') s3/\Sk s2 s3)
 case rest=>
  obtain⟨t',k',s3,hp,hA,hK,hN,hS⟩:=hcut;have hNN:=HNU.out _ _ _ hN;have hB:=hA.bounds;obtain⟨tc,tk,tq,kc,hb,s4,s5,s6,s7⟩:=hA.stmt (S:=λb=>gx<b) (λb hb=>by omega);obtain⟨x1,x2,x3,rfl⟩:=ee s4;obtain⟨y1,y2,y3,rfl⟩:=ee s5;obtain⟨z1,z2,z3,rfl⟩:=ee s6;obtain⟨v1,v2,v3,rfl⟩:=ee s7;have F6:=(((((F5H.out.row hK hb hp hS).add (bF fm 3 t'.cols (.slice x1 x2 x3)) s4).add (bF fB 4 t'.keys (.slice y1 y2 y3)) s5).add (bF bj 10 t'.checks (.slice z1 z2 z3)) s6).add (bF eT 1 k' (.slice v1 v2 v3)) s7);clear hp hA hK hN hS hP5 hT0 F5H HNU hb s4 s5 s6 s7;go_wp2_with fail;refine(dO br s3 [41] aq _ F6.ps).mono ?_
  rintro e w8 ⟨rfl,ht8,hp8⟩;have F8:=F6.step ht8 hp8 (P12.du [41] s3);have hb9:=F8.blk;have hz9:=F8.zero;have HNN:=aa hNN;clear ht8 hp8 F6 hNN;go_wp2_with (first|(refine lw hb9 aB ?_)|(refine pw hz9 ?_;intro w13 hp13));refine ar (aH (fn:=Tryz.f156) rfl rfl hp13.blk aB rfl au) rfl ?_;refine Dz.finish (x := { P12.made 1 with tb:=t',keyCols:=k' }) F8 hp13 (λ⟨⟨⟨⟨_,q1⟩,q2⟩,q3⟩,q4⟩=>?_) HNN.out;exact⟨_,_,_,_,aj,aj,aj,noE,aj,aj,noE,aj,aj,rfl,q1,q2,q3,q4,aE.nil _ _ _ _,aE.nil _ _ _ _,aE.nil _ _ _ _,rfl,aE.nil _ _ _ _,aE.nil _ _ _ _,rfl,aE.nil _ _ _ _,aE.nil _ _ _ _⟩
 case first=>
  go_wp2;go_loopw [4] (λv wr=>∃ (t':P12.Tb) (k':List (List P12.T)) (n':Nat) (s':PS),v = .int .i64 (n':Nat)/\Ps br s' wr/\dx wL.heap.size gx 0 t' k' wr/\Kept wL.heap.size [br,gx] wL wr/\Pt (λr=>P12.gA r.l.length { name:=a } [] 0 r) s2 s' t' k' n'/\Sm 0 t' k' n'/\∀r,s' = .ok r->n'≤16) (λ_ wr=>eB br wr)
  case atStart=>exact⟨{ name:=a },[],0,s2,rfl,hP5,hT0,Kept.refl _ _ _,Pt.start _ _ _ _,⟨by simp,rfl,by omega⟩,λ_ _=>by omega⟩
  case round=>
   obtain⟨t',k',n',s',rfl,hps,hA,hK,hPt,hsm,hok⟩:=hrel;have HPT:=aa hPt;have HSM:=aa hsm;have HK:=aa hK;clear hPt hsm hK hP5 hT0 HNU F5H;go_wp2_with fail;refine(eK br s' _ hps).mono ?_;rintro e w9 ⟨rfl,rfl⟩
   cases s' with
   | error e=>
    have hNE:=P12.Pt.err HPT.out;have hSE:=HPT.out.1;go_wp2_with fail;go_meet
    case rel=>exact⟨t',k',.error e,hps,hA,HK.out,hNE _,hSE⟩
   | ok r=>
    have HGD:=aa hps.gd;have hn16:=hok r rfl;have HPL:=aa λ(s8:PS) (W:World) (h:Ps br s8 W) (hl:∀r3,s8 = .ok r3->r3.l.length<r.l.length)=>yl hps h hl;have hkl:t'.keys.length≤100/\k'.length≤100/\t'.checks.length≤100:=by have:=HSM.out.sum;have:=HSM.out.keys;have:=HSM.out.most;omega
    have hB:=hA.bounds;clear hok;go_upto_block 2 with fail
    try dsimp only[CD]
    go_cut [4]from 12 to 80 (λv w'=>∃t2 k2 n2 s3,v = .int .i64 (n2:Nat)/\Ps br s3 w'/\dx wL.heap.size gx 0 t2 k2 w'/\Kept wL.heap.size [br,gx] wL w'/\Nx (P12.part t' k' n') (.ok r) (t2,k2,n2) s3/\Sk (.ok r) s3/\Sm 0 t2 k2 n2/\∀r,s3 = .ok r->n2≤16)
    case rest=>
     obtain⟨t2,k2,n2,s3,rfl,hp,hA2,hK2,hN,hS,hsm2,hok2⟩:=hcut;have HST:=aa (HPT.out.step HGD.out hN hS);clear hps hA hN hS;go_wp2_with fail;refine(eW br s3 [44] aq _ hp).mono ?_;rintro e w10 ⟨rfl,ht,hp10⟩;have hA10:=hA2.turn ht h1;have hK10:=hK2.trans (Kept.bB ht aI);clear ht hp hA2 hK2
     cases hcm:(bn [44] s3).1
     case true=>
      obtain⟨hPT,hlt⟩:=HST.out.2 hcm;have hm:=HPL.out _ _ hp10 hlt;go_wp2_with fail;go_roundw
      case rel=>exact⟨t2,k2,n2,_,rfl,hp10,hA10,hK10,hPT,hsm2,λr3 e=>by
       obtain⟨r2,e2,-⟩:=P12.ie hcm;exact hok2 r2 e2⟩
      case measure=>exact hm
     rw[(P12.cp hcm).1]at hp10;obtain⟨hN,hS⟩:=HST.out.1 hcm;go_wp2_with fail;go_meet
     case rel=>exact⟨t2,k2,s3,hp10,hA10,hK10,hN,hS⟩
    case first=>
     go_wp2_with fail;refine(mH br (.ok r) [80,82,73,77,65,82,89] _ hps).mono ?_;rw[P12.gl HGD.out aq];rintro e w4 ⟨rfl,hx4⟩;have hp4:=hps.ext hx4;have hA4:=hA.ext hx4;have hK4:=HK.out.trans (Kept.aR hx4);clear hx4 hps hA HK
     cases hP:P12.isT [80,82,73,77,65,82,89] r
     case true=>
      have hC:P12.bh r=true:=by simp[P12.bh,hP]
      go_wp2_with fail;refine(ki br (.ok r) (n'+1) 16 _ hp4).mono ?_;rintro e w5 ⟨rfl,ht5,hp5⟩;go_wp2_with fail;refine(fL br _ _ hp5).mono ?_;rintro e w6 ⟨rfl,ht6,hp6⟩;go_wp2_with fail;refine(iU br _ [75,69,89] aq _ hp6).mono ?_;rintro e w7 ⟨rfl,ht7,hp7⟩;have ht57:=ah.trans ht5 (ah.trans ht6 ht7);have HC0:=aa λ(l:List P12.T) (s8:PS) (h:Nx (P12.eL []) (bE [75,69,89] (ik n' r)) l s8)=>P12.nA (t:=t') (k:=k') hC (P12.rS (n:=n') hP h);have HS0:Hid (Sk (ik n' r) (bE [40] (bE [75,69,89] (ik n' r)))):=aa ((P12.du [75,69,89] _).trans (P12.du [40] _));change Ps br (bE [75,69,89] (ik n' r)) w7 at hp7
      generalize bE [75,69,89] (ik n' r)=S3 at hp7 HC0 HS0;clear ht5 hp5 ht6 hp6 ht7 hp4;go_wp2_with fail;refine(dO br S3 [40] aq _ hp7).mono ?_;rintro e w8 ⟨rfl,ht8,hp8⟩;have ht48:=ah.trans ht57 ht8;have hA8:=hA4.turn ht48 h1;have hK8:=hK4.trans (Kept.bB ht48 aI);have l8:=hA8.bounds;clear ht57 ht8 ht48 hp7 hA4 hK4;go_wp2_with fail;refine(ss br _ _ hp8).mono ?_;rintro e w9 ⟨v,l,s9,rfl,hsl,ht9,hp9,hn9,hsk9⟩;obtain⟨p1,p2,p3,rfl⟩:=ee hsl;have hN:=HC0.out l s9 (P12.B6 (P12.sV hn9));have hS:=(P12.vR n' r).trans (HS0.out.trans hsk9);have hrm:=λr3=>P12.mz (n:=n') (r:=r) (r':=r3) (HS0.out.trans hsk9)
      have hK9:=hK8.trans (Kept.bB ht9 aI);have hT9:=(hA8.fresh ab).turn ht9 h1;have hs9:=ht9.size;clear ht9 hn9 hsk9 hp8 hK8 hA8;go_wp2_with fail;refine(Cc wL.heap.size gx 0 w8.heap.size t' k' true l p1 p2 p3 _ hT9 ⟨by omega,by omega,hs9⟩ hsl ⟨hkl.1,hkl.2.1⟩).mono ?_;rintro e w10 ⟨rfl,hA10,hKG⟩;have hp10:=hp9.kept hKG.kept ab (λx hx=>by simp at hx;omega);go_wp2_with fail;go_meet
      case rel=>exact⟨_,_,n'+1,s9,rfl,hp10,hA10,hK9.trans (hKG.kept.mono (ai _) (λx hx=>by simp at hx;simp[hx])),hN,hS,HSM.out.add ab (.inr (true,l)),λr3 e=>hrm r3 e⟩
     go_wp2_with fail;refine(mH br (.ok r) [85,78,73,81,85,69] _ hp4).mono ?_;rw[P12.gl HGD.out aq];rintro e w5 ⟨rfl,hx5⟩;replace hp4:=hp4.ext hx5
     replace hA4:=hA4.ext hx5
     replace hK4:=hK4.trans (Kept.aR hx5)
     clear hx5;clear w4;generalize w5=w4 at *
     cases hU:P12.isT [85,78,73,81,85,69] r
     case true=>
      have hC:P12.bh r=true:=by simp[P12.bh,hU]
      go_wp2_with fail;refine(ki br (.ok r) (n'+1) 16 _ hp4).mono ?_;rintro e w5 ⟨rfl,ht5,hp5⟩;go_wp2_with fail;refine(fL br _ _ hp5).mono ?_;rintro e w7 ⟨rfl,ht6,hp7⟩;have ht57:=ah.trans ht5 ht6;have HC0:=aa λ(l:List P12.T) (s8:PS) (h:Nx (P12.eL []) (ik n' r) l s8)=>P12.nA (t:=t') (k:=k') hC (P12.rR (n:=n') hU h);have HS0:Hid (Sk (ik n' r) (bE [40] (ik n' r))):=aa (P12.du [40] _);change Ps br (ik n' r) w7 at hp7
      obtain⟨S3,hS3⟩:∃S3,S3=ik n' r:=⟨_,rfl⟩;rw[← hS3]at hp7 HC0;rw[show bE [40] (ik n' r)=bE [40] S3 by rw[hS3]]at HS0;clear ht5 hp5 ht6 hp4 hS3;go_wp2_with fail;refine(dO br S3 [40] aq _ hp7).mono ?_;rintro e w8 ⟨rfl,ht8,hp8⟩;have ht48:=ah.trans ht57 ht8;have hA8:=hA4.turn ht48 h1;have hK8:=hK4.trans (Kept.bB ht48 aI);have l8:=hA8.bounds;clear ht57 ht8 ht48 hp7 hA4 hK4;go_wp2_with fail;refine(ss br _ _ hp8).mono ?_;rintro e w9 ⟨v,l,s9,rfl,hsl,ht9,hp9,hn9,hsk9⟩;obtain⟨p1,p2,p3,rfl⟩:=ee hsl;have hN:=HC0.out l s9 (P12.B6 (P12.sV hn9));have hS:=(P12.vR n' r).trans (HS0.out.trans hsk9)
      have hrm:=λr3=>P12.mz (n:=n') (r:=r) (r':=r3) (HS0.out.trans hsk9);have hK9:=hK8.trans (Kept.bB ht9 aI);have hT9:=(hA8.fresh ab).turn ht9 h1;have hs9:=ht9.size;clear ht9 hn9 hsk9 hp8 hK8 hA8;go_wp2_with fail;refine(Cc wL.heap.size gx 0 w8.heap.size t' k' false l p1 p2 p3 _ hT9 ⟨by omega,by omega,hs9⟩ hsl ⟨hkl.1,hkl.2.1⟩).mono ?_;rintro e w10 ⟨rfl,hA10,hKG⟩;have hp10:=hp9.kept hKG.kept ab (λx hx=>by simp at hx;omega);go_wp2_with fail;go_meet
      case rel=>exact⟨_,_,n'+1,s9,rfl,hp10,hA10,hK9.trans (hKG.kept.mono (ai _) (λx hx=>by simp at hx;simp[hx])),hN,hS,HSM.out.add ab (.inr (false,l)),λr3 e=>hrm r3 e⟩
     go_wp2_with fail;refine(mH br (.ok r) [67,72,69,67,75] _ hp4).mono ?_;rw[P12.gl HGD.out aq];rintro e w6 ⟨rfl,hx6⟩;replace hp4:=hp4.ext hx6
     replace hA4:=hA4.ext hx6
     replace hK4:=hK4.trans (Kept.aR hx6)
     clear hx6
     cases hK:P12.isT [67,72,69,67,75] r
     case true=>
      have hC:P12.bh r=true:=by simp[P12.bh,hK]
      have HC0:=aa λ(x:P12.E) (s4:PS) (h:Nx (P12.within P12.expr) (ik n' r) x s4)=>P12.nA (t:=t') (k:=k') hC (P12.qh hK h);go_wp2_with fail;refine(ki br (.ok r) (n'+1) 16 _ hp4).mono ?_;rintro e w7 ⟨rfl,ht7,hp7⟩;go_wp2_with fail;refine(fL br _ _ hp7).mono ?_;rintro e w8 ⟨rfl,ht8,hp8⟩;have ht:=ah.trans ht7 ht8;have hA8:=hA4.turn ht h1;have hK8:=hK4.trans (Kept.bB ht aI);change Ps br (ik n' r) w8 at hp8
      have l8:=hA8.bounds;clear ht7 hp7 ht8 ht hp4 hA4 hK4;go_wp2_with fail;refine(Cw br gx 0 wL.heap.size t' k' _ _ hp8 hA8 h1 ab hkl.2.2).mono ?_;rintro e w10 ⟨x,s4,rfl,hA10,hKG,hp10,hn10,hsk10⟩;have hrm:=λr3=>P12.mz (n:=n') (r:=r) (r':=r3) hsk10;go_wp2_with fail;go_meet
      case rel=>exact⟨_,_,n'+1,s4,rfl,hp10,hA10,hK8.trans hKG.kept,HC0.out x s4 hn10,(P12.vR n' r).trans hsk10,HSM.out.add ab (.inl x),λr3 e=>hrm r3 e⟩
     have hC:P12.bh r=false:=by simp[P12.bh,hP,hU,hK]
     have HC0:=aa λ(X:P12.Tb×List (List P12.T)×Nat) (s8:PS) (h:Nx (P12.yq t' k' n') (dF 16 n' P12.named (.ok r)) X s8)=>P12.yB hC h;have HI:=aa λW (hx:Xk.Ext w6 W)=>mr br (.ok r) W (hp4.ext hx);have HPS:=aa hp4;obtain⟨b,cap,L,i,d,a',e,h,hs⟩:=hp4;obtain⟨l0,c0,c1,c2,c3,c4⟩:=h.cells;obtain⟨t,ht,lb,t0,t1,t2⟩:=h.tok;have hi:=h.hi;have hlen:=h.len;have hib:(i:Int)<(L.length:Int):=ab;have hnt:=hs.tok ht;have lgx:gx<w6.heap.size:=by have:=hA4.bounds;omega
     clear h hs ht;have hI:∀b,bR (.ok r)=b->∀W,Xk.Ext w6 W->Calls af 159 #[rp br] W λe w'=>e = .returned (.bool b)/\Xk.Ext W w':=λb e W hx=>e▸HI.out W hx;have h3:(t.kind=1/\t.text.length≤24)∨(t.kind=1/\¬ t.text.length≤24)∨t.kind≠1:=ab;rcases h3 with⟨hk,hl⟩|⟨hk,hl⟩|hk
     case' _=>
      have hI:=hI true (by simp[bR,hnt,hk]);have hlb:(t.text.length:Int)≤24:=ab;have hnm:P12.named r=true:=by simp[P12.named,hnt,hk,hl]
      go_wp2_with fail;refine Xk.reg 17 (Xk.w1 hI λp=>?_);go_wp2_with fail;refine(ki br (.ok r) (n'+1) 16 _ (HPS.out.ext Xk.xt)).mono ?_;rintro e w3 ⟨rfl,ht3,hp3⟩;rw[P12.kB hnm]at hp3;have hT3:=ah.trans (tu trivial:ah br w6 _) ht3;clear ht3;go_wp2_with fail
     rotate_left 1
     case' _=>
      have hI:=hI true (by simp[bR,hnt,hk]);have hlb:¬ (t.text.length:Int)≤24:=ab;have hnm:P12.named r=false:=by simp[P12.named,hnt,hk,hl]
     rotate_left 1
     case' _=>
      have hI:=hI false (by simp[bR,hnt,hk]);have hnm:P12.named r=false:=by simp[P12.named,hnt,hk]
     rotate_right 1
     iterate 2
      case' _=>
       go_wp2_with fail;refine Xk.reg 17 (Xk.w1 hI λp=>?_);go_wp2_with fail;have hp3:=HPS.out.ext (show Xk.Ext w6 (Xk.exw w6 p)from Xk.xt);rw[P12.nx (most:=16) (n:=n') hnm]at hp3;have hT3:ah br w6 (Xk.exw w6 p):=tu trivial;generalize Xk.exw w6 p=w3 at hp3 hT3 ⊢
      rotate_left 1
     all_goals
      have hA3:=hA4.turn hT3 h1;have hK3:=hK4.trans (Kept.bB hT3 aI);have hnr:=λr3=>P12.AY (n:=n') (r:=r) (r':=r3);have hsk3:=P12.B1 16 n' P12.named (.ok r);clear HI hI hnt hk hnm c0 c1 c2 c3 c4 t0 t1 t2 hT3 hA4 hK4 HPS;generalize dF 16 n' P12.named (.ok r)=S3 at hp3 hnr HC0 hsk3;go_wp2_with fail;refine(KB br gx wL.heap.size n' t' k' S3 _ hp3 hA3 h1 HSM.out hn16 hnr).mono ?_;rintro e w10 ⟨t2,k2,n2,s4,rfl,hA10,hK10,hp10,hn10,hsk10,hsm10,hok10⟩;go_wp2_with fail;go_meet
      case rel=>exact⟨t2,k2,n2,s4,rfl,hp10,hA10,hK3.trans hK10,HC0.out _ _ hn10,hsk3.trans hsk10,hsm10,hok10⟩
theorem Gh(br:Nat)(s:PS)(w:World)(hr:Ps br s w):Calls af 85 #[rp br] w (Cm br w s (jC w) P12.create):=by
 have HR:=aa hr;have lr:=hr.lt;clear hr;have hbs:∀ (b:Bool) (W:World),(cR 40 #[(0,lK .i64 3),(5,bT b)]).run af W = .ok (.agg (cT 3 [] aj aj aj aj [] [] b aj aj aj noE aj aj noE aj aj 0).toArray) W:=λb W=>by kernel_rfl
 have HB:=aa hbs;clear hbs;go_enter Tryz.func85,Tryz.ntmps85;go_wp2_with fail;refine(fD br s [84,65,66,76,69] aq _ (HR.out.ext Xk.xt)).mono ?_;rintro e w1 ⟨rfl,ht1,hp1⟩;have hz1:=ht1.held (aw w _) ab;have hT1:ah br w w1:=ah.trans (tu trivial) ht1;have hT1':ah br (w.alloc (.cells bC.toArray 40)) w1:=ht1;have hs1:=(ae.1 hz1).1;clear ht1
 cases hb:(bn [84,65,66,76,69] s).1
 case true=>
  go_wp2_with fail;refine(GD br _ _ hp1).mono ?_;rintro e w9 ⟨v,x,s9,rfl,⟨l,rfl,hs⟩,ht9,hp9,hn9,hsk9⟩;have hN:=P12.ux hb hn9;have hS:=(P12.dK [84,65,66,76,69] s).trans hsk9;have hz9:=ht9.held hz1 ab;have hl37:=hs.length;have HS:=aa hs;have HT9:=aa (ah.trans hT1 ht9);have HP9:=aa hp9;have hs9:=ht9.size;clear hs ht9 hp9;go_wp2_with ((refine bQ rfl 40 _ _ rfl (w.heap.size) _ _ 40 rfl rfl (hz9) ((by simp[hl37])) ((by simp only[aP,hl37];kernel_rfl)) (HS.out.one) ?_;intro w10 hp10));refine ar (aH (fn:=Tryz.f85) rfl rfl hp10.blk aB rfl (by simp only[aP,hl37];kernel_rfl)) rfl ?_
  exact⟨_,x,s9,rfl,⟨l,rfl,HS.out.bg (λb hb _=>hp10.rest b ab) (λb hb _=>by omega)⟩,bt.turn hp10 HT9.out (ai _),bt.ps hp10 HP9.out lr,hN,hS⟩
 have hsk0:=Sk.refl s;rw[(P12.cp hb).1]at hp1;go_wp2_with fail;refine(fD br s [85,78,73,81,85,69] aq _ hp1).mono ?_;rintro e w2 ⟨rfl,ht2,hp2⟩;have ht12:=ah.trans hT1' ht2;have hN0:=aa λ(x:P12.St) (s8:PS) (h:Nx (P12.mkIdx (bn [85,78,73,81,85,69] s).1) (bn [85,78,73,81,85,69] s).2 x s8)=>P12.uy hb h;have hsk2:=P12.dK [85,78,73,81,85,69] s;clear hb hz1 hT1 hT1' hs1 ht2 hp1;generalize bn [85,78,73,81,85,69] s=q at hp2 hN0 hsk2 ⊢;obtain⟨u,s2⟩:=q;dsimp only at hp2 hN0 hsk2 ⊢
 go_wp2_with (first|(refine cU rfl 40 _ rfl _ rfl _ (HB.out _ _) ?_)|((refine pw (aw w2 _) ?_;intro w3 hp3);have F3:=Dz.start lr ht12 hp2 hsk2 hp3));have hgz:=F3.gzge;have hzx:=F3.zx;clear hp3 ht12 hp2 hsk2 HB HR;generalize w2.heap.size=gx at *
 refine(iU br s2 [73,78,68,69,88] aq _ F3.ps).mono ?_;rintro e w4 ⟨rfl,ht4,hp4⟩;have F4:=F3.step ht4 hp4 (P12.du _ _);clear ht4 hp4 F3;go_wp2_with fail;refine(iE br _ _ F4.ps).mono ?_;rintro e w5 ⟨rfl,ht5,hp5⟩;have F5:=F4.step ht5 hp5 (P12.fM _);have hNA:=P12.gR (bE [73,78,68,69,88] s2);clear ht5 hp5 F4;generalize bZ (bE [73,78,68,69,88] s2)=q at F5 hNA ⊢;obtain⟨a,s5⟩:=q;dsimp only at F5 hNA ⊢;have c5:=F5.cell (o:=6) rfl;have f5:=F5.free 6;have l5:=F5.size;have F6:=(F5.set 6 (bs a)).cells (c':=(cT 3 [] aj aj aj aj a [] u aj aj aj noE aj aj noE aj aj 0).toArray) rfl;clear F5;go_wp2_with fail
 refine(iU br s5 [79,78] aq _ F6.ps).mono ?_;rintro e w7 ⟨rfl,ht7,hp7⟩;have F7:=F6.step ht7 hp7 (P12.du _ _);clear ht7 hp7 F6 c5 f5 l5;go_wp2_with fail;refine(iE br _ _ F7.ps).mono ?_;rintro e w8 ⟨rfl,ht8,hp8⟩;have F8:=F7.step ht8 hp8 (P12.fM _);have hNB:=P12.gR (bE [79,78] s5);clear ht8 hp8 F7;generalize bZ (bE [79,78] s5)=q at F8 hNB ⊢;obtain⟨b,s8⟩:=q;dsimp only at F8 hNB ⊢;have c8:=F8.cell (o:=7) rfl;have f8:=F8.free 7;have l8:=F8.size;have F9:=(F8.set 7 (bs b)).cells (c':=(cT 3 [] aj aj aj aj a b u aj aj aj noE aj aj noE aj aj 0).toArray) rfl;clear F8;go_wp2_with fail
 refine(dO br s8 [40] aq _ F9.ps).mono ?_;rintro e w10 ⟨rfl,ht10,hp10⟩;have F10:=F9.step ht10 hp10 (P12.du _ _);clear ht10 hp10 F9 c8 f8 l8;go_wp2_with fail;refine(ss br _ _ F10.ps).mono ?_;rintro e w11 ⟨v,l,s11,rfl,hsl,ht11,hp11,hn11,hsk11⟩;obtain⟨p1,p2,p3,rfl⟩:=ee hsl;have F11:=(F10.step ht11 hp11 hsk11).add (gy l (.slice p1 p2 p3)) (F10.up (gy l (.slice p1 p2 p3)) hsl);have hNN:=hN0.out _ _ (P12.Fa hNA hNB (P12.sV hn11));have c11:=F11.cell (o:=9) rfl;have f11:=F11.free 9;have l11:=F11.size
 have F12:=(F11.set 9 (.slice p1 p2 p3)).cells (c':=(cT 3 [] aj aj aj aj a b u (.slice p1 p2 p3) aj aj noE aj aj noE aj aj 0).toArray) rfl;clear ht11 hp11 hn11 hsk11 hsl F10 F11 hNA hNB hN0;have hb12:=F12.blk;have hz12:=F12.zero;go_upto_region 10 with fail
 generalize w11.setCell ⟨gx,9,none⟩ (.slice p1 p2 p3)=w12 at *
 clear c11 f11 l11;go_wp2_with (first|(refine lw hb12 aB ?_)|(refine pw hz12 ?_;intro w13 hp13));refine ar (aH (fn:=Tryz.f85) rfl rfl hp13.blk aB rfl au) rfl ?_;refine Dz.finish (x := { P12.made 3 with unique:=u,name:=a,on:=b,cols:=l }) F12 hp13 (λ⟨_,q⟩=>?_) hNN;exact⟨aj,aj,aj,aj,_,aj,aj,noE,aj,aj,noE,aj,aj,rfl,aE.nil _ _ _ _,aE.nil _ _ _ _,aE.nil _ _ _ _,aE.nil _ _ _ _,q,aE.nil _ _ _ _,aE.nil _ _ _ _,rfl,aE.nil _ _ _ _,aE.nil _ _ _ _,rfl,aE.nil _ _ _ _,aE.nil _ _ _ _⟩
open _root_.P12 (PS Gd okB cH isK cf Nx bn bE bZ bR ew dA de cB Sk inS Rw dF gJ)
theorem P12.Dj{s s2:PS}{x:List P12.E}(h:Nx (P12.exprs P12.expr) (bE [40] s) x s2):Nx P12.fg s x (bE [41] s2):=by
 rw[P12.pS];refine P12.fw ?_;refine P12.cE h ?_;dsimp only;refine P12.fw ?_;exact P12.fo x _
abbrev I1:P12.R->Except P12.Er (List (List P12.E)×P12.R):=λr=>P12.eJ 32 (P12.isT [40]) P12.fg r.l.length 0 r
theorem P12.Fl:P12.names=λr=>if P12.isT [40] r=true then gJ nD (P12.ax r)else P12.bU 120 r:=by
 funext r;rw[P12.ta];dsimp only
 cases h:P12.isT [40] r
 ·rw[if_neg aI];unfold P12.bL;rw[h];rfl
 ·rw[if_pos rfl];unfold P12.bL;rw[h,if_pos rfl];show(nD (P12.ax r) >>= λz=>P12.bL [41] z.2 >>= λr => .ok (z.1,r))=gJ nD (P12.ax r)
  unfold gJ
  cases nD (P12.ax r)with
  | error e=>rfl
  | ok p=>
   dsimp only[bind,cG]
   cases P12.bL [41] p.2<;>rfl
def nz(r:P12.R):Except P12.Er (List P12.T×P12.R):=if P12.isT [40] r=true then P12.names r else .ok ([],r)
theorem P12.AR{s s2:PS}{l:List P12.T}(hb:(bn [40] s).1=true)(h:Nx (gJ nD) (bn [40] s).2 l s2):Nx nz s l s2:=by
 refine P12.B5 (F:=λr=>if P12.isT [40] r=true then gJ nD (P12.ax r)else .ok ([],r)) (P12.fS hb h) (λr e=>?_);unfold nz;rw[P12.Fl];dsimp only;split<;>rfl
theorem P12.Dn{s st:PS}{a:P12.T}{s1:PS}(h1:Nx P12.name (bE [73,78,84,79] s) a s1){c:List P12.T}{s2:PS}(h2:Nx nz s1 c s2){l:List (List P12.E)}(h3:Nx I1 (bE [86,65,76,85,69,83] s2) l st):Nx P12.insert s { P12.made 5 with name:=a,cols:=c,rows:=l } st:=by
 rw[P12.insert_eq];refine P12.fw ?_;refine P12.cE h1 ?_;dsimp only;refine P12.cE h2 ?_;dsimp only;refine P12.fw ?_;exact P12.cE h3 (P12.fo ({ P12.made 5 with name:=a,cols:=c,rows:=l }:P12.St) st)
def Gt(br B:Nat)(F:P12.R->Except P12.Er (List P12.E×P12.R))(s:PS)(v:Value)(W:World):Prop:=∃p n c y s2,v = .slice p n c/\aE (λb=>B≤b) W 10 (dY (λb=>B≤b) W) y v/\Ps br s2 W/\Nx F s y s2/\Sk s s2
theorem Gt.ext{br B:Nat}{F:P12.R->Except P12.Er (List P12.E×P12.R)}{s:PS}:∀v w w',Xk.Ext w w'->Gt br B F s v w->Gt br B F s v w':=by
 rintro v w w' hx ⟨p,n,c,y,s2,h0,h1,h2,h3⟩;exact⟨p,n,c,y,s2,h0,h1.bg (λb _ hl=>hx.block b hl) (λb hb _=>hb) (λe u h=>bj _ _ _ _ _ _ h (λb _ hl=>hx.block b hl) (λb hb _=>hb)),h2.ext hx,h3⟩
def Gs(B:Nat)(F:P12.R->Except P12.Er (List P12.E×P12.R))(s:PS)(v:Value)(W:World):Prop:=∃g p n c y s2,v = .slice (some ⟨g,0,none⟩) 1 1/\B≤g/\W.heap[g]?=some (.cells #[.slice p n c] 25)/\aE (λb=>B≤b) W 10 (dY (λb=>B≤b) W) y (.slice p n c)/\Nx F s y s2
theorem Gs.turn{br B:Nat}(hB:br<B){F:P12.R->Except P12.Er (List P12.E×P12.R)}{s:PS}:∀v w w',ah br w w'->Gs B F s v w->Gs B F s v w':=by
 rintro v w w' ht ⟨g,p,n,c,y,s2,h0,h1,h2,h3,h4⟩;exact⟨g,p,n,c,y,s2,h0,h1,ht.held h2 ab,h3.bg (λb hb hl=>ht.block hl ab) (λb hb _=>hb) (λe u h=>bj _ _ _ _ _ _ h (λb hb hl=>ht.block hl ab) (λb hb _=>hb)),h4⟩
theorem GM{α:Type}{S:Nat->Prop}{w:World}{sz:Nat}{R:α->List Value->Prop}{l:List α}{v:Value}(h:aE S w sz R l v){b:Nat}(hb:v.ownBlock=some b):S b/\b<w.heap.size:=by
 rcases h with⟨-,rfl⟩|⟨g,c,us,rfl,h2,h3,h4,h5,h6,h7,h8,h9⟩
 ·cases hb
 ·cases hb;exact⟨h2,qd h8 (rZ h6 ab h7)⟩
theorem qL{S S':Nat->Prop}{w w':World}{y:List P12.E}{v:Value}(h:aE S w 10 (dY S w) y v)(hb:∀b,S b->b<w.heap.size->w'.heap[b]?=w.heap[b]?)(hS:∀b,S b->b<w.heap.size->S' b):aE S' w' 10 (dY S' w') y v:=
 h.bg hb hS (λ_ _ h=>bj _ _ _ _ _ _ h hb hS)
theorem insert_k(br:Nat)(s:PS)(w:World)(hr:Ps br s w):Calls af 88 #[rp br] w (Cm br w s (jC w) P12.insert):=by
 have HR:=aa hr;have lr:=hr.lt;clear hr;have hbs:∀ (a:P12.T) (W:World),(cR 40 #[(0,lK .i64 5),(3,bs a)]).run af W = .ok (.agg (cT 5 [] aj aj aj aj a [] false aj aj aj noE aj aj noE aj aj 0).toArray) W:=λa W=>by kernel_rfl
 have HB:=aa hbs;clear hbs;go_enter Tryz.func88,Tryz.ntmps88;go_wp2_with fail;refine(iU br s [73,78,84,79] aq _ (HR.out.ext Xk.xt)).mono ?_;rintro e w0 ⟨rfl,ht0,hp0⟩;go_wp2_with fail;refine(iE br _ _ (hp0.ext Xk.xt)).mono ?_;rintro e w1 ⟨rfl,ht1',hp1⟩;have ht1:=ah.trans ht0 (ah.trans (tu trivial) ht1');have hsk:=(P12.du [73,78,84,79] s).trans (P12.fM (bE [73,78,84,79] s));have hNU:=P12.gR (bE [73,78,84,79] s);clear ht0 ht1' hp0 HR;generalize bZ (bE [73,78,84,79] s)=q at hp1 hsk hNU ⊢;obtain⟨a,s1⟩:=q;dsimp only at hp1 hsk hNU ⊢;have HNU:=aa hNU;clear hNU
 go_wp2_with (first|(refine cU rfl 40 _ rfl _ rfl _ (HB.out _ _) ?_)|((refine pw (aw w1 _) ?_;intro w2 hp2);have F2:=Dz.start lr ht1 hp1 hsk hp2));have hzx:=F2.zx;clear hp2 ht1 hp1 hsk HB;generalize w1.heap.size=gx at *
 refine(eW br s1 [40] aq _ F2.ps).mono ?_;rintro e w3 ⟨rfl,ht3,hp3⟩;have F3:=F2.step ht3 hp3 (P12.dK _ _);clear ht3 hp3 F2;obtain⟨i0,hi,hz0,hz1,hz2⟩:=cP Tryz.vu;have Hi:=aa hi;have Hz0:=aa hz0;have Hz1:=aa hz1;have Hz2:=aa hz2;clear hi hz0 hz1 hz2;go_upto_if 10 with fail
 go_cut []from 4 (λw'=>∃cn p1 p2 p3 st',Dz br w.heap.size gx w s (λS w=>True/\aE S w 1 lP cn (.slice p1 p2 p3)) st' (cT 5 [] aj aj aj aj a [] false (.slice p1 p2 p3) aj aj noE aj aj noE aj aj 0).toArray w'/\Nx nz s1 cn st')
 case first=>
  cases hb:(bn [40] s1).1
  ·rw[(P12.cp hb).1]at F3;have F4:=F3.add (gy [] aj) (aE.nil _ _ _ _);have hno:Nx nz s1 [] s1:=P12.dq hb (P12.fo [] s1);go_wp2_with fail;go_meet
   case rel=>exact⟨[],none,0,0,s1,F4,hno⟩
  ·go_wp2_with fail;refine(ss br _ _ F3.ps).mono ?_;rintro e w4 ⟨v,cn,s4,rfl,hsl,ht4,hp4,hn4,hsk4⟩;have hyes:=P12.AR hb hn4;obtain⟨p1,p2,p3,rfl⟩:=ee hsl;have F4:=(F3.step ht4 hp4 hsk4).add (gy cn (.slice p1 p2 p3)) (F3.up (gy cn (.slice p1 p2 p3)) hsl);have c4:=F4.cell (o:=9) rfl;have f4:=F4.free 9;have l4:=F4.size;have F5:=(F4.set 9 (.slice p1 p2 p3)).cells (c':=(cT 5 [] aj aj aj aj a [] false (.slice p1 p2 p3) aj aj noE aj aj noE aj aj 0).toArray) rfl;clear hb ht4 hp4 hn4 hsk4 hsl F3 F4;go_wp2_with fail;go_meet
   case rel=>exact⟨cn,p1,p2,p3,s4,F5,hyes⟩
 case rest=>
  obtain⟨cn,p1,p2,p3,s4,F5,hyes⟩:=hcut;go_wp2_with fail;refine(iU br s4 [86,65,76,85,69,83] aq _ F5.ps).mono ?_;rintro e w5 ⟨rfl,ht5,hp5⟩;have F4:=F5.step ht5 hp5 (P12.du _ _);have HNU:=aa λl st h=>P12.Dn HNU.out hyes (l:=l) (st:=st) h;clear ht5 hp5 F5 F3 hyes;generalize bE [86,65,76,85,69,83] s4=s3 at F4 HNU;generalize w5=wL at *
  have hl0:=ka F4.ps;have hlw:=F4.size;have F3H:=aa F4;clear F4;go_wp2;go_loopw [20] (λ_ wr=>∃ (xs:List (List P12.E)) (v:Value) (s':PS),Ps br s' wr/\Rw I1 32 (P12.isT [40]) P12.fg s3 s' xs/\Kept wL.heap.size [br,gx] wL wr/\wr.heap[gx]?=some (.cells (cT 5 [] aj aj aj aj a [] false (.slice p1 p2 p3) v aj noE aj aj noE aj aj 0).toArray 40)/\dt wL.heap.size 25 1 Aw xs v wr/\(xs = []->v=aj)/\xs.length+eB br wr≤8193) (λ_ wr=>eB br wr)
  case atStart=>exact⟨[],aj,s3,F3H.out.ps,Rw.start _ _ _ _,Kept.refl _ _ _,F3H.out.blk,dt.nil,λ_=>rfl,by simpa using hl0⟩
  case round=>
   obtain⟨xs,v,s',hps,hrw,hkp,hbx,hg,hnil,hxl⟩:=hrel;have HPS:=aa hps;have HRW:=aa hrw;have HK:=aa hkp;have HG:=aa hg;have HX:=aa hbx;have HNL:=aa hnil;have hsz:=hkp.size;have lgx:=(ae.1 hbx).1;obtain⟨q,cq,rfl⟩:=hg.form;have cS:wr.cell? ⟨gx,10,none⟩=some (.slice q xs.length cq):=by simp[ak,hbx]
   clear hps hrw hkp hbx hg hnil hl0;go_wp2_with fail;refine(eK br s' _ HPS.out).mono ?_;rintro e w2 ⟨rfl,rfl⟩
   cases s' with
   | error e=>
    have hN:=Rw.err HRW.out;have hS:=HRW.out.1;have hG:=HG.out.nt eA aq HNL.out;have F6:=F3H.out.row HK.out HX.out HPS.out hS;have hNN:=HNU.out _ _ hN;have F9:=F6.add (bF eA 1 (xs) ((.slice q xs.length cq))) (bF eA 1 (xs) ((.slice q xs.length cq)) _ _ _ _ hG (λ_ _ _=>rfl) (λb hb _=>by omega));have hb9:=F9.blk;have hz9:=F9.zero;clear hN hS hG F6;go_wp2_with (first|(refine lw hb9 aB ?_)|(refine pw hz9 ?_;intro w13 hp13));refine ar (aH (fn:=Tryz.f88) rfl rfl hp13.blk aB rfl au) rfl ?_;refine Dz.finish (x := { P12.made 5 with name:=a,cols:=cn,rows:=xs }) F9 hp13 (λ⟨hc,hs⟩=>?_) hNN
    exact⟨aj,aj,aj,aj,_,_,aj,noE,aj,aj,noE,aj,aj,rfl,aE.nil _ _ _ _,aE.nil _ _ _ _,aE.nil _ _ _ _,aE.nil _ _ _ _,hc.2,hs,aE.nil _ _ _ _,rfl,aE.nil _ _ _ _,aE.nil _ _ _ _,rfl,aE.nil _ _ _ _,aE.nil _ _ _ _⟩
   | ok r=>
    have HGD:=aa HPS.out.gd;have hpl:=HPS.out.gd.good.pos;have HLN:=aa HPS.out.len;go_wp2_with fail;refine(nu br (.ok r) [40] _ HPS.out).mono ?_;rintro e w5 ⟨rfl,hx5⟩;have hT5:ah br wr w5:=ah.aR hx5;have hp5:=HPS.out.ext hx5;have c5:=Xk.bO hx5 cS;have hs5:=hx5.size;clear hx5 cS;have hco:isK 5 [40] (.ok r)=P12.isT [40] r:=P12.gn HGD.out aq;rw[hco]
    cases hci:P12.isT [40] r
    case' true=>
     go_wp2_with fail;refine(ki br (.ok r) (xs.length+1) 32 _ hp5).mono ?_;rintro e w6 ⟨rfl,ht6,hp6⟩;rw[P12.kB hci]at hp6;replace hT5:=ah.trans hT5 ht6
     have c6:=ht6.cell c5 ab;have hs6:=ht6.size;clear ht6 hp5 c5
    case' false=>
     rw[P12.nx (most:=32) (n:=xs.length) hci]at hp5;have hs6:=hs5;have hp6:=hp5;have c6:=c5;clear hp5 c5;generalize w5=w6 at *
    all_goals
     go_wp2_with fail;refine(dO br _ [40] aq _ hp6).mono ?_;rintro e w7 ⟨rfl,ht7,hp7⟩;have hst:=λ(y:List P12.E) (s8:PS) (h:Nx (P12.exprs P12.expr) (bE [40] (dF 32 xs.length (P12.isT [40]) (.ok r))) y s8) (k:Sk (bE [40] (dF 32 xs.length (P12.isT [40]) (.ok r))) s8)=>Rw.step HRW.out HGD.out (P12.Dj h) ((P12.du [40] _).trans (k.trans (P12.du [41] _)));generalize bE [40] (dF 32 xs.length (P12.isT [40]) (.ok r))=S7 at hp7 hst ⊢;have HST:=aa hst;have hT7:=ah.trans hT5 ht7;have c7:=ht7.cell c6 ab;have hs7:=ht7.size;have HP7:=aa hp7;clear ht7 hp6 c6 hp7 hst hT5 HPS HRW hci hco;go_wp2_with fail
     refine Xg.bm (E:=ah br) (Xe.bS _) (λch W=>False) 3 5 (λ_=>none) (λ_ _ h=>by cases h) (λ_ _ _ _ h=>by cases h) [(3,Gt br w7.heap.size (P12.exprs P12.expr) S7),(4,Gs w7.heap.size (P12.exprs P12.expr) S7)] au au (Xg.cg ((by
           intro y hy;simp only[aJ,aF,or_false]at hy;rcases hy with rfl|rfl
           ·rw[if_pos rfl];exact Gt.ext
           ·rw[if_neg (show ¬ (4=3) by decide)];exact Gs.turn ab))) ((λch a w' hd hX=>hX.elim)) ?_
     simp only[aG,aY,aL,bd];refine Xg.gs ?_;refine Xs.gf (show w7.drew.cell? ⟨gx,10,none⟩=some (.slice q xs.length cq)from c7) ?_;refine Xg.gs ?_;(refine Xg.dM az az rfl (λW hx hp=>?_) (λu3 K hK=>?_);(go_simp;((refine(IK br S7 W (HP7.out.drew.ext hx)).mono ?_);intro e w8 h;obtain⟨v8,y,s8,rfl,h1,h2,h3,h4,h5⟩:=h;obtain⟨p,n,c,rfl⟩:=ee h1;exact kr ⟨_,rfl,h2,⟨p,n,c,y,s8,rfl,qL h1 (λ_ _ _=>rfl) (λb hb _=>by have:=hx.size;simp only[bM]at this;omega),h3,h4,h5⟩,λb hb=>by have:=GM h1 hb;exact⟨.inr this.1,this.2⟩⟩));(go_simp;refine hK _ ?_;clear hK K))
     (refine Xg.bc az az aq (λW hx hp=>?_) (λu4 K hK=>?_);((obtain⟨p,n,c,y,s8,hu,h1,-,h3,-⟩:=Xe.bG hp au;subst hu;go_simp;exact⟨(al _ _).alloc (ai _) _,⟨W.heap.size,p,n,c,y,s8,rfl,(by have:=hx.size;simp only[bM]at this;omega),aw W _,qL h1 (λb _ hl=>(xal W _).block b hl) (λb hb _=>hb),h3⟩,λb hb=>by cases hb;exact⟨.inr (ai _),by simp⟩⟩));(go_simp;refine hK _ ?_;clear hK K))
     refine Xg.bD (λw8 hx hp hg=>?_);obtain⟨⟨g,p,n,c,y,s8,rfl,hge,hgc,hsl,hn8⟩,⟨-,-,-,y',s8',-,-,hp8,hn8',hsk8⟩,-⟩:=hp;have hss:=P12.pn hn8 hn8';subst hss;have HSP:=HST.out y s8 hn8 hsk8;have hT8:ah br wr w8:=ah.trans hT7 ((ah.drew (ah.refl br w7)).trans hx);have hlp:=hT8.size;have hs8:w7.heap.size≤w8.heap.size:=((ah.drew (ah.refl br w7)).trans hx).size;clear HST hn8 hn8' hsk8 hx hg hT7 HP7 c7;have HST:=aa HSP;obtain⟨us,ho,hus,huz,hur⟩:=HG.out;have hlt:=ho.lt;have HO:=aa ho;have HUR:=aa hur;have hx8:=hT8.held HX.out ab;clear ho hur HG HSP
     go_wp2_with (at_builtin;refine Xo.bY wL.heap.size rfl _ _ 30 rfl 25 i0 _ 1 24 Tryz.underlying30 Hi.out Hz0.out Hz1.out Hz2.out rfl aq (.slice q xs.length cq) xs.length us.flatten rfl (fC HO.out hT8 ab) g 0 1 1 [.slice p n c] rfl aq rfl (λj u hj=>by match j,hj with|0,hj=>(simp at hj;subst hj;simp[ak,hgc])) (Xo.Kq rfl) ab ab ?_;intro v' w9 ho' hg' hk';obtain⟨z,cz,rfl⟩:=eR ho' ab;have hx9:=(hg'.block gx ab (λe=>by have:=(hlt gx e.symm).1;omega)).trans hx8;have c9:w9.cell? ⟨gx,10,none⟩=some (.slice q xs.length cq):=(by simp[ak,hx9]);have f9:=aD w9 gx 10 _ _ hx9;have HO9:=aa ho';have HG9:=aa hg';have HK9:=aa hk';have HX9:=aa hx9;have l9:=(ae.1 hx9).1;clear ho' hg' hk' hx9 hx8)
     have hKW:=((HK.out.trans (Kept.bB hT8 aI)).grown HG9.out (λb hb=>(hlt b hb).1)).setCell (g:=gx) (.inr (.inl aI)) 10 (.slice (some ⟨z,0,none⟩) (xs.length+1) cz);have hbW:(w9.setCell ⟨gx,10,none⟩ (.slice (some ⟨z,0,none⟩) (xs.length+1) cz)).heap[gx]?=some (.cells (cT 5 [] aj aj aj aj a [] false (.slice p1 p2 p3) (.slice (some ⟨z,0,none⟩) (xs.length+1) cz) aj noE aj aj noE aj aj 0).toArray 40):=heap_setCell_same w9 gx 10 _ _ _ HX9.out
     have hGW:=(dt.push (x:=y) eA hus huz (λj x u hx hu=>eA _ _ _ _ _ _ (HUR.out j x u hx hu) (λb hb hl=>hT8.block hl ab) (λb hb _=>hb)) HG9.out HO9.out HK9.out rfl ⟨_,rfl,qL hsl (λ_ _ _=>rfl) (λb hb _=>⟨by omega,λe=>by have:=(hlt b e).2;omega⟩)⟩).set eA (g:=gx) ab 10 (.slice (some ⟨z,0,none⟩) (xs.length+1) cz);have hPW:=Ps.setCell (hp8.grown HG9.out (λb hb=>by have:=(hlt b hb).1;omega)) (g:=gx) ab 10 (.slice (some ⟨z,0,none⟩) (xs.length+1) cz);have hnn:xs ++ [y] = []->(.slice (some ⟨z,0,none⟩) (xs.length+1) cz:Value)=aj:=λh=>by simp at h
     have HNN:=aa hnn;clear hsl hgc hp8 hT8 HO9 HG9 HK9 HX9 HUR HO c9 f9 HK HX hnn;generalize w9.setCell ⟨gx,10,none⟩ (.slice (some ⟨z,0,none⟩) (xs.length+1) cz)=W at hKW hbW hGW hPW ⊢;have hsW:=hKW.size;refine(dO br s8 [41] aq _ hPW).mono ?_;rintro e w11 ⟨rfl,ht11,hp11⟩;replace hKW:=hKW.trans (Kept.bB ht11 aI)
     replace hbW:=ht11.held hbW ab
     replace hGW:=hGW.turn eA ht11 ab
     have hs11:=ht11.size;generalize bE [41] s8=s9 at hp11 HST ⊢;clear ht11 hPW;go_wp2_with fail;refine(eW br s9 [44] aq _ hp11).mono ?_;rintro e w10 ⟨rfl,ht10,hp10⟩;have hK10:=hKW.trans (Kept.bB ht10 aI);have hb10:=ht10.held hbW ab;have hG10:=hGW.turn eA ht10 ab;clear hKW hbW hGW ht10 hp11
     cases hcm:(bn [44] s9).1
     case true=>
      obtain⟨hRW,hlt6⟩:=HST.out.2 hcm
      have hpl6:eB br w10<eB br wr:=by
       rw[HLN.out];generalize bn [44] s9=q6 at hp10 hlt6;obtain⟨b6,s6⟩:=q6
       cases s6 with
       | error e=>rw[hp10.tA];omega
       | ok r6=>rw[hp10.len];exact hlt6 r6 rfl
      go_wp2;go_roundw
      case rel=>exact⟨xs ++ [y],_,_,hp10,hRW,hK10,hb10,hG10,HNN.out,by rw[aN,bf];omega⟩
      case measure=>exact hpl6
     have hs2:=(P12.cp hcm).1;rw[hs2]at hp10;obtain⟨hN,hS⟩:=HST.out.1 hcm;have hG:=hG10.nt eA aq HNN.out;have F6:=F3H.out.row hK10 hb10 hp10 hS;clear hs2 hcm HST hG10 hb10 hK10;have hNN:=HNU.out _ _ hN;have F9:=F6.add (bF eA 1 ((xs ++ [y])) ((.slice (some ⟨z,0,none⟩) (xs.length+1) cz))) (bF eA 1 ((xs ++ [y])) ((.slice (some ⟨z,0,none⟩) (xs.length+1) cz)) _ _ _ _ hG (λ_ _ _=>rfl) (λb hb _=>by omega));have hb9:=F9.blk;have hz9:=F9.zero;clear hN hS hG F6;go_wp2_with (first|(refine lw hb9 aB ?_)|(refine pw hz9 ?_;intro w13 hp13));refine ar (aH (fn:=Tryz.f88) rfl rfl hp13.blk aB rfl au) rfl ?_
     refine Dz.finish (x := { P12.made 5 with name:=a,cols:=cn,rows:=(xs ++ [y]) }) F9 hp13 (λ⟨hc,hs⟩=>?_) hNN;exact⟨aj,aj,aj,aj,_,_,aj,noE,aj,aj,noE,aj,aj,rfl,aE.nil _ _ _ _,aE.nil _ _ _ _,aE.nil _ _ _ _,aE.nil _ _ _ _,hc.2,hs,aE.nil _ _ _ _,rfl,aE.nil _ _ _ _,aE.nil _ _ _ _,rfl,aE.nil _ _ _ _,aE.nil _ _ _ _⟩
open _root_.P12 (PS Gd okB cH isK cf Nx bn bE bZ bR ew dA de cB Sk inS Rw dF gJ)
abbrev wR:P12.R->Except P12.Er (List (Bool×P12.E×P12.T)×P12.R):=λr=>P12.eJ 16 (λr=>P12.isT [42] r||P12.dV r) P12.item r.l.length 0 r
abbrev ma:P12.R->Bool:=λr=>P12.isT [42] r||P12.dV r
theorem P12.Ie{r:P12.R}(h:P12.isT [42] r=true){n:Nat}:Nx P12.item (dF 16 n ma (.ok r)) (true,P12.E.none,[]) (cf (dF 16 n ma (.ok r))):=by
 unfold dF;dsimp only;split
 ·rfl
 ·unfold Nx;dsimp only;rw[P12.su];dsimp only;rw[if_pos h];exact⟨rfl,rfl⟩
theorem P12.Bd{r:P12.R}(hg:Gd r)(h:P12.isT [42] r=false)(hb:P12.dV r=false):P12.item r = .error (P12.km r):=by
 rw[P12.su];dsimp only;rw[if_neg (by rw[h];simp),P12.pz hg hb];rfl
def vt(r:P12.R):Except P12.Er ((Bool×P12.E×P12.T)×P12.R):=P12.expr r >>= λz=>if P12.isT [65,83] z.2=true then(P12.name (P12.ax z.2) >>= λw => .ok ((false,z.1,w.1),w.2))else .ok ((false,z.1,[]),z.2)
theorem P12.Fe{r:P12.R}(h:P12.isT [42] r=false){n:Nat}{x:Bool×P12.E×P12.T}{s2:PS}(hx:Nx vt (cB (n+1) 16 (.ok r)) x s2):Nx P12.item (cB (n+1) 16 (.ok r)) x s2:=by
 refine P12.B5 hx (λr' e=>?_)
 have:r'=r:=by
  unfold cB at e;dsimp only at e;split at e
  ·cases e;rfl
  ·split at e
   ·cases e
   ·split at e<;>cases e
 subst this;rw[P12.su];dsimp only;rw[if_neg (by rw[h];simp)];rfl
theorem P12.Ax{r:P12.R}(h:P12.isT [42] r=false){n:Nat}:dF 16 n P12.dV (.ok r)=dF 16 n ma (.ok r):=by
 unfold dF ma;dsimp only;rw[h,im]
theorem P12.yD{s s1:PS}{x:P12.E}(h:Nx P12.expr s x s1)(hb:(bn [65,83] s1).1=true){a:P12.T}{s2:PS}(hn:Nx P12.name (bn [65,83] s1).2 a s2):Nx vt s (false,x,a) s2:=by
 unfold vt;refine P12.cE h ?_;refine P12.fS (A:=λr=>P12.name r >>= λw => .ok ((false,x,w.1),w.2)) hb ?_;exact P12.cE hn (P12.fo (false,x,a) s2)
theorem P12.yC{s s1:PS}{x:P12.E}(h:Nx P12.expr s x s1)(hb:(bn [65,83] s1).1=false):Nx vt s (false,x,[]) s1:=by
 unfold vt;refine P12.cE h ?_;exact P12.dq hb (P12.fo (false,x,([]:P12.T)) s1)
theorem P12.vr{r:P12.R}(hg:Gd r)(hci:P12.isT [42] r=false){n:Nat}{y:Bool×P12.E×P12.T}{s2:PS}(h:Nx vt (cB (n+1) 16 (.ok r)) y s2)(hs:Sk (cB (n+1) 16 (.ok r)) s2):Nx P12.item (dF 16 n ma (.ok r)) y s2/\Sk (dF 16 n ma (.ok r)) s2:=by
 rw[← P12.Ax hci];exact P12.oE (λhb=>P12.Bd hg hci hb) (P12.Fe hci h) hs
theorem P12.Ig{s s1 s2:PS}{y x:P12.T×P12.T}{e:P12.E}(hb:(bn [74,79,73,78] s).1=true)(h1:Nx P12.source (bn [74,79,73,78] s).2 x s1)(h2:Nx P12.expr (bE [79,78] s1) e s2):Nx (P12.oh y) s ([y,x],e) s2:=by
 refine P12.fS (A:=λr=>P12.source r >>= λz=>P12.bL [79,78] z.2 >>= λr=>P12.expr r >>= λw => .ok (([y,z.1],w.1),w.2)) hb ?_;refine P12.cE h1 ?_;dsimp only;refine P12.fw ?_;exact P12.cE h2 (P12.fo ([y,x],e) s2)
theorem P12.AO{s st s8 s9 s10 s11 s12 s13:PS}{items:List (Bool×P12.E×P12.T)}{y:P12.T×P12.T}{frm:List (P12.T×P12.T)}{je wh:P12.E}{g:List P12.E}{o:List (P12.E×Bool)}{l:Int}(h1:Nx wR s items st)(h2:Nx P12.source (bE [70,82,79,77] st) y s8)(h3:Nx (P12.oh y) s8 (frm,je) s9)(h4:Nx P12.wher s9 wh s10)(h5:Nx P12.j0 s10 g s11)(h6:Nx P12.ji s11 o s12)(h7:Nx P12.iL s12 l s13):
  Nx P12.ga s { P12.made 8 with items:=items,frm:=frm,join:=je,wher:=wh,group:=g,order:=o,limit:=l } s13:=by
 rw[P12.rH];refine P12.cE h1 ?_;dsimp only;refine P12.fw ?_;refine P12.cE h2 ?_;dsimp only;refine P12.cE h3 ?_;dsimp only;refine P12.cE h4 ?_;dsimp only;refine P12.cE h5 ?_;dsimp only;refine P12.cE h6 ?_;dsimp only;exact P12.cE h7 (P12.fo ({ P12.made 8 with items:=items,frm:=frm,join:=je,wher:=wh,group:=g,order:=o,limit:=l }:P12.St) s13)
abbrev wV:P12.R->Except P12.Er (List P12.E×P12.R):=λr=>P12.eJ 16 P12.named P12.column r.l.length 0 r
theorem P12.Ff{s s2:PS}{l:List P12.E}(hb:(bn [71,82,79,85,80] s).1=true)(h:Nx wV (bE [66,89] (bn [71,82,79,85,80] s).2) l s2):Nx P12.j0 s l s2:=
 P12.fS (A:=λr=>P12.bL [66,89] r >>= wV) hb (P12.fw h)
abbrev sr:P12.R->Except P12.Er (List (P12.E×Bool)×P12.R):=P12.exprs P12.fO
theorem P12.E7{s s2:PS}{l:List (P12.E×Bool)}(hb:(bn [79,82,68,69,82] s).1=true)(h:Nx sr (bE [66,89] (bn [79,82,68,69,82] s).2) l s2):Nx P12.ji s l s2:=
 P12.fS (A:=λr=>P12.bL [66,89] r >>= sr) hb (P12.fw h)
theorem P12.rP{r:P12.R}(hg:Gd r)(hb:P12.dV r=false):P12.fO r = .error (P12.km r):=by
 rw[P12.pj];dsimp only;rw[P12.pz hg hb];rfl
theorem P12.yv:P12.fO=λr=>P12.expr r >>= λz=>(λr=>if P12.isT [65,83,67] r=true then .ok ((z.1,false),P12.ax r)else if P12.isT [68,69,83,67] r=true then .ok ((z.1,true),P12.ax r)else .ok ((z.1,false),r)) z.2:=by
 rw[P12.pj];funext r;dsimp only;congr 1;funext z;unfold P12.has;by_cases h1:P12.isT [68,69,83,67] z.2=true
 ·simp only[h1,if_true];rw[if_neg (by rw[P12.mT h1 aq];simp)]
 ·by_cases h2:P12.isT [65,83,67] z.2=true<;>simp[h1,h2]
theorem P12.AQ{s s1:PS}{x:P12.E}(h:Nx P12.expr s x s1):
  ((bn [65,83,67] s1).1=true->Nx P12.fO s (x,false) (bn [65,83,67] s1).2)/\((bn [65,83,67] s1).1=false->∀d s2,bn [68,69,83,67] s1=(d,s2)->Nx P12.fO s (x,d) s2):=by
 rw[P12.yv];refine⟨λhb=>P12.cE h ?_,λhb d s2 hq=>P12.cE h ?_⟩
 ·exact P12.fS (A:=λr => .ok ((x,false),r)) hb (P12.fo (x,false) _)
 ·refine P12.dq (A:=λr => .ok ((x,false),P12.ax r)) hb ?_
  cases d with
  | true=>
   have h1:(bn [68,69,83,67] s1).1=true:=by rw[hq]
   have h2:(bn [68,69,83,67] s1).2=s2:=by rw[hq]
   rw[← h2];exact P12.fS (A:=λr => .ok ((x,true),r)) h1 (P12.fo (x,true) _)
  | false=>
   have h1:(bn [68,69,83,67] s1).1=false:=by rw[hq]
   have h2:s1=s2:=by rw[← (P12.cp h1).1,hq]
   rw[← h2];exact P12.dq (A:=λr => .ok ((x,true),P12.ax r)) h1 (P12.fo (x,false) _)
def tt(r:P12.R):Except P12.Er (Int×P12.R):=if(P12.nxt r).kind≠3 then P12.bU 120 r else(P12.int 9223372036854775807 r >>= λz => .ok ((z.1:Int),z.2))
theorem P12.Fc{s s2:PS}{n:Int}(hb:(bn [76,73,77,73,84] s).1=true)(h:Nx tt (bn [76,73,77,73,84] s).2 n s2):Nx P12.iL s n s2:=
 P12.fS (A:=tt) hb h
theorem A7{r:P12.R}(h:(P12.nxt r).kind≠3)(n:Int):Nx tt (.ok r) n (cH 120 (.ok r)):=by
 unfold Nx;dsimp only;unfold tt;rw[if_pos h];rfl
theorem A8{r:P12.R}(h:(P12.nxt r).kind=3)(hg:¬ P12.dec (P12.nxt r).text≤9223372036854775807)(n:Int):Nx tt (.ok r) n (cH 123 (.ok r)):=by
 unfold Nx;dsimp only;unfold tt P12.int;rw[if_neg (by simpa using h),if_pos ab];rfl
theorem Fu{r:P12.R}(h:(P12.nxt r).kind=3)(hg:P12.dec (P12.nxt r).text≤9223372036854775807):Nx tt (.ok r) (P12.dec (P12.nxt r).text:Nat) (cf (.ok r)):=by
 unfold Nx;dsimp only;unfold tt P12.int;rw[if_neg (by simpa using h),if_neg ab];exact⟨rfl,rfl⟩
def ExN(B:Nat)(F:P12.R->Except P12.Er (P12.E×P12.R))(s:PS)(v:Value)(W:World):Prop:=∃g l x s2,v = .slice (some ⟨g,0,none⟩) 1 1/\B≤g/\W.heap[g]?=some (.cells l.toArray 35)/\aC (λb=>B≤b) W x l/\Nx F s x s2
theorem ExN.turn{br B:Nat}(hB:br<B){F:P12.R->Except P12.Er (P12.E×P12.R)}{s:PS}:∀v w w',ah br w w'->ExN B F s v w->ExN B F s v w':=by
 rintro v w w' ht ⟨g,l,x,s2,h0,h1,h2,h3,h4⟩;exact⟨g,l,x,s2,h0,h1,ht.held h2 ab,aC.bg (λb hb hl=>ht.block hl ab) (λb hb _=>hb) h3,h4⟩
def BP(br:Nat)(s:PS)(v:Value)(W:World):Prop:=∃x s2,v = .agg #[bs x.1,bs x.2]/\Ps br s2 W/\Nx P12.source s x s2/\Sk s s2
theorem BP.ext{br:Nat}{s:PS}:∀v w w',Xk.Ext w w'->BP br s v w->BP br s v w':=by
 rintro v w w' hx ⟨x,s2,h0,h1,h2⟩;exact⟨x,s2,h0,h1.ext hx,h2⟩
def BO(B:Nat)(s:PS)(v:Value)(W:World):Prop:=∃g x s2,v = .slice (some ⟨g,0,none⟩) 1 1/\B≤g/\W.heap[g]?=some (.cells #[bs x.1,bs x.2] 90)/\Nx P12.source s x s2
theorem BO.turn{br B:Nat}(hB:br<B){s:PS}:∀v w w',ah br w w'->BO B s v w->BO B s v w':=by
 rintro v w w' ht ⟨g,x,s2,h0,h1,h2,h3⟩;exact⟨g,x,s2,h0,h1,ht.held h2 ab,h3⟩
theorem iq:k7 (λ_ _=>sM):=λ_ _ _ _ _ _ h _ _=>h
def Fqy(br gz gx:Nat)(u:Nat->Value):Act:=⟨#[rp br,undef,rp gz,rp gx,u 4,u 5,u 6,u 7,u 8,u 9,u 10,u 11,u 12,u 13,u 14,u 15,u 16,u 17,u 18,u 19,u 20,u 21,u 22,u 23,u 24,u 25,u 26,u 27,u 28,u 29,u 30,u 31,u 32,u 33,u 34,u 35,u 36,u 37,u 38,u 39,u 40,u 41,u 42,u 43,u 44,u 45,u 46,u 47,u 48,u 49,u 50,u 51,u 52,u 53,u 54,u 55,u 56,u 57,u 58,u 59,u 60,u 61,u 62,u 63,u 64,u 65,u 66,u 67,u 68,u 69,u 70,u 71,u 72,u 73,u 74,u 75,u 76,u 77,u 78,u 79,u 80,u 81,u 82,u 83,u 84,u 85,u 86,u 87,u 88,u 89,u 90,u 91,u 92,u 93,u 94,u 95,u 96,u 97,u 98,u 99,u 100,u 101,u 102,u 103,u 104,u 105,u 106,u 107,u 108,u 109,u 110,u 111,u 112,u 113,u 114,u 115,u 116,u 117,u 118,u 119,u 120,u 121,u 122,u 123,u 124,u 125,u 126,u 127,u 128,u 129,u 130,u 131,u 132,u 133,u 134,u 135,u 136,u 137,u 138,u 139,u 140,u 141,u 142,u 143,u 144,u 145,u 146,u 147,u 148,u 149,u 150,u 151,u 152,u 153,u 154,u 155,u 156,u 157,u 158,u 159,u 160,u 161,u 162,u 163,u 164,u 165,u 166,u 167,u 168,u 169,u 170,u 171,u 172,u 173,u 174,u 175,u 176,u 177,u 178,u 179,u 180,u 181,u 182,u 183,u 184,u 185,u 186,u 187,u 188,u 189,u 190,u 191,u 192],[]⟩
def nP(n:Nat):Code->Option Code
 | .cond (.tmp k) a b=>if k=n then some (.cond (.tmp k) a b)else match nP n a with
  | some c=>some c
  | none=>nP n b
 | .seq a b=>match nP n a with
  | some c=>some c
  | none=>nP n b
 | .block _ c=>nP n c
 | .loop c=>nP n c
 | .scope c=>nP n c
 | _=>none
def sx(n:Nat):Code->Option Code
 | .block k c=>if k=n then some (.block k c)else sx n c
 | .seq a b=>match sx n a with
  | some c=>some c
  | none=>sx n b
 | _=>none
noncomputable def B3(n:Nat):Code:=((Tryz.f91.body.bind (nP n)).getD .skip)
noncomputable def EM(n:Nat):Code:=((Tryz.f91.body.bind (sx n)).getD .skip)
theorem Fqy.wp{br gz gx:Nat}{c d:Code}{Q:Exit->Act->World->Prop}{a:Act}{w:World}(hc:c=d)(ha:a=Fqy br gz gx (λk=>a.tmps.getD k undef))(h:d.wp af Q (Fqy br gz gx (λk=>a.tmps.getD k undef)) w):c.wp af Q a w:=by
 rw[hc,ha];exact h
theorem Fqy.k{br gz gx:Nat}{K:Act->World->Prop}{a:Act}{w:World}(h:K (Fqy br gz gx (λk=>a.tmps.getD k undef)) w)(ha:a=Fqy br gz gx (λk=>a.tmps.getD k undef)):K a w:=by
 rw[ha];exact h
theorem yi{br gx:Nat}{w wx:World}{s:PS}{KK:(Nat->Prop)->World->Prop}{kd op vk vi jk jo j1 j2:Int}{vs tb nm j3 j4 j5:P12.T}{pp p1 v1 j6:Option Addr}{pm pc p2 p3 v2 v3 j7 j8:Nat}{g1:Option Addr}{g2 g3:Nat}{s11:PS}{u:Nat->Value}{K:Act->World->Prop}{Q:Exit->Act->World->Prop}(hu:u 114 = .bool (bn [79,82,68,69,82] s11).1)(F10:Dz br w.heap.size gx w s KK (bn [79,82,68,69,82] s11).2 (iT (.slice p1 p2 p3) (.slice v1 v2 v3) (ao jk jo j1 j2 j3 j4 j5 (.slice j6 j7 j8)) (ao kd op vk vi vs tb nm (.slice pp pm pc)) (.slice g1 g2 g3) aj (-1)) wx)
  (hK:∀ (u':Nat->Value) w',(∃od o1 o2 o3 st',Dz br w.heap.size gx w s (mA KK (λS w=>aE S w 11 (se S w) od (.slice o1 o2 o3))) st' (iT (.slice p1 p2 p3) (.slice v1 v2 v3) (ao jk jo j1 j2 j3 j4 j5 (.slice j6 j7 j8)) (ao kd op vk vi vs tb nm (.slice pp pm pc)) (.slice g1 g2 g3) (.slice o1 o2 o3) (-1)) w'/\Nx P12.ji s11 od st')->K (Fqy br w.heap.size gx u') w'):(B3 114).wp af (Exit.then K Q) (Fqy br w.heap.size gx u) wx:=by
 have lr:=F10.lo;have hgw:=F10.zx;have HKX:=aa hK;clear hK;conv=>arg 2;whnf
 dsimp only[Fqy];rw[hu]
 cases hb:(bn [79,82,68,69,82] s11).1
 ·rw[(P12.cp hb).1]at F10;have F11:=F10.add (bF dJ 11 [] aj) (aE.nil _ _ _ _);clear F10;go_wp2_with fail;exact Fqy.k (HKX.out _ _ (show _ from⟨[],_,_,_,s11,F11,P12.dq hb (P12.fo [] s11)⟩)) au
 ·have HSO:=aa λ(l:List (P12.E×Bool)) (s2:PS) (h:Nx sr (bE [66,89] (bn [79,82,68,69,82] s11).2) l s2)=>P12.E7 hb h;clear hb;generalize (bn [79,82,68,69,82] s11).2=s12 at F10 HSO;go_wp2_with fail;refine(iU br s12 [66,89] aq _ F10.ps).mono ?_;rintro e wL ⟨rfl,ht,hp⟩;have F11:=F10.step ht hp (P12.du _ _);clear ht hp F10;generalize bE [66,89] s12=s3 at F11 HSO;have hl0:=ka F11.ps;have hlw:=F11.size;have F3H:=aa F11;clear F11;obtain⟨i0,hi,hz0,hz1,hz2⟩:=cP Tryz.Cj;have Hi:=aa hi;have Hz0:=aa hz0;have Hz1:=aa hz1;have Hz2:=aa hz2;clear hi hz0 hz1 hz2;go_wp2
  go_loopw [119] (λ_ wr=>∃ (xs:List (P12.E×Bool)) (v:Value) (s':PS),Ps br s' wr/\Rw sr 16 P12.dV P12.fO s3 s' xs/\Kept wL.heap.size [br,gx] wL wr/\wr.heap[gx]?=some (.cells (iT (.slice p1 p2 p3) (.slice v1 v2 v3) (ao jk jo j1 j2 j3 j4 j5 (.slice j6 j7 j8)) (ao kd op vk vi vs tb nm (.slice pp pm pc)) (.slice g1 g2 g3) v (-1)) 40)/\dt wL.heap.size 92 11 se xs v wr/\(xs = []->v=aj)/\xs.length+eB br wr≤8193) (λ_ wr=>eB br wr)
  case atStart=>exact⟨[],aj,s3,F3H.out.ps,Rw.start _ _ _ _,Kept.refl _ _ _,F3H.out.blk,dt.nil,λ_=>rfl,by simpa using hl0⟩
  case round=>
   obtain⟨xs,v,s',hps,hrw,hkp,hbx,hg,hnil,hxl⟩:=hrel;have HPS:=aa hps;have HRW:=aa hrw;have HK:=aa hkp;have HG:=aa hg;have HX:=aa hbx;have HNL:=aa hnil;have hsz:=hkp.size;have lgx:=(ae.1 hbx).1;obtain⟨q,cq,rfl⟩:=hg.form;have cS:wr.cell? ⟨gx,35,none⟩=some (.slice q xs.length cq):=by simp[ak,hbx]
   clear hps hrw hkp hbx hg hnil hl0;go_wp2_with fail;refine(eK br s' _ HPS.out).mono ?_;rintro e w2 ⟨rfl,rfl⟩
   cases s' with
   | error e=>
    have hN:=Rw.err HRW.out;have hS:=HRW.out.1;have hG:=HG.out.nt dJ aq HNL.out;have F6:=F3H.out.row HK.out HX.out HPS.out hS;have hNO:=HSO.out _ _ hN;go_wp2_with fail;exact Fqy.k (HKX.out _ _ (show _ from⟨xs,q,xs.length,cq,_,F6.add (bF dJ 11 xs (.slice q xs.length cq)) (bF dJ 11 xs (.slice q xs.length cq) _ _ _ _ hG (λ_ _ _=>rfl) (λb hb _=>by omega)),hNO⟩)) au
   | ok r=>
    have HGD:=aa HPS.out.gd;have hpl:=HPS.out.gd.good.pos;have HLN:=aa HPS.out.len;obtain⟨us,ho,hus,huz,hur⟩:=HG.out;have hlt:=ho.lt;have HO:=aa ho;have HUR:=aa hur;clear ho hur HG;go_wp2_with fail;refine(qY br (.ok r) (xs.length+1) 16 _ HPS.out).mono ?_;rintro e w6 ⟨rfl,hT6,hp6⟩;clear cS;go_wp2_with fail;refine(kX br _ _ hp6).mono ?_;rintro e w7 ⟨v,x,s7,rfl,⟨l,rfl,he⟩,ht7,hp7,hn7,hsk7⟩;obtain⟨kd2,op2,vk2,vi2,vs2,tb2,nm2,pp2,pm2,pc2,rfl⟩:=he.form;have hT7:=ah.trans hT6 ht7;have hs6:=hT6.size;have hs7:=hT7.size;clear ht7 hp6 hT6
    have hbx:∀ (W:World),(cR 92 #[(0,Value.agg (ao kd2 op2 vk2 vi2 vs2 tb2 nm2 (.slice pp2 pm2 pc2)).toArray)]).run af W = .ok (.agg (yw false (ao kd2 op2 vk2 vi2 vs2 tb2 nm2 (.slice pp2 pm2 pc2))).toArray) W:=λW=>by kernel_rfl
    have HBX:=aa hbx;clear hbx;go_wp2_with (first|(refine cU rfl 92 _ rfl _ rfl _ (HBX.out _) ?_)|((refine pw (aw w7 _) ?_;intro wa hpa)));have hTa:ah br wr wa:=bt.turn hpa (ah.alloc hT7 _) ab;have hPa:=bt.ps hpa (hp7.ext (xal w7 _)) ab;have hba:=hpa.blk;have hsa:=hpa.size;rw[ag]at hsa;have hea:aC (λb=>w6.heap.size≤b/\b<w7.heap.size) wa x (ao kd2 op2 vk2 vi2 vs2 tb2 nm2 (.slice pp2 pm2 pc2)):=aC.bg (λb hb hl=>(hpa.rest b ab).trans ((xal w7 _).block b hl)) (λb hb hl=>⟨hb,hl⟩) he;clear hpa hp7 hT7 he HBX;refine(fD br s7 [65,83,67] aq _ hPa).mono ?_;rintro e wb ⟨rfl,htb,hPb⟩
    have hTb:=ah.trans hTa htb;have hbb:=htb.held hba ab;have heb:aC (λb=>w6.heap.size≤b/\b<w7.heap.size) wb x (ao kd2 op2 vk2 vi2 vs2 tb2 nm2 (.slice pp2 pm2 pc2)):=aC.bg (λb hb hl=>htb.block hl ab) (λb hb _=>hb) hea;have hsb:=htb.size;have hno:=P12.AQ hn7;clear htb hPa hba hTa hea
    cases has:(bn [65,83,67] s7).1
    case' true=>
     have hst:=P12.oE (λhb=>P12.rP HGD.out hb) (hno.1 has) (hsk7.trans (P12.dK [65,83,67] s7));obtain⟨d,hd⟩:∃d:Bool,d=false:=⟨_,rfl⟩;have hb8:=hbb;rw[← hd]at hb8 hst;have hT8:=hTb;have hP8:=hPb;have he8:=heb;have hlp:=hTb.size;have hl8:=(ae.1 hbb).1;clear hbb hTb hPb heb has hd hn7 hsk7 hno;go_upto_region 34 with fail
     generalize wb=w8 at *
     generalize (bn [65,83,67] s7).2=s8 at *
    case' false=>
     rw[(P12.cp has).1]at hPb;go_wp2_with fail;refine(fD br _ [68,69,83,67] aq _ hPb).mono ?_;rintro e wc ⟨rfl,htc,hPc⟩;generalize hqn:bn [68,69,83,67] s7=qn at hPc ⊢;obtain⟨d,s8⟩:=qn;dsimp only at hPc ⊢;have hsk8:Sk s7 s8:=by have:=P12.dK [68,69,83,67] s7;rw[hqn]at this;exact this
     have hst:=P12.oE (λhb=>P12.rP HGD.out hb) (hno.2 has d s8 hqn) (hsk7.trans hsk8);have hTc:=ah.trans hTb htc;have hbc:=htc.held hbb ab;have hec:aC (λb=>w6.heap.size≤b/\b<w7.heap.size) wc x (ao kd2 op2 vk2 vi2 vs2 tb2 nm2 (.slice pp2 pm2 pc2)):=aC.bg (λb hb hl=>htc.block hl ab) (λb hb _=>hb) heb;have hsc:=htc.size;have cN:wc.cell? ⟨w7.heap.size,10,none⟩=some (.bool false):=by simp[ak,hbc]
     have fN:=aD wc w7.heap.size 10 _ _ hbc;have lN:=(ae.1 hbc).1;have hb8:(wc.setCell ⟨w7.heap.size,10,none⟩ (.bool d)).heap[w7.heap.size]?=some (.cells (yw d (ao kd2 op2 vk2 vi2 vs2 tb2 nm2 (.slice pp2 pm2 pc2))).toArray 92):=heap_setCell_same wc w7.heap.size 10 _ _ _ hbc;have hT8:ah br wr (wc.setCell ⟨w7.heap.size,10,none⟩ (.bool d)):=tu hTc;have hP8:Ps br s8 (wc.setCell ⟨w7.heap.size,10,none⟩ (.bool d)):=psx hPc
     have he8:aC (λb=>w6.heap.size≤b/\b<w7.heap.size) (wc.setCell ⟨w7.heap.size,10,none⟩ (.bool d)) x (ao kd2 op2 vk2 vi2 vs2 tb2 nm2 (.slice pp2 pm2 pc2)):=aC.bg (λb hb hl=>an wc ⟨w7.heap.size,10,none⟩ b (.bool d) (λe=>by(have h:b=w7.heap.size:=(by simpa using e));omega)) (λb hb _=>hb) hec;have hlp:wr.heap.size≤(wc.setCell ⟨w7.heap.size,10,none⟩ (.bool d)).heap.size:=hT8.size;have hl8:w7.heap.size<(wc.setCell ⟨w7.heap.size,10,none⟩ (.bool d)).heap.size:=by rw[aM];omega
     clear htc hPb hbb hTb heb hTc hec hPc hn7 hsk7 has hno hqn hsk8;go_upto_region 34 with fail
     generalize wc.setCell ⟨w7.heap.size,10,none⟩ (.bool d)=w8 at hb8 hT8 hP8 he8 hlp hl8 ⊢;clear cN fN lN hbc
    all_goals
     have hx8:=hT8.held HX.out ab;have c8:w8.cell? ⟨gx,35,none⟩=some (.slice q xs.length cq):=by simp[ak,hx8]
     have hst':=Rw.step (y:=(x,d)) HRW.out HGD.out hst.1 hst.2;have HST:=aa hst';have HP8:=aa hP8;clear hst hst' hP8 HRW
     go_wp2_with (first|(refine lw hb8 Tryz.underlying92 ?_)|(at_builtin;refine Xo.bY wL.heap.size rfl _ _ 38 rfl 92 i0 _ 11 128 Tryz.underlying38 Hi.out Hz0.out Hz1.out Hz2.out rfl aq (.slice q xs.length cq) xs.length us.flatten rfl (fC HO.out (ah.alloc hT8 _) ab) w8.heap.size 0 1 1 (yw d (ao kd2 op2 vk2 vi2 vs2 tb2 nm2 (.slice pp2 pm2 pc2))) rfl aq rfl (ey w8 _ _ rfl) (dS au) ab (by rw[ag];omega) ?_;intro v' w9 ho' hg' hk';obtain⟨z,cz,rfl⟩:=eR ho' ab;have hx9:=(hg'.block gx (by rw[ag];omega) (λe=>by have:=(hlt gx e.symm).1;omega)).trans ((ah.alloc (ah.refl br w8) _).held hx8 ab);have c9:w9.cell? ⟨gx,35,none⟩=some (.slice q xs.length cq):=(by simp[ak,hx9]);have f9:=aD w9 gx 35 _ _ hx9;have HO9:=aa ho';have HG9:=aa hg';have HK9:=aa hk';have HX9:=aa hx9;have l9:=(ae.1 hx9).1;clear ho' hg' hk' hx9 hx8 c8))
     have hKW:=((HK.out.trans (Kept.bB (ah.alloc hT8 _) aI)).grown HG9.out (λb hb=>(hlt b hb).1)).setCell (g:=gx) (.inr (.inl aI)) 35 (.slice (some ⟨z,0,none⟩) (xs.length+1) cz);have hbW:(w9.setCell ⟨gx,35,none⟩ (.slice (some ⟨z,0,none⟩) (xs.length+1) cz)).heap[gx]?=some (.cells ((cT 8 [] aj aj aj aj [] [] false aj aj aj (ao kd op vk vi vs tb nm (.slice pp pm pc)) (.slice p1 p2 p3) (.slice v1 v2 v3) (ao jk jo j1 j2 j3 j4 j5 (.slice j6 j7 j8)) (.slice g1 g2 g3) (.slice (some ⟨z,0,none⟩) (xs.length+1) cz) (-1))).toArray 40):=heap_setCell_same w9 gx 35 _ _ _ HX9.out
     have hGW:=(dt.push (x:=((x,d):P12.E×Bool)) dJ hus huz (λj x u hx hu=>dJ _ _ _ _ _ _ (HUR.out j x u hx hu) (λb hb hl=>(ah.alloc hT8 _).block hl ab) (λb hb _=>hb)) HG9.out HO9.out HK9.out rfl (⟨_,rfl,aC.bg (λb hb hl=>(xal w8 _).block b hl) (λb hb _=>⟨by omega,λe=>by have:=(hlt b e).2;omega⟩) he8⟩)).set dJ (g:=gx) ab 35 (.slice (some ⟨z,0,none⟩) (xs.length+1) cz);have hPW:=Ps.setCell ((HP8.out.ext (xal w8 _)).grown HG9.out (λb hb=>by have:=(hlt b hb).1;omega)) (g:=gx) ab 35 (.slice (some ⟨z,0,none⟩) (xs.length+1) cz)
     have hnn:xs ++ [((x,d):P12.E×Bool)] = []->(.slice (some ⟨z,0,none⟩) (xs.length+1) cz:Value)=aj:=λh=>by simp at h
     have HNN:=aa hnn;clear HP8 he8 hb8 hT8 HO9 HG9 HK9 HX9 HUR HO c9 f9 HK HX hnn;generalize w9.setCell ⟨gx,35,none⟩ (.slice (some ⟨z,0,none⟩) (xs.length+1) cz)=W at hKW hbW hGW hPW ⊢;refine(eW br _ [44] aq _ hPW).mono ?_;rintro e w10 ⟨rfl,ht10,hp10⟩;have hK10:=hKW.trans (Kept.bB ht10 aI);have hb10:=ht10.held hbW ab;have hsW:=hKW.size;have hG10:=hGW.turn dJ ht10 ab;clear hKW hbW hGW hPW ht10
     cases hcm:(bn [44] s8).1
     case true=>
      obtain⟨hRW,hlt6⟩:=HST.out.2 hcm
      have hpl6:eB br w10<eB br wr:=by
       rw[HLN.out];generalize bn [44] s8=q6 at hp10 hlt6;obtain⟨b6,s6⟩:=q6
       cases s6 with
       | error e=>rw[hp10.tA];omega
       | ok r6=>rw[hp10.len];exact hlt6 r6 rfl
      go_wp2;go_roundw
      case rel=>exact⟨xs ++ [((x,d):P12.E×Bool)],_,_,hp10,hRW,hK10,hb10,hG10,HNN.out,by rw[aN,bf];omega⟩
      case measure=>exact hpl6
     have hs2:=(P12.cp hcm).1;rw[hs2]at hp10;obtain⟨hN,hS⟩:=HST.out.1 hcm;have hG:=hG10.nt dJ aq HNN.out;have F6:=F3H.out.row hK10 hb10 hp10 hS;clear hs2 hcm HST hG10 hb10 hK10;have hNO:=HSO.out _ _ hN;go_wp2_with fail;exact Fqy.k (HKX.out _ _ (show _ from⟨_,_,_,_,_,F6.add (bF dJ 11 _ _) (bF dJ 11 _ _ _ _ _ _ hG (λ_ _ _=>rfl) (λb hb _=>by omega)),hNO⟩)) au
open _root_.P12 (PS Gd okB cH isK cf Nx bn bE bZ bR ew dA de cB Sk inS Rw dF gJ)
theorem yk{br gx:Nat}{w wx:World}{s:PS}{KK:(Nat->Prop)->World->Prop}{kd op vk vi jk jo j1 j2:Int}{vs tb nm j3 j4 j5:P12.T}{pp p1 v1 j6:Option Addr}{pm pc p2 p3 v2 v3 j7 j8:Nat}{s10:PS}{u:Nat->Value}{K:Act->World->Prop}{Q:Exit->Act->World->Prop}(hu:u 75 = .bool (bn [71,82,79,85,80] s10).1)(F8:Dz br w.heap.size gx w s KK (bn [71,82,79,85,80] s10).2 (iT (.slice p1 p2 p3) (.slice v1 v2 v3) (ao jk jo j1 j2 j3 j4 j5 (.slice j6 j7 j8)) (ao kd op vk vi vs tb nm (.slice pp pm pc)) aj aj (-1)) wx)
  (hK:∀ (u':Nat->Value) w',(∃gr g1 g2 g3 st',Dz br w.heap.size gx w s (mA KK (λS w=>aE S w 10 (dY S w) gr (.slice g1 g2 g3))) st' (iT (.slice p1 p2 p3) (.slice v1 v2 v3) (ao jk jo j1 j2 j3 j4 j5 (.slice j6 j7 j8)) (ao kd op vk vi vs tb nm (.slice pp pm pc)) (.slice g1 g2 g3) aj (-1)) w'/\Nx P12.j0 s10 gr st')->K (Fqy br w.heap.size gx u') w'):(B3 75).wp af (Exit.then K Q) (Fqy br w.heap.size gx u) wx:=by
 have lr:=F8.lo;have hgw:=F8.zx;have HKX:=aa hK;clear hK;conv=>arg 2;whnf
 dsimp only[Fqy];rw[hu]
 cases hb:(bn [71,82,79,85,80] s10).1
 ·rw[(P12.cp hb).1]at F8;have F9:=F8.add (bF bj 10 [] aj) (aE.nil _ _ _ _);clear F8;go_wp2_with fail;exact Fqy.k (HKX.out _ _ (show _ from⟨[],_,_,_,s10,F9,P12.dq hb (P12.fo [] s10)⟩)) au
 ·have HSG:=aa λ(l:List P12.E) (s2:PS) (h:Nx wV (bE [66,89] (bn [71,82,79,85,80] s10).2) l s2)=>P12.Ff hb h;clear hb;generalize (bn [71,82,79,85,80] s10).2=s11 at F8 HSG;have hF:=F8;clear F8;go_wp2_with fail;refine(iU br s11 [66,89] aq _ hF.ps).mono ?_;rintro e wL ⟨rfl,ht,hp⟩;have F9:=hF.step ht hp (P12.du _ _);clear ht hp hF;generalize bE [66,89] s11=s3 at F9 HSG;have hl0:=ka F9.ps;have hlw:=F9.size;have F3H:=aa F9;clear F9;obtain⟨i0,hi,hz0,hz1,hz2⟩:=cP Tryz.jH;have Hi:=aa hi;have Hz0:=aa hz0;have Hz1:=aa hz1;have Hz2:=aa hz2;clear hi hz0 hz1 hz2;go_wp2
  go_loopw [80] (λ_ wr=>∃ (xs:List P12.E) (v:Value) (s':PS),Ps br s' wr/\Rw wV 16 P12.named P12.column s3 s' xs/\Kept wL.heap.size [br,gx] wL wr/\wr.heap[gx]?=some (.cells (iT (.slice p1 p2 p3) (.slice v1 v2 v3) (ao jk jo j1 j2 j3 j4 j5 (.slice j6 j7 j8)) (ao kd op vk vi vs tb nm (.slice pp pm pc)) v aj (-1)) 40)/\dt wL.heap.size 35 10 dY xs v wr/\(xs = []->v=aj)/\xs.length+eB br wr≤8193) (λ_ wr=>eB br wr)
  case atStart=>exact⟨[],aj,s3,F3H.out.ps,Rw.start _ _ _ _,Kept.refl _ _ _,F3H.out.blk,dt.nil,λ_=>rfl,by simpa using hl0⟩
  case round=>
   obtain⟨xs,v,s',hps,hrw,hkp,hbx,hg,hnil,hxl⟩:=hrel;have HPS:=aa hps;have HRW:=aa hrw;have HK:=aa hkp;have HG:=aa hg;have HX:=aa hbx;have HNL:=aa hnil;have hsz:=hkp.size;have lgx:=(ae.1 hbx).1;obtain⟨q,cq,rfl⟩:=hg.form;have cS:wr.cell? ⟨gx,34,none⟩=some (.slice q xs.length cq):=by simp[ak,hbx]
   clear hps hrw hkp hbx hg hnil hl0;go_wp2_with fail;refine(eK br s' _ HPS.out).mono ?_;rintro e w2 ⟨rfl,rfl⟩
   cases s' with
   | error e=>
    have hN:=Rw.err HRW.out;have hS:=HRW.out.1;have hG:=HG.out.nt bj aq HNL.out;have F6:=F3H.out.row HK.out HX.out HPS.out hS;have hNG:=HSG.out _ _ hN;go_wp2_with fail;exact Fqy.k (HKX.out _ _ (show _ from⟨xs,q,xs.length,cq,_,F6.add (bF bj 10 xs (.slice q xs.length cq)) (bF bj 10 xs (.slice q xs.length cq) _ _ _ _ hG (λ_ _ _=>rfl) (λb hb _=>by omega)),hNG⟩)) au
   | ok r=>
    have HI:=aa λW (hx:Xk.Ext wr W)=>mr br (.ok r) W (HPS.out.ext hx);have HGD:=aa HPS.out.gd;have hpl:=HPS.out.gd.good.pos;obtain⟨b,cap,L,i,d,a',e,h,hs⟩:=HPS.out;obtain⟨l0,c0,c1,c2,c3,c4⟩:=h.cells;obtain⟨t,ht,lb,t0,t1,t2⟩:=h.tok;have hi:=h.hi;have hlen:=h.len;have hib:(i:Int)<(L.length:Int):=ab;have hnt:=hs.tok ht;have HLN:=aa HPS.out.len;clear h hs ht;have hI:∀b,bR (.ok r)=b->∀W,Xk.Ext wr W->Calls af 159 #[rp br] W λe w'=>e = .returned (.bool b)/\Xk.Ext W w':=λb e W hx=>e▸HI.out W hx;have h3:(t.kind=1/\t.text.length≤24)∨(t.kind=1/\¬ t.text.length≤24)∨t.kind≠1:=ab
    rcases h3 with⟨hk,hl⟩|⟨hk,hl⟩|hk
    case' _=>
     have hI:=hI true (by simp[bR,hnt,hk]);have hlb:(t.text.length:Int)≤24:=ab;have hnm:P12.named r=true:=by simp[P12.named,hnt,hk,hl]
     go_wp2_with fail;refine Xk.reg 17 (Xk.w1 hI λp=>?_);go_wp2_with fail;refine(ki br (.ok r) (xs.length+1) 16 _ (HPS.out.ext Xk.xt)).mono ?_;rintro e w3 ⟨rfl,ht3,hp3⟩;rw[P12.kB hnm]at hp3;have hT3:=ah.trans (tu trivial:ah br wr _) ht3;clear ht3;go_wp2_with fail
    rotate_left 1
    case' _=>
     have hI:=hI true (by simp[bR,hnt,hk]);have hlb:¬ (t.text.length:Int)≤24:=ab;have hnm:P12.named r=false:=by simp[P12.named,hnt,hk,hl]
    rotate_left 1
    case' _=>
     have hI:=hI false (by simp[bR,hnt,hk]);have hnm:P12.named r=false:=by simp[P12.named,hnt,hk]
    rotate_right 1
    iterate 2
     case' _=>
      go_wp2_with fail;refine Xk.reg 17 (Xk.w1 hI λp=>?_);go_wp2_with fail;have hp3:=HPS.out.ext (show Xk.Ext wr (Xk.exw wr.drew p)from Xk.xt);rw[P12.nx (most:=16) (n:=xs.length) hnm]at hp3;have hT3:ah br wr (Xk.exw wr.drew p):=tu trivial;generalize Xk.exw wr.drew p=w3 at hp3 hT3 ⊢
     rotate_left 1
    all_goals
     have c3':=hT3.cell cS ab;have hs3:=hT3.size;have HP3:=aa hp3;generalize hq1:dF 16 xs.length P12.named (.ok r)=S1 at HP3;have HQ1:=aa hq1;clear HI hI hnt hk hnm c0 c1 c2 c3 c4 t0 t1 t2 cS hp3 hq1 HPS;go_wp2_with fail
     refine Xg.bm (E:=ah br) (Xe.bS _) (λch W=>False) 3 5 (λ_=>none) (λ_ _ h=>by cases h) (λ_ _ _ _ h=>by cases h) [(3,nS br w3.heap.size P12.column S1),(4,ExN w3.heap.size P12.column S1)] au au (Xg.cg ((by
           intro y hy;simp only[aJ,aF,or_false]at hy;rcases hy with rfl|rfl
           ·rw[if_pos rfl];exact nS.ext
           ·rw[if_neg (show ¬ (4=3) by decide)];exact ExN.turn ab))) ((λch a w' hd hX=>hX.elim)) ?_
     simp only[aG,aY,aL,bd];refine Xg.gs ?_;refine Xs.gf (show w3.drew.cell? ⟨gx,34,none⟩=some (.slice q xs.length cq)from c3') ?_;refine Xg.gs ?_;(refine Xg.dM az az rfl (λW hx hp=>?_) (λu3 K hK=>?_);(go_simp;((refine(zA br S1 W (HP3.out.drew.ext hx)).mono ?_);intro e w8 h;obtain⟨v8,y,s8,rfl,⟨l8,rfl,he8⟩,h2,h3,h4⟩:=h;exact kr ⟨_,rfl,h2,⟨l8,y,s8,rfl,he8.mono (λb hb _=>by have:=hx.size;simp only[bM]at this;omega),h3,h4,P12.uT h4⟩,λb hb=>by cases hb⟩));(go_simp;refine hK _ ?_;clear hK K))
     (refine Xg.bc az az aq (λW hx hp=>?_) (λu4 K hK=>?_);((obtain⟨l8,y,s8,hu,h1,-,h3,-⟩:=Xe.bG hp au;obtain⟨kd2,op2,vk2,vi2,vs2,tb2,nm2,pp2,pm2,pc2,rfl⟩:=h1.form;subst hu;go_simp;exact⟨(al _ _).alloc (ai _) _,⟨W.heap.size,_,y,s8,rfl,(by have:=hx.size;simp only[bM]at this;omega),aw W _,h1.ext (xal W _),h3⟩,λb hb=>by cases hb;exact⟨.inr (ai _),by simp⟩⟩));(go_simp;refine hK _ ?_;clear hK K))
     refine Xg.bD (λw8 hx hp hg=>?_);obtain⟨⟨g,l8,y,s8,rfl,hge,hgc,he8,hn8⟩,⟨l8',y',s8',-,-,hp8,hn8',hsk8⟩,-⟩:=hp;have hss:=P12.pn hn8 hn8';subst hss;obtain⟨kd2,op2,vk2,vi2,vs2,tb2,nm2,pp2,pm2,pc2,rfl⟩:=he8.form;have hst:=Rw.step (y:=y) HRW.out HGD.out (by rw[HQ1.out];exact hn8) (by rw[HQ1.out];exact hsk8);have HST:=aa hst;have hT8:ah br wr w8:=ah.trans hT3 ((ah.drew (ah.refl br w3)).trans hx);have hlp:=hT8.size;have hs8:w3.heap.size≤w8.heap.size:=((ah.drew (ah.refl br w3)).trans hx).size;obtain⟨us,ho,hus,huz,hur⟩:=HG.out;have hlt:=ho.lt;have HO:=aa ho;have HUR:=aa hur
     have hx8:=hT8.held HX.out ab;clear ho hur HG hst hn8 hn8' hsk8 hx hg hT3 HP3 c3' HRW
     go_wp2_with (at_builtin;refine Xo.bY wL.heap.size rfl _ _ 25 rfl 35 i0 _ 10 120 ku Hi.out Hz0.out Hz1.out Hz2.out rfl aq (.slice q xs.length cq) xs.length us.flatten rfl (fC HO.out hT8 ab) g 0 1 1 (ao kd2 op2 vk2 vi2 vs2 tb2 nm2 (.slice pp2 pm2 pc2)) rfl aq rfl (jJ hgc) (dS au) ab ab ?_;intro v' w9 ho' hg' hk';obtain⟨z,cz,rfl⟩:=eR ho' ab;have hx9:=(hg'.block gx ab (λe=>by have:=(hlt gx e.symm).1;omega)).trans hx8;have c9:w9.cell? ⟨gx,34,none⟩=some (.slice q xs.length cq):=(by simp[ak,hx9]);have f9:=aD w9 gx 34 _ _ hx9;have HO9:=aa ho';have HG9:=aa hg';have HK9:=aa hk';have HX9:=aa hx9;have l9:=(ae.1 hx9).1;clear ho' hg' hk' hx9 hx8)
     have hKW:=((HK.out.trans (Kept.bB hT8 aI)).grown HG9.out (λb hb=>(hlt b hb).1)).setCell (g:=gx) (.inr (.inl aI)) 34 (.slice (some ⟨z,0,none⟩) (xs.length+1) cz);have hbW:(w9.setCell ⟨gx,34,none⟩ (.slice (some ⟨z,0,none⟩) (xs.length+1) cz)).heap[gx]?=some (.cells ((cT 8 [] aj aj aj aj [] [] false aj aj aj (ao kd op vk vi vs tb nm (.slice pp pm pc)) (.slice p1 p2 p3) (.slice v1 v2 v3) (ao jk jo j1 j2 j3 j4 j5 (.slice j6 j7 j8)) (.slice (some ⟨z,0,none⟩) (xs.length+1) cz) aj (-1))).toArray 40):=heap_setCell_same w9 gx 34 _ _ _ HX9.out
     have hGW:=(dt.push (x:=y) bj hus huz (λj x u hx hu=>bj _ _ _ _ _ _ (HUR.out j x u hx hu) (λb hb hl=>hT8.block hl ab) (λb hb _=>hb)) HG9.out HO9.out HK9.out rfl ((he8.mono (λb hb _=>⟨by omega,λe=>by have:=(hlt b e).2;omega⟩)))).set bj (g:=gx) ab 34 (.slice (some ⟨z,0,none⟩) (xs.length+1) cz);have hPW:=Ps.setCell ((hp8).grown HG9.out (λb hb=>by have:=(hlt b hb).1;omega)) (g:=gx) ab 34 (.slice (some ⟨z,0,none⟩) (xs.length+1) cz);have hnn:xs ++ [y] = []->(.slice (some ⟨z,0,none⟩) (xs.length+1) cz:Value)=aj:=λh=>by simp at h
     have HNN:=aa hnn;clear hgc he8 hp8 hT8 HO9 HG9 HK9 HX9 HUR HO c9 f9 HK HX hnn;generalize w9.setCell ⟨gx,34,none⟩ (.slice (some ⟨z,0,none⟩) (xs.length+1) cz)=W at hKW hbW hGW hPW ⊢;refine(eW br _ [44] aq _ hPW).mono ?_;rintro e w10 ⟨rfl,ht10,hp10⟩;have hK10:=hKW.trans (Kept.bB ht10 aI);have hb10:=ht10.held hbW ab;have hsW:=hKW.size;have hG10:=hGW.turn bj ht10 ab;clear hKW hbW hGW hPW ht10
     cases hcm:(bn [44] s8).1
     case true=>
      obtain⟨hRW,hlt6⟩:=HST.out.2 hcm
      have hpl6:eB br w10<eB br wr:=by
       rw[HLN.out];generalize bn [44] s8=q6 at hp10 hlt6;obtain⟨b6,s6⟩:=q6
       cases s6 with
       | error e=>rw[hp10.tA];omega
       | ok r6=>rw[hp10.len];exact hlt6 r6 rfl
      go_wp2;go_roundw
      case rel=>exact⟨xs ++ [y],_,_,hp10,hRW,hK10,hb10,hG10,HNN.out,by rw[aN,bf];omega⟩
      case measure=>exact hpl6
     have hs2:=(P12.cp hcm).1;rw[hs2]at hp10;obtain⟨hN,hS⟩:=HST.out.1 hcm;have hG:=hG10.nt bj aq HNN.out;have F6:=F3H.out.row hK10 hb10 hp10 hS;clear hs2 hcm HST hG10 hb10 hK10;have hNG:=HSG.out _ _ hN;go_wp2_with fail;exact Fqy.k (HKX.out _ _ (show _ from⟨_,_,_,_,_,F6.add (bF bj 10 _ _) (bF bj 10 _ _ _ _ _ _ hG (λ_ _ _=>rfl) (λb hb _=>by omega)),hNG⟩)) au
open _root_.P12 (PS Gd okB cH isK cf Nx bn bE bZ bR ew dA de cB Sk inS Rw dF gJ)
theorem yj{br gx:Nat}{w wL:World}{s:PS}{u:Nat->Value}{K:Act->World->Prop}{Q:Exit->Act->World->Prop}(F2:Dz br w.heap.size gx w s (λ_ _=>True) s (cT 8 [] aj aj aj aj [] [] false aj aj aj noE aj aj noE aj aj (-1)).toArray wL)
  (hK:∀ (u':Nat->Value) w',(∃items p n c st,Dz br w.heap.size gx w s (kI items (.slice p n c)) st (iT (.slice p n c) aj noE noE aj aj (-1)) w'/\Nx wR s items st)->K (Fqy br w.heap.size gx u') w'):(EM 0).wp af (Exit.then K Q) (Fqy br w.heap.size gx u) wL:=by
 have lr:=F2.lo;have hgw:=F2.zx;have hl0:=ka F2.ps;have hlw:=F2.size;have HKX:=aa hK;have F3H:=aa F2;clear hK F2;obtain⟨i0,hi,hz0,hz1,hz2⟩:=cP Tryz.tH;have Hi:=aa hi;have Hz0:=aa hz0;have Hz1:=aa hz1;have Hz2:=aa hz2;clear hi hz0 hz1 hz2;conv=>arg 2;whnf
 dsimp only[Fqy];have hbi:∀ (W:World),(cR 88 #[(0,bT true)]).run af W = .ok (.agg (qo true noE []).toArray) W:=λW=>by kernel_rfl
 go_wp2;go_loopw [12] (λ_ wr=>∃ (xs:List (Bool×P12.E×P12.T)) (v:Value) (s':PS),Ps br s' wr/\Rw wR 16 ma P12.item s s' xs/\Kept wL.heap.size [br,gx] wL wr/\wr.heap[gx]?=some (.cells (iT v aj noE noE aj aj (-1)) 40)/\dt wL.heap.size 88 12 mq xs v wr/\(xs = []->v=aj)/\xs.length+eB br wr≤8193) (λ_ wr=>eB br wr)
 case atStart=>exact⟨[],aj,s,F3H.out.ps,Rw.start _ _ _ _,Kept.refl _ _ _,F3H.out.blk,dt.nil,λ_=>rfl,by simpa using hl0⟩
 case round=>
  obtain⟨xs,v,s',hps,hrw,hkp,hbx,hg,hnil,hxl⟩:=hrel;have HPS:=aa hps;have HRW:=aa hrw;have HK:=aa hkp;have HG:=aa hg;have HX:=aa hbx;have HNL:=aa hnil;have hsz:=hkp.size;have lgx:=(ae.1 hbx).1;obtain⟨q,cq,rfl⟩:=hg.form;have cS:wr.cell? ⟨gx,22,none⟩=some (.slice q xs.length cq):=by simp[ak,hbx]
  clear hps hrw hkp hbx hg hnil hl0;go_wp2_with fail;refine(eK br s' _ HPS.out).mono ?_;rintro e w2 ⟨rfl,rfl⟩
  cases s' with
  | error e=>
   have hN:=Rw.err HRW.out;have hS:=HRW.out.1;have hG:=HG.out.nt cJ aq HNL.out;have F6:=F3H.out.row HK.out HX.out HPS.out hS;go_wp2_with fail;exact Fqy.k (HKX.out _ _ (show _ from⟨xs,q,xs.length,cq,_,F6.add (bF cJ 12 xs (.slice q xs.length cq)) (bF cJ 12 xs (.slice q xs.length cq) _ _ _ _ hG (λ_ _ _=>rfl) (λb hb _=>by omega)),hN⟩)) au
  | ok r=>
   have HGD:=aa HPS.out.gd;have hpl:=HPS.out.gd.good.pos;have HLN:=aa HPS.out.len;go_wp2_with fail;refine(nu br (.ok r) [42] _ HPS.out).mono ?_;rintro e w5 ⟨rfl,hx5⟩;have hT5:ah br wr w5:=ah.aR hx5;have hp5:=HPS.out.ext hx5;have c5:=Xk.bO hx5 cS;have hs5:=hx5.size;clear hx5 cS HPS;have hco:isK 5 [42] (.ok r)=P12.isT [42] r:=P12.gn HGD.out aq;rw[hco];obtain⟨us,ho,hus,huz,hur⟩:=HG.out;have hlt:=ho.lt;have HO:=aa ho;have HUR:=aa hur;clear ho hur HG
   cases hci:P12.isT [42] r
   case true=>
    go_wp2_with fail;refine(ki br (.ok r) (xs.length+1) 16 _ hp5).mono ?_;rintro e w6 ⟨rfl,ht6,hp6⟩;rw[P12.kB (could:=ma) (by simp[ma,hci])]at hp6;have hT6:=ah.trans hT5 ht6;have hst:=Rw.step (y:=(true,P12.E.none,[])) HRW.out HGD.out (P12.Ie hci) (P12.eI _);clear ht6 hp5 hT5 c5 hci hco HRW HGD;go_wp2_with fail;refine(fL br _ _ hp6).mono ?_;rintro e w8 ⟨rfl,ht8,hp8⟩;generalize cf (dF 16 xs.length ma (.ok r))=s7 at hp8 hst;have hT8:=ah.trans hT6 ht8;have hlp:=hT8.size;have hx8:=hT8.held HX.out ab;have c8:w8.cell? ⟨gx,22,none⟩=some (.slice q xs.length cq):=by simp[ak,hx8]
    have HST:=aa hst;have HP8:=aa hp8;clear ht8 hp6 hT6 hst hp8
    go_wp2_with (at_builtin;refine Xo.bY wL.heap.size rfl _ _ 36 rfl 88 i0 _ 12 144 Tryz.underlying36 Hi.out Hz0.out Hz1.out Hz2.out rfl aq (.slice q xs.length cq) xs.length us.flatten rfl (fC HO.out (ah.alloc hT8 _) ab) w8.heap.size 0 1 1 (qo true noE []) rfl aq rfl (ey w8 _ _ rfl) (dS au) ab (by rw[ag];omega) ?_;intro v' w9 ho' hg' hk';obtain⟨z,cz,rfl⟩:=eR ho' ab;have hx9:=(hg'.block gx (by rw[ag];omega) (λe=>by have:=(hlt gx e.symm).1;omega)).trans ((ah.alloc (ah.refl br w8) _).held hx8 ab);have c9:w9.cell? ⟨gx,22,none⟩=some (.slice q xs.length cq):=(by simp[ak,hx9]);have f9:=aD w9 gx 22 _ _ hx9;have HO9:=aa ho';have HG9:=aa hg';have HK9:=aa hk';have HX9:=aa hx9;have l9:=(ae.1 hx9).1;clear ho' hg' hk' hx9 hx8 c8)
    have hKW:=((HK.out.trans (Kept.bB (ah.alloc hT8 _) aI)).grown HG9.out (λb hb=>(hlt b hb).1)).setCell (g:=gx) (.inr (.inl aI)) 22 (.slice (some ⟨z,0,none⟩) (xs.length+1) cz);have hbW:(w9.setCell ⟨gx,22,none⟩ (.slice (some ⟨z,0,none⟩) (xs.length+1) cz)).heap[gx]?=some (.cells ((cT 8 [] aj aj aj aj [] [] false aj aj aj noE (.slice (some ⟨z,0,none⟩) (xs.length+1) cz) aj noE aj aj (-1))).toArray 40):=heap_setCell_same w9 gx 22 _ _ _ HX9.out
    have hGW:=(dt.push (x:=((true,P12.E.none,[]):Bool×P12.E×P12.T)) cJ hus huz (λj x u hx hu=>cJ _ _ _ _ _ _ (HUR.out j x u hx hu) (λb hb hl=>(ah.alloc hT8 _).block hl ab) (λb hb _=>hb)) HG9.out HO9.out HK9.out rfl (⟨noE,rfl,rfl⟩)).set cJ (g:=gx) ab 22 (.slice (some ⟨z,0,none⟩) (xs.length+1) cz);have hPW:=Ps.setCell ((HP8.out.ext (xal w8 _)).grown HG9.out (λb hb=>by have:=(hlt b hb).1;omega)) (g:=gx) ab 22 (.slice (some ⟨z,0,none⟩) (xs.length+1) cz);have hnn:xs ++ [((true,P12.E.none,[]):Bool×P12.E×P12.T)] = []->(.slice (some ⟨z,0,none⟩) (xs.length+1) cz:Value)=aj:=λh=>by simp at h
    have HNN:=aa hnn;clear HP8 hT8 HO9 HG9 HK9 HX9 HUR HO c9 f9 HK HX hnn;generalize w9.setCell ⟨gx,22,none⟩ (.slice (some ⟨z,0,none⟩) (xs.length+1) cz)=W at hKW hbW hGW hPW ⊢;refine(eW br _ [44] aq _ hPW).mono ?_;rintro e w10 ⟨rfl,ht10,hp10⟩;have hK10:=hKW.trans (Kept.bB ht10 aI);have hb10:=ht10.held hbW ab;have hsW:=hKW.size;have hG10:=hGW.turn cJ ht10 ab;clear hKW hbW hGW hPW ht10
    cases hcm:(bn [44] s7).1
    case true=>
     obtain⟨hRW,hlt6⟩:=HST.out.2 hcm
     have hpl6:eB br w10<eB br wr:=by
      rw[HLN.out];generalize bn [44] s7=q6 at hp10 hlt6;obtain⟨b6,s6⟩:=q6
      cases s6 with
      | error e=>rw[hp10.tA];omega
      | ok r6=>rw[hp10.len];exact hlt6 r6 rfl
     go_wp2;go_roundw
     case rel=>exact⟨xs ++ [((true,P12.E.none,[]):Bool×P12.E×P12.T)],_,_,hp10,hRW,hK10,hb10,hG10,HNN.out,by rw[aN,bf];omega⟩
     case measure=>exact hpl6
    have hs2:=(P12.cp hcm).1;rw[hs2]at hp10;obtain⟨hN,hS⟩:=HST.out.1 hcm;have hG:=hG10.nt cJ aq HNN.out;have F6:=F3H.out.row hK10 hb10 hp10 hS;clear hs2 hcm HST hG10 hb10 hK10;go_wp2_with fail;exact Fqy.k (HKX.out _ _ (show _ from⟨_,_,_,_,_,F6.add (bF cJ 12 _ _) (bF cJ 12 _ _ _ _ _ _ hG (λ_ _ _=>rfl) (λb hb _=>by omega)),hN⟩)) au
   case false=>
    go_wp2_with fail;refine(qY br (.ok r) (xs.length+1) 16 _ hp5).mono ?_;rintro e w6 ⟨rfl,ht6,hp6⟩;have hT6:=ah.trans hT5 ht6;clear ht6 hp5 hT5 c5 hco;go_wp2_with fail;refine(kX br _ _ hp6).mono ?_;rintro e w7 ⟨v,x,s7,rfl,⟨l,rfl,he⟩,ht7,hp7,hn7,hsk7⟩;obtain⟨kd,op,vk,vi,vs,tb,nm,pp,pm,pc,rfl⟩:=he.form;have hT7:=ah.trans hT6 ht7;have hs6:=hT6.size;have hs7:=hT7.size;clear ht7 hp6 hT6;have hbx:∀ (W:World),(cR 88 #[(1,Value.agg (ao kd op vk vi vs tb nm (.slice pp pm pc)).toArray)]).run af W = .ok (.agg (qo false (ao kd op vk vi vs tb nm (.slice pp pm pc)) []).toArray) W:=λW=>by kernel_rfl
    have HBX:=aa hbx;clear hbx;go_wp2_with (first|(refine cU rfl 88 _ rfl _ rfl _ (HBX.out _) ?_)|((refine pw (aw w7 _) ?_;intro wa hpa)));have hTa:ah br wr wa:=bt.turn hpa (ah.alloc hT7 _) ab;have hPa:=bt.ps hpa (hp7.ext (xal w7 _)) ab;have hba:=hpa.blk;have hsa:=hpa.size;rw[ag]at hsa;have hea:aC (λb=>w6.heap.size≤b/\b<w7.heap.size) wa x (ao kd op vk vi vs tb nm (.slice pp pm pc)):=aC.bg (λb hb hl=>(hpa.rest b ab).trans ((xal w7 _).block b hl)) (λb hb hl=>⟨hb,hl⟩) he;clear hpa hp7 hT7 he HBX;refine(fD br s7 [65,83] aq _ hPa).mono ?_;rintro e wb ⟨rfl,htb,hPb⟩;have hTb:=ah.trans hTa htb
    have hbb:=htb.held hba ab;have heb:aC (λb=>w6.heap.size≤b/\b<w7.heap.size) wb x (ao kd op vk vi vs tb nm (.slice pp pm pc)):=aC.bg (λb hb hl=>htb.block hl ab) (λb hb _=>hb) hea;have hsb:=htb.size;clear htb hPa hba hTa hea
    cases has:(bn [65,83] s7).1
    case' true=>
     go_wp2_with fail;refine(iE br _ _ hPb).mono ?_;rintro e wc ⟨rfl,htc,hPc⟩;have hst:=P12.vr HGD.out hci (P12.yD hn7 has (P12.gR _)) (hsk7.trans ((P12.dK [65,83] s7).trans (P12.fM _)));generalize bZ (bn [65,83] s7).2=qn at hPc hst ⊢;obtain⟨na,s8⟩:=qn;dsimp only at hPc hst ⊢;have hTc:=ah.trans hTb htc;have hbc:=htc.held hbb ab;have hec:aC (λb=>w6.heap.size≤b/\b<w7.heap.size) wc x (ao kd op vk vi vs tb nm (.slice pp pm pc)):=aC.bg (λb hb hl=>htc.block hl ab) (λb hb _=>hb) heb;have hsc:=htc.size;have cN:wc.cell? ⟨w7.heap.size,11,none⟩=some (bs []):=by simp[ak,hbc]
     have fN:=aD wc w7.heap.size 11 _ _ hbc;have lN:=(ae.1 hbc).1;have hb8:(wc.setCell ⟨w7.heap.size,11,none⟩ (bs na)).heap[w7.heap.size]?=some (.cells (qo false (ao kd op vk vi vs tb nm (.slice pp pm pc)) na).toArray 88):=heap_setCell_same wc w7.heap.size 11 _ _ _ hbc;have hT8:ah br wr (wc.setCell ⟨w7.heap.size,11,none⟩ (bs na)):=tu hTc;have hP8:Ps br s8 (wc.setCell ⟨w7.heap.size,11,none⟩ (bs na)):=psx hPc
     have he8:aC (λb=>w6.heap.size≤b/\b<w7.heap.size) (wc.setCell ⟨w7.heap.size,11,none⟩ (bs na)) x (ao kd op vk vi vs tb nm (.slice pp pm pc)):=aC.bg (λb hb hl=>an wc ⟨w7.heap.size,11,none⟩ b (bs na) (λe=>by(have h:b=w7.heap.size:=(by simpa using e));omega)) (λb hb _=>hb) hec;have hlp:wr.heap.size≤(wc.setCell ⟨w7.heap.size,11,none⟩ (bs na)).heap.size:=hT8.size;have hl8:w7.heap.size<(wc.setCell ⟨w7.heap.size,11,none⟩ (bs na)).heap.size:=by rw[aM];omega
     clear htc hPb hbb hTb heb hTc hec hPc hn7 hsk7 has;go_upto_region 11 with fail
     generalize wc.setCell ⟨w7.heap.size,11,none⟩ (bs na)=w8 at hb8 hT8 hP8 he8 hlp hl8 ⊢;clear cN fN lN hbc
    case' false=>
     rw[(P12.cp has).1]at hPb;have hst:=P12.vr HGD.out hci (P12.yC hn7 has) hsk7;obtain⟨na,hna⟩:∃na:P12.T,na = []:=⟨_,rfl⟩;have hb8:=hbb;rw[← hna]at hb8 hst;have hT8:=hTb;have hP8:=hPb;have he8:=heb;have hlp:=hTb.size;have hl8:=(ae.1 hbb).1;clear hbb hTb hPb heb has hna hn7 hsk7;go_upto_region 11 with fail
     generalize wb=w8 at *
     generalize s7=s8 at *
    all_goals
     have hx8:=hT8.held HX.out ab;have c8:w8.cell? ⟨gx,22,none⟩=some (.slice q xs.length cq):=by simp[ak,hx8]
     have hst':=Rw.step (y:=(false,x,na)) HRW.out HGD.out hst.1 hst.2;have HST:=aa hst';have HP8:=aa hP8;clear hst hst' hP8 HRW
     go_wp2_with (first|(refine lw hb8 fJ ?_)|(at_builtin;refine Xo.bY wL.heap.size rfl _ _ 36 rfl 88 i0 _ 12 144 Tryz.underlying36 Hi.out Hz0.out Hz1.out Hz2.out rfl aq (.slice q xs.length cq) xs.length us.flatten rfl (fC HO.out (ah.alloc hT8 _) ab) w8.heap.size 0 1 1 (qo false (ao kd op vk vi vs tb nm (.slice pp pm pc)) na) rfl aq rfl (ey w8 _ _ rfl) (dS au) ab (by rw[ag];omega) ?_;intro v' w9 ho' hg' hk';obtain⟨z,cz,rfl⟩:=eR ho' ab;have hx9:=(hg'.block gx (by rw[ag];omega) (λe=>by have:=(hlt gx e.symm).1;omega)).trans ((ah.alloc (ah.refl br w8) _).held hx8 ab);have c9:w9.cell? ⟨gx,22,none⟩=some (.slice q xs.length cq):=(by simp[ak,hx9]);have f9:=aD w9 gx 22 _ _ hx9;have HO9:=aa ho';have HG9:=aa hg';have HK9:=aa hk';have HX9:=aa hx9;have l9:=(ae.1 hx9).1;clear ho' hg' hk' hx9 hx8 c8))
     have hKW:=((HK.out.trans (Kept.bB (ah.alloc hT8 _) aI)).grown HG9.out (λb hb=>(hlt b hb).1)).setCell (g:=gx) (.inr (.inl aI)) 22 (.slice (some ⟨z,0,none⟩) (xs.length+1) cz);have hbW:(w9.setCell ⟨gx,22,none⟩ (.slice (some ⟨z,0,none⟩) (xs.length+1) cz)).heap[gx]?=some (.cells ((cT 8 [] aj aj aj aj [] [] false aj aj aj noE (.slice (some ⟨z,0,none⟩) (xs.length+1) cz) aj noE aj aj (-1))).toArray 40):=heap_setCell_same w9 gx 22 _ _ _ HX9.out
     have hGW:=(dt.push (x:=((false,x,na):Bool×P12.E×P12.T)) cJ hus huz (λj x u hx hu=>cJ _ _ _ _ _ _ (HUR.out j x u hx hu) (λb hb hl=>(ah.alloc hT8 _).block hl ab) (λb hb _=>hb)) HG9.out HO9.out HK9.out rfl (⟨_,rfl,aC.bg (λb hb hl=>(xal w8 _).block b hl) (λb hb _=>⟨by omega,λe=>by have:=(hlt b e).2;omega⟩) he8⟩)).set cJ (g:=gx) ab 22 (.slice (some ⟨z,0,none⟩) (xs.length+1) cz);have hPW:=Ps.setCell ((HP8.out.ext (xal w8 _)).grown HG9.out (λb hb=>by have:=(hlt b hb).1;omega)) (g:=gx) ab 22 (.slice (some ⟨z,0,none⟩) (xs.length+1) cz)
     have hnn:xs ++ [((false,x,na):Bool×P12.E×P12.T)] = []->(.slice (some ⟨z,0,none⟩) (xs.length+1) cz:Value)=aj:=λh=>by simp at h
     have HNN:=aa hnn;clear HP8 he8 hb8 hT8 HO9 HG9 HK9 HX9 HUR HO c9 f9 HK HX hnn;generalize w9.setCell ⟨gx,22,none⟩ (.slice (some ⟨z,0,none⟩) (xs.length+1) cz)=W at hKW hbW hGW hPW ⊢;refine(eW br _ [44] aq _ hPW).mono ?_;rintro e w10 ⟨rfl,ht10,hp10⟩;have hK10:=hKW.trans (Kept.bB ht10 aI);have hb10:=ht10.held hbW ab;have hsW:=hKW.size;have hG10:=hGW.turn cJ ht10 ab;clear hKW hbW hGW hPW ht10
     cases hcm:(bn [44] s8).1
     case true=>
      obtain⟨hRW,hlt6⟩:=HST.out.2 hcm
      have hpl6:eB br w10<eB br wr:=by
       rw[HLN.out];generalize bn [44] s8=q6 at hp10 hlt6;obtain⟨b6,s6⟩:=q6
       cases s6 with
       | error e=>rw[hp10.tA];omega
       | ok r6=>rw[hp10.len];exact hlt6 r6 rfl
      go_wp2;go_roundw
      case rel=>exact⟨xs ++ [((false,x,na):Bool×P12.E×P12.T)],_,_,hp10,hRW,hK10,hb10,hG10,HNN.out,by rw[aN,bf];omega⟩
      case measure=>exact hpl6
     have hs2:=(P12.cp hcm).1;rw[hs2]at hp10;obtain⟨hN,hS⟩:=HST.out.1 hcm;have hG:=hG10.nt cJ aq HNN.out;have F6:=F3H.out.row hK10 hb10 hp10 hS;clear hs2 hcm HST hG10 hb10 hK10;go_wp2_with fail;exact Fqy.k (HKX.out _ _ (show _ from⟨_,_,_,_,_,F6.add (bF cJ 12 _ _) (bF cJ 12 _ _ _ _ _ _ hG (λ_ _ _=>rfl) (λb hb _=>by omega)),hN⟩)) au
open _root_.P12 (PS Gd okB cH isK cf Nx bn bE bZ bR ew dA de cB Sk inS Rw dF gJ)
theorem GY(br:Nat)(s:PS)(w:World)(hr:Ps br s w):Calls af 91 #[rp br] w (Cm br w s (jC w) P12.ga):=by
 have HR:=aa hr;have lr:=hr.lt;clear hr;have hbs:∀ (W:World),(cR 40 #[(0,lK .i64 8),(15,lK .i64 (-1))]).run af W = .ok (.agg (cT 8 [] aj aj aj aj [] [] false aj aj aj noE aj aj noE aj aj (-1)).toArray) W:=λW=>by kernel_rfl
 have HB:=aa hbs;clear hbs;go_enter Tryz.func91,Tryz.ntmps91;obtain⟨i0,hi,hz0,hz1,hz2⟩:=cP Tryz.tH;have Hi:=aa hi;have Hz0:=aa hz0;have Hz1:=aa hz1;have Hz2:=aa hz2;clear hi hz0 hz1 hz2;go_upto_block 0 with(first|(refine cU rfl 40 _ rfl _ rfl _ (HB.out _) ?_)|((refine bQ rfl 40 _ _ rfl ((w.heap.size+1)) _ _ 40 rfl rfl ((Cp _ _ (by rw[ag]))) rfl au au ?_;intro w2 hp2)))
 have F2:=Dz.start (w1:=w.alloc (.cells bC.toArray 40)) lr (ah.refl _ _) (HR.out.ext (xal w (.cells bC.toArray 40))) (Sk.refl s) (by rw[ag];exact hp2);rw[ag]at F2;clear hp2 HB HR;have hl0:=ka F2.ps;have hlw:=F2.size;have hgw:w.heap.size<w.heap.size+1:=ab;generalize w.heap.size+1=gx at *
 generalize w2=wL at *
 have F3H:=aa F2;clear F2;dsimp only[CD];go_cut []from 4 (λw'=>∃items p n c st,Dz br w.heap.size gx w s (kI items (.slice p n c)) st (iT (.slice p n c) aj noE noE aj aj (-1)) w'/\Nx wR s items st)
 case rest=>
  clear F3H hl0 hlw Hi Hz0 Hz1 Hz2;clear i0 wL;obtain⟨items,p1,p2,p3,st,F3,hNI⟩:=hcut;have HNI:=aa hNI;clear hNI;obtain⟨i0,hi,hz0,hz1,hz2⟩:=cP Tryz.Ch;have Hi:=aa hi;have Hz0:=aa hz0;have Hz1:=aa hz1;have Hz2:=aa hz2;clear hi hz0 hz1 hz2;go_wp2_with fail;refine(iU br st [70,82,79,77] aq _ F3.ps).mono ?_;rintro e w4 ⟨rfl,ht4,hp4⟩;have F4:=F3.step ht4 hp4 (P12.du _ _);generalize hs4:bE [70,82,79,77] st=s4 at F4;have HS4:=aa hs4;clear ht4 hp4 F3 hs4;have l4:=F4.size;have lr4:=F4.turn.size;have HP0:=aa F4.ps;have HX0:=aa F4.blk
  have HG0:Hid (dt w4.heap.size 90 2 (λ_ _=>sM) [] (.slice none 0 0) w4):=aa dt.nil;have HK0:Hid (Kept w4.heap.size [br,gx] w4 w4):=aa (Kept.refl _ _ _);have HF4:=aa F4;clear F4;go_wp2_with fail;have hszK:=(HK0).out.size;have hcS:w4.cell? ⟨gx,23,none⟩=some (.slice none 0 0):=by simp[ak,(HX0).out]
  have lgx:=(ae.1 (HX0).out).1
  refine Xg.bm (E:=ah br) (Xe.bS _) (λch W=>False) 3 5 (λ_=>none) (λ_ _ h=>by cases h) (λ_ _ _ _ h=>by cases h) [(3,BP br s4),(4,BO w4.heap.size s4)] au au (Xg.cg ((by
     intro y hy;simp only[aJ,aF,or_false]at hy;rcases hy with rfl|rfl
     ·rw[if_pos rfl];exact BP.ext
     ·rw[if_neg (show ¬ (4=3) by decide)];exact BO.turn ab))) ((λch a w' hd hX=>hX.elim)) ?_
  simp only[aG,aY,aL,bd];refine Xg.gs ?_;refine Xs.gf (show w4.drew.cell? ⟨gx,23,none⟩=some (.slice none 0 0)from hcS) ?_;refine Xg.gs ?_;(refine Xg.dM az az rfl (λW hx hp=>?_) (λu3 K hK=>?_);(go_simp;((refine(xV br s4 W ((HP0).out.drew.ext hx)).mono ?_);intro e w8 h;obtain⟨v8,y,s8,rfl,rfl,h2,h3,h4,h5⟩:=h;exact kr ⟨_,rfl,h2,⟨y,s8,rfl,h3,h4,h5⟩,λb hb=>by cases hb⟩));(go_simp;refine hK _ ?_;clear hK K))
  (refine Xg.bc az az aq (λW hx hp=>?_) (λu4 K hK=>?_);((obtain⟨y,s8,hu,-,h3,-⟩:=Xe.bG hp au;subst hu;go_simp;exact⟨(al _ _).alloc (ai _) _,⟨W.heap.size,y,s8,rfl,(by have:=hx.size;simp only[bM]at this;omega),aw W _,h3⟩,λb hb=>by cases hb;exact⟨.inr (ai _),by simp⟩⟩));(go_simp;refine hK _ ?_;clear hK K))
  refine Xg.bD (λw8 hx hp hg=>?_);obtain⟨⟨g,y,s8,rfl,hge,hgc,hn8⟩,⟨y',s8',-,hp8,hn8',hsk8⟩,-⟩:=hp;have hss:=P12.pn hn8 hn8';subst hss;have hT8:ah br w4 w8:=(ah.drew (ah.refl br w4)).trans hx;have hs8:=hT8.size;clear hn8' hx hg hcS;obtain⟨us,ho,hus,huz,hur⟩:=(HG0).out;have hlt:=ho.lt;have HO:=aa ho;have HUR:=aa hur;have hx8:=hT8.held (HX0).out ab;clear ho hur
  go_wp2_with (at_builtin;refine Xo.bY w4.heap.size rfl _ _ 37 rfl 90 i0 _ 2 32 Tryz.underlying37 Hi.out Hz0.out Hz1.out Hz2.out rfl aq (.slice none 0 0) (([]:List (P12.T×P12.T))).length us.flatten rfl (fC HO.out hT8 ab) g 0 1 1 [bs y.1,bs y.2] rfl aq rfl (λj u hj=>by match j,hj with|0,hj=>(simp at hj;subst hj;simp[ak,hgc])|1,hj=>(simp at hj;subst hj;simp[ak,hgc])) (dS au) aI ab ?_;intro v' w9 ho' hg' hk';obtain⟨z,cz,rfl⟩:=eR ho' ab;have hx9:=(hg'.block gx ab (λe=>by have:=(hlt gx e.symm).1;omega)).trans hx8;have c9:w9.cell? ⟨gx,23,none⟩=some (.slice none 0 0):=(by simp[ak,hx9]);have f9:=aD w9 gx 23 _ _ hx9;have HO9:=aa ho';have HG9:=aa hg';have HK9:=aa hk';have HX9:=aa hx9;have l9:=(ae.1 hx9).1;clear ho' hg' hk' hx9 hx8)
  have hKW:=(((HK0).out.trans (Kept.bB hT8 aI)).grown HG9.out (λb hb=>(hlt b hb).1)).setCell (g:=gx) (.inr (.inl aI)) 23 (.slice (some ⟨z,0,none⟩) 1 cz);have hbW:(w9.setCell ⟨gx,23,none⟩ (.slice (some ⟨z,0,none⟩) 1 cz)).heap[gx]?=some (.cells (iT (.slice p1 p2 p3) (.slice (some ⟨z,0,none⟩) 1 cz) noE noE aj aj (-1)) 40):=heap_setCell_same w9 gx 23 _ _ _ HX9.out;have hGW:=(dt.push (xs := []) (x:=y) (R:=λ_ _=>sM) iq hus huz (λj x u hx hu=>HUR.out j x u hx hu) HG9.out HO9.out HK9.out rfl rfl).set iq (g:=gx) ab 23 (.slice (some ⟨z,0,none⟩) 1 cz)
  have hPW:=Ps.setCell (hp8.grown HG9.out (λb hb=>by have:=(hlt b hb).1;omega)) (g:=gx) ab 23 (.slice (some ⟨z,0,none⟩) 1 cz);have lW:gx<(w9.setCell ⟨gx,23,none⟩ (.slice (some ⟨z,0,none⟩) 1 cz)).heap.size:=(ae.1 hbW).1;clear HO9 HG9 HK9 HX9 HUR HO c9 f9 hT8 hp8 hgc HG0 HX0 HP0 HK0;generalize w9.setCell ⟨gx,23,none⟩ (.slice (some ⟨z,0,none⟩) 1 cz)=W at hKW hbW hGW hPW lW ⊢;have hW4:=hKW.size;refine(fD br s8 [74,79,73,78] aq _ hPW).mono ?_;rintro e w10 ⟨rfl,ht10,hp10⟩;have HK1:=aa (hKW.trans (Kept.bB ht10 aI));have HX1:=aa (ht10.held hbW ab);have HG1:=aa (hGW.turn iq ht10 ab);have HP1:=aa hp10
  have hs10:=ht10.size;clear hKW hbW hGW hPW ht10 hp10;go_upto_if 58 with fail
  go_cut []from 4 (λw'=>∃frm je jl vF1 vF2 vF3 st',Dz br w.heap.size gx w s (kJ items (.slice p1 p2 p3) frm (.slice vF1 vF2 vF3) je jl) st' (iT (.slice p1 p2 p3) (.slice vF1 vF2 vF3) jl noE aj aj (-1)) w'/\jl.length=10/\Nx (P12.oh y) s8 (frm,je) st')
  case rest=>
   clear HK1 HX1 HG1 HP1 HF4 Hi Hz0 Hz1 Hz2;clear i0;obtain⟨frm,je,jl,v1,v2,v3,s9,F5,-,hNJ⟩:=hcut;obtain⟨jk,jo,j1,j2,j3,j4,j5,j6,j7,j8,rfl⟩:=F5.piece.2.form;have HNS:Hid (∀wh s10,Nx P12.wher s9 wh s10->∀g s11,Nx P12.j0 s10 g s11->∀o s12,Nx P12.ji s11 o s12->∀l s13,Nx P12.iL s12 l s13->Nx P12.ga s { P12.made 8 with items:=items,frm:=frm,join:=je,wher:=wh,group:=g,order:=o,limit:=l } s13):=aa λwh s10 h4 g s11 h5 o s12 h6 l s13 h7=>P12.AO HNI.out (by rw[HS4.out];exact hn8) hNJ h4 h5 h6 h7;clear hNJ HNI hn8 hsk8 HS4;go_wp2_with fail;refine(so br _ _ F5.ps).mono ?_
   rintro e w14 ⟨v,wh,s10,rfl,⟨l,rfl,he⟩,ht,hp,hn,hsk⟩;obtain⟨kd,op,vk,vi,vs,tb,nm,pp,pm,pc,rfl⟩:=he.form;have F6:=(F5.step ht hp hsk).add (dE wh _) (F5.up (dE wh _) he);have hb14:=F6.blk;replace HNS:=aa (HNS.out wh s10 hn)
   clear ht hp he hn hsk F5;go_wp2_with ((refine aV rfl 35 _ _ rfl (gx) (12) _ _ 40 rfl rfl (hb14) (aI) (au) (au) ?_;intro w15 hp15));have F7:=(F6.qM hp15).cells (c':=iT (.slice p1 p2 p3) (.slice v1 v2 v3) (ao jk jo j1 j2 j3 j4 j5 (.slice j6 j7 j8)) (ao kd op vk vi vs tb nm (.slice pp pm pc)) aj aj (-1)) au;clear F6 hb14 hp15;refine(fD br s10 [71,82,79,85,80] aq _ F7.ps).mono ?_;rintro e w16 ⟨rfl,ht,hp⟩;have F8:=F7.step ht hp (P12.dK _ _);clear ht hp F7;go_upto_if 75 with fail
   go_cut []from 4 (λw'=>∃gr g1 g2 g3 st',Dz br w.heap.size gx w s (mA (mA (kJ items (.slice p1 p2 p3) frm (.slice v1 v2 v3) je (ao jk jo j1 j2 j3 j4 j5 (.slice j6 j7 j8))) (λS w=>aC S w wh (ao kd op vk vi vs tb nm (.slice pp pm pc)))) (λS w=>aE S w 10 (dY S w) gr (.slice g1 g2 g3))) st' (iT (.slice p1 p2 p3) (.slice v1 v2 v3) (ao jk jo j1 j2 j3 j4 j5 (.slice j6 j7 j8)) (ao kd op vk vi vs tb nm (.slice pp pm pc)) (.slice g1 g2 g3) aj (-1)) w'/\Nx P12.j0 s10 gr st')
   case first=>
    refine Fqy.wp (d:=B3 75) au au (yk az F8 λu' w' hrel=>?_);dsimp only[Fqy];go_wp2_with fail;go_meet
    case rel=>exact hrel
   case rest=>
    obtain⟨gr,g1,g2,g3,s11,F9,hNG⟩:=hcut;have HNO:Hid (∀o s12,Nx P12.ji s11 o s12->∀l s13,Nx P12.iL s12 l s13->Nx P12.ga s { P12.made 8 with items:=items,frm:=frm,join:=je,wher:=wh,group:=gr,order:=o,limit:=l } s13):=aa λo s12 h6 l s13 h7=>HNS.out gr s11 hNG o s12 h6 l s13 h7;clear F8 HNS hNG;obtain⟨KK,hKK⟩:∃KK,KK=(mA (mA (kJ items (.slice p1 p2 p3) frm (.slice v1 v2 v3) je (ao jk jo j1 j2 j3 j4 j5 (.slice j6 j7 j8))) (λS w=>aC S w wh (ao kd op vk vi vs tb nm (.slice pp pm pc)))) (λS w=>aE S w 10 (dY S w) gr (.slice g1 g2 g3))):=⟨_,rfl⟩;rw[← hKK]at F9;have HKK:=aa hKK;clear hKK
    go_wp2_with fail;refine(fD br s11 [79,82,68,69,82] aq _ F9.ps).mono ?_;rintro e w17 ⟨rfl,ht,hp⟩;have F10:=F9.step ht hp (P12.dK _ _);clear ht hp F9;go_upto_if 114 with fail
    go_cut []from 4 (λw'=>∃od o1 o2 o3 st',Dz br w.heap.size gx w s (mA KK (λS w=>aE S w 11 (se S w) od (.slice o1 o2 o3))) st' (iT (.slice p1 p2 p3) (.slice v1 v2 v3) (ao jk jo j1 j2 j3 j4 j5 (.slice j6 j7 j8)) (ao kd op vk vi vs tb nm (.slice pp pm pc)) (.slice g1 g2 g3) (.slice o1 o2 o3) (-1)) w'/\Nx P12.ji s11 od st')
    case first=>
     refine Fqy.wp (d:=B3 114) au au (yi az F10 λu' w' hrel=>?_);dsimp only[Fqy];go_wp2_with fail;go_meet
     case rel=>exact hrel
    case rest=>
     obtain⟨od,o1,o2,o3,s12,F11,hNO⟩:=hcut;have HNL:Hid (∀l s13,Nx P12.iL s12 l s13->Nx P12.ga s { P12.made 8 with items:=items,frm:=frm,join:=je,wher:=wh,group:=gr,order:=od,limit:=l } s13):=aa λl s13 h7=>HNO.out od s12 hNO l s13 h7;clear F10 HNO hNO;go_wp2_with fail;refine(fD br s12 [76,73,77,73,84] aq _ F11.ps).mono ?_;rintro e w18 ⟨rfl,ht,hp⟩;have F12:=F11.step ht hp (P12.dK _ _);clear ht hp F11;go_upto_if 144 with fail
     go_cut []from 4 (λw'=>∃lm st',Dz br w.heap.size gx w s (mA KK (λS w=>aE S w 11 (se S w) od (.slice o1 o2 o3))) st' (iT (.slice p1 p2 p3) (.slice v1 v2 v3) (ao jk jo j1 j2 j3 j4 j5 (.slice j6 j7 j8)) (ao kd op vk vi vs tb nm (.slice pp pm pc)) (.slice g1 g2 g3) (.slice o1 o2 o3) lm) w'/\Nx P12.iL s12 lm st')
     case rest=>
      obtain⟨lm,s13,F13,hNL⟩:=hcut;have hN:=HNL.out _ _ hNL;have hb9:=F13.blk;have hz9:=F13.zero;clear F12 HNL hNL;go_wp2_with (first|(refine lw hb9 aB ?_)|(refine pw hz9 ?_;intro w13 hp13));refine ar (aH (fn:=Tryz.f91) rfl rfl hp13.blk aB rfl au) rfl ?_;refine Dz.finish (x := { P12.made 8 with items:=items,frm:=frm,join:=je,wher:=wh,group:=gr,order:=od,limit:=lm }) F13 hp13 (λ⟨hk,q6⟩=>?_) hN;rw[HKK.out]at hk;obtain⟨⟨⟨⟨⟨_,q1⟩,q2⟩,q3⟩,q4⟩,q5⟩:=hk
      exact⟨aj,aj,aj,aj,aj,aj,aj,_,_,_,_,_,_,rfl,aE.nil _ _ _ _,aE.nil _ _ _ _,aE.nil _ _ _ _,aE.nil _ _ _ _,aE.nil _ _ _ _,aE.nil _ _ _ _,aE.nil _ _ _ _,q4,q1,q2,q3,q5,q6⟩
     case first=>
      as_aux_lemma=>
       clear HNL
       cases hb:(bn [76,73,77,73,84] s12).1
       ·rw[(P12.cp hb).1]at F12;go_wp2_with fail;go_meet
        case rel=>exact⟨-1,s12,F12,P12.dq (A:=λr=>tt (P12.ax r)) hb (P12.fo (-1) s12)⟩
       ·have HL:=aa λ(n:Int) (s2:PS) (h:Nx tt (bn [76,73,77,73,84] s12).2 n s2)=>P12.Fc hb h;clear hb;generalize (bn [76,73,77,73,84] s12).2=s13 at F12 HL;have HO:=aa λW (hx:Xk.Ext w18 W)=>eK br s13 W (F12.ps.ext hx)
        cases s13 with
        | error er=>
         have hO:∀W,Xk.Ext w18 W->Calls af 26 #[rp br] W λe w'=>e = .returned (.bool false)/\W=w':=HO.out;have HO:=aa hO;have HF12:=aa F12;obtain⟨b',cap',L,i,d,a,e',hA,-⟩:=F12.ps;obtain⟨l0,c0,c1,c2,c3,c4⟩:=hA.cells;clear hO hA F12;go_wp2_with fail;refine Xk.reg 16 (Xk.w1 HO.out λp=>?_);go_wp2_with fail;have F14:=HF12.out.ext (show Xk.Ext w18 (Xk.exw w18 p)from Xk.xt);clear HF12 HO c0 c1 c2 c3 c4 l0;generalize Xk.exw w18 p=w19 at *
         refine(eK br _ _ F14.ps).mono ?_;rintro e w20 ⟨rfl,rfl⟩;go_wp2_with fail;refine(eK br _ _ F14.ps).mono ?_;rintro e w21 ⟨rfl,rfl⟩;go_wp2_with fail;go_meet
         case rel=>exact⟨-1,_,F14,HL.out (-1) (.error er) rfl⟩
        | ok r=>
         have hgd:=F12.ps.gd;have hO:∀W,Xk.Ext w18 W->Calls af 26 #[rp br] W λe w'=>e = .returned (.bool true)/\W=w':=HO.out;have HO:=aa hO;have HF12:=aa F12;obtain⟨b',cap',L,i,d,a,e',hA,hs⟩:=F12.ps;obtain⟨l0,c0,c1,c2,c3,c4⟩:=hA.cells;obtain⟨t,ht,lb,t0,t1,t2⟩:=hA.tok;have hi:=hA.hi;have hlenL:=hA.len;have hib:(i:Int)<(L.length:Int):=ab;have hnt:=hs.tok ht;have htg:=hgd.nxt;rw[hnt]at htg;have HW:=aa λW (hxw:Xk.Ext w18 W)=>I3 br b' cap' L i d a e' W (hA.ext hxw) t ht htg;have htl:t.text.length≤8193:=by rw[← hnt];exact hgd.good.lR.len
         clear hO hA hs ht F12 hgd;by_cases hk:t.kind=3
         ·have hkb:(t.kind !=3)=false:=by simp[hk]
          have hdg:∀c∈t.text,P11.digit c=true:=by
           obtain⟨c,s,e1,-,e2⟩:=P12.nG (htg.resolve_left ab) hk;rw[e1];exact e2
          by_cases ho:P12.dec t.text≤9223372036854775807
          ·obtain⟨N,hN⟩:∃N:Int,N=(P12.dec t.text:Nat):=⟨_,rfl⟩
           have HNM:Hid (∀W,Xk.Ext w18 W->Calls af 167 #[bs t.text] W λe w'=>e = .returned (.int .u64 N)/\Xk.Ext W w'):=aa λW _=>(qi t.text W ab).mono λe w' ⟨n,h1,h2,h3⟩=>by
            rw[h1,h2 hdg ab,hN,h3];exact⟨rfl,al _ _⟩
           have hw:wrap64 N=(P12.dec t.text:Nat):=by rw[hN];unfold wrap64;omega
           have hLN:Nx tt (.ok r) (wrap64 N) (cf (.ok r)):=by
            have:=Fu (r:=r) (by rw[hnt];exact hk) (by rw[hnt];exact ho);rwa [hnt,← hw]at this
           have HLN:=aa (HL.out _ _ hLN)
           have HW0:Hid (∀W,Xk.Ext w18 W->Calls af 166 #[rp br] W λe w'=>e = .returned (.int .i64 0)/\Xk.Ext W w'):=aa λW hx=>by
            have:=HW.out W hx;rwa [show P12.kk t=0 by unfold P12.kk;rw[if_neg ab,if_neg (λh=>h.2 ho)]]at this
           have cX:=HF12.out.cell (o:=36) rfl;have fX:=HF12.out.free 36;have lX:=HF12.out.size;clear hN hw hLN HL HW hdg ho htg hnt htl;go_wp2_with fail;refine Xk.reg 16 (Xk.w1 HO.out λp=>?_);go_wp2_with fail;refine(eK br (.ok r) _ (HF12.out.ext (show Xk.Ext w18 _ from Xk.xt)).ps).mono ?_;rintro e w19 ⟨rfl,rfl⟩;go_wp2_with (go_at_call 166;with_reducible refine Xk.cl (HW0.out _ Xk.xt) λp=>?_);refine(eK br (.ok r) _ (HF12.out.ext (show Xk.Ext w18 _ from Xk.xt)).ps).mono ?_;rintro e w20 ⟨rfl,rfl⟩;go_wp2_with fail;refine Xk.reg 14 (Xk.w1 HNM.out λp=>?_);go_wp2_with fail
           refine(fL br (.ok r) _ ((HF12.out.set 36 (.int .i64 (wrap64 N))).ext (show Xk.Ext (w18.setCell ⟨gx,36,none⟩ (.int .i64 (wrap64 N))) _ from Xk.xt)).ps).mono ?_;rintro e w22 ⟨rfl,ht,hp⟩;have F16:=(((HF12.out.set 36 (.int .i64 (wrap64 N))).cells (c':=(iT (.slice p1 p2 p3) (.slice v1 v2 v3) (ao jk jo j1 j2 j3 j4 j5 (.slice j6 j7 j8)) (ao kd op vk vi vs tb nm (.slice pp pm pc)) (.slice g1 g2 g3) (.slice o1 o2 o3) (wrap64 N))) rfl).ext (show Xk.Ext (w18.setCell ⟨gx,36,none⟩ (.int .i64 (wrap64 N))) _ from Xk.xt)).step ht hp (P12.eI _);clear ht hp;go_wp2_with fail;go_meet
           case rel=>exact⟨wrap64 N,_,F16,HLN.out⟩
          ·have hLN:=HL.out (-1) _ (A8 (r:=r) (by rw[hnt];exact hk) (by rw[hnt];exact ho) (-1));have HLN:=aa hLN
           have HW0:Hid (∀W,Xk.Ext w18 W->Calls af 166 #[rp br] W λe w'=>e = .returned (.int .i64 123)/\Xk.Ext W w'):=aa λW hx=>by
            have:=HW.out W hx;rwa [show P12.kk t=123 by unfold P12.kk;rw[if_neg ab,if_pos ⟨hk,ho⟩]]at this
           clear hLN HL HW hdg ho htg hnt htl;go_wp2_with fail;refine Xk.reg 16 (Xk.w1 HO.out λp=>?_);go_wp2_with fail;refine(eK br (.ok r) _ (HF12.out.ext (show Xk.Ext w18 _ from Xk.xt)).ps).mono ?_;rintro e w19 ⟨rfl,rfl⟩;go_wp2_with (go_at_call 166;with_reducible refine Xk.cl (HW0.out _ Xk.xt) λp=>?_);refine(iG br (.ok r) 123 aq _ (HF12.out.ext (show Xk.Ext w18 _ from Xk.xt)).ps).mono ?_;rintro e w20 ⟨rfl,ht,hp⟩;have F15:=(HF12.out.ext (show Xk.Ext w18 _ from Xk.xt)).step ht hp (P12.gQ 123 _);clear ht hp;go_wp2_with fail;refine(eK br _ _ F15.ps).mono ?_;rintro e w21 ⟨rfl,rfl⟩
           go_wp2_with fail;go_meet
           case rel=>exact⟨-1,_,F15,HLN.out⟩
         ·have hkb:(t.kind !=3)=true:=by simpa using hk
          go_wp2_with fail;refine Xk.reg 16 (Xk.w1 HO.out λp=>?_);go_wp2_with fail;have F14:=HF12.out.ext (show Xk.Ext w18 (Xk.exw w18 p)from Xk.xt);clear HF12 HO HW c0 c1 c2 c3 c4 l0 t0 t1 t2 lb;generalize Xk.exw w18 p=w19 at *
          refine(iG br _ 120 aq _ F14.ps).mono ?_;rintro e w20 ⟨rfl,ht,hp⟩;have F15:=F14.step ht hp (P12.gQ 120 _);have hLN:=HL.out (-1) _ (A7 (by rw[hnt];exact hk) (-1));clear ht hp F14;go_wp2_with fail;refine(eK br _ _ F15.ps).mono ?_;rintro e w21 ⟨rfl,rfl⟩;go_wp2_with fail;refine(eK br _ _ F15.ps).mono ?_;rintro e w22 ⟨rfl,rfl⟩;go_wp2_with fail;go_meet
          case rel=>exact⟨-1,_,F15,hLN⟩
  case first=>
   cases hb:(bn [74,79,73,78] s8).1
   ·have hP:=HP1.out;rw[(P12.cp hb).1]at hP;have F:=HF4.out.row HK1.out HX1.out hP hsk8;have hG:=HG1.out.nt iq aq (λh=>by simp at h);have F2:=(F.add (kN [y] _) (hG.bg (S':=λb=>gx<b) (λ_ _ _=>rfl) (λb hb _=>by omega) (λ_ _ h=>h))).add (dE .none noE) rfl;clear F hG hP HG1 HX1 HK1 HP1 HF4;go_wp2_with fail;go_meet
    case rel=>exact⟨[y],.none,noE,_,_,_,s8,F2,rfl,P12.dq hb (P12.fo ([y],P12.E.none) s8)⟩
   ·have HF5:Hid (Sk s4 (bn [74,79,73,78] s8).2):=aa (hsk8.trans (P12.dK _ _));have HJ:=aa λ(x:P12.T×P12.T) (s1 s2:PS) (e:P12.E) (h1:Nx P12.source (bn [74,79,73,78] s8).2 x s1) (h2:Nx P12.expr (bE [79,78] s1) e s2)=>P12.Ig (y:=y) hb h1 h2;generalize (bn [74,79,73,78] s8).2=s10 at HP1 HF5 HJ;have hn1:=hn8;clear hn8 hsk8 hb;obtain⟨y0,hy0⟩:∃y0,y0=y:=⟨y,rfl⟩;rw[← hy0]at HG1;obtain⟨z0,rfl⟩:∃z0,z0=z:=⟨z,rfl⟩;obtain⟨cz0,rfl⟩:∃cz0,cz0=cz:=⟨cz,rfl⟩;have hsz10:=HK1.out.size;go_wp2_with fail;have hszK:=(HK1).out.size
    have hcS:w10.cell? ⟨gx,23,none⟩=some (.slice (some ⟨z0,0,none⟩) 1 cz0):=by simp[ak,(HX1).out]
    have lgx:=(ae.1 (HX1).out).1
    refine Xg.bm (E:=ah br) (Xe.bS _) (λch W=>False) 3 5 (λ_=>none) (λ_ _ h=>by cases h) (λ_ _ _ _ h=>by cases h) [(3,BP br s10),(4,BO w10.heap.size s10)] au au (Xg.cg ((by
         intro y hy;simp only[aJ,aF,or_false]at hy;rcases hy with rfl|rfl
         ·rw[if_pos rfl];exact BP.ext
         ·rw[if_neg (show ¬ (4=3) by decide)];exact BO.turn ab))) ((λch a w' hd hX=>hX.elim)) ?_
    simp only[aG,aY,aL,bd];refine Xg.gs ?_;refine Xs.gf (show w10.drew.cell? ⟨gx,23,none⟩=some (.slice (some ⟨z0,0,none⟩) 1 cz0)from hcS) ?_;refine Xg.gs ?_;(refine Xg.dM az az rfl (λW hx hp=>?_) (λu3 K hK=>?_);(go_simp;((refine(xV br s10 W ((HP1).out.drew.ext hx)).mono ?_);intro e w8 h;obtain⟨v8,y,s8,rfl,rfl,h2,h3,h4,h5⟩:=h;exact kr ⟨_,rfl,h2,⟨y,s8,rfl,h3,h4,h5⟩,λb hb=>by cases hb⟩));(go_simp;refine hK _ ?_;clear hK K))
    (refine Xg.bc az az aq (λW hx hp=>?_) (λu4 K hK=>?_);((obtain⟨y,s8,hu,-,h3,-⟩:=Xe.bG hp au;subst hu;go_simp;exact⟨(al _ _).alloc (ai _) _,⟨W.heap.size,y,s8,rfl,(by have:=hx.size;simp only[bM]at this;omega),aw W _,h3⟩,λb hb=>by cases hb;exact⟨.inr (ai _),by simp⟩⟩));(go_simp;refine hK _ ?_;clear hK K))
    refine Xg.bD (λw8 hx hp hg=>?_);obtain⟨⟨g,y,s8,rfl,hge,hgc,hn8⟩,⟨y',s8',-,hp8,hn8',hsk8⟩,-⟩:=hp;have hss:=P12.pn hn8 hn8';subst hss;have hT8:ah br w10 w8:=(ah.drew (ah.refl br w10)).trans hx;have hs8:=hT8.size;clear hn8' hx hg hcS;obtain⟨us,ho,hus,huz,hur⟩:=(HG1).out;have hlt:=ho.lt;have HO:=aa ho;have HUR:=aa hur;have hx8:=hT8.held (HX1).out ab;clear ho hur
    go_wp2_with (at_builtin;refine Xo.bY w4.heap.size rfl _ _ 37 rfl 90 i0 _ 2 32 Tryz.underlying37 Hi.out Hz0.out Hz1.out Hz2.out rfl aq (.slice (some ⟨z0,0,none⟩) 1 cz0) ([y0]).length us.flatten rfl (fC HO.out hT8 ab) g 0 1 1 [bs y.1,bs y.2] rfl aq rfl (λj u hj=>by match j,hj with|0,hj=>(simp at hj;subst hj;simp[ak,hgc])|1,hj=>(simp at hj;subst hj;simp[ak,hgc])) (dS au) aI ab ?_;intro v' w9 ho' hg' hk';obtain⟨z,cz,rfl⟩:=eR ho' ab;have hx9:=(hg'.block gx ab (λe=>by have:=(hlt gx e.symm).1;omega)).trans hx8;have c9:w9.cell? ⟨gx,23,none⟩=some (.slice (some ⟨z0,0,none⟩) 1 cz0):=(by simp[ak,hx9]);have f9:=aD w9 gx 23 _ _ hx9;have HO9:=aa ho';have HG9:=aa hg';have HK9:=aa hk';have HX9:=aa hx9;have l9:=(ae.1 hx9).1;clear ho' hg' hk' hx9 hx8)
    have hKW:=(((HK1).out.trans (Kept.bB hT8 aI)).grown HG9.out (λb hb=>(hlt b hb).1)).setCell (g:=gx) (.inr (.inl aI)) 23 (.slice (some ⟨z,0,none⟩) 2 cz);have hbW:(w9.setCell ⟨gx,23,none⟩ (.slice (some ⟨z,0,none⟩) 2 cz)).heap[gx]?=some (.cells (iT (.slice p1 p2 p3) (.slice (some ⟨z,0,none⟩) 2 cz) noE noE aj aj (-1)) 40):=heap_setCell_same w9 gx 23 _ _ _ HX9.out;have hGW:=(dt.push (xs := [y0]) (x:=y) (R:=λ_ _=>sM) iq hus huz (λj x u hx hu=>HUR.out j x u hx hu) HG9.out HO9.out HK9.out rfl rfl).set iq (g:=gx) ab 23 (.slice (some ⟨z,0,none⟩) 2 cz)
    have hPW:=Ps.setCell (hp8.grown HG9.out (λb hb=>by have:=(hlt b hb).1;omega)) (g:=gx) ab 23 (.slice (some ⟨z,0,none⟩) 2 cz);have lW:gx<(w9.setCell ⟨gx,23,none⟩ (.slice (some ⟨z,0,none⟩) 2 cz)).heap.size:=(ae.1 hbW).1;clear HO9 HG9 HK9 HX9 HUR HO c9 f9 hT8 hp8 hgc HG1 HX1 HP1 HK1;generalize w9.setCell ⟨gx,23,none⟩ (.slice (some ⟨z,0,none⟩) 2 cz)=W at hKW hbW hGW hPW lW ⊢;refine(iU br s8 [79,78] aq _ hPW).mono ?_;rintro e w11 ⟨rfl,ht11,hp11⟩;have hW10:=hKW.size;have hs11:=ht11.size;have HK2:=aa (hKW.trans (Kept.bB ht11 aI));have HX2:=aa (ht11.held hbW ab);have HG2:=aa (hGW.turn iq ht11 ab)
    have HF6:=aa (HF5.out.trans (hsk8.trans (P12.du [79,78] s8)));clear hKW hbW hGW hPW ht11 HF5 hsk8;go_wp2_with fail;refine(kX br _ _ hp11).mono ?_;rintro e w12 ⟨v,xj,s12,rfl,⟨l,rfl,he⟩,ht12,hp12,hn12,hsk12⟩;obtain⟨kd,op,vk,vi,vs,tb,nm,pp,pm,pc,rfl⟩:=he.form;have hNJ:=HJ.out y s8 s12 xj hn8 hn12;have F:=HF4.out.row (HK2.out.trans (Kept.bB ht12 aI)) (ht12.held HX2.out ab) hp12 (HF6.out.trans hsk12);have hG:=(HG2.out.turn iq ht12 ab).nt iq aq (λh=>by simp at h)
    have F2:=(F.add (kN _ _) (hG.bg (S':=λb=>gx<b) (λ_ _ _=>rfl) (λb hb _=>by omega) (λ_ _ h=>h))).add (dE xj _) (dE xj _ _ _ _ _ he (λ_ _ _=>rfl) (λb hb _=>by omega));have hb12:=F2.blk;have HNJ:=aa hNJ;clear F hG he ht12 hp12 hn12 hsk12 HK2 HX2 HG2 HF6 HF4 HJ hNJ;go_wp2_with ((refine aV rfl 35 _ _ rfl (gx) (24) _ _ 40 rfl rfl (hb12) (aI) (au) (au) ?_;intro w13 hp13));have F3:=(F2.qM hp13).cells (c':=iT (.slice p1 p2 p3) (.slice (some ⟨z,0,none⟩) 2 cz) (ao kd op vk vi vs tb nm (.slice pp pm pc)) noE aj aj (-1)) au;go_meet
    case rel=>exact⟨_,xj,_,_,_,_,s12,F3,rfl,by rw[hy0]at *;exact HNJ.out⟩
 case first=>
  refine Fqy.wp (d:=EM 0) au au (yj F3H.out λu' w' hrel=>?_);dsimp only[Fqy];go_wp2_with fail;go_meet
  case rel=>exact hrel
open _root_.P12 (PS Gd okB cH isK cf Nx bn bE bZ bR ew dA de cB Sk inS Rw dF gJ)
theorem kA(S:Nat->Prop)(w:World)(k:Int)(a:P12.T):dv S w { kind:=k,name:=a } (cT k [] aj aj aj aj a [] false aj aj aj noE aj aj noE aj aj 0):=
 ⟨aj,aj,aj,aj,aj,aj,aj,noE,aj,aj,noE,aj,aj,rfl,aE.nil _ _ _ _,aE.nil _ _ _ _,aE.nil _ _ _ _,aE.nil _ _ _ _,aE.nil _ _ _ _,aE.nil _ _ _ _,aE.nil _ _ _ _,rfl,aE.nil _ _ _ _,aE.nil _ _ _ _,rfl,aE.nil _ _ _ _,aE.nil _ _ _ _⟩
theorem P12.Fg{α:Type}(c:Int)(s:PS)(x:α):Nx (λr=>P12.bU c r) s x (cH c s):=by
 cases s with
 | error e=>rfl
 | ok r=>rfl
theorem Dz.Jv{br:Nat}{s s1:PS}{w w1 w2:World}{c:Array Value}{o:Obj}(hlt:br<w.heap.size)(hz:w1.heap[w.heap.size]?=some (.cells bC.toArray 40))(ht:ah br w w1)(hr:Ps br s1 w1)(hk:Sk s s1)(hp:bt w1.heap.size c 40 (w1.alloc o) w2):
  Dz br w.heap.size w1.heap.size w s (λ_ _=>True) s1 c w2:=by
 have hl:=ht.size;have hzl:=(ae.1 hz).1;have h2:=(ah.alloc (ah.refl br w1) o).held hz ab;exact⟨(hp.rest _ ab).trans h2,hp.blk,bt.turn hp (ah.alloc ht _) ab,bt.ps hp (hr.ext (xal _ _)) ab,hk,λ_ _ _ _ _ _ _=>trivial,trivial,hlt,ai _,by omega⟩
theorem xS(br:Nat)(s:PS)(w:World)(hr:Ps br s w):Calls af 24 #[rp br] w (Cm br w s (jC w) P12.cA):=by
 have HG:=aa hr.gds;have HR:=aa hr;have lr:=hr.lt;clear hr;have hb0:∀ (W:World),(cR 40 #[]).run af W = .ok (.agg (cT 0 [] aj aj aj aj [] [] false aj aj aj noE aj aj noE aj aj 0).toArray) W:=λW=>by kernel_rfl
 have hb1:∀ (k:Nat) (W:World),(cR 40 #[(0,lK .i64 k)]).run af W = .ok (.agg (cT k [] aj aj aj aj [] [] false aj aj aj noE aj aj noE aj aj 0).toArray) W:=λk W=>by kernel_rfl
 have hb2:∀ (k:Nat) (a:P12.T) (W:World),(cR 40 #[(0,lK .i64 k),(3,bs a)]).run af W = .ok (.agg (cT k [] aj aj aj aj a [] false aj aj aj noE aj aj noE aj aj 0).toArray) W:=λk a W=>by kernel_rfl
 have HB0:=aa hb0;have HB1:=aa hb1;have HB2:=aa hb2;clear hb0 hb1 hb2;go_enter Tryz.func24,Tryz.ntmps24;go_upto_region 1 with fail
 have hz:=aw w (.cells bC.toArray 40);have hT:ah br w (w.alloc (.cells bC.toArray 40)):=tu trivial;have hp:=HR.out.ext (xal w (.cells bC.toArray 40));clear HR;go_wp2_with fail;refine(fD br s [67,82,69,65,84,69] aq _ hp).mono ?_;rintro e wB ⟨rfl,ht,hpB⟩;replace hz:=ht.held hz ab
 replace hT:=ah.trans hT ht
 have hsB:=(ae.1 hz).1;clear ht hp
 cases h1:(bn [67,82,69,65,84,69] s).1
 case true=>
  go_wp2_with fail;refine(Gh br _ _ hpB).mono ?_;rintro e w9 ⟨v,x,s9,rfl,⟨l,rfl,hs⟩,ht9,hp9,hn9,hsk9⟩;have hN:Nx P12.cA s x s9:=P12.iM HG.out (by unfold P12.kM;exact P12.fS h1 hn9);have hS:=(P12.dK [67,82,69,65,84,69] s).trans hsk9;have hz9:=ht9.held hz ab;have hl37:=hs.length;have HS:=aa hs;have HT9:=aa (ah.trans hT ht9);have HP9:=aa hp9;have hs9:=ht9.size;clear hs ht9 hp9;go_wp2_with ((refine bQ rfl 40 _ _ rfl (w.heap.size) _ _ 40 rfl rfl (hz9) ((by simp[hl37])) ((by simp only[aP,hl37];kernel_rfl)) (HS.out.one) ?_;intro w10 hp10))
  refine ar (aH (fn:=jO) rfl rfl hp10.blk aB rfl (by simp only[aP,hl37];kernel_rfl)) rfl ?_;exact⟨_,x,s9,rfl,⟨l,rfl,HS.out.bg (λb hb _=>hp10.rest b ab) (λb hb _=>by omega)⟩,bt.turn hp10 HT9.out (ai _),bt.ps hp10 HP9.out lr,hN,hS⟩
 rw[(P12.cp h1).1]at hpB;have hp:=hpB;clear hpB hsB;go_wp2_with fail;refine(fD br s [68,82,79,80] aq _ hp).mono ?_;rintro e wB ⟨rfl,ht,hpB⟩;replace hz:=ht.held hz ab
 replace hT:=ah.trans hT ht
 have hsB:=(ae.1 hz).1;clear ht hp
 cases h2:(bn [68,82,79,80] s).1
 case true=>
  have hsk:=P12.dK [68,82,79,80] s;have HN:=aa λ(x:P12.St) (s9:PS) (hn:Nx P12.drop (bn [68,82,79,80] s).2 x s9)=>P12.iM HG.out (show Nx P12.kM s x s9 by unfold P12.kM;exact P12.dq h1 (P12.fS h2 hn));generalize (bn [68,82,79,80] s).2=s2 at hpB hsk HN;go_wp2_with fail;refine(fD br s2 [84,65,66,76,69] aq _ hpB).mono ?_;rintro e wC ⟨rfl,htC,hpC⟩;replace hz:=htC.held hz ab
  replace hT:=ah.trans hT htC
  have hsC:=(ae.1 hz).1;clear htC hpB hsB
  cases hb:(bn [84,65,66,76,69] s2).1
  case true=>
   go_wp2_with fail;refine(iE br _ _ hpC).mono ?_;rintro e wD ⟨rfl,htD,hpD⟩;have hN:=HN.out _ _ (P12.yF hb (P12.gR _));have hS:=hsk.trans ((P12.dK [84,65,66,76,69] s2).trans (P12.fM _));replace hz:=htD.held hz ab
   replace hT:=ah.trans hT htD
   have hsD:=(ae.1 hz).1;clear htD hsC;go_wp2_with (first|(refine cU rfl 40 _ rfl _ rfl _ (HB2.out 2 _ _) ?_)|((refine pw hz ?_;intro w10 hp10)));refine ar (aH (fn:=jO) rfl rfl hp10.blk aB rfl au) rfl ?_;exact⟨_,_,_,rfl,⟨_,rfl,kA _ _ _ _⟩,bt.turn hp10 hT (ai _),bt.ps hp10 hpD lr,hN,hS⟩
  rw[(P12.cp hb).1]at hpC;go_wp2_with fail;refine(iU br s2 [73,78,68,69,88] aq _ hpC).mono ?_;rintro e wE ⟨rfl,htE,hpE⟩;replace hz:=htE.held hz ab
  replace hT:=ah.trans hT htE
  replace hsC:=(ae.1 hz).1
  clear htE hpC;go_wp2_with fail;refine(iE br _ _ hpE).mono ?_;rintro e wD ⟨rfl,htD,hpD⟩;have hN:=HN.out _ _ (P12.yG hb (P12.gR _));have hS:=hsk.trans ((P12.du [73,78,68,69,88] s2).trans (P12.fM _));replace hz:=htD.held hz ab
  replace hT:=ah.trans hT htD
  have hsD:=(ae.1 hz).1;clear htD hsC;go_wp2_with (first|(refine cU rfl 40 _ rfl _ rfl _ (HB2.out 4 _ _) ?_)|((refine pw hz ?_;intro w10 hp10)));refine ar (aH (fn:=jO) rfl rfl hp10.blk aB rfl au) rfl ?_;exact⟨_,_,_,rfl,⟨_,rfl,kA _ _ _ _⟩,bt.turn hp10 hT (ai _),bt.ps hp10 hpD lr,hN,hS⟩
 rw[(P12.cp h2).1]at hpB;have hp:=hpB;clear hpB hsB;go_wp2_with fail;refine(fD br s [73,78,83,69,82,84] aq _ hp).mono ?_;rintro e wB ⟨rfl,ht,hpB⟩;replace hz:=ht.held hz ab
 replace hT:=ah.trans hT ht
 have hsB:=(ae.1 hz).1;clear ht hp
 cases h3:(bn [73,78,83,69,82,84] s).1
 case true=>
  go_wp2_with fail;refine(insert_k br _ _ hpB).mono ?_;rintro e w9 ⟨v,x,s9,rfl,⟨l,rfl,hs⟩,ht9,hp9,hn9,hsk9⟩;have hN:Nx P12.cA s x s9:=P12.iM HG.out (by unfold P12.kM;exact P12.dq h1 (P12.dq h2 (P12.fS h3 hn9)));have hS:=(P12.dK [73,78,83,69,82,84] s).trans hsk9;have hz9:=ht9.held hz ab;have hl37:=hs.length;have HS:=aa hs;have HT9:=aa (ah.trans hT ht9);have HP9:=aa hp9;have hs9:=ht9.size;clear hs ht9 hp9;go_wp2_with ((refine bQ rfl 40 _ _ rfl (w.heap.size) _ _ 40 rfl rfl (hz9) ((by simp[hl37])) ((by simp only[aP,hl37];kernel_rfl)) (HS.out.one) ?_;intro w10 hp10))
  refine ar (aH (fn:=jO) rfl rfl hp10.blk aB rfl (by simp only[aP,hl37];kernel_rfl)) rfl ?_;exact⟨_,x,s9,rfl,⟨l,rfl,HS.out.bg (λb hb _=>hp10.rest b ab) (λb hb _=>by omega)⟩,bt.turn hp10 HT9.out (ai _),bt.ps hp10 HP9.out lr,hN,hS⟩
 rw[(P12.cp h3).1]at hpB;have hp:=hpB;clear hpB hsB;go_wp2_with fail;refine(fD br s [85,80,68,65,84,69] aq _ hp).mono ?_;rintro e wB ⟨rfl,ht,hpB⟩;replace hz:=ht.held hz ab
 replace hT:=ah.trans hT ht
 have hsB:=(ae.1 hz).1;clear ht hp
 cases h4:(bn [85,80,68,65,84,69] s).1
 case true=>
  go_wp2_with fail;refine(Ei br _ _ hpB).mono ?_;rintro e w9 ⟨v,x,s9,rfl,⟨l,rfl,hs⟩,ht9,hp9,hn9,hsk9⟩;have hN:Nx P12.cA s x s9:=P12.iM HG.out (by unfold P12.kM;exact P12.dq h1 (P12.dq h2 (P12.dq h3 (P12.fS h4 hn9))));have hS:=(P12.dK [85,80,68,65,84,69] s).trans hsk9;have hz9:=ht9.held hz ab;have hl37:=hs.length;have HS:=aa hs;have HT9:=aa (ah.trans hT ht9);have HP9:=aa hp9;have hs9:=ht9.size;clear hs ht9 hp9;go_wp2_with ((refine bQ rfl 40 _ _ rfl (w.heap.size) _ _ 40 rfl rfl (hz9) ((by simp[hl37])) ((by simp only[aP,hl37];kernel_rfl)) (HS.out.one) ?_;intro w10 hp10))
  refine ar (aH (fn:=jO) rfl rfl hp10.blk aB rfl (by simp only[aP,hl37];kernel_rfl)) rfl ?_;exact⟨_,x,s9,rfl,⟨l,rfl,HS.out.bg (λb hb _=>hp10.rest b ab) (λb hb _=>by omega)⟩,bt.turn hp10 HT9.out (ai _),bt.ps hp10 HP9.out lr,hN,hS⟩
 rw[(P12.cp h4).1]at hpB;have hp:=hpB;clear hpB hsB;go_wp2_with fail;refine(fD br s [68,69,76,69,84,69] aq _ hp).mono ?_;rintro e wB ⟨rfl,ht,hpB⟩;replace hz:=ht.held hz ab
 replace hT:=ah.trans hT ht
 have hsB:=(ae.1 hz).1;clear ht hp
 cases h5:(bn [68,69,76,69,84,69] s).1
 case true=>
  have hsk:=P12.dK [68,69,76,69,84,69] s;have HN:=aa λ(x:P12.St) (s9:PS) (hn:Nx P12.iP (bn [68,69,76,69,84,69] s).2 x s9)=>P12.iM HG.out (show Nx P12.kM s x s9 by unfold P12.kM;exact P12.dq h1 (P12.dq h2 (P12.dq h3 (P12.dq h4 (P12.fS h5 hn)))));generalize (bn [68,69,76,69,84,69] s).2=s2 at hpB hsk HN;go_wp2_with fail;refine(iU br s2 [70,82,79,77] aq _ hpB).mono ?_;rintro e wC ⟨rfl,htC,hpC⟩;replace hz:=htC.held hz ab
  replace hT:=ah.trans hT htC
  have hsC:=(ae.1 hz).1;clear htC hpB hsB;go_wp2_with fail;refine(iE br _ _ hpC).mono ?_;rintro e wD ⟨rfl,htD,hpD⟩;replace hz:=htD.held hz ab
  replace hT:=ah.trans hT htD
  replace hsC:=(ae.1 hz).1
  have hNA:=P12.gR (bE [70,82,79,77] s2);have hsk2:=hsk.trans ((P12.du [70,82,79,77] s2).trans (P12.fM _));clear htD hpC hsk;generalize bZ (bE [70,82,79,77] s2)=q at hpD hNA hsk2 ⊢;obtain⟨a,s3⟩:=q;dsimp only at hpD hNA hsk2 ⊢;go_wp2_with (first|(refine cU rfl 40 _ rfl _ rfl _ (HB2.out 7 a _) ?_)|((refine pw (aw wD _) ?_;intro w3 hp3);have F3:=Dz.Jv lr hz hT hpD hsk2 hp3));have hgz:=F3.gzge;have hzx:=F3.zx;clear hp3 hz hT hpD hsk2;generalize wD.heap.size=gx at *
  refine(so br _ _ F3.ps).mono ?_;rintro e w11 ⟨v,xw,s11,rfl,⟨l,rfl,he⟩,ht,hp,hn,hsk⟩;obtain⟨kd,op',vk,vi,vs,tb,nm,pp,pm,pc,rfl⟩:=he.form;have F8:=(F3.step ht hp hsk).add (dE xw _) (F3.up (dE xw _) he);have hb8:=F8.blk;have hN:=HN.out _ _ (P12.AS hNA hn);clear ht hp he hn hsk F3 hNA HN
  go_wp2_with (first|((refine aV rfl 35 _ _ rfl (gx) (12) _ _ 40 rfl rfl (hb8) (aI) (au) (au) ?_;intro w12 hp12);have F9:=(F8.qM hp12).cells (c':=(cT 7 [] aj aj aj aj a [] false aj aj aj (ao kd op' vk vi vs tb nm (.slice pp pm pc)) aj aj noE aj aj 0).toArray) au;have hb9:=F9.blk;have hz9:=F9.zero)|(refine lw hb9 aB ?_)|(refine pw hz9 ?_;intro w13 hp13));refine ar (aH (fn:=jO) rfl rfl hp13.blk aB rfl au) rfl ?_;refine Dz.finish (x := { P12.made 7 with name:=a,wher:=xw }) F9 hp13 (λ⟨_,hx⟩=>?_) hN
  exact⟨aj,aj,aj,aj,aj,aj,aj,_,aj,aj,noE,aj,aj,rfl,aE.nil _ _ _ _,aE.nil _ _ _ _,aE.nil _ _ _ _,aE.nil _ _ _ _,aE.nil _ _ _ _,aE.nil _ _ _ _,aE.nil _ _ _ _,hx,aE.nil _ _ _ _,aE.nil _ _ _ _,rfl,aE.nil _ _ _ _,aE.nil _ _ _ _⟩
 rw[(P12.cp h5).1]at hpB;have hp:=hpB;clear hpB hsB;go_wp2_with fail;refine(fD br s [83,69,76,69,67,84] aq _ hp).mono ?_;rintro e wB ⟨rfl,ht,hpB⟩;replace hz:=ht.held hz ab
 replace hT:=ah.trans hT ht
 have hsB:=(ae.1 hz).1;clear ht hp
 cases h6:(bn [83,69,76,69,67,84] s).1
 case true=>
  go_wp2_with fail;refine(GY br _ _ hpB).mono ?_;rintro e w9 ⟨v,x,s9,rfl,⟨l,rfl,hs⟩,ht9,hp9,hn9,hsk9⟩;have hN:Nx P12.cA s x s9:=P12.iM HG.out (by unfold P12.kM;exact P12.dq h1 (P12.dq h2 (P12.dq h3 (P12.dq h4 (P12.dq h5 (P12.fS h6 hn9))))));have hS:=(P12.dK [83,69,76,69,67,84] s).trans hsk9;have hz9:=ht9.held hz ab;have hl37:=hs.length;have HS:=aa hs;have HT9:=aa (ah.trans hT ht9);have HP9:=aa hp9;have hs9:=ht9.size;clear hs ht9 hp9;go_wp2_with ((refine bQ rfl 40 _ _ rfl (w.heap.size) _ _ 40 rfl rfl (hz9) ((by simp[hl37])) ((by simp only[aP,hl37];kernel_rfl)) (HS.out.one) ?_;intro w10 hp10))
  refine ar (aH (fn:=jO) rfl rfl hp10.blk aB rfl (by simp only[aP,hl37];kernel_rfl)) rfl ?_;exact⟨_,x,s9,rfl,⟨l,rfl,HS.out.bg (λb hb _=>hp10.rest b ab) (λb hb _=>by omega)⟩,bt.turn hp10 HT9.out (ai _),bt.ps hp10 HP9.out lr,hN,hS⟩
 rw[(P12.cp h6).1]at hpB;have hp:=hpB;clear hpB hsB;go_wp2_with fail;refine(fD br s [66,69,71,73,78] aq _ hp).mono ?_;rintro e wB ⟨rfl,ht,hpB⟩;replace hz:=ht.held hz ab
 replace hT:=ah.trans hT ht
 have hsB:=(ae.1 hz).1;clear ht hp
 cases h7:(bn [66,69,71,73,78] s).1
 case true=>
  go_wp2_with (first|(refine cU rfl 40 _ rfl _ rfl _ (HB1.out 9 _) ?_)|((refine pw hz ?_;intro w10 hp10)));refine ar (aH (fn:=jO) rfl rfl hp10.blk aB rfl au) rfl ?_;exact⟨_,_,_,rfl,⟨_,rfl,kA _ _ _ _⟩,bt.turn hp10 hT (ai _),bt.ps hp10 hpB lr,P12.iM HG.out (by unfold P12.kM;exact P12.dq h1 (P12.dq h2 (P12.dq h3 (P12.dq h4 (P12.dq h5 (P12.dq h6 (P12.fS (A:=λr => .ok (P12.made 9,r)) h7 (P12.fo _ _)))))))),P12.dK [66,69,71,73,78] s⟩
 rw[(P12.cp h7).1]at hpB;have hp:=hpB;clear hpB hsB;go_wp2_with fail;refine(fD br s [67,79,77,77,73,84] aq _ hp).mono ?_;rintro e wB ⟨rfl,ht,hpB⟩;replace hz:=ht.held hz ab
 replace hT:=ah.trans hT ht
 have hsB:=(ae.1 hz).1;clear ht hp
 cases h8:(bn [67,79,77,77,73,84] s).1
 case true=>
  go_wp2_with (first|(refine cU rfl 40 _ rfl _ rfl _ (HB1.out 10 _) ?_)|((refine pw hz ?_;intro w10 hp10)));refine ar (aH (fn:=jO) rfl rfl hp10.blk aB rfl au) rfl ?_;exact⟨_,_,_,rfl,⟨_,rfl,kA _ _ _ _⟩,bt.turn hp10 hT (ai _),bt.ps hp10 hpB lr,P12.iM HG.out (by unfold P12.kM;exact P12.dq h1 (P12.dq h2 (P12.dq h3 (P12.dq h4 (P12.dq h5 (P12.dq h6 (P12.dq (A:=λr => .ok (P12.made 9,P12.ax r)) h7 (P12.fS (A:=λr => .ok (P12.made 10,r)) h8 (P12.fo _ _))))))))),P12.dK [67,79,77,77,73,84] s⟩
 rw[(P12.cp h8).1]at hpB;have hp:=hpB;clear hpB hsB;go_wp2_with fail;refine(fD br s [82,79,76,76,66,65,67,75] aq _ hp).mono ?_;rintro e wB ⟨rfl,ht,hpB⟩;replace hz:=ht.held hz ab
 replace hT:=ah.trans hT ht
 have hsB:=(ae.1 hz).1;clear ht hp
 cases h9:(bn [82,79,76,76,66,65,67,75] s).1
 case true=>
  go_wp2_with (first|(refine cU rfl 40 _ rfl _ rfl _ (HB1.out 11 _) ?_)|((refine pw hz ?_;intro w10 hp10)));refine ar (aH (fn:=jO) rfl rfl hp10.blk aB rfl au) rfl ?_;exact⟨_,_,_,rfl,⟨_,rfl,kA _ _ _ _⟩,bt.turn hp10 hT (ai _),bt.ps hp10 hpB lr,P12.iM HG.out (by unfold P12.kM;exact P12.dq h1 (P12.dq h2 (P12.dq h3 (P12.dq h4 (P12.dq h5 (P12.dq h6 (P12.dq (A:=λr => .ok (P12.made 9,P12.ax r)) h7 (P12.dq (A:=λr => .ok (P12.made 10,P12.ax r)) h8 (P12.fS (A:=λr => .ok (P12.made 11,r)) h9 (P12.fo _ _)))))))))),P12.dK [82,79,76,76,66,65,67,75] s⟩
 rw[(P12.cp h9).1]at hpB;have hp:=hpB;clear hpB hsB;go_wp2_with fail;refine(iG br s 120 aq _ hp).mono ?_;rintro e wB ⟨rfl,ht,hpB⟩;replace hz:=ht.held hz ab
 replace hT:=ah.trans hT ht
 have hsB:=(ae.1 hz).1;clear ht hp;go_wp2_with (first|(refine cU rfl 40 _ rfl _ rfl _ (HB0.out _) ?_)|((refine pw hz ?_;intro w10 hp10)));refine ar (aH (fn:=jO) rfl rfl hp10.blk aB rfl au) rfl ?_;exact⟨_,_,_,rfl,⟨_,rfl,kA _ _ _ _⟩,bt.turn hp10 hT (ai _),bt.ps hp10 hpB lr,P12.iM HG.out (by unfold P12.kM;exact P12.dq h1 (P12.dq h2 (P12.dq h3 (P12.dq h4 (P12.dq h5 (P12.dq h6 (P12.dq (A:=λr => .ok (P12.made 9,P12.ax r)) h7 (P12.dq (A:=λr => .ok (P12.made 10,P12.ax r)) h8 (P12.dq (A:=λr => .ok (P12.made 11,P12.ax r)) h9 (P12.Fg 120 s _)))))))))),P12.gQ 120 s⟩
end Go.Proofs.YtkpmclddjkebeaaGreatDoor
