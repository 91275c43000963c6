/- What the claim's proof leans on, part 11: walks of functions and plain laws. -/
import Derived.Test.YtkpmclddjkebeaaGreatDoorBJ
set_option linter.unusedSimpArgs false
set_option linter.unusedVariables false
set_option maxRecDepth 100000
set_option maxHeartbeats 8000000
open Bool renaming and_eq_true→aq,false_eq_true→aV
open Exists renaming intro→ai
open Go.Ending renaming returned→aP
open Go.IntWalk renaming i64_in→pn
open Go.Lib renaming hid→aa,itoa→ee,join→nj
open Go.Proofs.Tryz renaming prog→ab,underlying139→wH,underlying35→aW,underlying40→av
open Go.RowKit.Below renaming refl→aj
open Go.Value renaming bool→bf,slice→mu
open Go.World renaming block_lt_of_cell?→al,size_alloc→af,size_drew→cQ
open List renaming all_eq_true→bA,append_inj'→nq,cons_append→aL,drop→ub,drop_succ_cons→aG,drop_zero→aT,getElem?_eq_getElem→aU,getElem_mem→cp,headD_cons→dV,length_append→aB,length_cons→aK,length_nil→cM,mem_cons→aI,mem_singleton→bW,nil_append→bM,size_toArray→ar,take_succ_cons→aA,take_zero→aS
open Nat renaming add_zero→jZ,le_refl→ag,le_trans→bH,mul_one→nk
namespace Go.Proofs.YtkpmclddjkebeaaGreatDoor
open Go.RowKit
theorem vT(kind lim:Int)(p1 p2 p3 p4:Option Addr)(n1 c1 c2 n3 c3 n4 c4:Nat)(kdw opw vkw viw:Int)(vsw tbw nnw:P12.T)(qw:Option Addr)(mw dw:Nat)(kdj opj vkj vij:Int)(vsj tbj nnj:P12.T)(qj:Option Addr)(mj dj:Nat)(h3:n3≤16)(h4:n4≤16)(hlim : -1≤lim)(l:List Value)(hl:l=cA kind [] ah ah ah ah [] [] false ah ah ah (au kdw opw vkw viw vsw tbw nnw (.slice qw mw dw)) (.slice p1 n1 c1) (.slice p2 2 c2) (au kdj opj vkj vij vsj tbj nnj (.slice qj mj dj)) (.slice p3 n3 c3) (.slice p4 n4 c4) lim)(w:World)
  (hI:∀W,Xk.Ext w W->Calls ab 111 #[.slice p1 n1 c1,.int .i64 16,.func (.func 107) #[] #[]] W λe w'=>e = .returned (.bool true)/\Xk.Ext W w')
  (hF:∀W,Xk.Ext w W->Calls ab 112 #[.slice p2 2 c2,.int .i64 2,.func (.func 109) #[] #[]] W λe w'=>e = .returned (.bool true)/\Xk.Ext W w')
  (hW:∀W,Xk.Ext w W->Calls ab 43 #[.agg (au kdw opw vkw viw vsw tbw nnw (.slice qw mw dw)).toArray] W λe w'=>e = .returned (.bool true)/\Xk.Ext W w')
  (hJ:∀W,Xk.Ext w W->Calls ab 36 #[.agg (au kdj opj vkj vij vsj tbj nnj (.slice qj mj dj)).toArray] W λe w'=>e = .returned (.bool true)/\Xk.Ext W w')
  (hG:∀W,Xk.Ext w W->Calls ab 101 #[.slice p3 n3 c3,.func (.func 108) #[] #[]] W λe w'=>e = .returned (.bool true)/\Xk.Ext W w')
  (hO:∀W,Xk.Ext w W->Calls ab 113 #[.slice p4 n4 c4,.func (.func 110) #[] #[]] W λe w'=>e = .returned (.bool true)/\Xk.Ext W w') :
  Calls ab 44 #[.agg l.toArray] w λe w'=>e = .returned (.bool true)/\Xk.Ext w w':=by
 have HI:=aa hI;have HF:=aa hF;have HW:=aa hW;have HJ:=aa hJ;have HG:=aa hG;have HO:=aa hO;have HL:=aa hl;clear hl hI hF hW hJ hG hO;have i3:(n3:Int)≤16:=by omega
 have j3:decide ((n3:Int)≤16)=true:=decide_eq_true i3;have j4:decide ((n4:Int)≤16)=true:=decide_eq_true (by omega);have i4:(n4:Int)≤16:=by omega

 have HX1:Hid (Xk.Ext (w.alloc (.cells l.toArray 40)) (w.alloc (.cells l.toArray 40))):=aa (aj _ _);have lt1:w.heap.size<(w.alloc (.cells l.toArray 40)).heap.size:=by rw[af];omega
 go_enter Tryz.func44,Tryz.ntmps44;have q22:=aZ HX1.out 22 (.slice p1 n1 c1) (by rw[HL.out];rfl);go_wp2_with fail;refine(HI.out _ (bG HX1.out)).mono ?_;rintro e w2 ⟨rfl,hx2⟩;have HX2:=aa (Xk.Ext.trans HX1.out hx2);clear hx2 q22;have q23:=aZ HX2.out 23 (.slice p2 2 c2) (by rw[HL.out];rfl);go_wp2_with fail;refine(HF.out _ (bG HX2.out)).mono ?_;rintro e w3 ⟨rfl,hx3⟩;have HX3:=aa (Xk.Ext.trans HX2.out hx3);clear hx3 q23;have q12:=aZ HX3.out 12 _ (by rw[HL.out];rfl);have q13:=aZ HX3.out 13 _ (by rw[HL.out];rfl);have q14:=aZ HX3.out 14 _ (by rw[HL.out];rfl)
 have q15:=aZ HX3.out 15 _ (by rw[HL.out];rfl);have q16:=aZ HX3.out 16 _ (by rw[HL.out];rfl);have q17:=aZ HX3.out 17 _ (by rw[HL.out];rfl);have q18:=aZ HX3.out 18 _ (by rw[HL.out];rfl);have q19:=aZ HX3.out 19 _ (by rw[HL.out];rfl);have q20:=aZ HX3.out 20 _ (by rw[HL.out];rfl);have q21:=aZ HX3.out 21 _ (by rw[HL.out];rfl);have lt12:=al _ _ q12;go_wp2_with fail;refine(HW.out _ (bG HX3.out)).mono ?_;rintro e w4 ⟨rfl,hx4⟩;have HX4:=aa (Xk.Ext.trans HX3.out hx4);clear hx4 q12 q13 q14 q15 q16 q17 q18 q19 q20 q21 lt12;have q23:=aZ HX4.out 23 (.slice p2 2 c2) (by rw[HL.out];rfl)
 have q24:=aZ HX4.out 24 _ (by rw[HL.out];rfl);have q25:=aZ HX4.out 25 _ (by rw[HL.out];rfl);have q26:=aZ HX4.out 26 _ (by rw[HL.out];rfl);have q27:=aZ HX4.out 27 _ (by rw[HL.out];rfl);have q28:=aZ HX4.out 28 _ (by rw[HL.out];rfl);have q29:=aZ HX4.out 29 _ (by rw[HL.out];rfl);have q30:=aZ HX4.out 30 _ (by rw[HL.out];rfl);have q31:=aZ HX4.out 31 _ (by rw[HL.out];rfl);have q32:=aZ HX4.out 32 _ (by rw[HL.out];rfl);have q33:=aZ HX4.out 33 _ (by rw[HL.out];rfl);have lt24:=al _ _ q24;dsimp only;iterate 3 (first|go_values|go_skip|go_guarded|go_step|go_upon)
 simp only[List.append_eq,aL,bM];go_wp2_with fail;refine(HJ.out _ (bG HX4.out)).mono ?_;rintro e w5 ⟨rfl,hx5⟩;have HX5:=aa (Xk.Ext.trans HX4.out hx5);clear hx5 q23 q24 q25 q26 q27 q28 q29 q30 q31 q32 q33 lt24;have q34:=aZ HX5.out 34 (.slice p3 n3 c3) (by rw[HL.out];rfl);go_wp2_with fail;refine(HG.out _ (bG HX5.out)).mono ?_;rintro e w6 ⟨rfl,hx6⟩;have HX6:=aa (Xk.Ext.trans HX5.out hx6);clear hx6 q34;have q35:=aZ HX6.out 35 (.slice p4 n4 c4) (by rw[HL.out];rfl);go_wp2_with fail;refine(HO.out _ (bG HX6.out)).mono ?_;rintro e w7 ⟨rfl,hx7⟩;have HX7:=aa (Xk.Ext.trans HX6.out hx7);clear hx7 q35
 have q36:=aZ HX7.out 36 (.int .i64 lim) (by rw[HL.out];rfl);go_wp2_with fail;go_ret;exact⟨rfl,bG HX7.out⟩
theorem vU(kind lim:Int)(p1 p2 p3 p4:Option Addr)(n1 c1 c2 n3 c3 n4 c4:Nat)(kdw opw vkw viw:Int)(vsw tbw nnw:P12.T)(qw:Option Addr)(mw dw:Nat)  (h3:n3≤16)(h4:n4≤16)(hlim : -1≤lim)(l:List Value)(hl:l=cA kind [] ah ah ah ah [] [] false ah ah ah (au kdw opw vkw viw vsw tbw nnw (.slice qw mw dw)) (.slice p1 n1 c1) (.slice p2 1 c2) noE (.slice p3 n3 c3) (.slice p4 n4 c4) lim)(w:World)
  (hI:∀W,Xk.Ext w W->Calls ab 111 #[.slice p1 n1 c1,.int .i64 16,.func (.func 107) #[] #[]] W λe w'=>e = .returned (.bool true)/\Xk.Ext W w')
  (hF:∀W,Xk.Ext w W->Calls ab 112 #[.slice p2 1 c2,.int .i64 2,.func (.func 109) #[] #[]] W λe w'=>e = .returned (.bool true)/\Xk.Ext W w')
  (hW:∀W,Xk.Ext w W->Calls ab 43 #[.agg (au kdw opw vkw viw vsw tbw nnw (.slice qw mw dw)).toArray] W λe w'=>e = .returned (.bool true)/\Xk.Ext W w')
  (hG:∀W,Xk.Ext w W->Calls ab 101 #[.slice p3 n3 c3,.func (.func 108) #[] #[]] W λe w'=>e = .returned (.bool true)/\Xk.Ext W w')
  (hO:∀W,Xk.Ext w W->Calls ab 113 #[.slice p4 n4 c4,.func (.func 110) #[] #[]] W λe w'=>e = .returned (.bool true)/\Xk.Ext W w') :
  Calls ab 44 #[.agg l.toArray] w λe w'=>e = .returned (.bool true)/\Xk.Ext w w':=by
 have HI:=aa hI;have HF:=aa hF;have HW:=aa hW;have HG:=aa hG;have HO:=aa hO;have HB:Hid (∀W,Xk.Ext w W->Calls ab 94 #[.agg noE.toArray] W λe w'=>e = .returned (.bool true)/\Xk.Ext W w'):=aa λW _=>mV W;have HL:=aa hl;clear hl hI hF hW hG hO;have i3:(n3:Int)≤16:=by omega
 have j3:decide ((n3:Int)≤16)=true:=decide_eq_true i3;have j4:decide ((n4:Int)≤16)=true:=decide_eq_true (by omega);have i4:(n4:Int)≤16:=by omega

 have HX1:Hid (Xk.Ext (w.alloc (.cells l.toArray 40)) (w.alloc (.cells l.toArray 40))):=aa (aj _ _);have lt1:w.heap.size<(w.alloc (.cells l.toArray 40)).heap.size:=by rw[af];omega
 go_enter Tryz.func44,Tryz.ntmps44;have q22:=aZ HX1.out 22 (.slice p1 n1 c1) (by rw[HL.out];rfl);go_wp2_with fail;refine(HI.out _ (bG HX1.out)).mono ?_;rintro e w2 ⟨rfl,hx2⟩;have HX2:=aa (Xk.Ext.trans HX1.out hx2);clear hx2 q22;have q23:=aZ HX2.out 23 (.slice p2 1 c2) (by rw[HL.out];rfl);go_wp2_with fail;refine(HF.out _ (bG HX2.out)).mono ?_;rintro e w3 ⟨rfl,hx3⟩;have HX3:=aa (Xk.Ext.trans HX2.out hx3);clear hx3 q23;have q12:=aZ HX3.out 12 _ (by rw[HL.out];rfl);have q13:=aZ HX3.out 13 _ (by rw[HL.out];rfl);have q14:=aZ HX3.out 14 _ (by rw[HL.out];rfl)
 have q15:=aZ HX3.out 15 _ (by rw[HL.out];rfl);have q16:=aZ HX3.out 16 _ (by rw[HL.out];rfl);have q17:=aZ HX3.out 17 _ (by rw[HL.out];rfl);have q18:=aZ HX3.out 18 _ (by rw[HL.out];rfl);have q19:=aZ HX3.out 19 _ (by rw[HL.out];rfl);have q20:=aZ HX3.out 20 _ (by rw[HL.out];rfl);have q21:=aZ HX3.out 21 _ (by rw[HL.out];rfl);have lt12:=al _ _ q12;go_wp2_with fail;refine(HW.out _ (bG HX3.out)).mono ?_;rintro e w4 ⟨rfl,hx4⟩;have HX4:=aa (Xk.Ext.trans HX3.out hx4);clear hx4 q12 q13 q14 q15 q16 q17 q18 q19 q20 q21 lt12;have q23:=aZ HX4.out 23 (.slice p2 1 c2) (by rw[HL.out];rfl)
 have q24:=aZ HX4.out 24 _ (by rw[HL.out];rfl);have q25:=aZ HX4.out 25 _ (by rw[HL.out];rfl);have q26:=aZ HX4.out 26 _ (by rw[HL.out];rfl);have q27:=aZ HX4.out 27 _ (by rw[HL.out];rfl);have q28:=aZ HX4.out 28 _ (by rw[HL.out];rfl);have q29:=aZ HX4.out 29 _ (by rw[HL.out];rfl);have q30:=aZ HX4.out 30 _ (by rw[HL.out];rfl);have q31:=aZ HX4.out 31 _ (by rw[HL.out];rfl);have q32:=aZ HX4.out 32 _ (by rw[HL.out];rfl);have q33:=aZ HX4.out 33 _ (by rw[HL.out];rfl);have lt24:=al _ _ q24;dsimp only;iterate 3 (first|go_values|go_skip|go_guarded|go_step|go_upon)
 simp only[List.append_eq,aL,bM];go_wp2_with fail;refine(HB.out _ (bG HX4.out)).mono ?_;rintro e w5 ⟨rfl,hx5⟩;have HX5:=aa (Xk.Ext.trans HX4.out hx5);clear hx5 q23 q24 q25 q26 q27 q28 q29 q30 q31 q32 q33 lt24;have q34:=aZ HX5.out 34 (.slice p3 n3 c3) (by rw[HL.out];rfl);go_wp2_with fail;refine(HG.out _ (bG HX5.out)).mono ?_;rintro e w6 ⟨rfl,hx6⟩;have HX6:=aa (Xk.Ext.trans HX5.out hx6);clear hx6 q34;have q35:=aZ HX6.out 35 (.slice p4 n4 c4) (by rw[HL.out];rfl);go_wp2_with fail;refine(HO.out _ (bG HX6.out)).mono ?_;rintro e w7 ⟨rfl,hx7⟩;have HX7:=aa (Xk.Ext.trans HX6.out hx7);clear hx7 q35
 have q36:=aZ HX7.out 36 (.int .i64 lim) (by rw[HL.out];rfl);go_wp2_with fail;go_ret;exact⟨rfl,bG HX7.out⟩
theorem Ff(kind lim:Int)(hkd:kind=8)(p1 p2 p3 p4:Option Addr)(n1 c1 n2 c2 n3 c3 n4 c4:Nat)(kdw opw vkw viw:Int)(vsw tbw nnw:P12.T)(qw:Option Addr)(mw dw:Nat)(kdj opj vkj vij:Int)(vsj tbj nnj:P12.T)(qj:Option Addr)(mj dj:Nat)(l:List Value)(hl:l=cA kind [] ah ah ah ah [] [] false ah ah ah (au kdw opw vkw viw vsw tbw nnw (.slice qw mw dw)) (.slice p1 n1 c1) (.slice p2 n2 c2) (au kdj opj vkj vij vsj tbj nnj (.slice qj mj dj)) (.slice p3 n3 c3) (.slice p4 n4 c4) lim)(w:World)
  (hQ:∀W,Xk.Ext w W->Calls ab 44 #[.agg l.toArray] W λe w'=>e = .returned (.bool true)/\Xk.Ext W w')
  (hK:∀W,Calls ab 33 #[.agg l.toArray] W λe w'=>e = .returned (.agg l.toArray)/\Xk.Ext W w')
  (hS:∀W,Calls ab 32 #[.agg l.toArray,.agg l.toArray] W λe w'=>e = .returned (.bool true)/\Xk.Ext W w') :
  Calls ab 14 #[.agg l.toArray] w λe w'=>e = .returned (.bool true)/\Xk.Ext w w':=by
 have HK:=aa hK;have HS:=aa hS;have HQ:=aa hQ;clear hK hS hQ;have hn1:(kind==1)=false:=by subst hkd;rfl
 have hn2:(kind==2)=false:=by subst hkd;rfl
 have hn3:(kind==3)=false:=by subst hkd;rfl
 have hn4:(kind==4)=false:=by subst hkd;rfl
 have hn5:(kind==5)=false:=by subst hkd;rfl
 have hn6:(kind==6)=false:=by subst hkd;rfl
 have hn7:(kind==7)=false:=by subst hkd;rfl
 have hn8:(kind==8)=true:=by subst hkd;rfl
 clear hkd;have hlen:l.length=37:=by rw[hl];rfl
 have HSZ:Hid ((ab.info? 40).map (·.size)=some l.toArray.size):=aa (by rw[ar,hlen];kernel_rfl);have HLEN:=aa hlen;have HL:=aa hl;have HG:Hid (∀p,(Xk.exw (w.alloc (.cells l.toArray 40)).drew p).heap[w.heap.size]?=some (.cells l.toArray 40)):=aa λp=>((Xk.cm _ p).block _ (by rw[cQ,af];omega)).trans (az w _);clear hl hlen;go_enter Tryz.func14,Tryz.ntmps14;go_upto_region 1 with fail
 refine Xk.bL 5 [] trivial (by kernel_rfl) (by kernel_rfl) ?_;simp only[aA,aS,aG,aT];(refine Xk.ay (Xk.an (by rfl)) (by rfl) (λK hK=>?_);refine⟨.agg l.toArray,λp hp=>Xk.bZ 40 _ rfl w.heap.size l.toArray 40 (0,0) _ rfl (HG.out p) av rfl HSZ.out,?_⟩;(go_simp;refine hK _ ?_;clear hK K))
 (refine Xk.ay (Xk.an (by rfl)) (by rfl) (λK hK=>?_);refine⟨.agg l.toArray,λp hp=>Xk.bZ 40 _ rfl w.heap.size l.toArray 40 (0,0) _ rfl (HG.out p) av rfl HSZ.out,?_⟩;(go_simp;refine hK _ ?_;clear hK K))
 repeat(first
  | (refine Xk.ay (Xk.an (by rfl)) (by rfl) (λK hK=>?_);apply ai;refine⟨λp hp=>?_,?_⟩;(go_simp;first|exact⟨rfl,rfl⟩|((try refine⟨by kernel_rfl,?_⟩);(first|(go_at_call 33;((with_reducible refine(HK.out _).mono ?_);exact λe w' h=>h))|(go_at_call 32;((with_reducible refine(HS.out _).mono ?_);exact λe w' h=>h)))));(go_simp;refine hK _ ?_;clear hK K))
  | (refine Xk.bu (by rfl) (λK hK=>?_);go_simp;refine hK _ ?_;clear hK K)
  | (refine Xk.ay (by rfl) (by rfl) (λK hK=>?_);apply ai;refine⟨λp hp=>?_,?_⟩;(go_simp;first|exact⟨rfl,rfl⟩|((try refine⟨by kernel_rfl,?_⟩);(first|(go_at_call 33;((with_reducible refine(HK.out _).mono ?_);exact λe w' h=>h))|(go_at_call 32;((with_reducible refine(HS.out _).mono ?_);exact λe w' h=>h)))));(go_simp;refine hK _ ?_;clear hK K)))
 refine Xk.bm (λp _=>?_);obtain⟨W2,hW2⟩:∃W2,W2=Xk.exw (w.alloc (.cells l.toArray 40)).drew p:=⟨_,rfl⟩;have hx1:Xk.Ext (w.alloc (.cells l.toArray 40)) W2:=by rw[hW2];exact Xk.xt
 rw[← hW2];clear hW2 HK HS HG;have HX1:=aa hx1;have lt2:w.heap.size<W2.heap.size:=by have:=hx1.size;rw[af]at this;omega
 have kc:=aZ hx1 0 (.int .i64 kind) (by rw[HL.out];rfl);clear hx1;have hb2:=wy HX1.out;go_wp2_with (refine aE rfl 40 _ rfl w.heap.size _ 40 (0,0) _ rfl hb2 av rfl HSZ.out ?_);refine(HQ.out _ (bG HX1.out)).mono ?_;rintro e w5 ⟨rfl,hx5⟩;go_wp2_with fail;go_ret;exact⟨rfl,Xk.Ext.trans (bG HX1.out) hx5⟩
theorem Kh(kind:Int)(hk:kind=9∨kind=10∨kind=11)(l:List Value)(hl:l=iK kind 0)(w:World)
  (hK:∀W,Calls ab 33 #[.agg l.toArray] W λe w'=>e = .returned (.agg l.toArray)/\Xk.Ext W w')
  (hS:∀W,Calls ab 32 #[.agg l.toArray,.agg l.toArray] W λe w'=>e = .returned (.bool true)/\Xk.Ext W w') :
  Calls ab 14 #[.agg l.toArray] w λe w'=>e = .returned (.bool true)/\Xk.Ext w w':=by
 have HK:=aa hK;have HS:=aa hS;clear hK hS;have hn1:(kind==1)=false:=by rcases hk with rfl|rfl|rfl<;>rfl
 have hn2:(kind==2)=false:=by rcases hk with rfl|rfl|rfl<;>rfl
 have hn3:(kind==3)=false:=by rcases hk with rfl|rfl|rfl<;>rfl
 have hn4:(kind==4)=false:=by rcases hk with rfl|rfl|rfl<;>rfl
 have hn5:(kind==5)=false:=by rcases hk with rfl|rfl|rfl<;>rfl
 have hn6:(kind==6)=false:=by rcases hk with rfl|rfl|rfl<;>rfl
 have hn7:(kind==7)=false:=by rcases hk with rfl|rfl|rfl<;>rfl
 have hn8:(kind==8)=false:=by rcases hk with rfl|rfl|rfl<;>rfl
 have h9:9≤kind:=by rcases hk with rfl|rfl|rfl<;>decide
 have h11:kind≤11:=by rcases hk with rfl|rfl|rfl<;>decide
 clear hk;have hlen:l.length=37:=by rw[hl];rfl
 have HSZ:Hid ((ab.info? 40).map (·.size)=some l.toArray.size):=aa (by rw[ar,hlen];kernel_rfl);have HLEN:=aa hlen;have HL:=aa hl;have HG:Hid (∀p,(Xk.exw (w.alloc (.cells l.toArray 40)).drew p).heap[w.heap.size]?=some (.cells l.toArray 40)):=aa λp=>((Xk.cm _ p).block _ (by rw[cQ,af];omega)).trans (az w _);clear hl hlen;go_enter Tryz.func14,Tryz.ntmps14;go_upto_region 1 with fail
 refine Xk.bL 5 [] trivial (by kernel_rfl) (by kernel_rfl) ?_;simp only[aA,aS,aG,aT];(refine Xk.ay (Xk.an (by rfl)) (by rfl) (λK hK=>?_);refine⟨.agg l.toArray,λp hp=>Xk.bZ 40 _ rfl w.heap.size l.toArray 40 (0,0) _ rfl (HG.out p) av rfl HSZ.out,?_⟩;(go_simp;refine hK _ ?_;clear hK K))
 (refine Xk.ay (Xk.an (by rfl)) (by rfl) (λK hK=>?_);refine⟨.agg l.toArray,λp hp=>Xk.bZ 40 _ rfl w.heap.size l.toArray 40 (0,0) _ rfl (HG.out p) av rfl HSZ.out,?_⟩;(go_simp;refine hK _ ?_;clear hK K))
 repeat(first
  | (refine Xk.ay (Xk.an (by rfl)) (by rfl) (λK hK=>?_);apply ai;refine⟨λp hp=>?_,?_⟩;(go_simp;first|exact⟨rfl,rfl⟩|((try refine⟨by kernel_rfl,?_⟩);(first|(go_at_call 33;((with_reducible refine(HK.out _).mono ?_);exact λe w' h=>h))|(go_at_call 32;((with_reducible refine(HS.out _).mono ?_);exact λe w' h=>h)))));(go_simp;refine hK _ ?_;clear hK K))
  | (refine Xk.bu (by rfl) (λK hK=>?_);go_simp;refine hK _ ?_;clear hK K)
  | (refine Xk.ay (by rfl) (by rfl) (λK hK=>?_);apply ai;refine⟨λp hp=>?_,?_⟩;(go_simp;first|exact⟨rfl,rfl⟩|((try refine⟨by kernel_rfl,?_⟩);(first|(go_at_call 33;((with_reducible refine(HK.out _).mono ?_);exact λe w' h=>h))|(go_at_call 32;((with_reducible refine(HS.out _).mono ?_);exact λe w' h=>h)))));(go_simp;refine hK _ ?_;clear hK K)))
 refine Xk.bm (λp _=>?_);obtain⟨W2,hW2⟩:∃W2,W2=Xk.exw (w.alloc (.cells l.toArray 40)).drew p:=⟨_,rfl⟩;have hx1:Xk.Ext (w.alloc (.cells l.toArray 40)) W2:=by rw[hW2];exact Xk.xt
 rw[← hW2];clear hW2 HK HS HG;have HX1:=aa hx1;have lt2:w.heap.size<W2.heap.size:=by have:=hx1.size;rw[af]at this;omega
 have kc:=aZ hx1 0 (.int .i64 kind) (by rw[HL.out];rfl);clear hx1;go_wp2_with fail;go_ret;exact⟨rfl,bG HX1.out⟩
theorem AA(tn:P12.T)(hN:P12.isName tn=true)(p1 p2 p3 p4:Option Addr)(n1 n2 n3 c1 c2 c3 c4:Nat)(hlo:1≤n1+n2+n3)(hhi:n1+n2+n3≤16)(w:World)
  (hK:∀j,j<n2->∃g pr,p2=some ⟨g,0,none⟩/\w.rangeAt g (j*4) [.string ⟨#[]⟩,ah,.bool true,.bool pr])
  (hC:∀j,j<n2->∃g p n c,p4=some ⟨g,0,none⟩/\w.cell? ⟨g,j,none⟩=some (.slice p n c)/\∀W,Xk.Ext w W->Calls ab 40 #[.slice p n c,.int .i64 16,.func (.func 35) #[] #[]] W λe w'=>e = .returned (.bool true)/\Xk.Ext W w')
  (hQ:∀W,Xk.Ext w W->Calls ab 101 #[.slice p3 n3 c3,.func (.func 36) #[] #[]] W λe w'=>e = .returned (.bool true)/\Xk.Ext W w')
  (hT:∀W,Xk.Ext w W->Calls ab 102 #[.slice p1 n1 c1,.func (.func 103) #[] #[]] W λe w'=>e = .returned (.bool true)/\Xk.Ext W w') :
  Calls ab 39 #[.agg #[bs tn,.slice p1 n1 c1,.slice p2 n2 c2,.slice p3 n3 c3],.slice p4 n2 c4] w λe w'=>e = .returned (.bool true)/\Xk.Ext w w':=by
 have HN:=aa λW=>eb tn hN W;have HK:=aa hK;have HC:=aa hC;have HQ:=aa hQ;have HT:=aa hT;obtain⟨s,hs⟩:∃s:Nat,s=n1+n2+n3:=⟨_,rfl⟩;have hw1:IntKind.i64.wrap ((n1:Int)+(n2:Int))=(n1:Int)+(n2:Int):=pn _ (by omega);have hw2:IntKind.i64.wrap ((n1:Int)+(n2:Int)+(n3:Int))=(n1:Int)+(n2:Int)+(n3:Int):=pn _ (by omega);have b1:¬ ((n1:Int)+(n2:Int)+(n3:Int)<1):=by omega
 have b2:¬ (16<(n1:Int)+(n2:Int)+(n3:Int)):=by omega
 clear hN hK hC hQ hT hs;go_enter Tryz.func39,Tryz.ntmps39;go_wp2_with fail;clear hw1 hw2;refine(HN.out _).mono ?_;rintro e w1 ⟨rfl,hx1⟩;have q0:=aZ (l := [bs tn,.slice p1 n1 c1,.slice p2 n2 c2,.slice p3 n3 c3]) hx1 2 (.slice p2 n2 c2) rfl;have HX1:=aa hx1;clear hx1;go_wp2_with fail;go_loopw [42] (λx wr=>∃q:Nat,q≤n2/\x = .int .i64 q/\Xk.Ext (w.alloc (.cells [bs tn,.slice p1 n1 c1,.slice p2 n2 c2,.slice p3 n3 c3].toArray 27)) wr) (λx _=>n2-(intOf x).toNat)
 case atStart=>exact⟨0,by omega,rfl,HX1.out⟩
 case round=>
  obtain⟨q,hq,rfl,hx⟩:=hrel;have HX:=aa hx;clear hx q0;by_cases hlt:q<n2
  ·obtain⟨gk,pr,rfl,hrk⟩:=HK.out q hlt;obtain⟨gc,pc,nc,cc,rfl,hcc,hsm⟩:=HC.out q hlt;have lk:gk<w.heap.size:=al _ _ (hrk 0 _ rfl);have lc:gc<w.heap.size:=al _ _ hcc;have hsz:=(bG HX.out).size;have lk2:gk<wr.heap.size:=by omega
   have lc2:gc<wr.heap.size:=by omega
   have HRJ:=aa (cI hrk ((bG HX.out).block gk lk));have kc:=Xk.bn (bG HX.out) hcc;have hlb:(q:Int)<(n2:Int):=by omega
   have HSM:=aa hsm;clear hsm hrk hcc;go_wp2_with (refine wpList_load_mid rfl 139 _ rfl gk (q*4) rfl _ _ HRJ.out wH rfl (by kernel_rfl) ?_);refine(HSM.out _ (Xk.Ext.trans (bG HX.out) (dz _ _))).mono ?_;rintro e w2 ⟨rfl,hx2⟩;go_wp2_with fail;go_roundw
   case rel=>exact⟨q+1,by omega,by go_num,Xk.Ext.trans HX.out (Xk.Ext.trans (dz _ _) hx2)⟩
   case measure=>simp[intOf];omega
  ·have hlb:¬ (q:Int)<(n2:Int):=by omega
   have r3:=aZ HX.out 3 (.slice p3 n3 c3) rfl;go_wp2_with fail;refine(HQ.out _ (bG HX.out)).mono ?_;rintro e w2 ⟨rfl,hx2⟩;have HX2:=aa (Xk.Ext.trans HX.out hx2);clear hx2 r3;have r1:=aZ HX2.out 1 (.slice p1 n1 c1) rfl;go_wp2_with fail;refine(HT.out _ (bG HX2.out)).mono ?_;rintro e w3 ⟨rfl,hx3⟩;go_wp2_with fail;go_ret;exact⟨rfl,Xk.Ext.trans (bG HX2.out) hx3⟩
theorem aH.none{α:Type}{S:Nat->Prop}{w:World}{sz:Nat}{R:α->List Value->Prop}{v:Value}{l:List α}(h:aH S w sz R l v)(hl:l = []):v=ah:=by
 subst hl;rcases h with⟨-,rfl⟩|⟨g,c,us,-,-,h0,-⟩
 ·rfl
 ·simp at h0
theorem aF.zero{S:Nat->Prop}{w:World}{e:P12.E}{l:List Value}(h:aF S w e l)(he:e = .none):l=noE:=by
 subst he;exact h
theorem aH.iQ{α:Type}{S:Nat->Prop}{w W:World}{sz:Nat}{R:α->List Value->Prop}{l:List α}{v:Value}(h:aH S w sz R l v)(hx:Xk.Ext w W):aH S W sz R l v:=h.bC (λb _ hl=>hx.block b hl) (λb hb _=>hb) (λ_ _ h=>h)
theorem dD{α:Type}{l:List α}{m:Nat}{p:α->Bool}(h:P12.some l m p=true):(1≤l.length/\l.length≤m)/\∀x∈l,p x=true:=by
 simp only[P12.some,aq,decide_eq_true_eq,bA]at h;exact⟨h.1,h.2⟩
theorem pA{S:Nat->Prop}{w:World}{l:List P12.T}{v:Value}(h:aH S w 1 oO l v)(hs:P12.some l 16 P12.isName=true)(W:World)(hx:Xk.Ext w W):
  Calls ab 40 #[v,.int .i64 16,.func (.func 35) #[] #[]] W λe w'=>e = .returned (.bool true)/\Xk.Ext W w':=by
 obtain⟨h1,h2⟩:=dD hs
 exact GQ AT 16 W (h.iQ hx) h1 (by omega) (λx u _ hu=>⟨x,hu⟩) (λx a hm hu W' _=>by
  have:bs a=bs x:=by
   have hu' : [bs a] = [bs x]:=hu;injection hu'
  rw[this];exact eb x (h2 x hm) W')
theorem AO{S:Nat->Prop}{w:World}{l:List P12.E}{v:Value}(h:aH S w 10 (ez S w) l v)(hs:P12.some l 16 P12.isE=true)(W:World)(hx:Xk.Ext w W):
  Calls ab 38 #[v,.int .i64 16,.func (.func 36) #[] #[]] W λe w'=>e = .returned (.bool true)/\Xk.Ext W w':=by
 obtain⟨h1,h2⟩:=dD hs;exact Ea jr 16 W (h.iQ hx) h1 (by omega) (λx u _ hu=>aF.form hu) (λx _ _ _ _ _ _ _ _ _ _ hm hu W' hx'=>eX x (h2 x hm) S W' _ (aF.ik hu (Xk.Ext.trans hx hx')))
theorem Cv{S:Nat->Prop}{w:World}{l:List (List P12.E)}{v:Value}(h:aH S w 1 (xz S w) l v)(hs:P12.some l 32 (λr=>P12.some r 16 P12.isE)=true)(W:World)(hx:Xk.Ext w W):
  Calls ab 41 #[v,.int .i64 32,.func (.func 37) #[] #[]] W λe w'=>e = .returned (.bool true)/\Xk.Ext W w':=by
 obtain⟨h1,h2⟩:=dD hs
 exact GU I4 32 W (h.iQ hx) h1 (by omega) (λx u _ hu=>by
  obtain⟨v,rfl,hv⟩:=hu;obtain⟨p,c,rfl⟩:=hv.len;exact⟨_,_,_,rfl⟩) (λx pp pm pc hm hu W' hx'=>by
  obtain⟨v,e,hv⟩:=hu;have e2:mu pp pm pc=v:=by simpa using e
  subst e2;exact Kl pp pm pc W' (AO hv (h2 x hm) W' (Xk.Ext.trans hx hx')))
theorem Cn{S:Nat->Prop}{w:World}{l:List (P12.T×P12.E)}{v:Value}(h:aH S w 12 (xm S w) l v)(hs:P12.some l 16 (λs=>P12.isName s.1&&P12.isE s.2)=true)(W:World)(hx:Xk.Ext w W):
  Calls ab 42 #[v,.int .i64 16,.func (.func 34) #[] #[]] W λe w'=>e = .returned (.bool true)/\Xk.Ext W w':=by
 obtain⟨h1,h2⟩:=dD hs
 exact GS I3 16 W (h.iQ hx) h1 (by omega) (λx u _ hu=>by
  obtain⟨l,rfl,hl⟩:=hu;obtain⟨kd,op,vk,vi,vs,tb,nm,pp,pm,pc,rfl⟩:=hl.form;exact⟨x.1,kd,op,vk,vi,vs,tb,nm,pp,pm,pc,rfl⟩) (λx a kd op vk vi vs tb nm pp pm pc hm hu W' hx'=>by
  obtain⟨l,e,hl⟩:=hu;have e1:bs a=bs x.1:=by injection e
  have e2:au kd op vk vi vs tb nm (.slice pp pm pc)=l:=by
   have h:=congrArg (ub 2) e;exact h
  subst e2;have hp:=h2 x hm;simp only[aq]at hp;rw[e1];exact Kk x.1 kd op vk vi vs tb nm pp pm pc hp.1 W' λW2 hx2=>eX x.2 hp.2 S W2 _ (aF.ik hl (Xk.Ext.trans (Xk.Ext.trans hx hx') hx2)))
theorem Cm{S:Nat->Prop}{w:World}{l:List (P12.T×P12.T)}{v:Value}(h:aH S w 2 zF l v)(hs:P12.some l 2 (λs=>P12.isName s.1&&P12.cf s.2)=true)(W:World)(hx:Xk.Ext w W):
  Calls ab 112 #[v,.int .i64 2,.func (.func 109) #[] #[]] W λe w'=>e = .returned (.bool true)/\Xk.Ext W w':=by
 obtain⟨h1,h2⟩:=dD hs
 exact GR I2 2 W (h.iQ hx) h1 (by omega) (λx u _ hu=>⟨x.1,x.2,hu⟩) (λx a b hm hu W' _=>by
  have e1:bs a=bs x.1:=by injection hu
  have e2:bs b=bs x.2:=by
   have h:=congrArg (ub 1) hu;injection h
  have hp:=h2 x hm;simp only[aq]at hp;rw[e1,e2];exact Kj x.1 x.2 hp.1 hp.2 W')
theorem wz{a b:Bool}(h:bf a=bf b):a=b:=by injection h
theorem Az{S:Nat->Prop}{w:World}{l:List (Bool×P12.E×P12.T)}{v:Value}(h:aH S w 12 (nh S w) l v)(hs:P12.some l 16 P12.iF=true)(W:World)(hx:Xk.Ext w W):
  Calls ab 111 #[v,.int .i64 16,.func (.func 107) #[] #[]] W λe w'=>e = .returned (.bool true)/\Xk.Ext W w':=by
 obtain⟨h1,h2⟩:=dD hs
 exact D9 FQ 16 W (h.iQ hx) h1 (by omega) (λx u _ hu=>by
  obtain⟨l,rfl,hl⟩:=hu;obtain⟨kd,op,vk,vi,vs,tb,nm,pp,pm,pc,rfl⟩:=hl.form;exact⟨x.1,kd,op,vk,vi,vs,tb,nm,pp,pm,pc,x.2.2,rfl⟩) (λx b kd op vk vi vs tb nm pp pm pc a hm hu W' hx'=>by
  obtain⟨l,e,hl⟩:=hu;have e1:b=x.1:=wz (by injection e)
  have e3:au kd op vk vi vs tb nm (.slice pp pm pc)++ [bs a]=l ++ [bs x.2.2]:=by
   have h:=congrArg (ub 1) e;exact h
  obtain⟨e2,e4⟩:=nq e3 rfl;have e5:bs a=bs x.2.2:=by injection e4
  subst e2;have hp:=h2 x hm;obtain⟨xb,xe,xn⟩:=x;simp only at e1 e5 hl hp;subst e1;rw[e5]
  cases b
  ·simp only[P12.iF,aV,if_false,aq]at hp;exact IL xn kd op vk vi vs tb nm pp pm pc hp.2 W' λW2 hx2=>eX xe hp.1 S W2 _ (aF.ik hl (Xk.Ext.trans (Xk.Ext.trans hx hx') hx2))
  ·simp only[P12.iF,if_true,aq,beq_iff_eq]at hp;obtain⟨hp1,rfl⟩:=hp
   cases xe<;>first|cases hp1|skip
   unfold aF at hl;rw[hl];exact IK W')
theorem De{S:Nat->Prop}{w:World}{l:List P12.E}{v:Value}(h:aH S w 10 (ez S w) l v)(hl:l.length≤16)(hs:l.all P12.tD=true)(W:World)(hx:Xk.Ext w W):
  Calls ab 101 #[v,.func (.func 108) #[] #[]] W λe w'=>e = .returned (.bool true)/\Xk.Ext W w':=by
 refine ju Dk W (h.iQ hx) (by omega) (λx u _ hu=>aF.form hu) (λx kd op vk vi vs tb nm pp pm pc hm hu W' hx'=>?_);have hp:=bA.1 hs x hm
 cases x<;>first|cases hp|skip
 rename_i t n;have hu':au kd op vk vi vs tb nm (.slice pp pm pc)=au 2 0 0 0 [] t n ah:=hu;rw[hu'];exact Fg t n hp W'
theorem EH{S:Nat->Prop}{w:World}{l:List (P12.E×Bool)}{v:Value}(h:aH S w 11 (uk S w) l v)(hl:l.length≤16)(hs:l.all (λo=>P12.isE o.1)=true)(W:World)(hx:Xk.Ext w W):
  Calls ab 113 #[v,.func (.func 110) #[] #[]] W λe w'=>e = .returned (.bool true)/\Xk.Ext W w':=by
 refine Gr I5 W (h.iQ hx) (by omega) (λx u _ hu=>by
  obtain⟨l,rfl,hl⟩:=hu;obtain⟨kd,op,vk,vi,vs,tb,nm,pp,pm,pc,rfl⟩:=hl.form;exact⟨kd,op,vk,vi,vs,tb,nm,pp,pm,pc,x.2,rfl⟩) (λx kd op vk vi vs tb nm pp pm pc b hm hu W' hx'=>?_)
 obtain⟨l,e,hl⟩:=hu;obtain⟨e2,-⟩:=nq e rfl;subst e2;exact Km b kd op vk vi vs tb nm pp pm pc W' λW2 hx2=>eX x.1 (bA.1 hs x hm) S W2 _ (aF.ik hl (Xk.Ext.trans (Xk.Ext.trans hx hx') hx2))
theorem A6{S:Nat->Prop}{w:World}{l:List P12.E}{v:Value}(h:aH S w 10 (ez S w) l v)(hl:l.length≤16)(hs:l.all P12.isE=true)(W:World)(hx:Xk.Ext w W):
  Calls ab 101 #[v,.func (.func 36) #[] #[]] W λe w'=>e = .returned (.bool true)/\Xk.Ext W w':=
 ju jr W (h.iQ hx) (by omega) (λx u _ hu=>aF.form hu) (λx _ _ _ _ _ _ _ _ _ _ hm hu W' hx'=>eX x (bA.1 hs x hm) S W' _ (aF.ik hu (Xk.Ext.trans hx hx')))
theorem Gd{S:Nat->Prop}{w:World}{l:List (P12.T×Int×Bool)}{v:Value}(h:aH S w 3 tV l v)(hl:l.length≤16)(hs:l.all (λc=>P12.isName c.1&&decide (1≤c.2.1)&&decide (c.2.1≤3))=true)(W:World)(hx:Xk.Ext w W):
  Calls ab 102 #[v,.func (.func 103) #[] #[]] W λe w'=>e = .returned (.bool true)/\Xk.Ext W w':=by
 refine Gt I6 W (h.iQ hx) (by omega) (λx u _ hu=>⟨x.1,x.2.1,x.2.2,hu⟩) (λx a ty b hm hu W' hx'=>?_);have hp:=bA.1 hs x hm;simp only[aq,decide_eq_true_eq]at hp;have hu' : [bs a,.int .i64 ty,.bool b] = [bs x.1,.int .i64 x.2.1,.bool x.2.2]:=hu;rw[hu'];exact Ko x.1 x.2.1 x.2.2 hp.1.1 hp.1.2 hp.2 W'
theorem yU{S:Nat->Prop}{w:World}{e:P12.E}{l:List Value}(h:aF S w e l)(hm:P12.eW e=true):∃b,∀W,Calls ab 94 #[.agg l.toArray] W λr w'=>r = .returned (.bool b)/\Xk.Ext W w':=by
 cases hn:P12.noE e
 ·have hE:P12.isE e=true:=by simpa[P12.eW,hn]using hm
  obtain⟨kd,op,vk,vi,vs,tb,nm,pp,pm,pc,rfl,hk⟩:=h.kind hE;exact⟨false,λW=>tX kd op vk vi vs tb nm pp pm pc hk W⟩
 ·cases e<;>first|cases hn|skip
  unfold aF at h;subst h;exact⟨true,λW=>mV W⟩
theorem FC{S:Nat->Prop}{w:World}{x:P12.St}{l:List Value}{tc tk tq kc cols rows sets:Value}{wh:List Value}{items frm:Value}{jn:List Value}{grp ord:Value}(h:lM S w x l tc tk tq kc cols rows sets wh items frm jn grp ord)(hx:x=P12.eF x)(hk:x.kind=1):l=cA x.kind x.tb.name tc tk tq kc [] [] false ah ah ah noE ah ah noE ah ah 0:=by
 have e:x = { kind:=x.kind,tb:=x.tb,keyCols:=x.keyCols }:=hx.trans (by
  unfold P12.eF;rw[if_pos hk,hk])
 have z_name:x.name = []:=congrArg P12.St.name e;have z_on:x.on = []:=congrArg P12.St.on e;have z_unique:x.unique=false:=congrArg P12.St.unique e;have z_cols:x.cols = []:=congrArg P12.St.cols e;have z_rows:x.rows = []:=congrArg P12.St.rows e;have z_sets:x.sets = []:=congrArg P12.St.sets e;have z_wher:x.wher = .none:=congrArg P12.St.wher e;have z_items:x.items = []:=congrArg P12.St.items e;have z_frm:x.frm = []:=congrArg P12.St.frm e;have z_join:x.join = .none:=congrArg P12.St.join e;have z_group:x.group = []:=congrArg P12.St.group e;have z_order:x.order = []:=congrArg P12.St.order e
 have z_limit:x.limit=0:=congrArg P12.St.limit e;have s_cols:cols=ah:=h.cols.none (by rw[z_cols]);have s_rows:rows=ah:=h.rows.none (by rw[z_rows]);have s_sets:sets=ah:=h.sets.none (by rw[z_sets]);have s_items:items=ah:=h.items.none (by rw[z_items]);have s_frm:frm=ah:=h.frm.none (by rw[z_frm]);have s_grp:grp=ah:=h.grp.none (by rw[z_group]);have s_ord:ord=ah:=h.ord.none (by rw[z_order]);have s_wh:wh=noE:=h.wh.zero z_wher;have s_jn:jn=noE:=h.jn.zero z_join;rw[h.form,s_cols,s_rows,s_sets,s_items,s_frm,s_grp,s_ord,s_wh,s_jn,z_name,z_on,z_unique,z_limit]
theorem vZ{S:Nat->Prop}{w:World}{x:P12.St}{l:List Value}{tc tk tq kc cols rows sets:Value}{wh:List Value}{items frm:Value}{jn:List Value}{grp ord:Value}(h:lM S w x l tc tk tq kc cols rows sets wh items frm jn grp ord)(hx:x=P12.eF x)(hk:x.kind=2∨x.kind=4):l=cA x.kind [] ah ah ah ah x.name [] false ah ah ah noE ah ah noE ah ah 0:=by
 have e:x = { kind:=x.kind,name:=x.name }:=hx.trans (by
  unfold P12.eF;rw[if_neg (by omega),if_neg (by omega),if_neg (by omega),if_neg (by omega),if_neg (by omega),if_neg (by omega),if_pos hk])
 have z_tb:x.tb = {}:=congrArg P12.St.tb e;have z_keyCols:x.keyCols = []:=congrArg P12.St.keyCols e;have z_on:x.on = []:=congrArg P12.St.on e;have z_unique:x.unique=false:=congrArg P12.St.unique e;have z_cols:x.cols = []:=congrArg P12.St.cols e;have z_rows:x.rows = []:=congrArg P12.St.rows e;have z_sets:x.sets = []:=congrArg P12.St.sets e;have z_wher:x.wher = .none:=congrArg P12.St.wher e;have z_items:x.items = []:=congrArg P12.St.items e;have z_frm:x.frm = []:=congrArg P12.St.frm e;have z_join:x.join = .none:=congrArg P12.St.join e;have z_group:x.group = []:=congrArg P12.St.group e
 have z_order:x.order = []:=congrArg P12.St.order e;have z_limit:x.limit=0:=congrArg P12.St.limit e;have s_tc:tc=ah:=h.tc.none (by rw[z_tb]);have s_tk:tk=ah:=h.tk.none (by rw[z_tb]);have s_tq:tq=ah:=h.tq.none (by rw[z_tb]);have s_kc:kc=ah:=h.kc.none (by rw[z_keyCols]);have s_cols:cols=ah:=h.cols.none (by rw[z_cols]);have s_rows:rows=ah:=h.rows.none (by rw[z_rows]);have s_sets:sets=ah:=h.sets.none (by rw[z_sets]);have s_items:items=ah:=h.items.none (by rw[z_items]);have s_frm:frm=ah:=h.frm.none (by rw[z_frm]);have s_grp:grp=ah:=h.grp.none (by rw[z_group])
 have s_ord:ord=ah:=h.ord.none (by rw[z_order]);have s_wh:wh=noE:=h.wh.zero z_wher;have s_jn:jn=noE:=h.jn.zero z_join;rw[h.form,s_tc,s_tk,s_tq,s_kc,s_cols,s_rows,s_sets,s_items,s_frm,s_grp,s_ord,s_wh,s_jn,z_tb,z_on,z_unique,z_limit]
theorem FB{S:Nat->Prop}{w:World}{x:P12.St}{l:List Value}{tc tk tq kc cols rows sets:Value}{wh:List Value}{items frm:Value}{jn:List Value}{grp ord:Value}(h:lM S w x l tc tk tq kc cols rows sets wh items frm jn grp ord)(hx:x=P12.eF x)(hk:x.kind=3):l=cA x.kind [] ah ah ah ah x.name x.on x.unique cols ah ah noE ah ah noE ah ah 0:=by
 have e:x = { kind:=x.kind,name:=x.name,on:=x.on,unique:=x.unique,cols:=x.cols }:=hx.trans (by
  unfold P12.eF;rw[if_neg (by omega),if_pos hk,hk])
 have z_tb:x.tb = {}:=congrArg P12.St.tb e;have z_keyCols:x.keyCols = []:=congrArg P12.St.keyCols e;have z_rows:x.rows = []:=congrArg P12.St.rows e;have z_sets:x.sets = []:=congrArg P12.St.sets e;have z_wher:x.wher = .none:=congrArg P12.St.wher e;have z_items:x.items = []:=congrArg P12.St.items e;have z_frm:x.frm = []:=congrArg P12.St.frm e;have z_join:x.join = .none:=congrArg P12.St.join e;have z_group:x.group = []:=congrArg P12.St.group e;have z_order:x.order = []:=congrArg P12.St.order e;have z_limit:x.limit=0:=congrArg P12.St.limit e;have s_tc:tc=ah:=h.tc.none (by rw[z_tb])
 have s_tk:tk=ah:=h.tk.none (by rw[z_tb]);have s_tq:tq=ah:=h.tq.none (by rw[z_tb]);have s_kc:kc=ah:=h.kc.none (by rw[z_keyCols]);have s_rows:rows=ah:=h.rows.none (by rw[z_rows]);have s_sets:sets=ah:=h.sets.none (by rw[z_sets]);have s_items:items=ah:=h.items.none (by rw[z_items]);have s_frm:frm=ah:=h.frm.none (by rw[z_frm]);have s_grp:grp=ah:=h.grp.none (by rw[z_group]);have s_ord:ord=ah:=h.ord.none (by rw[z_order]);have s_wh:wh=noE:=h.wh.zero z_wher;have s_jn:jn=noE:=h.jn.zero z_join;rw[h.form,s_tc,s_tk,s_tq,s_kc,s_rows,s_sets,s_items,s_frm,s_grp,s_ord,s_wh,s_jn,z_tb,z_limit]
theorem FA{S:Nat->Prop}{w:World}{x:P12.St}{l:List Value}{tc tk tq kc cols rows sets:Value}{wh:List Value}{items frm:Value}{jn:List Value}{grp ord:Value}(h:lM S w x l tc tk tq kc cols rows sets wh items frm jn grp ord)(hx:x=P12.eF x)(hk:x.kind=5):l=cA x.kind [] ah ah ah ah x.name [] false cols rows ah noE ah ah noE ah ah 0:=by
 have e:x = { kind:=x.kind,name:=x.name,cols:=x.cols,rows:=x.rows }:=hx.trans (by
  unfold P12.eF;rw[if_neg (by omega),if_neg (by omega),if_pos hk,hk])
 have z_tb:x.tb = {}:=congrArg P12.St.tb e;have z_keyCols:x.keyCols = []:=congrArg P12.St.keyCols e;have z_on:x.on = []:=congrArg P12.St.on e;have z_unique:x.unique=false:=congrArg P12.St.unique e;have z_sets:x.sets = []:=congrArg P12.St.sets e;have z_wher:x.wher = .none:=congrArg P12.St.wher e;have z_items:x.items = []:=congrArg P12.St.items e;have z_frm:x.frm = []:=congrArg P12.St.frm e;have z_join:x.join = .none:=congrArg P12.St.join e;have z_group:x.group = []:=congrArg P12.St.group e;have z_order:x.order = []:=congrArg P12.St.order e;have z_limit:x.limit=0:=congrArg P12.St.limit e
 have s_tc:tc=ah:=h.tc.none (by rw[z_tb]);have s_tk:tk=ah:=h.tk.none (by rw[z_tb]);have s_tq:tq=ah:=h.tq.none (by rw[z_tb]);have s_kc:kc=ah:=h.kc.none (by rw[z_keyCols]);have s_sets:sets=ah:=h.sets.none (by rw[z_sets]);have s_items:items=ah:=h.items.none (by rw[z_items]);have s_frm:frm=ah:=h.frm.none (by rw[z_frm]);have s_grp:grp=ah:=h.grp.none (by rw[z_group]);have s_ord:ord=ah:=h.ord.none (by rw[z_order]);have s_wh:wh=noE:=h.wh.zero z_wher;have s_jn:jn=noE:=h.jn.zero z_join;rw[h.form,s_tc,s_tk,s_tq,s_kc,s_sets,s_items,s_frm,s_grp,s_ord,s_wh,s_jn,z_tb,z_on,z_unique,z_limit]
theorem Fy{S:Nat->Prop}{w:World}{x:P12.St}{l:List Value}{tc tk tq kc cols rows sets:Value}{wh:List Value}{items frm:Value}{jn:List Value}{grp ord:Value}(h:lM S w x l tc tk tq kc cols rows sets wh items frm jn grp ord)(hx:x=P12.eF x)(hk:x.kind=6):l=cA x.kind [] ah ah ah ah x.name [] false ah ah sets wh ah ah noE ah ah 0:=by
 have e:x = { kind:=x.kind,name:=x.name,sets:=x.sets,wher:=x.wher }:=hx.trans (by
  unfold P12.eF;rw[if_neg (by omega),if_neg (by omega),if_neg (by omega),if_pos hk,hk])
 have z_tb:x.tb = {}:=congrArg P12.St.tb e;have z_keyCols:x.keyCols = []:=congrArg P12.St.keyCols e;have z_on:x.on = []:=congrArg P12.St.on e;have z_unique:x.unique=false:=congrArg P12.St.unique e;have z_cols:x.cols = []:=congrArg P12.St.cols e;have z_rows:x.rows = []:=congrArg P12.St.rows e;have z_items:x.items = []:=congrArg P12.St.items e;have z_frm:x.frm = []:=congrArg P12.St.frm e;have z_join:x.join = .none:=congrArg P12.St.join e;have z_group:x.group = []:=congrArg P12.St.group e;have z_order:x.order = []:=congrArg P12.St.order e;have z_limit:x.limit=0:=congrArg P12.St.limit e
 have s_tc:tc=ah:=h.tc.none (by rw[z_tb]);have s_tk:tk=ah:=h.tk.none (by rw[z_tb]);have s_tq:tq=ah:=h.tq.none (by rw[z_tb]);have s_kc:kc=ah:=h.kc.none (by rw[z_keyCols]);have s_cols:cols=ah:=h.cols.none (by rw[z_cols]);have s_rows:rows=ah:=h.rows.none (by rw[z_rows]);have s_items:items=ah:=h.items.none (by rw[z_items]);have s_frm:frm=ah:=h.frm.none (by rw[z_frm]);have s_grp:grp=ah:=h.grp.none (by rw[z_group]);have s_ord:ord=ah:=h.ord.none (by rw[z_order]);have s_jn:jn=noE:=h.jn.zero z_join;rw[h.form,s_tc,s_tk,s_tq,s_kc,s_cols,s_rows,s_items,s_frm,s_grp,s_ord,s_jn,z_tb,z_on,z_unique,z_limit]
theorem AL{S:Nat->Prop}{w:World}{x:P12.St}{l:List Value}{tc tk tq kc cols rows sets:Value}{wh:List Value}{items frm:Value}{jn:List Value}{grp ord:Value}(h:lM S w x l tc tk tq kc cols rows sets wh items frm jn grp ord)(hx:x=P12.eF x)(hk:x.kind=7):l=cA x.kind [] ah ah ah ah x.name [] false ah ah ah wh ah ah noE ah ah 0:=by
 have e:x = { kind:=x.kind,name:=x.name,wher:=x.wher }:=hx.trans (by
  unfold P12.eF;rw[if_neg (by omega),if_neg (by omega),if_neg (by omega),if_neg (by omega),if_pos hk,hk])
 have z_tb:x.tb = {}:=congrArg P12.St.tb e;have z_keyCols:x.keyCols = []:=congrArg P12.St.keyCols e;have z_on:x.on = []:=congrArg P12.St.on e;have z_unique:x.unique=false:=congrArg P12.St.unique e;have z_cols:x.cols = []:=congrArg P12.St.cols e;have z_rows:x.rows = []:=congrArg P12.St.rows e;have z_sets:x.sets = []:=congrArg P12.St.sets e;have z_items:x.items = []:=congrArg P12.St.items e;have z_frm:x.frm = []:=congrArg P12.St.frm e;have z_join:x.join = .none:=congrArg P12.St.join e;have z_group:x.group = []:=congrArg P12.St.group e;have z_order:x.order = []:=congrArg P12.St.order e
 have z_limit:x.limit=0:=congrArg P12.St.limit e;have s_tc:tc=ah:=h.tc.none (by rw[z_tb]);have s_tk:tk=ah:=h.tk.none (by rw[z_tb]);have s_tq:tq=ah:=h.tq.none (by rw[z_tb]);have s_kc:kc=ah:=h.kc.none (by rw[z_keyCols]);have s_cols:cols=ah:=h.cols.none (by rw[z_cols]);have s_rows:rows=ah:=h.rows.none (by rw[z_rows]);have s_sets:sets=ah:=h.sets.none (by rw[z_sets]);have s_items:items=ah:=h.items.none (by rw[z_items]);have s_frm:frm=ah:=h.frm.none (by rw[z_frm]);have s_grp:grp=ah:=h.grp.none (by rw[z_group]);have s_ord:ord=ah:=h.ord.none (by rw[z_order]);have s_jn:jn=noE:=h.jn.zero z_join
 rw[h.form,s_tc,s_tk,s_tq,s_kc,s_cols,s_rows,s_sets,s_items,s_frm,s_grp,s_ord,s_jn,z_tb,z_on,z_unique,z_limit]
theorem AK{S:Nat->Prop}{w:World}{x:P12.St}{l:List Value}{tc tk tq kc cols rows sets:Value}{wh:List Value}{items frm:Value}{jn:List Value}{grp ord:Value}(h:lM S w x l tc tk tq kc cols rows sets wh items frm jn grp ord)(hx:x=P12.eF x)(hk:x.kind=8):l=cA x.kind [] ah ah ah ah [] [] false ah ah ah wh items frm jn grp ord x.limit:=by
 have e:x = { kind:=x.kind,items:=x.items,frm:=x.frm,join:=x.join,wher:=x.wher,group:=x.group,order:=x.order,limit:=x.limit }:=hx.trans (by
  unfold P12.eF;rw[if_neg (by omega),if_neg (by omega),if_neg (by omega),if_neg (by omega),if_neg (by omega),if_pos hk,hk])
 have z_tb:x.tb = {}:=congrArg P12.St.tb e;have z_keyCols:x.keyCols = []:=congrArg P12.St.keyCols e;have z_name:x.name = []:=congrArg P12.St.name e;have z_on:x.on = []:=congrArg P12.St.on e;have z_unique:x.unique=false:=congrArg P12.St.unique e;have z_cols:x.cols = []:=congrArg P12.St.cols e;have z_rows:x.rows = []:=congrArg P12.St.rows e;have z_sets:x.sets = []:=congrArg P12.St.sets e;have s_tc:tc=ah:=h.tc.none (by rw[z_tb]);have s_tk:tk=ah:=h.tk.none (by rw[z_tb]);have s_tq:tq=ah:=h.tq.none (by rw[z_tb]);have s_kc:kc=ah:=h.kc.none (by rw[z_keyCols])
 have s_cols:cols=ah:=h.cols.none (by rw[z_cols]);have s_rows:rows=ah:=h.rows.none (by rw[z_rows]);have s_sets:sets=ah:=h.sets.none (by rw[z_sets]);rw[h.form,s_tc,s_tk,s_tq,s_kc,s_cols,s_rows,s_sets,z_tb,z_name,z_on,z_unique]
theorem vY{S:Nat->Prop}{w:World}{x:P12.St}{l:List Value}{tc tk tq kc cols rows sets:Value}{wh:List Value}{items frm:Value}{jn:List Value}{grp ord:Value}(h:lM S w x l tc tk tq kc cols rows sets wh items frm jn grp ord)(hx:x=P12.eF x)(hk:x.kind=9∨x.kind=10∨x.kind=11):l=cA x.kind [] ah ah ah ah [] [] false ah ah ah noE ah ah noE ah ah 0:=by
 have e:x = { kind:=x.kind }:=hx.trans (by
  unfold P12.eF;rw[if_neg (by omega),if_neg (by omega),if_neg (by omega),if_neg (by omega),if_neg (by omega),if_neg (by omega),if_neg (by omega)])
 have z_tb:x.tb = {}:=congrArg P12.St.tb e;have z_keyCols:x.keyCols = []:=congrArg P12.St.keyCols e;have z_name:x.name = []:=congrArg P12.St.name e;have z_on:x.on = []:=congrArg P12.St.on e;have z_unique:x.unique=false:=congrArg P12.St.unique e;have z_cols:x.cols = []:=congrArg P12.St.cols e;have z_rows:x.rows = []:=congrArg P12.St.rows e;have z_sets:x.sets = []:=congrArg P12.St.sets e;have z_wher:x.wher = .none:=congrArg P12.St.wher e;have z_items:x.items = []:=congrArg P12.St.items e;have z_frm:x.frm = []:=congrArg P12.St.frm e;have z_join:x.join = .none:=congrArg P12.St.join e
 have z_group:x.group = []:=congrArg P12.St.group e;have z_order:x.order = []:=congrArg P12.St.order e;have z_limit:x.limit=0:=congrArg P12.St.limit e;have s_tc:tc=ah:=h.tc.none (by rw[z_tb]);have s_tk:tk=ah:=h.tk.none (by rw[z_tb]);have s_tq:tq=ah:=h.tq.none (by rw[z_tb]);have s_kc:kc=ah:=h.kc.none (by rw[z_keyCols]);have s_cols:cols=ah:=h.cols.none (by rw[z_cols]);have s_rows:rows=ah:=h.rows.none (by rw[z_rows]);have s_sets:sets=ah:=h.sets.none (by rw[z_sets]);have s_items:items=ah:=h.items.none (by rw[z_items]);have s_frm:frm=ah:=h.frm.none (by rw[z_frm])
 have s_grp:grp=ah:=h.grp.none (by rw[z_group]);have s_ord:ord=ah:=h.ord.none (by rw[z_order]);have s_wh:wh=noE:=h.wh.zero z_wher;have s_jn:jn=noE:=h.jn.zero z_join;rw[h.form,s_tc,s_tk,s_tq,s_kc,s_cols,s_rows,s_sets,s_items,s_frm,s_grp,s_ord,s_wh,s_jn,z_tb,z_name,z_on,z_unique,z_limit]
theorem vE{S:Nat->Prop}{w:World}{x:P12.St}{l:List Value}{tc tk tq kc cols rows sets:Value}{wh:List Value}{items frm:Value}{jn:List Value}{grp ord:Value}(h:lM S w x l tc tk tq kc cols rows sets wh items frm jn grp ord)
  (hw:P12.eW x.wher=true) (hj:P12.eW x.join=true) (W:World):Calls ab 32 #[.agg l.toArray,.agg l.toArray] W λe w'=>e = .returned (.bool true)/\Xk.Ext W w':=by
 obtain⟨b1,hb1⟩:=yU h.wh hw;obtain⟨b2,hb2⟩:=yU h.jn hj;have hl:=h.form;obtain⟨p1,c1,rfl⟩:=h.tc.len;obtain⟨p2,c2,rfl⟩:=h.tk.len;obtain⟨p3,c3,rfl⟩:=h.tq.len;obtain⟨p4,c4,rfl⟩:=h.kc.len;obtain⟨p5,c5,rfl⟩:=h.cols.len;obtain⟨p6,c6,rfl⟩:=h.rows.len;obtain⟨p7,c7,rfl⟩:=h.sets.len;obtain⟨p8,c8,rfl⟩:=h.items.len;obtain⟨p9,c9,rfl⟩:=h.frm.len;obtain⟨p10,c10,rfl⟩:=h.grp.len;obtain⟨p11,c11,rfl⟩:=h.ord.len;obtain⟨k1,o1,vk1,vi1,vs1,tb1,nm1,q1,m1,d1,rfl⟩:=h.wh.form;obtain⟨k2,o2,vk2,vi2,vs2,tb2,nm2,q2,m2,d2,rfl⟩:=h.jn.form
 exact Cs _ _ _ _ _ _ p1 p2 p3 p4 p5 p6 p7 p8 p9 p10 p11 _ _ _ _ _ _ _ _ _ _ _ c1 c2 c3 c4 c5 c6 c7 c8 c9 c10 c11 k1 o1 vk1 vi1 vs1 tb1 nm1 q1 m1 d1 k2 o2 vk2 vi2 vs2 tb2 nm2 q2 m2 d2 b1 b2 l hl hb1 hb2 W
theorem lK{e:P12.E}(h:e = .none):P12.eW e=true:=by subst h;rfl
theorem xT{e:P12.E}(h:P12.isE e=true):P12.eW e=true:=by simp[P12.eW,h]
theorem nD{α:Type}{S:Nat->Prop}{w:World}{sz:Nat}{R:α->List Value->Prop}{l:List α}{p:Option Addr}{n c:Nat}(h:aH S w sz R l (.slice p n c)){j:Nat}(hj:j<l.length):∃g u,p=some ⟨g,0,none⟩/\R l[j] u/\w.rangeAt g (j*sz) u:=by
 obtain⟨g,rfl⟩:=h.root (by omega);obtain⟨-,-,he⟩:=h.elem;obtain⟨u,hu,-,hr⟩:=he j _ (aU hj);exact⟨g,u,rfl,hu,hr⟩
theorem oF{x:P12.St}(hs:P12.isS x):P12.eW x.wher=true/\P12.eW x.join=true:=by
 obtain⟨hx,hk⟩:=hs
 have hz:x.kind≠6->x.kind≠7->x.kind≠8->x.wher = .none:=λh6 h7 h8=>by
  rw[hx];unfold P12.eF;(repeat' split)<;>first|rfl|(exfalso;omega)
 have hz2:x.kind≠8->x.join = .none:=λh8=>by
  rw[hx];unfold P12.eF;(repeat' split)<;>first|rfl|(exfalso;omega)
 rcases hk with⟨hk,-⟩|⟨hk,-⟩|⟨hk,-⟩|⟨hk,-⟩|⟨hk,-⟩|⟨hk,-,-,h⟩|⟨hk,-,h⟩|⟨hk,h⟩|hk|hk|hk
 all_goals first
  | exact⟨lK (hz (by omega) (by omega) (by omega)),lK (hz2 (by omega))⟩
  | exact⟨h,lK (hz2 (by omega))⟩
  | skip
 simp only[P12.nG,aq]at h;refine⟨h.1.1.1.1.1.1.1.2,?_⟩;have hj:=h.1.1.1.1.1.1.2;split at hj
 ·exact xT hj
 ·cases hj2:x.join<;>rw[hj2]at hj<;>first|rfl|cases hj
theorem qU{x:P12.St}(hs:P12.isS x)(hk:x.kind=8):P12.nG x=true:=by
 obtain⟨-,h⟩:=hs;rcases h with⟨hk',-⟩|⟨hk',-⟩|⟨hk',-⟩|⟨hk',-⟩|⟨hk',-⟩|⟨hk',-⟩|⟨hk',-⟩|⟨hk',h⟩|hk'|hk'|hk'
 all_goals first|exact h|(exfalso;omega)
theorem Jr(x:P12.St)(hs:P12.isS x)(hk:x.kind=8)(S:Nat->Prop)(w:World)(l:List Value)(h:dn S w x l):Calls ab 14 #[.agg l.toArray] w λe w'=>e = .returned (.bool true)/\Xk.Ext w w':=by
 obtain⟨hwm,hjm⟩:=oF hs;have ho:=qU hs hk;obtain⟨tc,tk,tq,kc,cols,rows,sets,wh,items,frm,jn,grp,ord,h⟩:=h;have hSame:=λW=>vE h hwm hjm W;have hx:=hs.1;have hl:=AK h hx hk;simp only[P12.nG,aq,decide_eq_true_eq]at ho;obtain⟨⟨⟨⟨⟨⟨⟨⟨⟨a1,a2⟩,a3⟩,a4⟩,a5⟩,a6⟩,a7⟩,a8⟩,a9⟩,a10⟩:=ho;have e1:=λW hx'=>Az h.items a1 W hx';have e2:=λW hx'=>Cm h.frm a2 W hx';have e3:=λW (hx':Xk.Ext w W)=>mK x.wher a3 S W wh (aF.ik h.wh hx');have e5:=λW hx'=>De h.grp a5 a6 W hx';have e6:=λW hx'=>EH h.ord a7 a8 W hx';have e7:=(dD a2).1;have e8:=h.jn;obtain⟨p1,c1,rfl⟩:=h.items.len;obtain⟨p2,c2,rfl⟩:=h.frm.len
 obtain⟨p3,c3,rfl⟩:=h.grp.len;obtain⟨p4,c4,rfl⟩:=h.ord.len;obtain⟨kw,ow,vkw,viw,vsw,tbw,nmw,qw,mw,dw,rfl⟩:=h.wh.form;by_cases h2:x.frm.length=2
 ·rw[if_pos h2]at a4;have e4:=λW (hx':Xk.Ext w W)=>eX x.join a4 S W jn (aF.ik h.jn hx');obtain⟨kj,oj,vkj,vij,vsj,tbj,nmj,qj,mj,dj,rfl⟩:=h.jn.form;rw[h2]at hl e2
  exact Ff _ _ hk p1 p2 p3 p4 _ c1 2 c2 _ c3 _ c4 kw ow vkw viw vsw tbw nmw qw mw dw kj oj vkj vij vsj tbj nmj qj mj dj l hl w
   (λW hx'=>vT _ _ p1 p2 p3 p4 _ c1 c2 _ c3 _ c4 kw ow vkw viw vsw tbw nmw qw mw dw kj oj vkj vij vsj tbj nmj qj mj dj a5 a7 a9 l hl W (λW2 h2=>e1 W2 (Xk.Ext.trans hx' h2)) (λW2 h2=>e2 W2 (Xk.Ext.trans hx' h2)) (λW2 h2=>e3 W2 (Xk.Ext.trans hx' h2)) (λW2 h2=>e4 W2 (Xk.Ext.trans hx' h2)) (λW2 h2=>e5 W2 (Xk.Ext.trans hx' h2)) (λW2 h2=>e6 W2 (Xk.Ext.trans hx' h2)))
   (λW=>yc _ _ hk p1 p2 p3 p4 _ c1 2 c2 _ c3 _ c4 kw ow vkw viw vsw tbw nmw qw mw dw kj oj vkj vij vsj tbj nmj qj mj dj l hl W) hSame
 ·rw[if_neg h2]at a4;have h1:x.frm.length=1:=by omega
  have hj:x.join = .none:=by cases hj2:x.join<;>rw[hj2]at a4<;>first|rfl|cases a4
  have hjn:=h.jn.zero hj;subst hjn;rw[h1]at hl e2
  exact Ff _ _ hk p1 p2 p3 p4 _ c1 1 c2 _ c3 _ c4 kw ow vkw viw vsw tbw nmw qw mw dw 0 0 0 0 [] [] [] none 0 0 l hl w
   (λW hx'=>vU _ _ p1 p2 p3 p4 _ c1 c2 _ c3 _ c4 kw ow vkw viw vsw tbw nmw qw mw dw a5 a7 a9 l hl W (λW2 h2=>e1 W2 (Xk.Ext.trans hx' h2)) (λW2 h2=>e2 W2 (Xk.Ext.trans hx' h2)) (λW2 h2=>e3 W2 (Xk.Ext.trans hx' h2)) (λW2 h2=>e5 W2 (Xk.Ext.trans hx' h2)) (λW2 h2=>e6 W2 (Xk.Ext.trans hx' h2)))
   (λW=>yc _ _ hk p1 p2 p3 p4 _ c1 1 c2 _ c3 _ c4 kw ow vkw viw vsw tbw nmw qw mw dw 0 0 0 0 [] [] [] none 0 0 l hl W) hSame
theorem BI(x:P12.St)(hs:P12.isS x)(S:Nat->Prop)(w:World)(l:List Value)(h:dn S w x l):Calls ab 14 #[.agg l.toArray] w λe w'=>e = .returned (.bool true)/\Xk.Ext w w':=by
 obtain⟨hwm,hjm⟩:=oF hs;have hh:=h;have hs0:=hs;obtain⟨tc,tk,tq,kc,cols,rows,sets,wh,items,frm,jn,grp,ord,h⟩:=h;have hSame:=λW=>vE h hwm hjm W;obtain⟨hx,hk⟩:=hs;rcases hk with⟨hk,ho⟩|⟨hk,ho⟩|⟨hk,ho⟩|⟨hk,h1,h2,h3⟩|⟨hk,h1,h2,h3⟩|⟨hk,h1,h2,h3⟩|⟨hk,h1,h2⟩|⟨hk,ho⟩|hk|hk|hk
 ·have hl:=FC h hx hk;obtain⟨p1,c1,rfl⟩:=h.tc.len;obtain⟨p2,c2,rfl⟩:=h.tk.len;obtain⟨p3,c3,rfl⟩:=h.tq.len;obtain⟨p4,c4,rfl⟩:=h.kc.len;simp only[P12.oV,aq,decide_eq_true_eq,beq_iff_eq,bA]at ho;obtain⟨⟨⟨⟨⟨⟨a1,a2⟩,a3⟩,a4⟩,a5⟩,a6⟩,a7⟩:=ho;refine Ki _ hk _ p1 p2 p3 p4 _ _ _ _ c1 c2 c3 c4 w l hl (λW hx'=>?_) (λW=>Fb _ hk _ p1 p2 p3 p4 _ _ _ _ c1 c2 c3 c4 l hl W) hSame;have hkc:=h.kc;rw[a4];rw[a4]at hkc
  refine AA _ a1 p1 p2 p3 p4 _ _ _ c1 c2 c3 c4 (by omega) (by omega) W (λj hj=>?_) (λj hj=>?_) (λW2 hx2=>A6 h.tq (by omega) (by simpa[bA]using a6) W2 (Xk.Ext.trans hx' hx2)) (λW2 hx2=>Gd h.tc (by omega) (by simpa[bA]using a7) W2 (Xk.Ext.trans hx' hx2))
  ·obtain⟨g,u,rfl,hu,hr⟩:=nD h.tk hj;have hu':u = [.string ⟨#[]⟩,ah,.bool true,.bool _]:=hu;subst hu';exact⟨g,_,rfl,cI hr (hx'.block g (al _ _ (hr 0 _ rfl)))⟩
  ·have hj2:j<x.keyCols.length:=by omega
   have hkc2:=h.kc;obtain⟨g,u,hp,hu,hr⟩:=nD hkc2 hj2;obtain⟨v,rfl,hv⟩:=hu;obtain⟨p,c,rfl⟩:=hv.len;have hc:=hr 0 _ rfl;rw[nk,jZ]at hc;exact⟨g,p,_,c,hp,Xk.bn hx' hc,λW2 hx2=>pA hv (a5 _ (cp hj2)) W2 (Xk.Ext.trans hx' hx2)⟩
 ·have hl:=vZ h hx (.inl hk);exact BK _ (.inl hk) _ ho l hl (λW=>uT _ (.inl hk) _ l hl W) hSame w
 ·have hl:=vZ h hx (.inr hk);exact BK _ (.inr hk) _ ho l hl (λW=>uT _ (.inr hk) _ l hl W) hSame w
 ·have hl:=FB h hx hk;have hn:=λW hx'=>pA h.cols h3 W hx';obtain⟨p1,c1,rfl⟩:=h.cols.len;exact Kn _ hk _ _ _ p1 _ c1 h1 h2 w l hl hn (λW=>Fc _ hk _ _ _ p1 _ c1 l hl W) hSame
 ·have hl:=FA h hx hk;have hr:=λW hx'=>Cv h.rows h3 W hx';obtain⟨p2,c2,rfl⟩:=h.rows.len;rcases h2 with h2|h2
  ·have hc:=h.cols.none h2;subst hc;exact IN _ hk _ h1 none p2 0 _ c2 w l hl hr (λW=>yd _ hk _ none p2 0 0 _ c2 l hl W) hSame
  ·have hn:=λW hx'=>pA h.cols h2 W hx';obtain⟨p1,c1,rfl⟩:=h.cols.len;exact IM _ hk _ h1 p1 p2 _ c1 _ c2 (dD h2).1.1 w l hl hn hr (λW=>yd _ hk _ p1 p2 _ c1 _ c2 l hl W) hSame
 ·have hl:=Fy h hx hk;have hn:=λW hx'=>Cn h.sets h2 W hx';have hm:=λW (hx':Xk.Ext w W)=>mK x.wher h3 S W wh (aF.ik h.wh hx');obtain⟨p1,c1,rfl⟩:=h.sets.len;obtain⟨k1,o1,vk1,vi1,vs1,tb1,nm1,q1,m1,d1,rfl⟩:=h.wh.form;exact Kg _ hk _ h1 p1 _ c1 k1 o1 vk1 vi1 vs1 tb1 nm1 q1 m1 d1 w l hl hn hm (λW=>E9 _ hk _ p1 _ c1 k1 o1 vk1 vi1 vs1 tb1 nm1 q1 m1 d1 l hl W) hSame
 ·have hl:=AL h hx hk;have hm:=λW (hx':Xk.Ext w W)=>mK x.wher h2 S W wh (aF.ik h.wh hx');obtain⟨k1,o1,vk1,vi1,vs1,tb1,nm1,q1,m1,d1,rfl⟩:=h.wh.form;exact Fh _ hk _ h1 k1 o1 vk1 vi1 vs1 tb1 nm1 q1 m1 d1 w l hl hm (λW=>ye _ hk _ k1 o1 vk1 vi1 vs1 tb1 nm1 q1 m1 d1 l hl W) hSame
 ·exact Jr x hs0 hk S w l hh
 all_goals
  have hk':x.kind=9∨x.kind=10∨x.kind=11:=by omega
  have hl:=vY h hx hk';exact Kh _ hk' l hl w (λW=>Fa _ hk' l hl W) hSame
theorem Ay(s:P12.T)(w:World):Calls ab 46 #[bs s] w λr w'=>r = .returned (bs (s))/\Xk.Ext w w':=by
 go_enter Tryz.func46,Tryz.ntmps46;go_wp2_with fail;go_ret;exact⟨rfl,aj _ _⟩
theorem AS:Ent 46:=⟨λ_ _=>by go_simp,by decide⟩
theorem zo(w:World):Calls ab 54 #[.agg noE.toArray] w λr w'=>r = .returned (bs ([]))/\Xk.Ext w w':=by
 go_enter Tryz.func54,Tryz.ntmps54;go_wp2_with fail;go_ret;exact⟨rfl,dz _ _⟩
theorem zn(kd op vk vi:Int)(vs tb nm:P12.T)(pp:Option Addr)(pm pc:Nat)(hk:kd≠0)(t:P12.T)(ht:t.length≤1000000)(w:World)(hT:∀W,Xk.Ext w W->Calls ab 51 #[.agg (au kd op vk vi vs tb nm (.slice pp pm pc)).toArray] W λr w'=>r = .returned (bs (t))/\Xk.Ext W w'):Calls ab 54 #[.agg (au kd op vk vi vs tb nm (.slice pp pm pc)).toArray] w λr w'=>r = .returned (bs ([32,87,72,69,82,69,32]++t))/\Xk.Ext w w':=by
 have hga:=az w (cd (au kd op vk vi vs tb nm (.slice pp pm pc)));have k0:(kd==0)=false:=by simpa using hk
 have HT:=aa hT;clear hk hT;go_enter Tryz.func54,Tryz.ntmps54;go_wp2_with (refine aE rfl 35 _ rfl (w.heap.size) _ 35 (0,0) _ rfl hga aW rfl (by kernel_rfl) ?_);refine(HT.out _ (dz _ _)).mono ?_;rintro e w1 ⟨rfl,hx1⟩;go_wp2_with fail;go_ret;refine⟨?_,bG hx1⟩;exact congrArg (λx=>aP (.string x)) (show(⟨#[32,87,72,69,82,69,32]⟩++⟨t.toArray⟩:ByteArray)=⟨([32,87,72,69,82,69,32]++t).toArray⟩ by apply bE;simp)
theorem zI(a:P12.T)(w:World):Calls ab 120 #[.agg [bs a,bs []].toArray] w λr w'=>r = .returned (bs (a))/\Xk.Ext w w':=by
 go_enter Tryz.func120,Tryz.ntmps120;go_wp2_with fail;go_ret;exact⟨rfl,dz _ _⟩
theorem zH(a b:P12.T)(ha:a.length≤1000000)(hb:b.length≤1000000)(hn:b ≠ [])(w:World):Calls ab 120 #[.agg [bs a,bs b].toArray] w λr w'=>r = .returned (bs (a ++ [32]++b))/\Xk.Ext w w':=by
 have hb2:b.isEmpty=false:=by cases b<;>first|rfl|exact absurd rfl hn
 clear hn;go_enter Tryz.func120,Tryz.ntmps120;go_wp2_with fail;go_ret;refine⟨?_,dz _ _⟩;exact congrArg (λx=>aP (.string x)) (show(⟨a.toArray⟩++⟨#[32]⟩++⟨b.toArray⟩:ByteArray)=⟨(a ++ [32]++b).toArray⟩ by apply bE;simp)
theorem Ip(kd op vk vi:Int)(vs tb nm:P12.T)(pp:Option Addr)(pm pc:Nat)(t:P12.T)(ht:t.length≤1000000)(w:World)(hT:∀W,Xk.Ext w W->Calls ab 51 #[.agg (au kd op vk vi vs tb nm (.slice pp pm pc)).toArray] W λr w'=>r = .returned (bs (t))/\Xk.Ext W w'):Calls ab 122 #[.agg ((au kd op vk vi vs tb nm (.slice pp pm pc))++ [bf false]).toArray] w λr w'=>r = .returned (bs (t))/\Xk.Ext w w':=by
 have HT:=aa hT;clear hT;have HR:=aa (jL (l:=(au kd op vk vi vs tb nm (.slice pp pm pc))++ [bf false]) (aj _ _:Xk.Ext (w.alloc (.cells ((au kd op vk vi vs tb nm (.slice pp pm pc))++ [bf false]).toArray 92)) _) 0 (au kd op vk vi vs tb nm (.slice pp pm pc)) (iJ rfl rfl rfl rfl rfl rfl rfl rfl rfl rfl rfl));go_enter Tryz.func122,Tryz.ntmps122;go_wp2_with (refine wpList_load_mid rfl 35 _ rfl w.heap.size 0 rfl _ _ HR.out aW rfl (by kernel_rfl) ?_);refine(HT.out _ (dz _ _)).mono ?_;rintro e w1 ⟨rfl,hx1⟩;go_wp2_with fail;go_ret;exact⟨rfl,bG hx1⟩
theorem EI(kd op vk vi:Int)(vs tb nm:P12.T)(pp:Option Addr)(pm pc:Nat)(t:P12.T)(ht:t.length≤1000000)(w:World)(hT:∀W,Xk.Ext w W->Calls ab 51 #[.agg (au kd op vk vi vs tb nm (.slice pp pm pc)).toArray] W λr w'=>r = .returned (bs (t))/\Xk.Ext W w'):Calls ab 122 #[.agg ((au kd op vk vi vs tb nm (.slice pp pm pc))++ [bf true]).toArray] w λr w'=>r = .returned (bs (t ++ [32,68,69,83,67]))/\Xk.Ext w w':=by
 have HT:=aa hT;clear hT;have HR:=aa (jL (l:=(au kd op vk vi vs tb nm (.slice pp pm pc))++ [bf true]) (aj _ _:Xk.Ext (w.alloc (.cells ((au kd op vk vi vs tb nm (.slice pp pm pc))++ [bf true]).toArray 92)) _) 0 (au kd op vk vi vs tb nm (.slice pp pm pc)) (iJ rfl rfl rfl rfl rfl rfl rfl rfl rfl rfl rfl));go_enter Tryz.func122,Tryz.ntmps122;go_wp2_with (refine wpList_load_mid rfl 35 _ rfl w.heap.size 0 rfl _ _ HR.out aW rfl (by kernel_rfl) ?_);refine(HT.out _ (dz _ _)).mono ?_;rintro e w1 ⟨rfl,hx1⟩;go_wp2_with fail;go_ret;refine⟨?_,bG hx1⟩
 exact congrArg (λx=>aP (.string x)) (show(⟨t.toArray⟩++⟨#[32,68,69,83,67]⟩:ByteArray)=⟨(t ++ [32,68,69,83,67]).toArray⟩ by apply bE;simp)
theorem FN:Ent 122:=⟨λ_ _=>by go_simp,by decide⟩
theorem Dj:Ent 119:=⟨λ_ _=>by go_simp,by decide⟩
theorem FM:Ent 51:=⟨λ_ _=>by go_simp,by decide⟩
theorem FP:Ent 49:=⟨λ_ _=>by go_simp,by decide⟩
theorem FO:Ent 53:=⟨λ_ _=>by go_simp,by decide⟩
theorem C9(w:World):Calls ab 119 #[.agg (bf true::(noE ++ [bs []])).toArray] w λr w'=>r = .returned (bs ([42]))/\Xk.Ext w w':=by
 go_enter Tryz.func119,Tryz.ntmps119;go_wp2_with fail;go_ret;exact⟨rfl,dz _ _⟩
theorem Da(kd op vk vi:Int)(vs tb nm:P12.T)(pp:Option Addr)(pm pc:Nat)(t:P12.T)(ht:t.length≤1000000)(w:World)(hT:∀W,Xk.Ext w W->Calls ab 51 #[.agg (au kd op vk vi vs tb nm (.slice pp pm pc)).toArray] W λr w'=>r = .returned (bs (t))/\Xk.Ext W w'):Calls ab 119 #[.agg (bf false::((au kd op vk vi vs tb nm (.slice pp pm pc))++ [bs []])).toArray] w λr w'=>r = .returned (bs (t))/\Xk.Ext w w':=by
 have HT:=aa hT;clear hT;have HR:=aa (jL (l:=bf false::((au kd op vk vi vs tb nm (.slice pp pm pc))++ [bs []])) (aj _ _:Xk.Ext (w.alloc (.cells (bf false::((au kd op vk vi vs tb nm (.slice pp pm pc))++ [bs []])).toArray 88)) _) 1 (au kd op vk vi vs tb nm (.slice pp pm pc)) (iJ rfl rfl rfl rfl rfl rfl rfl rfl rfl rfl rfl));go_enter Tryz.func119,Tryz.ntmps119;go_wp2_with (refine wpList_load_mid rfl 35 _ rfl w.heap.size 1 rfl _ _ HR.out aW rfl (by kernel_rfl) ?_);refine(HT.out _ (dz _ _)).mono ?_;rintro e w1 ⟨rfl,hx1⟩;go_wp2_with fail;go_ret;exact⟨rfl,bG hx1⟩
theorem II(a:P12.T)(ha:a.length≤1000000)(hn:a ≠ [])(kd op vk vi:Int)(vs tb nm:P12.T)(pp:Option Addr)(pm pc:Nat)(t:P12.T)(ht:t.length≤1000000)(w:World)(hT:∀W,Xk.Ext w W->Calls ab 51 #[.agg (au kd op vk vi vs tb nm (.slice pp pm pc)).toArray] W λr w'=>r = .returned (bs (t))/\Xk.Ext W w'):Calls ab 119 #[.agg (bf false::((au kd op vk vi vs tb nm (.slice pp pm pc))++ [bs a])).toArray] w λr w'=>r = .returned (bs (t ++ [32,65,83,32]++a))/\Xk.Ext w w':=by
 have HT:=aa λW (hx:Xk.Ext (w.alloc (.cells #[bf false,.int .i64 kd,.int .i64 op,.int .i64 vk,.int .i64 vi,bs vs,bs tb,bs nm,.int .i64 0,.int .i64 0,.slice pp pm pc,bs a] 88)) W)=>hT W (bG hx);have hb2:a.isEmpty=false:=by cases a<;>first|rfl|exact absurd rfl hn
 clear hn hT;have n1:¬ 9223372036854775807<t.length+4:=by omega
 have n2:¬ 9223372036854775807<t.length+4+a.length:=by omega
 go_enter Tryz.func119,Tryz.ntmps119;go_wp2_with fail;refine Xk.reg 8 (Xk.w1 HT.out λp=>?_);go_wp2_with fail;go_ret;refine⟨?_,Xk.xt⟩;exact congrArg (λx=>aP (.string x)) (show(⟨t.toArray⟩++⟨#[32,65,83,32]⟩++⟨a.toArray⟩:ByteArray)=⟨(t ++ [32,65,83,32]++a).toArray⟩ by apply bE;simp)
theorem Ep(a:P12.T)(ha:a.length≤1000000)(kd op vk vi:Int)(vs tb nm:P12.T)(pp:Option Addr)(pm pc:Nat)(t:P12.T)(ht:t.length≤1000000)(w:World)(hT:∀W,Xk.Ext w W->Calls ab 51 #[.agg (au kd op vk vi vs tb nm (.slice pp pm pc)).toArray] W λr w'=>r = .returned (bs (t))/\Xk.Ext W w'):Calls ab 53 #[.agg (bs a :: .int .i64 0::(au kd op vk vi vs tb nm (.slice pp pm pc))).toArray] w λr w'=>r = .returned (bs (a ++ [32,61,32]++t))/\Xk.Ext w w':=by
 have HT:=aa λW (hx:Xk.Ext (w.alloc (.cells #[bs a,.int .i64 0,.int .i64 kd,.int .i64 op,.int .i64 vk,.int .i64 vi,bs vs,bs tb,bs nm,.int .i64 0,.int .i64 0,.slice pp pm pc] 85)) W)=>hT W (bG hx);clear hT;have n1:¬ 9223372036854775807<a.length+3:=by omega
 have n2:¬ 9223372036854775807<a.length+3+t.length:=by omega
 go_enter Tryz.func53,Tryz.ntmps53;go_wp2_with fail;refine Xk.reg 8 (Xk.w1 HT.out λp=>?_);go_wp2_with fail;go_ret;refine⟨?_,Xk.xt⟩;exact congrArg (λx=>aP (.string x)) (show(⟨a.toArray⟩++⟨#[32,61,32]⟩++⟨t.toArray⟩:ByteArray)=⟨(a ++ [32,61,32]++t).toArray⟩ by apply bE;simp)
theorem Es(pp:Option Addr)(pm pc:Nat)(t:P12.T)(ht:t.length≤1000000000)(w:World)(hS:Calls ab 50 #[.slice pp pm pc,.func (.func 51) #[] #[]] w λr w'=>r = .returned (bs (t))/\Xk.Ext w w'):
  Calls ab 49 #[.slice pp pm pc] w λr w'=>r = .returned (bs ([40]++t ++ [41]))/\Xk.Ext w w':=by
 have HS:=aa hS;clear hS;go_enter Tryz.func49,Tryz.ntmps49;go_wp2_with fail;refine(HS.out).mono ?_;rintro e w2 ⟨rfl,hx2⟩;go_wp2_with fail;go_ret;refine⟨?_,hx2⟩;exact congrArg (λx=>aP (.string x)) (show(⟨#[40]⟩++⟨t.toArray⟩++⟨#[41]⟩:ByteArray)=⟨([40]++t ++ [41]).toArray⟩ by apply bE;simp)
theorem jJ{n:Int}(h0 : -9223372036854775808≤n)(h1:n≤9223372036854775807):(ee n).length≤50:=by
 unfold ee;split
 ·have:=P12.gB (u:=n.natAbs) (by omega);simp only[aK];omega
 ·have:=P12.gB (u:=n.toNat) (by omega);omega
theorem fw{w W:World}{o:Obj}(hx:Xk.Ext (w.alloc o) W):w.heap.size<W.heap.size:=by have:=hx.size;rw[af]at this;omega
theorem CD(kind lim:Int)(h0 : -1≤lim)(h1:lim≤9223372036854775807)(p1 p3 p4:Option Addr)(g2 n1 c1 c2 n3 c3 n4 c4:Nat)(a1 b1:P12.T)(kdw opw vkw viw:Int)(vsw tbw nnw:P12.T)(qw:Option Addr)(mw dw:Nat)  (l:List Value)(hl:l=cA kind [] ah ah ah ah [] [] false ah ah ah (au kdw opw vkw viw vsw tbw nnw (.slice qw mw dw)) (.slice p1 n1 c1) (.slice (some ⟨g2,0,none⟩) 1 c2) noE (.slice p3 n3 c3) (.slice p4 n4 c4) lim)(w:World)(hE:Env w)
  (rI s1 tw rg ro:P12.T)
  (brI:rI.length≤1000000000)
  (bs1:s1.length≤1000000000)
  (btw:tw.length≤1000000000)
  (brg:rg.length≤1000000000)
  (bro:ro.length≤1000000000)
  (hr:w.rangeAt g2 0 [bs a1,bs b1])
  (hI:∀W,Xk.Ext w W->Calls ab 118 #[.slice p1 n1 c1,.func (.func 119) #[] #[]] W λr w'=>r = .returned (bs rI)/\Xk.Ext W w')
  (hS:∀W,Xk.Ext w W->Calls ab 120 #[.agg #[bs a1,bs b1]] W λr w'=>r = .returned (bs s1)/\Xk.Ext W w')
  (hW:∀W,Xk.Ext w W->Calls ab 54 #[.agg (au kdw opw vkw viw vsw tbw nnw (.slice qw mw dw)).toArray] W λr w'=>r = .returned (bs tw)/\Xk.Ext W w')
  (hG:n3≠0->∀W,Xk.Ext w W->Calls ab 50 #[.slice p3 n3 c3,.func (.func 51) #[] #[]] W λr w'=>r = .returned (bs rg)/\Xk.Ext W w')
  (hO:n4≠0->∀W,Xk.Ext w W->Calls ab 121 #[.slice p4 n4 c4,.func (.func 122) #[] #[]] W λr w'=>r = .returned (bs ro)/\Xk.Ext W w') :
  Calls ab 55 #[.agg l.toArray] w λr w'=>r = .returned (bs ([83,69,76,69,67,84,32]++rI ++ [32,70,82,79,77,32]++s1++tw++(if n3=0 then[]else[32,71,82,79,85,80,32,66,89,32]++rg)++(if n4=0 then[]else[32,79,82,68,69,82,32,66,89,32]++ro)++(if lim<0 then[]else[32,76,73,77,73,84,32]++ee lim)))/\Xk.Ext w w':=by
 have HI:=aa hI;have HS:=aa hS;have HW:=aa hW;have HG:=aa hG;have HO:=aa hO;have HE:=aa hE;have HL:=aa hl;have lg:g2<w.heap.size:=al _ _ (hr 0 _ rfl);have HR:=aa hr;clear hl hr hE hI hS hW hG hO;have HXA:Hid (Xk.Ext (w.alloc (.cells l.toArray 40)) (w.alloc (.cells l.toArray 40))):=aa (aj _ _);have q22:=aZ HXA.out 22 (.slice p1 n1 c1) (by rw[HL.out];rfl);have q23:=aZ HXA.out 23 (.slice (some ⟨g2,0,none⟩) 1 c2) (by rw[HL.out];rfl);have ltA:=fw HXA.out;have lgA:g2<(w.alloc (.cells l.toArray 40)).heap.size:=by rw[af];omega
 have r0:(w.alloc (.cells l.toArray 40)).cell? ⟨g2,0,none⟩=some (bs a1):=Xk.bn (dz w _) (HR.out 0 _ rfl);have r1:(w.alloc (.cells l.toArray 40)).cell? ⟨g2,1,none⟩=some (bs b1):=Xk.bn (dz w _) (HR.out 1 _ rfl);have m1:¬ 9223372036854775807<7+rI.length:=by omega
 have m2:¬ 9223372036854775807<7+rI.length+6:=by omega
 have m3:¬ 9223372036854775807<7+rI.length+6+s1.length:=by omega
 obtain⟨RS,hRS⟩:∃R,R=([83,69,76,69,67,84,32]++rI ++ [32,70,82,79,77,32]++s1++tw++(if n3=0 then[]else[32,71,82,79,85,80,32,66,89,32]++rg)++(if n4=0 then[]else[32,79,82,68,69,82,32,66,89,32]++ro)++(if lim<0 then[]else[32,76,73,77,73,84,32]++ee lim)):=⟨_,rfl⟩;rw[← hRS];have HRS:=aa hRS;clear hRS;go_enter Tryz.func55,Tryz.ntmps55;go_wp2_with fail;refine Xk.reg 12 (Xk.w2 HI.out HS.out λp=>?_);obtain⟨W1,hW1⟩:∃W',W'=Xk.exw (w.alloc (.cells l.toArray 40)).drew p:=⟨_,rfl⟩;have hx1:Xk.Ext (w.alloc (.cells l.toArray 40)) W1:=by rw[hW1];exact Xk.xt
 rw[← hW1];clear hW1;have HX1:=aa hx1;clear hx1;rw[show(⟨#[83,69,76,69,67,84,32]⟩++⟨rI.toArray⟩++⟨#[32,70,82,79,77,32]⟩++⟨s1.toArray⟩:ByteArray)=⟨([83,69,76,69,67,84,32]++rI ++ [32,70,82,79,77,32]++s1).toArray⟩ by apply bE;simp];have bo:([83,69,76,69,67,84,32]++rI ++ [32,70,82,79,77,32]++s1).length≤3000000000:=by simp;omega
 obtain⟨o1,ho1⟩:∃o,o = [83,69,76,69,67,84,32]++rI ++ [32,70,82,79,77,32]++s1:=⟨_,rfl⟩;rw[← ho1]at bo ⊢;have HO1:=aa ho1;clear ho1;clear q22 q23 r0 r1 ltA lgA m1 m2 m3;have q23:=aZ HX1.out 23 (.slice (some ⟨g2,0,none⟩) 1 c2) (by rw[HL.out];rfl);have HRW:=aa (jL HX1.out 12 _ (iJ (m:=(au kdw opw vkw viw vsw tbw nnw (.slice qw mw dw))) rfl (by rw[HL.out];rfl) (by rw[HL.out];rfl) (by rw[HL.out];rfl) (by rw[HL.out];rfl) (by rw[HL.out];rfl) (by rw[HL.out];rfl) (by rw[HL.out];rfl) (by rw[HL.out];rfl) (by rw[HL.out];rfl) (by rw[HL.out];rfl)))
 go_wp2_with (refine wpList_load_mid rfl 35 _ rfl w.heap.size 12 rfl _ _ HRW.out aW rfl (by kernel_rfl) ?_);refine(HW.out _ (bG HX1.out)).mono ?_;rintro e w3 ⟨rfl,hx3⟩;have HX3:=aa (Xk.Ext.trans HX1.out hx3);clear hx3 q23;have q34:=aZ HX3.out 34 (.slice p3 n3 c3) (by rw[HL.out];rfl);by_cases hn3:n3=0
 ·have y3:¬ (0<n3):=by omega
  have z0:¬ ((0:Int)<(n3:Int)):=by omega
  have HN3:=aa hn3;clear hn3;have q35:=aZ HX3.out 35 (.slice p4 n4 c4) (by rw[HL.out];rfl);by_cases hn4:n4=0
  ·have y4:¬ (0<n4):=by omega
   have z4:¬ ((0:Int)<(n4:Int)):=by omega
   have HN4:=aa hn4;clear hn4;have q36:=aZ HX3.out 36 (.int .i64 lim) (by rw[HL.out];rfl);by_cases hl:lim<0
   ·have HLM:=aa hl;have z3:¬ (0≤lim):=by omega
    go_wp2_with fail;go_ret;refine⟨?_,bG HX3.out⟩;skip
    exact congrArg (λx=>aP (.string x)) (by rw[HRS.out];apply bE;simp[HN3.out,HN4.out,HLM.out,HO1.out])
   ·have HLM:=aa hl;have z3:0≤lim:=by omega
    have bl:=jJ (n:=lim) (by omega) (by omega);go_wp2_with fail;refine(gi lim (by omega) h1 _ (HE.out.ext (bG HX3.out))).mono ?_;rintro e w9 ⟨rfl,hx9⟩;go_wp2_with fail;go_ret;refine⟨?_,Xk.Ext.trans (bG HX3.out) hx9⟩;skip
    exact congrArg (λx=>aP (.string x)) (by rw[HRS.out];apply bE;simp[HN3.out,HN4.out,HLM.out,HO1.out])
  ·have y4:0<n4:=by omega
   have z4:(0:Int)<(n4:Int):=by omega
   go_wp2_with fail;refine(HO.out hn4 _ (bG HX3.out)).mono ?_;rintro e w5 ⟨rfl,hx5⟩;have HX5:=aa (Xk.Ext.trans HX3.out hx5);clear hx5 q35;have HN4:=aa hn4;clear hn4;have q36:=aZ HX5.out 36 (.int .i64 lim) (by rw[HL.out];rfl);by_cases hl:lim<0
   ·have HLM:=aa hl;have z3:¬ (0≤lim):=by omega
    go_wp2_with fail;go_ret;refine⟨?_,bG HX5.out⟩;skip
    exact congrArg (λx=>aP (.string x)) (by rw[HRS.out];apply bE;simp[HN3.out,HN4.out,HLM.out,HO1.out])
   ·have HLM:=aa hl;have z3:0≤lim:=by omega
    have bl:=jJ (n:=lim) (by omega) (by omega);go_wp2_with fail;refine(gi lim (by omega) h1 _ (HE.out.ext (bG HX5.out))).mono ?_;rintro e w9 ⟨rfl,hx9⟩;go_wp2_with fail;go_ret;refine⟨?_,Xk.Ext.trans (bG HX5.out) hx9⟩;skip
    exact congrArg (λx=>aP (.string x)) (by rw[HRS.out];apply bE;simp[HN3.out,HN4.out,HLM.out,HO1.out])
 ·have y3:0<n3:=by omega
  have z0:(0:Int)<(n3:Int):=by omega
  go_wp2_with fail;refine(HG.out hn3 _ (bG HX3.out)).mono ?_;rintro e w4 ⟨rfl,hx4⟩;have HX4:=aa (Xk.Ext.trans HX3.out hx4);clear hx4 q34;have HN3:=aa hn3;clear hn3;have q35:=aZ HX4.out 35 (.slice p4 n4 c4) (by rw[HL.out];rfl);by_cases hn4:n4=0
  ·have y4:¬ (0<n4):=by omega
   have z4:¬ ((0:Int)<(n4:Int)):=by omega
   have HN4:=aa hn4;clear hn4;have q36:=aZ HX4.out 36 (.int .i64 lim) (by rw[HL.out];rfl);by_cases hl:lim<0
   ·have HLM:=aa hl;have z3:¬ (0≤lim):=by omega
    go_wp2_with fail;go_ret;refine⟨?_,bG HX4.out⟩;skip
    exact congrArg (λx=>aP (.string x)) (by rw[HRS.out];apply bE;simp[HN3.out,HN4.out,HLM.out,HO1.out])
   ·have HLM:=aa hl;have z3:0≤lim:=by omega
    have bl:=jJ (n:=lim) (by omega) (by omega);go_wp2_with fail;refine(gi lim (by omega) h1 _ (HE.out.ext (bG HX4.out))).mono ?_;rintro e w9 ⟨rfl,hx9⟩;go_wp2_with fail;go_ret;refine⟨?_,Xk.Ext.trans (bG HX4.out) hx9⟩;skip
    exact congrArg (λx=>aP (.string x)) (by rw[HRS.out];apply bE;simp[HN3.out,HN4.out,HLM.out,HO1.out])
  ·have y4:0<n4:=by omega
   have z4:(0:Int)<(n4:Int):=by omega
   go_wp2_with fail;refine(HO.out hn4 _ (bG HX4.out)).mono ?_;rintro e w5 ⟨rfl,hx5⟩;have HX5:=aa (Xk.Ext.trans HX4.out hx5);clear hx5 q35;have HN4:=aa hn4;clear hn4;have q36:=aZ HX5.out 36 (.int .i64 lim) (by rw[HL.out];rfl);by_cases hl:lim<0
   ·have HLM:=aa hl;have z3:¬ (0≤lim):=by omega
    go_wp2_with fail;go_ret;refine⟨?_,bG HX5.out⟩;skip
    exact congrArg (λx=>aP (.string x)) (by rw[HRS.out];apply bE;simp[HN3.out,HN4.out,HLM.out,HO1.out])
   ·have HLM:=aa hl;have z3:0≤lim:=by omega
    have bl:=jJ (n:=lim) (by omega) (by omega);go_wp2_with fail;refine(gi lim (by omega) h1 _ (HE.out.ext (bG HX5.out))).mono ?_;rintro e w9 ⟨rfl,hx9⟩;go_wp2_with fail;go_ret;refine⟨?_,Xk.Ext.trans (bG HX5.out) hx9⟩;skip
    exact congrArg (λx=>aP (.string x)) (by rw[HRS.out];apply bE;simp[HN3.out,HN4.out,HLM.out,HO1.out])
theorem CC(kind lim:Int)(h0 : -1≤lim)(h1:lim≤9223372036854775807)(p1 p3 p4:Option Addr)(g2 n1 c1 c2 n3 c3 n4 c4:Nat)(a1 b1 a2 b2:P12.T)(kdw opw vkw viw:Int)(vsw tbw nnw:P12.T)(qw:Option Addr)(mw dw:Nat)(kdj opj vkj vij:Int)(vsj tbj nnj:P12.T)(qj:Option Addr)(mj dj:Nat)(l:List Value)(hl:l=cA kind [] ah ah ah ah [] [] false ah ah ah (au kdw opw vkw viw vsw tbw nnw (.slice qw mw dw)) (.slice p1 n1 c1) (.slice (some ⟨g2,0,none⟩) 2 c2) (au kdj opj vkj vij vsj tbj nnj (.slice qj mj dj)) (.slice p3 n3 c3) (.slice p4 n4 c4) lim)(w:World)(hE:Env w)
  (rI s1 tw rg ro s2 tj:P12.T)
  (brI:rI.length≤1000000000)
  (bs1:s1.length≤1000000000)
  (btw:tw.length≤1000000000)
  (brg:rg.length≤1000000000)
  (bro:ro.length≤1000000000)
  (bs2:s2.length≤1000000000)
  (btj:tj.length≤1000000000)
  (hr:w.rangeAt g2 0 [bs a1,bs b1,bs a2,bs b2])
  (hI:∀W,Xk.Ext w W->Calls ab 118 #[.slice p1 n1 c1,.func (.func 119) #[] #[]] W λr w'=>r = .returned (bs rI)/\Xk.Ext W w')
  (hS:∀W,Xk.Ext w W->Calls ab 120 #[.agg #[bs a1,bs b1]] W λr w'=>r = .returned (bs s1)/\Xk.Ext W w')
  (hS2:∀W,Xk.Ext w W->Calls ab 120 #[.agg #[bs a2,bs b2]] W λr w'=>r = .returned (bs s2)/\Xk.Ext W w')
  (hJ:∀W,Xk.Ext w W->Calls ab 51 #[.agg (au kdj opj vkj vij vsj tbj nnj (.slice qj mj dj)).toArray] W λr w'=>r = .returned (bs tj)/\Xk.Ext W w')
  (hW:∀W,Xk.Ext w W->Calls ab 54 #[.agg (au kdw opw vkw viw vsw tbw nnw (.slice qw mw dw)).toArray] W λr w'=>r = .returned (bs tw)/\Xk.Ext W w')
  (hG:n3≠0->∀W,Xk.Ext w W->Calls ab 50 #[.slice p3 n3 c3,.func (.func 51) #[] #[]] W λr w'=>r = .returned (bs rg)/\Xk.Ext W w')
  (hO:n4≠0->∀W,Xk.Ext w W->Calls ab 121 #[.slice p4 n4 c4,.func (.func 122) #[] #[]] W λr w'=>r = .returned (bs ro)/\Xk.Ext W w') :
  Calls ab 55 #[.agg l.toArray] w λr w'=>r = .returned (bs ([83,69,76,69,67,84,32]++rI ++ [32,70,82,79,77,32]++s1++([32,74,79,73,78,32]++s2 ++ [32,79,78,32]++tj)++tw++(if n3=0 then[]else[32,71,82,79,85,80,32,66,89,32]++rg)++(if n4=0 then[]else[32,79,82,68,69,82,32,66,89,32]++ro)++(if lim<0 then[]else[32,76,73,77,73,84,32]++ee lim)))/\Xk.Ext w w':=by
 have HI:=aa hI;have HS:=aa hS;have HS2:=aa hS2;have HJ:=aa hJ;have HW:=aa hW;have HG:=aa hG;have HO:=aa hO;have HE:=aa hE;have HL:=aa hl;have lg:g2<w.heap.size:=al _ _ (hr 0 _ rfl);have HR:=aa hr;clear hl hr hE hI hS hS2 hJ hW hG hO;have HXA:Hid (Xk.Ext (w.alloc (.cells l.toArray 40)) (w.alloc (.cells l.toArray 40))):=aa (aj _ _);have q22:=aZ HXA.out 22 (.slice p1 n1 c1) (by rw[HL.out];rfl);have q23:=aZ HXA.out 23 (.slice (some ⟨g2,0,none⟩) 2 c2) (by rw[HL.out];rfl);have ltA:=fw HXA.out;have lgA:g2<(w.alloc (.cells l.toArray 40)).heap.size:=by rw[af];omega
 have r0:(w.alloc (.cells l.toArray 40)).cell? ⟨g2,0,none⟩=some (bs a1):=Xk.bn (dz w _) (HR.out 0 _ rfl);have r1:(w.alloc (.cells l.toArray 40)).cell? ⟨g2,1,none⟩=some (bs b1):=Xk.bn (dz w _) (HR.out 1 _ rfl);have m1:¬ 9223372036854775807<7+rI.length:=by omega
 have m2:¬ 9223372036854775807<7+rI.length+6:=by omega
 have m3:¬ 9223372036854775807<7+rI.length+6+s1.length:=by omega
 obtain⟨RS,hRS⟩:∃R,R=([83,69,76,69,67,84,32]++rI ++ [32,70,82,79,77,32]++s1++([32,74,79,73,78,32]++s2 ++ [32,79,78,32]++tj)++tw++(if n3=0 then[]else[32,71,82,79,85,80,32,66,89,32]++rg)++(if n4=0 then[]else[32,79,82,68,69,82,32,66,89,32]++ro)++(if lim<0 then[]else[32,76,73,77,73,84,32]++ee lim)):=⟨_,rfl⟩;rw[← hRS];have HRS:=aa hRS;clear hRS;go_enter Tryz.func55,Tryz.ntmps55;go_wp2_with fail;refine Xk.reg 12 (Xk.w2 HI.out HS.out λp=>?_);obtain⟨W1,hW1⟩:∃W',W'=Xk.exw (w.alloc (.cells l.toArray 40)).drew p:=⟨_,rfl⟩;have hx1:Xk.Ext (w.alloc (.cells l.toArray 40)) W1:=by rw[hW1];exact Xk.xt
 rw[← hW1];clear hW1;have HX1:=aa hx1;clear hx1;rw[show(⟨#[83,69,76,69,67,84,32]⟩++⟨rI.toArray⟩++⟨#[32,70,82,79,77,32]⟩++⟨s1.toArray⟩:ByteArray)=⟨([83,69,76,69,67,84,32]++rI ++ [32,70,82,79,77,32]++s1).toArray⟩ by apply bE;simp];have bo:([83,69,76,69,67,84,32]++rI ++ [32,70,82,79,77,32]++s1).length≤3000000000:=by simp;omega
 obtain⟨o1,ho1⟩:∃o,o = [83,69,76,69,67,84,32]++rI ++ [32,70,82,79,77,32]++s1:=⟨_,rfl⟩;rw[← ho1]at bo ⊢;have HO1:=aa ho1;clear ho1;clear q22 q23 r0 r1 ltA lgA m1 m2 m3;have q23:=aZ HX1.out 23 (.slice (some ⟨g2,0,none⟩) 2 c2) (by rw[HL.out];rfl);have q24:=aZ HX1.out 24 _ (by rw[HL.out];rfl);have q25:=aZ HX1.out 25 _ (by rw[HL.out];rfl);have q26:=aZ HX1.out 26 _ (by rw[HL.out];rfl);have q27:=aZ HX1.out 27 _ (by rw[HL.out];rfl);have q28:=aZ HX1.out 28 _ (by rw[HL.out];rfl);have q29:=aZ HX1.out 29 _ (by rw[HL.out];rfl);have q30:=aZ HX1.out 30 _ (by rw[HL.out];rfl)
 have q31:=aZ HX1.out 31 _ (by rw[HL.out];rfl);have q32:=aZ HX1.out 32 _ (by rw[HL.out];rfl);have q33:=aZ HX1.out 33 _ (by rw[HL.out];rfl);have lt1:=al _ _ q24;have lg1:g2<W1.heap.size:=by have:=(bG HX1.out).size;omega
 have r2:W1.cell? ⟨g2,2,none⟩=some (bs a2):=Xk.bn (bG HX1.out) (HR.out 2 _ rfl);have r3:W1.cell? ⟨g2,3,none⟩=some (bs b2):=Xk.bn (bG HX1.out) (HR.out 3 _ rfl);have m1:¬ 9223372036854775807<6+s2.length:=by omega
 have m2:¬ 9223372036854775807<6+s2.length+4:=by omega
 have m3:¬ 9223372036854775807<6+s2.length+4+tj.length:=by omega
 have m4:¬ 9223372036854775807<o1.length+(6+s2.length+4+tj.length):=by omega
 go_wp2_with fail;refine Xk.bL 14 [] trivial (by kernel_rfl) (by kernel_rfl) ?_;simp only[aA,aS,aG,aT]
 repeat(first
  | (refine Xk.ay (Xk.an (by rfl)) (by rfl) (λK hK=>?_);apply ai;refine⟨λp hp=>?_,?_⟩;(go_simp;first|exact⟨rfl,rfl⟩|((try refine⟨by kernel_rfl,?_⟩);(first|(go_at_call 51;((with_reducible refine(HJ.out _ (Xk.Ext.trans (bG HX1.out) Xk.xt)).mono ?_);exact λe w' h=>h))|(go_at_call 120;((with_reducible refine(HS2.out _ (Xk.Ext.trans (bG HX1.out) Xk.xt)).mono ?_);exact λe w' h=>h)))));(go_simp;refine hK _ ?_;clear hK K))
  | (refine Xk.bu (by rfl) (λK hK=>?_);go_simp;refine hK _ ?_;clear hK K)
  | (refine Xk.ay (by rfl) (by rfl) (λK hK=>?_);apply ai;refine⟨λp hp=>?_,?_⟩;(go_simp;first|exact⟨rfl,rfl⟩|((try refine⟨by kernel_rfl,?_⟩);(first|(go_at_call 51;((with_reducible refine(HJ.out _ (Xk.Ext.trans (bG HX1.out) Xk.xt)).mono ?_);exact λe w' h=>h))|(go_at_call 120;((with_reducible refine(HS2.out _ (Xk.Ext.trans (bG HX1.out) Xk.xt)).mono ?_);exact λe w' h=>h)))));(go_simp;refine hK _ ?_;clear hK K)))
 refine Xk.bm (λp _=>?_);obtain⟨W2,hW2⟩:∃W',W'=Xk.exw W1.drew p:=⟨_,rfl⟩;have hx2:Xk.Ext W1 W2:=by rw[hW2];exact Xk.xt
 rw[← hW2];clear hW2;have HX2:=aa (Xk.Ext.trans HX1.out hx2);clear hx2;rw[show(⟨o1.toArray⟩++(⟨#[32,74,79,73,78,32]⟩++⟨s2.toArray⟩++⟨#[32,79,78,32]⟩++⟨tj.toArray⟩):ByteArray)=⟨(o1++([32,74,79,73,78,32]++s2 ++ [32,79,78,32]++tj)).toArray⟩ by apply bE;simp];have bo2:(o1++([32,74,79,73,78,32]++s2 ++ [32,79,78,32]++tj)).length≤6000000000:=by simp;omega
 obtain⟨o2,ho2⟩:∃o,o=o1++([32,74,79,73,78,32]++s2 ++ [32,79,78,32]++tj):=⟨_,rfl⟩;rw[← ho2]at bo2 ⊢;have HO2:=aa ho2;clear ho2;clear r2 r3 m1 m2 m3 m4 lg1 lt1 bo q24 q25 q26 q27 q28 q29 q30 q31 q32 q33;clear q23;have HRW:=aa (jL HX2.out 12 _ (iJ (m:=(au kdw opw vkw viw vsw tbw nnw (.slice qw mw dw))) rfl (by rw[HL.out];rfl) (by rw[HL.out];rfl) (by rw[HL.out];rfl) (by rw[HL.out];rfl) (by rw[HL.out];rfl) (by rw[HL.out];rfl) (by rw[HL.out];rfl) (by rw[HL.out];rfl) (by rw[HL.out];rfl) (by rw[HL.out];rfl)))
 go_wp2_with (refine wpList_load_mid rfl 35 _ rfl w.heap.size 12 rfl _ _ HRW.out aW rfl (by kernel_rfl) ?_);refine(HW.out _ (bG HX2.out)).mono ?_;rintro e w3 ⟨rfl,hx3⟩;have HX3:=aa (Xk.Ext.trans HX2.out hx3);clear hx3;have q34:=aZ HX3.out 34 (.slice p3 n3 c3) (by rw[HL.out];rfl);by_cases hn3:n3=0
 ·have y3:¬ (0<n3):=by omega
  have z0:¬ ((0:Int)<(n3:Int)):=by omega
  have HN3:=aa hn3;clear hn3;have q35:=aZ HX3.out 35 (.slice p4 n4 c4) (by rw[HL.out];rfl);by_cases hn4:n4=0
  ·have y4:¬ (0<n4):=by omega
   have z4:¬ ((0:Int)<(n4:Int)):=by omega
   have HN4:=aa hn4;clear hn4;have q36:=aZ HX3.out 36 (.int .i64 lim) (by rw[HL.out];rfl);by_cases hl:lim<0
   ·have HLM:=aa hl;have z3:¬ (0≤lim):=by omega
    go_wp2_with fail;go_ret;refine⟨?_,bG HX3.out⟩;skip
    exact congrArg (λx=>aP (.string x)) (by rw[HRS.out];apply bE;simp[HN3.out,HN4.out,HO2.out,HLM.out,HO1.out])
   ·have HLM:=aa hl;have z3:0≤lim:=by omega
    have bl:=jJ (n:=lim) (by omega) (by omega);go_wp2_with fail;refine(gi lim (by omega) h1 _ (HE.out.ext (bG HX3.out))).mono ?_;rintro e w9 ⟨rfl,hx9⟩;go_wp2_with fail;go_ret;refine⟨?_,Xk.Ext.trans (bG HX3.out) hx9⟩;skip
    exact congrArg (λx=>aP (.string x)) (by rw[HRS.out];apply bE;simp[HN3.out,HN4.out,HO2.out,HLM.out,HO1.out])
  ·have y4:0<n4:=by omega
   have z4:(0:Int)<(n4:Int):=by omega
   go_wp2_with fail;refine(HO.out hn4 _ (bG HX3.out)).mono ?_;rintro e w5 ⟨rfl,hx5⟩;have HX5:=aa (Xk.Ext.trans HX3.out hx5);clear hx5 q35;have HN4:=aa hn4;clear hn4;have q36:=aZ HX5.out 36 (.int .i64 lim) (by rw[HL.out];rfl);by_cases hl:lim<0
   ·have HLM:=aa hl;have z3:¬ (0≤lim):=by omega
    go_wp2_with fail;go_ret;refine⟨?_,bG HX5.out⟩;skip
    exact congrArg (λx=>aP (.string x)) (by rw[HRS.out];apply bE;simp[HN3.out,HN4.out,HO2.out,HLM.out,HO1.out])
   ·have HLM:=aa hl;have z3:0≤lim:=by omega
    have bl:=jJ (n:=lim) (by omega) (by omega);go_wp2_with fail;refine(gi lim (by omega) h1 _ (HE.out.ext (bG HX5.out))).mono ?_;rintro e w9 ⟨rfl,hx9⟩;go_wp2_with fail;go_ret;refine⟨?_,Xk.Ext.trans (bG HX5.out) hx9⟩;skip
    exact congrArg (λx=>aP (.string x)) (by rw[HRS.out];apply bE;simp[HN3.out,HN4.out,HO2.out,HLM.out,HO1.out])
 ·have y3:0<n3:=by omega
  have z0:(0:Int)<(n3:Int):=by omega
  go_wp2_with fail;refine(HG.out hn3 _ (bG HX3.out)).mono ?_;rintro e w4 ⟨rfl,hx4⟩;have HX4:=aa (Xk.Ext.trans HX3.out hx4);clear hx4 q34;have HN3:=aa hn3;clear hn3;have q35:=aZ HX4.out 35 (.slice p4 n4 c4) (by rw[HL.out];rfl);by_cases hn4:n4=0
  ·have y4:¬ (0<n4):=by omega
   have z4:¬ ((0:Int)<(n4:Int)):=by omega
   have HN4:=aa hn4;clear hn4;have q36:=aZ HX4.out 36 (.int .i64 lim) (by rw[HL.out];rfl);by_cases hl:lim<0
   ·have HLM:=aa hl;have z3:¬ (0≤lim):=by omega
    go_wp2_with fail;go_ret;refine⟨?_,bG HX4.out⟩;skip
    exact congrArg (λx=>aP (.string x)) (by rw[HRS.out];apply bE;simp[HN3.out,HN4.out,HO2.out,HLM.out,HO1.out])
   ·have HLM:=aa hl;have z3:0≤lim:=by omega
    have bl:=jJ (n:=lim) (by omega) (by omega);go_wp2_with fail;refine(gi lim (by omega) h1 _ (HE.out.ext (bG HX4.out))).mono ?_;rintro e w9 ⟨rfl,hx9⟩;go_wp2_with fail;go_ret;refine⟨?_,Xk.Ext.trans (bG HX4.out) hx9⟩;skip
    exact congrArg (λx=>aP (.string x)) (by rw[HRS.out];apply bE;simp[HN3.out,HN4.out,HO2.out,HLM.out,HO1.out])
  ·have y4:0<n4:=by omega
   have z4:(0:Int)<(n4:Int):=by omega
   go_wp2_with fail;refine(HO.out hn4 _ (bG HX4.out)).mono ?_;rintro e w5 ⟨rfl,hx5⟩;have HX5:=aa (Xk.Ext.trans HX4.out hx5);clear hx5 q35;have HN4:=aa hn4;clear hn4;have q36:=aZ HX5.out 36 (.int .i64 lim) (by rw[HL.out];rfl);by_cases hl:lim<0
   ·have HLM:=aa hl;have z3:¬ (0≤lim):=by omega
    go_wp2_with fail;go_ret;refine⟨?_,bG HX5.out⟩;skip
    exact congrArg (λx=>aP (.string x)) (by rw[HRS.out];apply bE;simp[HN3.out,HN4.out,HO2.out,HLM.out,HO1.out])
   ·have HLM:=aa hl;have z3:0≤lim:=by omega
    have bl:=jJ (n:=lim) (by omega) (by omega);go_wp2_with fail;refine(gi lim (by omega) h1 _ (HE.out.ext (bG HX5.out))).mono ?_;rintro e w9 ⟨rfl,hx9⟩;go_wp2_with fail;go_ret;refine⟨?_,Xk.Ext.trans (bG HX5.out) hx9⟩;skip
    exact congrArg (λx=>aP (.string x)) (by rw[HRS.out];apply bE;simp[HN3.out,HN4.out,HO2.out,HLM.out,HO1.out])
theorem CI(kind:Int)(lim:Int)(hkd:kind=8)(p1 p2 p3 p4:Option Addr)(n1 c1 n2 c2 n3 c3 n4 c4:Nat)(kdw opw vkw viw:Int)(vsw tbw nnw:P12.T)(qw:Option Addr)(mw dw:Nat)(kdj opj vkj vij:Int)(vsj tbj nnj:P12.T)(qj:Option Addr)(mj dj:Nat)(l:List Value)(hl:l=cA kind [] ah ah ah ah [] [] false ah ah ah (au kdw opw vkw viw vsw tbw nnw (.slice qw mw dw)) (.slice p1 n1 c1) (.slice p2 n2 c2) (au kdj opj vkj vij vsj tbj nnj (.slice qj mj dj)) (.slice p3 n3 c3) (.slice p4 n4 c4) lim)(w:World)
  (tq:P12.T) (btq:tq.length≤8000000000)
  (hQ:∀W,Xk.Ext w W->Calls ab 55 #[.agg l.toArray] W λr w'=>r = .returned (bs tq)/\Xk.Ext W w')
  (hIs:∀W,Xk.Ext w W->Calls ab 14 #[.agg l.toArray] W λe w'=>e = .returned (.bool true)/\Xk.Ext W w') :
  Calls ab 15 #[.agg l.toArray] w λr w'=>r = .returned (.tuple #[bs (tq),.int .i64 0])/\Xk.Ext w w':=by
 have HQ:=aa hQ;have hn1:(kind==1)=false:=by subst hkd;rfl
 have hn2:(kind==2)=false:=by subst hkd;rfl
 have hn3:(kind==3)=false:=by subst hkd;rfl
 have hn4:(kind==4)=false:=by subst hkd;rfl
 have hn5:(kind==5)=false:=by subst hkd;rfl
 have hn6:(kind==6)=false:=by subst hkd;rfl
 have hn7:(kind==7)=false:=by subst hkd;rfl
 have hn8:(kind==8)=true:=by subst hkd;rfl
 clear hkd;have HIs:=aa hIs;have hlen:l.length=37:=by rw[hl];rfl
 have HSZ:Hid ((ab.info? 40).map (·.size)=some l.toArray.size):=aa (by rw[ar,hlen];kernel_rfl);have HL:=aa hl;have hga:=az w (.cells l.toArray 40);clear hl hlen hIs hQ;obtain⟨RS,hRS⟩:∃R:P12.T,R=(tq):=⟨_,rfl⟩;rw[← hRS];have HRS:=aa hRS;clear hRS;go_enter Tryz.func15,Tryz.ntmps15;go_wp2_with (refine aE rfl 40 _ rfl w.heap.size _ 40 (0,0) _ rfl hga av rfl HSZ.out ?_);refine(HIs.out _ (dz _ _)).mono ?_;rintro e w1 ⟨rfl,hx1⟩;have HX1:=aa hx1;have lt1:=fw hx1;have kc:=aZ hx1 0 (.int .i64 kind) (by rw[HL.out];rfl);clear hx1 hga;have q9:=aZ HX1.out 9 (ah) (by rw[HL.out];rfl);have hb2:=wy HX1.out
 go_wp2_with (refine aE rfl 40 _ rfl w.heap.size _ 40 (0,0) _ rfl hb2 av rfl HSZ.out ?_);refine(HQ.out _ (bG HX1.out)).mono ?_;rintro e w2 ⟨rfl,hx2⟩;go_wp2_with fail;go_ret2;refine⟨?_,Xk.Ext.trans (bG HX1.out) hx2⟩;rw[HRS.out];rfl
theorem CK(kind:Int)(hkd:kind=7)(nm:P12.T)(bnm:nm.length≤1000000)(kd op vk vi:Int)(vs tb nn:P12.T)(pp:Option Addr)(pm pc:Nat)(l:List Value)(hl:l=cA kind [] ah ah ah ah nm [] false ah ah ah (au kd op vk vi vs tb nn (.slice pp pm pc)) ah ah noE ah ah 0)(w:World)
  (tw:P12.T) (btw:tw.length≤1000000000)
  (hW:∀W,Xk.Ext w W->Calls ab 54 #[.agg (au kd op vk vi vs tb nn (.slice pp pm pc)).toArray] W λr w'=>r = .returned (bs tw)/\Xk.Ext W w')
  (hIs:∀W,Xk.Ext w W->Calls ab 14 #[.agg l.toArray] W λe w'=>e = .returned (.bool true)/\Xk.Ext W w') :
  Calls ab 15 #[.agg l.toArray] w λr w'=>r = .returned (.tuple #[bs ([68,69,76,69,84,69,32,70,82,79,77,32]++nm++tw),.int .i64 0])/\Xk.Ext w w':=by
 have HW:=aa hW;have hn1:(kind==1)=false:=by subst hkd;rfl
 have hn2:(kind==2)=false:=by subst hkd;rfl
 have hn3:(kind==3)=false:=by subst hkd;rfl
 have hn4:(kind==4)=false:=by subst hkd;rfl
 have hn5:(kind==5)=false:=by subst hkd;rfl
 have hn6:(kind==6)=false:=by subst hkd;rfl
 have hn7:(kind==7)=true:=by subst hkd;rfl
 clear hkd;have HIs:=aa hIs;have hlen:l.length=37:=by rw[hl];rfl
 have HSZ:Hid ((ab.info? 40).map (·.size)=some l.toArray.size):=aa (by rw[ar,hlen];kernel_rfl);have HL:=aa hl;have hga:=az w (.cells l.toArray 40);clear hl hlen hIs hW;obtain⟨RS,hRS⟩:∃R:P12.T,R=([68,69,76,69,84,69,32,70,82,79,77,32]++nm++tw):=⟨_,rfl⟩;rw[← hRS];have HRS:=aa hRS;clear hRS;go_enter Tryz.func15,Tryz.ntmps15;go_wp2_with (refine aE rfl 40 _ rfl w.heap.size _ 40 (0,0) _ rfl hga av rfl HSZ.out ?_);refine(HIs.out _ (dz _ _)).mono ?_;rintro e w1 ⟨rfl,hx1⟩;have HX1:=aa hx1;have lt1:=fw hx1;have kc:=aZ hx1 0 (.int .i64 kind) (by rw[HL.out];rfl);clear hx1 hga
 have q9:=aZ HX1.out 9 (ah) (by rw[HL.out];rfl);have q6:=aZ HX1.out 6 (bs nm) (by rw[HL.out];rfl);have q12:=aZ HX1.out 12 _ (by rw[HL.out];rfl);have q13:=aZ HX1.out 13 _ (by rw[HL.out];rfl);have q14:=aZ HX1.out 14 _ (by rw[HL.out];rfl);have q15:=aZ HX1.out 15 _ (by rw[HL.out];rfl);have q16:=aZ HX1.out 16 _ (by rw[HL.out];rfl);have q17:=aZ HX1.out 17 _ (by rw[HL.out];rfl);have q18:=aZ HX1.out 18 _ (by rw[HL.out];rfl);have q19:=aZ HX1.out 19 _ (by rw[HL.out];rfl);have q20:=aZ HX1.out 20 _ (by rw[HL.out];rfl);have q21:=aZ HX1.out 21 _ (by rw[HL.out];rfl)
 have m1:¬ 9223372036854775807<12+nm.length:=by omega
 have m2:¬ 9223372036854775807<12+nm.length+tw.length:=by omega
 go_wp2_with fail;refine Xk.bL 9 [] trivial (by kernel_rfl) (by kernel_rfl) ?_;simp only[aA,aS,aG,aT]
 repeat(first
  | (refine Xk.ay (Xk.an (by rfl)) (by rfl) (λK hK=>?_);apply ai;refine⟨λp hp=>?_,?_⟩;(go_simp;first|exact⟨rfl,rfl⟩|((try refine⟨by kernel_rfl,?_⟩);((go_at_call 54;((with_reducible refine(HW.out _ (Xk.Ext.trans (bG HX1.out) Xk.xt)).mono ?_);exact λe w' h=>h)))));(go_simp;refine hK _ ?_;clear hK K))
  | (refine Xk.bu (by rfl) (λK hK=>?_);go_simp;refine hK _ ?_;clear hK K)
  | (refine Xk.ay (by rfl) (by rfl) (λK hK=>?_);apply ai;refine⟨λp hp=>?_,?_⟩;(go_simp;first|exact⟨rfl,rfl⟩|((try refine⟨by kernel_rfl,?_⟩);((go_at_call 54;((with_reducible refine(HW.out _ (Xk.Ext.trans (bG HX1.out) Xk.xt)).mono ?_);exact λe w' h=>h)))));(go_simp;refine hK _ ?_;clear hK K)))
 refine Xk.bm (λp _=>?_);obtain⟨W2,hW2⟩:∃W',W'=Xk.exw w1.drew p:=⟨_,rfl⟩;have hx2:Xk.Ext w1 W2:=by rw[hW2];exact Xk.xt
 rw[← hW2];clear hW2;have HX2:=aa (Xk.Ext.trans HX1.out hx2);clear hx2;go_wp2_with fail;go_ret2;refine⟨?_,bG HX2.out⟩;exact congrArg (λx=>aP (.tuple #[.string x,.int .i64 0])) (by rw[HRS.out];apply bE;simp)
theorem CE(kind:Int)(hkd:kind=6)(nm:P12.T)(bnm:nm.length≤1000000)(p1:Option Addr)(n1 c1:Nat)(kd op vk vi:Int)(vs tb nn:P12.T)(pp:Option Addr)(pm pc:Nat)(l:List Value)(hl:l=cA kind [] ah ah ah ah nm [] false ah ah (.slice p1 n1 c1) (au kd op vk vi vs tb nn (.slice pp pm pc)) ah ah noE ah ah 0)(w:World)
  (rs:P12.T) (brs:rs.length≤1000000000)
  (tw:P12.T) (btw:tw.length≤1000000000)
  (hR:∀W,Xk.Ext w W->Calls ab 52 #[.slice p1 n1 c1,.func (.func 53) #[] #[]] W λr w'=>r = .returned (bs rs)/\Xk.Ext W w')
  (hW:∀W,Xk.Ext w W->Calls ab 54 #[.agg (au kd op vk vi vs tb nn (.slice pp pm pc)).toArray] W λr w'=>r = .returned (bs tw)/\Xk.Ext W w')
  (hIs:∀W,Xk.Ext w W->Calls ab 14 #[.agg l.toArray] W λe w'=>e = .returned (.bool true)/\Xk.Ext W w') :
  Calls ab 15 #[.agg l.toArray] w λr w'=>r = .returned (.tuple #[bs ([85,80,68,65,84,69,32]++nm ++ [32,83,69,84,32]++rs++tw),.int .i64 0])/\Xk.Ext w w':=by
 have HR:=aa hR;have HW:=aa hW;have hn1:(kind==1)=false:=by subst hkd;rfl
 have hn2:(kind==2)=false:=by subst hkd;rfl
 have hn3:(kind==3)=false:=by subst hkd;rfl
 have hn4:(kind==4)=false:=by subst hkd;rfl
 have hn5:(kind==5)=false:=by subst hkd;rfl
 have hn6:(kind==6)=true:=by subst hkd;rfl
 clear hkd;have HIs:=aa hIs;have hlen:l.length=37:=by rw[hl];rfl
 have HSZ:Hid ((ab.info? 40).map (·.size)=some l.toArray.size):=aa (by rw[ar,hlen];kernel_rfl);have HL:=aa hl;have hga:=az w (.cells l.toArray 40);clear hl hlen hIs hR hW;obtain⟨RS,hRS⟩:∃R:P12.T,R=([85,80,68,65,84,69,32]++nm ++ [32,83,69,84,32]++rs++tw):=⟨_,rfl⟩;rw[← hRS];have HRS:=aa hRS;clear hRS;go_enter Tryz.func15,Tryz.ntmps15;go_wp2_with (refine aE rfl 40 _ rfl w.heap.size _ 40 (0,0) _ rfl hga av rfl HSZ.out ?_);refine(HIs.out _ (dz _ _)).mono ?_;rintro e w1 ⟨rfl,hx1⟩;have HX1:=aa hx1;have lt1:=fw hx1;have kc:=aZ hx1 0 (.int .i64 kind) (by rw[HL.out];rfl);clear hx1 hga
 have q9:=aZ HX1.out 9 (ah) (by rw[HL.out];rfl);have q6:=aZ HX1.out 6 (bs nm) (by rw[HL.out];rfl);have q11:=aZ HX1.out 11 (.slice p1 n1 c1) (by rw[HL.out];rfl);have q12:=aZ HX1.out 12 _ (by rw[HL.out];rfl);have q13:=aZ HX1.out 13 _ (by rw[HL.out];rfl);have q14:=aZ HX1.out 14 _ (by rw[HL.out];rfl);have q15:=aZ HX1.out 15 _ (by rw[HL.out];rfl);have q16:=aZ HX1.out 16 _ (by rw[HL.out];rfl);have q17:=aZ HX1.out 17 _ (by rw[HL.out];rfl);have q18:=aZ HX1.out 18 _ (by rw[HL.out];rfl);have q19:=aZ HX1.out 19 _ (by rw[HL.out];rfl);have q20:=aZ HX1.out 20 _ (by rw[HL.out];rfl)
 have q21:=aZ HX1.out 21 _ (by rw[HL.out];rfl);have m1:¬ 9223372036854775807<7+nm.length:=by omega
 have m2:¬ 9223372036854775807<7+nm.length+5:=by omega
 have m3:¬ 9223372036854775807<7+nm.length+5+rs.length:=by omega
 have m4:¬ 9223372036854775807<7+nm.length+5+rs.length+tw.length:=by omega
 go_wp2_with fail;refine Xk.bL 14 [] trivial (by kernel_rfl) (by kernel_rfl) ?_;simp only[aA,aS,aG,aT]
 repeat(first
  | (refine Xk.ay (Xk.an (by rfl)) (by rfl) (λK hK=>?_);apply ai;refine⟨λp hp=>?_,?_⟩;(go_simp;first|exact⟨rfl,rfl⟩|((try refine⟨by kernel_rfl,?_⟩);(first|(go_at_call 54;((with_reducible refine(HW.out _ (Xk.Ext.trans (bG HX1.out) Xk.xt)).mono ?_);exact λe w' h=>h))|(go_at_call 52;((with_reducible refine(HR.out _ (Xk.Ext.trans (bG HX1.out) Xk.xt)).mono ?_);exact λe w' h=>h)))));(go_simp;refine hK _ ?_;clear hK K))
  | (refine Xk.bu (by rfl) (λK hK=>?_);go_simp;refine hK _ ?_;clear hK K)
  | (refine Xk.ay (by rfl) (by rfl) (λK hK=>?_);apply ai;refine⟨λp hp=>?_,?_⟩;(go_simp;first|exact⟨rfl,rfl⟩|((try refine⟨by kernel_rfl,?_⟩);(first|(go_at_call 54;((with_reducible refine(HW.out _ (Xk.Ext.trans (bG HX1.out) Xk.xt)).mono ?_);exact λe w' h=>h))|(go_at_call 52;((with_reducible refine(HR.out _ (Xk.Ext.trans (bG HX1.out) Xk.xt)).mono ?_);exact λe w' h=>h)))));(go_simp;refine hK _ ?_;clear hK K)))
 refine Xk.bm (λp _=>?_);obtain⟨W2,hW2⟩:∃W',W'=Xk.exw w1.drew p:=⟨_,rfl⟩;have hx2:Xk.Ext w1 W2:=by rw[hW2];exact Xk.xt
 rw[← hW2];clear hW2;have HX2:=aa (Xk.Ext.trans HX1.out hx2);clear hx2;go_wp2_with fail;go_ret2;refine⟨?_,bG HX2.out⟩;exact congrArg (λx=>aP (.tuple #[.string x,.int .i64 0])) (by rw[HRS.out];apply bE;simp)
theorem xB(kind:Int)(hkd:kind=2)(nm:P12.T)(bnm:nm.length≤1000000)(l:List Value)(hl:l=cA kind [] ah ah ah ah nm [] false ah ah ah noE ah ah noE ah ah 0)(w:World)
  (hIs:∀W,Xk.Ext w W->Calls ab 14 #[.agg l.toArray] W λe w'=>e = .returned (.bool true)/\Xk.Ext W w') :
  Calls ab 15 #[.agg l.toArray] w λr w'=>r = .returned (.tuple #[bs ([68,82,79,80,32,84,65,66,76,69,32]++nm),.int .i64 0])/\Xk.Ext w w':=by
 have hn1:(kind==1)=false:=by subst hkd;rfl
 have hn2:(kind==2)=true:=by subst hkd;rfl
 clear hkd;have HIs:=aa hIs;have hlen:l.length=37:=by rw[hl];rfl
 have HSZ:Hid ((ab.info? 40).map (·.size)=some l.toArray.size):=aa (by rw[ar,hlen];kernel_rfl);have HL:=aa hl;have hga:=az w (.cells l.toArray 40);clear hl hlen hIs ;obtain⟨RS,hRS⟩:∃R:P12.T,R=([68,82,79,80,32,84,65,66,76,69,32]++nm):=⟨_,rfl⟩;rw[← hRS];have HRS:=aa hRS;clear hRS;go_enter Tryz.func15,Tryz.ntmps15;go_wp2_with (refine aE rfl 40 _ rfl w.heap.size _ 40 (0,0) _ rfl hga av rfl HSZ.out ?_);refine(HIs.out _ (dz _ _)).mono ?_;rintro e w1 ⟨rfl,hx1⟩;have HX1:=aa hx1;have lt1:=fw hx1;have kc:=aZ hx1 0 (.int .i64 kind) (by rw[HL.out];rfl);clear hx1 hga
 have q9:=aZ HX1.out 9 (ah) (by rw[HL.out];rfl);have q6:=aZ HX1.out 6 (bs nm) (by rw[HL.out];rfl);go_wp2_with fail;go_ret2;refine⟨?_,bG HX1.out⟩;exact congrArg (λx=>aP (.tuple #[.string x,.int .i64 0])) (by rw[HRS.out];apply bE;simp)
theorem xC(kind:Int)(hkd:kind=4)(nm:P12.T)(bnm:nm.length≤1000000)(l:List Value)(hl:l=cA kind [] ah ah ah ah nm [] false ah ah ah noE ah ah noE ah ah 0)(w:World)
  (hIs:∀W,Xk.Ext w W->Calls ab 14 #[.agg l.toArray] W λe w'=>e = .returned (.bool true)/\Xk.Ext W w') :
  Calls ab 15 #[.agg l.toArray] w λr w'=>r = .returned (.tuple #[bs ([68,82,79,80,32,73,78,68,69,88,32]++nm),.int .i64 0])/\Xk.Ext w w':=by
 have hn1:(kind==1)=false:=by subst hkd;rfl
 have hn2:(kind==2)=false:=by subst hkd;rfl
 have hn3:(kind==3)=false:=by subst hkd;rfl
 have hn4:(kind==4)=true:=by subst hkd;rfl
 clear hkd;have HIs:=aa hIs;have hlen:l.length=37:=by rw[hl];rfl
 have HSZ:Hid ((ab.info? 40).map (·.size)=some l.toArray.size):=aa (by rw[ar,hlen];kernel_rfl);have HL:=aa hl;have hga:=az w (.cells l.toArray 40);clear hl hlen hIs ;obtain⟨RS,hRS⟩:∃R:P12.T,R=([68,82,79,80,32,73,78,68,69,88,32]++nm):=⟨_,rfl⟩;rw[← hRS];have HRS:=aa hRS;clear hRS;go_enter Tryz.func15,Tryz.ntmps15;go_wp2_with (refine aE rfl 40 _ rfl w.heap.size _ 40 (0,0) _ rfl hga av rfl HSZ.out ?_);refine(HIs.out _ (dz _ _)).mono ?_;rintro e w1 ⟨rfl,hx1⟩;have HX1:=aa hx1;have lt1:=fw hx1;have kc:=aZ hx1 0 (.int .i64 kind) (by rw[HL.out];rfl);clear hx1 hga
 have q9:=aZ HX1.out 9 (ah) (by rw[HL.out];rfl);have q6:=aZ HX1.out 6 (bs nm) (by rw[HL.out];rfl);go_wp2_with fail;go_ret2;refine⟨?_,bG HX1.out⟩;exact congrArg (λx=>aP (.tuple #[.string x,.int .i64 0])) (by rw[HRS.out];apply bE;simp)
theorem zW(kind:Int)(hkd:kind=3)(nm on:P12.T)(bnm:nm.length≤1000000)(bon:on.length≤1000000)(p1:Option Addr)(n1 c1:Nat)(hn1':0<n1)(l:List Value)(hl:l=cA kind [] ah ah ah ah nm on true (.slice p1 n1 c1) ah ah noE ah ah noE ah ah 0)(w:World)
  (rc:P12.T) (brc:rc.length≤1000000000)
  (hC:∀W,Xk.Ext w W->Calls ab 45 #[.slice p1 n1 c1,.func (.func 46) #[] #[]] W λr w'=>r = .returned (bs rc)/\Xk.Ext W w')
  (hIs:∀W,Xk.Ext w W->Calls ab 14 #[.agg l.toArray] W λe w'=>e = .returned (.bool true)/\Xk.Ext W w') :
  Calls ab 15 #[.agg l.toArray] w λr w'=>r = .returned (.tuple #[bs ([67,82,69,65,84,69,32,85,78,73,81,85,69,32,73,78,68,69,88,32]++nm ++ [32,79,78,32]++on++([32,40]++rc ++ [41])),.int .i64 0])/\Xk.Ext w w':=by
 have HC:=aa hC;have hn1:(kind==1)=false:=by subst hkd;rfl
 have hn2:(kind==2)=false:=by subst hkd;rfl
 have hn3:(kind==3)=true:=by subst hkd;rfl
 clear hkd;have z4:(0:Int)<(n1:Int):=by omega
 have HIs:=aa hIs;have hlen:l.length=37:=by rw[hl];rfl
 have HSZ:Hid ((ab.info? 40).map (·.size)=some l.toArray.size):=aa (by rw[ar,hlen];kernel_rfl);have HL:=aa hl;have hga:=az w (.cells l.toArray 40);clear hl hlen hIs hC;obtain⟨RS,hRS⟩:∃R:P12.T,R=([67,82,69,65,84,69,32,85,78,73,81,85,69,32,73,78,68,69,88,32]++nm ++ [32,79,78,32]++on++([32,40]++rc ++ [41])):=⟨_,rfl⟩;rw[← hRS];have HRS:=aa hRS;clear hRS;go_enter Tryz.func15,Tryz.ntmps15;go_wp2_with (refine aE rfl 40 _ rfl w.heap.size _ 40 (0,0) _ rfl hga av rfl HSZ.out ?_);refine(HIs.out _ (dz _ _)).mono ?_;rintro e w1 ⟨rfl,hx1⟩;have HX1:=aa hx1;have lt1:=fw hx1
 have kc:=aZ hx1 0 (.int .i64 kind) (by rw[HL.out];rfl);clear hx1 hga;have q9:=aZ HX1.out 9 (.slice p1 n1 c1) (by rw[HL.out];rfl);go_wp2_with fail;refine(HC.out _ (bG HX1.out)).mono ?_;rintro e w2 ⟨rfl,hx2⟩;have HX2:=aa (Xk.Ext.trans HX1.out hx2);have lt2:=fw (Xk.Ext.trans HX1.out hx2);clear hx2 kc q9;have kc:=aZ HX2.out 0 (.int .i64 kind) (by rw[HL.out];rfl);have q6:=aZ HX2.out 6 (bs nm) (by rw[HL.out];rfl);have q7:=aZ HX2.out 7 (bs on) (by rw[HL.out];rfl);have q8:=aZ HX2.out 8 (.bool true) (by rw[HL.out];rfl);go_wp2_with fail;go_ret2;refine⟨?_,bG HX2.out⟩
 exact congrArg (λx=>aP (.tuple #[.string x,.int .i64 0])) (by rw[HRS.out];apply bE;simp)
theorem zX(kind:Int)(hkd:kind=3)(nm on:P12.T)(bnm:nm.length≤1000000)(bon:on.length≤1000000)(p1:Option Addr)(n1 c1:Nat)(hn1':0<n1)(l:List Value)(hl:l=cA kind [] ah ah ah ah nm on false (.slice p1 n1 c1) ah ah noE ah ah noE ah ah 0)(w:World)
  (rc:P12.T) (brc:rc.length≤1000000000)
  (hC:∀W,Xk.Ext w W->Calls ab 45 #[.slice p1 n1 c1,.func (.func 46) #[] #[]] W λr w'=>r = .returned (bs rc)/\Xk.Ext W w')
  (hIs:∀W,Xk.Ext w W->Calls ab 14 #[.agg l.toArray] W λe w'=>e = .returned (.bool true)/\Xk.Ext W w') :
  Calls ab 15 #[.agg l.toArray] w λr w'=>r = .returned (.tuple #[bs ([67,82,69,65,84,69,32,73,78,68,69,88,32]++nm ++ [32,79,78,32]++on++([32,40]++rc ++ [41])),.int .i64 0])/\Xk.Ext w w':=by
 have HC:=aa hC;have hn1:(kind==1)=false:=by subst hkd;rfl
 have hn2:(kind==2)=false:=by subst hkd;rfl
 have hn3:(kind==3)=true:=by subst hkd;rfl
 clear hkd;have z4:(0:Int)<(n1:Int):=by omega
 have HIs:=aa hIs;have hlen:l.length=37:=by rw[hl];rfl
 have HSZ:Hid ((ab.info? 40).map (·.size)=some l.toArray.size):=aa (by rw[ar,hlen];kernel_rfl);have HL:=aa hl;have hga:=az w (.cells l.toArray 40);clear hl hlen hIs hC;obtain⟨RS,hRS⟩:∃R:P12.T,R=([67,82,69,65,84,69,32,73,78,68,69,88,32]++nm ++ [32,79,78,32]++on++([32,40]++rc ++ [41])):=⟨_,rfl⟩;rw[← hRS];have HRS:=aa hRS;clear hRS;go_enter Tryz.func15,Tryz.ntmps15;go_wp2_with (refine aE rfl 40 _ rfl w.heap.size _ 40 (0,0) _ rfl hga av rfl HSZ.out ?_);refine(HIs.out _ (dz _ _)).mono ?_;rintro e w1 ⟨rfl,hx1⟩;have HX1:=aa hx1;have lt1:=fw hx1;have kc:=aZ hx1 0 (.int .i64 kind) (by rw[HL.out];rfl)
 clear hx1 hga;have q9:=aZ HX1.out 9 (.slice p1 n1 c1) (by rw[HL.out];rfl);go_wp2_with fail;refine(HC.out _ (bG HX1.out)).mono ?_;rintro e w2 ⟨rfl,hx2⟩;have HX2:=aa (Xk.Ext.trans HX1.out hx2);have lt2:=fw (Xk.Ext.trans HX1.out hx2);clear hx2 kc q9;have kc:=aZ HX2.out 0 (.int .i64 kind) (by rw[HL.out];rfl);have q6:=aZ HX2.out 6 (bs nm) (by rw[HL.out];rfl);have q7:=aZ HX2.out 7 (bs on) (by rw[HL.out];rfl);have q8:=aZ HX2.out 8 (.bool false) (by rw[HL.out];rfl);go_wp2_with fail;go_ret2;refine⟨?_,bG HX2.out⟩;exact congrArg (λx=>aP (.tuple #[.string x,.int .i64 0])) (by rw[HRS.out];apply bE;simp)
theorem zV(kind:Int)(hkd:kind=5)(nm:P12.T)(bnm:nm.length≤1000000)(p1 p2:Option Addr)(c1 n2 c2:Nat)(l:List Value)(hl:l=cA kind [] ah ah ah ah nm [] false (.slice p1 0 c1) (.slice p2 n2 c2) ah noE ah ah noE ah ah 0)(w:World)
  (rr:P12.T) (brr:rr.length≤1000000000)
  (hR:∀W,Xk.Ext w W->Calls ab 48 #[.slice p2 n2 c2,.func (.func 49) #[] #[]] W λr w'=>r = .returned (bs rr)/\Xk.Ext W w')
  (hIs:∀W,Xk.Ext w W->Calls ab 14 #[.agg l.toArray] W λe w'=>e = .returned (.bool true)/\Xk.Ext W w') :
  Calls ab 15 #[.agg l.toArray] w λr w'=>r = .returned (.tuple #[bs ([73,78,83,69,82,84,32,73,78,84,79,32]++nm ++ [32,86,65,76,85,69,83,32]++rr),.int .i64 0])/\Xk.Ext w w':=by
 have HR:=aa hR;have hn1:(kind==1)=false:=by subst hkd;rfl
 have hn2:(kind==2)=false:=by subst hkd;rfl
 have hn3:(kind==3)=false:=by subst hkd;rfl
 have hn4:(kind==4)=false:=by subst hkd;rfl
 have hn5:(kind==5)=true:=by subst hkd;rfl
 clear hkd;have HIs:=aa hIs;have hlen:l.length=37:=by rw[hl];rfl
 have HSZ:Hid ((ab.info? 40).map (·.size)=some l.toArray.size):=aa (by rw[ar,hlen];kernel_rfl);have HL:=aa hl;have hga:=az w (.cells l.toArray 40);clear hl hlen hIs hR;obtain⟨RS,hRS⟩:∃R:P12.T,R=([73,78,83,69,82,84,32,73,78,84,79,32]++nm ++ [32,86,65,76,85,69,83,32]++rr):=⟨_,rfl⟩;rw[← hRS];have HRS:=aa hRS;clear hRS;go_enter Tryz.func15,Tryz.ntmps15;go_wp2_with (refine aE rfl 40 _ rfl w.heap.size _ 40 (0,0) _ rfl hga av rfl HSZ.out ?_);refine(HIs.out _ (dz _ _)).mono ?_;rintro e w1 ⟨rfl,hx1⟩;have HX1:=aa hx1;have lt1:=fw hx1;have kc:=aZ hx1 0 (.int .i64 kind) (by rw[HL.out];rfl);clear hx1 hga
 have q9:=aZ HX1.out 9 (.slice p1 0 c1) (by rw[HL.out];rfl);have q6:=aZ HX1.out 6 (bs nm) (by rw[HL.out];rfl);have q10:=aZ HX1.out 10 (.slice p2 n2 c2) (by rw[HL.out];rfl);have m1:¬ 9223372036854775807<12+nm.length:=by omega
 have m2:¬ 9223372036854775807<12+nm.length+8:=by omega
 have m3:¬ 9223372036854775807<12+nm.length+8+rr.length:=by omega
 go_wp2_with fail;refine Xk.bL 12 [] trivial (by kernel_rfl) (by kernel_rfl) ?_;simp only[aA,aS,aG,aT]
 repeat(first
  | (refine Xk.ay (Xk.an (by rfl)) (by rfl) (λK hK=>?_);apply ai;refine⟨λp hp=>?_,?_⟩;(go_simp;first|exact⟨rfl,rfl⟩|((try refine⟨by kernel_rfl,?_⟩);((go_at_call 48;((with_reducible refine(HR.out _ (Xk.Ext.trans (bG HX1.out) Xk.xt)).mono ?_);exact λe w' h=>h)))));(go_simp;refine hK _ ?_;clear hK K))
  | (refine Xk.bu (by rfl) (λK hK=>?_);go_simp;refine hK _ ?_;clear hK K)
  | (refine Xk.ay (by rfl) (by rfl) (λK hK=>?_);apply ai;refine⟨λp hp=>?_,?_⟩;(go_simp;first|exact⟨rfl,rfl⟩|((try refine⟨by kernel_rfl,?_⟩);((go_at_call 48;((with_reducible refine(HR.out _ (Xk.Ext.trans (bG HX1.out) Xk.xt)).mono ?_);exact λe w' h=>h)))));(go_simp;refine hK _ ?_;clear hK K)))
 refine Xk.bm (λp _=>?_);obtain⟨W2,hW2⟩:∃W',W'=Xk.exw w1.drew p:=⟨_,rfl⟩;have hx2:Xk.Ext w1 W2:=by rw[hW2];exact Xk.xt
 rw[← hW2];clear hW2;have HX2:=aa (Xk.Ext.trans HX1.out hx2);clear hx2;go_wp2_with fail;go_ret2;refine⟨?_,bG HX2.out⟩;exact congrArg (λx=>aP (.tuple #[.string x,.int .i64 0])) (by rw[HRS.out];apply bE;simp)
theorem zU(kind:Int)(hkd:kind=5)(nm:P12.T)(bnm:nm.length≤1000000)(p1 p2:Option Addr)(n1 c1 n2 c2:Nat)(hn1':0<n1)(l:List Value)(hl:l=cA kind [] ah ah ah ah nm [] false (.slice p1 n1 c1) (.slice p2 n2 c2) ah noE ah ah noE ah ah 0)(w:World)
  (rc:P12.T) (brc:rc.length≤1000000000)
  (rr:P12.T) (brr:rr.length≤1000000000)
  (hC:∀W,Xk.Ext w W->Calls ab 45 #[.slice p1 n1 c1,.func (.func 46) #[] #[]] W λr w'=>r = .returned (bs rc)/\Xk.Ext W w')
  (hR:∀W,Xk.Ext w W->Calls ab 48 #[.slice p2 n2 c2,.func (.func 49) #[] #[]] W λr w'=>r = .returned (bs rr)/\Xk.Ext W w')
  (hIs:∀W,Xk.Ext w W->Calls ab 14 #[.agg l.toArray] W λe w'=>e = .returned (.bool true)/\Xk.Ext W w') :
  Calls ab 15 #[.agg l.toArray] w λr w'=>r = .returned (.tuple #[bs ([73,78,83,69,82,84,32,73,78,84,79,32]++nm++([32,40]++rc ++ [41])++ [32,86,65,76,85,69,83,32]++rr),.int .i64 0])/\Xk.Ext w w':=by
 have HC:=aa hC;have HR:=aa hR;have hn1:(kind==1)=false:=by subst hkd;rfl
 have hn2:(kind==2)=false:=by subst hkd;rfl
 have hn3:(kind==3)=false:=by subst hkd;rfl
 have hn4:(kind==4)=false:=by subst hkd;rfl
 have hn5:(kind==5)=true:=by subst hkd;rfl
 clear hkd;have z4:(0:Int)<(n1:Int):=by omega
 have HIs:=aa hIs;have hlen:l.length=37:=by rw[hl];rfl
 have HSZ:Hid ((ab.info? 40).map (·.size)=some l.toArray.size):=aa (by rw[ar,hlen];kernel_rfl);have HL:=aa hl;have hga:=az w (.cells l.toArray 40);clear hl hlen hIs hC hR;obtain⟨RS,hRS⟩:∃R:P12.T,R=([73,78,83,69,82,84,32,73,78,84,79,32]++nm++([32,40]++rc ++ [41])++ [32,86,65,76,85,69,83,32]++rr):=⟨_,rfl⟩;rw[← hRS];have HRS:=aa hRS;clear hRS;go_enter Tryz.func15,Tryz.ntmps15;go_wp2_with (refine aE rfl 40 _ rfl w.heap.size _ 40 (0,0) _ rfl hga av rfl HSZ.out ?_);refine(HIs.out _ (dz _ _)).mono ?_;rintro e w1 ⟨rfl,hx1⟩;have HX1:=aa hx1;have lt1:=fw hx1
 have kc:=aZ hx1 0 (.int .i64 kind) (by rw[HL.out];rfl);clear hx1 hga;have q9:=aZ HX1.out 9 (.slice p1 n1 c1) (by rw[HL.out];rfl);go_wp2_with fail;refine(HC.out _ (bG HX1.out)).mono ?_;rintro e w2 ⟨rfl,hx2⟩;have HX2:=aa (Xk.Ext.trans HX1.out hx2);have lt2:=fw (Xk.Ext.trans HX1.out hx2);clear hx2 kc q9;have kc:=aZ HX2.out 0 (.int .i64 kind) (by rw[HL.out];rfl);have q6:=aZ HX2.out 6 (bs nm) (by rw[HL.out];rfl);have q10:=aZ HX2.out 10 (.slice p2 n2 c2) (by rw[HL.out];rfl);go_wp2_with fail;rw[show(⟨#[32,40]⟩++⟨rc.toArray⟩++⟨#[41]⟩:ByteArray)=⟨([32,40]++rc ++ [41]).toArray⟩ by apply bE;simp]
 obtain⟨o1,ho1⟩:∃o,o = [32,40]++rc ++ [41]:=⟨_,rfl⟩;have bo:o1.length≤2000000000:=by rw[ho1];simp;omega
 rw[← ho1];have HO1:=aa ho1;clear ho1;have m1:¬ 9223372036854775807<12+nm.length:=by omega
 have m1b:¬ 9223372036854775807<12+nm.length+o1.length:=by omega
 have m2:¬ 9223372036854775807<12+nm.length+o1.length+8:=by omega
 have m3:¬ 9223372036854775807<12+nm.length+o1.length+8+rr.length:=by omega
 refine Xk.bL 12 [] trivial (by kernel_rfl) (by kernel_rfl) ?_;simp only[aA,aS,aG,aT]
 repeat(first
  | (refine Xk.ay (Xk.an (by rfl)) (by rfl) (λK hK=>?_);apply ai;refine⟨λp hp=>?_,?_⟩;(go_simp;first|exact⟨rfl,rfl⟩|((try refine⟨by kernel_rfl,?_⟩);((go_at_call 48;((with_reducible refine(HR.out _ (Xk.Ext.trans (bG HX2.out) Xk.xt)).mono ?_);exact λe w' h=>h)))));(go_simp;refine hK _ ?_;clear hK K))
  | (refine Xk.bu (by rfl) (λK hK=>?_);go_simp;refine hK _ ?_;clear hK K)
  | (refine Xk.ay (by rfl) (by rfl) (λK hK=>?_);apply ai;refine⟨λp hp=>?_,?_⟩;(go_simp;first|exact⟨rfl,rfl⟩|((try refine⟨by kernel_rfl,?_⟩);((go_at_call 48;((with_reducible refine(HR.out _ (Xk.Ext.trans (bG HX2.out) Xk.xt)).mono ?_);exact λe w' h=>h)))));(go_simp;refine hK _ ?_;clear hK K)))
 refine Xk.bm (λp _=>?_);obtain⟨W3,hW3⟩:∃W',W'=Xk.exw w2.drew p:=⟨_,rfl⟩;have hx3:Xk.Ext w2 W3:=by rw[hW3];exact Xk.xt
 rw[← hW3];clear hW3;have HX3:=aa (Xk.Ext.trans HX2.out hx3);clear hx3;go_wp2_with fail;go_ret2;refine⟨?_,bG HX3.out⟩;exact congrArg (λx=>aP (.tuple #[.string x,.int .i64 0])) (by rw[HRS.out];apply bE;simp[HO1.out])
theorem xD(kind:Int)(hkd:kind=9)(l:List Value)(hl:l=iK kind 0)(w:World)
  (hIs:∀W,Xk.Ext w W->Calls ab 14 #[.agg l.toArray] W λe w'=>e = .returned (.bool true)/\Xk.Ext W w') :
  Calls ab 15 #[.agg l.toArray] w λr w'=>r = .returned (.tuple #[bs ([66,69,71,73,78]),.int .i64 0])/\Xk.Ext w w':=by
 have hn1:(kind==1)=false:=by subst hkd;rfl
 have hn2:(kind==2)=false:=by subst hkd;rfl
 have hn3:(kind==3)=false:=by subst hkd;rfl
 have hn4:(kind==4)=false:=by subst hkd;rfl
 have hn5:(kind==5)=false:=by subst hkd;rfl
 have hn6:(kind==6)=false:=by subst hkd;rfl
 have hn7:(kind==7)=false:=by subst hkd;rfl
 have hn8:(kind==8)=false:=by subst hkd;rfl
 have HIs:=aa hIs;have hlen:l.length=37:=by rw[hl];rfl
 have HSZ:Hid ((ab.info? 40).map (·.size)=some l.toArray.size):=aa (by rw[ar,hlen];kernel_rfl);have HL:=aa hl;have hga:=az w (.cells l.toArray 40);clear hl hlen hIs ;obtain⟨RS,hRS⟩:∃R:P12.T,R=([66,69,71,73,78]):=⟨_,rfl⟩;rw[← hRS];have HRS:=aa hRS;clear hRS;go_enter Tryz.func15,Tryz.ntmps15;go_wp2_with (refine aE rfl 40 _ rfl w.heap.size _ 40 (0,0) _ rfl hga av rfl HSZ.out ?_);refine(HIs.out _ (dz _ _)).mono ?_;rintro e w1 ⟨rfl,hx1⟩;have HX1:=aa hx1;have lt1:=fw hx1;have kc:=aZ hx1 0 (.int .i64 kind) (by rw[HL.out];rfl);clear hx1 hga;have q9:=aZ HX1.out 9 (ah) (by rw[HL.out];rfl);subst hkd
 go_wp2_with fail;go_ret2;refine⟨?_,bG HX1.out⟩;rw[HRS.out];rfl
theorem vI(kind:Int)(hkd:kind=10)(l:List Value)(hl:l=iK kind 0)(w:World)
  (hIs:∀W,Xk.Ext w W->Calls ab 14 #[.agg l.toArray] W λe w'=>e = .returned (.bool true)/\Xk.Ext W w') :
  Calls ab 15 #[.agg l.toArray] w λr w'=>r = .returned (.tuple #[bs ([67,79,77,77,73,84]),.int .i64 0])/\Xk.Ext w w':=by
 have hn1:(kind==1)=false:=by subst hkd;rfl
 have hn2:(kind==2)=false:=by subst hkd;rfl
 have hn3:(kind==3)=false:=by subst hkd;rfl
 have hn4:(kind==4)=false:=by subst hkd;rfl
 have hn5:(kind==5)=false:=by subst hkd;rfl
 have hn6:(kind==6)=false:=by subst hkd;rfl
 have hn7:(kind==7)=false:=by subst hkd;rfl
 have hn8:(kind==8)=false:=by subst hkd;rfl
 have HIs:=aa hIs;have hlen:l.length=37:=by rw[hl];rfl
 have HSZ:Hid ((ab.info? 40).map (·.size)=some l.toArray.size):=aa (by rw[ar,hlen];kernel_rfl);have HL:=aa hl;have hga:=az w (.cells l.toArray 40);clear hl hlen hIs ;obtain⟨RS,hRS⟩:∃R:P12.T,R=([67,79,77,77,73,84]):=⟨_,rfl⟩;rw[← hRS];have HRS:=aa hRS;clear hRS;go_enter Tryz.func15,Tryz.ntmps15;go_wp2_with (refine aE rfl 40 _ rfl w.heap.size _ 40 (0,0) _ rfl hga av rfl HSZ.out ?_);refine(HIs.out _ (dz _ _)).mono ?_;rintro e w1 ⟨rfl,hx1⟩;have HX1:=aa hx1;have lt1:=fw hx1;have kc:=aZ hx1 0 (.int .i64 kind) (by rw[HL.out];rfl);clear hx1 hga;have q9:=aZ HX1.out 9 (ah) (by rw[HL.out];rfl);subst hkd
 go_wp2_with fail;go_ret2;refine⟨?_,bG HX1.out⟩;rw[HRS.out];rfl
theorem sT(kind:Int)(hkd:kind=11)(l:List Value)(hl:l=iK kind 0)(w:World)
  (hIs:∀W,Xk.Ext w W->Calls ab 14 #[.agg l.toArray] W λe w'=>e = .returned (.bool true)/\Xk.Ext W w') :
  Calls ab 15 #[.agg l.toArray] w λr w'=>r = .returned (.tuple #[bs ([82,79,76,76,66,65,67,75]),.int .i64 0])/\Xk.Ext w w':=by
 have hn1:(kind==1)=false:=by subst hkd;rfl
 have hn2:(kind==2)=false:=by subst hkd;rfl
 have hn3:(kind==3)=false:=by subst hkd;rfl
 have hn4:(kind==4)=false:=by subst hkd;rfl
 have hn5:(kind==5)=false:=by subst hkd;rfl
 have hn6:(kind==6)=false:=by subst hkd;rfl
 have hn7:(kind==7)=false:=by subst hkd;rfl
 have hn8:(kind==8)=false:=by subst hkd;rfl
 have HIs:=aa hIs;have hlen:l.length=37:=by rw[hl];rfl
 have HSZ:Hid ((ab.info? 40).map (·.size)=some l.toArray.size):=aa (by rw[ar,hlen];kernel_rfl);have HL:=aa hl;have hga:=az w (.cells l.toArray 40);clear hl hlen hIs ;obtain⟨RS,hRS⟩:∃R:P12.T,R=([82,79,76,76,66,65,67,75]):=⟨_,rfl⟩;rw[← hRS];have HRS:=aa hRS;clear hRS;go_enter Tryz.func15,Tryz.ntmps15;go_wp2_with (refine aE rfl 40 _ rfl w.heap.size _ 40 (0,0) _ rfl hga av rfl HSZ.out ?_);refine(HIs.out _ (dz _ _)).mono ?_;rintro e w1 ⟨rfl,hx1⟩;have HX1:=aa hx1;have lt1:=fw hx1;have kc:=aZ hx1 0 (.int .i64 kind) (by rw[HL.out];rfl);clear hx1 hga;have q9:=aZ HX1.out 9 (ah) (by rw[HL.out];rfl)
 subst hkd;go_wp2_with fail;go_ret2;refine⟨?_,bG HX1.out⟩;rw[HRS.out];rfl
theorem CG(kind:Int)(hkd:kind=1)(tn:P12.T)(p1 p2 p3 p4:Option Addr)(n1 n2 n3 n4 c1 c2 c3 c4:Nat)(l:List Value)(hl:l=cA kind tn (.slice p1 n1 c1) (.slice p2 n2 c2) (.slice p3 n3 c3) (.slice p4 n4 c4) [] [] false ah ah ah noE ah ah noE ah ah 0)(w:World)
  (tt:P12.T) (btt:tt.length≤8000000000)
  (hQ:∀W,Xk.Ext w W->Calls ab 47 #[.agg l.toArray] W λr w'=>r = .returned (bs tt)/\Xk.Ext W w')
  (hIs:∀W,Xk.Ext w W->Calls ab 14 #[.agg l.toArray] W λe w'=>e = .returned (.bool true)/\Xk.Ext W w') :
  Calls ab 15 #[.agg l.toArray] w λr w'=>r = .returned (.tuple #[bs (tt),.int .i64 0])/\Xk.Ext w w':=by
 have HQ:=aa hQ;have hn1:(kind==1)=true:=by subst hkd;rfl
 clear hkd;have HIs:=aa hIs;have hlen:l.length=37:=by rw[hl];rfl
 have HSZ:Hid ((ab.info? 40).map (·.size)=some l.toArray.size):=aa (by rw[ar,hlen];kernel_rfl);have HL:=aa hl;have hga:=az w (.cells l.toArray 40);clear hl hlen hIs hQ;obtain⟨RS,hRS⟩:∃R:P12.T,R=(tt):=⟨_,rfl⟩;rw[← hRS];have HRS:=aa hRS;clear hRS;go_enter Tryz.func15,Tryz.ntmps15;go_wp2_with (refine aE rfl 40 _ rfl w.heap.size _ 40 (0,0) _ rfl hga av rfl HSZ.out ?_);refine(HIs.out _ (dz _ _)).mono ?_;rintro e w1 ⟨rfl,hx1⟩;have HX1:=aa hx1;have lt1:=fw hx1;have kc:=aZ hx1 0 (.int .i64 kind) (by rw[HL.out];rfl);clear hx1 hga;have q9:=aZ HX1.out 9 (ah) (by rw[HL.out];rfl);have hb2:=wy HX1.out
 go_wp2_with (refine aE rfl 40 _ rfl w.heap.size _ 40 (0,0) _ rfl hb2 av rfl HSZ.out ?_);refine(HQ.out _ (bG HX1.out)).mono ?_;rintro e w2 ⟨rfl,hx2⟩;go_wp2_with fail;go_ret2;refine⟨?_,Xk.Ext.trans (bG HX1.out) hx2⟩;rw[HRS.out];rfl
end Go.Proofs.YtkpmclddjkebeaaGreatDoor
namespace P12
theorem join_cons(a b:T)(l:List T):join (a::b::l)=a ++ [44,32]++join (b::l):=by simp[join,nj,List.intercalate,List.intersperse]
theorem join_one(a:T):join [a]=a:=by simp[join,nj,List.intercalate]
theorem tA:∀ {l:List T} {a:T},a∈l->a.length≤(join l).length
 | [b],a,h=>by simp only[bW]at h;subst h;rw[join_one];exact ag _
 | b::c::l,a,h=>by
  rw[join_cons];simp only[aB];rcases aI.1 h with rfl|h
  ·omega
  ·have:=tA h;omega
theorem nM{α:Type}{l:List α}{f:α->T}{x:α}(h:x∈l){n:Nat}(hn:(join (l.map f)).length≤n):(f x).length≤n:=bH (tA (List.mem_map_of_mem h)) hn
theorem vS(x:Bool×E×T)(h:x.1=false):(text x.2.1).length≤(ey x).length/\(x.2.2 ≠ []->x.2.2.length≤(ey x).length):=by
 unfold ey;rw[if_neg (by rw[h];simp)];split
 ·exact⟨ag _,λh2=>absurd ‹_› h2⟩
 ·exact⟨by simp only[aB,aK,cM];omega,λ_=>by simp only[aB,aK,cM];omega⟩
theorem xK(o:E×Bool):(text o.1).length≤(ft o).length:=by
 unfold ft;split
 ·simp
 ·exact ag _
theorem xl(s:T×E):s.1.length≤(gX s).length/\(text s.2).length≤(gX s).length:=by
 unfold gX;simp only[aB,aK,cM];omega
theorem xy(l:List E):(join (l.map text)).length≤(iz l).length:=by
 unfold iz;simp only[aB,aK,cM];omega
theorem xd(s:T×T):s.1.length≤(eR s).length/\(s.2 ≠ []->s.2.length≤(eR s).length):=by
 unfold eR;split
 ·exact⟨ag _,λh=>absurd ‹_› h⟩
 ·exact⟨by simp only[aB,aK,cM];omega,λ_=>by simp only[aB,aK,cM];omega⟩
theorem ug{e:E}(h:noE e=false):(text e).length≤(dG e).length:=by
 unfold dG;rw[if_neg (by rw[h];simp)];simp only[aB,aK,cM];omega
end P12
namespace Go.Proofs.YtkpmclddjkebeaaGreatDoor
open Go.RowKit
theorem mz{S:Nat->Prop}{w W:World}{e:P12.E}{l:List Value}(hE:Env w)(h:aF S w e l)(hi:P12.isE e=true)(hb:(P12.text e).length≤1000000)(hx:Xk.Ext w W):Calls ab 51 #[.agg l.toArray] W λr w'=>r = .returned (bs (P12.text e))/\Xk.Ext W w':=
 lV e hi hb S W l (hE.ext hx) (h.ik hx)
theorem sA{S:Nat->Prop}{w W:World}{e:P12.E}{l:List Value}(hE:Env w)(h:aF S w e l)(hm:P12.eW e=true)(hb:(P12.dG e).length≤1000000)(hx:Xk.Ext w W):Calls ab 54 #[.agg l.toArray] W λr w'=>r = .returned (bs (P12.dG e))/\Xk.Ext W w':=by
 cases hn:P12.noE e
 ·have hi:P12.isE e=true:=by simpa[P12.eW,hn]using hm
  have hl:=P12.ug hn;have hT:=λW2 (hx2:Xk.Ext W W2)=>mz (W:=W2) hE h hi (by omega) (Xk.Ext.trans hx hx2);obtain⟨kd,op,vk,vi,vs,tb,nm,pp,pm,pc,rfl,hk⟩:=h.kind hi;have:=zn kd op vk vi vs tb nm pp pm pc hk (P12.text e) (by omega) W hT;unfold P12.dG;rw[hn];exact this
 ·cases e<;>first|cases hn|skip
  unfold aF at h;subst h;exact zo W
theorem qZ{S:Nat->Prop}{w W:World}{l:List P12.T}{v:Value}(h:aH S w 1 oO l v)(hl:l.length≤16)(hj:(P12.join l).length≤1000000)(hx:Xk.Ext w W):
  Calls ab 45 #[v,.func (.func 46) #[] #[]] W λr w'=>r = .returned (bs (P12.join l))/\Xk.Ext W w':=by
 have:=JJ AS (λx:P12.T=>x) W (h.iQ hx) (by omega) (by simpa using bH hj (by omega)) (λx u _ hu=>⟨x,hu⟩) (λx a hm hu W' _=>by
  have hu' : [bs a] = [bs x]:=hu;have e:bs a=bs x:=by injection hu'
  rw[e];exact Ay x W')
 simpa using this
theorem uZ{S:Nat->Prop}{w W:World}{l:List P12.E}{v:Value}(hE:Env w)(h:aH S w 10 (ez S w) l v)(hl:l.length≤16)(hi:∀x∈l,P12.isE x=true)(hj:(P12.join (l.map P12.text)).length≤1000000)(hx:Xk.Ext w W):
  Calls ab 50 #[v,.func (.func 51) #[] #[]] W λr w'=>r = .returned (bs (P12.join (l.map P12.text)))/\Xk.Ext W w':=
 Ii FM P12.text W (h.iQ hx) (by omega) (by omega) (λx u _ hu=>aF.form hu) (λx _ _ _ _ _ _ _ _ _ _ hm hu W' hx'=>mz hE hu (hi x hm) (P12.nM hm hj) (Xk.Ext.trans hx hx'))
theorem Eg{S:Nat->Prop}{w W:World}{l:List (List P12.E)}{v:Value}(hE:Env w)(h:aH S w 1 (xz S w) l v)(hl:l.length≤32)(hi:∀x∈l,P12.some x 16 P12.isE=true)(hj:(P12.join (l.map P12.iz)).length≤1000000)(hx:Xk.Ext w W):
  Calls ab 48 #[v,.func (.func 49) #[] #[]] W λr w'=>r = .returned (bs (P12.join (l.map P12.iz)))/\Xk.Ext W w':=
 JM FP P12.iz W (h.iQ hx) (by omega) (by omega) (λx u _ hu=>by
  obtain⟨v,rfl,hv⟩:=hu;obtain⟨p,c,rfl⟩:=hv.len;exact⟨_,_,_,rfl⟩) (λx pp pm pc hm hu W' hx'=>by
  obtain⟨v,e,hv⟩:=hu;have e2:mu pp pm pc=v:=by simpa using e
  subst e2;have hlen:=P12.nM hm hj;have hl2:=P12.xy x;obtain⟨q1,q2⟩:=dD (hi x hm);exact Es pp pm pc _ (by omega) W' (uZ hE hv q1.2 q2 (by omega) (Xk.Ext.trans hx hx')))
theorem Ed{S:Nat->Prop}{w W:World}{l:List (P12.T×P12.E)}{v:Value}(hE:Env w)(h:aH S w 12 (xm S w) l v)(hl:l.length≤16)(hi:∀x∈l,P12.isE x.2=true)(hj:(P12.join (l.map P12.gX)).length≤1000000)(hx:Xk.Ext w W):
  Calls ab 52 #[v,.func (.func 53) #[] #[]] W λr w'=>r = .returned (bs (P12.join (l.map P12.gX)))/\Xk.Ext W w':=
 JK FO P12.gX W (h.iQ hx) (by omega) (by omega) (λx u _ hu=>by
  obtain⟨l,rfl,hl⟩:=hu;obtain⟨kd,op,vk,vi,vs,tb,nm,pp,pm,pc,rfl⟩:=hl.form;exact⟨x.1,kd,op,vk,vi,vs,tb,nm,pp,pm,pc,rfl⟩) (λx a kd op vk vi vs tb nm pp pm pc hm hu W' hx'=>by
  obtain⟨l,e,hl⟩:=hu;have e1:bs a=bs x.1:=by injection e
  have e2:au kd op vk vi vs tb nm (.slice pp pm pc)=l:=by
   have h:=congrArg (ub 2) e;exact h
  subst e2;have hlen:=P12.nM hm hj;have hl2:=P12.xl x;rw[e1];exact Ep x.1 (by omega) kd op vk vi vs tb nm pp pm pc (P12.text x.2) (by omega) W' λW2 hx2=>mz hE hl (hi x hm) (by omega) (Xk.Ext.trans (Xk.Ext.trans hx hx') hx2))
theorem C8{S:Nat->Prop}{w W:World}{l:List (Bool×P12.E×P12.T)}{v:Value}(hE:Env w)(h:aH S w 12 (nh S w) l v)(hl:l.length≤16)(hi:∀x∈l,P12.iF x=true)(hj:(P12.join (l.map P12.ey)).length≤1000000)(hx:Xk.Ext w W):
  Calls ab 118 #[v,.func (.func 119) #[] #[]] W λr w'=>r = .returned (bs (P12.join (l.map P12.ey)))/\Xk.Ext W w':=
 Ig Dj P12.ey W (h.iQ hx) (by omega) (by omega) (λx u _ hu=>by
  obtain⟨l,rfl,hl⟩:=hu;obtain⟨kd,op,vk,vi,vs,tb,nm,pp,pm,pc,rfl⟩:=hl.form;exact⟨x.1,kd,op,vk,vi,vs,tb,nm,pp,pm,pc,x.2.2,rfl⟩) (λx b kd op vk vi vs tb nm pp pm pc a hm hu W' hx'=>by
  obtain⟨l,e,hl⟩:=hu;have e1:b=x.1:=wz (by injection e)
  have e3:au kd op vk vi vs tb nm (.slice pp pm pc)++ [bs a]=l ++ [bs x.2.2]:=by
   have h:=congrArg (ub 1) e;exact h
  obtain⟨e2,e4⟩:=nq e3 rfl;have e5:bs a=bs x.2.2:=by injection e4
  subst e2;have hp:=hi x hm;have hlen:=P12.nM hm hj;have hl2:=P12.vS x;obtain⟨xb,xe,xn⟩:=x;simp only at e1 e5 hl hp hl2;subst e1;rw[e5]
  cases b
  ·simp only[P12.iF,aV,if_false,aq]at hp;obtain⟨h1,h2⟩:=hl2 rfl;have hT:=λW2 (hx2:Xk.Ext W' W2)=>mz (W:=W2) hE hl hp.1 (by omega) (Xk.Ext.trans (Xk.Ext.trans hx hx') hx2);by_cases hn:xn = []
   ·subst hn;have:=Da kd op vk vi vs tb nm pp pm pc (P12.text xe) (by omega) W' hT;exact this
   ·have:=II xn (by have:=h2 hn;omega) hn kd op vk vi vs tb nm pp pm pc (P12.text xe) (by omega) W' hT;unfold P12.ey;rw[if_neg (by simp),if_neg hn];exact this
  ·simp only[P12.iF,if_true,aq,beq_iff_eq]at hp;obtain⟨hp1,rfl⟩:=hp
   cases xe<;>first|cases hp1|skip
   unfold aF at hl;rw[hl];exact C9 W')
theorem EG{S:Nat->Prop}{w W:World}{l:List (P12.E×Bool)}{v:Value}(hE:Env w)(h:aH S w 11 (uk S w) l v)(hl:l.length≤16)(hi:∀x∈l,P12.isE x.1=true)(hj:(P12.join (l.map P12.ft)).length≤1000000)(hx:Xk.Ext w W):
  Calls ab 121 #[v,.func (.func 122) #[] #[]] W λr w'=>r = .returned (bs (P12.join (l.map P12.ft)))/\Xk.Ext W w':=by
 refine JO FN P12.ft W (h.iQ hx) (by omega) (by omega) (λx u _ hu=>by
  obtain⟨l,rfl,hl⟩:=hu;obtain⟨kd,op,vk,vi,vs,tb,nm,pp,pm,pc,rfl⟩:=hl.form;exact⟨kd,op,vk,vi,vs,tb,nm,pp,pm,pc,x.2,rfl⟩) (λx kd op vk vi vs tb nm pp pm pc b hm hu W' hx'=>?_)
 obtain⟨l,e,hl⟩:=hu;obtain⟨e2,e3⟩:=nq e rfl;subst e2;have e4:b=x.2:=wz (by injection e3);have hlen:=P12.nM hm hj;have hl2:=P12.xK x;have hT:=λW2 (hx2:Xk.Ext W' W2)=>mz (W:=W2) hE hl (hi x hm) (by omega) (Xk.Ext.trans (Xk.Ext.trans hx hx') hx2);obtain⟨xe,xb⟩:=x;simp only at e4 hl2;subst e4
 cases b
 ·exact Ip kd op vk vi vs tb nm pp pm pc (P12.text xe) (by omega) W' hT
 ·exact EI kd op vk vi vs tb nm pp pm pc (P12.text xe) (by omega) W' hT
theorem qT(s:P12.T×P12.T)(hb:(P12.eR s).length≤1000000)(W:World):Calls ab 120 #[.agg #[bs s.1,bs s.2]] W λr w'=>r = .returned (bs (P12.eR s))/\Xk.Ext W w':=by
 obtain⟨h1,h2⟩:=P12.xd s;obtain⟨a,b⟩:=s;by_cases hn:b = []
 ·subst hn;exact zI a W
 ·have:=zH a b (by simp only at h1;omega) (by have:=h2 hn;simp only at this;omega) hn W;unfold P12.eR;rw[if_neg hn];exact this
theorem Em{S:Nat->Prop}{w:World}{x:P12.St}{l:List Value}(hk:x.kind=8)(hx:x=P12.eF x)(ho:P12.nG x=true)(hE:Env w)(h:dn S w x l)(hb:(P12.fq x).length≤1000000)(W:World)(hxW:Xk.Ext w W):
  Calls ab 55 #[.agg l.toArray] W λr w'=>r = .returned (bs (P12.fq x))/\Xk.Ext W w':=by
 have h:=h.bC (S':=S) (w':=W) (λb _ hl=>hxW.block b hl) (λb hb _=>hb);have hE:=hE.ext hxW;obtain⟨tc,tk,tq,kc,cols,rows,sets,wh,items,frm,jn,grp,ord,h⟩:=h;have hl:=AK h hx hk;simp only[P12.nG,aq,decide_eq_true_eq]at ho;obtain⟨⟨⟨⟨⟨⟨⟨⟨⟨a1,a2⟩,a3⟩,a4⟩,a5⟩,a6⟩,a7⟩,a8⟩,a9⟩,a10⟩:=ho;obtain⟨b1,b1'⟩:=dD a1;obtain⟨b2,b2'⟩:=dD a2;have a6':=bA.1 a6;have a8':=bA.1 a8
 have hgE:∀e∈x.group,P12.isE e=true:=λe he=>by
  have:=a6' e he
  cases e<;>first|cases this|exact this
 have lI:(P12.join (x.items.map P12.ey)).length≤1000000:=by unfold P12.fq at hb;simp only[aB]at hb;omega
 have lW:(P12.dG x.wher).length≤1000000:=by unfold P12.fq at hb;simp only[aB]at hb;omega
 have lG:x.group ≠ []->(P12.join (x.group.map P12.text)).length≤1000000:=λhn=>by unfold P12.fq at hb;rw[if_neg hn]at hb;simp only[aB]at hb;omega
 have lO:x.order ≠ []->(P12.join (x.order.map P12.ft)).length≤1000000:=λhn=>by unfold P12.fq at hb;rw[if_neg hn (c:=x.order = [])]at hb;simp only[aB]at hb;omega
 have lS:(P12.eR (x.frm.headD ([],[]))).length≤1000000:=by unfold P12.fq at hb;simp only[aB]at hb;omega
 have e1:=λW2 hx'=>C8 (W:=W2) hE h.items b1.2 b1' lI hx';have e3:=λW2 hx'=>sA (W:=W2) hE h.wh a3 lW hx';have e5:=λW2 hx' hn=>uZ (W:=W2) hE h.grp a5 hgE (lG hn) hx';have e6:=λW2 hx' hn=>EG (W:=W2) hE h.ord a7 (λo ho=>a8' o ho) (lO hn) hx';have hfr:=h.frm;obtain⟨p1,c1,rfl⟩:=h.items.len;obtain⟨p2,c2,rfl⟩:=h.frm.len;obtain⟨p3,c3,rfl⟩:=h.grp.len;obtain⟨p4,c4,rfl⟩:=h.ord.len;obtain⟨kw,ow,vkw,viw,vsw,tbw,nmw,qw,mw,dw,rfl⟩:=h.wh.form;have hgl:∀ {α:Type} {l:List α},l.length≠0->l ≠ []:=λh e=>h (by rw[e];rfl)
 have hifg:(if x.group.length=0 then([]:P12.T)else[32,71,82,79,85,80,32,66,89,32]++P12.join (x.group.map P12.text))=(if x.group = []then[]else[32,71,82,79,85,80,32,66,89,32]++P12.join (x.group.map P12.text)):=by
  cases x.group<;>rfl
 have hifo:(if x.order.length=0 then([]:P12.T)else[32,79,82,68,69,82,32,66,89,32]++P12.join (x.order.map P12.ft))=(if x.order = []then[]else[32,79,82,68,69,82,32,66,89,32]++P12.join (x.order.map P12.ft)):=by
  cases x.order<;>rfl
 match hf:x.frm,b2 with
 | [s],_=>
  rw[hf]at hfr hl a4 lS
  have hj:x.join = .none:=by
   rw[if_neg (by simp)]at a4
   cases hj2:x.join<;>rw[hj2]at a4<;>first|rfl|cases a4
  have hjn:=h.jn.zero hj;subst hjn;obtain⟨g,u,rfl,hu,hr⟩:=nD hfr (j:=0) (by simp);have hu':u = [bs s.1,bs s.2]:=hu;subst hu';rw[Nat.zero_mul]at hr;have e2:=λW2 (_:Xk.Ext W W2)=>qT s lS W2;by_cases hgz:x.group.length=0<;>by_cases hoz:x.order.length=0
  all_goals
   have:=CD _ _ a9 a10 p1 p3 p4 g _ c1 c2 _ c3 _ c4 s.1 s.2 kw ow vkw viw vsw tbw nmw qw mw dw l hl W hE (P12.join (x.items.map P12.ey)) (P12.eR s) (P12.dG x.wher) (if x.group.length=0 then[]else P12.join (x.group.map P12.text)) (if x.order.length=0 then[]else P12.join (x.order.map P12.ft)) (by omega) (by simp only[dV]at lS;omega) (by omega)
    (by first|(rw[if_pos hgz];simp)|(rw[if_neg hgz];have:=lG (hgl hgz);omega)) (by first|(rw[if_pos hoz];simp)|(rw[if_neg hoz];have:=lO (hgl hoz);omega)) hr e1 e2 e3
    (λhn W2 hx'=>by rw[if_neg hn];exact e5 W2 hx' (hgl hn)) (λhn W2 hx'=>by rw[if_neg hn];exact e6 W2 hx' (hgl hn))
   refine this.mono ?_;rintro r w' ⟨rfl,hw⟩;refine⟨congrArg (λt=>aP (bs t)) ?_,hw⟩;unfold P12.fq;rw[← hifg,← hifo,hf];simp[hgz,hoz]
 | [s,s'],_=>
  rw[hf]at hfr hl a4 lS;rw[if_pos (by simp)]at a4;have lS2:(P12.eR s').length≤1000000:=by unfold P12.fq at hb;rw[hf,if_neg (by simp)]at hb;simp only[aB,List.tail_cons,dV]at hb;omega
  have lJ:(P12.text x.join).length≤1000000:=by unfold P12.fq at hb;rw[hf,if_neg (by simp)]at hb;simp only[aB,List.tail_cons,dV]at hb;omega
  have e4:=λW2 hx'=>mz (W:=W2) hE h.jn a4 lJ hx';obtain⟨kj,oj,vkj,vij,vsj,tbj,nmj,qj,mj,dj,rfl⟩:=h.jn.form;obtain⟨g,u,hp,hu,hr⟩:=nD hfr (j:=0) (by simp);obtain⟨g',u',hp',hu',hr'⟩:=nD hfr (j:=1) (by simp);subst hp
  cases hp';have hu1:u = [bs s.1,bs s.2]:=hu;have hu2:u' = [bs s'.1,bs s'.2]:=hu';subst hu1 hu2
  have hrr:W.rangeAt g 0 [bs s.1,bs s.2,bs s'.1,bs s'.2]:=λj v hj=>by
   match j,hj with
   | 0,hj=>simpa using hr 0 v hj
   | 1,hj=>simpa using hr 1 v hj
   | 2,hj=>simpa using hr' 0 v hj
   | 3,hj=>simpa using hr' 1 v hj
  have e2:=λW2 (_:Xk.Ext W W2)=>qT s lS W2;have e2':=λW2 (_:Xk.Ext W W2)=>qT s' lS2 W2;by_cases hgz:x.group.length=0<;>by_cases hoz:x.order.length=0
  all_goals
   have:=CC _ _ a9 a10 p1 p3 p4 g _ c1 c2 _ c3 _ c4 s.1 s.2 s'.1 s'.2 kw ow vkw viw vsw tbw nmw qw mw dw kj oj vkj vij vsj tbj nmj qj mj dj l hl W hE (P12.join (x.items.map P12.ey)) (P12.eR s) (P12.dG x.wher) (if x.group.length=0 then[]else P12.join (x.group.map P12.text)) (if x.order.length=0 then[]else P12.join (x.order.map P12.ft)) (P12.eR s') (P12.text x.join) (by omega) (by simp only[dV]at lS;omega) (by omega)
    (by first|(rw[if_pos hgz];simp)|(rw[if_neg hgz];have:=lG (hgl hgz);omega)) (by first|(rw[if_pos hoz];simp)|(rw[if_neg hoz];have:=lO (hgl hoz);omega)) (by omega) (by omega) hrr e1 e2 e2' e4 e3
    (λhn W2 hx'=>by rw[if_neg hn];exact e5 W2 hx' (hgl hn)) (λhn W2 hx'=>by rw[if_neg hn];exact e6 W2 hx' (hgl hn))
   refine this.mono ?_;rintro r w' ⟨rfl,hw⟩;refine⟨congrArg (λt=>aP (bs t)) ?_,hw⟩;unfold P12.fq;rw[← hifg,← hifo,hf];simp[hgz,hoz]
theorem wW{S:Nat->Prop}{w:World}{x:P12.St}{l:List Value}(h:dn S w x l):l.toArray.all (·.oneCell')=true/\(ab.info? 40).map (·.size)=some l.toArray.size:=by
 have hlen:=h.length;refine⟨?_,by rw[ar,hlen];kernel_rfl⟩;obtain⟨tc,tk,tq,kc,cols,rows,sets,wh,items,frm,jn,grp,ord,h⟩:=h;rw[h.form];obtain⟨p1,c1,rfl⟩:=h.tc.len;obtain⟨p2,c2,rfl⟩:=h.tk.len;obtain⟨p3,c3,rfl⟩:=h.tq.len;obtain⟨p4,c4,rfl⟩:=h.kc.len;obtain⟨p5,c5,rfl⟩:=h.cols.len;obtain⟨p6,c6,rfl⟩:=h.rows.len;obtain⟨p7,c7,rfl⟩:=h.sets.len;obtain⟨p8,c8,rfl⟩:=h.items.len;obtain⟨p9,c9,rfl⟩:=h.frm.len;obtain⟨p10,c10,rfl⟩:=h.grp.len;obtain⟨p11,c11,rfl⟩:=h.ord.len;obtain⟨k1,o1,vk1,vi1,vs1,tb1,nm1,q1,m1,d1,rfl⟩:=h.wh.form;obtain⟨k2,o2,vk2,vi2,vs2,tb2,nm2,q2,m2,d2,rfl⟩:=h.jn.form;kernel_rfl
theorem dn.at{S:Nat->Prop}{w W:World}{x:P12.St}{l:List Value}(h:dn S w x l)(hx:Xk.Ext w W):dn S W x l:=h.bC (λb _ hl=>hx.block b hl) (λb hb _=>hb)
theorem rT{S:Nat->Prop}{w:World}{x:P12.St}{l:List Value}(hs:P12.isS x)(hk:x.kind=8)(hE:Env w)(h:dn S w x l)(hb:(P12.print x).length≤1000000):
  Calls ab 15 #[.agg l.toArray] w λr w'=>r = .returned (.tuple #[bs (P12.print x),.int .i64 0])/\Xk.Ext w w':=by
 have hp:P12.print x=P12.fq x:=by unfold P12.print;rw[if_neg (by omega),if_neg (by omega),if_neg (by omega),if_neg (by omega),if_neg (by omega),if_neg (by omega),if_neg (by omega),if_pos hk]
 rw[hp]at hb ⊢;have hQ:=λW hx=>Em hk hs.1 (qU hs hk) hE h hb W hx;have hI:∀W,Xk.Ext w W->Calls ab 14 #[.agg l.toArray] W λe w'=>e = .returned (.bool true)/\Xk.Ext W w':=λW hx=>Jr x hs hk S W l (h.at hx);obtain⟨tc,tk,tq,kc,cols,rows,sets,wh,items,frm,jn,grp,ord,h⟩:=h;have hl:=AK h hs.1 hk;obtain⟨p1,c1,rfl⟩:=h.items.len;obtain⟨p2,c2,rfl⟩:=h.frm.len;obtain⟨p3,c3,rfl⟩:=h.grp.len;obtain⟨p4,c4,rfl⟩:=h.ord.len;obtain⟨k1,o1,vk1,vi1,vs1,tb1,nm1,q1,m1,d1,rfl⟩:=h.wh.form;obtain⟨k2,o2,vk2,vi2,vs2,tb2,nm2,q2,m2,d2,rfl⟩:=h.jn.form
 exact CI _ _ hk p1 p2 p3 p4 _ c1 _ c2 _ c3 _ c4 k1 o1 vk1 vi1 vs1 tb1 nm1 q1 m1 d1 k2 o2 vk2 vi2 vs2 tb2 nm2 q2 m2 d2 l hl w (P12.fq x) (by omega) hQ hI
theorem C6:P12.isS P12.pB:=⟨rfl,.inr (.inr (.inr (.inr (.inr (.inr (.inr (.inl ⟨rfl,by kernel_rfl⟩)))))))⟩
theorem E7(w:World)(hE:Env w)(hP:wI w):Calls ab 10 #[] w λe w'=>e = .returned (.bool true)/\Xk.Ext w w':=by
 have HP1:Hid (∀W,Xk.Ext w W->Calls ab 11 #[.string ⟨#[115,101,108,101,99,116,32,97,46,120,43,49,32,97,115,32,121,32,102,114,111,109,32,116,32,97,32,119,104,101,114,101,32,110,111,116,32,120,32,61,32,39,98,39,32,108,105,109,105,116,32,51]⟩] W λe w'=>∃l,e = .returned (.tuple #[.agg l.toArray,.int .i64 0,.int .i64 0])/\Xk.Ext W w'/\dn (λb=>W.heap.size≤b) w' P12.pB l):=aa λW hx=>by
  have h:=qX ⟨#[115,101,108,101,99,116,32,97,46,120,43,49,32,97,115,32,121,32,102,114,111,109,32,116,32,97,32,119,104,101,114,101,32,110,111,116,32,120,32,61,32,39,98,39,32,108,105,109,105,116,32,51]⟩ W (hP.ext hx);rw[show P12.parse (⟨#[115,101,108,101,99,116,32,97,46,120,43,49,32,97,115,32,121,32,102,114,111,109,32,116,32,97,32,119,104,101,114,101,32,110,111,116,32,120,32,61,32,39,98,39,32,108,105,109,105,116,32,51]⟩:ByteArray).data.toList = .ok P12.pB from P12.Kc]at h;exact h.mono λe w' ⟨hb,l,he,hs⟩=>⟨l,he,hb,hs⟩
 have HP3:Hid (∀W,Xk.Ext w W->Calls ab 11 #[.string ⟨#[83,69,76,69,67,84,32,49,32,61,32,50,32,61,32,51,32,70,82,79,77,32,116]⟩] W λe w'=>∃l:List Value,e = .returned (.tuple #[.agg l.toArray,.int .i64 13,.int .i64 120])/\Xk.Ext W w'/\l=bg):=aa λW hx=>by
  have h:=qX ⟨#[83,69,76,69,67,84,32,49,32,61,32,50,32,61,32,51,32,70,82,79,77,32,116]⟩ W (hP.ext hx);rw[show P12.parse (⟨#[83,69,76,69,67,84,32,49,32,61,32,50,32,61,32,51,32,70,82,79,77,32,116]⟩:ByteArray).data.toList = .error (13,120)from P12.Kb]at h;exact h.mono λe w' ⟨hb,he⟩=>⟨bg,he,hb,rfl⟩
 have HPR:Hid (∀ (S:Nat->Prop) l W,Xk.Ext w W->dn S W P12.pB l->Calls ab 15 #[.agg l.toArray] W λr w'=>r = .returned (.tuple #[.string ⟨#[83,69,76,69,67,84,32,97,46,120,32,43,32,49,32,65,83,32,121,32,70,82,79,77,32,116,32,97,32,87,72,69,82,69,32,78,79,84,32,40,120,32,61,32,39,98,39,41,32,76,73,77,73,84,32,51]⟩,.int .i64 0])/\Xk.Ext W w'):=aa λS l W hx hs=>by
  have h:=rT C6 rfl (hE.ext hx) hs (by rw[P12.E8];decide);rw[P12.E8]at h;exact h
 clear hE hP;go_enter Tryz.func10,Tryz.ntmps10;go_wp2_with fail;refine(HP1.out _ (aj _ _)).mono ?_;rintro e w1 ⟨l1,rfl,hx1,hs1⟩;obtain⟨h1,h2⟩:=wW hs1;have hl1:=hs1.length;have HX1:=aa hx1;have HS1:=aa hs1;have H1:=aa h1;have H2:=aa h2;have HL1:=aa hl1;clear hx1 hs1 h1 h2 hl1
 go_wp2_with (first|((refine aM rfl 40 _ _ rfl (w1.heap.size) _ _ 40 rfl rfl ((az w1 _)) ((by rw[show l1.toArray.size=37 by rw[ar,HL1.out]];rfl)) (H2.out) (H1.out) ?_;intro w2 hp2);have hb2:=hp2.blk;have HX2:=aa (Xk.Ext.trans HX1.out (dN hp2 (dz w1 _) (ag _)));have HX12:=aa (dN hp2 (dz w1 _) (ag _));clear hp2)|(refine aE rfl 40 _ rfl w1.heap.size _ 40 (0,0) _ rfl hb2 av rfl H2.out ?_));refine(HPR.out _ l1 _ HX2.out (HS1.out.at HX12.out)).mono ?_;rintro e w3 ⟨rfl,hx3⟩;have HX3:=aa (Xk.Ext.trans HX2.out hx3);clear hx3 hb2;go_wp2_with fail;refine(HP3.out _ HX3.out).mono ?_
 rintro e w4 ⟨l4,rfl,hx4,hl4⟩;have HX4:=aa (Xk.Ext.trans HX3.out hx4);have G1:Hid (l4.toArray.all (·.oneCell')=true):=aa (by rw[hl4];kernel_rfl);have G2:Hid ((ab.info? 40).map (·.size)=some l4.toArray.size):=aa (by rw[hl4];kernel_rfl);have G3:Hid (l4.toArray.size=37):=aa (by rw[hl4];rfl);clear hx4 hl4;go_wp2_with ((refine aM rfl 40 _ _ rfl (w4.heap.size) _ _ 40 rfl rfl ((az w4 _)) ((by rw[G3.out];rfl)) (G2.out) (G1.out) ?_;intro w5 hp5));go_ret;exact⟨rfl,Xk.Ext.trans HX4.out (dN hp5 (dz w4 _) (ag _))⟩
end Go.Proofs.YtkpmclddjkebeaaGreatDoor
