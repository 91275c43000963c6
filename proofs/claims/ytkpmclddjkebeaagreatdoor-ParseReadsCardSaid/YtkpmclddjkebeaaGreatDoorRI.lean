/- What the claim's proof leans on, part 9: walks of functions and plain laws. -/
import Derived.Test.YtkpmclddjkebeaaGreatDoorRH
import Derived.Test.YtkpmclddjkebeaaGreatDoorRC
set_option linter.unusedSimpArgs false
set_option linter.unusedVariables false
set_option maxRecDepth 100000
set_option maxHeartbeats 80000000
open Array renaming getElem?_eq_some_iff→ae,getElem?_toList→pK
open Bool renaming and_eq_true→aT,false_eq_true→aS,not_eq_true'→jd,or_eq_true→fu
open Exists renaming intro→aU
open Go.ByteArray renaming toList_eq→nT
open Go.Ending renaming returned→cm
open Go.Instr renaming build→cR
open Go.Lib renaming hid→aa,itoa→lM,join→D8,toUpperA→iR,upperB→fH
open Go.Proofs.Tryz renaming prog→af,underlying35→aA,underlying40→aB,underlying88→fJ,underlying90→uH
open Go.Result renaming andThen_ok→oZ
open Go.RowKit.Below renaming refl→al
open Go.Value renaming bool→bT,int→lK
open Go.World renaming block_lt_of_cell?→ay,cell?→ak,ownsRow_nil→qA,size_alloc→ag,size_drew→bM
open Go renaming bodyPost_ret→ar,frozen_of_row→aD
open List renaming all_eq_true→ft,append_eq→xB,cons_append→fV,drop_succ_cons→aL,drop_zero→bd,eq_nil_of_length_eq_zero→iQ,getD_eq_getElem?_getD→ep,getElem?_eq_getElem→aZ,getElem?_eq_some_iff→cr,getElem?_map→jA,getElem?_take→di,getElem_mem→i6,length_append→aN,length_cons→aW,length_map→gW,length_nil→mc,map_cons→zW,mem_append→kh,mem_cons→aJ,mem_cons_of_mem→cV,mem_cons_self→cy,mem_singleton→dr,nil_append→zQ,not_mem_nil→aF,size_toArray→aP,take_succ_cons→aG,take_zero→aY
open Nat renaming le_refl→ai,le_trans→bI,lt_of_lt_of_le→aK,zero_add→eF
open Option renaming map_eq_some_iff→fF,some→mE
open UInt8 renaming le_iff_toNat_le→fp
namespace Go.Proofs.YtkpmclddjkebeaaGreatDoor
open Go.RowKit
theorem aE.len{α:Type}{S:Nat->Prop}{w:World}{sz:Nat}{R:α->List Value->Prop}{l:List α}{v:Value}(h:aE S w sz R l v):∃p c,v = .slice p l.length c:=by
 rcases h with⟨rfl,rfl⟩|⟨g,c,us,rfl,-⟩
 ·exact⟨_,_,rfl⟩
 ·exact⟨_,_,rfl⟩
theorem aE.root{α:Type}{S:Nat->Prop}{w:World}{sz:Nat}{R:α->List Value->Prop}{l:List α}{p:Option Addr}{n c:Nat}(h:aE S w sz R l (.slice p n c))(hl:0<l.length):∃g,p=some ⟨g,0,none⟩:=by
 rcases h with⟨rfl,-⟩|⟨g,c,us,e,-⟩
 ·simp at hl
 ·cases e;exact⟨g,rfl⟩
theorem D5{FI:FuncId}(hent:Ent FI)(kd op vk vi:Int)(vs tb nm:P12.T)(pp:Option Addr)(pm pc:Nat)(bx:Nat)(W:World)(hb:W.cell? ⟨bx,0,none⟩=some (.func (.func FI) #[] #[]))(hF:∀W',Xk.Ext W W'->Calls af FI #[.agg (ao kd op vk vi vs tb nm (.slice pp pm pc)).toArray] W' λe w'=>e = .returned (.bool true)/\Xk.Ext W' w'):
  Calls af 177 #[.agg (ao kd op vk vi vs tb nm (.slice pp pm pc)).toArray,.pointer (some ⟨bx,0,none⟩)] W λe w'=>e = .returned (.bool false)/\Xk.Ext W w':=by
 have hnot:=mS;have HF:=aa hF;have hcf:=hent.run;have hci:=hent.no;have lb:=ay _ _ hb;clear hF hent;go_enter Tryz.func177,Tryz.ntmps177;go_wp2_with (first|(refine bJ rfl 35 _ rfl (W.heap.size) _ 35 (0,0) _ rfl (aw W _) aA rfl au ?_)|fail);refine(HF.out _ Xk.xt).mono ?_;rintro e w' ⟨rfl,hx⟩;go_wp2_with fail;go_ret;exact⟨rfl,Xk.Ext.trans Xk.xt hx⟩
theorem vB:Ent 177:=⟨λ_ _=>by go_simp,by decide⟩
theorem BL{α:Type}{FI:FuncId}(hent:Ent FI){S:Nat->Prop}{R:α->List Value->Prop}{l:List α}{v:Value}(w:World)(h:aE S w 10 R l v)(hl:l.length≤1000000)(hform:∀x u,x∈l->R x u->∃kd op vk vi:Int,∃vs tb nm:P12.T,∃pp:Option Addr,∃pm pc:Nat, u=ao kd op vk vi vs tb nm (.slice pp pm pc))(bx:Nat)(hb:w.cell? ⟨bx,0,none⟩=some (.func (.func FI) #[] #[]))
  (hF:∀x (kd op vk vi:Int) (vs tb nm:P12.T) (pp:Option Addr) (pm pc:Nat),x∈l->R x (ao kd op vk vi vs tb nm (.slice pp pm pc))->∀W,Xk.Ext w W->Calls af FI #[.agg (ao kd op vk vi vs tb nm (.slice pp pm pc)).toArray] W λe w'=>e = .returned (.bool true)/\Xk.Ext W w') :
  Calls af 220 #[v,.func (.func 177) #[] #[.pointer (some ⟨bx,0,none⟩)]] w λe w'=>e = .returned (.int .i64 (-1))/\Xk.Ext w w':=by
 have hcf:=vB.run;have hci:=vB.no;have HF:=aa hF;have HS:=aa h;have HFM:=aa hform;obtain⟨p,c,rfl⟩:=h.len;clear hF hform h;go_enter Tryz.func220,Tryz.ntmps220;go_wp2_with fail;go_loopw [8] (λx wr=>∃q:Nat,q≤l.length/\x = .int .i64 q/\Xk.Ext w wr) (λx _=>l.length-(intOf x).toNat)
 case atStart=>exact⟨0,by omega,rfl,al _ _⟩
 case round=>
  obtain⟨q,hq,rfl,hx⟩:=hrel;have HX:=aa hx;clear hx;by_cases hlt:q<l.length
  ·obtain⟨g,rfl⟩:=HS.out.root ab;obtain⟨-,-,he⟩:=HS.out.elem;obtain⟨u,hu,-,hr⟩:=he q _ (aZ hlt);have hmem:=i6 hlt;obtain⟨kd,op,vk,vi,vs,tb,nm,pp,pm,pc,rfl⟩:=HFM.out _ _ hmem hu;have hg:=ay _ _ (hr 0 _ rfl);have HRJ:=aa (eV hr (HX.out.block g hg));have hbr:=Xk.bO HX.out hb;have HC:=aa (D5 hent kd op vk vi vs tb nm pp pm pc bx wr hbr (λW' hx'=>HF.out _ kd op vk vi vs tb nm pp pm pc hmem hu W' (Xk.Ext.trans HX.out hx')));have hlb:(q:Int)<(l.length:Int):=ab;have hwg:g<wr.heap.size:=aK hg HX.out.size
   
   clear hr hu he hbr;go_wp2_with (first|(refine wpList_load_mid rfl 35 _ rfl g (q*10) rfl _ _ HRJ.out aA rfl au ?_));refine HC.out.mono ?_;rintro e w' ⟨rfl,hx'⟩;go_wp2_with fail;go_roundw
   case rel=>exact⟨q+1,by omega,by go_num,Xk.Ext.trans HX.out hx'⟩
   case measure=>simp[intOf];omega
  ·have hlb:¬ (q:Int)<(l.length:Int):=ab;go_wp2_with fail;go_ret;exact⟨rfl,HX.out⟩
theorem kG{α:Type}{FI:FuncId}(hent:Ent FI){S:Nat->Prop}{R:α->List Value->Prop}{l:List α}{v:Value}(w:World)(h:aE S w 10 R l v)(hl:l.length≤1000000)(hform:∀x u,x∈l->R x u->∃kd op vk vi:Int,∃vs tb nm:P12.T,∃pp:Option Addr,∃pm pc:Nat, u=ao kd op vk vi vs tb nm (.slice pp pm pc))
  (hF:∀x (kd op vk vi:Int) (vs tb nm:P12.T) (pp:Option Addr) (pm pc:Nat),x∈l->R x (ao kd op vk vi vs tb nm (.slice pp pm pc))->∀W,Xk.Ext w W->Calls af FI #[.agg (ao kd op vk vi vs tb nm (.slice pp pm pc)).toArray] W λe w'=>e = .returned (.bool true)/\Xk.Ext W w') :
  Calls af 101 #[v,.func (.func FI) #[] #[]] w λe w'=>e = .returned (.bool true)/\Xk.Ext w w':=by
 have hmf:=nF;have hnot:=mS;have hxa:Xk.Ext w (w.alloc (.cells #[.func (.func FI) #[] #[]] 94)):=(al _ _).alloc (ai _) _
 have HI:=aa (BL hent (w.alloc (.cells #[.func (.func FI) #[] #[]] 94)) (h.bg (λb _ hl=>hxa.block b hl) (λ_ hb _=>hb) (λ_ _ h=>h)) hl hform w.heap.size (ju w _ _)
  (λx kd op vk vi vs tb nm pp pm pc hm hr W hx=>hF x kd op vk vi vs tb nm pp pm pc hm hr W (Xk.Ext.trans hxa hx)))
 have HXA:=aa hxa;clear hF hform h hxa;go_enter Tryz.func101,Tryz.ntmps101;go_wp2_with (go_at_call 176;go_in);refine HI.out.mono ?_;rintro e w' ⟨rfl,hx'⟩;go_wp2_with fail;go_ret;exact⟨rfl,Xk.Ext.trans HXA.out hx'⟩
theorem D4{FI:FuncId}(hent:Ent FI)(b:Bool)(kd op vk vi:Int)(vs tb nm:P12.T)(pp:Option Addr)(pm pc:Nat)(a:P12.T)(bx:Nat)(W:World)(hb:W.cell? ⟨bx,0,none⟩=some (.func (.func FI) #[] #[]))(hF:∀W',Xk.Ext W W'->Calls af FI #[.agg (bT b::(ao kd op vk vi vs tb nm (.slice pp pm pc)++ [bs a])).toArray] W' λe w'=>e = .returned (.bool true)/\Xk.Ext W' w'):
  Calls af 225 #[.agg (bT b::(ao kd op vk vi vs tb nm (.slice pp pm pc)++ [bs a])).toArray,.pointer (some ⟨bx,0,none⟩)] W λe w'=>e = .returned (.bool false)/\Xk.Ext W w':=by
 have hnot:=mS;have HF:=aa hF;have hcf:=hent.run;have hci:=hent.no;have lb:=ay _ _ hb;clear hF hent;go_enter Tryz.func225,Tryz.ntmps225;go_wp2_with (first|(refine bJ rfl 88 _ rfl (W.heap.size) _ 88 (0,0) _ rfl (aw W _) fJ rfl au ?_)|fail);refine(HF.out _ Xk.xt).mono ?_;rintro e w' ⟨rfl,hx⟩;go_wp2_with fail;go_ret;exact⟨rfl,Xk.Ext.trans Xk.xt hx⟩
theorem vA:Ent 225:=⟨λ_ _=>by go_simp,by decide⟩
theorem BK{α:Type}{FI:FuncId}(hent:Ent FI){S:Nat->Prop}{R:α->List Value->Prop}{l:List α}{v:Value}(w:World)(h:aE S w 12 R l v)(hl:l.length≤1000000)(hform:∀x u,x∈l->R x u->∃b:Bool,∃kd op vk vi:Int,∃vs tb nm:P12.T,∃pp:Option Addr,∃pm pc:Nat,∃a:P12.T, u=bT b::(ao kd op vk vi vs tb nm (.slice pp pm pc)++ [bs a]))(bx:Nat)(hb:w.cell? ⟨bx,0,none⟩=some (.func (.func FI) #[] #[]))
  (hF:∀x (b:Bool) (kd op vk vi:Int) (vs tb nm:P12.T) (pp:Option Addr) (pm pc:Nat) (a:P12.T),x∈l->R x (bT b::(ao kd op vk vi vs tb nm (.slice pp pm pc)++ [bs a]))->∀W,Xk.Ext w W->Calls af FI #[.agg (bT b::(ao kd op vk vi vs tb nm (.slice pp pm pc)++ [bs a])).toArray] W λe w'=>e = .returned (.bool true)/\Xk.Ext W w') :
  Calls af 249 #[v,.func (.func 225) #[] #[.pointer (some ⟨bx,0,none⟩)]] w λe w'=>e = .returned (.int .i64 (-1))/\Xk.Ext w w':=by
 have hcf:=vA.run;have hci:=vA.no;have HF:=aa hF;have HS:=aa h;have HFM:=aa hform;obtain⟨p,c,rfl⟩:=h.len;clear hF hform h;go_enter Tryz.func249,Tryz.ntmps249;go_wp2_with fail;go_loopw [8] (λx wr=>∃q:Nat,q≤l.length/\x = .int .i64 q/\Xk.Ext w wr) (λx _=>l.length-(intOf x).toNat)
 case atStart=>exact⟨0,by omega,rfl,al _ _⟩
 case round=>
  obtain⟨q,hq,rfl,hx⟩:=hrel;have HX:=aa hx;clear hx;by_cases hlt:q<l.length
  ·obtain⟨g,rfl⟩:=HS.out.root ab;obtain⟨-,-,he⟩:=HS.out.elem;obtain⟨u,hu,-,hr⟩:=he q _ (aZ hlt);have hmem:=i6 hlt;obtain⟨b,kd,op,vk,vi,vs,tb,nm,pp,pm,pc,a,rfl⟩:=HFM.out _ _ hmem hu;have hg:=ay _ _ (hr 0 _ rfl);have HRJ:=aa (eV hr (HX.out.block g hg));have hbr:=Xk.bO HX.out hb;have HC:=aa (D4 hent b kd op vk vi vs tb nm pp pm pc a bx wr hbr (λW' hx'=>HF.out _ b kd op vk vi vs tb nm pp pm pc a hmem hu W' (Xk.Ext.trans HX.out hx')));have hlb:(q:Int)<(l.length:Int):=ab;have hwg:g<wr.heap.size:=aK hg HX.out.size
   
   clear hr hu he hbr;go_wp2_with (first|(refine wpList_load_mid rfl 88 _ rfl g (q*12) rfl _ _ HRJ.out fJ rfl au ?_));refine HC.out.mono ?_;rintro e w' ⟨rfl,hx'⟩;go_wp2_with fail;go_roundw
   case rel=>exact⟨q+1,by omega,by go_num,Xk.Ext.trans HX.out hx'⟩
   case measure=>simp[intOf];omega
  ·have hlb:¬ (q:Int)<(l.length:Int):=ab;go_wp2_with fail;go_ret;exact⟨rfl,HX.out⟩
theorem D2{α:Type}{FI:FuncId}(hent:Ent FI){S:Nat->Prop}{R:α->List Value->Prop}{l:List α}{v:Value}(w:World)(h:aE S w 12 R l v)(hl:l.length≤1000000)(hform:∀x u,x∈l->R x u->∃b:Bool,∃kd op vk vi:Int,∃vs tb nm:P12.T,∃pp:Option Addr,∃pm pc:Nat,∃a:P12.T, u=bT b::(ao kd op vk vi vs tb nm (.slice pp pm pc)++ [bs a]))
  (hF:∀x (b:Bool) (kd op vk vi:Int) (vs tb nm:P12.T) (pp:Option Addr) (pm pc:Nat) (a:P12.T),x∈l->R x (bT b::(ao kd op vk vi vs tb nm (.slice pp pm pc)++ [bs a]))->∀W,Xk.Ext w W->Calls af FI #[.agg (bT b::(ao kd op vk vi vs tb nm (.slice pp pm pc)++ [bs a])).toArray] W λe w'=>e = .returned (.bool true)/\Xk.Ext W w') :
  Calls af 186 #[v,.func (.func FI) #[] #[]] w λe w'=>e = .returned (.bool true)/\Xk.Ext w w':=by
 have hmf:=nF;have hnot:=mS;have hxa:Xk.Ext w (w.alloc (.cells #[.func (.func FI) #[] #[]] 150)):=(al _ _).alloc (ai _) _
 have HI:=aa (BK hent (w.alloc (.cells #[.func (.func FI) #[] #[]] 150)) (h.bg (λb _ hl=>hxa.block b hl) (λ_ hb _=>hb) (λ_ _ h=>h)) hl hform w.heap.size (ju w _ _)
  (λx b kd op vk vi vs tb nm pp pm pc a hm hr W hx=>hF x b kd op vk vi vs tb nm pp pm pc a hm hr W (Xk.Ext.trans hxa hx)))
 have HXA:=aa hxa;clear hF hform h hxa;go_enter Tryz.func186,Tryz.ntmps186;go_wp2_with (go_at_call 224;go_in);refine HI.out.mono ?_;rintro e w' ⟨rfl,hx'⟩;go_wp2_with fail;go_ret;exact⟨rfl,Xk.Ext.trans HXA.out hx'⟩
theorem Gq{FI:FuncId}(hent:Ent FI)(a b:P12.T)(bx:Nat)(W:World)(hb:W.cell? ⟨bx,0,none⟩=some (.func (.func FI) #[] #[]))(hF:∀W',Xk.Ext W W'->Calls af FI #[.agg ([bs a,bs b]).toArray] W' λe w'=>e = .returned (.bool true)/\Xk.Ext W' w'):
  Calls af 227 #[.agg ([bs a,bs b]).toArray,.pointer (some ⟨bx,0,none⟩)] W λe w'=>e = .returned (.bool false)/\Xk.Ext W w':=by
 have hnot:=mS;have HF:=aa hF;have hcf:=hent.run;have hci:=hent.no;have lb:=ay _ _ hb;clear hF hent;go_enter Tryz.func227,Tryz.ntmps227;go_wp2_with (first|(refine bJ rfl 90 _ rfl (W.heap.size) _ 90 (0,0) _ rfl (aw W _) uH rfl au ?_)|fail);refine(HF.out _ Xk.xt).mono ?_;rintro e w' ⟨rfl,hx⟩;go_wp2_with fail;go_ret;exact⟨rfl,Xk.Ext.trans Xk.xt hx⟩
theorem zt:Ent 227:=⟨λ_ _=>by go_simp,by decide⟩
theorem D3{α:Type}{FI:FuncId}(hent:Ent FI){S:Nat->Prop}{R:α->List Value->Prop}{l:List α}{v:Value}(w:World)(h:aE S w 2 R l v)(hl:l.length≤1000000)(hform:∀x u,x∈l->R x u->∃a b:P12.T, u = [bs a,bs b])(bx:Nat)(hb:w.cell? ⟨bx,0,none⟩=some (.func (.func FI) #[] #[]))
  (hF:∀x (a b:P12.T),x∈l->R x ([bs a,bs b])->∀W,Xk.Ext w W->Calls af FI #[.agg ([bs a,bs b]).toArray] W λe w'=>e = .returned (.bool true)/\Xk.Ext W w') :
  Calls af 250 #[v,.func (.func 227) #[] #[.pointer (some ⟨bx,0,none⟩)]] w λe w'=>e = .returned (.int .i64 (-1))/\Xk.Ext w w':=by
 have hcf:=zt.run;have hci:=zt.no;have HF:=aa hF;have HS:=aa h;have HFM:=aa hform;obtain⟨p,c,rfl⟩:=h.len;clear hF hform h;go_enter Tryz.func250,Tryz.ntmps250;go_wp2_with fail;go_loopw [8] (λx wr=>∃q:Nat,q≤l.length/\x = .int .i64 q/\Xk.Ext w wr) (λx _=>l.length-(intOf x).toNat)
 case atStart=>exact⟨0,by omega,rfl,al _ _⟩
 case round=>
  obtain⟨q,hq,rfl,hx⟩:=hrel;have HX:=aa hx;clear hx;by_cases hlt:q<l.length
  ·obtain⟨g,rfl⟩:=HS.out.root ab;obtain⟨-,-,he⟩:=HS.out.elem;obtain⟨u,hu,-,hr⟩:=he q _ (aZ hlt);have hmem:=i6 hlt;obtain⟨a,b,rfl⟩:=HFM.out _ _ hmem hu;have hg:=ay _ _ (hr 0 _ rfl);have HRJ:=aa (eV hr (HX.out.block g hg));have hbr:=Xk.bO HX.out hb;have HC:=aa (Gq hent a b bx wr hbr (λW' hx'=>HF.out _ a b hmem hu W' (Xk.Ext.trans HX.out hx')));have hlb:(q:Int)<(l.length:Int):=ab;have hwg:g<wr.heap.size:=aK hg HX.out.size
   
   clear hr hu he hbr;go_wp2_with (first|(refine wpList_load_mid rfl 90 _ rfl g (q*2) rfl _ _ HRJ.out uH rfl au ?_));refine HC.out.mono ?_;rintro e w' ⟨rfl,hx'⟩;go_wp2_with fail;go_roundw
   case rel=>exact⟨q+1,by omega,by go_num,Xk.Ext.trans HX.out hx'⟩
   case measure=>simp[intOf];omega
  ·have hlb:¬ (q:Int)<(l.length:Int):=ab;go_wp2_with fail;go_ret;exact⟨rfl,HX.out⟩
theorem Gp{α:Type}{FI:FuncId}(hent:Ent FI){S:Nat->Prop}{R:α->List Value->Prop}{l:List α}{v:Value}(w:World)(h:aE S w 2 R l v)(hl:l.length≤1000000)(hform:∀x u,x∈l->R x u->∃a b:P12.T, u = [bs a,bs b])
  (hF:∀x (a b:P12.T),x∈l->R x ([bs a,bs b])->∀W,Xk.Ext w W->Calls af FI #[.agg ([bs a,bs b]).toArray] W λe w'=>e = .returned (.bool true)/\Xk.Ext W w') :
  Calls af 187 #[v,.func (.func FI) #[] #[]] w λe w'=>e = .returned (.bool true)/\Xk.Ext w w':=by
 have hmf:=nF;have hnot:=mS;have hxa:Xk.Ext w (w.alloc (.cells #[.func (.func FI) #[] #[]] 151)):=(al _ _).alloc (ai _) _
 have HI:=aa (D3 hent (w.alloc (.cells #[.func (.func FI) #[] #[]] 151)) (h.bg (λb _ hl=>hxa.block b hl) (λ_ hb _=>hb) (λ_ _ h=>h)) hl hform w.heap.size (ju w _ _)
  (λx a b hm hr W hx=>hF x a b hm hr W (Xk.Ext.trans hxa hx)))
 have HXA:=aa hxa;clear hF hform h hxa;go_enter Tryz.func187,Tryz.ntmps187;go_wp2_with (go_at_call 226;go_in);refine HI.out.mono ?_;rintro e w' ⟨rfl,hx'⟩;go_wp2_with fail;go_ret;exact⟨rfl,Xk.Ext.trans HXA.out hx'⟩
theorem zu:Ent 189:=⟨λ_ _=>by go_simp,by decide⟩
theorem Kn{α:Type}{FI:FuncId}(hent:Ent FI){S:Nat->Prop}{R:α->List Value->Prop}{l:List α}{v:Value}(most:Nat)(w:World)(h:aE S w 10 R l v)(hl:1≤l.length/\l.length≤most)(hm:most≤1000000)(hform:∀x u,x∈l->R x u->∃kd op vk vi:Int,∃vs tb nm:P12.T,∃pp:Option Addr,∃pm pc:Nat, u=ao kd op vk vi vs tb nm (.slice pp pm pc))
  (hF:∀x (kd op vk vi:Int) (vs tb nm:P12.T) (pp:Option Addr) (pm pc:Nat),x∈l->R x (ao kd op vk vi vs tb nm (.slice pp pm pc))->∀W,Xk.Ext w W->Calls af FI #[.agg (ao kd op vk vi vs tb nm (.slice pp pm pc)).toArray] W λe w'=>e = .returned (.bool true)/\Xk.Ext W w') :
  Calls af 38 #[v,.int .i64 most,.func (.func FI) #[] #[]] w λe w'=>e = .returned (.bool true)/\Xk.Ext w w':=by
 have HA:=aa (kG hent w h ab hform hF);obtain⟨p,c,rfl⟩:=h.len;have h1:(1:Int)≤(l.length:Int):=ab;have h2:(l.length:Int)≤(most:Int):=ab;clear hF hform h;go_enter Tryz.func38,Tryz.ntmps38;go_wp2_with fail;refine HA.out.mono ?_;rintro e w' ⟨rfl,hx'⟩;go_wp2_with fail;go_ret;exact⟨rfl,hx'⟩
theorem EB{α:Type}{FI:FuncId}(hent:Ent FI){S:Nat->Prop}{R:α->List Value->Prop}{l:List α}{v:Value}(most:Nat)(w:World)(h:aE S w 12 R l v)(hl:1≤l.length/\l.length≤most)(hm:most≤1000000)(hform:∀x u,x∈l->R x u->∃b:Bool,∃kd op vk vi:Int,∃vs tb nm:P12.T,∃pp:Option Addr,∃pm pc:Nat,∃a:P12.T, u=bT b::(ao kd op vk vi vs tb nm (.slice pp pm pc)++ [bs a]))
  (hF:∀x (b:Bool) (kd op vk vi:Int) (vs tb nm:P12.T) (pp:Option Addr) (pm pc:Nat) (a:P12.T),x∈l->R x (bT b::(ao kd op vk vi vs tb nm (.slice pp pm pc)++ [bs a]))->∀W,Xk.Ext w W->Calls af FI #[.agg (bT b::(ao kd op vk vi vs tb nm (.slice pp pm pc)++ [bs a])).toArray] W λe w'=>e = .returned (.bool true)/\Xk.Ext W w') :
  Calls af 111 #[v,.int .i64 most,.func (.func FI) #[] #[]] w λe w'=>e = .returned (.bool true)/\Xk.Ext w w':=by
 have HA:=aa (D2 hent w h ab hform hF);obtain⟨p,c,rfl⟩:=h.len;have h1:(1:Int)≤(l.length:Int):=ab;have h2:(l.length:Int)≤(most:Int):=ab;clear hF hform h;go_enter Tryz.func111,Tryz.ntmps111;go_wp2_with fail;refine HA.out.mono ?_;rintro e w' ⟨rfl,hx'⟩;go_wp2_with fail;go_ret;exact⟨rfl,hx'⟩
theorem GK{α:Type}{FI:FuncId}(hent:Ent FI){S:Nat->Prop}{R:α->List Value->Prop}{l:List α}{v:Value}(most:Nat)(w:World)(h:aE S w 2 R l v)(hl:1≤l.length/\l.length≤most)(hm:most≤1000000)(hform:∀x u,x∈l->R x u->∃a b:P12.T, u = [bs a,bs b])
  (hF:∀x (a b:P12.T),x∈l->R x ([bs a,bs b])->∀W,Xk.Ext w W->Calls af FI #[.agg ([bs a,bs b]).toArray] W λe w'=>e = .returned (.bool true)/\Xk.Ext W w') :
  Calls af 112 #[v,.int .i64 most,.func (.func FI) #[] #[]] w λe w'=>e = .returned (.bool true)/\Xk.Ext w w':=by
 have HA:=aa (Gp hent w h ab hform hF);obtain⟨p,c,rfl⟩:=h.len;have h1:(1:Int)≤(l.length:Int):=ab;have h2:(l.length:Int)≤(most:Int):=ab;clear hF hform h;go_enter Tryz.func112,Tryz.ntmps112;go_wp2_with fail;refine HA.out.mono ?_;rintro e w' ⟨rfl,hx'⟩;go_wp2_with fail;go_ret;exact⟨rfl,hx'⟩
end Go.Proofs.YtkpmclddjkebeaaGreatDoor
namespace P12
theorem vl:∀ (l:T) (i:Nat),wK i l=true->∀ (j:Nat) (c:UInt8),l[j]?=mE c->tg (i+j) c=true
 | [],_,_,j,c,h=>by simp at h
 | x::l,i,h,j,c,hj=>by
  rw[wK,aT]at h
  cases j with
  | zero=>
   simp at hj;subst hj;exact h.1
  | succ j=>
   have:=vl l (i+1) h.2 j c (by simpa using hj);rwa [show i+(j+1)=i+1+j by omega]
theorem za{s:T}(h:isName s=true):s ≠ []/\s.length≤24/\P11.words.contains (s.map fH)=false/\∀ (j:Nat) (c:UInt8),s[j]?=mE c->tg j c=true:=by
 unfold isName at h;simp only[aT,bne_iff_ne,ne_eq,decide_eq_true_eq,jd]at h;obtain⟨⟨⟨h1,h2⟩,h3⟩,h4⟩:=h;exact⟨h1,h2,h3,λj c hj=>by have:=vl s 0 h4 j c hj;rwa [eF]at this⟩
theorem yK{i:Nat}{c:UInt8}(h:tg i c=true):c.toNat<128:=by
 unfold tg at h;simp only[fu,aT,beq_iff_eq,decide_eq_true_eq,fp]at h;rcases h with(h|h)|h
 ·subst h;decide
 ·have:=h.2;simp at this;omega
 ·have:=h.1.2;simp at this;omega
end P12
namespace Go.Proofs.YtkpmclddjkebeaaGreatDoor
open Go.RowKit
theorem tU(x:List UInt8)(h:P11.words.contains x=false)(n:Nat):Lib.containsS ((P11.words.map λy=>(⟨y.toArray⟩:ByteArray)).take n) ⟨x.toArray⟩=false:=by
 rw[Bool.eq_false_iff];intro hc;rw[Lib.containsS_iff]at hc;have hm:=List.mem_of_mem_take hc;obtain⟨y,hy,e⟩:=List.mem_map.1 hm
 have e2:y=x:=by
  have:=congrArg (λb:ByteArray=>b.data.toList) e;simpa using this
 subst e2;have:P11.words.contains y=true:=by simpa using hy
 rw[this]at h
 cases h
theorem FK(s:ByteArray)(h:P12.isName s.data.toList=true)(w:World):Calls af 35 #[.string s] w λe w'=>e = .returned (.bool true)/\Xk.Ext w w':=by
 obtain⟨hne,hlen,hw,hch⟩:=P12.za h;have hsz:s.data.toList.length=s.size:=rfl;rw[hsz]at hlen;have hasc:∀ (j:Nat) (b:UInt8),s.data.toList[j]?=some b->b.toNat<128:=λj b hj=>P12.yK (hch j b hj);have HU:=aa λW=>Tryz.strings_ToUpper_ascii s W ab hasc;have HW:=aa λW=>xE W;have HCH:Hid (∀ (j:Nat) (hj:j<s.size),P12.tg j s[j]=true):=aa λj hj=>hch j _ (aZ (show j<s.data.toList.length from hj));have hup:iR s.data.toList=s.data.toList.map fH:=by simp[iR]
 have HUP:=aa hup;have HCW:=aa (tU _ hw 43)
 have he:s.data.toList.isEmpty=false:=by
  cases hs:s.data.toList with
  | nil=>exact absurd hs hne
  | cons a l=>rfl
 have hs0:s.size≠0:=λe=>hne (iQ (by rw[hsz];exact e))
 have he2:s.isEmpty=false:=by
  unfold ByteArray.isEmpty;simpa using hs0
 have he3:s.toList.isEmpty=false:=by rw[nT];exact he
 have hlb:¬ (24:Int)<(s.size:Int):=ab;clear h hne hw hch hasc hup;go_enter Tryz.func35,Tryz.ntmps35;go_wp2_with fail;go_at_call 56;refine(HW.out _).mono ?_;rintro e w1 ⟨rfl,hwc,hx1,hl1⟩;go_wp2_with fail;go_at_call 96;refine(HU.out _).mono ?_;rintro e w2 ⟨rfl,hx2⟩;rw[HUP.out];have hx12:=Xk.Ext.trans hx1 hx2;go_wp2_with fail;refine(Tryz.slices_Contains_string w.heap.size 0 43 43 (P11.words.map λy=>(⟨y.toArray⟩:ByteArray)) ⟨(s.data.toList.map fH).toArray⟩ w2 aq aq (λj hj=>?_)).mono ?_
 ·have hj':j<P11.words.length:=by simpa using hj
  rw[eF,Xk.bO hx2 (hwc j _ (aZ hj'))];rw[ep,jA,aZ hj'];rfl
 rintro e w3 ⟨rfl,rfl⟩;rw[HCW.out];have HX:=aa hx12;clear hx1 hx2 hwc hx12;go_wp2_with fail;go_loopw [20] (λx wr=>∃q:Nat,q≤s.size/\x = .int .i64 q/\Xk.Ext w wr) (λx _=>s.size-(intOf x).toNat)
 case atStart=>exact⟨0,by omega,rfl,HX.out⟩
 case round=>
  obtain⟨q,hq,rfl,hx⟩:=hrel;have HXR:=aa hx;clear hx;by_cases hlt:q<s.size
  ·have hc:=HCH.out q hlt;have hqb:(q:Int)<(s.size:Int):=ab;have h8:(s[q].toNat:Int)<256:=by have:=s[q].toNat_lt;omega
   unfold P12.tg at hc;simp only[fu,aT,beq_iff_eq,decide_eq_true_eq,fp,bne_iff_ne,ne_eq]at hc;simp at hc;rcases hc with(h95|⟨ha,hb⟩)|⟨⟨ha,hb⟩,hq0⟩
   ·have t1:((s[q].toNat:Int) !=95)=false:=by rw[h95];rfl
    go_wp2_with fail;go_roundw
    case rel=>exact⟨q+1,by omega,by go_num,HXR.out⟩
    case measure=>simp[intOf];omega
   ·have t1:((s[q].toNat:Int) !=95)=true:=by simp;omega
    have t2:¬ (s[q].toNat:Int)<97:=ab;have t3:¬ (122:Int)<(s[q].toNat:Int):=ab;have t4:decide ((s[q].toNat:Int)<97)=false:=by simpa using t2
    have t5:decide ((122:Int)<(s[q].toNat:Int))=false:=by simpa using t3
    go_wp2_with fail;go_roundw
    case rel=>exact⟨q+1,by omega,by go_num,HXR.out⟩
    case measure=>simp[intOf];omega
   ·have t1:((s[q].toNat:Int) !=95)=true:=by simp;omega
    have t2:(s[q].toNat:Int)<97:=ab;have t3:¬ (s[q].toNat:Int)<48:=ab;have t4:¬ (57:Int)<(s[q].toNat:Int):=ab;have t5:((q:Int)==0)=false:=by simpa using hq0
    have t6:decide ((s[q].toNat:Int)<97)=true:=by simpa using t2
    have t7:decide ((s[q].toNat:Int)<48)=false:=by simpa using t3
    have t8:decide ((57:Int)<(s[q].toNat:Int))=false:=by simpa using t4
    go_wp2_with fail;go_roundw
    case rel=>exact⟨q+1,by omega,by go_num,HXR.out⟩
    case measure=>simp[intOf];omega
  ·have hqb:¬ (q:Int)<(s.size:Int):=ab;go_wp2_with fail;go_ret;exact⟨rfl,HXR.out⟩
theorem px(s:List UInt8)(h:P12.isName s=true)(w:World):Calls af 35 #[bs s] w λe w'=>e = .returned (.bool true)/\Xk.Ext w w':=
 FK ⟨s.toArray⟩ (by simpa using h) w
theorem lU(s:List UInt8)(h:P12.iv s=true)(w:World):Calls af 99 #[bs s] w λe w'=>e = .returned (.bool true)/\Xk.Ext w w':=by
 cases he:s.isEmpty
 ·have h2:P12.isName s=true:=by
   unfold P12.iv at h
   cases s with
   | nil=>cases he
   | cons a l=>simpa using h
  have HI:=aa λW=>px s h2 W;go_enter Tryz.func99,Tryz.ntmps99;go_wp2_with fail;refine(HI.out _).mono ?_;rintro e w1 ⟨rfl,hx⟩;go_wp2_with fail;go_ret;exact⟨rfl,hx⟩
 ·go_enter Tryz.func99,Tryz.ntmps99;go_wp2_with fail;go_ret;exact⟨rfl,al _ _⟩
theorem qy(kd op:Int)(tb nm:P12.T)(pp:Option Addr)(pm pc:Nat)(w:World):Calls af 98 #[.agg (ao kd op 0 0 [] tb nm (.slice pp pm pc)).toArray,.int .i64 pm] w λe w'=>e = .returned (.bool true)/\Xk.Ext w w':=by
 go_enter Tryz.func98,Tryz.ntmps98;go_wp2;go_ret;exact⟨by simp,Xk.xt⟩
theorem ub(kd op vk vi:Int)(vs tb nm:P12.T)(pp:Option Addr)(pm pc:Nat)(hk:kd≠0)(w:World):Calls af 94 #[.agg (ao kd op vk vi vs tb nm (.slice pp pm pc)).toArray] w λe w'=>e = .returned (.bool false)/\Xk.Ext w w':=by
 have hkb:(kd==0)=false:=by simpa using hk
 go_enter Tryz.func94,Tryz.ntmps94;go_wp2_with fail;go_ret;exact⟨rfl,Xk.xt⟩
theorem mZ(w:World):Calls af 94 #[.agg noE.toArray] w λe w'=>e = .returned (.bool true)/\Xk.Ext w w':=by
 have HB:=aa λW=>qy 0 0 [] [] none 0 0 W;have hxa:Xk.Ext w (w.alloc (bu noE)):=(al _ _).alloc (ai _) _;have hga:=aw w (bu noE);have HXA:=aa hxa;go_enter Tryz.func94,Tryz.ntmps94;go_wp2_with (refine bJ rfl 35 _ rfl (w.heap.size) _ 35 (0,0) _ rfl hga aA rfl au ?_);refine(HB.out _).mono ?_;rintro e w1 ⟨rfl,hx1⟩;have hg1:=(hx1.block _ (ae.1 hga).1).trans hga;have q1:w1.cell? ⟨w.heap.size,1,none⟩=some (.int .i64 0):=by simp[ak,hg1]
 have q3:w1.cell? ⟨w.heap.size,5,none⟩=some (.string ⟨#[]⟩):=by simp[ak,hg1]
 have q4:w1.cell? ⟨w.heap.size,6,none⟩=some (.string ⟨#[]⟩):=by simp[ak,hg1]
 go_wp2_with fail;go_ret;exact⟨rfl,Xk.Ext.trans HXA.out hx1⟩
theorem DW(op:Int)(h1:15≤op)(h2:op≤18)(w:World):Calls af 100 #[.int .i64 3,.int .i64 op] w λe w'=>e = .returned (.int .i64 1)/\w=w':=by
 go_enter Tryz.func100,Tryz.ntmps100;go_wp2_with fail;go_ret;exact⟨rfl,rfl⟩
theorem DX(op:Int)(h1:1≤op)(h2:op≤14)(w:World):Calls af 100 #[.int .i64 4,.int .i64 op] w λe w'=>e = .returned (.int .i64 2)/\w=w':=by
 go_enter Tryz.func100,Tryz.ntmps100;go_wp2_with fail;go_ret;exact⟨rfl,rfl⟩
theorem DY(w:World):Calls af 100 #[.int .i64 5,.int .i64 19] w λe w'=>e = .returned (.int .i64 0)/\w=w':=by
 go_enter Tryz.func100,Tryz.ntmps100;go_wp2_with fail;go_ret;exact⟨rfl,rfl⟩
theorem BJ(op:Int)(h1:20≤op)(h2:op≤23)(w:World):Calls af 100 #[.int .i64 5,.int .i64 op] w λe w'=>e = .returned (.int .i64 1)/\w=w':=by
 have h3:(op==19)=false:=by simp;omega
 go_enter Tryz.func100,Tryz.ntmps100;go_wp2_with fail;go_ret;exact⟨rfl,rfl⟩
theorem mV{w:World}{g:Nat}{kd op vk vi:Int}{vs tb nm:P12.T}{v:Value}(h:w.heap[g]?=some (bu (ao kd op vk vi vs tb nm v))):
  w.cell? ⟨g,0,none⟩=some (.int .i64 kd)/\w.cell? ⟨g,1,none⟩=some (.int .i64 op)/\w.cell? ⟨g,2,none⟩=some (.int .i64 vk)/\w.cell? ⟨g,3,none⟩=some (.int .i64 vi)/\w.cell? ⟨g,4,none⟩=some (bs vs)/\w.cell? ⟨g,5,none⟩=some (bs tb)/\
  w.cell? ⟨g,6,none⟩=some (bs nm)/\w.cell? ⟨g,7,none⟩=some (.int .i64 0)/\w.cell? ⟨g,8,none⟩=some (.int .i64 0)/\w.cell? ⟨g,9,none⟩=some v/\g<w.heap.size:=by
 refine⟨?_,?_,?_,?_,?_,?_,?_,?_,?_,?_,(ae.1 h).1⟩<;>simp[ak,h]
theorem mW:Ent 36:=⟨λ_ _=>by go_simp,by decide⟩
theorem Bg(k i:Int)(s:P12.T)(h:P6.isV k i s=true)(w:World):Calls af 36 #[.agg (ao 1 0 k i s [] [] aj).toArray] w λe w'=>e = .returned (.bool true)/\Xk.Ext w w':=by
 have HI:=aa λW=>FJ k i ⟨s.toArray⟩ W;have HB:=aa λW=>qy 1 0 [] [] none 0 0 W;have hx0:Xk.Ext w ((w.alloc (bu (ao 1 0 0 0 [] [] [] aj))).alloc (.cells #[.int .i64 k,.int .i64 i,bs s] 33)):=Xk.xt;have hg0:((w.alloc (bu (ao 1 0 0 0 [] [] [] aj))).alloc (.cells #[.int .i64 k,.int .i64 i,bs s] 33)).heap[w.heap.size]?=some (bu (ao 1 0 0 0 [] [] [] aj)):=(ah.alloc (ah.refl (w.heap.size+5) _) _).held (aw w _) ab;have HX0:=aa hx0;have HG0:=aa hg0;clear hx0 hg0;go_enter Tryz.func36,Tryz.ntmps36;go_wp2_with fail;refine(HI.out _).mono ?_;rintro e w1 ⟨rfl,hx1⟩
 rw[show P6.isV k i (⟨s.toArray⟩:ByteArray).data.toList=true by simpa using h];have hg1:=(hx1.block _ (ae.1 HG0.out).1).trans HG0.out;have HX1:=aa (Xk.Ext.trans HX0.out hx1);clear hx1;obtain⟨z0,z1,z2,z3,z4,z5,z6,z7,z8,z9,z10⟩:=mV hg1;go_wp2_with fail;refine(HB.out _).mono ?_;rintro e w2 ⟨rfl,hx2⟩;clear z0 z1 z2 z3 z4 z5 z6 z7 z8 z9 z10;have hg2:=(hx2.block _ (ae.1 hg1).1).trans hg1;have q1:w2.cell? ⟨w.heap.size,1,none⟩=some (.int .i64 0):=by simp[ak,hg2]
 have q3:w2.cell? ⟨w.heap.size,5,none⟩=some (.string ⟨#[]⟩):=by simp[ak,hg2]
 have q4:w2.cell? ⟨w.heap.size,6,none⟩=some (.string ⟨#[]⟩):=by simp[ak,hg2]
 go_wp2_with fail;go_ret;exact⟨rfl,Xk.Ext.trans HX1.out hx2⟩
theorem Bh(t n:P12.T)(h1:P12.isName n=true)(h2:P12.iv t=true)(w:World):Calls af 36 #[.agg (ao 2 0 0 0 [] t n aj).toArray] w λe w'=>e = .returned (.bool true)/\Xk.Ext w w':=by
 have HN:=aa λW=>px n h1 W;have HM:=aa λW=>lU t h2 W;have HB:=aa λW=>qy 2 0 t n none 0 0 W;have hga:=aw w (bu (ao 2 0 0 0 [] t n aj));have HXA:Hid (Xk.Ext w (w.alloc (bu (ao 2 0 0 0 [] t n aj)))):=aa ((al _ _).alloc (ai _) _);go_enter Tryz.func36,Tryz.ntmps36;go_wp2_with (refine bJ rfl 35 _ rfl (w.heap.size) _ 35 (0,0) _ rfl hga aA rfl au ?_);refine(HB.out _).mono ?_;rintro e w1 ⟨rfl,hx1⟩;have hg1:=(hx1.block _ (ae.1 hga).1).trans hga;have q1:w1.cell? ⟨w.heap.size,1,none⟩=some (.int .i64 0):=by simp[ak,hg1]
 have q4:w1.cell? ⟨w.heap.size,6,none⟩=some (bs n):=by simp[ak,hg1]
 go_wp2_with fail;refine(HN.out _).mono ?_;rintro e w2 ⟨rfl,hx2⟩;have hg2:=(hx2.block _ (ae.1 hg1).1).trans hg1;have q3:w2.cell? ⟨w.heap.size,5,none⟩=some (bs t):=by simp[ak,hg2]
 have HX2:=aa (Xk.Ext.trans HXA.out (Xk.Ext.trans hx1 hx2));clear hx1 hx2 hg1 q1 q4 hga;go_wp2_with fail;refine(HM.out _).mono ?_;rintro e w3 ⟨rfl,hx3⟩;go_wp2_with fail;go_ret;exact⟨rfl,Xk.Ext.trans HX2.out hx3⟩
theorem oy(kd op:Int)(p:Option Addr)(m c:Nat)(hk:kd≠1/\kd≠2)(hA:∀W,Calls af 100 #[.int .i64 kd,.int .i64 op] W λe w'=>e = .returned (.int .i64 m)/\W=w')(w:World)
  (hL:∀W,Xk.Ext w W->Calls af 101 #[.slice p m c,.func (.func 36) #[] #[]] W λe w'=>e = .returned (.bool true)/\Xk.Ext W w') :
  Calls af 36 #[.agg (ao kd op 0 0 [] [] [] (.slice p m c)).toArray] w λe w'=>e = .returned (.bool true)/\Xk.Ext w w':=by
 have hga:=aw w (bu (ao kd op 0 0 [] [] [] (.slice p m c)));have HXA:Hid (Xk.Ext w (w.alloc (bu (ao kd op 0 0 [] [] [] (.slice p m c))))):=aa ((al _ _).alloc (ai _) _);have HA:=aa hA;have HL:=aa hL;have HB:=aa λW=>qy kd op [] [] p m c W;have k1:(kd==1)=false:=by simpa using hk.1
 have k2:(kd==2)=false:=by simpa using hk.2
 have hm:(0:Int)≤(m:Int):=ab;clear hA hL hk;go_enter Tryz.func36,Tryz.ntmps36;go_wp2_with fail;refine(HA.out _).mono ?_;rintro e w0 ⟨rfl,rfl⟩;go_wp2_with (refine bJ rfl 35 _ rfl (w.heap.size) _ 35 (0,0) _ rfl hga aA rfl au ?_);refine(HB.out _).mono ?_;rintro e w1 ⟨rfl,hx1⟩;have hg1:=(hx1.block _ (ae.1 hga).1).trans hga;have q3:w1.cell? ⟨w.heap.size,5,none⟩=some (.string ⟨#[]⟩):=by simp[ak,hg1]
 have q4:w1.cell? ⟨w.heap.size,6,none⟩=some (.string ⟨#[]⟩):=by simp[ak,hg1]
 have q9:w1.cell? ⟨w.heap.size,9,none⟩=some (.slice p m c):=by simp[ak,hg1]
 have HX1:=aa (Xk.Ext.trans HXA.out hx1);clear hx1 hga;go_wp2_with fail;refine(HL.out _ HX1.out).mono ?_;rintro e w2 ⟨rfl,hx2⟩;go_wp2_with fail;go_ret;exact⟨rfl,Xk.Ext.trans HX1.out hx2⟩
theorem CA{S:Nat->Prop}{w:World}{a:P12.E}{g:Nat}{u:List Value}(hg:S g)(hr:w.rangeAt g 0 u)(hl:u.length=10)(he:aC S w a u):aE S w 10 (dY S w) [a] (.slice (some ⟨g,0,none⟩) 1 1):=by
 refine .inr ⟨g,1,[u],rfl,hg,by simp,by simp,rfl,by simpa using hl,by decide,by simpa using hr,λj x y hx hy=>?_⟩;match j,hx,hy with
 | 0,hx,hy=>cases hx;cases hy;exact he
theorem Jm{S:Nat->Prop}{w:World}{a b:P12.E}{g:Nat}{u v:List Value}(hg:S g)(hr:w.rangeAt g 0 (u++v))(hl:u.length=10)(hl2:v.length=10)(he:aC S w a u)(he2:aC S w b v):aE S w 10 (dY S w) [a,b] (.slice (some ⟨g,0,none⟩) 2 2):=by
 refine .inr ⟨g,2,[u,v],rfl,hg,by simp,by simp,rfl,?_,by decide,by simpa using hr,λj x y hx hy=>?_⟩
 ·intro x hx;simp only[aJ,aF,or_false]at hx;rcases hx with rfl|rfl
  ·exact hl
  ·exact hl2
 match j,hx,hy with
 | 0,hx,hy=>cases hx;cases hy;exact he
 | 1,hx,hy=>cases hx;cases hy;exact he2
theorem aC.kn{S:Nat->Prop}{w w':World}{e:P12.E}{l:List Value}(h:aC S w e l)(hx:Xk.Ext w w'):aC S w' e l:=h.bg (λb _ hl=>hx.block b hl) (λb hb _=>hb)
theorem aE.qX{S:Nat->Prop}{w w':World}{es:List P12.E}{v:Value}(h:aE S w 10 (dY S w) es v)(hx:Xk.Ext w w'):aE S w' 10 (dY S w') es v:=h.bg (λb _ hl=>hx.block b hl) (λb hb _=>hb) (λx u hu=>aC.kn hu hx)
theorem iV:∀ (e:P12.E),P12.isE e=true->∀ (S:Nat->Prop) (w:World) (l:List Value),aC S w e l->Calls af 36 #[.agg l.toArray] w λe w'=>e = .returned (.bool true)/\Xk.Ext w w'
 | .none,h,_,_,_,_=>by cases h
 | .val k i s,h,_,w,_,rfl=>Bg k i s (by simp only[P12.isE,aT]at h;exact h.1.1) w
 | .col t n,h,_,w,_,rfl=>by
  simp only[P12.isE,aT]at h;exact Bh t n h.1 h.2 w
 | .all,h,_,w,_,rfl=>oy 5 19 none 0 0 aq (λW=>DY W) w (λW hx=>kG (S:=λ_=>True) (R:=λ(_:P12.E) _=>True) (l := []) mW W (aE.nil _ _ _ _) aI (λx u hx=>by simp at hx) (λx _ _ _ _ _ _ _ _ _ _ hx=>by simp at hx))
 | .una op a,h,S,w,l,he=>by
  simp only[P12.isE,aT,decide_eq_true_eq]at h;unfold aC at he;obtain⟨g,u,hg,rfl,hr,hl,he⟩:=he
  exact oy 3 op _ 1 1 aq (λW=>DW op h.1.1 h.1.2 W) w (λW hx=>kG mW W ((CA hg hr hl he).qX hx) aI (λx u _ hu=>aC.form hu)
   (λx _ _ _ _ _ _ _ _ _ _ hm hu W' hx'=>by
    simp only[dr]at hm;have hu':aC S W a _:=hm▸hu;exact iV a h.2 S W' _ (aC.kn hu' hx')))
 | .call op a,h,S,w,l,he=>by
  simp only[P12.isE,aT,decide_eq_true_eq]at h;unfold aC at he;obtain⟨g,u,hg,rfl,hr,hl,he⟩:=he
  exact oy 5 op _ 1 1 aq (λW=>BJ op h.1.1 h.1.2 W) w (λW hx=>kG mW W ((CA hg hr hl he).qX hx) aI (λx u _ hu=>aC.form hu)
   (λx _ _ _ _ _ _ _ _ _ _ hm hu W' hx'=>by
    simp only[dr]at hm;have hu':aC S W a _:=hm▸hu;exact iV a h.2 S W' _ (aC.kn hu' hx')))
 | .bin op a b,h,S,w,l,he=>by
  simp only[P12.isE,aT,decide_eq_true_eq]at h;unfold aC at he;obtain⟨g,u,v,hg,rfl,hr,hl,hl2,he,he2⟩:=he
  exact oy 4 op _ 2 2 aq (λW=>DX op h.1.1.1 h.1.1.2 W) w (λW hx=>kG mW W ((Jm hg hr hl hl2 he he2).qX hx) aI (λx u _ hu=>aC.form hu)
   (λx _ _ _ _ _ _ _ _ _ _ hm hu W' hx'=>by
    simp only[aJ,aF,or_false]at hm;rcases hm with hm|hm
    ·have hu':aC S W a _:=hm▸hu;exact iV a h.1.2 S W' _ (aC.kn hu' hx')
    ·have hu':aC S W b _:=hm▸hu;exact iV b h.2 S W' _ (aC.kn hu' hx')))
theorem GG(a b:List UInt8):(⟨a.toArray⟩++⟨b.toArray⟩:ByteArray)=⟨(a++b).toArray⟩:=by
 apply gp;simp
theorem EG(op:Int)(h1:1≤op)(h2:op≤14)(w:World):Calls af 117 #[.int .i64 op] w λe w'=>e = .returned (bs (P12.fK op))/\Xk.Ext w w':=by
 have hop:op=1∨op=2∨op=3∨op=4∨op=5∨op=6∨op=7∨op=8∨op=9∨op=10∨op=11∨op=12∨op=13∨op=14:=ab;clear h1 h2;rcases hop with rfl|rfl|rfl|rfl|rfl|rfl|rfl|rfl|rfl|rfl|rfl|rfl|rfl|rfl
 ·go_enter Tryz.func117,Tryz.ntmps117;go_wp2;go_ret;exact⟨rfl,al _ _⟩
 ·go_enter Tryz.func117,Tryz.ntmps117;go_wp2;go_ret;exact⟨rfl,al _ _⟩
 ·go_enter Tryz.func117,Tryz.ntmps117;go_wp2;go_ret;exact⟨rfl,al _ _⟩
 ·go_enter Tryz.func117,Tryz.ntmps117;go_wp2;go_ret;exact⟨rfl,al _ _⟩
 ·go_enter Tryz.func117,Tryz.ntmps117;go_wp2;go_ret;exact⟨rfl,al _ _⟩
 ·go_enter Tryz.func117,Tryz.ntmps117;go_wp2;go_ret;exact⟨rfl,al _ _⟩
 ·go_enter Tryz.func117,Tryz.ntmps117;go_wp2;go_ret;exact⟨rfl,al _ _⟩
 ·go_enter Tryz.func117,Tryz.ntmps117;go_wp2;go_ret;exact⟨rfl,al _ _⟩
 ·go_enter Tryz.func117,Tryz.ntmps117;go_wp2;go_ret;exact⟨rfl,al _ _⟩
 ·go_enter Tryz.func117,Tryz.ntmps117;go_wp2;go_ret;exact⟨rfl,al _ _⟩
 ·go_enter Tryz.func117,Tryz.ntmps117;go_wp2;go_ret;exact⟨rfl,al _ _⟩
 ·go_enter Tryz.func117,Tryz.ntmps117;go_wp2;go_ret;exact⟨rfl,al _ _⟩
 ·go_enter Tryz.func117,Tryz.ntmps117;go_wp2;go_ret;exact⟨rfl,al _ _⟩
 ·go_enter Tryz.func117,Tryz.ntmps117;go_wp2;go_ret;exact⟨rfl,al _ _⟩
theorem vE(op kd o2 vk vi:Int)(vs tb nm:P12.T)(p:Option Addr)(m c:Nat)(hk:kd=3∨kd=4)(w:World):Calls af 191 #[.int .i64 op,.agg (ao kd o2 vk vi vs tb nm (.slice p m c)).toArray] w λe w'=>e = .returned (.bool true)/\Xk.Ext w w':=by
 rcases hk with rfl|rfl
 ·go_enter Tryz.func191,Tryz.ntmps191;go_wp2;go_ret;exact⟨rfl,Xk.xt⟩
 ·go_enter Tryz.func191,Tryz.ntmps191;go_wp2;go_ret;exact⟨rfl,Xk.xt⟩
theorem ri(op kd o2 vk vi:Int)(vs tb nm:P12.T)(p:Option Addr)(m c:Nat)(hk:kd=2∨kd=5)(w:World):Calls af 191 #[.int .i64 op,.agg (ao kd o2 vk vi vs tb nm (.slice p m c)).toArray] w λe w'=>e = .returned (.bool false)/\Xk.Ext w w':=by
 by_cases ho:op=16
 ·subst ho;rcases hk with rfl|rfl
  ·go_enter Tryz.func191,Tryz.ntmps191;go_wp2;go_ret;exact⟨rfl,Xk.xt⟩
  ·go_enter Tryz.func191,Tryz.ntmps191;go_wp2;go_ret;exact⟨rfl,Xk.xt⟩
 ·have hob:(op==16)=false:=by simpa using ho
  rcases hk with rfl|rfl
  ·go_enter Tryz.func191,Tryz.ntmps191;go_wp2;go_ret;exact⟨rfl,Xk.xt⟩
  ·go_enter Tryz.func191,Tryz.ntmps191;go_wp2;go_ret;exact⟨rfl,Xk.xt⟩
theorem BD(op k i:Int)(s:P12.T)(w:World):Calls af 191 #[.int .i64 op,.agg (ao 1 0 k i s [] [] aj).toArray] w λe w'=>e = .returned (.bool (op==16&&k==2))/\Xk.Ext w w':=by
 cases ho:(op==16)
 ·go_enter Tryz.func191,Tryz.ntmps191;go_wp2;go_ret;exact⟨rfl,Xk.xt⟩
 ·go_enter Tryz.func191,Tryz.ntmps191;go_wp2;go_ret;exact⟨by simp,Xk.xt⟩
theorem pB(op:Int)(e:P12.E)(he:e ≠ .none)(S:Nat->Prop)(w:World)(l:List Value)(h:aC S w e l)(W:World):Calls af 191 #[.int .i64 op,.agg l.toArray] W λr w'=>r = .returned (.bool (P12.closed op e))/\Xk.Ext W w':=by
 cases e with
 | none=>exact absurd rfl he
 | val k i s=>cases h;exact BD op k i s W
 | col t n=>cases h;exact ri op 2 0 0 0 [] t n none 0 0 (.inl rfl) W
 | all=>cases h;exact ri op 5 19 0 0 [] [] [] none 0 0 (.inr rfl) W
 | una o a=>
  unfold aC at h;obtain⟨g,u,-,rfl,-⟩:=h;exact vE op 3 o 0 0 [] [] [] _ 1 1 (.inl rfl) W
 | call o a=>
  unfold aC at h;obtain⟨g,u,-,rfl,-⟩:=h;exact ri op 5 o 0 0 [] [] [] _ 1 1 (.inr rfl) W
 | bin o a b=>
  unfold aC at h;obtain⟨g,u,v,-,rfl,-⟩:=h;exact vE op 4 o 0 0 [] [] [] _ 2 2 (.inr rfl) W
theorem nR(op:Int)(kd o2 vk vi:Int)(vs tb nm:P12.T)(p:Option Addr)(m c:Nat)(b:Bool)(t:P12.T)(ht:t.length≤1000000)(w:World)
  (hC:∀W,Calls af 191 #[.int .i64 op,.agg (ao kd o2 vk vi vs tb nm (.slice p m c)).toArray] W λr w'=>r = .returned (.bool b)/\Xk.Ext W w')
  (hT:∀W,Xk.Ext w W->Calls af 51 #[.agg (ao kd o2 vk vi vs tb nm (.slice p m c)).toArray] W λr w'=>r = .returned (bs t)/\Xk.Ext W w') :
  Calls af 116 #[.int .i64 op,.agg (ao kd o2 vk vi vs tb nm (.slice p m c)).toArray] w λr w'=>r = .returned (bs (P12.qp b t))/\Xk.Ext w w':=by
 have hga:=aw w (bu (ao kd o2 vk vi vs tb nm (.slice p m c)));have HXA:Hid (Xk.Ext w (w.alloc (bu (ao kd o2 vk vi vs tb nm (.slice p m c))))):=aa ((al _ _).alloc (ai _) _);have HC:=aa hC;have HT:=aa hT;clear hC hT
 cases b
 ·go_enter Tryz.func116,Tryz.ntmps116;go_wp2_with (refine bJ rfl 35 _ rfl (w.heap.size) _ 35 (0,0) _ rfl hga aA rfl au ?_);refine(HC.out _).mono ?_;rintro e w1 ⟨rfl,hx1⟩;have hg1:=(hx1.block _ (ae.1 hga).1).trans hga;have HX1:=aa (Xk.Ext.trans HXA.out hx1);clear hx1 hga;go_wp2_with (refine bJ rfl 35 _ rfl (w.heap.size) _ 35 (0,0) _ rfl hg1 aA rfl au ?_);refine(HT.out _ HX1.out).mono ?_;rintro e w2 ⟨rfl,hx2⟩;go_wp2_with fail;go_ret;exact⟨rfl,Xk.Ext.trans HX1.out hx2⟩
 ·go_enter Tryz.func116,Tryz.ntmps116;go_wp2_with (refine bJ rfl 35 _ rfl (w.heap.size) _ 35 (0,0) _ rfl hga aA rfl au ?_);refine(HC.out _).mono ?_;rintro e w1 ⟨rfl,hx1⟩;have hg1:=(hx1.block _ (ae.1 hga).1).trans hga;have HX1:=aa (Xk.Ext.trans HXA.out hx1);clear hx1 hga;go_wp2_with (refine bJ rfl 35 _ rfl (w.heap.size) _ 35 (0,0) _ rfl hg1 aA rfl au ?_);refine(HT.out _ HX1.out).mono ?_;rintro e w2 ⟨rfl,hx2⟩;go_wp2_with fail;go_ret;refine⟨?_,Xk.Ext.trans HX1.out hx2⟩
  have e:(⟨#[40]⟩++⟨t.toArray⟩++⟨#[41]⟩:ByteArray)=⟨(P12.qp true t).toArray⟩:=by
   apply gp;simp[P12.qp]
  exact congrArg (λx=>cm (.string x)) e
theorem Ep(k i:Int)(s:P12.T)(h0 : -9223372036854775808≤i)(h1:i≤9223372036854775807)(w:World)(hE:Env w):Calls af 51 #[.agg (ao 1 0 k i s [] [] aj).toArray] w λr w'=>r = .returned (bs (P6.iC k i s))/\Xk.Ext w w':=by
 have HXA:Hid (Xk.Ext w (w.alloc (bu (ao 1 0 k i s [] [] aj)))):=aa ((al _ _).alloc (ai _) _);have HP:=aa (C9 k i ⟨s.toArray⟩ h0 h1 (w.alloc (bu (ao 1 0 k i s [] [] aj))) (hE.ext HXA.out));clear hE;go_enter Tryz.func51,Tryz.ntmps51;go_wp2_with fail;refine HP.out.mono ?_;rintro e w1 ⟨rfl,hx1⟩;go_wp2_with fail;go_ret;exact⟨by simp,Xk.Ext.trans HXA.out hx1⟩
theorem Et(t n:P12.T)(ht:t.length≤1000000)(hn:n.length≤1000000)(w:World):Calls af 51 #[.agg (ao 2 0 0 0 [] t n aj).toArray] w λr w'=>r = .returned (bs (P12.text (.col t n)))/\Xk.Ext w w':=by
 cases hte:t.isEmpty
 ·have hne:t ≠ []:=λe=>by rw[e]at hte;cases hte
  have e1:(⟨t.toArray⟩++⟨#[46]⟩++⟨n.toArray⟩:ByteArray)=⟨(P12.text (.col t n)).toArray⟩:=by
   apply gp;simp[P12.text,hne]
  have HE:=aa e1
  have hlt:({ data:=t.toArray }++ { data := #[46] }:ByteArray).size=t.length+1:=by
   rw[ByteArray.size_append];simp[ByteArray.size]
  clear e1 hne;go_enter Tryz.func51,Tryz.ntmps51;go_wp2_with fail;go_ret;exact⟨congrArg (λx=>cm (.string x)) HE.out,Xk.xt⟩
 ·have hne:t = []:=List.isEmpty_iff.1 hte;go_enter Tryz.func51,Tryz.ntmps51;go_wp2_with fail;go_ret;exact⟨by simp[P12.text,hne],Xk.xt⟩
theorem Ew(w:World):Calls af 51 #[.agg (ao 5 19 0 0 [] [] [] aj).toArray] w λr w'=>r = .returned (bs (P12.text .all))/\Xk.Ext w w':=by
 go_enter Tryz.func51,Tryz.ntmps51;go_wp2_with fail;go_ret;exact⟨rfl,Xk.xt⟩
theorem Es(op:Int)(g:Nat)(kd o2 vk vi:Int)(vs tb nm:P12.T)(p:Option Addr)(m c:Nat)(t:P12.T)(ht:t.length≤1000000)(h1:15≤op)(h2:op≤18)(w:World)
  (hr:w.rangeAt g 0 (ao kd o2 vk vi vs tb nm (.slice p m c)))
  (hA:∀W,Xk.Ext w W->Calls af 116 #[.int .i64 op,.agg (ao kd o2 vk vi vs tb nm (.slice p m c)).toArray] W λr w'=>r = .returned (bs t)/\Xk.Ext W w') :
  Calls af 51 #[.agg (ao 3 op 0 0 [] [] [] (.slice (some ⟨g,0,none⟩) 1 1)).toArray] w λr w'=>r = .returned (bs (if op=15 then[78,79,84,32]++t else if op=16 then[45,32]++t else if op=17 then t ++ [32,73,83,32,78,85,76,76]else t ++ [32,73,83,32,78,79,84,32,78,85,76,76]))/\Xk.Ext w w':=by
 have hga:=aw w (bu (ao 3 op 0 0 [] [] [] (.slice (some ⟨g,0,none⟩) 1 1)));have HXA:Hid (Xk.Ext w (w.alloc (bu (ao 3 op 0 0 [] [] [] (.slice (some ⟨g,0,none⟩) 1 1))))):=aa ((al _ _).alloc (ai _) _);have lg:g<w.heap.size:=ay _ _ (hr 0 _ rfl)
 have hcell:∀j v,(ao kd o2 vk vi vs tb nm (.slice p m c))[j]?=some v->(w.alloc (bu (ao 3 op 0 0 [] [] [] (.slice (some ⟨g,0,none⟩) 1 1)))).cell? ⟨g,j,none⟩=some v:=λj v hj=>by
  have:=Xk.bO HXA.out (hr j v hj);rwa [eF]at this
 have u0:=hcell 0 _ rfl;have u1:=hcell 1 _ rfl;have u2:=hcell 2 _ rfl;have u3:=hcell 3 _ rfl;have u4:=hcell 4 _ rfl;have u5:=hcell 5 _ rfl;have u6:=hcell 6 _ rfl;have u7:=hcell 7 _ rfl;have u8:=hcell 8 _ rfl;have u9:=hcell 9 _ rfl;obtain⟨z0,z1,z2,z3,z4,z5,z6,z7,z8,z9,z10⟩:=mV hga;have lg2:g<(w.alloc (bu (ao 3 op 0 0 [] [] [] (.slice (some ⟨g,0,none⟩) 1 1)))).heap.size:=by rw[ag];omega
 have HA:=aa λW (hx:Xk.Ext (w.alloc (bu (ao 3 op 0 0 [] [] [] (.slice (some ⟨g,0,none⟩) 1 1)))) W)=>hA W (Xk.Ext.trans HXA.out hx);clear hcell hr hA;have hop:op=15∨op=16∨op=17∨op=18:=ab;clear h1 h2 hga;have HQ:=λ(a b:P12.T)=>aa (GG a b);have s2:¬ 9223372036854775807<2+t.length/\¬ 9223372036854775807<4+t.length/\¬ 9223372036854775807<t.length+8/\¬ 9223372036854775807<t.length+12:=ab;obtain⟨s2,s4,s8,s12⟩:=s2;rcases hop with rfl|rfl|rfl|rfl
 all_goals
  go_enter Tryz.func51,Tryz.ntmps51;go_wp2_with fail;refine Xk.reg 8 (Xk.w1 HA.out λp=>?_);go_wp2_with fail;go_ret;exact⟨congrArg (λx=>cm (.string x)) (HQ _ _).out,Xk.Ext.trans HXA.out Xk.xt⟩
theorem Eu(op:Int)(g:Nat)(kd o2 vk vi:Int)(vs tb nm:P12.T)(p:Option Addr)(m c:Nat)(kd' o2' vk' vi':Int)(vs' tb' nm':P12.T)(p':Option Addr)(m' c':Nat)(t sg t':P12.T)(ht:t.length≤1000000)(ht':t'.length≤1000000)(hsg:sg.length≤1000)(w:World)
  (hr:w.rangeAt g 0 (ao kd o2 vk vi vs tb nm (.slice p m c)++ao kd' o2' vk' vi' vs' tb' nm' (.slice p' m' c')))
  (hS:∀W,Calls af 117 #[.int .i64 op] W λr w'=>r = .returned (bs sg)/\Xk.Ext W w')
  (hA:∀W,Xk.Ext w W->Calls af 116 #[.int .i64 op,.agg (ao kd o2 vk vi vs tb nm (.slice p m c)).toArray] W λr w'=>r = .returned (bs t)/\Xk.Ext W w')
  (hB:∀W,Xk.Ext w W->Calls af 116 #[.int .i64 op,.agg (ao kd' o2' vk' vi' vs' tb' nm' (.slice p' m' c')).toArray] W λr w'=>r = .returned (bs t')/\Xk.Ext W w') :
  Calls af 51 #[.agg (ao 4 op 0 0 [] [] [] (.slice (some ⟨g,0,none⟩) 2 2)).toArray] w λr w'=>r = .returned (bs (t ++ [32]++sg ++ [32]++t'))/\Xk.Ext w w':=by
 have hga:=aw w (bu (ao 4 op 0 0 [] [] [] (.slice (some ⟨g,0,none⟩) 2 2)));have HXA:Hid (Xk.Ext w (w.alloc (bu (ao 4 op 0 0 [] [] [] (.slice (some ⟨g,0,none⟩) 2 2))))):=aa ((al _ _).alloc (ai _) _);have lg:g<w.heap.size:=ay _ _ (hr 0 _ rfl)
 have hcell:∀j v,(ao kd o2 vk vi vs tb nm (.slice p m c)++ao kd' o2' vk' vi' vs' tb' nm' (.slice p' m' c'))[j]?=some v->(w.alloc (bu (ao 4 op 0 0 [] [] [] (.slice (some ⟨g,0,none⟩) 2 2)))).cell? ⟨g,j,none⟩=some v:=λj v hj=>by
  have:=Xk.bO HXA.out (hr j v hj);rwa [eF]at this
 have u0:=hcell 0 _ rfl;have u1:=hcell 1 _ rfl;have u2:=hcell 2 _ rfl;have u3:=hcell 3 _ rfl;have u4:=hcell 4 _ rfl;have u5:=hcell 5 _ rfl;have u6:=hcell 6 _ rfl;have u7:=hcell 7 _ rfl;have u8:=hcell 8 _ rfl;have u9:=hcell 9 _ rfl;have v0:=hcell 10 _ rfl;have v1:=hcell 11 _ rfl;have v2:=hcell 12 _ rfl;have v3:=hcell 13 _ rfl;have v4:=hcell 14 _ rfl;have v5:=hcell 15 _ rfl;have v6:=hcell 16 _ rfl;have v7:=hcell 17 _ rfl;have v8:=hcell 18 _ rfl;have v9:=hcell 19 _ rfl;obtain⟨z0,z1,z2,z3,z4,z5,z6,z7,z8,z9,z10⟩:=mV hga
 have lg2:g<(w.alloc (bu (ao 4 op 0 0 [] [] [] (.slice (some ⟨g,0,none⟩) 2 2)))).heap.size:=by rw[ag];omega
 have HA:=aa λW (hx:Xk.Ext (w.alloc (bu (ao 4 op 0 0 [] [] [] (.slice (some ⟨g,0,none⟩) 2 2)))) W)=>hA W (Xk.Ext.trans HXA.out hx);have HB:=aa λW (hx:Xk.Ext (w.alloc (bu (ao 4 op 0 0 [] [] [] (.slice (some ⟨g,0,none⟩) 2 2)))) W)=>hB W (Xk.Ext.trans HXA.out hx);have HS:=aa hS;clear hcell hr hA hB hS hga;have HQ:Hid ((⟨t.toArray⟩++⟨#[32]⟩++⟨sg.toArray⟩++⟨#[32]⟩++⟨t'.toArray⟩:ByteArray)=⟨(t ++ [32]++sg ++ [32]++t').toArray⟩):=aa (by apply gp;simp);have n1:¬ 9223372036854775807<t.length+1:=ab;have n2:¬ 9223372036854775807<t.length+1+sg.length:=ab
 have n3:¬ 9223372036854775807<t.length+1+sg.length+1:=ab;have n4:¬ 9223372036854775807<t.length+1+sg.length+1+t'.length:=ab;go_enter Tryz.func51,Tryz.ntmps51;go_wp2_with fail;refine Xk.reg 21 (Xk.w3 HA.out HB.out HS.out λp=>?_);go_wp2_with fail;go_ret;exact⟨congrArg (λx=>cm (.string x)) HQ.out,Xk.Ext.trans HXA.out Xk.xt⟩
theorem CJ(op:Int)(g:Nat)(kd o2 vk vi:Int)(vs tb nm:P12.T)(p:Option Addr)(m c:Nat)(t:P12.T)(ht:t.length≤1000000)(h1:20≤op)(h2:op≤23)(w:World)
  (hr:w.rangeAt g 0 (ao kd o2 vk vi vs tb nm (.slice p m c)))
  (hT:∀W,Xk.Ext w W->Calls af 51 #[.agg (ao kd o2 vk vi vs tb nm (.slice p m c)).toArray] W λr w'=>r = .returned (bs t)/\Xk.Ext W w') :
  Calls af 51 #[.agg (ao 5 op 0 0 [] [] [] (.slice (some ⟨g,0,none⟩) 1 1)).toArray] w λr w'=>r = .returned (bs (P12.FQ op ++ [40]++t ++ [41]))/\Xk.Ext w w':=by
 have HXA:Hid (Xk.Ext w (w.alloc (bu (ao 5 op 0 0 [] [] [] (.slice (some ⟨g,0,none⟩) 1 1))))):=aa ((al _ _).alloc (ai _) _);have lg:g<w.heap.size:=ay _ _ (hr 0 _ rfl);have HR:=aa (eV hr (HXA.out.block g lg));have HT:=aa λW (hx:Xk.Ext (w.alloc (bu (ao 5 op 0 0 [] [] [] (.slice (some ⟨g,0,none⟩) 1 1)))) W)=>hT W (Xk.Ext.trans HXA.out hx);have hop:op=20∨op=21∨op=22∨op=23:=ab;clear h1 h2 hr hT;rcases hop with rfl|rfl|rfl|rfl
 all_goals
  have HQ:=λ(u:P12.T)=>aa (show(⟨u.toArray⟩++⟨#[40]⟩++⟨t.toArray⟩++⟨#[41]⟩:ByteArray)=⟨(u ++ [40]++t ++ [41]).toArray⟩ by apply gp;simp);go_enter Tryz.func51,Tryz.ntmps51;go_wp2_with (first|(refine wpList_load_mid rfl 35 _ rfl g 0 rfl _ _ HR.out aA rfl au ?_));refine(HT.out _ Xk.xt).mono ?_;rintro e w1 ⟨rfl,hx1⟩;go_wp2_with fail;go_ret;exact⟨congrArg (λx=>cm (.string x)) (HQ _).out,Xk.Ext.trans HXA.out hx1⟩
theorem tJ{b:Bool}{t:P12.T}:t.length≤(P12.qp b t).length:=by
 cases b<;>simp[P12.qp];omega
theorem tF{e:P12.E}(h:P12.isE e=true):e ≠ .none:=λh2=>by rw[h2]at h;cases h
theorem mn:∀ (e:P12.E),P12.isE e=true->(P12.text e).length≤1000000->∀ (S:Nat->Prop) (w:World) (l:List Value),Env w->aC S w e l->Calls af 51 #[.agg l.toArray] w λr w'=>r = .returned (bs (P12.text e))/\Xk.Ext w w'
 | .none,h,_,_,_,_,_,_=>by cases h
 | .val k i s,h,_,_,w,_,hE,rfl=>by
  simp only[P12.isE,aT,decide_eq_true_eq]at h;exact Ep k i s h.1.2 h.2 w hE
 | .col t n,h,hb,_,w,_,hE,rfl=>Et t n (by unfold P12.text at hb;split at hb<;>simp_all<;>omega) (by unfold P12.text at hb;split at hb<;>simp_all<;>omega) w
 | .all,h,_,_,w,_,hE,rfl=>Ew w
 | .una op a,h,hb,S,w,l,hE,he=>by
  simp only[P12.isE,aT,decide_eq_true_eq]at h;unfold aC at he;obtain⟨g,u,hg,rfl,hr,hl,he⟩:=he
  have hlen:(P12.qp (P12.closed op a) (P12.text a)).length≤1000000:=by
   unfold P12.text at hb;split at hb
   ·simp at hb;omega
   ·split at hb
    ·simp at hb;omega
    ·split at hb<;>simp at hb<;>omega
  have hlt:=bI (tJ (b:=P12.closed op a) (t:=P12.text a)) hlen;obtain⟨kd,o2,vk,vi,vs,tb,nm,p,m,c,rfl⟩:=he.form
  exact Es op g kd o2 vk vi vs tb nm p m c _ hlen h.1.1 h.1.2 w hr (λW hx=>nR op kd o2 vk vi vs tb nm p m c (P12.closed op a) (P12.text a) hlt W
   (λW2=>pB op a (tF h.2) S w _ he W2) (λW2 hx2=>mn a h.2 hlt S W2 _ (hE.ext (Xk.Ext.trans hx hx2)) (aC.kn he (Xk.Ext.trans hx hx2))))
 | .call op a,h,hb,S,w,l,hE,he=>by
  simp only[P12.isE,aT,decide_eq_true_eq]at h;unfold aC at he;obtain⟨g,u,hg,rfl,hr,hl,he⟩:=he;have hlt:(P12.text a).length≤1000000:=by unfold P12.text at hb;simp at hb;omega
  obtain⟨kd,o2,vk,vi,vs,tb,nm,p,m,c,rfl⟩:=he.form;exact CJ op g kd o2 vk vi vs tb nm p m c _ hlt h.1.1 h.1.2 w hr (λW hx=>mn a h.2 hlt S W _ (hE.ext hx) (aC.kn he hx))
 | .bin op a b,h,hb,S,w,l,hE,he=>by
  simp only[P12.isE,aT,decide_eq_true_eq]at h;unfold aC at he;obtain⟨g,u,v,hg,rfl,hr,hl,hl2,he,he2⟩:=he;have hla:(P12.qp (P12.closed op a) (P12.text a)).length≤1000000:=by unfold P12.text at hb;simp at hb;omega
  have hlb:(P12.qp (P12.closed op b) (P12.text b)).length≤1000000:=by unfold P12.text at hb;simp at hb;omega
  have hsg:(P12.fK op).length≤1000:=by
   have hop:op=1∨op=2∨op=3∨op=4∨op=5∨op=6∨op=7∨op=8∨op=9∨op=10∨op=11∨op=12∨op=13∨op=14:=ab;rcases hop with rfl|rfl|rfl|rfl|rfl|rfl|rfl|rfl|rfl|rfl|rfl|rfl|rfl|rfl<;>decide
  have hlta:=bI (tJ (b:=P12.closed op a) (t:=P12.text a)) hla;have hltb:=bI (tJ (b:=P12.closed op b) (t:=P12.text b)) hlb;obtain⟨kd,o2,vk,vi,vs,tb,nm,p,m,c,rfl⟩:=he.form;obtain⟨kd',o2',vk',vi',vs',tb',nm',p',m',c',rfl⟩:=he2.form
  exact Eu op g kd o2 vk vi vs tb nm p m c kd' o2' vk' vi' vs' tb' nm' p' m' c' _ (P12.fK op) _ hla hlb hsg w hr (λW=>EG op h.1.1.1 h.1.1.2 W)
   (λW hx=>nR op kd o2 vk vi vs tb nm p m c (P12.closed op a) (P12.text a) hlta W (λW2=>pB op a (tF h.1.2) S w _ he W2) (λW2 hx2=>mn a h.1.2 hlta S W2 _ (hE.ext (Xk.Ext.trans hx hx2)) (aC.kn he (Xk.Ext.trans hx hx2))))
   (λW hx=>nR op kd' o2' vk' vi' vs' tb' nm' p' m' c' (P12.closed op b) (P12.text b) hltb W (λW2=>pB op b (tF h.2) S w _ he2 W2) (λW2 hx2=>mn b h.2 hltb S W2 _ (hE.ext (Xk.Ext.trans hx hx2)) (aC.kn he2 (Xk.Ext.trans hx hx2))))
theorem Tryz.tG:(af.info? 9).map (λi=>(i.zero,i.size,i.bytes))=some (some (.string ⟨#[]⟩),1,16):=au
theorem uZ{w:World}{B:Nat}{e:TypeId}{size n:Nat}{v:Value}{xs:List Value}(h:w.ownsRow B e size v n xs):∃p c,v = .slice p n c:=by
 rcases h.2 with⟨rfl,rfl⟩|⟨g,cap,cur,rfl,-⟩
 ·exact⟨_,_,rfl⟩
 ·exact⟨_,_,rfl⟩
theorem oP{α β:Type}{l:List α}{q:Nat}{x:α}(h:l[q]?=some x)(f:α->β):(l.take q).map f ++ [f x]=(l.take (q+1)).map f:=by
 rw[List.take_add_one,h];simp
theorem Ce(v:Value)(B:Nat)(l:List P12.T)(w:World)(h:w.ownsRow B 9 1 v l.length (l.map bs))(hn:l.length≤1000000)(hj:(P12.join l).length≤140737488355328):
  Calls af 114 #[v,.string ⟨#[44,32]⟩] w λe w'=>e = .returned (bs (P12.join l))/\Xk.Ext w w':=by
 rcases h.2 with⟨rfl,h0⟩|⟨g,cap,cur,rfl,hB,hg,hcap,hmx,hcs,htk⟩
 ·have hl0:l = []:=iQ h0;subst hl0;exact(Tryz.strings_Join_none none 0 _ w).mono λe w' ⟨he,hw⟩=>⟨he,by rw[hw];exact al _ _⟩
 ·cases hl:l with
  | nil=>
   exact(Tryz.strings_Join_none _ _ _ w).mono λe w' ⟨he,hw⟩=>⟨he,by rw[hw];exact al _ _⟩
  | cons x r=>
   rw[← hl]
   have hm:(l.map λy=>(⟨y.toArray⟩:ByteArray)).map (·.data.toList)=l:=by
    rw[List.map_map];exact(List.map_congr_left (λy _=>by simp)).trans (List.map_id _)
   have hlt:=(ae.1 hg).1
   have hJ:=Tryz.strings_Join g 0 cap (l.map λy=>⟨y.toArray⟩) ⟨#[44,32]⟩ w (λj y hj=>by
    rw[jA,fF]at hj;obtain⟨z,hz,rfl⟩:=hj;have hc:(cur.toList.take (l.length*1))[j]?=some (bs z):=by rw[htk,jA,hz];rfl
    rw[di]at hc;split at hc
    ·simp only[ak,hg,eF,Option.isSome_none,aS,if_false];simpa using hc
    ·cases hc) hlt (by rw[gW];omega) (by rw[gW];exact hcap) (by rw[hm];exact hj)
   rw[hm,gW]at hJ;exact hJ
theorem KG{α:Type}{FI:FuncId}(hent:Ent FI){S:Nat->Prop}{R:α->List Value->Prop}{l:List α}{v:Value}(f:α->P12.T)(w:World)(h:aE S w 10 R l v)(hl:l.length≤100000)(hj:(P12.join (l.map f)).length≤1000000000)(hform:∀x u,x∈l->R x u->∃kd op vk vi:Int,∃vs tb nm:P12.T,∃pp:Option Addr,∃pm pc:Nat, u=ao kd op vk vi vs tb nm (.slice pp pm pc))
  (hF:∀x (kd op vk vi:Int) (vs tb nm:P12.T) (pp:Option Addr) (pm pc:Nat),x∈l->R x (ao kd op vk vi vs tb nm (.slice pp pm pc))->∀W,Xk.Ext w W->Calls af FI #[.agg (ao kd op vk vi vs tb nm (.slice pp pm pc)).toArray] W λe w'=>e = .returned (bs (f x))/\Xk.Ext W w') :
  Calls af 50 #[v,.func (.func FI) #[] #[]] w λe w'=>e = .returned (bs (P12.join (l.map f)))/\Xk.Ext w w':=by
 have hcf:=hent.run;have hci:=hent.no;have HF:=aa hF;have HS:=aa h;have HFM:=aa hform;have HJ:=aa hj;obtain⟨p,c,rfl⟩:=h.len;obtain⟨i0,hi,hz0,hz1,hz2⟩:=cP Tryz.tG;have Hi:=aa hi;have Hz0:=aa hz0;have Hz1:=aa hz1;have Hz2:=aa hz2;clear hi hz0 hz1 hz2;clear hF hform h hj;go_enter Tryz.func50,Tryz.ntmps50;go_wp2_with fail;go_loopw [5,10] (λs x wr=>∃q:Nat,q≤l.length/\x = .int .i64 q/\Xk.Ext w wr/\wr.ownsRow w.heap.size 9 1 s q ((l.take q).map λy=>bs (f y))) (λ_ x _=>l.length-(intOf x).toNat)
 case atStart=>exact⟨0,by omega,rfl,al _ _,qA _ _ _ _⟩
 case round=>
  obtain⟨q,hq,rfl,hx,ho⟩:=hrel;obtain⟨ps,cs,rfl⟩:=uZ ho;have HX:=aa hx;have HO:=aa ho;have hws:=hx.size;clear hx ho;by_cases hlt:q<l.length
  ·obtain⟨g,rfl⟩:=HS.out.root ab;obtain⟨-,-,he⟩:=HS.out.elem;have hget:l[q]?=some l[q]:=aZ hlt;obtain⟨u,hu,-,hr⟩:=he q _ hget;have hmem:=i6 hlt;obtain⟨kd,op,vk,vi,vs,tb,nm,pp,pm,pc,rfl⟩:=HFM.out _ _ hmem hu;have hg:=ay _ _ (hr 0 _ rfl);have HRJ:=aa (eV hr (HX.out.block g hg));have hwg:g<wr.heap.size:=aK hg HX.out.size;have hlb:(q:Int)<(l.length:Int):=ab
   
   have hxb:Xk.Ext wr (wr.alloc (.cells (ao kd op vk vi vs tb nm (.slice pp pm pc)).toArray 35)):=(al _ _).alloc (ai _) _;have HC:=aa (HF.out _ kd op vk vi vs tb nm pp pm pc hmem hu (wr.alloc (.cells (ao kd op vk vi vs tb nm (.slice pp pm pc)).toArray 35)) (Xk.Ext.trans HX.out hxb));have HXB:=aa hxb;have HGET:=aa hget;clear hr hu he hxb hget;generalize l[q]=x at *
   go_wp2_with (first|(refine wpList_load_mid rfl 35 _ rfl g (q*10) rfl _ _ HRJ.out aA rfl au ?_)|(refine bJ rfl 35 _ rfl (wr.heap.size) _ 35 (0,0) _ rfl (aw wr _) aA rfl au ?_));refine HC.out.mono ?_;rintro e wf ⟨rfl,hx'⟩;have hxf:=Xk.Ext.trans HXB.out hx';have hlf:=hxf.size;have HOF:=aa (kb HO.out (λb hb=>hxf.block b (HO.out.lt b hb).2));have HXF:=aa (Xk.Ext.trans HX.out hxf);clear hx' hxf
   go_wp2_with (at_builtin;refine Xo.bY w.heap.size rfl _ _ 29 rfl 9 i0 _ 1 16 Tryz.underlying29 Hi.out Hz0.out Hz1.out Hz2.out rfl aq (.slice ps q cs) q _ rfl (kb HOF.out (λb hb=>(show Xk.Ext wf (wf.alloc (.cells #[bs (f x)] 9))from(al _ _).alloc (ai _) _).block b (HOF.out.lt b hb).2)) wf.heap.size 0 1 1 [bs (f x)] rfl aq rfl (ey wf _ _ rfl) (dS au) ab (by rw[ag];omega) ?_;intro v' w7 ho' hg' hk');have hx7:Xk.Ext w w7:=Below.grown (Xk.Ext.trans HXF.out ((al _ _).alloc (ai _) _)) hg' (by rw[ag];omega) (λj hj=>(HOF.out.lt j hj).1);have HX7:=aa hx7
   have HO7:Hid (w7.ownsRow w.heap.size 9 1 v' (q+1) ((l.take (q+1)).map λy=>bs (f y))):=aa (by rw[← oP HGET.out];exact ho');clear ho' hg' hk' hx7;go_wp2_with fail;go_roundw
   case rel=>exact⟨q+1,by omega,by go_num,HX7.out,HO7.out⟩
   case measure=>simp[intOf];omega
  ·have hlb:¬ (q:Int)<(l.length:Int):=ab;obtain rfl:q=l.length:=ab;have HJN:=aa (Ce (.slice ps l.length cs) w.heap.size (l.map f) wr (by have:=HO.out;rw[List.take_length]at this;rw[gW,List.map_map];exact this) (by rw[gW];omega) (by have:=HJ.out;omega));go_wp2_with fail;refine HJN.out.mono ?_;rintro e wf ⟨rfl,hx'⟩;go_wp2_with fail;go_ret;exact⟨rfl,Xk.Ext.trans HX.out hx'⟩
theorem GV{α:Type}{FI:FuncId}(hent:Ent FI){S:Nat->Prop}{R:α->List Value->Prop}{l:List α}{v:Value}(f:α->P12.T)(w:World)(h:aE S w 12 R l v)(hl:l.length≤100000)(hj:(P12.join (l.map f)).length≤1000000000)(hform:∀x u,x∈l->R x u->∃b:Bool,∃kd op vk vi:Int,∃vs tb nm:P12.T,∃pp:Option Addr,∃pm pc:Nat,∃a:P12.T, u=bT b::(ao kd op vk vi vs tb nm (.slice pp pm pc)++ [bs a]))
  (hF:∀x (b:Bool) (kd op vk vi:Int) (vs tb nm:P12.T) (pp:Option Addr) (pm pc:Nat) (a:P12.T),x∈l->R x (bT b::(ao kd op vk vi vs tb nm (.slice pp pm pc)++ [bs a]))->∀W,Xk.Ext w W->Calls af FI #[.agg (bT b::(ao kd op vk vi vs tb nm (.slice pp pm pc)++ [bs a])).toArray] W λe w'=>e = .returned (bs (f x))/\Xk.Ext W w') :
  Calls af 118 #[v,.func (.func FI) #[] #[]] w λe w'=>e = .returned (bs (P12.join (l.map f)))/\Xk.Ext w w':=by
 have hcf:=hent.run;have hci:=hent.no;have HF:=aa hF;have HS:=aa h;have HFM:=aa hform;have HJ:=aa hj;obtain⟨p,c,rfl⟩:=h.len;obtain⟨i0,hi,hz0,hz1,hz2⟩:=cP Tryz.tG;have Hi:=aa hi;have Hz0:=aa hz0;have Hz1:=aa hz1;have Hz2:=aa hz2;clear hi hz0 hz1 hz2;clear hF hform h hj;go_enter Tryz.func118,Tryz.ntmps118;go_wp2_with fail;go_loopw [5,10] (λs x wr=>∃q:Nat,q≤l.length/\x = .int .i64 q/\Xk.Ext w wr/\wr.ownsRow w.heap.size 9 1 s q ((l.take q).map λy=>bs (f y))) (λ_ x _=>l.length-(intOf x).toNat)
 case atStart=>exact⟨0,by omega,rfl,al _ _,qA _ _ _ _⟩
 case round=>
  obtain⟨q,hq,rfl,hx,ho⟩:=hrel;obtain⟨ps,cs,rfl⟩:=uZ ho;have HX:=aa hx;have HO:=aa ho;have hws:=hx.size;clear hx ho;by_cases hlt:q<l.length
  ·obtain⟨g,rfl⟩:=HS.out.root ab;obtain⟨-,-,he⟩:=HS.out.elem;have hget:l[q]?=some l[q]:=aZ hlt;obtain⟨u,hu,-,hr⟩:=he q _ hget;have hmem:=i6 hlt;obtain⟨b,kd,op,vk,vi,vs,tb,nm,pp,pm,pc,a,rfl⟩:=HFM.out _ _ hmem hu;have hg:=ay _ _ (hr 0 _ rfl);have HRJ:=aa (eV hr (HX.out.block g hg));have hwg:g<wr.heap.size:=aK hg HX.out.size;have hlb:(q:Int)<(l.length:Int):=ab
   
   have hxb:Xk.Ext wr (wr.alloc (.cells (bT b::(ao kd op vk vi vs tb nm (.slice pp pm pc)++ [bs a])).toArray 88)):=(al _ _).alloc (ai _) _;have HC:=aa (HF.out _ b kd op vk vi vs tb nm pp pm pc a hmem hu (wr.alloc (.cells (bT b::(ao kd op vk vi vs tb nm (.slice pp pm pc)++ [bs a])).toArray 88)) (Xk.Ext.trans HX.out hxb));have HXB:=aa hxb;have HGET:=aa hget;clear hr hu he hxb hget;generalize l[q]=x at *
   go_wp2_with (first|(refine wpList_load_mid rfl 88 _ rfl g (q*12) rfl _ _ HRJ.out fJ rfl au ?_)|(refine bJ rfl 88 _ rfl (wr.heap.size) _ 88 (0,0) _ rfl (aw wr _) fJ rfl au ?_));refine HC.out.mono ?_;rintro e wf ⟨rfl,hx'⟩;have hxf:=Xk.Ext.trans HXB.out hx';have hlf:=hxf.size;have HOF:=aa (kb HO.out (λb hb=>hxf.block b (HO.out.lt b hb).2));have HXF:=aa (Xk.Ext.trans HX.out hxf);clear hx' hxf
   go_wp2_with (at_builtin;refine Xo.bY w.heap.size rfl _ _ 29 rfl 9 i0 _ 1 16 Tryz.underlying29 Hi.out Hz0.out Hz1.out Hz2.out rfl aq (.slice ps q cs) q _ rfl (kb HOF.out (λb hb=>(show Xk.Ext wf (wf.alloc (.cells #[bs (f x)] 9))from(al _ _).alloc (ai _) _).block b (HOF.out.lt b hb).2)) wf.heap.size 0 1 1 [bs (f x)] rfl aq rfl (ey wf _ _ rfl) (dS au) ab (by rw[ag];omega) ?_;intro v' w7 ho' hg' hk');have hx7:Xk.Ext w w7:=Below.grown (Xk.Ext.trans HXF.out ((al _ _).alloc (ai _) _)) hg' (by rw[ag];omega) (λj hj=>(HOF.out.lt j hj).1);have HX7:=aa hx7
   have HO7:Hid (w7.ownsRow w.heap.size 9 1 v' (q+1) ((l.take (q+1)).map λy=>bs (f y))):=aa (by rw[← oP HGET.out];exact ho');clear ho' hg' hk' hx7;go_wp2_with fail;go_roundw
   case rel=>exact⟨q+1,by omega,by go_num,HX7.out,HO7.out⟩
   case measure=>simp[intOf];omega
  ·have hlb:¬ (q:Int)<(l.length:Int):=ab;obtain rfl:q=l.length:=ab;have HJN:=aa (Ce (.slice ps l.length cs) w.heap.size (l.map f) wr (by have:=HO.out;rw[List.take_length]at this;rw[gW,List.map_map];exact this) (by rw[gW];omega) (by have:=HJ.out;omega));go_wp2_with fail;refine HJN.out.mono ?_;rintro e wf ⟨rfl,hx'⟩;go_wp2_with fail;go_ret;exact⟨rfl,Xk.Ext.trans HX.out hx'⟩
abbrev Ex(l:List Value):Obj := .cells l.toArray 27
def ET(B:Nat)(o:Obj)(w w':World):Prop:=w'.os=w.os/\w'.tape=w.tape/\w'.output=w.output/\w.heap.size≤w'.heap.size/\∀b,b<w.heap.size->w'.heap[b]?=w.heap[b]?∨(B≤b/\w'.heap[b]?=some o)
theorem eh(B:Nat)(o:Obj):Xe.Pre (ET B o):=by
 refine⟨λw=>⟨rfl,rfl,rfl,ai _,λb _ => .inl rfl⟩,?_,?_,λh=>h.2.2.2.1⟩
 ·rintro a b c ⟨h1,h2,h3,h4,h5⟩ ⟨g1,g2,g3,g4,g5⟩;refine⟨g1.trans h1,g2.trans h2,g3.trans h3,bI h4 g4,λx hx=>?_⟩;rcases g5 x (aK hx h4)with e|e
  ·rw[e];exact h5 x hx
  ·exact .inr e
 ·intro a b h;exact⟨h.os,h.tape,h.output,h.size,λx hx => .inl (h.block x hx)⟩
theorem xa{w w2 W:World}{o:Obj}(h2:Xk.Ext w w2)(h:ET w2.heap.size o w2.drew W):Xk.Ext w W:=
 ⟨h.1.trans h2.os,h.2.1.trans h2.tape,h.2.2.1.trans h2.output,bI h2.size (by have:=h.2.2.2.1;rwa [bM]at this),λb hb=>by
  have hs:=h2.size;have:=(h.2.2.2.2 b (by rw[bM];omega)).resolve_right (λe=>by omega);exact this.trans (h2.block b hb)⟩
def An(B:Nat)(_:List Value)(v:Value)(W:World):Prop:=∃g c,v = .pointer (some ⟨g,0,none⟩)/\B≤g/\c.size=4/\W.heap[g]?=some (.cells c 27)
def Am(B:Nat)(l:List Value)(ls:List Value)(_:Value)(W:World):Prop:=∀g,ls.head?=some (.pointer (some ⟨g,0,none⟩))->B≤g->W.heap[g]?=some (Ex l)
theorem An.et{B:Nat}{l:List Value}(hl:l.length=4):∀ls v w w',ET B (Ex l) w w'->An B ls v w->An B ls v w':=by
 rintro ls v w w' h ⟨g,c,rfl,hg,hc,hw⟩;rcases h.2.2.2.2 g (ae.1 hw).1 with e|⟨-,e⟩
 ·exact⟨g,c,rfl,hg,hc,e.trans hw⟩
 ·exact⟨g,l.toArray,rfl,hg,by simpa using hl,e⟩
theorem Am.et{B:Nat}{l:List Value}:∀ls v w w',ET B (Ex l) w w'->Am B l ls v w->Am B l ls v w':=by
 intro ls v w w' h hs g hg hb;have hw:=hs g hg hb;rcases h.2.2.2.2 g (ae.1 hw).1 with e|⟨-,e⟩
 ·exact e.trans hw
 ·exact e
theorem kz{P:Program}{o:Oper}{a:Act}{B:Nat}{w:World}{φ:Value->World->Prop}(t:TypeId)(x y:Operand)(ho:o.op = .store t x y)(g:Nat)(c c':Array Value)(T:TypeId)(hx:a.eval x = .pointer (some ⟨g,0,none⟩))(hy:a.eval y = .agg c')
  (hg:w.heap[g]?=some (.cells c T)) (hs:c.size=c'.size) (hi:(P.info? t).map (·.size)=some c'.size) (h1:c'.all (·.oneCell')=true) (hb:B≤g) (hφ:∀W,W.heap[g]?=some (.cells c' T)->φ undef W):Xe.eE (ET B (.cells c' T)) P o a w none φ:=by
 have ht:w.there g 0 c'.size:=λj hj=>by
  rw[eF];exact⟨by simp[ak,hg,show j<c.size by omega],aD w g j _ _ hg⟩
 have hp:=gZ hg c'.toList 0;have hw:(w.setCells g 0 c'.toList).heap[g]?=some (.cells c' T):=by simpa using ir hg c'.toList (by simpa using hs.symm)
 unfold Xe.eE execOp;simp only[ho,hx,hy,Instr.storeAt,Instr.sureAddr,Sem.run_bind,Sem.run_pure,oZ,run_storeVar_mid w g 0 t c' ht hi h1];refine⟨⟨hp.os,hp.tape,hp.output,Nat.le_of_eq hp.size.symm,λb hbb=>?_⟩,hφ _ hw,λb hb=>by cases hb⟩;by_cases hbg:b=g
 ·subst hbg;exact .inr ⟨hb,hw⟩
 ·exact .inl (hp.rest b hbg)
theorem cO{kind lim:Int}{tn nm on:P12.T}{un:Bool}{p1 p2 p3 p4 p5 p6 p7 p8 p9 p10 p11:Option Addr}{n1 n2 n3 n4 n5 n6 n7 n8 n9 n10 n11 c1 c2 c3 c4 c5 c6 c7 c8 c9 c10 c11:Nat}
  {k1 o1 vk1 vi1:Int} {vs1 tb1 nm1:P12.T} {q1:Option Addr} {m1 d1:Nat} {k2 o2 vk2 vi2:Int} {vs2 tb2 nm2:P12.T} {q2:Option Addr} {m2 d2:Nat} {W:World} {g:Nat}
  (h:W.heap[g]?=some (cL (cT kind tn (.slice p1 n1 c1) (.slice p2 n2 c2) (.slice p3 n3 c3) (.slice p4 n4 c4) nm on un (.slice p5 n5 c5) (.slice p6 n6 c6) (.slice p7 n7 c7) (ao k1 o1 vk1 vi1 vs1 tb1 nm1 (.slice q1 m1 d1)) (.slice p8 n8 c8) (.slice p9 n9 c9) (ao k2 o2 vk2 vi2 vs2 tb2 nm2 (.slice q2 m2 d2)) (.slice p10 n10 c10) (.slice p11 n11 c11) lim))) :
  g<W.heap.size/\W.cell? ⟨g,1,none⟩=some (bs tn)/\W.cell? ⟨g,2,none⟩=some ((.slice p1 n1 c1))/\W.cell? ⟨g,3,none⟩=some ((.slice p2 n2 c2))/\W.cell? ⟨g,4,none⟩=some ((.slice p3 n3 c3))/\W.cell? ⟨g,5,none⟩=some ((.slice p4 n4 c4))/\W.cell? ⟨g,6,none⟩=some (bs nm)/\W.cell? ⟨g,7,none⟩=some (bs on)/\W.cell? ⟨g,8,none⟩=some (.bool un)/\W.cell? ⟨g,9,none⟩=some ((.slice p5 n5 c5))/\W.cell? ⟨g,10,none⟩=some ((.slice p6 n6 c6))/\W.cell? ⟨g,11,none⟩=some ((.slice p7 n7 c7))/\W.cell? ⟨g,12,none⟩=some (.int .i64 k1)/\W.cell? ⟨g,13,none⟩=some (.int .i64 o1)/\W.cell? ⟨g,14,none⟩=some (.int .i64 vk1)/\W.cell? ⟨g,15,none⟩=some (.int .i64 vi1)/\W.cell? ⟨g,16,none⟩=some (bs vs1)/\W.cell? ⟨g,17,none⟩=some (bs tb1)/\W.cell? ⟨g,18,none⟩=some (bs nm1)/\W.cell? ⟨g,19,none⟩=some (.int .i64 0)/\W.cell? ⟨g,20,none⟩=some (.int .i64 0)/\W.cell? ⟨g,21,none⟩=some (.slice q1 m1 d1)/\W.cell? ⟨g,22,none⟩=some ((.slice p8 n8 c8))/\W.cell? ⟨g,23,none⟩=some ((.slice p9 n9 c9))/\W.cell? ⟨g,24,none⟩=some (.int .i64 k2)/\W.cell? ⟨g,25,none⟩=some (.int .i64 o2)/\W.cell? ⟨g,26,none⟩=some (.int .i64 vk2)/\W.cell? ⟨g,27,none⟩=some (.int .i64 vi2)/\W.cell? ⟨g,28,none⟩=some (bs vs2)/\W.cell? ⟨g,29,none⟩=some (bs tb2)/\W.cell? ⟨g,30,none⟩=some (bs nm2)/\W.cell? ⟨g,31,none⟩=some (.int .i64 0)/\W.cell? ⟨g,32,none⟩=some (.int .i64 0)/\W.cell? ⟨g,33,none⟩=some (.slice q2 m2 d2)/\W.cell? ⟨g,34,none⟩=some ((.slice p10 n10 c10))/\W.cell? ⟨g,35,none⟩=some ((.slice p11 n11 c11))/\W.cell? ⟨g,36,none⟩=some (.int .i64 lim):=by
 refine⟨(ae.1 h).1,?_,?_,?_,?_,?_,?_,?_,?_,?_,?_,?_,?_,?_,?_,?_,?_,?_,?_,?_,?_,?_,?_,?_,?_,?_,?_,?_,?_,?_,?_,?_,?_,?_,?_,?_,?_⟩<;>simp[ak,h]
theorem oc{tn:P12.T}{p1 p2 p3:Option Addr}{n1 n2 n3 c1 c2 c3:Nat}{W:World}{g:Nat}(h:W.heap[g]?=some (Ex [bs tn,.slice p1 n1 c1,.slice p2 n2 c2,.slice p3 n3 c3])):
  g<W.heap.size/\W.cell? ⟨g,0,none⟩=some (bs tn)/\W.cell? ⟨g,1,none⟩=some (.slice p1 n1 c1)/\W.cell? ⟨g,2,none⟩=some (.slice p2 n2 c2)/\W.cell? ⟨g,3,none⟩=some (.slice p3 n3 c3):=by
 refine⟨(ae.1 h).1,?_,?_,?_,?_⟩<;>simp[ak,h]
theorem CV(kind lim:Int)(tn nm on:P12.T)(un:Bool)(p1 p2 p3 p4 p5 p6 p7 p8 p9 p10 p11:Option Addr)(n1 n2 n3 n4 n5 n6 n7 n8 n9 n10 n11 c1 c2 c3 c4 c5 c6 c7 c8 c9 c10 c11:Nat)
  (k1 o1 vk1 vi1:Int) (vs1 tb1 nm1:P12.T) (q1:Option Addr) (m1 d1:Nat) (k2 o2 vk2 vi2:Int) (vs2 tb2 nm2:P12.T) (q2:Option Addr) (m2 d2:Nat) (b1 b2:Bool) (l:List Value)
  (hl:l=cT kind tn (.slice p1 n1 c1) (.slice p2 n2 c2) (.slice p3 n3 c3) (.slice p4 n4 c4) nm on un (.slice p5 n5 c5) (.slice p6 n6 c6) (.slice p7 n7 c7) (ao k1 o1 vk1 vi1 vs1 tb1 nm1 (.slice q1 m1 d1)) (.slice p8 n8 c8) (.slice p9 n9 c9) (ao k2 o2 vk2 vi2 vs2 tb2 nm2 (.slice q2 m2 d2)) (.slice p10 n10 c10) (.slice p11 n11 c11) lim)
  (hB1:∀W,Calls af 94 #[.agg (ao k1 o1 vk1 vi1 vs1 tb1 nm1 (.slice q1 m1 d1)).toArray] W λe w'=>e = .returned (.bool b1)/\Xk.Ext W w')
  (hB2:∀W,Calls af 94 #[.agg (ao k2 o2 vk2 vi2 vs2 tb2 nm2 (.slice q2 m2 d2)).toArray] W λe w'=>e = .returned (.bool b2)/\Xk.Ext W w')
  (w:World):Calls af 32 #[.agg l.toArray,.agg l.toArray] w λe w'=>e = .returned (.bool true)/\Xk.Ext w w':=by
 subst hl;have HB1:=aa hB1;have HB2:=aa hB2;clear hB1 hB2;go_enter Tryz.func32,Tryz.ntmps32;obtain⟨lv,hlv⟩:∃lv,lv=cT kind tn (.slice p1 n1 c1) (.slice p2 n2 c2) (.slice p3 n3 c3) (.slice p4 n4 c4) nm on un (.slice p5 n5 c5) (.slice p6 n6 c6) (.slice p7 n7 c7) (ao k1 o1 vk1 vi1 vs1 tb1 nm1 (.slice q1 m1 d1)) (.slice p8 n8 c8) (.slice p9 n9 c9) (ao k2 o2 vk2 vi2 vs2 tb2 nm2 (.slice q2 m2 d2)) (.slice p10 n10 c10) (.slice p11 n11 c11) lim:=⟨_,rfl⟩
 have hg1:((w.alloc (cL lv)).alloc (cL lv)).heap[w.heap.size]?=some (cL lv):=(((al _ _).alloc (ai _) _:Xk.Ext (w.alloc (cL lv)) _).block _ (by rw[ag];omega)).trans (aw w _)
 have hg2:((w.alloc (cL lv)).alloc (cL lv)).heap[w.heap.size+1]?=some (cL lv):=by
  have:=aw (w.alloc (cL lv)) (cL lv);rwa [ag]at this
 have hsz:((w.alloc (cL lv)).alloc (cL lv)).heap.size=w.heap.size+2:=aI;rw[← hlv];have HLV:=aa hlv;clear hlv;go_wp2_with fail;have hx2:Xk.Ext w ((w.alloc (cL lv)).alloc (cL lv)):=((al _ _).alloc (ai _) _).alloc (by rw[ag];omega) _;generalize (w.alloc (cL lv)).alloc (cL lv)=w2 at *
 obtain⟨tl,htl⟩:∃tl:List Value,tl = [bs tn,.slice p1 n1 c1,.slice p2 n2 c2,.slice p3 n3 c3]:=⟨_,rfl⟩;have hlv:=HLV.out
 have hcl:∀g W,(W:World).heap[g]?=some (cL lv)->W.cell? ⟨g,1,none⟩=some (bs tn)/\W.cell? ⟨g,2,none⟩=some (.slice p1 n1 c1)/\W.cell? ⟨g,3,none⟩=some (.slice p2 n2 c2)/\W.cell? ⟨g,4,none⟩=some (.slice p3 n3 c3)/\W.cell? ⟨g,5,none⟩=some (.slice p4 n4 c4):=λg W h=>by
  rw[hlv]at h;refine⟨?_,?_,?_,?_,?_⟩<;>simp[ak,h]
 clear hlv;refine Xd.bm (E:=ET w2.heap.size (Ex tl)) (eh _ _) 8 (λ_=>none) (λ_ _ h=>by cases h) (λ_ _ _ _ h=>by cases h) [(4,An w2.heap.size),(5,An w2.heap.size),(6,Am w2.heap.size tl),(7,Am w2.heap.size tl)] au au (Xd.mJ ?_) ?_
 ·intro y hy;simp only[List.mem_cons,List.not_mem_nil,or_false]at hy;rcases hy with rfl|rfl|rfl|rfl
  ·exact An.et (by rw[htl];rfl)
  ·exact An.et (by rw[htl];rfl)
  ·exact Am.et
  ·exact Am.et
 simp only[List.take_succ_cons,List.take_zero,List.drop_succ_cons,List.drop_zero];(refine Xs.d ?_)
 (refine Xd.aX (eh _ _) (Xk.aQ az) az (λK hK=>?_);apply aU;refine⟨λW hx hp=>?_,?_⟩;((have hb:=((hx.2.2.2.2 w.heap.size (by have:=hsz;simp;omega)).resolve_right (λh=>by have:=h.1;omega)).trans hg1;obtain⟨k1,k2,k3,k4,k5⟩:=hcl _ _ hb);go_simp;exact⟨rfl,rfl⟩);(go_simp;refine hK _ ?_;clear hK K))
 (refine Xs.d ?_)
 (refine Xd.aX (eh _ _) (Xk.aQ az) az (λK hK=>?_);apply aU;refine⟨λW hx hp=>?_,?_⟩;((have hb:=((hx.2.2.2.2 (w.heap.size+1) (by have:=hsz;simp;omega)).resolve_right (λh=>by have:=h.1;omega)).trans hg2;obtain⟨k1,k2,k3,k4,k5⟩:=hcl _ _ hb);go_simp;exact⟨rfl,rfl⟩);(go_simp;refine hK _ ?_;clear hK K))
 (refine Xd.bc (eh _ _) az az (λW hx hp=>?_) (λu5 K hK=>?_);((go_simp;exact⟨(eh _ _).ext ((al _ _).alloc (ai _) _),⟨W.heap.size,_,rfl,by have h1:=hx.2.2.2.1;rw[bM]at h1;have h2:=hsz;omega,rfl,aw W _⟩,λb hb=>by cases hb⟩));(go_simp;refine hK _ ?_;clear hK K))
 (refine Xd.bc (eh _ _) az az (λW hx hp=>?_) (λu6 K hK=>?_);((go_simp;exact⟨(eh _ _).ext ((al _ _).alloc (ai _) _),⟨W.heap.size,_,rfl,by have h1:=hx.2.2.2.1;rw[bM]at h1;have h2:=hsz;omega,rfl,aw W _⟩,λb hb=>by cases hb⟩));(go_simp;refine hK _ ?_;clear hK K))
 (refine Xd.bc (eh _ _) az az (λW hx hp=>?_) (λu7 K hK=>?_);((obtain⟨g,c,rfl,hg,hc,hw⟩:=Xd.bG (Xe.mU hp) au;rw[htl]at hx ⊢;exact kz _ _ _ rfl g c _ _ rfl rfl hw hc au au hg (λW hW g' hg' _=>by cases hg';exact hW)));(go_simp;refine hK _ ?_;clear hK K))
 (refine Xd.bc (eh _ _) az az (λW hx hp=>?_) (λu8 K hK=>?_);((obtain⟨g,c,rfl,hg,hc,hw⟩:=Xd.bG (Xe.mU hp) au;rw[htl]at hx ⊢;exact kz _ _ _ rfl g c _ _ rfl rfl hw hc au au hg (λW hW g' hg' _=>by cases hg';exact hW)));(go_simp;refine hK _ ?_;clear hK K))
 refine Xd.bD (λW hx hp hG=>?_);obtain⟨h8,h7,h6,h5,-⟩:=hp;obtain⟨g6,c6',rfl,hg6,-,-⟩:=h6;obtain⟨g5,c5',rfl,hg5,-,-⟩:=h5;have hT5:=h7 g5 rfl hg5;have hT6:=h8 g6 rfl hg6;clear h7 h8 hG;have hs1:=((hx.2.2.2.2 w.heap.size (by have:=hsz;simp;omega)).resolve_right (λh=>by have:=h.1;omega)).trans hg1;have hs2:=((hx.2.2.2.2 (w.heap.size+1) (by have:=hsz;simp;omega)).resolve_right (λh=>by have:=h.1;omega)).trans hg2;have hxW:=aa (xa hx2 hx);rw[HLV.out]at hs1 hs2;rw[htl]at hT5 hT6
 obtain⟨ha0,x1,x2,x3,x4,x5,x6,x7,x8,x9,x10,x11,x12,x13,x14,x15,x16,x17,x18,x19,x20,x21,x22,x23,x24,x25,x26,x27,x28,x29,x30,x31,x32,x33,x34,x35,x36⟩:=cO hs1;obtain⟨hb0,y1,y2,y3,y4,y5,y6,y7,y8,y9,y10,y11,y12,y13,y14,y15,y16,y17,y18,y19,y20,y21,y22,y23,y24,y25,y26,y27,y28,y29,y30,y31,y32,y33,y34,y35,y36⟩:=cO hs2;obtain⟨hc0,u0,u1,u2,u3⟩:=oc hT5;obtain⟨hd0,v0,v1,v2,v3⟩:=oc hT6;clear hs1 hs2 hT5 hT6 hcl htl hx hg1 hg2 hg5 hg6 hsz hx2;go_wp2_with fail;simp only[xB,fV,zQ];refine Xk.reg 151 (Xk.w2 HB1.out HB2.out λp=>?_);go_wp2_with fail;go_ret;exact⟨rfl,AF.trans hxW.out (Xk.xt:Xk.Ext W _)⟩
def EC(g:Nat)(T:TypeId)(L:Array Value)(w w':World):Prop:=w'.os=w.os/\w'.tape=w.tape/\w'.output=w.output/\w.heap.size≤w'.heap.size /\
 ∀b,b<w.heap.size->w'.heap[b]?=w.heap[b]?∨(b=g/\∃c c',w.heap[b]?=some (.cells c T)/\w'.heap[b]?=some (.cells c' T)/\c'.size=c.size/\∀j:Nat,c'[j]?=c[j]?∨c'[j]?=L[j]?)
theorem iD(g:Nat)(T:TypeId)(L:Array Value):Xe.Pre (EC g T L):=by
 refine⟨λw=>⟨rfl,rfl,rfl,ai _,λb _ => .inl rfl⟩,?_,?_,λh=>h.2.2.2.1⟩
 ·rintro a b c ⟨h1,h2,h3,h4,h5⟩ ⟨g1,g2,g3,g4,g5⟩;refine⟨g1.trans h1,g2.trans h2,g3.trans h3,bI h4 g4,λx hx=>?_⟩;rcases g5 x (aK hx h4)with e|⟨hb,c1,c2,e1,e2,e3,e4⟩
  ·rw[e];exact h5 x hx
  ·rcases h5 x hx with f|⟨-,d1,d2,f1,f2,f3,f4⟩
   ·exact .inr ⟨hb,c1,c2,by rw[← f];exact e1,e2,e3,e4⟩
   ·rw[f2]at e1
    cases e1;refine .inr ⟨hb,d1,c2,f1,e2,e3.trans f3,λj=>?_⟩;rcases e4 j with e|e
    ·rw[e];exact f4 j
    ·exact .inr e
 ·intro a b h;exact⟨h.os,h.tape,h.output,h.size,λx hx => .inl (h.block x hx)⟩
def gh(g:Nat)(T:TypeId)(L:Array Value)(o k:Nat)(_:Value)(W:World):Prop:=∃c,W.heap[g]?=some (.cells c T)/\∀j:Nat,o≤j->j<o+k->c[j]?=L[j]?
theorem gh.ec{g:Nat}{T:TypeId}{L:Array Value}{o k:Nat}:∀v w w',EC g T L w w'->gh g T L o k v w->gh g T L o k v w':=by
 rintro v w w' h ⟨c,hc,hj⟩;rcases h.2.2.2.2 g (ae.1 hc).1 with e|⟨-,c1,c2,e1,e2,-,e4⟩
 ·exact⟨c,e.trans hc,hj⟩
 ·rw[hc]at e1
  cases e1;refine⟨c2,e2,λj h1 h2=>?_⟩;rcases e4 j with e|e
  ·rw[e];exact hj j h1 h2
  ·exact e
theorem JX{g:Nat}{T:TypeId}{L:Array Value}{w w':World}(h:EC g T L w w'){c:Array Value}(hc:w.heap[g]?=some (.cells c T)):∃c',w'.heap[g]?=some (.cells c' T)/\c'.size=c.size/\∀j:Nat,c'[j]?=c[j]?∨c'[j]?=L[j]?:=by
 rcases h.2.2.2.2 g (ae.1 hc).1 with e|⟨-,c1,c2,e1,e2,e3,e4⟩
 ·exact⟨c,e.trans hc,rfl,λj => .inl rfl⟩
 ·rw[hc]at e1
  cases e1;exact⟨c2,e2,e3,e4⟩
theorem JY{g:Nat}{T:TypeId}{L:Array Value}{w w':World}(h:EC g T L w w'){b:Nat}(hb:b<w.heap.size)(hn:b≠g):w'.heap[b]?=w.heap[b]?:=(h.2.2.2.2 b hb).resolve_right λe=>hn e.1
theorem F0{g:Nat}{T:TypeId}{L:Array Value}{W:World}{c:Array Value}(hg:W.heap[g]?=some (.cells c T))(vs:List Value)(o:Nat)(hs:o+vs.length≤c.size)(hL:∀j:Nat,j<vs.length->L[o+j]?=vs[j]?):
  EC g T L W (W.setCells g o vs)/\∀v,gh g T L o vs.length v (W.setCells g o vs):=by
 obtain⟨c',e1,e2,e3,e4⟩:=lQ vs o W c hg hs;obtain⟨h1,h2,h3⟩:=jZ g vs o W;refine⟨⟨h1,h2,h3,Nat.le_of_eq (setCells_size g vs o W).symm,λb hb=>?_⟩,λv=>⟨c',e1,λj h1 h2=>?_⟩⟩
 ·by_cases hbg:b=g
  ·subst hbg;refine .inr ⟨rfl,c,c',hg,e1,e2,λj=>?_⟩;by_cases hj:o≤j/\j<o+vs.length
   ·have:=e3 (j-o) ab;rw[show o+(j-o)=j by omega]at this;have hl:=hL (j-o) ab;rw[show o+(j-o)=j by omega]at hl;exact .inr (this.trans hl.symm)
   ·exact .inl (e4 j ab)
  ·exact .inl (dL g vs o W hbg)
 ·have:=e3 (j-o) ab;rw[show o+(j-o)=j by omega]at this;have hl:=hL (j-o) ab;rw[show o+(j-o)=j by omega]at hl;exact this.trans hl.symm
theorem kL{g:Nat}{T:TypeId}{L:Array Value}{W:World}{c:Array Value}{o:Nat}{v:Value}(hg:W.heap[g]?=some (.cells c T))(hs:o<c.size)(hL:L[o]?=some v):
  Xe.gS (EC g T L) W none (gh g T L o 1) undef (W.setCell ⟨g,o,none⟩ v):=by
 obtain⟨h1,h2⟩:=F0 (L:=L) hg [v] o (by simp;omega) (λj hj=>by
  have:j=0:=by simpa using hj
  subst this;simpa using hL)
 exact⟨h1,h2 _,λb hb=>by cases hb⟩
theorem rD{P:Program}{o:Oper}{a:Act}{g:Nat}{T:TypeId}{L:Array Value}{w:World}(t:TypeId)(x y:Operand)(ho:o.op = .store t x y)(off:Nat)(c c':Array Value)(hx:a.eval x = .pointer (some ⟨g,off,none⟩))(hy:a.eval y = .agg c')
  (hg:w.heap[g]?=some (.cells c T)) (hs:off+c'.size≤c.size) (hi:(P.info? t).map (·.size)=some c'.size) (h1:c'.all (·.oneCell')=true) (hL:∀j:Nat,j<c'.size->L[off+j]?=c'[j]?):Xe.eE (EC g T L) P o a w none (gh g T L off c'.size):=by
 have ht:w.there g off c'.size:=λj hj=>⟨by simp[ak,hg,show off+j<c.size by omega],aD w g (off+j) _ _ hg⟩;obtain⟨e1,e2⟩:=F0 (L:=L) hg c'.toList off (by simpa using hs) (λj hj=>by simpa using hL j (by simpa using hj));unfold Xe.eE execOp;simp only[ho,hx,hy,Instr.storeAt,Instr.sureAddr,Sem.run_bind,Sem.run_pure,oZ,run_storeVar_mid w g off t c' ht hi h1];exact⟨e1,by simpa using e2 undef,λb hb=>by cases hb⟩
theorem vJ{P:Program}{ops:Array Oper}{rest:List Oper}{o:Oper}{a:Act}{w:World}{Q:Exit->Act->World->Prop}(hgd:o.guard=none)(t:TypeId)(x:Operand)(ho:o.op = .build t #[(0,x)])
  (u v:Value) (hx:a.eval x=u) (hb:(cR t #[(0,u)]).run P w = .ok v w)
  (h:wpList P ops Q rest (a.put o.dst v) w):wpList P ops Q (o::rest) a w:=
 wpList_plain hgd λ_ hK=>by
  unfold Oper.wp execOp;simp only[ho,List.map_toArray,zW,List.map_nil,hx,Sem.run_bind,Sem.run_pure,hb,oZ];exact hK _ _ h
structure KI(w:World)(l:List Value)(g1 g2 g3:Nat)(s:List Nat)(W:World):Prop where
 x:Xk.Ext w W
 g:w.heap.size≤g1/\g1<g2/\g2<g3/\g3<W.heap.size
 len:l.length=37
 b1:W.heap[g1]?=some (cL l)
 b2:∃c:List Value,W.heap[g2]?=some (cL c)/\c.length=37
 b3:∃c:List Value,W.heap[g3]?=some (cL c)/\c.length=37/\∀j∈s,c[j]?=l[j]?
theorem KI.cell{w W:World}{l:List Value}{g1 g2 g3:Nat}{s:List Nat}(h:KI w l g1 g2 g3 s W){j:Nat}{v:Value}(hv:l[j]?=some v):W.cell? ⟨g1,j,none⟩=some v:=by
 simp[ak,h.b1,hv]
theorem KI.zD{w W:World}{l:List Value}{g1 g2 g3:Nat}{s:List Nat}(h:KI w l g1 g2 g3 s W){j:Nat}(hj:j<37):(∃v,W.cell? ⟨g3,j,none⟩=some v)/\W.frozen? ⟨g3,j,none⟩=false:=by
 obtain⟨c,h1,h2,-⟩:=h.b3;exact⟨⟨c[j],by simp[ak,h1,show j<c.length by omega]⟩,aD W g3 j _ _ h1⟩
theorem KI.lt1{w W:World}{l:List Value}{g1 g2 g3:Nat}{s:List Nat}(h:KI w l g1 g2 g3 s W):g1<W.heap.size:=(ae.1 h.b1).1
theorem KI.ec{w W W':World}{l:List Value}{g1 g2 g3:Nat}{s:List Nat}(h:KI w l g1 g2 g3 s W)(he:EC g3 40 l.toArray W.drew W'):KI w l g1 g2 g3 s W':=by
 obtain⟨k1,k2,k3,k4⟩:=h.g;have hs:W.heap.size≤W'.heap.size:=by have:=he.2.2.2.1;rwa [bM]at this
 have hoff:∀b,b<W.heap.size->b≠g3->W'.heap[b]?=W.heap[b]?:=λb hb hn=>JY he (by rwa [bM]) hn;have hxs:=h.x.size;refine⟨⟨he.1.trans h.x.os,he.2.1.trans h.x.tape,he.2.2.1.trans h.x.output,bI h.x.size hs,λb hb=>(hoff b ab ab).trans (h.x.block b hb)⟩,⟨k1,k2,k3,by omega⟩,h.len,(hoff g1 ab ab).trans h.b1,?_,?_⟩
 ·obtain⟨c,e,hc⟩:=h.b2;exact⟨c,(hoff g2 ab ab).trans e,hc⟩
 ·obtain⟨c,e,hc,hj⟩:=h.b3;obtain⟨c',e',hc',hj'⟩:=JX he (w:=W.drew) e;refine⟨c'.toList,by simpa using e',by simpa[hc]using hc',λj hjs=>?_⟩;have hL:l.toArray[j]?=l[j]?:=aI;rcases hj' j with q|q
  ·rw[pK,q];simpa using hj j hjs
  ·rw[pK,q,hL]
theorem KI.more{w W:World}{l:List Value}{g1 g2 g3:Nat}{s:List Nat}{o k:Nat}(h:KI w l g1 g2 g3 s W)(hc:gh g3 40 l.toArray o k undef W):KI w l g1 g2 g3 (List.range' o k++s) W:=by
 refine⟨h.x,h.g,h.len,h.b1,h.b2,?_⟩;obtain⟨c,e,hl,hj⟩:=h.b3;obtain⟨c',e',hj'⟩:=hc;rw[e]at e'
 cases e';refine⟨c,e,hl,λj hjs=>?_⟩;rcases kh.1 hjs with q|q
 ·have:=List.mem_range'_1.1 q;simpa using hj' j this.1 ab
 ·exact hj j q
theorem KI.done{w W:World}{l:List Value}{g1 g2 g3:Nat}{s:List Nat}(h:KI w l g1 g2 g3 s W)(hs:∀j,j<37->j∈s):W.heap[g3]?=some (cL l):=by
 obtain⟨c,e,hl,hj⟩:=h.b3;rw[e]
 have:c=l:=List.ext_getElem? λj=>by
  by_cases hjl:j<37
  ·exact hj j (hs j hjl)
  ·rw[List.getElem?_eq_none ab,List.getElem?_eq_none (by have:=h.len;omega)]
 rw[this]
theorem CP{g:Nat}{T:TypeId}{L:Array Value}{Ψ:List (Nat×(Value->World->Prop))}(h:∀x∈Ψ,∀v w w',EC g T L w w'->x.2 v w->x.2 v w'):∀i φ,Xk.eg Ψ i=some φ->∀v w w',EC g T L w w'->φ v w->φ v w':=by
 intro i φ ht;induction Ψ with
 | nil=>cases ht
 | cons x r ih=>
  unfold Xk.eg at ht;split at ht
  ·cases ht;exact h x (cy ..)
  ·exact ih (λy hy=>h y (cV _ hy)) ht
theorem BE{g:Nat}{T:TypeId}{L:Array Value}{Ψ:List (Nat×(Value->World->Prop))}(h:∀x∈Ψ,∃o k,x.2=gh g T L o k):∀i φ,Xk.eg Ψ i=some φ->∀v w w',EC g T L w w'->φ v w->φ v w':=
 CP λx hx=>by
  obtain⟨o,k,e⟩:=h x hx;rw[e];exact gh.ec
theorem KI.start{w W W3:World}{l z c0:List Value}(hl:l.length=37){s:List Nat}(hW:W=(w.alloc (cL l)).alloc (cL bC))(hp:bt W.heap.size z.toArray 40 (W.alloc (cL c0)) W3)(hz:z.length=37)(hs:∀j∈s,z[j]?=l[j]?):
  KI w l w.heap.size (w.heap.size+1) W.heap.size s W3:=by
 have hsz:W.heap.size=w.heap.size+2:=by rw[hW,ag,ag]
 have hx:Xk.Ext w W:=by rw[hW];exact((al _ _).alloc (ai _) _).alloc (by rw[ag];omega) _
 have hx2:Xk.Ext W (W.alloc (cL c0)):=(al _ _).alloc (ai _) _
 have h1:W.heap[w.heap.size]?=some (cL l):=by
  rw[hW];exact(((al _ _).alloc (ai _) _:Xk.Ext (w.alloc (cL l)) _).block _ (by rw[ag];omega)).trans (aw w _)
 have h2:W.heap[w.heap.size+1]?=some (cL bC):=by
  rw[hW];have:=aw (w.alloc (cL l)) (cL bC);rwa [ag]at this
 have hs3:=hp.size;rw[ag]at hs3;refine⟨jj hp (Xk.Ext.trans hx hx2) ab,⟨ai _,by omega,by omega,by omega⟩,hl,(hp.rest _ ab).trans ((hx2.block _ ab).trans h1),⟨bC,(hp.rest _ ab).trans ((hx2.block _ ab).trans h2),rfl⟩,⟨z,hp.blk,hz,hs⟩⟩
theorem FP{l m:List Value}(o:Nat)(h:∀j:Nat,j<m.length->l[o+j]?=m[j]?):∀ (j:Nat) v,m[j]?=some v->l[o+j]?=some v:=λj v hj=>by
 rw[h j (cr.1 hj).1];exact hj
theorem FC(kind lim:Int)(hkd:kind=8)(p1 p2 p3 p4:Option Addr)(n1 c1 n2 c2 n3 c3 n4 c4:Nat)(kdw opw vkw viw:Int)(vsw tbw nnw:P12.T)(qw:Option Addr)(mw dw:Nat)(kdj opj vkj vij:Int)(vsj tbj nnj:P12.T)(qj:Option Addr)(mj dj:Nat)(l:List Value)
    (hl:l=cT kind [] aj aj aj aj [] [] false aj aj aj (ao kdw opw vkw viw vsw tbw nnw (.slice qw mw dw)) (.slice p1 n1 c1) (.slice p2 n2 c2) (ao kdj opj vkj vij vsj tbj nnj (.slice qj mj dj)) (.slice p3 n3 c3) (.slice p4 n4 c4) lim) (w:World) :
    Calls af 33 #[.agg l.toArray] w λe w'=>e = .returned (.agg l.toArray)/\Xk.Ext w w':=by
  have hn1:(kind==1)=false:=by subst hkd;rfl
  have hn2:(kind==2)=false:=by subst hkd;rfl
  have hn3:(kind==3)=false:=by subst hkd;rfl
  have hn4:(kind==4)=false:=by subst hkd;rfl
  have hn5:(kind==5)=false:=by subst hkd;rfl
  have hn6:(kind==6)=false:=by subst hkd;rfl
  have hn7:(kind==7)=false:=by subst hkd;rfl
  have hn8:(kind==8)=true:=by subst hkd;rfl
  clear hkd;have HC22:Hid (∀ (s:List Nat) (W':World) {g2 g3:Nat},KI w l w.heap.size g2 g3 s W'->W'.cell? ⟨w.heap.size,22,none⟩=some (.slice p1 n1 c1)):=aa λs W' g2 g3 hk=>hk.cell (by rw[hl];rfl);have HC23:Hid (∀ (s:List Nat) (W':World) {g2 g3:Nat},KI w l w.heap.size g2 g3 s W'->W'.cell? ⟨w.heap.size,23,none⟩=some (.slice p2 n2 c2)):=aa λs W' g2 g3 hk=>hk.cell (by rw[hl];rfl);have HC34:Hid (∀ (s:List Nat) (W':World) {g2 g3:Nat},KI w l w.heap.size g2 g3 s W'->W'.cell? ⟨w.heap.size,34,none⟩=some (.slice p3 n3 c3)):=aa λs W' g2 g3 hk=>hk.cell (by rw[hl];rfl)
  have HC35:Hid (∀ (s:List Nat) (W':World) {g2 g3:Nat},KI w l w.heap.size g2 g3 s W'->W'.cell? ⟨w.heap.size,35,none⟩=some (.slice p4 n4 c4)):=aa λs W' g2 g3 hk=>hk.cell (by rw[hl];rfl);have HC36:Hid (∀ (s:List Nat) (W':World) {g2 g3:Nat},KI w l w.heap.size g2 g3 s W'->W'.cell? ⟨w.heap.size,36,none⟩=some (.int .i64 lim)):=aa λs W' g2 g3 hk=>hk.cell (by rw[hl];rfl)
  have HCW:Hid (∀ (s:List Nat) (W':World) {g2 g3:Nat},KI w l w.heap.size g2 g3 s W'->W'.cell? ⟨w.heap.size,12,none⟩=some (.int .i64 kdw)/\W'.cell? ⟨w.heap.size,13,none⟩=some (.int .i64 opw)/\W'.cell? ⟨w.heap.size,14,none⟩=some (.int .i64 vkw)/\W'.cell? ⟨w.heap.size,15,none⟩=some (.int .i64 viw)/\W'.cell? ⟨w.heap.size,16,none⟩=some (bs vsw)/\W'.cell? ⟨w.heap.size,17,none⟩=some (bs tbw)/\W'.cell? ⟨w.heap.size,18,none⟩=some (bs nnw)/\W'.cell? ⟨w.heap.size,19,none⟩=some (.int .i64 0)/\W'.cell? ⟨w.heap.size,20,none⟩=some (.int .i64 0)/\W'.cell? ⟨w.heap.size,21,none⟩=some (.slice qw mw dw)):=aa λs W' g2 g3 hk=>⟨hk.cell (by rw[hl];rfl),hk.cell (by rw[hl];rfl),hk.cell (by rw[hl];rfl),hk.cell (by rw[hl];rfl),hk.cell (by rw[hl];rfl),hk.cell (by rw[hl];rfl),hk.cell (by rw[hl];rfl),hk.cell (by rw[hl];rfl),hk.cell (by rw[hl];rfl),hk.cell (by rw[hl];rfl)⟩
  have HCJ:Hid (∀ (s:List Nat) (W':World) {g2 g3:Nat},KI w l w.heap.size g2 g3 s W'->W'.cell? ⟨w.heap.size,24,none⟩=some (.int .i64 kdj)/\W'.cell? ⟨w.heap.size,25,none⟩=some (.int .i64 opj)/\W'.cell? ⟨w.heap.size,26,none⟩=some (.int .i64 vkj)/\W'.cell? ⟨w.heap.size,27,none⟩=some (.int .i64 vij)/\W'.cell? ⟨w.heap.size,28,none⟩=some (bs vsj)/\W'.cell? ⟨w.heap.size,29,none⟩=some (bs tbj)/\W'.cell? ⟨w.heap.size,30,none⟩=some (bs nnj)/\W'.cell? ⟨w.heap.size,31,none⟩=some (.int .i64 0)/\W'.cell? ⟨w.heap.size,32,none⟩=some (.int .i64 0)/\W'.cell? ⟨w.heap.size,33,none⟩=some (.slice qj mj dj)):=aa λs W' g2 g3 hk=>⟨hk.cell (by rw[hl];rfl),hk.cell (by rw[hl];rfl),hk.cell (by rw[hl];rfl),hk.cell (by rw[hl];rfl),hk.cell (by rw[hl];rfl),hk.cell (by rw[hl];rfl),hk.cell (by rw[hl];rfl),hk.cell (by rw[hl];rfl),hk.cell (by rw[hl];rfl),hk.cell (by rw[hl];rfl)⟩
  have HTW:Hid (∀j:Nat,j<([.int .i64 kdw,.int .i64 opw,.int .i64 vkw,.int .i64 viw,bs vsw,bs tbw,bs nnw,.int .i64 0,.int .i64 0,.slice qw mw dw]:List Value).toArray.size->l.toArray[12+j]?=([.int .i64 kdw,.int .i64 opw,.int .i64 vkw,.int .i64 viw,bs vsw,bs tbw,bs nnw,.int .i64 0,.int .i64 0,.slice qw mw dw]:List Value).toArray[j]?):=aa (by
    rw[hl];intro j hj;rcases j with _|_|_|_|_|_|_|_|_|_|j
    all_goals first|rfl|(simp at hj;omega))
  have HTJ:Hid (∀j:Nat,j<([.int .i64 kdj,.int .i64 opj,.int .i64 vkj,.int .i64 vij,bs vsj,bs tbj,bs nnj,.int .i64 0,.int .i64 0,.slice qj mj dj]:List Value).toArray.size->l.toArray[24+j]?=([.int .i64 kdj,.int .i64 opj,.int .i64 vkj,.int .i64 vij,bs vsj,bs tbj,bs nnj,.int .i64 0,.int .i64 0,.slice qj mj dj]:List Value).toArray[j]?):=aa (by
    rw[hl];intro j hj;rcases j with _|_|_|_|_|_|_|_|_|_|j
    all_goals first|rfl|(simp at hj;omega))
  have hlen:l.length=37:=by rw[hl];rfl
  have HONE:Hid (l.toArray.all (·.oneCell')=true):=aa (by rw[hl];kernel_rfl);have HSZ:Hid ((af.info? 40).map (·.size)=some l.toArray.size):=aa (by rw[aP,hlen];kernel_rfl);have c0:l[0]?=some (.int .i64 kind):=by rw[hl];rfl
  obtain⟨z,hz⟩:∃z,z=sK kind 0:=⟨_,rfl⟩;have HBD:Hid (∀W,(cR 40 #[(0,lK .i64 kind)]).run af W = .ok (.agg z.toArray) W):=aa λW=>by rw[hz];kernel_rfl
  have hzl:z.length=37:=by rw[hz];rfl
  have HZS:Hid ((af.info? 40).map (·.size)=some z.toArray.size):=aa (by rw[aP,hzl];kernel_rfl);have HZO:Hid (z.toArray.all (·.oneCell')=true):=aa (by rw[hz];kernel_rfl)
  have HS0:Hid (∀j∈([0,1,2,3,4,5,6,7,8,9,10,11]:List Nat),z[j]?=l[j]?):=aa (by
    rw[hz,hl];intro j hj
    first
      | rfl
      | (simp only[aJ,aF,or_false]at hj
         repeat(rcases hj with rfl|hj;· rfl)
         first|done|(subst hj;rfl)))
  have HZL:=aa hzl;have HLEN:=aa hlen;have HL:=aa hl
  have HB1:=aa (show((w.alloc (.cells l.toArray 40)).alloc (cL bC)).cell? ⟨w.heap.size,0,none⟩=some (.int .i64 kind) by
    have:((w.alloc (.cells l.toArray 40)).alloc (cL bC)).heap[w.heap.size]?=some (cL l):=(((al _ _).alloc (ai _) _:Xk.Ext (w.alloc (cL l)) _).block _ (by rw[ag];omega)).trans (aw w _)
    simp[ak,this,c0])
  clear hz hzl hlen hl c0;go_enter Tryz.func33,Tryz.ntmps33;go_upto_region 1 with fail
  have hc0:=HB1.out;have hlt0:w.heap.size<((w.alloc (.cells l.toArray 40)).alloc (cL bC)).heap.size:=by rw[ag,ag];omega
  obtain⟨W,hW⟩:∃W,W=(w.alloc (.cells l.toArray 40)).alloc (cL bC):=⟨_,rfl⟩;rw[← hW]at hc0 hlt0 ⊢;have HW:=aa hW;clear hW HB1;go_wp2_with (first|(refine vJ rfl 40 _ rfl (.int .i64 kind) _ rfl (HBD.out _) ?_)|((refine bQ rfl 40 _ _ rfl (W.heap.size) _ _ 40 rfl rfl ((aw W _)) ((by rw[show z.toArray.size=37 by rw[aP,HZL.out]];rfl)) (HZS.out) (HZO.out) ?_;intro w3 hp3);have HK:=aa (KI.start HLEN.out HW.out hp3 HZL.out HS0.out);clear hp3;have c0:=HK.out.cell (j:=0) (v := .int .i64 kind) (by rw[HL.out];rfl);have l1:=HK.out.lt1;have l3:=HK.out.g.2.2.2;skip))
  refine Xe.bm (E:=EC W.heap.size 40 l.toArray) (iD _ _ _) 28 (λ_=>none) (λ_ _ h=>by cases h) (λ_ _ _ _ h=>by cases h) [(15,gh W.heap.size 40 l.toArray 22 1),(17,gh W.heap.size 40 l.toArray 23 1),(19,gh W.heap.size 40 l.toArray 24 10),(21,gh W.heap.size 40 l.toArray 12 10),(23,gh W.heap.size 40 l.toArray 34 1),(25,gh W.heap.size 40 l.toArray 35 1),(27,gh W.heap.size 40 l.toArray 36 1)] au au (BE (by
    intro y hy;simp only[aJ,aF,or_false]at hy;repeat(rcases hy with rfl|hy;· exact⟨_,_,rfl⟩)
    first|done|(subst hy;exact⟨_,_,rfl⟩))) ?_
  simp only[aG,aY,aL,bd];(refine Xs.e ?_)
  (refine Xe.aX (iD _ _ _) (Xk.aQ az) az (λK hK=>?_);apply aU;refine⟨λW' hx hp=>?_,?_⟩;(have hk:=HK.out.ec hx;have q1:=hk.lt1;have q0:=HC22.out _ _ hk;obtain q2:=q0;clear hx hp hk;go_simp;exact⟨rfl,rfl⟩);(go_simp;refine hK _ ?_;clear hK K))
  (refine Xs.e ?_)
  (refine Xe.aX (iD _ _ _) (Xk.aQ az) az (λK hK=>?_);apply aU;refine⟨λW' hx hp=>?_,?_⟩;(have hk:=HK.out.ec hx;have q1:=hk.lt1;have q0:=HC23.out _ _ hk;obtain q2:=q0;clear hx hp hk;go_simp;exact⟨rfl,rfl⟩);(go_simp;refine hK _ ?_;clear hK K))
  (refine Xs.e ?_)
  (refine Xe.aX (iD _ _ _) (Xk.aQ az) az (λK hK=>?_);apply aU;refine⟨λW' hx hp=>?_,?_⟩;(have hk:=HK.out.ec hx;have q1:=hk.lt1;have q0:=HCJ.out _ _ hk;obtain⟨q2,q3,q4,q5,q6,q7,q8,q9,q10,q11⟩:=q0;clear hx hp hk;go_simp;exact⟨rfl,rfl⟩);(go_simp;refine hK _ ?_;clear hK K))
  (refine Xs.e ?_)
  (refine Xe.aX (iD _ _ _) (Xk.aQ az) az (λK hK=>?_);apply aU;refine⟨λW' hx hp=>?_,?_⟩;(have hk:=HK.out.ec hx;have q1:=hk.lt1;have q0:=HCW.out _ _ hk;obtain⟨q2,q3,q4,q5,q6,q7,q8,q9,q10,q11⟩:=q0;clear hx hp hk;go_simp;exact⟨rfl,rfl⟩);(go_simp;refine hK _ ?_;clear hK K))
  (refine Xs.e ?_)
  (refine Xe.aX (iD _ _ _) (Xk.aQ az) az (λK hK=>?_);apply aU;refine⟨λW' hx hp=>?_,?_⟩;(have hk:=HK.out.ec hx;have q1:=hk.lt1;have q0:=HC34.out _ _ hk;obtain q2:=q0;clear hx hp hk;go_simp;exact⟨rfl,rfl⟩);(go_simp;refine hK _ ?_;clear hK K))
  (refine Xs.e ?_)
  (refine Xe.aX (iD _ _ _) (Xk.aQ az) az (λK hK=>?_);apply aU;refine⟨λW' hx hp=>?_,?_⟩;(have hk:=HK.out.ec hx;have q1:=hk.lt1;have q0:=HC35.out _ _ hk;obtain q2:=q0;clear hx hp hk;go_simp;exact⟨rfl,rfl⟩);(go_simp;refine hK _ ?_;clear hK K))
  (refine Xs.e ?_)
  (refine Xe.aX (iD _ _ _) (Xk.aQ az) az (λK hK=>?_);apply aU;refine⟨λW' hx hp=>?_,?_⟩;(have hk:=HK.out.ec hx;have q1:=hk.lt1;have q0:=HC36.out _ _ hk;obtain q2:=q0;clear hx hp hk;go_simp;exact⟨rfl,rfl⟩);(go_simp;refine hK _ ?_;clear hK K))
  (refine Xs.e ?_)
  (refine Xe.bc (iD _ _ _) az az (λW' hx hp=>?_) (λ_ K hK=>?_);(have hk:=HK.out.ec hx;have q1:=hk.g.2.2.2;obtain⟨⟨v3,d3⟩,e3⟩:=hk.zD (j:=22) aq;obtain⟨cq3,hc3,hcl3,-⟩:=hk.b3;clear hx hp;go_simp;exact kL hc3 (by simp only[aP,hcl3];decide) (by rw[HL.out];rfl));(go_simp;refine hK _ ?_;clear hK K))
  (refine Xs.e ?_)
  (refine Xe.bc (iD _ _ _) az az (λW' hx hp=>?_) (λ_ K hK=>?_);(have hk:=HK.out.ec hx;have q1:=hk.g.2.2.2;obtain⟨⟨v3,d3⟩,e3⟩:=hk.zD (j:=23) aq;obtain⟨cq3,hc3,hcl3,-⟩:=hk.b3;clear hx hp;go_simp;exact kL hc3 (by simp only[aP,hcl3];decide) (by rw[HL.out];rfl));(go_simp;refine hK _ ?_;clear hK K))
  (refine Xs.e ?_)
  (refine Xe.bc (iD _ _ _) az az (λW' hx hp=>?_) (λ_ K hK=>?_);(have hk:=HK.out.ec hx;obtain⟨cq3,hc3,hcl3,-⟩:=hk.b3;exact rD _ _ _ rfl 24 _ ([.int .i64 kdj,.int .i64 opj,.int .i64 vkj,.int .i64 vij,bs vsj,bs tbj,bs nnj,.int .i64 0,.int .i64 0,.slice qj mj dj]).toArray rfl rfl hc3 (by simp[hcl3]) au au HTJ.out);(go_simp;refine hK _ ?_;clear hK K))
  (refine Xs.e ?_)
  (refine Xe.bc (iD _ _ _) az az (λW' hx hp=>?_) (λ_ K hK=>?_);(have hk:=HK.out.ec hx;obtain⟨cq3,hc3,hcl3,-⟩:=hk.b3;exact rD _ _ _ rfl 12 _ ([.int .i64 kdw,.int .i64 opw,.int .i64 vkw,.int .i64 viw,bs vsw,bs tbw,bs nnw,.int .i64 0,.int .i64 0,.slice qw mw dw]).toArray rfl rfl hc3 (by simp[hcl3]) au au HTW.out);(go_simp;refine hK _ ?_;clear hK K))
  (refine Xs.e ?_)
  (refine Xe.bc (iD _ _ _) az az (λW' hx hp=>?_) (λ_ K hK=>?_);(have hk:=HK.out.ec hx;have q1:=hk.g.2.2.2;obtain⟨⟨v3,d3⟩,e3⟩:=hk.zD (j:=34) aq;obtain⟨cq3,hc3,hcl3,-⟩:=hk.b3;clear hx hp;go_simp;exact kL hc3 (by simp only[aP,hcl3];decide) (by rw[HL.out];rfl));(go_simp;refine hK _ ?_;clear hK K))
  (refine Xs.e ?_)
  (refine Xe.bc (iD _ _ _) az az (λW' hx hp=>?_) (λ_ K hK=>?_);(have hk:=HK.out.ec hx;have q1:=hk.g.2.2.2;obtain⟨⟨v3,d3⟩,e3⟩:=hk.zD (j:=35) aq;obtain⟨cq3,hc3,hcl3,-⟩:=hk.b3;clear hx hp;go_simp;exact kL hc3 (by simp only[aP,hcl3];decide) (by rw[HL.out];rfl));(go_simp;refine hK _ ?_;clear hK K))
  (refine Xs.e ?_)
  (refine Xe.bc (iD _ _ _) az az (λW' hx hp=>?_) (λ_ K hK=>?_);(have hk:=HK.out.ec hx;have q1:=hk.g.2.2.2;obtain⟨⟨v3,d3⟩,e3⟩:=hk.zD (j:=36) aq;obtain⟨cq3,hc3,hcl3,-⟩:=hk.b3;clear hx hp;go_simp;exact kL hc3 (by simp only[aP,hcl3];decide) (by rw[HL.out];rfl));(go_simp;refine hK _ ?_;clear hK K))
  refine Xe.bD (λW4 hx hp hG=>?_);obtain⟨h27,h25,h23,h21,h19,h17,h15,-⟩:=hp;have HK2:=aa ((((((((HK.out.ec hx).more h15).more h17).more h19).more h21).more h23).more h25).more h27);have hb3:=HK2.out.done aq;obtain⟨cq2,hb2,hl2⟩:=HK2.out.b2;clear h15 h17 h19 h21 h23 h25 h27 hx hG;go_wp2_with (first|(refine bJ rfl 40 _ rfl W.heap.size _ 40 (0,0) _ rfl hb3 aB rfl HSZ.out ?_)|(refine bQ rfl 40 _ _ rfl ((w.heap.size+1)) _ _ 40 rfl rfl (hb2) ((by simp only[aP,hl2,HLEN.out])) (HSZ.out) (HONE.out) ?_;intro w9 hp9))
  refine ar (aH (fn:=Tryz.f33) rfl rfl hp9.blk aB rfl HSZ.out) rfl ⟨rfl,jj hp9 (HK2.out).x (by have:=(HK2.out).g;omega)⟩
theorem en{w w':World}{l:List Value}{T:TypeId}(hx:Xk.Ext (w.alloc (.cells l.toArray T)) w')(j:Nat)(v:Value)(h:l[j]?=some v):w'.cell? ⟨w.heap.size,j,none⟩=some v:=by
 have hb:=(hx.block w.heap.size (by rw[ag];omega)).trans (aw w _);simp[ak,hb,h]
theorem qv{w w':World}{l:List Value}{T:TypeId}(hx:Xk.Ext (w.alloc (.cells l.toArray T)) w')(o:Nat)(m:List Value)(h:∀j:Nat,j<m.length->l[o+j]?=m[j]?):w'.rangeAt w.heap.size o m:=λj v hj=>en hx (o+j) v (FP o h j v hj)
theorem BG{w w':World}{l:List Value}{T:TypeId}(hx:Xk.Ext (w.alloc (.cells l.toArray T)) w'):w'.heap[w.heap.size]?=some (.cells l.toArray T):=(hx.block w.heap.size (by rw[ag];omega)).trans (aw w _)
theorem mY(w:World)(o:Obj):Xk.Ext w (w.alloc o):=(al _ _).alloc (ai _) _
theorem eX{w w':World}{o:Obj}(hx:Xk.Ext (w.alloc o) w'):Xk.Ext w w':=Xk.Ext.trans (mY w o) hx
theorem oa{l m:List Value}{o:Nat}(hm:m.length=10)(h0:l[o]?=m[0]?)(h1:l[o+1]?=m[1]?)(h2:l[o+2]?=m[2]?)(h3:l[o+3]?=m[3]?)(h4:l[o+4]?=m[4]?)(h5:l[o+5]?=m[5]?)(h6:l[o+6]?=m[6]?)(h7:l[o+7]?=m[7]?)(h8:l[o+8]?=m[8]?)(h9:l[o+9]?=m[9]?):∀j:Nat,j<m.length->l[o+j]?=m[j]?:=λj hj=>by
 rw[hm]at hj;rcases j with _|_|_|_|_|_|_|_|_|_|j
 ·exact h0
 ·exact h1
 ·exact h2
 ·exact h3
 ·exact h4
 ·exact h5
 ·exact h6
 ·exact h7
 ·exact h8
 ·exact h9
 ·omega
theorem aC.kind{S:Nat->Prop}{w:World}:∀ {e:P12.E} {l:List Value},aC S w e l->P12.isE e=true->∃kd op vk vi vs tb nm pp pm pc,l=ao kd op vk vi vs tb nm (.slice pp pm pc)/\kd≠0
 | .none,_,_,he=>by cases he
 | .val _ _ _,_,h,_ | .col _ _,_,h,_ | .all,_,h,_=>by unfold aC at h;exact⟨_,_,_,_,_,_,_,_,_,_,h,by decide⟩
 | .una _ _,_,h,_ | .call _ _,_,h,_=>by unfold aC at h;obtain⟨g,u,-,h,-⟩:=h;exact⟨_,_,_,_,_,_,_,_,_,_,h,by decide⟩
 | .bin _ _ _,_,h,_=>by unfold aC at h;obtain⟨g,u,v,-,h,-⟩:=h;exact⟨_,_,_,_,_,_,_,_,_,_,h,by decide⟩
theorem A4(w:World):Calls af 43 #[.agg noE.toArray] w λe w'=>e = .returned (.bool true)/\Xk.Ext w w':=by
 have hga:=aw w (bu noE);have HB:=aa λW=>mZ W;go_enter Tryz.func43,Tryz.ntmps43;go_wp2_with (refine bJ rfl 35 _ rfl (w.heap.size) _ 35 (0,0) _ rfl hga aA rfl au ?_);refine(HB.out _).mono ?_;rintro e w1 ⟨rfl,hx1⟩;go_wp2_with fail;go_ret;exact⟨rfl,eX hx1⟩
theorem A3(kd op vk vi:Int)(vs tb nm:P12.T)(pp:Option Addr)(pm pc:Nat)(hk:kd≠0)(w:World)(hE:∀W,Xk.Ext w W->Calls af 36 #[.agg (ao kd op vk vi vs tb nm (.slice pp pm pc)).toArray] W λe w'=>e = .returned (.bool true)/\Xk.Ext W w'):Calls af 43 #[.agg (ao kd op vk vi vs tb nm (.slice pp pm pc)).toArray] w λe w'=>e = .returned (.bool true)/\Xk.Ext w w':=by
 have hga:=aw w (bu (ao kd op vk vi vs tb nm (.slice pp pm pc)));have HB:=aa λW=>ub kd op vk vi vs tb nm pp pm pc hk W;have HE:=aa hE;clear hk hE;go_enter Tryz.func43,Tryz.ntmps43;go_wp2_with (refine bJ rfl 35 _ rfl (w.heap.size) _ 35 (0,0) _ rfl hga aA rfl au ?_);refine(HB.out _).mono ?_;rintro e w1 ⟨rfl,hx1⟩;have hgb:=BG hx1;obtain⟨z0,z1,z2,z3,z4,z5,z6,z7,z8,z9,z10⟩:=mV hgb;go_wp2_with fail;refine(HE.out _ (eX hx1)).mono ?_;rintro e w2 ⟨rfl,hx2⟩;go_wp2_with fail;go_ret;exact⟨rfl,Xk.Ext.trans (eX hx1) hx2⟩
theorem A5(e:P12.E)(h:P12.iF e=true)(S:Nat->Prop)(w:World)(l:List Value)(he:aC S w e l):Calls af 43 #[.agg l.toArray] w λe w'=>e = .returned (.bool true)/\Xk.Ext w w':=by
 cases hn:P12.noE e
 ·have hE:P12.isE e=true:=by simpa[P12.iF,hn]using h
  obtain⟨kd,op,vk,vi,vs,tb,nm,pp,pm,pc,rfl,hk⟩:=he.kind hE;exact A3 kd op vk vi vs tb nm pp pm pc hk w λW hx=>iV e hE S W _ (he.kn hx)
 ·cases e<;>first|cases hn|skip
  unfold aC at he;subst he;exact A4 w
theorem FX:Ent 107:=⟨λ_ _=>by go_simp,by decide⟩
theorem DL:Ent 108:=⟨λ_ _=>by go_simp,by decide⟩
theorem IM:Ent 109:=⟨λ_ _=>by go_simp,by decide⟩
theorem IN:Ent 110:=⟨λ_ _=>by go_simp,by decide⟩
theorem IE(w:World):Calls af 107 #[.agg (bT true::(noE ++ [bs []])).toArray] w λe w'=>e = .returned (.bool true)/\Xk.Ext w w':=by
 have HB:=aa λW=>mZ W;have HR:=aa (qv (l:=bT true::(noE ++ [bs []])) (al _ _:Xk.Ext (w.alloc (.cells (bT true::(noE ++ [bs []])).toArray 88)) _) 1 noE (oa rfl rfl rfl rfl rfl rfl rfl rfl rfl rfl rfl));go_enter Tryz.func107,Tryz.ntmps107;go_wp2_with (refine wpList_load_mid rfl 35 _ rfl w.heap.size 1 rfl _ _ HR.out aA rfl au ?_);refine(HB.out _).mono ?_;rintro e w1 ⟨rfl,hx1⟩;have q1:w1.cell? ⟨w.heap.size,11,none⟩=some (.string ⟨#[]⟩):=en (l:=bT true::(noE ++ [bs []])) hx1 11 _ rfl;go_wp2_with fail;go_ret;exact⟨rfl,eX hx1⟩
theorem IF(a:P12.T)(kd op vk vi:Int)(vs tb nm:P12.T)(pp:Option Addr)(pm pc:Nat)(ha:P12.iv a=true)(w:World)(hE:∀W,Xk.Ext w W->Calls af 36 #[.agg (ao kd op vk vi vs tb nm (.slice pp pm pc)).toArray] W λe w'=>e = .returned (.bool true)/\Xk.Ext W w'):
  Calls af 107 #[.agg (bT false::((ao kd op vk vi vs tb nm (.slice pp pm pc))++ [bs a])).toArray] w λe w'=>e = .returned (.bool true)/\Xk.Ext w w':=by
 have HN:=aa λW=>lU a ha W;have HE:=aa hE;clear ha hE;have HR:=aa (qv (l:=bT false::((ao kd op vk vi vs tb nm (.slice pp pm pc))++ [bs a])) (al _ _:Xk.Ext (w.alloc (.cells (bT false::((ao kd op vk vi vs tb nm (.slice pp pm pc))++ [bs a])).toArray 88)) _) 1 (ao kd op vk vi vs tb nm (.slice pp pm pc)) (oa rfl rfl rfl rfl rfl rfl rfl rfl rfl rfl rfl));go_enter Tryz.func107,Tryz.ntmps107;go_wp2_with (refine wpList_load_mid rfl 35 _ rfl w.heap.size 1 rfl _ _ HR.out aA rfl au ?_);refine(HE.out _ (mY _ _)).mono ?_;rintro e w1 ⟨rfl,hx1⟩
 have q1:w1.cell? ⟨w.heap.size,11,none⟩=some (bs a):=en (l:=bT false::((ao kd op vk vi vs tb nm (.slice pp pm pc))++ [bs a])) hx1 11 _ rfl;go_wp2_with fail;refine(HN.out _).mono ?_;rintro e w2 ⟨rfl,hx2⟩;go_wp2_with fail;go_ret;exact⟨rfl,Xk.Ext.trans (eX hx1) hx2⟩
theorem FG(t n:P12.T)(h:P12.isE (.col t n)=true)(w:World):Calls af 108 #[.agg (ao 2 0 0 0 [] t n aj).toArray] w λe w'=>e = .returned (.bool true)/\Xk.Ext w w':=by
 have hga:=aw w (bu (ao 2 0 0 0 [] t n aj));have HE:=aa λW=>iV (.col t n) h (λ_=>True) W _ rfl;clear h;go_enter Tryz.func108,Tryz.ntmps108;go_wp2_with (refine bJ rfl 35 _ rfl (w.heap.size) _ 35 (0,0) _ rfl hga aA rfl au ?_);refine(HE.out _).mono ?_;rintro e w1 ⟨rfl,hx1⟩;go_wp2_with fail;go_ret;exact⟨rfl,eX hx1⟩
theorem JP(a b:P12.T)(ha:P12.isName a=true)(hb:P12.iv b=true)(w:World):Calls af 109 #[.agg [bs a,bs b].toArray] w λe w'=>e = .returned (.bool true)/\Xk.Ext w w':=by
 have HN:=aa λW=>px a ha W;have HM:=aa λW=>lU b hb W;clear ha hb;go_enter Tryz.func109,Tryz.ntmps109;go_wp2_with fail;refine(HN.out _).mono ?_;rintro e w1 ⟨rfl,hx1⟩;have q1:w1.cell? ⟨w.heap.size,1,none⟩=some (bs b):=en (l := [bs a,bs b]) hx1 1 _ rfl;go_wp2_with fail;refine(HM.out _).mono ?_;rintro e w2 ⟨rfl,hx2⟩;go_wp2_with fail;go_ret;exact⟨rfl,Xk.Ext.trans (eX hx1) hx2⟩
end Go.Proofs.YtkpmclddjkebeaaGreatDoor
namespace Go.Xk
open Go.RowKit
theorem nL{P:Program}{o:Oper}{a:Act}{w:World}(t:TypeId)(x:Operand)(ho:o.op = .load t x)(g:Nat)(cs:Array Value)(T:TypeId)(fr:Nat×Nat)(d:TypeDesc)(hx:a.eval x = .pointer (some ⟨g,0,none⟩))(hg:w.heap[g]?=some (.cells cs T fr))
  (hu:P.underlying t=some d) (hd:(match d with | .struct _ | .array _ _=>true|_=>false)=true) (hi:(P.info? t).map (·.size)=some cs.size):ko P o a w (.agg cs):=by
 unfold ko execOp;simp only[ho,hx,Instr.loadAt,Instr.sureAddr,Sem.run_bind,Sem.run_pure,oZ,run_loadVar_row (P:=P) w g T t cs fr d hg hu hd hi];exact⟨rfl,rfl⟩
end Go.Xk
namespace Go.Proofs.YtkpmclddjkebeaaGreatDoor
open Go.RowKit
theorem IG(kind lim:Int)(p1 p2 p3 p4:Option Addr)(n1 c1 c2 n3 c3 n4 c4:Nat)(kdw opw vkw viw:Int)(vsw tbw nnw:P12.T)(qw:Option Addr)(mw dw:Nat)(kdj opj vkj vij:Int)(vsj tbj nnj:P12.T)(qj:Option Addr)(mj dj:Nat)(h3:n3≤16)(h4:n4≤16)(hlim : -1≤lim)(l:List Value)(hl:l=cT kind [] aj aj aj aj [] [] false aj aj aj (ao kdw opw vkw viw vsw tbw nnw (.slice qw mw dw)) (.slice p1 n1 c1) (.slice p2 2 c2) (ao kdj opj vkj vij vsj tbj nnj (.slice qj mj dj)) (.slice p3 n3 c3) (.slice p4 n4 c4) lim)(w:World)
  (hI:∀W,Xk.Ext w W->Calls af 111 #[.slice p1 n1 c1,.int .i64 16,.func (.func 107) #[] #[]] W λe w'=>e = .returned (.bool true)/\Xk.Ext W w')
  (hF:∀W,Xk.Ext w W->Calls af 112 #[.slice p2 2 c2,.int .i64 2,.func (.func 109) #[] #[]] W λe w'=>e = .returned (.bool true)/\Xk.Ext W w')
  (hW:∀W,Xk.Ext w W->Calls af 43 #[.agg (ao kdw opw vkw viw vsw tbw nnw (.slice qw mw dw)).toArray] W λe w'=>e = .returned (.bool true)/\Xk.Ext W w')
  (hJ:∀W,Xk.Ext w W->Calls af 36 #[.agg (ao kdj opj vkj vij vsj tbj nnj (.slice qj mj dj)).toArray] W λe w'=>e = .returned (.bool true)/\Xk.Ext W w')
  (hG:∀W,Xk.Ext w W->Calls af 101 #[.slice p3 n3 c3,.func (.func 108) #[] #[]] W λe w'=>e = .returned (.bool true)/\Xk.Ext W w')
  (hO:∀W,Xk.Ext w W->Calls af 113 #[.slice p4 n4 c4,.func (.func 110) #[] #[]] W λe w'=>e = .returned (.bool true)/\Xk.Ext W w') :
  Calls af 44 #[.agg l.toArray] w λe w'=>e = .returned (.bool true)/\Xk.Ext w w':=by
 have HI:=aa hI;have HF:=aa hF;have HW:=aa hW;have HJ:=aa hJ;have HG:=aa hG;have HO:=aa hO;have HL:=aa hl;clear hl hI hF hW hJ hG hO;have i3:(n3:Int)≤16:=ab;have j3:decide ((n3:Int)≤16)=true:=decide_eq_true i3;have j4:decide ((n4:Int)≤16)=true:=decide_eq_true ab;have i4:(n4:Int)≤16:=ab

 have HX1:Hid (Xk.Ext (w.alloc (.cells l.toArray 40)) (w.alloc (.cells l.toArray 40))):=aa (al _ _);have lt1:w.heap.size<(w.alloc (.cells l.toArray 40)).heap.size:=by rw[ag];omega
 go_enter Tryz.func44,Tryz.ntmps44;have q22:=en HX1.out 22 (.slice p1 n1 c1) (by rw[HL.out];rfl);go_wp2_with fail;refine(HI.out _ (eX HX1.out)).mono ?_;rintro e w2 ⟨rfl,hx2⟩;have HX2:=aa (Xk.Ext.trans HX1.out hx2);clear hx2 q22;have q23:=en HX2.out 23 (.slice p2 2 c2) (by rw[HL.out];rfl);go_wp2_with fail;refine(HF.out _ (eX HX2.out)).mono ?_;rintro e w3 ⟨rfl,hx3⟩;have HX3:=aa (Xk.Ext.trans HX2.out hx3);clear hx3 q23;have q12:=en HX3.out 12 _ (by rw[HL.out];rfl);have q13:=en HX3.out 13 _ (by rw[HL.out];rfl);have q14:=en HX3.out 14 _ (by rw[HL.out];rfl)
 have q15:=en HX3.out 15 _ (by rw[HL.out];rfl);have q16:=en HX3.out 16 _ (by rw[HL.out];rfl);have q17:=en HX3.out 17 _ (by rw[HL.out];rfl);have q18:=en HX3.out 18 _ (by rw[HL.out];rfl);have q19:=en HX3.out 19 _ (by rw[HL.out];rfl);have q20:=en HX3.out 20 _ (by rw[HL.out];rfl);have q21:=en HX3.out 21 _ (by rw[HL.out];rfl);have lt12:=ay _ _ q12;go_wp2_with fail;refine(HW.out _ (eX HX3.out)).mono ?_;rintro e w4 ⟨rfl,hx4⟩;have HX4:=aa (Xk.Ext.trans HX3.out hx4);clear hx4 q12 q13 q14 q15 q16 q17 q18 q19 q20 q21 lt12;have q23:=en HX4.out 23 (.slice p2 2 c2) (by rw[HL.out];rfl)
 have q24:=en HX4.out 24 _ (by rw[HL.out];rfl);have q25:=en HX4.out 25 _ (by rw[HL.out];rfl);have q26:=en HX4.out 26 _ (by rw[HL.out];rfl);have q27:=en HX4.out 27 _ (by rw[HL.out];rfl);have q28:=en HX4.out 28 _ (by rw[HL.out];rfl);have q29:=en HX4.out 29 _ (by rw[HL.out];rfl);have q30:=en HX4.out 30 _ (by rw[HL.out];rfl);have q31:=en HX4.out 31 _ (by rw[HL.out];rfl);have q32:=en HX4.out 32 _ (by rw[HL.out];rfl);have q33:=en HX4.out 33 _ (by rw[HL.out];rfl);have lt24:=ay _ _ q24;dsimp only;iterate 3 (first|go_values|go_skip|go_guarded|go_step|go_upon)
 simp only[xB,fV,zQ];go_wp2_with fail;refine(HJ.out _ (eX HX4.out)).mono ?_;rintro e w5 ⟨rfl,hx5⟩;have HX5:=aa (Xk.Ext.trans HX4.out hx5);clear hx5 q23 q24 q25 q26 q27 q28 q29 q30 q31 q32 q33 lt24;have q34:=en HX5.out 34 (.slice p3 n3 c3) (by rw[HL.out];rfl);go_wp2_with fail;refine(HG.out _ (eX HX5.out)).mono ?_;rintro e w6 ⟨rfl,hx6⟩;have HX6:=aa (Xk.Ext.trans HX5.out hx6);clear hx6 q34;have q35:=en HX6.out 35 (.slice p4 n4 c4) (by rw[HL.out];rfl);go_wp2_with fail;refine(HO.out _ (eX HX6.out)).mono ?_;rintro e w7 ⟨rfl,hx7⟩;have HX7:=aa (Xk.Ext.trans HX6.out hx7);clear hx7 q35
 have q36:=en HX7.out 36 (.int .i64 lim) (by rw[HL.out];rfl);go_wp2_with fail;go_ret;exact⟨rfl,eX HX7.out⟩
theorem wT(kind lim:Int)(p1 p2 p3 p4:Option Addr)(n1 c1 c2 n3 c3 n4 c4:Nat)(kdw opw vkw viw:Int)(vsw tbw nnw:P12.T)(qw:Option Addr)(mw dw:Nat)  (h3:n3≤16)(h4:n4≤16)(hlim : -1≤lim)(l:List Value)(hl:l=cT kind [] aj aj aj aj [] [] false aj aj aj (ao kdw opw vkw viw vsw tbw nnw (.slice qw mw dw)) (.slice p1 n1 c1) (.slice p2 1 c2) noE (.slice p3 n3 c3) (.slice p4 n4 c4) lim)(w:World)
  (hI:∀W,Xk.Ext w W->Calls af 111 #[.slice p1 n1 c1,.int .i64 16,.func (.func 107) #[] #[]] W λe w'=>e = .returned (.bool true)/\Xk.Ext W w')
  (hF:∀W,Xk.Ext w W->Calls af 112 #[.slice p2 1 c2,.int .i64 2,.func (.func 109) #[] #[]] W λe w'=>e = .returned (.bool true)/\Xk.Ext W w')
  (hW:∀W,Xk.Ext w W->Calls af 43 #[.agg (ao kdw opw vkw viw vsw tbw nnw (.slice qw mw dw)).toArray] W λe w'=>e = .returned (.bool true)/\Xk.Ext W w')
  (hG:∀W,Xk.Ext w W->Calls af 101 #[.slice p3 n3 c3,.func (.func 108) #[] #[]] W λe w'=>e = .returned (.bool true)/\Xk.Ext W w')
  (hO:∀W,Xk.Ext w W->Calls af 113 #[.slice p4 n4 c4,.func (.func 110) #[] #[]] W λe w'=>e = .returned (.bool true)/\Xk.Ext W w') :
  Calls af 44 #[.agg l.toArray] w λe w'=>e = .returned (.bool true)/\Xk.Ext w w':=by
 have HI:=aa hI;have HF:=aa hF;have HW:=aa hW;have HG:=aa hG;have HO:=aa hO;have HB:Hid (∀W,Xk.Ext w W->Calls af 94 #[.agg noE.toArray] W λe w'=>e = .returned (.bool true)/\Xk.Ext W w'):=aa λW _=>mZ W;have HL:=aa hl;clear hl hI hF hW hG hO;have i3:(n3:Int)≤16:=ab;have j3:decide ((n3:Int)≤16)=true:=decide_eq_true i3;have j4:decide ((n4:Int)≤16)=true:=decide_eq_true ab;have i4:(n4:Int)≤16:=ab

 have HX1:Hid (Xk.Ext (w.alloc (.cells l.toArray 40)) (w.alloc (.cells l.toArray 40))):=aa (al _ _);have lt1:w.heap.size<(w.alloc (.cells l.toArray 40)).heap.size:=by rw[ag];omega
 go_enter Tryz.func44,Tryz.ntmps44;have q22:=en HX1.out 22 (.slice p1 n1 c1) (by rw[HL.out];rfl);go_wp2_with fail;refine(HI.out _ (eX HX1.out)).mono ?_;rintro e w2 ⟨rfl,hx2⟩;have HX2:=aa (Xk.Ext.trans HX1.out hx2);clear hx2 q22;have q23:=en HX2.out 23 (.slice p2 1 c2) (by rw[HL.out];rfl);go_wp2_with fail;refine(HF.out _ (eX HX2.out)).mono ?_;rintro e w3 ⟨rfl,hx3⟩;have HX3:=aa (Xk.Ext.trans HX2.out hx3);clear hx3 q23;have q12:=en HX3.out 12 _ (by rw[HL.out];rfl);have q13:=en HX3.out 13 _ (by rw[HL.out];rfl);have q14:=en HX3.out 14 _ (by rw[HL.out];rfl)
 have q15:=en HX3.out 15 _ (by rw[HL.out];rfl);have q16:=en HX3.out 16 _ (by rw[HL.out];rfl);have q17:=en HX3.out 17 _ (by rw[HL.out];rfl);have q18:=en HX3.out 18 _ (by rw[HL.out];rfl);have q19:=en HX3.out 19 _ (by rw[HL.out];rfl);have q20:=en HX3.out 20 _ (by rw[HL.out];rfl);have q21:=en HX3.out 21 _ (by rw[HL.out];rfl);have lt12:=ay _ _ q12;go_wp2_with fail;refine(HW.out _ (eX HX3.out)).mono ?_;rintro e w4 ⟨rfl,hx4⟩;have HX4:=aa (Xk.Ext.trans HX3.out hx4);clear hx4 q12 q13 q14 q15 q16 q17 q18 q19 q20 q21 lt12;have q23:=en HX4.out 23 (.slice p2 1 c2) (by rw[HL.out];rfl)
 have q24:=en HX4.out 24 _ (by rw[HL.out];rfl);have q25:=en HX4.out 25 _ (by rw[HL.out];rfl);have q26:=en HX4.out 26 _ (by rw[HL.out];rfl);have q27:=en HX4.out 27 _ (by rw[HL.out];rfl);have q28:=en HX4.out 28 _ (by rw[HL.out];rfl);have q29:=en HX4.out 29 _ (by rw[HL.out];rfl);have q30:=en HX4.out 30 _ (by rw[HL.out];rfl);have q31:=en HX4.out 31 _ (by rw[HL.out];rfl);have q32:=en HX4.out 32 _ (by rw[HL.out];rfl);have q33:=en HX4.out 33 _ (by rw[HL.out];rfl);have lt24:=ay _ _ q24;dsimp only;iterate 3 (first|go_values|go_skip|go_guarded|go_step|go_upon)
 simp only[xB,fV,zQ];go_wp2_with fail;refine(HB.out _ (eX HX4.out)).mono ?_;rintro e w5 ⟨rfl,hx5⟩;have HX5:=aa (Xk.Ext.trans HX4.out hx5);clear hx5 q23 q24 q25 q26 q27 q28 q29 q30 q31 q32 q33 lt24;have q34:=en HX5.out 34 (.slice p3 n3 c3) (by rw[HL.out];rfl);go_wp2_with fail;refine(HG.out _ (eX HX5.out)).mono ?_;rintro e w6 ⟨rfl,hx6⟩;have HX6:=aa (Xk.Ext.trans HX5.out hx6);clear hx6 q34;have q35:=en HX6.out 35 (.slice p4 n4 c4) (by rw[HL.out];rfl);go_wp2_with fail;refine(HO.out _ (eX HX6.out)).mono ?_;rintro e w7 ⟨rfl,hx7⟩;have HX7:=aa (Xk.Ext.trans HX6.out hx7);clear hx7 q35
 have q36:=en HX7.out 36 (.int .i64 lim) (by rw[HL.out];rfl);go_wp2_with fail;go_ret;exact⟨rfl,eX HX7.out⟩
theorem JQ(kind lim:Int)(hkd:kind=8)(p1 p2 p3 p4:Option Addr)(n1 c1 n2 c2 n3 c3 n4 c4:Nat)(kdw opw vkw viw:Int)(vsw tbw nnw:P12.T)(qw:Option Addr)(mw dw:Nat)(kdj opj vkj vij:Int)(vsj tbj nnj:P12.T)(qj:Option Addr)(mj dj:Nat)(l:List Value)(hl:l=cT kind [] aj aj aj aj [] [] false aj aj aj (ao kdw opw vkw viw vsw tbw nnw (.slice qw mw dw)) (.slice p1 n1 c1) (.slice p2 n2 c2) (ao kdj opj vkj vij vsj tbj nnj (.slice qj mj dj)) (.slice p3 n3 c3) (.slice p4 n4 c4) lim)(w:World)
  (hQ:∀W,Xk.Ext w W->Calls af 44 #[.agg l.toArray] W λe w'=>e = .returned (.bool true)/\Xk.Ext W w')
  (hK:∀W,Calls af 33 #[.agg l.toArray] W λe w'=>e = .returned (.agg l.toArray)/\Xk.Ext W w')
  (hS:∀W,Calls af 32 #[.agg l.toArray,.agg l.toArray] W λe w'=>e = .returned (.bool true)/\Xk.Ext W w') :
  Calls af 14 #[.agg l.toArray] w λe w'=>e = .returned (.bool true)/\Xk.Ext w w':=by
 have HK:=aa hK;have HS:=aa hS;have HQ:=aa hQ;clear hK hS hQ;have hn1:(kind==1)=false:=by subst hkd;rfl
 have hn2:(kind==2)=false:=by subst hkd;rfl
 have hn3:(kind==3)=false:=by subst hkd;rfl
 have hn4:(kind==4)=false:=by subst hkd;rfl
 have hn5:(kind==5)=false:=by subst hkd;rfl
 have hn6:(kind==6)=false:=by subst hkd;rfl
 have hn7:(kind==7)=false:=by subst hkd;rfl
 have hn8:(kind==8)=true:=by subst hkd;rfl
 clear hkd;have hlen:l.length=37:=by rw[hl];rfl
 have HSZ:Hid ((af.info? 40).map (·.size)=some l.toArray.size):=aa (by rw[aP,hlen];kernel_rfl);have HLEN:=aa hlen;have HL:=aa hl;have HG:Hid (∀p,(Xk.exw (w.alloc (.cells l.toArray 40)).drew p).heap[w.heap.size]?=some (.cells l.toArray 40)):=aa λp=>((Xk.cF _ p).block _ (by rw[bM,ag];omega)).trans (aw w _);clear hl hlen;go_enter Tryz.func14,Tryz.ntmps14;go_upto_region 1 with fail
 refine Xk.eH 5 [] trivial au au ?_;simp only[List.take_succ_cons,List.take_zero,List.drop_succ_cons,List.drop_zero];(refine Xk.aX (Xk.aQ az) az (λK hK=>?_);refine⟨.agg l.toArray,λp hp=>Xk.nL 40 _ rfl w.heap.size l.toArray 40 (0,0) _ rfl (HG.out p) aB rfl HSZ.out,?_⟩;(go_simp;refine hK _ ?_;clear hK K))
 (refine Xk.aX (Xk.aQ az) az (λK hK=>?_);refine⟨.agg l.toArray,λp hp=>Xk.nL 40 _ rfl w.heap.size l.toArray 40 (0,0) _ rfl (HG.out p) aB rfl HSZ.out,?_⟩;(go_simp;refine hK _ ?_;clear hK K))
 repeat(first
  | ((first|refine Xk.aX (Xk.aQ az) az (λK hK=>?_)|refine Xk.aX az az (λK hK=>?_));apply aU;refine⟨λp hp=>?_,?_⟩;(go_simp;first|exact⟨rfl,rfl⟩|((try refine⟨by kernel_rfl,?_⟩);(first|(go_at_call 33;((with_reducible refine(HK.out _).mono ?_);exact λe w' h=>h))|(go_at_call 32;((with_reducible refine(HS.out _).mono ?_);exact λe w' h=>h)))));(go_simp;refine hK _ ?_;clear hK K))
  | (refine Xk.cQ az (λK hK=>?_);go_simp;refine hK _ ?_;clear hK K))
 refine Xk.bD (λp _=>?_);obtain⟨W2,hW2⟩:∃W2,W2=Xk.exw (w.alloc (.cells l.toArray 40)).drew p:=⟨_,rfl⟩;have hx1:Xk.Ext (w.alloc (.cells l.toArray 40)) W2:=by rw[hW2];exact Xk.xt
 rw[← hW2];clear hW2 HK HS HG;have HX1:=aa hx1;have lt2:w.heap.size<W2.heap.size:=by have:=hx1.size;rw[ag]at this;omega
 have kc:=en hx1 0 (.int .i64 kind) (by rw[HL.out];rfl);clear hx1;have hb2:=BG HX1.out;go_wp2_with (refine bJ rfl 40 _ rfl w.heap.size _ 40 (0,0) _ rfl hb2 aB rfl HSZ.out ?_);refine(HQ.out _ (eX HX1.out)).mono ?_;rintro e w5 ⟨rfl,hx5⟩;go_wp2_with fail;go_ret;exact⟨rfl,Xk.Ext.trans (eX HX1.out) hx5⟩
theorem aE.none{α:Type}{S:Nat->Prop}{w:World}{sz:Nat}{R:α->List Value->Prop}{v:Value}{l:List α}(h:aE S w sz R l v)(hl:l = []):v=aj:=by
 subst hl;rcases h with⟨-,rfl⟩|⟨g,c,us,-,-,h0,-⟩
 ·rfl
 ·simp at h0
theorem aC.zero{S:Nat->Prop}{w:World}{e:P12.E}{l:List Value}(h:aC S w e l)(he:e = .none):l=noE:=by
 subst he;exact h
theorem aE.si{α:Type}{S:Nat->Prop}{w W:World}{sz:Nat}{R:α->List Value->Prop}{l:List α}{v:Value}(h:aE S w sz R l v)(hx:Xk.Ext w W):aE S W sz R l v:=h.bg (λb _ hl=>hx.block b hl) (λb hb _=>hb) (λ_ _ h=>h)
theorem mK{α:Type}{l:List α}{m:Nat}{p:α->Bool}(h:P12.some l m p=true):(1≤l.length/\l.length≤m)/\∀x∈l,p x=true:=by
 simp only[P12.some,aT,decide_eq_true_eq,ft]at h;exact⟨h.1,h.2⟩
theorem CQ{S:Nat->Prop}{w:World}{l:List (P12.T×P12.T)}{v:Value}(h:aE S w 2 sM l v)(hs:P12.some l 2 (λs=>P12.isName s.1&&P12.iv s.2)=true)(W:World)(hx:Xk.Ext w W):
  Calls af 112 #[v,.int .i64 2,.func (.func 109) #[] #[]] W λe w'=>e = .returned (.bool true)/\Xk.Ext W w':=by
 obtain⟨h1,h2⟩:=mK hs
 exact GK IM 2 W (h.si hx) h1 ab (λx u _ hu=>⟨x.1,x.2,hu⟩) (λx a b hm hu W' _=>by
  have e1:bs a=bs x.1:=by injection hu
  have e2:bs b=bs x.2:=by
   have h:=congrArg (List.drop 1) hu;injection h
  have hp:=h2 x hm;simp only[aT]at hp;rw[e1,e2];exact JP x.1 x.2 hp.1 hp.2 W')
theorem Cz{a b:Bool}(h:bT a=bT b):a=b:=by injection h
theorem Bc{S:Nat->Prop}{w:World}{l:List (Bool×P12.E×P12.T)}{v:Value}(h:aE S w 12 (mq S w) l v)(hs:P12.some l 16 P12.pv=true)(W:World)(hx:Xk.Ext w W):
  Calls af 111 #[v,.int .i64 16,.func (.func 107) #[] #[]] W λe w'=>e = .returned (.bool true)/\Xk.Ext W w':=by
 obtain⟨h1,h2⟩:=mK hs
 exact EB FX 16 W (h.si hx) h1 ab (λx u _ hu=>by
  obtain⟨l,rfl,hl⟩:=hu;obtain⟨kd,op,vk,vi,vs,tb,nm,pp,pm,pc,rfl⟩:=hl.form;exact⟨x.1,kd,op,vk,vi,vs,tb,nm,pp,pm,pc,x.2.2,rfl⟩) (λx b kd op vk vi vs tb nm pp pm pc a hm hu W' hx'=>by
  obtain⟨l,e,hl⟩:=hu;have e1:b=x.1:=Cz (by injection e)
  have e3:ao kd op vk vi vs tb nm (.slice pp pm pc)++ [bs a]=l ++ [bs x.2.2]:=by
   have h:=congrArg (List.drop 1) e;exact h
  obtain⟨e2,e4⟩:=List.append_inj' e3 rfl;have e5:bs a=bs x.2.2:=by injection e4
  subst e2;have hp:=h2 x hm;obtain⟨xb,xe,xn⟩:=x;simp only at e1 e5 hl hp;subst e1;rw[e5]
  cases b
  ·simp only[P12.pv,aS,if_false,aT]at hp;exact IF xn kd op vk vi vs tb nm pp pm pc hp.2 W' λW2 hx2=>iV xe hp.1 S W2 _ (aC.kn hl (Xk.Ext.trans (Xk.Ext.trans hx hx') hx2))
  ·simp only[P12.pv,if_true,aT,beq_iff_eq]at hp;obtain⟨hp1,rfl⟩:=hp
   cases xe<;>first|cases hp1|skip
   unfold aC at hl;rw[hl];exact IE W')
theorem DF{S:Nat->Prop}{w:World}{l:List P12.E}{v:Value}(h:aE S w 10 (dY S w) l v)(hl:l.length≤16)(hs:l.all P12.I9=true)(W:World)(hx:Xk.Ext w W):
  Calls af 101 #[v,.func (.func 108) #[] #[]] W λe w'=>e = .returned (.bool true)/\Xk.Ext W w':=by
 refine kG DL W (h.si hx) ab (λx u _ hu=>aC.form hu) (λx kd op vk vi vs tb nm pp pm pc hm hu W' hx'=>?_);have hp:=ft.1 hs x hm
 cases x<;>first|cases hp|skip
 rename_i t n;have hu':ao kd op vk vi vs tb nm (.slice pp pm pc)=ao 2 0 0 0 [] t n aj:=hu;rw[hu'];exact FG t n hp W'
theorem zH{S:Nat->Prop}{w:World}{e:P12.E}{l:List Value}(h:aC S w e l)(hm:P12.iF e=true):∃b,∀W,Calls af 94 #[.agg l.toArray] W λr w'=>r = .returned (.bool b)/\Xk.Ext W w':=by
 cases hn:P12.noE e
 ·have hE:P12.isE e=true:=by simpa[P12.iF,hn]using hm
  obtain⟨kd,op,vk,vi,vs,tb,nm,pp,pm,pc,rfl,hk⟩:=h.kind hE;exact⟨false,λW=>ub kd op vk vi vs tb nm pp pm pc hk W⟩
 ·cases e<;>first|cases hn|skip
  unfold aC at h;subst h;exact⟨true,λW=>mZ W⟩
theorem Bn{S:Nat->Prop}{w:World}{x:P12.St}{l:List Value}{tc tk tq kc cols rows sets:Value}{wh:List Value}{items frm:Value}{jn:List Value}{grp ord:Value}(h:BN S w x l tc tk tq kc cols rows sets wh items frm jn grp ord)(hx:x=P12.qT x)(hk:x.kind=8):l=cT x.kind [] aj aj aj aj [] [] false aj aj aj wh items frm jn grp ord x.limit:=by
 have e:x = { kind:=x.kind,items:=x.items,frm:=x.frm,join:=x.join,wher:=x.wher,group:=x.group,order:=x.order,limit:=x.limit }:=hx.trans (by
  unfold P12.qT;rw[if_neg ab,if_neg ab,if_neg ab,if_neg ab,if_neg ab,if_pos hk,hk])
 have z_tb:x.tb = {}:=congrArg P12.St.tb e;have z_keyCols:x.keyCols = []:=congrArg P12.St.keyCols e;have z_name:x.name = []:=congrArg P12.St.name e;have z_on:x.on = []:=congrArg P12.St.on e;have z_unique:x.unique=false:=congrArg P12.St.unique e;have z_cols:x.cols = []:=congrArg P12.St.cols e;have z_rows:x.rows = []:=congrArg P12.St.rows e;have z_sets:x.sets = []:=congrArg P12.St.sets e;have s_tc:tc=aj:=h.tc.none (by rw[z_tb]);have s_tk:tk=aj:=h.tk.none (by rw[z_tb]);have s_tq:tq=aj:=h.tq.none (by rw[z_tb]);have s_kc:kc=aj:=h.kc.none (by rw[z_keyCols])
 have s_cols:cols=aj:=h.cols.none (by rw[z_cols]);have s_rows:rows=aj:=h.rows.none (by rw[z_rows]);have s_sets:sets=aj:=h.sets.none (by rw[z_sets]);rw[h.form,s_tc,s_tk,s_tq,s_kc,s_cols,s_rows,s_sets,z_tb,z_name,z_on,z_unique]
theorem GQ{S:Nat->Prop}{w:World}{x:P12.St}{l:List Value}{tc tk tq kc cols rows sets:Value}{wh:List Value}{items frm:Value}{jn:List Value}{grp ord:Value}(h:BN S w x l tc tk tq kc cols rows sets wh items frm jn grp ord)
  (hw:P12.iF x.wher=true) (hj:P12.iF x.join=true) (W:World):Calls af 32 #[.agg l.toArray,.agg l.toArray] W λe w'=>e = .returned (.bool true)/\Xk.Ext W w':=by
 obtain⟨b1,hb1⟩:=zH h.wh hw;obtain⟨b2,hb2⟩:=zH h.jn hj;have hl:=h.form;obtain⟨p1,c1,rfl⟩:=h.tc.len;obtain⟨p2,c2,rfl⟩:=h.tk.len;obtain⟨p3,c3,rfl⟩:=h.tq.len;obtain⟨p4,c4,rfl⟩:=h.kc.len;obtain⟨p5,c5,rfl⟩:=h.cols.len;obtain⟨p6,c6,rfl⟩:=h.rows.len;obtain⟨p7,c7,rfl⟩:=h.sets.len;obtain⟨p8,c8,rfl⟩:=h.items.len;obtain⟨p9,c9,rfl⟩:=h.frm.len;obtain⟨p10,c10,rfl⟩:=h.grp.len;obtain⟨p11,c11,rfl⟩:=h.ord.len;obtain⟨k1,o1,vk1,vi1,vs1,tb1,nm1,q1,m1,d1,rfl⟩:=h.wh.form;obtain⟨k2,o2,vk2,vi2,vs2,tb2,nm2,q2,m2,d2,rfl⟩:=h.jn.form
 exact CV _ _ _ _ _ _ p1 p2 p3 p4 p5 p6 p7 p8 p9 p10 p11 _ _ _ _ _ _ _ _ _ _ _ c1 c2 c3 c4 c5 c6 c7 c8 c9 c10 c11 k1 o1 vk1 vi1 vs1 tb1 nm1 q1 m1 d1 k2 o2 vk2 vi2 vs2 tb2 nm2 q2 m2 d2 b1 b2 l hl hb1 hb2 W
theorem lT{e:P12.E}(h:e = .none):P12.iF e=true:=by subst h;rfl
theorem yN{e:P12.E}(h:P12.isE e=true):P12.iF e=true:=by simp[P12.iF,h]
theorem EE{α:Type}{S:Nat->Prop}{w:World}{sz:Nat}{R:α->List Value->Prop}{l:List α}{p:Option Addr}{n c:Nat}(h:aE S w sz R l (.slice p n c)){j:Nat}(hj:j<l.length):∃g u,p=some ⟨g,0,none⟩/\R l[j] u/\w.rangeAt g (j*sz) u:=by
 obtain⟨g,rfl⟩:=h.root ab;obtain⟨-,-,he⟩:=h.elem;obtain⟨u,hu,-,hr⟩:=he j _ (aZ hj);exact⟨g,u,rfl,hu,hr⟩
theorem DD{x:P12.St}(hs:P12.isS x):P12.iF x.wher=true/\P12.iF x.join=true:=by
 obtain⟨hx,hk⟩:=hs
 have hz:x.kind≠6->x.kind≠7->x.kind≠8->x.wher = .none:=λh6 h7 h8=>by
  rw[hx];unfold P12.qT;(repeat' split)<;>first|rfl|(exfalso;omega)
 have hz2:x.kind≠8->x.join = .none:=λh8=>by
  rw[hx];unfold P12.qT;(repeat' split)<;>first|rfl|(exfalso;omega)
 rcases hk with⟨hk,-⟩|⟨hk,-⟩|⟨hk,-⟩|⟨hk,-⟩|⟨hk,-⟩|⟨hk,-,-,h⟩|⟨hk,-,h⟩|⟨hk,h⟩|hk|hk|hk
 all_goals first
  | exact⟨lT (hz ab ab ab),lT (hz2 ab)⟩
  | exact⟨h,lT (hz2 ab)⟩
  | skip
 simp only[P12.uU,aT]at h;refine⟨h.1.1.1.1.1.1.1.2,?_⟩;have hj:=h.1.1.1.1.1.1.2;split at hj
 ·exact yN hj
 ·cases hj2:x.join<;>rw[hj2]at hj<;>first|rfl|cases hj
theorem EH{x:P12.St}(hs:P12.isS x)(hk:x.kind=8):P12.uU x=true:=by
 obtain⟨-,h⟩:=hs;rcases h with⟨hk',-⟩|⟨hk',-⟩|⟨hk',-⟩|⟨hk',-⟩|⟨hk',-⟩|⟨hk',-⟩|⟨hk',-⟩|⟨hk',h⟩|hk'|hk'|hk'
 all_goals first|exact h|(exfalso;omega)
theorem Ab(w:World):Calls af 54 #[.agg noE.toArray] w λr w'=>r = .returned (bs ([]))/\Xk.Ext w w':=by
 go_enter Tryz.func54,Tryz.ntmps54;go_wp2_with fail;go_ret;exact⟨rfl,mY _ _⟩
theorem Aa(kd op vk vi:Int)(vs tb nm:P12.T)(pp:Option Addr)(pm pc:Nat)(hk:kd≠0)(t:P12.T)(ht:t.length≤1000000)(w:World)(hT:∀W,Xk.Ext w W->Calls af 51 #[.agg (ao kd op vk vi vs tb nm (.slice pp pm pc)).toArray] W λr w'=>r = .returned (bs (t))/\Xk.Ext W w'):Calls af 54 #[.agg (ao kd op vk vi vs tb nm (.slice pp pm pc)).toArray] w λr w'=>r = .returned (bs ([32,87,72,69,82,69,32]++t))/\Xk.Ext w w':=by
 have hga:=aw w (bu (ao kd op vk vi vs tb nm (.slice pp pm pc)));have k0:(kd==0)=false:=by simpa using hk
 have HT:=aa hT;clear hk hT;go_enter Tryz.func54,Tryz.ntmps54;go_wp2_with (refine bJ rfl 35 _ rfl (w.heap.size) _ 35 (0,0) _ rfl hga aA rfl au ?_);refine(HT.out _ (mY _ _)).mono ?_;rintro e w1 ⟨rfl,hx1⟩;go_wp2_with fail;go_ret;refine⟨?_,eX hx1⟩;exact congrArg (λx=>cm (.string x)) (show(⟨#[32,87,72,69,82,69,32]⟩++⟨t.toArray⟩:ByteArray)=⟨([32,87,72,69,82,69,32]++t).toArray⟩ by apply gp;simp)
theorem Aq(a:P12.T)(w:World):Calls af 120 #[.agg [bs a,bs []].toArray] w λr w'=>r = .returned (bs (a))/\Xk.Ext w w':=by
 go_enter Tryz.func120,Tryz.ntmps120;go_wp2_with fail;go_ret;exact⟨rfl,mY _ _⟩
theorem Ap(a b:P12.T)(ha:a.length≤1000000)(hb:b.length≤1000000)(hn:b ≠ [])(w:World):Calls af 120 #[.agg [bs a,bs b].toArray] w λr w'=>r = .returned (bs (a ++ [32]++b))/\Xk.Ext w w':=by
 have hb2:b.isEmpty=false:=by cases b<;>first|rfl|exact absurd rfl hn
 clear hn;go_enter Tryz.func120,Tryz.ntmps120;go_wp2_with fail;go_ret;refine⟨?_,mY _ _⟩;exact congrArg (λx=>cm (.string x)) (show(⟨a.toArray⟩++⟨#[32]⟩++⟨b.toArray⟩:ByteArray)=⟨(a ++ [32]++b).toArray⟩ by apply gp;simp)
theorem DK:Ent 119:=⟨λ_ _=>by go_simp,by decide⟩
theorem DB(w:World):Calls af 119 #[.agg (bT true::(noE ++ [bs []])).toArray] w λr w'=>r = .returned (bs ([42]))/\Xk.Ext w w':=by
 go_enter Tryz.func119,Tryz.ntmps119;go_wp2_with fail;go_ret;exact⟨rfl,mY _ _⟩
theorem DC(kd op vk vi:Int)(vs tb nm:P12.T)(pp:Option Addr)(pm pc:Nat)(t:P12.T)(ht:t.length≤1000000)(w:World)(hT:∀W,Xk.Ext w W->Calls af 51 #[.agg (ao kd op vk vi vs tb nm (.slice pp pm pc)).toArray] W λr w'=>r = .returned (bs (t))/\Xk.Ext W w'):Calls af 119 #[.agg (bT false::((ao kd op vk vi vs tb nm (.slice pp pm pc))++ [bs []])).toArray] w λr w'=>r = .returned (bs (t))/\Xk.Ext w w':=by
 have HT:=aa hT;clear hT;have HR:=aa (qv (l:=bT false::((ao kd op vk vi vs tb nm (.slice pp pm pc))++ [bs []])) (al _ _:Xk.Ext (w.alloc (.cells (bT false::((ao kd op vk vi vs tb nm (.slice pp pm pc))++ [bs []])).toArray 88)) _) 1 (ao kd op vk vi vs tb nm (.slice pp pm pc)) (oa rfl rfl rfl rfl rfl rfl rfl rfl rfl rfl rfl));go_enter Tryz.func119,Tryz.ntmps119;go_wp2_with (refine wpList_load_mid rfl 35 _ rfl w.heap.size 1 rfl _ _ HR.out aA rfl au ?_);refine(HT.out _ (mY _ _)).mono ?_;rintro e w1 ⟨rfl,hx1⟩;go_wp2_with fail;go_ret;exact⟨rfl,eX hx1⟩
theorem IB(a:P12.T)(ha:a.length≤1000000)(hn:a ≠ [])(kd op vk vi:Int)(vs tb nm:P12.T)(pp:Option Addr)(pm pc:Nat)(t:P12.T)(ht:t.length≤1000000)(w:World)(hT:∀W,Xk.Ext w W->Calls af 51 #[.agg (ao kd op vk vi vs tb nm (.slice pp pm pc)).toArray] W λr w'=>r = .returned (bs (t))/\Xk.Ext W w'):Calls af 119 #[.agg (bT false::((ao kd op vk vi vs tb nm (.slice pp pm pc))++ [bs a])).toArray] w λr w'=>r = .returned (bs (t ++ [32,65,83,32]++a))/\Xk.Ext w w':=by
 have HT:=aa λW (hx:Xk.Ext (w.alloc (.cells #[bT false,.int .i64 kd,.int .i64 op,.int .i64 vk,.int .i64 vi,bs vs,bs tb,bs nm,.int .i64 0,.int .i64 0,.slice pp pm pc,bs a] 88)) W)=>hT W (eX hx);have hb2:a.isEmpty=false:=by cases a<;>first|rfl|exact absurd rfl hn
 clear hn hT;have n1:¬ 9223372036854775807<t.length+4:=ab;have n2:¬ 9223372036854775807<t.length+4+a.length:=ab;go_enter Tryz.func119,Tryz.ntmps119;go_wp2_with fail;refine Xk.reg 8 (Xk.w1 HT.out λp=>?_);go_wp2_with fail;go_ret;refine⟨?_,Xk.xt⟩;exact congrArg (λx=>cm (.string x)) (show(⟨t.toArray⟩++⟨#[32,65,83,32]⟩++⟨a.toArray⟩:ByteArray)=⟨(t ++ [32,65,83,32]++a).toArray⟩ by apply gp;simp)
theorem FF{n:Int}(h0 : -9223372036854775808≤n)(h1:n≤9223372036854775807):(lM n).length≤50:=by
 unfold lM;split
 ·have:=P12.oY (u:=n.natAbs) ab;simp only[aW];omega
 ·have:=P12.oY (u:=n.toNat) ab;omega
theorem Cy{w W:World}{o:Obj}(hx:Xk.Ext (w.alloc o) W):w.heap.size<W.heap.size:=by have:=hx.size;rw[ag]at this;omega
theorem C8(kind:Int)(lim:Int)(hkd:kind=8)(p1 p2 p3 p4:Option Addr)(n1 c1 n2 c2 n3 c3 n4 c4:Nat)(kdw opw vkw viw:Int)(vsw tbw nnw:P12.T)(qw:Option Addr)(mw dw:Nat)(kdj opj vkj vij:Int)(vsj tbj nnj:P12.T)(qj:Option Addr)(mj dj:Nat)(l:List Value)(hl:l=cT kind [] aj aj aj aj [] [] false aj aj aj (ao kdw opw vkw viw vsw tbw nnw (.slice qw mw dw)) (.slice p1 n1 c1) (.slice p2 n2 c2) (ao kdj opj vkj vij vsj tbj nnj (.slice qj mj dj)) (.slice p3 n3 c3) (.slice p4 n4 c4) lim)(w:World)
  (tq:P12.T) (btq:tq.length≤8000000000)
  (hQ:∀W,Xk.Ext w W->Calls af 55 #[.agg l.toArray] W λr w'=>r = .returned (bs tq)/\Xk.Ext W w')
  (hIs:∀W,Xk.Ext w W->Calls af 14 #[.agg l.toArray] W λe w'=>e = .returned (.bool true)/\Xk.Ext W w') :
  Calls af 15 #[.agg l.toArray] w λr w'=>r = .returned (.tuple #[bs (tq),.int .i64 0])/\Xk.Ext w w':=by
 have HQ:=aa hQ;have hn1:(kind==1)=false:=by subst hkd;rfl
 have hn2:(kind==2)=false:=by subst hkd;rfl
 have hn3:(kind==3)=false:=by subst hkd;rfl
 have hn4:(kind==4)=false:=by subst hkd;rfl
 have hn5:(kind==5)=false:=by subst hkd;rfl
 have hn6:(kind==6)=false:=by subst hkd;rfl
 have hn7:(kind==7)=false:=by subst hkd;rfl
 have hn8:(kind==8)=true:=by subst hkd;rfl
 clear hkd;have HIs:=aa hIs;have hlen:l.length=37:=by rw[hl];rfl
 have HSZ:Hid ((af.info? 40).map (·.size)=some l.toArray.size):=aa (by rw[aP,hlen];kernel_rfl);have HL:=aa hl;have hga:=aw w (.cells l.toArray 40);clear hl hlen hIs hQ;obtain⟨RS,hRS⟩:∃R:P12.T,R=(tq):=⟨_,rfl⟩;rw[← hRS];have HRS:=aa hRS;clear hRS;go_enter Tryz.func15,Tryz.ntmps15;go_wp2_with (refine bJ rfl 40 _ rfl w.heap.size _ 40 (0,0) _ rfl hga aB rfl HSZ.out ?_);refine(HIs.out _ (mY _ _)).mono ?_;rintro e w1 ⟨rfl,hx1⟩;have HX1:=aa hx1;have lt1:=Cy hx1;have kc:=en hx1 0 (.int .i64 kind) (by rw[HL.out];rfl);clear hx1 hga;have q9:=en HX1.out 9 (aj) (by rw[HL.out];rfl);have hb2:=BG HX1.out
 go_wp2_with (refine bJ rfl 40 _ rfl w.heap.size _ 40 (0,0) _ rfl hb2 aB rfl HSZ.out ?_);refine(HQ.out _ (eX HX1.out)).mono ?_;rintro e w2 ⟨rfl,hx2⟩;go_wp2_with fail;go_ret2;refine⟨?_,Xk.Ext.trans (eX HX1.out) hx2⟩;rw[HRS.out];rfl
end Go.Proofs.YtkpmclddjkebeaaGreatDoor
namespace P12
theorem join_cons(a b:T)(l:List T):join (a::b::l)=a ++ [44,32]++join (b::l):=by simp[join,D8,List.intercalate,List.intersperse]
theorem join_one(a:T):join [a]=a:=by simp[join,D8,List.intercalate]
theorem yX:∀ {l:List T} {a:T},a∈l->a.length≤(join l).length
 | [b],a,h=>by simp only[dr]at h;subst h;rw[join_one];exact ai _
 | b::c::l,a,h=>by
  rw[join_cons];simp only[aN];rcases aJ.1 h with rfl|h
  ·omega
  ·have:=yX h;omega
theorem FD{α:Type}{l:List α}{f:α->T}{x:α}(h:x∈l){n:Nat}(hn:(join (l.map f)).length≤n):(f x).length≤n:=bI (yX (List.mem_map_of_mem h)) hn
theorem wS(x:Bool×E×T)(h:x.1=false):(text x.2.1).length≤(ic x).length/\(x.2.2 ≠ []->x.2.2.length≤(ic x).length):=by
 unfold ic;rw[if_neg (by rw[h];simp)];split
 ·exact⟨ai _,λh2=>absurd ‹_› h2⟩
 ·exact⟨by simp only[aN,aW,mc];omega,λ_=>by simp only[aN,aW,mc];omega⟩
theorem xT(s:T×T):s.1.length≤(jh s).length/\(s.2 ≠ []->s.2.length≤(jh s).length):=by
 unfold jh;split
 ·exact⟨ai _,λh=>absurd ‹_› h⟩
 ·exact⟨by simp only[aN,aW,mc];omega,λ_=>by simp only[aN,aW,mc];omega⟩
theorem um{e:E}(h:noE e=false):(text e).length≤(gi e).length:=by
 unfold gi;rw[if_neg (by rw[h];simp)];simp only[aN,aW,mc];omega
end P12
namespace Go.Proofs.YtkpmclddjkebeaaGreatDoor
open Go.RowKit
theorem BV{S:Nat->Prop}{w W:World}{e:P12.E}{l:List Value}(hE:Env w)(h:aC S w e l)(hi:P12.isE e=true)(hb:(P12.text e).length≤1000000)(hx:Xk.Ext w W):Calls af 51 #[.agg l.toArray] W λr w'=>r = .returned (bs (P12.text e))/\Xk.Ext W w':=
 mn e hi hb S W l (hE.ext hx) (h.kn hx)
theorem Eg{S:Nat->Prop}{w W:World}{e:P12.E}{l:List Value}(hE:Env w)(h:aC S w e l)(hm:P12.iF e=true)(hb:(P12.gi e).length≤1000000)(hx:Xk.Ext w W):Calls af 54 #[.agg l.toArray] W λr w'=>r = .returned (bs (P12.gi e))/\Xk.Ext W w':=by
 cases hn:P12.noE e
 ·have hi:P12.isE e=true:=by simpa[P12.iF,hn]using hm
  have hl:=P12.um hn;have hT:=λW2 (hx2:Xk.Ext W W2)=>BV (W:=W2) hE h hi ab (Xk.Ext.trans hx hx2);obtain⟨kd,op,vk,vi,vs,tb,nm,pp,pm,pc,rfl,hk⟩:=h.kind hi;have:=Aa kd op vk vi vs tb nm pp pm pc hk (P12.text e) ab W hT;unfold P12.gi;rw[hn];exact this
 ·cases e<;>first|cases hn|skip
  unfold aC at h;subst h;exact Ab W
theorem DA{S:Nat->Prop}{w W:World}{l:List (Bool×P12.E×P12.T)}{v:Value}(hE:Env w)(h:aE S w 12 (mq S w) l v)(hl:l.length≤16)(hi:∀x∈l,P12.pv x=true)(hj:(P12.join (l.map P12.ic)).length≤1000000)(hx:Xk.Ext w W):
  Calls af 118 #[v,.func (.func 119) #[] #[]] W λr w'=>r = .returned (bs (P12.join (l.map P12.ic)))/\Xk.Ext W w':=
 GV DK P12.ic W (h.si hx) ab ab (λx u _ hu=>by
  obtain⟨l,rfl,hl⟩:=hu;obtain⟨kd,op,vk,vi,vs,tb,nm,pp,pm,pc,rfl⟩:=hl.form;exact⟨x.1,kd,op,vk,vi,vs,tb,nm,pp,pm,pc,x.2.2,rfl⟩) (λx b kd op vk vi vs tb nm pp pm pc a hm hu W' hx'=>by
  obtain⟨l,e,hl⟩:=hu;have e1:b=x.1:=Cz (by injection e)
  have e3:ao kd op vk vi vs tb nm (.slice pp pm pc)++ [bs a]=l ++ [bs x.2.2]:=by
   have h:=congrArg (List.drop 1) e;exact h
  obtain⟨e2,e4⟩:=List.append_inj' e3 rfl;have e5:bs a=bs x.2.2:=by injection e4
  subst e2;have hp:=hi x hm;have hlen:=P12.FD hm hj;have hl2:=P12.wS x;obtain⟨xb,xe,xn⟩:=x;simp only at e1 e5 hl hp hl2;subst e1;rw[e5]
  cases b
  ·simp only[P12.pv,aS,if_false,aT]at hp;obtain⟨h1,h2⟩:=hl2 rfl;have hT:=λW2 (hx2:Xk.Ext W' W2)=>BV (W:=W2) hE hl hp.1 ab (Xk.Ext.trans (Xk.Ext.trans hx hx') hx2);by_cases hn:xn = []
   ·subst hn;have:=DC kd op vk vi vs tb nm pp pm pc (P12.text xe) ab W' hT;exact this
   ·have:=IB xn (by have:=h2 hn;omega) hn kd op vk vi vs tb nm pp pm pc (P12.text xe) ab W' hT;unfold P12.ic;rw[if_neg aI,if_neg hn];exact this
  ·simp only[P12.pv,if_true,aT,beq_iff_eq]at hp;obtain⟨hp1,rfl⟩:=hp
   cases xe<;>first|cases hp1|skip
   unfold aC at hl;rw[hl];exact DB W')
theorem CR(s:P12.T×P12.T)(hb:(P12.jh s).length≤1000000)(W:World):Calls af 120 #[.agg #[bs s.1,bs s.2]] W λr w'=>r = .returned (bs (P12.jh s))/\Xk.Ext W w':=by
 obtain⟨h1,h2⟩:=P12.xT s;obtain⟨a,b⟩:=s;by_cases hn:b = []
 ·subst hn;exact Aq a W
 ·have:=Ap a b (by simp only at h1;omega) (by have:=h2 hn;simp only at this;omega) hn W;unfold P12.jh;rw[if_neg hn];exact this
theorem xO{S:Nat->Prop}{w:World}{x:P12.St}{l:List Value}(h:dv S w x l):l.toArray.all (·.oneCell')=true/\(af.info? 40).map (·.size)=some l.toArray.size:=by
 have hlen:=h.length;refine⟨?_,by rw[aP,hlen];kernel_rfl⟩;obtain⟨tc,tk,tq,kc,cols,rows,sets,wh,items,frm,jn,grp,ord,h⟩:=h;rw[h.form];obtain⟨p1,c1,rfl⟩:=h.tc.len;obtain⟨p2,c2,rfl⟩:=h.tk.len;obtain⟨p3,c3,rfl⟩:=h.tq.len;obtain⟨p4,c4,rfl⟩:=h.kc.len;obtain⟨p5,c5,rfl⟩:=h.cols.len;obtain⟨p6,c6,rfl⟩:=h.rows.len;obtain⟨p7,c7,rfl⟩:=h.sets.len;obtain⟨p8,c8,rfl⟩:=h.items.len;obtain⟨p9,c9,rfl⟩:=h.frm.len;obtain⟨p10,c10,rfl⟩:=h.grp.len;obtain⟨p11,c11,rfl⟩:=h.ord.len;obtain⟨k1,o1,vk1,vi1,vs1,tb1,nm1,q1,m1,d1,rfl⟩:=h.wh.form;obtain⟨k2,o2,vk2,vi2,vs2,tb2,nm2,q2,m2,d2,rfl⟩:=h.jn.form;kernel_rfl
theorem dv.at{S:Nat->Prop}{w W:World}{x:P12.St}{l:List Value}(h:dv S w x l)(hx:Xk.Ext w W):dv S W x l:=h.bg (λb _ hl=>hx.block b hl) (λb hb _=>hb)
theorem Dx:P12.isS P12.pt:=⟨rfl,.inr (.inr (.inr (.inr (.inr (.inr (.inr (.inl ⟨rfl,by kernel_rfl⟩)))))))⟩
def J7(x:P12.St):Prop:=∃s,x.frm = [s]/\x.group = []/\x.order = []/\0≤x.limit
theorem JS(p:Option Addr)(c:Nat)(bx:Nat)(w:World):Calls af 228 #[.slice p 0 c,.func (.func 189) #[] #[.pointer (some ⟨bx,0,none⟩)]] w λe w'=>e = .returned (.int .i64 (-1))/\Xk.Ext w w':=by
 have hcf:=zu.run;have hci:=zu.no;go_enter Tryz.func228,Tryz.ntmps228;go_wp2_with fail;go_loopw [8] (λx wr=>x = .int .i64 0/\Xk.Ext w wr) (λ_ _=>0)
 case atStart=>exact⟨rfl,al _ _⟩
 case round=>
  obtain⟨rfl,hx⟩:=hrel;have HX:=aa hx;clear hx;go_wp2_with fail;go_ret;exact⟨rfl,HX.out⟩
theorem Ib(p:Option Addr)(n c:Nat)(hn:n=0)(w:World):Calls af 113 #[.slice p n c,.func (.func 110) #[] #[]] w λe w'=>e = .returned (.bool true)/\Xk.Ext w w':=by
 subst hn;have hmf:=nF;have hnot:=mS;have hent:=IN;have HI:=aa (JS p c w.heap.size (w.alloc (.cells #[.func (.func 110) #[] #[]] 152)));go_enter Tryz.func113,Tryz.ntmps113;go_wp2_with (go_at_call 188;go_in);refine HI.out.mono ?_;rintro e w' ⟨rfl,hx'⟩;go_wp2_with fail;go_ret;exact⟨rfl,Xk.Ext.trans ((al _ _).alloc (ai _) _) hx'⟩
theorem ID(x:P12.St)(hs:P12.isS x)(hk:x.kind=8)(ht:J7 x)(S:Nat->Prop)(w:World)(l:List Value)(h:dv S w x l):Calls af 14 #[.agg l.toArray] w λe w'=>e = .returned (.bool true)/\Xk.Ext w w':=by
 obtain⟨s1,hs1,hg1,ho1,-⟩:=ht;have h1:x.frm.length=1:=by rw[hs1];rfl
 obtain⟨hwm,hjm⟩:=DD hs;have ho:=EH hs hk;obtain⟨tc,tk,tq,kc,cols,rows,sets,wh,items,frm,jn,grp,ord,h⟩:=h;have hSame:=λW=>GQ h hwm hjm W;have hx:=hs.1;have hl:=Bn h hx hk;simp only[P12.uU,aT,decide_eq_true_eq]at ho;obtain⟨⟨⟨⟨⟨⟨⟨⟨⟨a1,a2⟩,a3⟩,a4⟩,a5⟩,a6⟩,a7⟩,a8⟩,a9⟩,a10⟩:=ho;have e1:=λW hx'=>Bc h.items a1 W hx';have e2:=λW hx'=>CQ h.frm a2 W hx';have e3:=λW (hx':Xk.Ext w W)=>A5 x.wher a3 S W wh (aC.kn h.wh hx');have e5:=λW hx'=>DF h.grp a5 a6 W hx';have h0:x.order.length=0:=by rw[ho1];rfl
 have e7:=(mK a2).1;have e8:=h.jn;obtain⟨p1,c1,rfl⟩:=h.items.len;obtain⟨p2,c2,rfl⟩:=h.frm.len;obtain⟨p3,c3,rfl⟩:=h.grp.len;obtain⟨p4,c4,rfl⟩:=h.ord.len;have e6:=λW (_:Xk.Ext w W)=>Ib p4 x.order.length c4 h0 W;obtain⟨kw,ow,vkw,viw,vsw,tbw,nmw,qw,mw,dw,rfl⟩:=h.wh.form;rw[if_neg ab]at a4;have hj:x.join = .none:=by cases hj2:x.join<;>rw[hj2]at a4<;>first|rfl|cases a4
 have hjn:=h.jn.zero hj;subst hjn;rw[h1]at hl e2
 exact JQ _ _ hk p1 p2 p3 p4 _ c1 1 c2 _ c3 _ c4 kw ow vkw viw vsw tbw nmw qw mw dw 0 0 0 0 [] [] [] none 0 0 l hl w
  (λW hx'=>wT _ _ p1 p2 p3 p4 _ c1 c2 _ c3 _ c4 kw ow vkw viw vsw tbw nmw qw mw dw a5 a7 a9 l hl W (λW2 h2=>e1 W2 (Xk.Ext.trans hx' h2)) (λW2 h2=>e2 W2 (Xk.Ext.trans hx' h2)) (λW2 h2=>e3 W2 (Xk.Ext.trans hx' h2)) (λW2 h2=>e5 W2 (Xk.Ext.trans hx' h2)) (λW2 h2=>e6 W2 (Xk.Ext.trans hx' h2)))
  (λW=>FC _ _ hk p1 p2 p3 p4 _ c1 1 c2 _ c3 _ c4 kw ow vkw viw vsw tbw nmw qw mw dw 0 0 0 0 [] [] [] none 0 0 l hl W) hSame
theorem Az(kind lim:Int)(h0:0≤lim)(h1:lim≤9223372036854775807)(p1 p3 p4:Option Addr)(g2 n1 c1 c2 c3 c4:Nat)(a1 b1:P12.T)(kdw opw vkw viw:Int)(vsw tbw nnw:P12.T)(qw:Option Addr)(mw dw:Nat)  (l:List Value)(hl:l=cT kind [] aj aj aj aj [] [] false aj aj aj (ao kdw opw vkw viw vsw tbw nnw (.slice qw mw dw)) (.slice p1 n1 c1) (.slice (some ⟨g2,0,none⟩) 1 c2) noE (.slice p3 0 c3) (.slice p4 0 c4) lim)(w:World)(hE:Env w)
  (rI s1 tw:P12.T)
  (brI:rI.length≤1000000000)
  (bs1:s1.length≤1000000000)
  (btw:tw.length≤1000000000)
  (hr:w.rangeAt g2 0 [bs a1,bs b1])
  (hI:∀W,Xk.Ext w W->Calls af 118 #[.slice p1 n1 c1,.func (.func 119) #[] #[]] W λr w'=>r = .returned (bs rI)/\Xk.Ext W w')
  (hS:∀W,Xk.Ext w W->Calls af 120 #[.agg #[bs a1,bs b1]] W λr w'=>r = .returned (bs s1)/\Xk.Ext W w')
  (hW:∀W,Xk.Ext w W->Calls af 54 #[.agg (ao kdw opw vkw viw vsw tbw nnw (.slice qw mw dw)).toArray] W λr w'=>r = .returned (bs tw)/\Xk.Ext W w') :
  Calls af 55 #[.agg l.toArray] w λr w'=>r = .returned (bs ([83,69,76,69,67,84,32]++rI ++ [32,70,82,79,77,32]++s1++tw++([32,76,73,77,73,84,32]++lM lim)))/\Xk.Ext w w':=by
 have HI:=aa hI;have HS:=aa hS;have HW:=aa hW;have HE:=aa hE;have HL:=aa hl;have lg:g2<w.heap.size:=ay _ _ (hr 0 _ rfl);have HR:=aa hr;clear hl hr hE hI hS hW;have HXA:Hid (Xk.Ext (w.alloc (.cells l.toArray 40)) (w.alloc (.cells l.toArray 40))):=aa (al _ _);have q22:=en HXA.out 22 (.slice p1 n1 c1) (by rw[HL.out];rfl);have q23:=en HXA.out 23 (.slice (some ⟨g2,0,none⟩) 1 c2) (by rw[HL.out];rfl);have ltA:=Cy HXA.out;have lgA:g2<(w.alloc (.cells l.toArray 40)).heap.size:=by rw[ag];omega
 have r0:(w.alloc (.cells l.toArray 40)).cell? ⟨g2,0,none⟩=some (bs a1):=Xk.bO (mY w _) (HR.out 0 _ rfl);have r1:(w.alloc (.cells l.toArray 40)).cell? ⟨g2,1,none⟩=some (bs b1):=Xk.bO (mY w _) (HR.out 1 _ rfl);have m1:¬ 9223372036854775807<7+rI.length:=ab;have m2:¬ 9223372036854775807<7+rI.length+6:=ab;have m3:¬ 9223372036854775807<7+rI.length+6+s1.length:=ab;obtain⟨RS,hRS⟩:∃R,R=([83,69,76,69,67,84,32]++rI ++ [32,70,82,79,77,32]++s1++tw++([32,76,73,77,73,84,32]++lM lim)):=⟨_,rfl⟩;rw[← hRS];have HRS:=aa hRS;clear hRS;go_enter Tryz.func55,Tryz.ntmps55;go_wp2_with fail
 refine Xk.reg 12 (Xk.w2 HI.out HS.out λp=>?_);obtain⟨W1,hW1⟩:∃W',W'=Xk.exw (w.alloc (.cells l.toArray 40)).drew p:=⟨_,rfl⟩;have hx1:Xk.Ext (w.alloc (.cells l.toArray 40)) W1:=by rw[hW1];exact Xk.xt
 rw[← hW1];clear hW1;have HX1:=aa hx1;clear hx1;rw[show(⟨#[83,69,76,69,67,84,32]⟩++⟨rI.toArray⟩++⟨#[32,70,82,79,77,32]⟩++⟨s1.toArray⟩:ByteArray)=⟨([83,69,76,69,67,84,32]++rI ++ [32,70,82,79,77,32]++s1).toArray⟩ by apply gp;simp];have bo:([83,69,76,69,67,84,32]++rI ++ [32,70,82,79,77,32]++s1).length≤3000000000:=by simp;omega
 obtain⟨o1,ho1⟩:∃o,o = [83,69,76,69,67,84,32]++rI ++ [32,70,82,79,77,32]++s1:=⟨_,rfl⟩;rw[← ho1]at bo ⊢;have HO1:=aa ho1;clear ho1;clear q22 q23 r0 r1 ltA lgA m1 m2 m3;have q23:=en HX1.out 23 (.slice (some ⟨g2,0,none⟩) 1 c2) (by rw[HL.out];rfl);have HRW:=aa (qv HX1.out 12 _ (oa (m:=(ao kdw opw vkw viw vsw tbw nnw (.slice qw mw dw))) rfl (by rw[HL.out];rfl) (by rw[HL.out];rfl) (by rw[HL.out];rfl) (by rw[HL.out];rfl) (by rw[HL.out];rfl) (by rw[HL.out];rfl) (by rw[HL.out];rfl) (by rw[HL.out];rfl) (by rw[HL.out];rfl) (by rw[HL.out];rfl)))
 go_wp2_with (refine wpList_load_mid rfl 35 _ rfl w.heap.size 12 rfl _ _ HRW.out aA rfl au ?_);refine(HW.out _ (eX HX1.out)).mono ?_;rintro e w3 ⟨rfl,hx3⟩;have HX3:=aa (Xk.Ext.trans HX1.out hx3);clear hx3 q23;have q34:=en HX3.out 34 (.slice p3 0 c3) (by rw[HL.out];rfl);have q35:=en HX3.out 35 (.slice p4 0 c4) (by rw[HL.out];rfl);have q36:=en HX3.out 36 (.int .i64 lim) (by rw[HL.out];rfl);have bl:=FF (n:=lim) ab ab;go_wp2_with fail;refine(tM lim ab h1 _ (HE.out.ext (eX HX3.out))).mono ?_;rintro e w9 ⟨rfl,hx9⟩;go_wp2_with fail;go_ret
 exact⟨congrArg (λx=>cm (.string x)) (by rw[HRS.out];apply gp;simp[HO1.out]),Xk.Ext.trans (eX HX3.out) hx9⟩
theorem wk{S:Nat->Prop}{w:World}{x:P12.St}{l:List Value}(hk:x.kind=8)(ht:J7 x)(hx:x=P12.qT x)(ho:P12.uU x=true)(hE:Env w)(h:dv S w x l)(hb:(P12.jP x).length≤1000000)(W:World)(hxW:Xk.Ext w W):
  Calls af 55 #[.agg l.toArray] W λr w'=>r = .returned (bs (P12.jP x))/\Xk.Ext W w':=by
 have h:=h.bg (S':=S) (w':=W) (λb _ hl=>hxW.block b hl) (λb hb _=>hb);have hE:=hE.ext hxW;obtain⟨s,hf,hg0,ho0,hlim⟩:=ht;obtain⟨tc,tk,tq,kc,cols,rows,sets,wh,items,frm,jn,grp,ord,h⟩:=h;have hl:=Bn h hx hk;simp only[P12.uU,aT,decide_eq_true_eq]at ho;obtain⟨⟨⟨⟨⟨⟨⟨⟨⟨a1,a2⟩,a3⟩,a4⟩,a5⟩,a6⟩,a7⟩,a8⟩,a9⟩,a10⟩:=ho;obtain⟨b1,b1'⟩:=mK a1;have lI:(P12.join (x.items.map P12.ic)).length≤1000000:=by unfold P12.jP at hb;simp only[aN]at hb;omega
 have lW:(P12.gi x.wher).length≤1000000:=by unfold P12.jP at hb;simp only[aN]at hb;omega
 have lS:(P12.jh (x.frm.headD ([],[]))).length≤1000000:=by unfold P12.jP at hb;simp only[aN]at hb;omega
 have e1:=λW2 hx'=>DA (W:=W2) hE h.items b1.2 b1' lI hx';have e3:=λW2 hx'=>Eg (W:=W2) hE h.wh a3 lW hx';have hfr:=h.frm;obtain⟨p1,c1,rfl⟩:=h.items.len;obtain⟨p2,c2,rfl⟩:=h.frm.len;obtain⟨p3,c3,rfl⟩:=h.grp.len;obtain⟨p4,c4,rfl⟩:=h.ord.len;obtain⟨kw,ow,vkw,viw,vsw,tbw,nmw,qw,mw,dw,rfl⟩:=h.wh.form;rw[hf]at hfr hl lS a4;rw[hg0,ho0]at hl;rw[if_neg aI]at a4;have hj:x.join = .none:=by cases hj2:x.join<;>rw[hj2]at a4<;>first|rfl|cases a4
 have hjn:=h.jn.zero hj;subst hjn;obtain⟨g,u,rfl,hu,hr⟩:=EE hfr (j:=0) aI;have hu':u = [bs s.1,bs s.2]:=hu;subst hu';rw[Nat.zero_mul]at hr;refine(Az _ _ hlim a10 p1 p3 p4 g _ c1 c2 c3 c4 s.1 s.2 kw ow vkw viw vsw tbw nmw qw mw dw l hl W hE (P12.join (x.items.map P12.ic)) (P12.jh s) (P12.gi x.wher) ab (by simp only[List.headD_cons]at lS;omega) ab hr e1 (λW2 _=>CR s lS W2) e3).mono ?_;rintro r w' ⟨rfl,hw⟩;refine⟨congrArg (λt=>cm (bs t)) ?_,hw⟩;unfold P12.jP;rw[hf,hg0,ho0,if_neg (show ¬ x.limit<0 by omega)];simp
theorem wu{S:Nat->Prop}{w:World}{x:P12.St}{l:List Value}(hs:P12.isS x)(hk:x.kind=8)(ht:J7 x)(hE:Env w)(h:dv S w x l)(hb:(P12.print x).length≤1000000):
  Calls af 15 #[.agg l.toArray] w λr w'=>r = .returned (.tuple #[bs (P12.print x),.int .i64 0])/\Xk.Ext w w':=by
 have hp:P12.print x=P12.jP x:=by unfold P12.print;rw[if_neg ab,if_neg ab,if_neg ab,if_neg ab,if_neg ab,if_neg ab,if_neg ab,if_pos hk]
 rw[hp]at hb ⊢;have hQ:=λW hx=>wk hk ht hs.1 (EH hs hk) hE h hb W hx;have hI:∀W,Xk.Ext w W->Calls af 14 #[.agg l.toArray] W λe w'=>e = .returned (.bool true)/\Xk.Ext W w':=λW hx=>ID x hs hk ht S W l (h.at hx);obtain⟨tc,tk,tq,kc,cols,rows,sets,wh,items,frm,jn,grp,ord,h⟩:=h;have hl:=Bn h hs.1 hk;obtain⟨p1,c1,rfl⟩:=h.items.len;obtain⟨p2,c2,rfl⟩:=h.frm.len;obtain⟨p3,c3,rfl⟩:=h.grp.len;obtain⟨p4,c4,rfl⟩:=h.ord.len;obtain⟨k1,o1,vk1,vi1,vs1,tb1,nm1,q1,m1,d1,rfl⟩:=h.wh.form;obtain⟨k2,o2,vk2,vi2,vs2,tb2,nm2,q2,m2,d2,rfl⟩:=h.jn.form
 exact C8 _ _ hk p1 p2 p3 p4 _ c1 _ c2 _ c3 _ c4 k1 o1 vk1 vi1 vs1 tb1 nm1 q1 m1 d1 k2 o2 vk2 vi2 vs2 tb2 nm2 q2 m2 d2 l hl w (P12.jP x) ab hQ hI
theorem Ba(w:World)(hE:Env w)(hP:zV w):Calls af 10 #[] w λe w'=>e = .returned (.bool true)/\Xk.Ext w w':=by
 have HP1:Hid (∀W,Xk.Ext w W->Calls af 11 #[.string ⟨#[115,101,108,101,99,116,32,97,46,120,43,49,32,97,115,32,121,32,102,114,111,109,32,116,32,97,32,119,104,101,114,101,32,110,111,116,32,120,32,61,32,39,98,39,32,108,105,109,105,116,32,51]⟩] W λe w'=>∃l,e = .returned (.tuple #[.agg l.toArray,.int .i64 0,.int .i64 0])/\Xk.Ext W w'/\dv (λb=>W.heap.size≤b) w' P12.pt l):=aa λW hx=>by
  have h:=qN ⟨#[115,101,108,101,99,116,32,97,46,120,43,49,32,97,115,32,121,32,102,114,111,109,32,116,32,97,32,119,104,101,114,101,32,110,111,116,32,120,32,61,32,39,98,39,32,108,105,109,105,116,32,51]⟩ W (hP.ext hx);rw[show P12.parse (⟨#[115,101,108,101,99,116,32,97,46,120,43,49,32,97,115,32,121,32,102,114,111,109,32,116,32,97,32,119,104,101,114,101,32,110,111,116,32,120,32,61,32,39,98,39,32,108,105,109,105,116,32,51]⟩:ByteArray).data.toList = .ok P12.pt from P12.JK]at h;exact h.mono λe w' ⟨hb,l,he,hs⟩=>⟨l,he,hb,hs⟩
 have HP3:Hid (∀W,Xk.Ext w W->Calls af 11 #[.string ⟨#[83,69,76,69,67,84,32,49,32,61,32,50,32,61,32,51,32,70,82,79,77,32,116]⟩] W λe w'=>∃l:List Value,e = .returned (.tuple #[.agg l.toArray,.int .i64 13,.int .i64 120])/\Xk.Ext W w'/\l=bC):=aa λW hx=>by
  have h:=qN ⟨#[83,69,76,69,67,84,32,49,32,61,32,50,32,61,32,51,32,70,82,79,77,32,116]⟩ W (hP.ext hx);rw[show P12.parse (⟨#[83,69,76,69,67,84,32,49,32,61,32,50,32,61,32,51,32,70,82,79,77,32,116]⟩:ByteArray).data.toList = .error (13,120)from P12.JJ]at h;exact h.mono λe w' ⟨hb,he⟩=>⟨bC,he,hb,rfl⟩
 have HPR:Hid (∀ (S:Nat->Prop) l W,Xk.Ext w W->dv S W P12.pt l->Calls af 15 #[.agg l.toArray] W λr w'=>r = .returned (.tuple #[.string ⟨#[83,69,76,69,67,84,32,97,46,120,32,43,32,49,32,65,83,32,121,32,70,82,79,77,32,116,32,97,32,87,72,69,82,69,32,78,79,84,32,40,120,32,61,32,39,98,39,41,32,76,73,77,73,84,32,51]⟩,.int .i64 0])/\Xk.Ext W w'):=aa λS l W hx hs=>by
  have h:=wu Dx rfl ⟨_,rfl,rfl,rfl,by decide⟩ (hE.ext hx) hs (by rw[P12.FA];decide);rw[P12.FA]at h;exact h
 clear hE hP;go_enter Tryz.func10,Tryz.ntmps10;go_wp2_with fail;refine(HP1.out _ (al _ _)).mono ?_;rintro e w1 ⟨l1,rfl,hx1,hs1⟩;obtain⟨h1,h2⟩:=xO hs1;have hl1:=hs1.length;have HX1:=aa hx1;have HS1:=aa hs1;have H1:=aa h1;have H2:=aa h2;have HL1:=aa hl1;clear hx1 hs1 h1 h2 hl1
 go_wp2_with (first|((refine bQ rfl 40 _ _ rfl (w1.heap.size) _ _ 40 rfl rfl ((aw w1 _)) ((by rw[show l1.toArray.size=37 by rw[aP,HL1.out]];rfl)) (H2.out) (H1.out) ?_;intro w2 hp2);have hb2:=hp2.blk;have HX2:=aa (Xk.Ext.trans HX1.out (jj hp2 (mY w1 _) (ai _)));have HX12:=aa (jj hp2 (mY w1 _) (ai _));clear hp2)|(refine bJ rfl 40 _ rfl w1.heap.size _ 40 (0,0) _ rfl hb2 aB rfl H2.out ?_));refine(HPR.out _ l1 _ HX2.out (HS1.out.at HX12.out)).mono ?_;rintro e w3 ⟨rfl,hx3⟩;have HX3:=aa (Xk.Ext.trans HX2.out hx3);clear hx3 hb2;go_wp2_with fail;refine(HP3.out _ HX3.out).mono ?_
 rintro e w4 ⟨l4,rfl,hx4,hl4⟩;have HX4:=aa (Xk.Ext.trans HX3.out hx4);have G1:Hid (l4.toArray.all (·.oneCell')=true):=aa (by rw[hl4];kernel_rfl);have G2:Hid ((af.info? 40).map (·.size)=some l4.toArray.size):=aa (by rw[hl4];kernel_rfl);have G3:Hid (l4.toArray.size=37):=aa (by rw[hl4];rfl);clear hx4 hl4;go_wp2_with ((refine bQ rfl 40 _ _ rfl (w4.heap.size) _ _ 40 rfl rfl ((aw w4 _)) ((by rw[G3.out];rfl)) (G2.out) (G1.out) ?_;intro w5 hp5));go_ret;exact⟨rfl,Xk.Ext.trans HX4.out (jj hp5 (mY w4 _) (ai _))⟩
end Go.Proofs.YtkpmclddjkebeaaGreatDoor
