/- What the claim's proof leans on, part 10: walks of functions and plain laws. -/
import Derived.Test.YtkpmclddjkebeaaGreatDoorBI
import Derived.Test.YtkpmclddjkebeaaGreatDoorBD
set_option linter.unusedSimpArgs false
set_option linter.unusedVariables false
set_option maxRecDepth 100000
set_option maxHeartbeats 8000000
open Array renaming getElem?_eq_some_iff→ae,getElem?_toList→ib
open Bool renaming and_eq_true→aq,false_eq_true→aV,not_eq_true'→dF,or_eq_true→dM
open Exists renaming intro→ai
open Go.ByteArray renaming toList_eq→nY
open Go.Ending renaming returned→aP
open Go.Instr renaming build→dd
open Go.Lib renaming hid→aa,toUpperA→iB,upperB→qG
open Go.Proofs.Tryz renaming f33→j0,prog→ab,underlying137→jR,underlying29→cN,underlying35→aW,underlying40→av,underlying85→nv,underlying88→fj,underlying90→uq,underlying92→jQ
open Go.Result renaming andThen_ok→oK
open Go.RowKit.Below renaming grown→eg,refl→aj
open Go.Value renaming bool→bf,int→jF
open Go.World renaming block_lt_of_cell?→al,cell?→ak,ownsRow_nil→gL,size_alloc→af,size_drew→cQ
open Go renaming bodyPost_ret→aO,frozen_of_row→aN
open List renaming cons_append→aL,drop_succ_cons→aG,drop_zero→aT,eq_nil_of_length_eq_zero→mr,getElem?_eq_getElem→aU,getElem?_eq_some_iff→cP,getElem?_map→jc,getElem?_take→fp,getElem_mem→cp,length_map→cH,map_cons→fX,map_map→iq,mem_append→ef,mem_cons→aI,mem_cons_of_mem→cO,mem_cons_self→cy,mem_map→DL,mem_singleton→bW,nil_append→bM,not_mem_nil→aC,range→pL,range'→ud,size_toArray→ar,take_length→fH,take_succ_cons→aA,take_zero→aS
open Nat renaming add_zero→jZ,le_refl→ag,le_trans→bH,lt_of_lt_of_le→aD,mul_one→nk,zero_add→fe
open Option renaming map_eq_some_iff→fx
open Option.some renaming inj→lP
open UInt8 renaming le_iff_toNat_le→eT
namespace Go.Proofs.YtkpmclddjkebeaaGreatDoor
open Go.RowKit
theorem aH.len{α:Type}{S:Nat->Prop}{w:World}{sz:Nat}{R:α->List Value->Prop}{l:List α}{v:Value}(h:aH S w sz R l v):∃p c,v = .slice p l.length c:=by
 rcases h with⟨rfl,rfl⟩|⟨g,c,us,rfl,-⟩
 ·exact⟨_,_,rfl⟩
 ·exact⟨_,_,rfl⟩
theorem aH.root{α:Type}{S:Nat->Prop}{w:World}{sz:Nat}{R:α->List Value->Prop}{l:List α}{p:Option Addr}{n c:Nat}(h:aH S w sz R l (.slice p n c))(hl:0<l.length):∃g,p=some ⟨g,0,none⟩:=by
 rcases h with⟨rfl,-⟩|⟨g,c,us,e,-⟩
 ·simp at hl
 ·cases e;exact⟨g,rfl⟩
theorem DK{FI:FuncId}(hent:Ent FI)(kd op vk vi:Int)(vs tb nm:P12.T)(pp:Option Addr)(pm pc:Nat)(bx:Nat)(W:World)(hb:W.cell? ⟨bx,0,none⟩=some (.func (.func FI) #[] #[]))(hF:∀W',Xk.Ext W W'->Calls ab FI #[.agg (au kd op vk vi vs tb nm (.slice pp pm pc)).toArray] W' λe w'=>e = .returned (.bool true)/\Xk.Ext W' w'):
  Calls ab 177 #[.agg (au kd op vk vi vs tb nm (.slice pp pm pc)).toArray,.pointer (some ⟨bx,0,none⟩)] W λe w'=>e = .returned (.bool false)/\Xk.Ext W w':=by
 have hnot:=gD;have HF:=aa hF;have hcf:=hent.run;have hci:=hent.no;have lb:=al _ _ hb;clear hF hent;go_enter Tryz.func177,Tryz.ntmps177;go_wp2_with (first|(refine aE rfl 35 _ rfl (W.heap.size) _ 35 (0,0) _ rfl (az W _) aW rfl (by kernel_rfl) ?_)|fail);refine(HF.out _ Xk.xt).mono ?_;rintro e w' ⟨rfl,hx⟩;go_wp2_with fail;go_ret;exact⟨rfl,Xk.Ext.trans Xk.xt hx⟩
theorem vb:Ent 177:=⟨λ_ _=>by go_simp,by decide⟩
theorem Bd{α:Type}{FI:FuncId}(hent:Ent FI){S:Nat->Prop}{R:α->List Value->Prop}{l:List α}{v:Value}(w:World)(h:aH S w 10 R l v)(hl:l.length≤1000000)(hform:∀x u,x∈l->R x u->∃kd op vk vi:Int,∃vs tb nm:P12.T,∃pp:Option Addr,∃pm pc:Nat, u=au kd op vk vi vs tb nm (.slice pp pm pc))(bx:Nat)(hb:w.cell? ⟨bx,0,none⟩=some (.func (.func FI) #[] #[]))
  (hF:∀x (kd op vk vi:Int) (vs tb nm:P12.T) (pp:Option Addr) (pm pc:Nat),x∈l->R x (au kd op vk vi vs tb nm (.slice pp pm pc))->∀W,Xk.Ext w W->Calls ab FI #[.agg (au kd op vk vi vs tb nm (.slice pp pm pc)).toArray] W λe w'=>e = .returned (.bool true)/\Xk.Ext W w') :
  Calls ab 220 #[v,.func (.func 177) #[] #[.pointer (some ⟨bx,0,none⟩)]] w λe w'=>e = .returned (.int .i64 (-1))/\Xk.Ext w w':=by
 have hcf:=vb.run;have hci:=vb.no;have HF:=aa hF;have HS:=aa h;have HFM:=aa hform;obtain⟨p,c,rfl⟩:=h.len;clear hF hform h;go_enter Tryz.func220,Tryz.ntmps220;go_wp2_with fail;go_loopw [8] (λx wr=>∃q:Nat,q≤l.length/\x = .int .i64 q/\Xk.Ext w wr) (λx _=>l.length-(intOf x).toNat)
 case atStart=>exact⟨0,by omega,rfl,aj _ _⟩
 case round=>
  obtain⟨q,hq,rfl,hx⟩:=hrel;have HX:=aa hx;clear hx;by_cases hlt:q<l.length
  ·obtain⟨g,rfl⟩:=HS.out.root (by omega);obtain⟨-,-,he⟩:=HS.out.elem;obtain⟨u,hu,-,hr⟩:=he q _ (aU hlt);have hmem:=cp hlt;obtain⟨kd,op,vk,vi,vs,tb,nm,pp,pm,pc,rfl⟩:=HFM.out _ _ hmem hu;have hg:=al _ _ (hr 0 _ rfl);have HRJ:=aa (cI hr (HX.out.block g hg));have hbr:=Xk.bn HX.out hb;have HC:=aa (DK hent kd op vk vi vs tb nm pp pm pc bx wr hbr (λW' hx'=>HF.out _ kd op vk vi vs tb nm pp pm pc hmem hu W' (Xk.Ext.trans HX.out hx')));have hlb:(q:Int)<(l.length:Int):=by omega
   have hwg:g<wr.heap.size:=aD hg HX.out.size
   
   clear hr hu he hbr;go_wp2_with (first|(refine wpList_load_mid rfl 35 _ rfl g (q*10) rfl _ _ HRJ.out aW rfl (by kernel_rfl) ?_));refine HC.out.mono ?_;rintro e w' ⟨rfl,hx'⟩;go_wp2_with fail;go_roundw
   case rel=>exact⟨q+1,by omega,by go_num,Xk.Ext.trans HX.out hx'⟩
   case measure=>simp[intOf];omega
  ·have hlb:¬ (q:Int)<(l.length:Int):=by omega
   go_wp2_with fail;go_ret;exact⟨rfl,HX.out⟩
theorem ju{α:Type}{FI:FuncId}(hent:Ent FI){S:Nat->Prop}{R:α->List Value->Prop}{l:List α}{v:Value}(w:World)(h:aH S w 10 R l v)(hl:l.length≤1000000)(hform:∀x u,x∈l->R x u->∃kd op vk vi:Int,∃vs tb nm:P12.T,∃pp:Option Addr,∃pm pc:Nat, u=au kd op vk vi vs tb nm (.slice pp pm pc))
  (hF:∀x (kd op vk vi:Int) (vs tb nm:P12.T) (pp:Option Addr) (pm pc:Nat),x∈l->R x (au kd op vk vi vs tb nm (.slice pp pm pc))->∀W,Xk.Ext w W->Calls ab FI #[.agg (au kd op vk vi vs tb nm (.slice pp pm pc)).toArray] W λe w'=>e = .returned (.bool true)/\Xk.Ext W w') :
  Calls ab 101 #[v,.func (.func FI) #[] #[]] w λe w'=>e = .returned (.bool true)/\Xk.Ext w w':=by
 have hmf:=jg;have hnot:=gD;have hxa:Xk.Ext w (w.alloc (.cells #[.func (.func FI) #[] #[]] 94)):=(aj _ _).alloc (ag _) _
 have HI:=aa (Bd hent (w.alloc (.cells #[.func (.func FI) #[] #[]] 94)) (h.bC (λb _ hl=>hxa.block b hl) (λ_ hb _=>hb) (λ_ _ h=>h)) hl hform w.heap.size (fG w _ _)
  (λx kd op vk vi vs tb nm pp pm pc hm hr W hx=>hF x kd op vk vi vs tb nm pp pm pc hm hr W (Xk.Ext.trans hxa hx)))
 have HXA:=aa hxa;clear hF hform h hxa;go_enter Tryz.func101,Tryz.ntmps101;go_wp2_with (go_at_call 176;go_in);refine HI.out.mono ?_;rintro e w' ⟨rfl,hx'⟩;go_wp2_with fail;go_ret;exact⟨rfl,Xk.Ext.trans HXA.out hx'⟩
theorem Gz{FI:FuncId}(hent:Ent FI)(a:P12.T)(ty:Int)(b:Bool)(bx:Nat)(W:World)(hb:W.cell? ⟨bx,0,none⟩=some (.func (.func FI) #[] #[]))(hF:∀W',Xk.Ext W W'->Calls ab FI #[.agg ([bs a,.int .i64 ty,.bool b]).toArray] W' λe w'=>e = .returned (.bool true)/\Xk.Ext W' w'):
  Calls ab 179 #[.agg ([bs a,.int .i64 ty,.bool b]).toArray,.pointer (some ⟨bx,0,none⟩)] W λe w'=>e = .returned (.bool false)/\Xk.Ext W w':=by
 have hnot:=gD;have HF:=aa hF;have hcf:=hent.run;have hci:=hent.no;have lb:=al _ _ hb;clear hF hent;go_enter Tryz.func179,Tryz.ntmps179;go_wp2_with (first|(refine aE rfl 137 _ rfl (W.heap.size) _ 137 (0,0) _ rfl (az W _) jR rfl (by kernel_rfl) ?_)|fail);refine(HF.out _ Xk.xt).mono ?_;rintro e w' ⟨rfl,hx⟩;go_wp2_with fail;go_ret;exact⟨rfl,Xk.Ext.trans Xk.xt hx⟩
theorem yG:Ent 179:=⟨λ_ _=>by go_simp,by decide⟩
theorem DI{α:Type}{FI:FuncId}(hent:Ent FI){S:Nat->Prop}{R:α->List Value->Prop}{l:List α}{v:Value}(w:World)(h:aH S w 3 R l v)(hl:l.length≤1000000)(hform:∀x u,x∈l->R x u->∃a:P12.T,∃ty:Int,∃b:Bool, u = [bs a,.int .i64 ty,.bool b])(bx:Nat)(hb:w.cell? ⟨bx,0,none⟩=some (.func (.func FI) #[] #[]))
  (hF:∀x (a:P12.T) (ty:Int) (b:Bool),x∈l->R x ([bs a,.int .i64 ty,.bool b])->∀W,Xk.Ext w W->Calls ab FI #[.agg ([bs a,.int .i64 ty,.bool b]).toArray] W λe w'=>e = .returned (.bool true)/\Xk.Ext W w') :
  Calls ab 221 #[v,.func (.func 179) #[] #[.pointer (some ⟨bx,0,none⟩)]] w λe w'=>e = .returned (.int .i64 (-1))/\Xk.Ext w w':=by
 have hcf:=yG.run;have hci:=yG.no;have HF:=aa hF;have HS:=aa h;have HFM:=aa hform;obtain⟨p,c,rfl⟩:=h.len;clear hF hform h;go_enter Tryz.func221,Tryz.ntmps221;go_wp2_with fail;go_loopw [8] (λx wr=>∃q:Nat,q≤l.length/\x = .int .i64 q/\Xk.Ext w wr) (λx _=>l.length-(intOf x).toNat)
 case atStart=>exact⟨0,by omega,rfl,aj _ _⟩
 case round=>
  obtain⟨q,hq,rfl,hx⟩:=hrel;have HX:=aa hx;clear hx;by_cases hlt:q<l.length
  ·obtain⟨g,rfl⟩:=HS.out.root (by omega);obtain⟨-,-,he⟩:=HS.out.elem;obtain⟨u,hu,-,hr⟩:=he q _ (aU hlt);have hmem:=cp hlt;obtain⟨a,ty,b,rfl⟩:=HFM.out _ _ hmem hu;have hg:=al _ _ (hr 0 _ rfl);have HRJ:=aa (cI hr (HX.out.block g hg));have hbr:=Xk.bn HX.out hb;have HC:=aa (Gz hent a ty b bx wr hbr (λW' hx'=>HF.out _ a ty b hmem hu W' (Xk.Ext.trans HX.out hx')));have hlb:(q:Int)<(l.length:Int):=by omega
   have hwg:g<wr.heap.size:=aD hg HX.out.size
   
   clear hr hu he hbr;go_wp2_with (first|(refine wpList_load_mid rfl 137 _ rfl g (q*3) rfl _ _ HRJ.out jR rfl (by kernel_rfl) ?_));refine HC.out.mono ?_;rintro e w' ⟨rfl,hx'⟩;go_wp2_with fail;go_roundw
   case rel=>exact⟨q+1,by omega,by go_num,Xk.Ext.trans HX.out hx'⟩
   case measure=>simp[intOf];omega
  ·have hlb:¬ (q:Int)<(l.length:Int):=by omega
   go_wp2_with fail;go_ret;exact⟨rfl,HX.out⟩
theorem Gt{α:Type}{FI:FuncId}(hent:Ent FI){S:Nat->Prop}{R:α->List Value->Prop}{l:List α}{v:Value}(w:World)(h:aH S w 3 R l v)(hl:l.length≤1000000)(hform:∀x u,x∈l->R x u->∃a:P12.T,∃ty:Int,∃b:Bool, u = [bs a,.int .i64 ty,.bool b])
  (hF:∀x (a:P12.T) (ty:Int) (b:Bool),x∈l->R x ([bs a,.int .i64 ty,.bool b])->∀W,Xk.Ext w W->Calls ab FI #[.agg ([bs a,.int .i64 ty,.bool b]).toArray] W λe w'=>e = .returned (.bool true)/\Xk.Ext W w') :
  Calls ab 102 #[v,.func (.func FI) #[] #[]] w λe w'=>e = .returned (.bool true)/\Xk.Ext w w':=by
 have hmf:=jg;have hnot:=gD;have hxa:Xk.Ext w (w.alloc (.cells #[.func (.func FI) #[] #[]] 146)):=(aj _ _).alloc (ag _) _
 have HI:=aa (DI hent (w.alloc (.cells #[.func (.func FI) #[] #[]] 146)) (h.bC (λb _ hl=>hxa.block b hl) (λ_ hb _=>hb) (λ_ _ h=>h)) hl hform w.heap.size (fG w _ _)
  (λx a ty b hm hr W hx=>hF x a ty b hm hr W (Xk.Ext.trans hxa hx)))
 have HXA:=aa hxa;clear hF hform h hxa;go_enter Tryz.func102,Tryz.ntmps102;go_wp2_with (go_at_call 178;go_in);refine HI.out.mono ?_;rintro e w' ⟨rfl,hx'⟩;go_wp2_with fail;go_ret;exact⟨rfl,Xk.Ext.trans HXA.out hx'⟩
theorem Gu{FI:FuncId}(hent:Ent FI)(a:P12.T)(bx:Nat)(W:World)(hb:W.cell? ⟨bx,0,none⟩=some (.func (.func FI) #[] #[]))(hF:∀W',Xk.Ext W W'->Calls ab FI #[bs a] W' λe w'=>e = .returned (.bool true)/\Xk.Ext W' w'):
  Calls ab 181 #[bs a,.pointer (some ⟨bx,0,none⟩)] W λe w'=>e = .returned (.bool false)/\Xk.Ext W w':=by
 have hnot:=gD;have HF:=aa hF;have hcf:=hent.run;have hci:=hent.no;have lb:=al _ _ hb;clear hF hent;go_enter Tryz.func181,Tryz.ntmps181;go_wp2_with (first|fail);refine(HF.out _ Xk.xt).mono ?_;rintro e w' ⟨rfl,hx⟩;go_wp2_with fail;go_ret;exact⟨rfl,Xk.Ext.trans Xk.xt hx⟩
theorem yB:Ent 181:=⟨λ_ _=>by go_simp,by decide⟩
theorem DD{α:Type}{FI:FuncId}(hent:Ent FI){S:Nat->Prop}{R:α->List Value->Prop}{l:List α}{v:Value}(w:World)(h:aH S w 1 R l v)(hl:l.length≤1000000)(hform:∀x u,x∈l->R x u->∃a:P12.T, u = [bs a])(bx:Nat)(hb:w.cell? ⟨bx,0,none⟩=some (.func (.func FI) #[] #[]))
  (hF:∀x (a:P12.T),x∈l->R x ([bs a])->∀W,Xk.Ext w W->Calls ab FI #[bs a] W λe w'=>e = .returned (.bool true)/\Xk.Ext W w') :
  Calls ab 64 #[v,.func (.func 181) #[] #[.pointer (some ⟨bx,0,none⟩)]] w λe w'=>e = .returned (.int .i64 (-1))/\Xk.Ext w w':=by
 have hcf:=yB.run;have hci:=yB.no;have HF:=aa hF;have HS:=aa h;have HFM:=aa hform;obtain⟨p,c,rfl⟩:=h.len;clear hF hform h;go_enter Tryz.func64,Tryz.ntmps64;go_wp2_with fail;go_loopw [8] (λx wr=>∃q:Nat,q≤l.length/\x = .int .i64 q/\Xk.Ext w wr) (λx _=>l.length-(intOf x).toNat)
 case atStart=>exact⟨0,by omega,rfl,aj _ _⟩
 case round=>
  obtain⟨q,hq,rfl,hx⟩:=hrel;have HX:=aa hx;clear hx;by_cases hlt:q<l.length
  ·obtain⟨g,rfl⟩:=HS.out.root (by omega);obtain⟨-,-,he⟩:=HS.out.elem;obtain⟨u,hu,-,hr⟩:=he q _ (aU hlt);have hmem:=cp hlt;obtain⟨a,rfl⟩:=HFM.out _ _ hmem hu;have hg:=al _ _ (hr 0 _ rfl);have HRJ:=aa (cI hr (HX.out.block g hg));have hbr:=Xk.bn HX.out hb;have HC:=aa (Gu hent a bx wr hbr (λW' hx'=>HF.out _ a hmem hu W' (Xk.Ext.trans HX.out hx')));have hlb:(q:Int)<(l.length:Int):=by omega
   have hwg:g<wr.heap.size:=aD hg HX.out.size;have cJ:wr.cell? ⟨g,q,none⟩=some (bs a):=by have:=HRJ.out 0 _ rfl;rwa [nk,jZ]at this
   clear hr hu he hbr;go_wp2_with (fail);refine HC.out.mono ?_;rintro e w' ⟨rfl,hx'⟩;go_wp2_with fail;go_roundw
   case rel=>exact⟨q+1,by omega,by go_num,Xk.Ext.trans HX.out hx'⟩
   case measure=>simp[intOf];omega
  ·have hlb:¬ (q:Int)<(l.length:Int):=by omega
   go_wp2_with fail;go_ret;exact⟨rfl,HX.out⟩
theorem Gm{α:Type}{FI:FuncId}(hent:Ent FI){S:Nat->Prop}{R:α->List Value->Prop}{l:List α}{v:Value}(w:World)(h:aH S w 1 R l v)(hl:l.length≤1000000)(hform:∀x u,x∈l->R x u->∃a:P12.T, u = [bs a])
  (hF:∀x (a:P12.T),x∈l->R x ([bs a])->∀W,Xk.Ext w W->Calls ab FI #[bs a] W λe w'=>e = .returned (.bool true)/\Xk.Ext W w') :
  Calls ab 104 #[v,.func (.func FI) #[] #[]] w λe w'=>e = .returned (.bool true)/\Xk.Ext w w':=by
 have hmf:=jg;have hnot:=gD;have hxa:Xk.Ext w (w.alloc (.cells #[.func (.func FI) #[] #[]] 47)):=(aj _ _).alloc (ag _) _
 have HI:=aa (DD hent (w.alloc (.cells #[.func (.func FI) #[] #[]] 47)) (h.bC (λb _ hl=>hxa.block b hl) (λ_ hb _=>hb) (λ_ _ h=>h)) hl hform w.heap.size (fG w _ _)
  (λx a hm hr W hx=>hF x a hm hr W (Xk.Ext.trans hxa hx)))
 have HXA:=aa hxa;clear hF hform h hxa;go_enter Tryz.func104,Tryz.ntmps104;go_wp2_with (go_at_call 180;go_in);refine HI.out.mono ?_;rintro e w' ⟨rfl,hx'⟩;go_wp2_with fail;go_ret;exact⟨rfl,Xk.Ext.trans HXA.out hx'⟩
theorem Gx{FI:FuncId}(hent:Ent FI)(pp:Option Addr)(pm pc:Nat)(bx:Nat)(W:World)(hb:W.cell? ⟨bx,0,none⟩=some (.func (.func FI) #[] #[]))(hF:∀W',Xk.Ext W W'->Calls ab FI #[.slice pp pm pc] W' λe w'=>e = .returned (.bool true)/\Xk.Ext W' w'):
  Calls ab 183 #[.slice pp pm pc,.pointer (some ⟨bx,0,none⟩)] W λe w'=>e = .returned (.bool false)/\Xk.Ext W w':=by
 have hnot:=gD;have HF:=aa hF;have hcf:=hent.run;have hci:=hent.no;have lb:=al _ _ hb;clear hF hent;go_enter Tryz.func183,Tryz.ntmps183;go_wp2_with (first|fail);refine(HF.out _ Xk.xt).mono ?_;rintro e w' ⟨rfl,hx⟩;go_wp2_with fail;go_ret;exact⟨rfl,Xk.Ext.trans Xk.xt hx⟩
theorem yE:Ent 183:=⟨λ_ _=>by go_simp,by decide⟩
theorem DG{α:Type}{FI:FuncId}(hent:Ent FI){S:Nat->Prop}{R:α->List Value->Prop}{l:List α}{v:Value}(w:World)(h:aH S w 1 R l v)(hl:l.length≤1000000)(hform:∀x u,x∈l->R x u->∃pp:Option Addr,∃pm pc:Nat, u = [.slice pp pm pc])(bx:Nat)(hb:w.cell? ⟨bx,0,none⟩=some (.func (.func FI) #[] #[]))
  (hF:∀x (pp:Option Addr) (pm pc:Nat),x∈l->R x ([.slice pp pm pc])->∀W,Xk.Ext w W->Calls ab FI #[.slice pp pm pc] W λe w'=>e = .returned (.bool true)/\Xk.Ext W w') :
  Calls ab 222 #[v,.func (.func 183) #[] #[.pointer (some ⟨bx,0,none⟩)]] w λe w'=>e = .returned (.int .i64 (-1))/\Xk.Ext w w':=by
 have hcf:=yE.run;have hci:=yE.no;have HF:=aa hF;have HS:=aa h;have HFM:=aa hform;obtain⟨p,c,rfl⟩:=h.len;clear hF hform h;go_enter Tryz.func222,Tryz.ntmps222;go_wp2_with fail;go_loopw [8] (λx wr=>∃q:Nat,q≤l.length/\x = .int .i64 q/\Xk.Ext w wr) (λx _=>l.length-(intOf x).toNat)
 case atStart=>exact⟨0,by omega,rfl,aj _ _⟩
 case round=>
  obtain⟨q,hq,rfl,hx⟩:=hrel;have HX:=aa hx;clear hx;by_cases hlt:q<l.length
  ·obtain⟨g,rfl⟩:=HS.out.root (by omega);obtain⟨-,-,he⟩:=HS.out.elem;obtain⟨u,hu,-,hr⟩:=he q _ (aU hlt);have hmem:=cp hlt;obtain⟨pp,pm,pc,rfl⟩:=HFM.out _ _ hmem hu;have hg:=al _ _ (hr 0 _ rfl);have HRJ:=aa (cI hr (HX.out.block g hg));have hbr:=Xk.bn HX.out hb;have HC:=aa (Gx hent pp pm pc bx wr hbr (λW' hx'=>HF.out _ pp pm pc hmem hu W' (Xk.Ext.trans HX.out hx')));have hlb:(q:Int)<(l.length:Int):=by omega
   have hwg:g<wr.heap.size:=aD hg HX.out.size;have cJ:wr.cell? ⟨g,q,none⟩=some (.slice pp pm pc):=by have:=HRJ.out 0 _ rfl;rwa [nk,jZ]at this
   clear hr hu he hbr;go_wp2_with (fail);refine HC.out.mono ?_;rintro e w' ⟨rfl,hx'⟩;go_wp2_with fail;go_roundw
   case rel=>exact⟨q+1,by omega,by go_num,Xk.Ext.trans HX.out hx'⟩
   case measure=>simp[intOf];omega
  ·have hlb:¬ (q:Int)<(l.length:Int):=by omega
   go_wp2_with fail;go_ret;exact⟨rfl,HX.out⟩
theorem Gq{α:Type}{FI:FuncId}(hent:Ent FI){S:Nat->Prop}{R:α->List Value->Prop}{l:List α}{v:Value}(w:World)(h:aH S w 1 R l v)(hl:l.length≤1000000)(hform:∀x u,x∈l->R x u->∃pp:Option Addr,∃pm pc:Nat, u = [.slice pp pm pc])
  (hF:∀x (pp:Option Addr) (pm pc:Nat),x∈l->R x ([.slice pp pm pc])->∀W,Xk.Ext w W->Calls ab FI #[.slice pp pm pc] W λe w'=>e = .returned (.bool true)/\Xk.Ext W w') :
  Calls ab 105 #[v,.func (.func FI) #[] #[]] w λe w'=>e = .returned (.bool true)/\Xk.Ext w w':=by
 have hmf:=jg;have hnot:=gD;have hxa:Xk.Ext w (w.alloc (.cells #[.func (.func FI) #[] #[]] 97)):=(aj _ _).alloc (ag _) _
 have HI:=aa (DG hent (w.alloc (.cells #[.func (.func FI) #[] #[]] 97)) (h.bC (λb _ hl=>hxa.block b hl) (λ_ hb _=>hb) (λ_ _ h=>h)) hl hform w.heap.size (fG w _ _)
  (λx pp pm pc hm hr W hx=>hF x pp pm pc hm hr W (Xk.Ext.trans hxa hx)))
 have HXA:=aa hxa;clear hF hform h hxa;go_enter Tryz.func105,Tryz.ntmps105;go_wp2_with (go_at_call 182;go_in);refine HI.out.mono ?_;rintro e w' ⟨rfl,hx'⟩;go_wp2_with fail;go_ret;exact⟨rfl,Xk.Ext.trans HXA.out hx'⟩
theorem Gw{FI:FuncId}(hent:Ent FI)(a:P12.T)(kd op vk vi:Int)(vs tb nm:P12.T)(pp:Option Addr)(pm pc:Nat)(bx:Nat)(W:World)(hb:W.cell? ⟨bx,0,none⟩=some (.func (.func FI) #[] #[]))(hF:∀W',Xk.Ext W W'->Calls ab FI #[.agg (bs a :: .int .i64 0::au kd op vk vi vs tb nm (.slice pp pm pc)).toArray] W' λe w'=>e = .returned (.bool true)/\Xk.Ext W' w'):
  Calls ab 185 #[.agg (bs a :: .int .i64 0::au kd op vk vi vs tb nm (.slice pp pm pc)).toArray,.pointer (some ⟨bx,0,none⟩)] W λe w'=>e = .returned (.bool false)/\Xk.Ext W w':=by
 have hnot:=gD;have HF:=aa hF;have hcf:=hent.run;have hci:=hent.no;have lb:=al _ _ hb;clear hF hent;go_enter Tryz.func185,Tryz.ntmps185;go_wp2_with (first|(refine aE rfl 85 _ rfl (W.heap.size) _ 85 (0,0) _ rfl (az W _) nv rfl (by kernel_rfl) ?_)|fail);refine(HF.out _ Xk.xt).mono ?_;rintro e w' ⟨rfl,hx⟩;go_wp2_with fail;go_ret;exact⟨rfl,Xk.Ext.trans Xk.xt hx⟩
theorem yD:Ent 185:=⟨λ_ _=>by go_simp,by decide⟩
theorem DF{α:Type}{FI:FuncId}(hent:Ent FI){S:Nat->Prop}{R:α->List Value->Prop}{l:List α}{v:Value}(w:World)(h:aH S w 12 R l v)(hl:l.length≤1000000)(hform:∀x u,x∈l->R x u->∃a:P12.T,∃kd op vk vi:Int,∃vs tb nm:P12.T,∃pp:Option Addr,∃pm pc:Nat, u=bs a :: .int .i64 0::au kd op vk vi vs tb nm (.slice pp pm pc))(bx:Nat)(hb:w.cell? ⟨bx,0,none⟩=some (.func (.func FI) #[] #[]))
  (hF:∀x (a:P12.T) (kd op vk vi:Int) (vs tb nm:P12.T) (pp:Option Addr) (pm pc:Nat),x∈l->R x (bs a :: .int .i64 0::au kd op vk vi vs tb nm (.slice pp pm pc))->∀W,Xk.Ext w W->Calls ab FI #[.agg (bs a :: .int .i64 0::au kd op vk vi vs tb nm (.slice pp pm pc)).toArray] W λe w'=>e = .returned (.bool true)/\Xk.Ext W w') :
  Calls ab 223 #[v,.func (.func 185) #[] #[.pointer (some ⟨bx,0,none⟩)]] w λe w'=>e = .returned (.int .i64 (-1))/\Xk.Ext w w':=by
 have hcf:=yD.run;have hci:=yD.no;have HF:=aa hF;have HS:=aa h;have HFM:=aa hform;obtain⟨p,c,rfl⟩:=h.len;clear hF hform h;go_enter Tryz.func223,Tryz.ntmps223;go_wp2_with fail;go_loopw [8] (λx wr=>∃q:Nat,q≤l.length/\x = .int .i64 q/\Xk.Ext w wr) (λx _=>l.length-(intOf x).toNat)
 case atStart=>exact⟨0,by omega,rfl,aj _ _⟩
 case round=>
  obtain⟨q,hq,rfl,hx⟩:=hrel;have HX:=aa hx;clear hx;by_cases hlt:q<l.length
  ·obtain⟨g,rfl⟩:=HS.out.root (by omega);obtain⟨-,-,he⟩:=HS.out.elem;obtain⟨u,hu,-,hr⟩:=he q _ (aU hlt);have hmem:=cp hlt;obtain⟨a,kd,op,vk,vi,vs,tb,nm,pp,pm,pc,rfl⟩:=HFM.out _ _ hmem hu;have hg:=al _ _ (hr 0 _ rfl);have HRJ:=aa (cI hr (HX.out.block g hg));have hbr:=Xk.bn HX.out hb;have HC:=aa (Gw hent a kd op vk vi vs tb nm pp pm pc bx wr hbr (λW' hx'=>HF.out _ a kd op vk vi vs tb nm pp pm pc hmem hu W' (Xk.Ext.trans HX.out hx')));have hlb:(q:Int)<(l.length:Int):=by omega
   have hwg:g<wr.heap.size:=aD hg HX.out.size
   
   clear hr hu he hbr;go_wp2_with (first|(refine wpList_load_mid rfl 85 _ rfl g (q*12) rfl _ _ HRJ.out nv rfl (by kernel_rfl) ?_));refine HC.out.mono ?_;rintro e w' ⟨rfl,hx'⟩;go_wp2_with fail;go_roundw
   case rel=>exact⟨q+1,by omega,by go_num,Xk.Ext.trans HX.out hx'⟩
   case measure=>simp[intOf];omega
  ·have hlb:¬ (q:Int)<(l.length:Int):=by omega
   go_wp2_with fail;go_ret;exact⟨rfl,HX.out⟩
theorem Gp{α:Type}{FI:FuncId}(hent:Ent FI){S:Nat->Prop}{R:α->List Value->Prop}{l:List α}{v:Value}(w:World)(h:aH S w 12 R l v)(hl:l.length≤1000000)(hform:∀x u,x∈l->R x u->∃a:P12.T,∃kd op vk vi:Int,∃vs tb nm:P12.T,∃pp:Option Addr,∃pm pc:Nat, u=bs a :: .int .i64 0::au kd op vk vi vs tb nm (.slice pp pm pc))
  (hF:∀x (a:P12.T) (kd op vk vi:Int) (vs tb nm:P12.T) (pp:Option Addr) (pm pc:Nat),x∈l->R x (bs a :: .int .i64 0::au kd op vk vi vs tb nm (.slice pp pm pc))->∀W,Xk.Ext w W->Calls ab FI #[.agg (bs a :: .int .i64 0::au kd op vk vi vs tb nm (.slice pp pm pc)).toArray] W λe w'=>e = .returned (.bool true)/\Xk.Ext W w') :
  Calls ab 106 #[v,.func (.func FI) #[] #[]] w λe w'=>e = .returned (.bool true)/\Xk.Ext w w':=by
 have hmf:=jg;have hnot:=gD;have hxa:Xk.Ext w (w.alloc (.cells #[.func (.func FI) #[] #[]] 95)):=(aj _ _).alloc (ag _) _
 have HI:=aa (DF hent (w.alloc (.cells #[.func (.func FI) #[] #[]] 95)) (h.bC (λb _ hl=>hxa.block b hl) (λ_ hb _=>hb) (λ_ _ h=>h)) hl hform w.heap.size (fG w _ _)
  (λx a kd op vk vi vs tb nm pp pm pc hm hr W hx=>hF x a kd op vk vi vs tb nm pp pm pc hm hr W (Xk.Ext.trans hxa hx)))
 have HXA:=aa hxa;clear hF hform h hxa;go_enter Tryz.func106,Tryz.ntmps106;go_wp2_with (go_at_call 184;go_in);refine HI.out.mono ?_;rintro e w' ⟨rfl,hx'⟩;go_wp2_with fail;go_ret;exact⟨rfl,Xk.Ext.trans HXA.out hx'⟩
theorem DJ{FI:FuncId}(hent:Ent FI)(b:Bool)(kd op vk vi:Int)(vs tb nm:P12.T)(pp:Option Addr)(pm pc:Nat)(a:P12.T)(bx:Nat)(W:World)(hb:W.cell? ⟨bx,0,none⟩=some (.func (.func FI) #[] #[]))(hF:∀W',Xk.Ext W W'->Calls ab FI #[.agg (bf b::(au kd op vk vi vs tb nm (.slice pp pm pc)++ [bs a])).toArray] W' λe w'=>e = .returned (.bool true)/\Xk.Ext W' w'):
  Calls ab 225 #[.agg (bf b::(au kd op vk vi vs tb nm (.slice pp pm pc)++ [bs a])).toArray,.pointer (some ⟨bx,0,none⟩)] W λe w'=>e = .returned (.bool false)/\Xk.Ext W w':=by
 have hnot:=gD;have HF:=aa hF;have hcf:=hent.run;have hci:=hent.no;have lb:=al _ _ hb;clear hF hent;go_enter Tryz.func225,Tryz.ntmps225;go_wp2_with (first|(refine aE rfl 88 _ rfl (W.heap.size) _ 88 (0,0) _ rfl (az W _) fj rfl (by kernel_rfl) ?_)|fail);refine(HF.out _ Xk.xt).mono ?_;rintro e w' ⟨rfl,hx⟩;go_wp2_with fail;go_ret;exact⟨rfl,Xk.Ext.trans Xk.xt hx⟩
theorem va:Ent 225:=⟨λ_ _=>by go_simp,by decide⟩
theorem Bc{α:Type}{FI:FuncId}(hent:Ent FI){S:Nat->Prop}{R:α->List Value->Prop}{l:List α}{v:Value}(w:World)(h:aH S w 12 R l v)(hl:l.length≤1000000)(hform:∀x u,x∈l->R x u->∃b:Bool,∃kd op vk vi:Int,∃vs tb nm:P12.T,∃pp:Option Addr,∃pm pc:Nat,∃a:P12.T, u=bf b::(au kd op vk vi vs tb nm (.slice pp pm pc)++ [bs a]))(bx:Nat)(hb:w.cell? ⟨bx,0,none⟩=some (.func (.func FI) #[] #[]))
  (hF:∀x (b:Bool) (kd op vk vi:Int) (vs tb nm:P12.T) (pp:Option Addr) (pm pc:Nat) (a:P12.T),x∈l->R x (bf b::(au kd op vk vi vs tb nm (.slice pp pm pc)++ [bs a]))->∀W,Xk.Ext w W->Calls ab FI #[.agg (bf b::(au kd op vk vi vs tb nm (.slice pp pm pc)++ [bs a])).toArray] W λe w'=>e = .returned (.bool true)/\Xk.Ext W w') :
  Calls ab 249 #[v,.func (.func 225) #[] #[.pointer (some ⟨bx,0,none⟩)]] w λe w'=>e = .returned (.int .i64 (-1))/\Xk.Ext w w':=by
 have hcf:=va.run;have hci:=va.no;have HF:=aa hF;have HS:=aa h;have HFM:=aa hform;obtain⟨p,c,rfl⟩:=h.len;clear hF hform h;go_enter Tryz.func249,Tryz.ntmps249;go_wp2_with fail;go_loopw [8] (λx wr=>∃q:Nat,q≤l.length/\x = .int .i64 q/\Xk.Ext w wr) (λx _=>l.length-(intOf x).toNat)
 case atStart=>exact⟨0,by omega,rfl,aj _ _⟩
 case round=>
  obtain⟨q,hq,rfl,hx⟩:=hrel;have HX:=aa hx;clear hx;by_cases hlt:q<l.length
  ·obtain⟨g,rfl⟩:=HS.out.root (by omega);obtain⟨-,-,he⟩:=HS.out.elem;obtain⟨u,hu,-,hr⟩:=he q _ (aU hlt);have hmem:=cp hlt;obtain⟨b,kd,op,vk,vi,vs,tb,nm,pp,pm,pc,a,rfl⟩:=HFM.out _ _ hmem hu;have hg:=al _ _ (hr 0 _ rfl);have HRJ:=aa (cI hr (HX.out.block g hg));have hbr:=Xk.bn HX.out hb;have HC:=aa (DJ hent b kd op vk vi vs tb nm pp pm pc a bx wr hbr (λW' hx'=>HF.out _ b kd op vk vi vs tb nm pp pm pc a hmem hu W' (Xk.Ext.trans HX.out hx')));have hlb:(q:Int)<(l.length:Int):=by omega
   have hwg:g<wr.heap.size:=aD hg HX.out.size
   
   clear hr hu he hbr;go_wp2_with (first|(refine wpList_load_mid rfl 88 _ rfl g (q*12) rfl _ _ HRJ.out fj rfl (by kernel_rfl) ?_));refine HC.out.mono ?_;rintro e w' ⟨rfl,hx'⟩;go_wp2_with fail;go_roundw
   case rel=>exact⟨q+1,by omega,by go_num,Xk.Ext.trans HX.out hx'⟩
   case measure=>simp[intOf];omega
  ·have hlb:¬ (q:Int)<(l.length:Int):=by omega
   go_wp2_with fail;go_ret;exact⟨rfl,HX.out⟩
theorem DC{α:Type}{FI:FuncId}(hent:Ent FI){S:Nat->Prop}{R:α->List Value->Prop}{l:List α}{v:Value}(w:World)(h:aH S w 12 R l v)(hl:l.length≤1000000)(hform:∀x u,x∈l->R x u->∃b:Bool,∃kd op vk vi:Int,∃vs tb nm:P12.T,∃pp:Option Addr,∃pm pc:Nat,∃a:P12.T, u=bf b::(au kd op vk vi vs tb nm (.slice pp pm pc)++ [bs a]))
  (hF:∀x (b:Bool) (kd op vk vi:Int) (vs tb nm:P12.T) (pp:Option Addr) (pm pc:Nat) (a:P12.T),x∈l->R x (bf b::(au kd op vk vi vs tb nm (.slice pp pm pc)++ [bs a]))->∀W,Xk.Ext w W->Calls ab FI #[.agg (bf b::(au kd op vk vi vs tb nm (.slice pp pm pc)++ [bs a])).toArray] W λe w'=>e = .returned (.bool true)/\Xk.Ext W w') :
  Calls ab 186 #[v,.func (.func FI) #[] #[]] w λe w'=>e = .returned (.bool true)/\Xk.Ext w w':=by
 have hmf:=jg;have hnot:=gD;have hxa:Xk.Ext w (w.alloc (.cells #[.func (.func FI) #[] #[]] 150)):=(aj _ _).alloc (ag _) _
 have HI:=aa (Bc hent (w.alloc (.cells #[.func (.func FI) #[] #[]] 150)) (h.bC (λb _ hl=>hxa.block b hl) (λ_ hb _=>hb) (λ_ _ h=>h)) hl hform w.heap.size (fG w _ _)
  (λx b kd op vk vi vs tb nm pp pm pc a hm hr W hx=>hF x b kd op vk vi vs tb nm pp pm pc a hm hr W (Xk.Ext.trans hxa hx)))
 have HXA:=aa hxa;clear hF hform h hxa;go_enter Tryz.func186,Tryz.ntmps186;go_wp2_with (go_at_call 224;go_in);refine HI.out.mono ?_;rintro e w' ⟨rfl,hx'⟩;go_wp2_with fail;go_ret;exact⟨rfl,Xk.Ext.trans HXA.out hx'⟩
theorem Gv{FI:FuncId}(hent:Ent FI)(a b:P12.T)(bx:Nat)(W:World)(hb:W.cell? ⟨bx,0,none⟩=some (.func (.func FI) #[] #[]))(hF:∀W',Xk.Ext W W'->Calls ab FI #[.agg ([bs a,bs b]).toArray] W' λe w'=>e = .returned (.bool true)/\Xk.Ext W' w'):
  Calls ab 227 #[.agg ([bs a,bs b]).toArray,.pointer (some ⟨bx,0,none⟩)] W λe w'=>e = .returned (.bool false)/\Xk.Ext W w':=by
 have hnot:=gD;have HF:=aa hF;have hcf:=hent.run;have hci:=hent.no;have lb:=al _ _ hb;clear hF hent;go_enter Tryz.func227,Tryz.ntmps227;go_wp2_with (first|(refine aE rfl 90 _ rfl (W.heap.size) _ 90 (0,0) _ rfl (az W _) uq rfl (by kernel_rfl) ?_)|fail);refine(HF.out _ Xk.xt).mono ?_;rintro e w' ⟨rfl,hx⟩;go_wp2_with fail;go_ret;exact⟨rfl,Xk.Ext.trans Xk.xt hx⟩
theorem yC:Ent 227:=⟨λ_ _=>by go_simp,by decide⟩
theorem DE{α:Type}{FI:FuncId}(hent:Ent FI){S:Nat->Prop}{R:α->List Value->Prop}{l:List α}{v:Value}(w:World)(h:aH S w 2 R l v)(hl:l.length≤1000000)(hform:∀x u,x∈l->R x u->∃a b:P12.T, u = [bs a,bs b])(bx:Nat)(hb:w.cell? ⟨bx,0,none⟩=some (.func (.func FI) #[] #[]))
  (hF:∀x (a b:P12.T),x∈l->R x ([bs a,bs b])->∀W,Xk.Ext w W->Calls ab FI #[.agg ([bs a,bs b]).toArray] W λe w'=>e = .returned (.bool true)/\Xk.Ext W w') :
  Calls ab 250 #[v,.func (.func 227) #[] #[.pointer (some ⟨bx,0,none⟩)]] w λe w'=>e = .returned (.int .i64 (-1))/\Xk.Ext w w':=by
 have hcf:=yC.run;have hci:=yC.no;have HF:=aa hF;have HS:=aa h;have HFM:=aa hform;obtain⟨p,c,rfl⟩:=h.len;clear hF hform h;go_enter Tryz.func250,Tryz.ntmps250;go_wp2_with fail;go_loopw [8] (λx wr=>∃q:Nat,q≤l.length/\x = .int .i64 q/\Xk.Ext w wr) (λx _=>l.length-(intOf x).toNat)
 case atStart=>exact⟨0,by omega,rfl,aj _ _⟩
 case round=>
  obtain⟨q,hq,rfl,hx⟩:=hrel;have HX:=aa hx;clear hx;by_cases hlt:q<l.length
  ·obtain⟨g,rfl⟩:=HS.out.root (by omega);obtain⟨-,-,he⟩:=HS.out.elem;obtain⟨u,hu,-,hr⟩:=he q _ (aU hlt);have hmem:=cp hlt;obtain⟨a,b,rfl⟩:=HFM.out _ _ hmem hu;have hg:=al _ _ (hr 0 _ rfl);have HRJ:=aa (cI hr (HX.out.block g hg));have hbr:=Xk.bn HX.out hb;have HC:=aa (Gv hent a b bx wr hbr (λW' hx'=>HF.out _ a b hmem hu W' (Xk.Ext.trans HX.out hx')));have hlb:(q:Int)<(l.length:Int):=by omega
   have hwg:g<wr.heap.size:=aD hg HX.out.size
   
   clear hr hu he hbr;go_wp2_with (first|(refine wpList_load_mid rfl 90 _ rfl g (q*2) rfl _ _ HRJ.out uq rfl (by kernel_rfl) ?_));refine HC.out.mono ?_;rintro e w' ⟨rfl,hx'⟩;go_wp2_with fail;go_roundw
   case rel=>exact⟨q+1,by omega,by go_num,Xk.Ext.trans HX.out hx'⟩
   case measure=>simp[intOf];omega
  ·have hlb:¬ (q:Int)<(l.length:Int):=by omega
   go_wp2_with fail;go_ret;exact⟨rfl,HX.out⟩
theorem Gn{α:Type}{FI:FuncId}(hent:Ent FI){S:Nat->Prop}{R:α->List Value->Prop}{l:List α}{v:Value}(w:World)(h:aH S w 2 R l v)(hl:l.length≤1000000)(hform:∀x u,x∈l->R x u->∃a b:P12.T, u = [bs a,bs b])
  (hF:∀x (a b:P12.T),x∈l->R x ([bs a,bs b])->∀W,Xk.Ext w W->Calls ab FI #[.agg ([bs a,bs b]).toArray] W λe w'=>e = .returned (.bool true)/\Xk.Ext W w') :
  Calls ab 187 #[v,.func (.func FI) #[] #[]] w λe w'=>e = .returned (.bool true)/\Xk.Ext w w':=by
 have hmf:=jg;have hnot:=gD;have hxa:Xk.Ext w (w.alloc (.cells #[.func (.func FI) #[] #[]] 151)):=(aj _ _).alloc (ag _) _
 have HI:=aa (DE hent (w.alloc (.cells #[.func (.func FI) #[] #[]] 151)) (h.bC (λb _ hl=>hxa.block b hl) (λ_ hb _=>hb) (λ_ _ h=>h)) hl hform w.heap.size (fG w _ _)
  (λx a b hm hr W hx=>hF x a b hm hr W (Xk.Ext.trans hxa hx)))
 have HXA:=aa hxa;clear hF hform h hxa;go_enter Tryz.func187,Tryz.ntmps187;go_wp2_with (go_at_call 226;go_in);refine HI.out.mono ?_;rintro e w' ⟨rfl,hx'⟩;go_wp2_with fail;go_ret;exact⟨rfl,Xk.Ext.trans HXA.out hx'⟩
theorem Gy{FI:FuncId}(hent:Ent FI)(kd op vk vi:Int)(vs tb nm:P12.T)(pp:Option Addr)(pm pc:Nat)(b:Bool)(bx:Nat)(W:World)(hb:W.cell? ⟨bx,0,none⟩=some (.func (.func FI) #[] #[]))(hF:∀W',Xk.Ext W W'->Calls ab FI #[.agg (au kd op vk vi vs tb nm (.slice pp pm pc)++ [bf b]).toArray] W' λe w'=>e = .returned (.bool true)/\Xk.Ext W' w'):
  Calls ab 189 #[.agg (au kd op vk vi vs tb nm (.slice pp pm pc)++ [bf b]).toArray,.pointer (some ⟨bx,0,none⟩)] W λe w'=>e = .returned (.bool false)/\Xk.Ext W w':=by
 have hnot:=gD;have HF:=aa hF;have hcf:=hent.run;have hci:=hent.no;have lb:=al _ _ hb;clear hF hent;go_enter Tryz.func189,Tryz.ntmps189;go_wp2_with (first|(refine aE rfl 92 _ rfl (W.heap.size) _ 92 (0,0) _ rfl (az W _) jQ rfl (by kernel_rfl) ?_)|fail);refine(HF.out _ Xk.xt).mono ?_;rintro e w' ⟨rfl,hx⟩;go_wp2_with fail;go_ret;exact⟨rfl,Xk.Ext.trans Xk.xt hx⟩
theorem yF:Ent 189:=⟨λ_ _=>by go_simp,by decide⟩
theorem DH{α:Type}{FI:FuncId}(hent:Ent FI){S:Nat->Prop}{R:α->List Value->Prop}{l:List α}{v:Value}(w:World)(h:aH S w 11 R l v)(hl:l.length≤1000000)(hform:∀x u,x∈l->R x u->∃kd op vk vi:Int,∃vs tb nm:P12.T,∃pp:Option Addr,∃pm pc:Nat,∃b:Bool, u=au kd op vk vi vs tb nm (.slice pp pm pc)++ [bf b])(bx:Nat)(hb:w.cell? ⟨bx,0,none⟩=some (.func (.func FI) #[] #[]))
  (hF:∀x (kd op vk vi:Int) (vs tb nm:P12.T) (pp:Option Addr) (pm pc:Nat) (b:Bool),x∈l->R x (au kd op vk vi vs tb nm (.slice pp pm pc)++ [bf b])->∀W,Xk.Ext w W->Calls ab FI #[.agg (au kd op vk vi vs tb nm (.slice pp pm pc)++ [bf b]).toArray] W λe w'=>e = .returned (.bool true)/\Xk.Ext W w') :
  Calls ab 228 #[v,.func (.func 189) #[] #[.pointer (some ⟨bx,0,none⟩)]] w λe w'=>e = .returned (.int .i64 (-1))/\Xk.Ext w w':=by
 have hcf:=yF.run;have hci:=yF.no;have HF:=aa hF;have HS:=aa h;have HFM:=aa hform;obtain⟨p,c,rfl⟩:=h.len;clear hF hform h;go_enter Tryz.func228,Tryz.ntmps228;go_wp2_with fail;go_loopw [8] (λx wr=>∃q:Nat,q≤l.length/\x = .int .i64 q/\Xk.Ext w wr) (λx _=>l.length-(intOf x).toNat)
 case atStart=>exact⟨0,by omega,rfl,aj _ _⟩
 case round=>
  obtain⟨q,hq,rfl,hx⟩:=hrel;have HX:=aa hx;clear hx;by_cases hlt:q<l.length
  ·obtain⟨g,rfl⟩:=HS.out.root (by omega);obtain⟨-,-,he⟩:=HS.out.elem;obtain⟨u,hu,-,hr⟩:=he q _ (aU hlt);have hmem:=cp hlt;obtain⟨kd,op,vk,vi,vs,tb,nm,pp,pm,pc,b,rfl⟩:=HFM.out _ _ hmem hu;have hg:=al _ _ (hr 0 _ rfl);have HRJ:=aa (cI hr (HX.out.block g hg));have hbr:=Xk.bn HX.out hb;have HC:=aa (Gy hent kd op vk vi vs tb nm pp pm pc b bx wr hbr (λW' hx'=>HF.out _ kd op vk vi vs tb nm pp pm pc b hmem hu W' (Xk.Ext.trans HX.out hx')));have hlb:(q:Int)<(l.length:Int):=by omega
   have hwg:g<wr.heap.size:=aD hg HX.out.size
   
   clear hr hu he hbr;go_wp2_with (first|(refine wpList_load_mid rfl 92 _ rfl g (q*11) rfl _ _ HRJ.out jQ rfl (by kernel_rfl) ?_));refine HC.out.mono ?_;rintro e w' ⟨rfl,hx'⟩;go_wp2_with fail;go_roundw
   case rel=>exact⟨q+1,by omega,by go_num,Xk.Ext.trans HX.out hx'⟩
   case measure=>simp[intOf];omega
  ·have hlb:¬ (q:Int)<(l.length:Int):=by omega
   go_wp2_with fail;go_ret;exact⟨rfl,HX.out⟩
theorem Gr{α:Type}{FI:FuncId}(hent:Ent FI){S:Nat->Prop}{R:α->List Value->Prop}{l:List α}{v:Value}(w:World)(h:aH S w 11 R l v)(hl:l.length≤1000000)(hform:∀x u,x∈l->R x u->∃kd op vk vi:Int,∃vs tb nm:P12.T,∃pp:Option Addr,∃pm pc:Nat,∃b:Bool, u=au kd op vk vi vs tb nm (.slice pp pm pc)++ [bf b])
  (hF:∀x (kd op vk vi:Int) (vs tb nm:P12.T) (pp:Option Addr) (pm pc:Nat) (b:Bool),x∈l->R x (au kd op vk vi vs tb nm (.slice pp pm pc)++ [bf b])->∀W,Xk.Ext w W->Calls ab FI #[.agg (au kd op vk vi vs tb nm (.slice pp pm pc)++ [bf b]).toArray] W λe w'=>e = .returned (.bool true)/\Xk.Ext W w') :
  Calls ab 113 #[v,.func (.func FI) #[] #[]] w λe w'=>e = .returned (.bool true)/\Xk.Ext w w':=by
 have hmf:=jg;have hnot:=gD;have hxa:Xk.Ext w (w.alloc (.cells #[.func (.func FI) #[] #[]] 152)):=(aj _ _).alloc (ag _) _
 have HI:=aa (DH hent (w.alloc (.cells #[.func (.func FI) #[] #[]] 152)) (h.bC (λb _ hl=>hxa.block b hl) (λ_ hb _=>hb) (λ_ _ h=>h)) hl hform w.heap.size (fG w _ _)
  (λx kd op vk vi vs tb nm pp pm pc b hm hr W hx=>hF x kd op vk vi vs tb nm pp pm pc b hm hr W (Xk.Ext.trans hxa hx)))
 have HXA:=aa hxa;clear hF hform h hxa;go_enter Tryz.func113,Tryz.ntmps113;go_wp2_with (go_at_call 188;go_in);refine HI.out.mono ?_;rintro e w' ⟨rfl,hx'⟩;go_wp2_with fail;go_ret;exact⟨rfl,Xk.Ext.trans HXA.out hx'⟩
theorem Ea{α:Type}{FI:FuncId}(hent:Ent FI){S:Nat->Prop}{R:α->List Value->Prop}{l:List α}{v:Value}(most:Nat)(w:World)(h:aH S w 10 R l v)(hl:1≤l.length/\l.length≤most)(hm:most≤1000000)(hform:∀x u,x∈l->R x u->∃kd op vk vi:Int,∃vs tb nm:P12.T,∃pp:Option Addr,∃pm pc:Nat, u=au kd op vk vi vs tb nm (.slice pp pm pc))
  (hF:∀x (kd op vk vi:Int) (vs tb nm:P12.T) (pp:Option Addr) (pm pc:Nat),x∈l->R x (au kd op vk vi vs tb nm (.slice pp pm pc))->∀W,Xk.Ext w W->Calls ab FI #[.agg (au kd op vk vi vs tb nm (.slice pp pm pc)).toArray] W λe w'=>e = .returned (.bool true)/\Xk.Ext W w') :
  Calls ab 38 #[v,.int .i64 most,.func (.func FI) #[] #[]] w λe w'=>e = .returned (.bool true)/\Xk.Ext w w':=by
 have HA:=aa (ju hent w h (by omega) hform hF);obtain⟨p,c,rfl⟩:=h.len;have h1:(1:Int)≤(l.length:Int):=by omega
 have h2:(l.length:Int)≤(most:Int):=by omega
 clear hF hform h;go_enter Tryz.func38,Tryz.ntmps38;go_wp2_with fail;refine HA.out.mono ?_;rintro e w' ⟨rfl,hx'⟩;go_wp2_with fail;go_ret;exact⟨rfl,hx'⟩
theorem GQ{α:Type}{FI:FuncId}(hent:Ent FI){S:Nat->Prop}{R:α->List Value->Prop}{l:List α}{v:Value}(most:Nat)(w:World)(h:aH S w 1 R l v)(hl:1≤l.length/\l.length≤most)(hm:most≤1000000)(hform:∀x u,x∈l->R x u->∃a:P12.T, u = [bs a])
  (hF:∀x (a:P12.T),x∈l->R x ([bs a])->∀W,Xk.Ext w W->Calls ab FI #[bs a] W λe w'=>e = .returned (.bool true)/\Xk.Ext W w') :
  Calls ab 40 #[v,.int .i64 most,.func (.func FI) #[] #[]] w λe w'=>e = .returned (.bool true)/\Xk.Ext w w':=by
 have HA:=aa (Gm hent w h (by omega) hform hF);obtain⟨p,c,rfl⟩:=h.len;have h1:(1:Int)≤(l.length:Int):=by omega
 have h2:(l.length:Int)≤(most:Int):=by omega
 clear hF hform h;go_enter Tryz.func40,Tryz.ntmps40;go_wp2_with fail;refine HA.out.mono ?_;rintro e w' ⟨rfl,hx'⟩;go_wp2_with fail;go_ret;exact⟨rfl,hx'⟩
theorem GU{α:Type}{FI:FuncId}(hent:Ent FI){S:Nat->Prop}{R:α->List Value->Prop}{l:List α}{v:Value}(most:Nat)(w:World)(h:aH S w 1 R l v)(hl:1≤l.length/\l.length≤most)(hm:most≤1000000)(hform:∀x u,x∈l->R x u->∃pp:Option Addr,∃pm pc:Nat, u = [.slice pp pm pc])
  (hF:∀x (pp:Option Addr) (pm pc:Nat),x∈l->R x ([.slice pp pm pc])->∀W,Xk.Ext w W->Calls ab FI #[.slice pp pm pc] W λe w'=>e = .returned (.bool true)/\Xk.Ext W w') :
  Calls ab 41 #[v,.int .i64 most,.func (.func FI) #[] #[]] w λe w'=>e = .returned (.bool true)/\Xk.Ext w w':=by
 have HA:=aa (Gq hent w h (by omega) hform hF);obtain⟨p,c,rfl⟩:=h.len;have h1:(1:Int)≤(l.length:Int):=by omega
 have h2:(l.length:Int)≤(most:Int):=by omega
 clear hF hform h;go_enter Tryz.func41,Tryz.ntmps41;go_wp2_with fail;refine HA.out.mono ?_;rintro e w' ⟨rfl,hx'⟩;go_wp2_with fail;go_ret;exact⟨rfl,hx'⟩
theorem GS{α:Type}{FI:FuncId}(hent:Ent FI){S:Nat->Prop}{R:α->List Value->Prop}{l:List α}{v:Value}(most:Nat)(w:World)(h:aH S w 12 R l v)(hl:1≤l.length/\l.length≤most)(hm:most≤1000000)(hform:∀x u,x∈l->R x u->∃a:P12.T,∃kd op vk vi:Int,∃vs tb nm:P12.T,∃pp:Option Addr,∃pm pc:Nat, u=bs a :: .int .i64 0::au kd op vk vi vs tb nm (.slice pp pm pc))
  (hF:∀x (a:P12.T) (kd op vk vi:Int) (vs tb nm:P12.T) (pp:Option Addr) (pm pc:Nat),x∈l->R x (bs a :: .int .i64 0::au kd op vk vi vs tb nm (.slice pp pm pc))->∀W,Xk.Ext w W->Calls ab FI #[.agg (bs a :: .int .i64 0::au kd op vk vi vs tb nm (.slice pp pm pc)).toArray] W λe w'=>e = .returned (.bool true)/\Xk.Ext W w') :
  Calls ab 42 #[v,.int .i64 most,.func (.func FI) #[] #[]] w λe w'=>e = .returned (.bool true)/\Xk.Ext w w':=by
 have HA:=aa (Gp hent w h (by omega) hform hF);obtain⟨p,c,rfl⟩:=h.len;have h1:(1:Int)≤(l.length:Int):=by omega
 have h2:(l.length:Int)≤(most:Int):=by omega
 clear hF hform h;go_enter Tryz.func42,Tryz.ntmps42;go_wp2_with fail;refine HA.out.mono ?_;rintro e w' ⟨rfl,hx'⟩;go_wp2_with fail;go_ret;exact⟨rfl,hx'⟩
theorem D9{α:Type}{FI:FuncId}(hent:Ent FI){S:Nat->Prop}{R:α->List Value->Prop}{l:List α}{v:Value}(most:Nat)(w:World)(h:aH S w 12 R l v)(hl:1≤l.length/\l.length≤most)(hm:most≤1000000)(hform:∀x u,x∈l->R x u->∃b:Bool,∃kd op vk vi:Int,∃vs tb nm:P12.T,∃pp:Option Addr,∃pm pc:Nat,∃a:P12.T, u=bf b::(au kd op vk vi vs tb nm (.slice pp pm pc)++ [bs a]))
  (hF:∀x (b:Bool) (kd op vk vi:Int) (vs tb nm:P12.T) (pp:Option Addr) (pm pc:Nat) (a:P12.T),x∈l->R x (bf b::(au kd op vk vi vs tb nm (.slice pp pm pc)++ [bs a]))->∀W,Xk.Ext w W->Calls ab FI #[.agg (bf b::(au kd op vk vi vs tb nm (.slice pp pm pc)++ [bs a])).toArray] W λe w'=>e = .returned (.bool true)/\Xk.Ext W w') :
  Calls ab 111 #[v,.int .i64 most,.func (.func FI) #[] #[]] w λe w'=>e = .returned (.bool true)/\Xk.Ext w w':=by
 have HA:=aa (DC hent w h (by omega) hform hF);obtain⟨p,c,rfl⟩:=h.len;have h1:(1:Int)≤(l.length:Int):=by omega
 have h2:(l.length:Int)≤(most:Int):=by omega
 clear hF hform h;go_enter Tryz.func111,Tryz.ntmps111;go_wp2_with fail;refine HA.out.mono ?_;rintro e w' ⟨rfl,hx'⟩;go_wp2_with fail;go_ret;exact⟨rfl,hx'⟩
theorem GR{α:Type}{FI:FuncId}(hent:Ent FI){S:Nat->Prop}{R:α->List Value->Prop}{l:List α}{v:Value}(most:Nat)(w:World)(h:aH S w 2 R l v)(hl:1≤l.length/\l.length≤most)(hm:most≤1000000)(hform:∀x u,x∈l->R x u->∃a b:P12.T, u = [bs a,bs b])
  (hF:∀x (a b:P12.T),x∈l->R x ([bs a,bs b])->∀W,Xk.Ext w W->Calls ab FI #[.agg ([bs a,bs b]).toArray] W λe w'=>e = .returned (.bool true)/\Xk.Ext W w') :
  Calls ab 112 #[v,.int .i64 most,.func (.func FI) #[] #[]] w λe w'=>e = .returned (.bool true)/\Xk.Ext w w':=by
 have HA:=aa (Gn hent w h (by omega) hform hF);obtain⟨p,c,rfl⟩:=h.len;have h1:(1:Int)≤(l.length:Int):=by omega
 have h2:(l.length:Int)≤(most:Int):=by omega
 clear hF hform h;go_enter Tryz.func112,Tryz.ntmps112;go_wp2_with fail;refine HA.out.mono ?_;rintro e w' ⟨rfl,hx'⟩;go_wp2_with fail;go_ret;exact⟨rfl,hx'⟩
end Go.Proofs.YtkpmclddjkebeaaGreatDoor
namespace P12
theorem uN:∀ (l:T) (i:Nat),nK i l=true->∀ (j:Nat) (c:UInt8),l[j]?=Option.some c->kE (i+j) c=true
 | [],_,_,j,c,h=>by simp at h
 | x::l,i,h,j,c,hj=>by
  rw[nK,aq]at h
  cases j with
  | zero=>
   simp at hj;subst hj;exact h.1
  | succ j=>
   have:=uN l (i+1) h.2 j c (by simpa using hj);rwa [show i+(j+1)=i+1+j by omega]
theorem yi{s:T}(h:isName s=true):s ≠ []/\s.length≤24/\P11.words.contains (s.map qG)=false/\∀ (j:Nat) (c:UInt8),s[j]?=Option.some c->kE j c=true:=by
 unfold isName at h;simp only[aq,bne_iff_ne,ne_eq,decide_eq_true_eq,dF]at h;obtain⟨⟨⟨h1,h2⟩,h3⟩,h4⟩:=h;exact⟨h1,h2,h3,λj c hj=>by have:=uN s 0 h4 j c hj;rwa [fe]at this⟩
theorem xQ{i:Nat}{c:UInt8}(h:kE i c=true):c.toNat<128:=by
 unfold kE at h;simp only[dM,aq,beq_iff_eq,decide_eq_true_eq,eT]at h;rcases h with(h|h)|h
 ·subst h;decide
 ·have:=h.2;simp at this;omega
 ·have:=h.1.2;simp at this;omega
end P12
namespace Go.Proofs.YtkpmclddjkebeaaGreatDoor
open Go.RowKit
theorem tR(x:List UInt8)(h:P11.words.contains x=false)(n:Nat):Lib.containsS ((P11.words.map λy=>(⟨y.toArray⟩:ByteArray)).take n) ⟨x.toArray⟩=false:=by
 rw[Bool.eq_false_iff];intro hc;rw[Lib.containsS_iff]at hc;have hm:=List.mem_of_mem_take hc;obtain⟨y,hy,e⟩:=DL.1 hm
 have e2:y=x:=by
  have:=congrArg (λb:ByteArray=>b.data.toList) e;simpa using this
 subst e2;have:P11.words.contains y=true:=by simpa using hy
 rw[this]at h
 cases h
theorem Fk(s:ByteArray)(h:P12.isName s.data.toList=true)(w:World):Calls ab 35 #[.string s] w λe w'=>e = .returned (.bool true)/\Xk.Ext w w':=by
 obtain⟨hne,hlen,hw,hch⟩:=P12.yi h;have hsz:s.data.toList.length=s.size:=rfl;rw[hsz]at hlen;have hasc:∀ (j:Nat) (b:UInt8),s.data.toList[j]?=some b->b.toNat<128:=λj b hj=>P12.xQ (hch j b hj);have HU:=aa λW=>Tryz.strings_ToUpper_ascii s W (by omega) hasc;have HW:=aa λW=>wK W;have HCH:Hid (∀ (j:Nat) (hj:j<s.size),P12.kE j s[j]=true):=aa λj hj=>hch j _ (aU (show j<s.data.toList.length from hj));have hup:iB s.data.toList=s.data.toList.map qG:=by simp[iB]
 have HUP:=aa hup;have HCW:=aa (tR _ hw 43)
 have he:s.data.toList.isEmpty=false:=by
  cases hs:s.data.toList with
  | nil=>exact absurd hs hne
  | cons a l=>rfl
 have hs0:s.size≠0:=λe=>hne (mr (by rw[hsz];exact e))
 have he2:s.isEmpty=false:=by
  unfold ByteArray.isEmpty;simpa using hs0
 have he3:s.toList.isEmpty=false:=by rw[nY];exact he
 have hlb:¬ (24:Int)<(s.size:Int):=by omega
 clear h hne hw hch hasc hup;go_enter Tryz.func35,Tryz.ntmps35;go_wp2_with fail;go_at_call 56;refine(HW.out _).mono ?_;rintro e w1 ⟨rfl,hwc,hx1,hl1⟩;go_wp2_with fail;go_at_call 96;refine(HU.out _).mono ?_;rintro e w2 ⟨rfl,hx2⟩;rw[HUP.out];have hx12:=Xk.Ext.trans hx1 hx2;go_wp2_with fail;refine(Tryz.slices_Contains_string w.heap.size 0 43 43 (P11.words.map λy=>(⟨y.toArray⟩:ByteArray)) ⟨(s.data.toList.map qG).toArray⟩ w2 (by decide) (by decide) (λj hj=>?_)).mono ?_
 ·have hj':j<P11.words.length:=by simpa using hj
  rw[fe,Xk.bn hx2 (hwc j _ (aU hj'))];rw[List.getD_eq_getElem?_getD,jc,aU hj'];rfl
 rintro e w3 ⟨rfl,rfl⟩;rw[HCW.out];have HX:=aa hx12;clear hx1 hx2 hwc hx12;go_wp2_with fail;go_loopw [20] (λx wr=>∃q:Nat,q≤s.size/\x = .int .i64 q/\Xk.Ext w wr) (λx _=>s.size-(intOf x).toNat)
 case atStart=>exact⟨0,by omega,rfl,HX.out⟩
 case round=>
  obtain⟨q,hq,rfl,hx⟩:=hrel;have HXR:=aa hx;clear hx;by_cases hlt:q<s.size
  ·have hc:=HCH.out q hlt;have hqb:(q:Int)<(s.size:Int):=by omega
   have h8:(s[q].toNat:Int)<256:=by have:=s[q].toNat_lt;omega
   unfold P12.kE at hc;simp only[dM,aq,beq_iff_eq,decide_eq_true_eq,eT,bne_iff_ne,ne_eq]at hc;simp at hc;rcases hc with(h95|⟨ha,hb⟩)|⟨⟨ha,hb⟩,hq0⟩
   ·have t1:((s[q].toNat:Int) !=95)=false:=by rw[h95];rfl
    go_wp2_with fail;go_roundw
    case rel=>exact⟨q+1,by omega,by go_num,HXR.out⟩
    case measure=>simp[intOf];omega
   ·have t1:((s[q].toNat:Int) !=95)=true:=by simp;omega
    have t2:¬ (s[q].toNat:Int)<97:=by omega
    have t3:¬ (122:Int)<(s[q].toNat:Int):=by omega
    have t4:decide ((s[q].toNat:Int)<97)=false:=by simpa using t2
    have t5:decide ((122:Int)<(s[q].toNat:Int))=false:=by simpa using t3
    go_wp2_with fail;go_roundw
    case rel=>exact⟨q+1,by omega,by go_num,HXR.out⟩
    case measure=>simp[intOf];omega
   ·have t1:((s[q].toNat:Int) !=95)=true:=by simp;omega
    have t2:(s[q].toNat:Int)<97:=by omega
    have t3:¬ (s[q].toNat:Int)<48:=by omega
    have t4:¬ (57:Int)<(s[q].toNat:Int):=by omega
    have t5:((q:Int)==0)=false:=by simpa using hq0
    have t6:decide ((s[q].toNat:Int)<97)=true:=by simpa using t2
    have t7:decide ((s[q].toNat:Int)<48)=false:=by simpa using t3
    have t8:decide ((57:Int)<(s[q].toNat:Int))=false:=by simpa using t4
    go_wp2_with fail;go_roundw
    case rel=>exact⟨q+1,by omega,by go_num,HXR.out⟩
    case measure=>simp[intOf];omega
  ·have hqb:¬ (q:Int)<(s.size:Int):=by omega
   go_wp2_with fail;go_ret;exact⟨rfl,HXR.out⟩
theorem eb(s:List UInt8)(h:P12.isName s=true)(w:World):Calls ab 35 #[bs s] w λe w'=>e = .returned (.bool true)/\Xk.Ext w w':=
 Fk ⟨s.toArray⟩ (by simpa using h) w
theorem AT:Ent 35:=⟨λ_ _=>by go_simp,by decide⟩
theorem lL(s:List UInt8)(h:P12.cf s=true)(w:World):Calls ab 99 #[bs s] w λe w'=>e = .returned (.bool true)/\Xk.Ext w w':=by
 cases he:s.isEmpty
 ·have h2:P12.isName s=true:=by
   unfold P12.cf at h
   cases s with
   | nil=>cases he
   | cons a l=>simpa using h
  have HI:=aa λW=>eb s h2 W;go_enter Tryz.func99,Tryz.ntmps99;go_wp2_with fail;refine(HI.out _).mono ?_;rintro e w1 ⟨rfl,hx⟩;go_wp2_with fail;go_ret;exact⟨rfl,hx⟩
 ·go_enter Tryz.func99,Tryz.ntmps99;go_wp2_with fail;go_ret;exact⟨rfl,aj _ _⟩
theorem qy(kd op:Int)(tb nm:P12.T)(pp:Option Addr)(pm pc:Nat)(w:World):Calls ab 98 #[.agg (au kd op 0 0 [] tb nm (.slice pp pm pc)).toArray,.int .i64 pm] w λe w'=>e = .returned (.bool true)/\Xk.Ext w w':=by
 go_enter Tryz.func98,Tryz.ntmps98;go_wp2;go_ret;exact⟨by simp,Xk.xt⟩
theorem tX(kd op vk vi:Int)(vs tb nm:P12.T)(pp:Option Addr)(pm pc:Nat)(hk:kd≠0)(w:World):Calls ab 94 #[.agg (au kd op vk vi vs tb nm (.slice pp pm pc)).toArray] w λe w'=>e = .returned (.bool false)/\Xk.Ext w w':=by
 have hkb:(kd==0)=false:=by simpa using hk
 go_enter Tryz.func94,Tryz.ntmps94;go_wp2_with fail;go_ret;exact⟨rfl,Xk.xt⟩
theorem mV(w:World):Calls ab 94 #[.agg noE.toArray] w λe w'=>e = .returned (.bool true)/\Xk.Ext w w':=by
 have HB:=aa λW=>qy 0 0 [] [] none 0 0 W;have hxa:Xk.Ext w (w.alloc (cd noE)):=(aj _ _).alloc (ag _) _;have hga:=az w (cd noE);have HXA:=aa hxa;go_enter Tryz.func94,Tryz.ntmps94;go_wp2_with (refine aE rfl 35 _ rfl (w.heap.size) _ 35 (0,0) _ rfl hga aW rfl (by kernel_rfl) ?_);refine(HB.out _).mono ?_;rintro e w1 ⟨rfl,hx1⟩;have hg1:=(hx1.block _ (ae.1 hga).1).trans hga;have q1:w1.cell? ⟨w.heap.size,1,none⟩=some (.int .i64 0):=by simp[ak,hg1]
 have q3:w1.cell? ⟨w.heap.size,5,none⟩=some (.string ⟨#[]⟩):=by simp[ak,hg1]
 have q4:w1.cell? ⟨w.heap.size,6,none⟩=some (.string ⟨#[]⟩):=by simp[ak,hg1]
 go_wp2_with fail;go_ret;exact⟨rfl,Xk.Ext.trans HXA.out hx1⟩
theorem Dx(op:Int)(h1:15≤op)(h2:op≤18)(w:World):Calls ab 100 #[.int .i64 3,.int .i64 op] w λe w'=>e = .returned (.int .i64 1)/\w=w':=by
 go_enter Tryz.func100,Tryz.ntmps100;go_wp2_with fail;go_ret;exact⟨rfl,rfl⟩
theorem Dy(op:Int)(h1:1≤op)(h2:op≤14)(w:World):Calls ab 100 #[.int .i64 4,.int .i64 op] w λe w'=>e = .returned (.int .i64 2)/\w=w':=by
 go_enter Tryz.func100,Tryz.ntmps100;go_wp2_with fail;go_ret;exact⟨rfl,rfl⟩
theorem Dz(w:World):Calls ab 100 #[.int .i64 5,.int .i64 19] w λe w'=>e = .returned (.int .i64 0)/\w=w':=by
 go_enter Tryz.func100,Tryz.ntmps100;go_wp2_with fail;go_ret;exact⟨rfl,rfl⟩
theorem Bb(op:Int)(h1:20≤op)(h2:op≤23)(w:World):Calls ab 100 #[.int .i64 5,.int .i64 op] w λe w'=>e = .returned (.int .i64 1)/\w=w':=by
 have h3:(op==19)=false:=by simp;omega
 go_enter Tryz.func100,Tryz.ntmps100;go_wp2_with fail;go_ret;exact⟨rfl,rfl⟩
theorem mR{w:World}{g:Nat}{kd op vk vi:Int}{vs tb nm:P12.T}{v:Value}(h:w.heap[g]?=some (cd (au kd op vk vi vs tb nm v))):
  w.cell? ⟨g,0,none⟩=some (.int .i64 kd)/\w.cell? ⟨g,1,none⟩=some (.int .i64 op)/\w.cell? ⟨g,2,none⟩=some (.int .i64 vk)/\w.cell? ⟨g,3,none⟩=some (.int .i64 vi)/\w.cell? ⟨g,4,none⟩=some (bs vs)/\w.cell? ⟨g,5,none⟩=some (bs tb)/\
  w.cell? ⟨g,6,none⟩=some (bs nm)/\w.cell? ⟨g,7,none⟩=some (.int .i64 0)/\w.cell? ⟨g,8,none⟩=some (.int .i64 0)/\w.cell? ⟨g,9,none⟩=some v/\g<w.heap.size:=by
 refine⟨?_,?_,?_,?_,?_,?_,?_,?_,?_,?_,(ae.1 h).1⟩<;>simp[ak,h]
theorem jr:Ent 36:=⟨λ_ _=>by go_simp,by decide⟩
theorem AD(k i:Int)(s:P12.T)(h:P6.isV k i s=true)(w:World):Calls ab 36 #[.agg (au 1 0 k i s [] [] ah).toArray] w λe w'=>e = .returned (.bool true)/\Xk.Ext w w':=by
 have HI:=aa λW=>Fi k i ⟨s.toArray⟩ W;have HB:=aa λW=>qy 1 0 [] [] none 0 0 W;have hx0:Xk.Ext w ((w.alloc (cd (au 1 0 0 0 [] [] [] ah))).alloc (.cells #[.int .i64 k,.int .i64 i,bs s] 33)):=Xk.xt;have hg0:((w.alloc (cd (au 1 0 0 0 [] [] [] ah))).alloc (.cells #[.int .i64 k,.int .i64 i,bs s] 33)).heap[w.heap.size]?=some (cd (au 1 0 0 0 [] [] [] ah)):=(ao.alloc (ao.refl (w.heap.size+5) _) _).held (az w _) (by omega);have HX0:=aa hx0;have HG0:=aa hg0;clear hx0 hg0;go_enter Tryz.func36,Tryz.ntmps36;go_wp2_with fail;refine(HI.out _).mono ?_;rintro e w1 ⟨rfl,hx1⟩
 rw[show P6.isV k i (⟨s.toArray⟩:ByteArray).data.toList=true by simpa using h];have hg1:=(hx1.block _ (ae.1 HG0.out).1).trans HG0.out;have HX1:=aa (Xk.Ext.trans HX0.out hx1);clear hx1;obtain⟨z0,z1,z2,z3,z4,z5,z6,z7,z8,z9,z10⟩:=mR hg1;go_wp2_with fail;refine(HB.out _).mono ?_;rintro e w2 ⟨rfl,hx2⟩;clear z0 z1 z2 z3 z4 z5 z6 z7 z8 z9 z10;have hg2:=(hx2.block _ (ae.1 hg1).1).trans hg1;have q1:w2.cell? ⟨w.heap.size,1,none⟩=some (.int .i64 0):=by simp[ak,hg2]
 have q3:w2.cell? ⟨w.heap.size,5,none⟩=some (.string ⟨#[]⟩):=by simp[ak,hg2]
 have q4:w2.cell? ⟨w.heap.size,6,none⟩=some (.string ⟨#[]⟩):=by simp[ak,hg2]
 go_wp2_with fail;go_ret;exact⟨rfl,Xk.Ext.trans HX1.out hx2⟩
theorem AE(t n:P12.T)(h1:P12.isName n=true)(h2:P12.cf t=true)(w:World):Calls ab 36 #[.agg (au 2 0 0 0 [] t n ah).toArray] w λe w'=>e = .returned (.bool true)/\Xk.Ext w w':=by
 have HN:=aa λW=>eb n h1 W;have HM:=aa λW=>lL t h2 W;have HB:=aa λW=>qy 2 0 t n none 0 0 W;have hga:=az w (cd (au 2 0 0 0 [] t n ah));have HXA:Hid (Xk.Ext w (w.alloc (cd (au 2 0 0 0 [] t n ah)))):=aa ((aj _ _).alloc (ag _) _);go_enter Tryz.func36,Tryz.ntmps36;go_wp2_with (refine aE rfl 35 _ rfl (w.heap.size) _ 35 (0,0) _ rfl hga aW rfl (by kernel_rfl) ?_);refine(HB.out _).mono ?_;rintro e w1 ⟨rfl,hx1⟩;have hg1:=(hx1.block _ (ae.1 hga).1).trans hga;have q1:w1.cell? ⟨w.heap.size,1,none⟩=some (.int .i64 0):=by simp[ak,hg1]
 have q4:w1.cell? ⟨w.heap.size,6,none⟩=some (bs n):=by simp[ak,hg1]
 go_wp2_with fail;refine(HN.out _).mono ?_;rintro e w2 ⟨rfl,hx2⟩;have hg2:=(hx2.block _ (ae.1 hg1).1).trans hg1;have q3:w2.cell? ⟨w.heap.size,5,none⟩=some (bs t):=by simp[ak,hg2]
 have HX2:=aa (Xk.Ext.trans HXA.out (Xk.Ext.trans hx1 hx2));clear hx1 hx2 hg1 q1 q4 hga;go_wp2_with fail;refine(HM.out _).mono ?_;rintro e w3 ⟨rfl,hx3⟩;go_wp2_with fail;go_ret;exact⟨rfl,Xk.Ext.trans HX2.out hx3⟩
theorem oG(kd op:Int)(p:Option Addr)(m c:Nat)(hk:kd≠1/\kd≠2)(hA:∀W,Calls ab 100 #[.int .i64 kd,.int .i64 op] W λe w'=>e = .returned (.int .i64 m)/\W=w')(w:World)
  (hL:∀W,Xk.Ext w W->Calls ab 101 #[.slice p m c,.func (.func 36) #[] #[]] W λe w'=>e = .returned (.bool true)/\Xk.Ext W w') :
  Calls ab 36 #[.agg (au kd op 0 0 [] [] [] (.slice p m c)).toArray] w λe w'=>e = .returned (.bool true)/\Xk.Ext w w':=by
 have hga:=az w (cd (au kd op 0 0 [] [] [] (.slice p m c)));have HXA:Hid (Xk.Ext w (w.alloc (cd (au kd op 0 0 [] [] [] (.slice p m c))))):=aa ((aj _ _).alloc (ag _) _);have HA:=aa hA;have HL:=aa hL;have HB:=aa λW=>qy kd op [] [] p m c W;have k1:(kd==1)=false:=by simpa using hk.1
 have k2:(kd==2)=false:=by simpa using hk.2
 have hm:(0:Int)≤(m:Int):=by omega
 clear hA hL hk;go_enter Tryz.func36,Tryz.ntmps36;go_wp2_with fail;refine(HA.out _).mono ?_;rintro e w0 ⟨rfl,rfl⟩;go_wp2_with (refine aE rfl 35 _ rfl (w.heap.size) _ 35 (0,0) _ rfl hga aW rfl (by kernel_rfl) ?_);refine(HB.out _).mono ?_;rintro e w1 ⟨rfl,hx1⟩;have hg1:=(hx1.block _ (ae.1 hga).1).trans hga;have q3:w1.cell? ⟨w.heap.size,5,none⟩=some (.string ⟨#[]⟩):=by simp[ak,hg1]
 have q4:w1.cell? ⟨w.heap.size,6,none⟩=some (.string ⟨#[]⟩):=by simp[ak,hg1]
 have q9:w1.cell? ⟨w.heap.size,9,none⟩=some (.slice p m c):=by simp[ak,hg1]
 have HX1:=aa (Xk.Ext.trans HXA.out hx1);clear hx1 hga;go_wp2_with fail;refine(HL.out _ HX1.out).mono ?_;rintro e w2 ⟨rfl,hx2⟩;go_wp2_with fail;go_ret;exact⟨rfl,Xk.Ext.trans HX1.out hx2⟩
theorem BZ{S:Nat->Prop}{w:World}{a:P12.E}{g:Nat}{u:List Value}(hg:S g)(hr:w.rangeAt g 0 u)(hl:u.length=10)(he:aF S w a u):aH S w 10 (ez S w) [a] (.slice (some ⟨g,0,none⟩) 1 1):=by
 refine .inr ⟨g,1,[u],rfl,hg,by simp,by simp,rfl,by simpa using hl,by decide,by simpa using hr,λj x y hx hy=>?_⟩;match j,hx,hy with
 | 0,hx,hy=>cases hx;cases hy;exact he
theorem Jw{S:Nat->Prop}{w:World}{a b:P12.E}{g:Nat}{u v:List Value}(hg:S g)(hr:w.rangeAt g 0 (u++v))(hl:u.length=10)(hl2:v.length=10)(he:aF S w a u)(he2:aF S w b v):aH S w 10 (ez S w) [a,b] (.slice (some ⟨g,0,none⟩) 2 2):=by
 refine .inr ⟨g,2,[u,v],rfl,hg,by simp,by simp,rfl,?_,by decide,by simpa using hr,λj x y hx hy=>?_⟩
 ·intro x hx;simp only[aI,aC,or_false]at hx;rcases hx with rfl|rfl
  ·exact hl
  ·exact hl2
 match j,hx,hy with
 | 0,hx,hy=>cases hx;cases hy;exact he
 | 1,hx,hy=>cases hx;cases hy;exact he2
theorem aF.ik{S:Nat->Prop}{w w':World}{e:P12.E}{l:List Value}(h:aF S w e l)(hx:Xk.Ext w w'):aF S w' e l:=h.bC (λb _ hl=>hx.block b hl) (λb hb _=>hb)
theorem aH.qt{S:Nat->Prop}{w w':World}{es:List P12.E}{v:Value}(h:aH S w 10 (ez S w) es v)(hx:Xk.Ext w w'):aH S w' 10 (ez S w') es v:=h.bC (λb _ hl=>hx.block b hl) (λb hb _=>hb) (λx u hu=>aF.ik hu hx)
theorem eX:∀ (e:P12.E),P12.isE e=true->∀ (S:Nat->Prop) (w:World) (l:List Value),aF S w e l->Calls ab 36 #[.agg l.toArray] w λe w'=>e = .returned (.bool true)/\Xk.Ext w w'
 | .none,h,_,_,_,_=>by cases h
 | .val k i s,h,_,w,_,rfl=>AD k i s (by simp only[P12.isE,aq]at h;exact h.1.1) w
 | .col t n,h,_,w,_,rfl=>by
  simp only[P12.isE,aq]at h;exact AE t n h.1 h.2 w
 | .all,h,_,w,_,rfl=>oG 5 19 none 0 0 (by decide) (λW=>Dz W) w (λW hx=>ju (S:=λ_=>True) (R:=λ(_:P12.E) _=>True) (l := []) jr W (aH.nil _ _ _ _) (by simp) (λx u hx=>by simp at hx) (λx _ _ _ _ _ _ _ _ _ _ hx=>by simp at hx))
 | .una op a,h,S,w,l,he=>by
  simp only[P12.isE,aq,decide_eq_true_eq]at h;unfold aF at he;obtain⟨g,u,hg,rfl,hr,hl,he⟩:=he
  exact oG 3 op _ 1 1 (by decide) (λW=>Dx op h.1.1 h.1.2 W) w (λW hx=>ju jr W ((BZ hg hr hl he).qt hx) (by simp) (λx u _ hu=>aF.form hu)
   (λx _ _ _ _ _ _ _ _ _ _ hm hu W' hx'=>by
    simp only[bW]at hm;have hu':aF S W a _:=hm▸hu;exact eX a h.2 S W' _ (aF.ik hu' hx')))
 | .call op a,h,S,w,l,he=>by
  simp only[P12.isE,aq,decide_eq_true_eq]at h;unfold aF at he;obtain⟨g,u,hg,rfl,hr,hl,he⟩:=he
  exact oG 5 op _ 1 1 (by decide) (λW=>Bb op h.1.1 h.1.2 W) w (λW hx=>ju jr W ((BZ hg hr hl he).qt hx) (by simp) (λx u _ hu=>aF.form hu)
   (λx _ _ _ _ _ _ _ _ _ _ hm hu W' hx'=>by
    simp only[bW]at hm;have hu':aF S W a _:=hm▸hu;exact eX a h.2 S W' _ (aF.ik hu' hx')))
 | .bin op a b,h,S,w,l,he=>by
  simp only[P12.isE,aq,decide_eq_true_eq]at h;unfold aF at he;obtain⟨g,u,v,hg,rfl,hr,hl,hl2,he,he2⟩:=he
  exact oG 4 op _ 2 2 (by decide) (λW=>Dy op h.1.1.1 h.1.1.2 W) w (λW hx=>ju jr W ((Jw hg hr hl hl2 he he2).qt hx) (by simp) (λx u _ hu=>aF.form hu)
   (λx _ _ _ _ _ _ _ _ _ _ hm hu W' hx'=>by
    simp only[aI,aC,or_false]at hm;rcases hm with hm|hm
    ·have hu':aF S W a _:=hm▸hu;exact eX a h.1.2 S W' _ (aF.ik hu' hx')
    ·have hu':aF S W b _:=hm▸hu;exact eX b h.2 S W' _ (aF.ik hu' hx')))
theorem so(a b:List UInt8):(⟨a.toArray⟩++⟨b.toArray⟩:ByteArray)=⟨(a++b).toArray⟩:=by
 apply bE;simp
theorem Ec(op:Int)(h1:1≤op)(h2:op≤14)(w:World):Calls ab 117 #[.int .i64 op] w λe w'=>e = .returned (bs (P12.fb op))/\Xk.Ext w w':=by
 have hop:op=1∨op=2∨op=3∨op=4∨op=5∨op=6∨op=7∨op=8∨op=9∨op=10∨op=11∨op=12∨op=13∨op=14:=by omega
 clear h1 h2;rcases hop with rfl|rfl|rfl|rfl|rfl|rfl|rfl|rfl|rfl|rfl|rfl|rfl|rfl|rfl
 ·go_enter Tryz.func117,Tryz.ntmps117;go_wp2;go_ret;exact⟨rfl,aj _ _⟩
 ·go_enter Tryz.func117,Tryz.ntmps117;go_wp2;go_ret;exact⟨rfl,aj _ _⟩
 ·go_enter Tryz.func117,Tryz.ntmps117;go_wp2;go_ret;exact⟨rfl,aj _ _⟩
 ·go_enter Tryz.func117,Tryz.ntmps117;go_wp2;go_ret;exact⟨rfl,aj _ _⟩
 ·go_enter Tryz.func117,Tryz.ntmps117;go_wp2;go_ret;exact⟨rfl,aj _ _⟩
 ·go_enter Tryz.func117,Tryz.ntmps117;go_wp2;go_ret;exact⟨rfl,aj _ _⟩
 ·go_enter Tryz.func117,Tryz.ntmps117;go_wp2;go_ret;exact⟨rfl,aj _ _⟩
 ·go_enter Tryz.func117,Tryz.ntmps117;go_wp2;go_ret;exact⟨rfl,aj _ _⟩
 ·go_enter Tryz.func117,Tryz.ntmps117;go_wp2;go_ret;exact⟨rfl,aj _ _⟩
 ·go_enter Tryz.func117,Tryz.ntmps117;go_wp2;go_ret;exact⟨rfl,aj _ _⟩
 ·go_enter Tryz.func117,Tryz.ntmps117;go_wp2;go_ret;exact⟨rfl,aj _ _⟩
 ·go_enter Tryz.func117,Tryz.ntmps117;go_wp2;go_ret;exact⟨rfl,aj _ _⟩
 ·go_enter Tryz.func117,Tryz.ntmps117;go_wp2;go_ret;exact⟨rfl,aj _ _⟩
 ·go_enter Tryz.func117,Tryz.ntmps117;go_wp2;go_ret;exact⟨rfl,aj _ _⟩
theorem ve(op kd o2 vk vi:Int)(vs tb nm:P12.T)(p:Option Addr)(m c:Nat)(hk:kd=3∨kd=4)(w:World):Calls ab 191 #[.int .i64 op,.agg (au kd o2 vk vi vs tb nm (.slice p m c)).toArray] w λe w'=>e = .returned (.bool true)/\Xk.Ext w w':=by
 rcases hk with rfl|rfl
 ·go_enter Tryz.func191,Tryz.ntmps191;go_wp2;go_ret;exact⟨rfl,Xk.xt⟩
 ·go_enter Tryz.func191,Tryz.ntmps191;go_wp2;go_ret;exact⟨rfl,Xk.xt⟩
theorem rl(op kd o2 vk vi:Int)(vs tb nm:P12.T)(p:Option Addr)(m c:Nat)(hk:kd=2∨kd=5)(w:World):Calls ab 191 #[.int .i64 op,.agg (au kd o2 vk vi vs tb nm (.slice p m c)).toArray] w λe w'=>e = .returned (.bool false)/\Xk.Ext w w':=by
 by_cases ho:op=16
 ·subst ho;rcases hk with rfl|rfl
  ·go_enter Tryz.func191,Tryz.ntmps191;go_wp2;go_ret;exact⟨rfl,Xk.xt⟩
  ·go_enter Tryz.func191,Tryz.ntmps191;go_wp2;go_ret;exact⟨rfl,Xk.xt⟩
 ·have hob:(op==16)=false:=by simpa using ho
  rcases hk with rfl|rfl
  ·go_enter Tryz.func191,Tryz.ntmps191;go_wp2;go_ret;exact⟨rfl,Xk.xt⟩
  ·go_enter Tryz.func191,Tryz.ntmps191;go_wp2;go_ret;exact⟨rfl,Xk.xt⟩
theorem A5(op k i:Int)(s:P12.T)(w:World):Calls ab 191 #[.int .i64 op,.agg (au 1 0 k i s [] [] ah).toArray] w λe w'=>e = .returned (.bool (op==16&&k==2))/\Xk.Ext w w':=by
 cases ho:(op==16)
 ·go_enter Tryz.func191,Tryz.ntmps191;go_wp2;go_ret;exact⟨rfl,Xk.xt⟩
 ·go_enter Tryz.func191,Tryz.ntmps191;go_wp2;go_ret;exact⟨by simp,Xk.xt⟩
theorem pH(op:Int)(e:P12.E)(he:e ≠ .none)(S:Nat->Prop)(w:World)(l:List Value)(h:aF S w e l)(W:World):Calls ab 191 #[.int .i64 op,.agg l.toArray] W λr w'=>r = .returned (.bool (P12.closed op e))/\Xk.Ext W w':=by
 cases e with
 | none=>exact absurd rfl he
 | val k i s=>cases h;exact A5 op k i s W
 | col t n=>cases h;exact rl op 2 0 0 0 [] t n none 0 0 (.inl rfl) W
 | all=>cases h;exact rl op 5 19 0 0 [] [] [] none 0 0 (.inr rfl) W
 | una o a=>
  unfold aF at h;obtain⟨g,u,-,rfl,-⟩:=h;exact ve op 3 o 0 0 [] [] [] _ 1 1 (.inl rfl) W
 | call o a=>
  unfold aF at h;obtain⟨g,u,-,rfl,-⟩:=h;exact rl op 5 o 0 0 [] [] [] _ 1 1 (.inr rfl) W
 | bin o a b=>
  unfold aF at h;obtain⟨g,u,v,-,rfl,-⟩:=h;exact ve op 4 o 0 0 [] [] [] _ 2 2 (.inr rfl) W
theorem nV(op:Int)(kd o2 vk vi:Int)(vs tb nm:P12.T)(p:Option Addr)(m c:Nat)(b:Bool)(t:P12.T)(ht:t.length≤1000000)(w:World)
  (hC:∀W,Calls ab 191 #[.int .i64 op,.agg (au kd o2 vk vi vs tb nm (.slice p m c)).toArray] W λr w'=>r = .returned (.bool b)/\Xk.Ext W w')
  (hT:∀W,Xk.Ext w W->Calls ab 51 #[.agg (au kd o2 vk vi vs tb nm (.slice p m c)).toArray] W λr w'=>r = .returned (bs t)/\Xk.Ext W w') :
  Calls ab 116 #[.int .i64 op,.agg (au kd o2 vk vi vs tb nm (.slice p m c)).toArray] w λr w'=>r = .returned (bs (P12.mO b t))/\Xk.Ext w w':=by
 have hga:=az w (cd (au kd o2 vk vi vs tb nm (.slice p m c)));have HXA:Hid (Xk.Ext w (w.alloc (cd (au kd o2 vk vi vs tb nm (.slice p m c))))):=aa ((aj _ _).alloc (ag _) _);have HC:=aa hC;have HT:=aa hT;clear hC hT
 cases b
 ·go_enter Tryz.func116,Tryz.ntmps116;go_wp2_with (refine aE rfl 35 _ rfl (w.heap.size) _ 35 (0,0) _ rfl hga aW rfl (by kernel_rfl) ?_);refine(HC.out _).mono ?_;rintro e w1 ⟨rfl,hx1⟩;have hg1:=(hx1.block _ (ae.1 hga).1).trans hga;have HX1:=aa (Xk.Ext.trans HXA.out hx1);clear hx1 hga;go_wp2_with (refine aE rfl 35 _ rfl (w.heap.size) _ 35 (0,0) _ rfl hg1 aW rfl (by kernel_rfl) ?_);refine(HT.out _ HX1.out).mono ?_;rintro e w2 ⟨rfl,hx2⟩;go_wp2_with fail;go_ret;exact⟨rfl,Xk.Ext.trans HX1.out hx2⟩
 ·go_enter Tryz.func116,Tryz.ntmps116;go_wp2_with (refine aE rfl 35 _ rfl (w.heap.size) _ 35 (0,0) _ rfl hga aW rfl (by kernel_rfl) ?_);refine(HC.out _).mono ?_;rintro e w1 ⟨rfl,hx1⟩;have hg1:=(hx1.block _ (ae.1 hga).1).trans hga;have HX1:=aa (Xk.Ext.trans HXA.out hx1);clear hx1 hga;go_wp2_with (refine aE rfl 35 _ rfl (w.heap.size) _ 35 (0,0) _ rfl hg1 aW rfl (by kernel_rfl) ?_);refine(HT.out _ HX1.out).mono ?_;rintro e w2 ⟨rfl,hx2⟩;go_wp2_with fail;go_ret;refine⟨?_,Xk.Ext.trans HX1.out hx2⟩
  have e:(⟨#[40]⟩++⟨t.toArray⟩++⟨#[41]⟩:ByteArray)=⟨(P12.mO true t).toArray⟩:=by
   apply bE;simp[P12.mO]
  exact congrArg (λx=>aP (.string x)) e
theorem DY(k i:Int)(s:P12.T)(h0 : -9223372036854775808≤i)(h1:i≤9223372036854775807)(w:World)(hE:Env w):Calls ab 51 #[.agg (au 1 0 k i s [] [] ah).toArray] w λr w'=>r = .returned (bs (P6.fU k i s))/\Xk.Ext w w':=by
 have HXA:Hid (Xk.Ext w (w.alloc (cd (au 1 0 k i s [] [] ah)))):=aa ((aj _ _).alloc (ag _) _);have HP:=aa (CL k i ⟨s.toArray⟩ h0 h1 (w.alloc (cd (au 1 0 k i s [] [] ah))) (hE.ext HXA.out));clear hE;go_enter Tryz.func51,Tryz.ntmps51;go_wp2_with fail;refine HP.out.mono ?_;rintro e w1 ⟨rfl,hx1⟩;go_wp2_with fail;go_ret;exact⟨by simp,Xk.Ext.trans HXA.out hx1⟩
theorem D0(t n:P12.T)(ht:t.length≤1000000)(hn:n.length≤1000000)(w:World):Calls ab 51 #[.agg (au 2 0 0 0 [] t n ah).toArray] w λr w'=>r = .returned (bs (P12.text (.col t n)))/\Xk.Ext w w':=by
 cases hte:t.isEmpty
 ·have hne:t ≠ []:=λe=>by rw[e]at hte;cases hte
  have e1:(⟨t.toArray⟩++⟨#[46]⟩++⟨n.toArray⟩:ByteArray)=⟨(P12.text (.col t n)).toArray⟩:=by
   apply bE;simp[P12.text,hne]
  have HE:=aa e1
  have hlt:({ data:=t.toArray }++ { data := #[46] }:ByteArray).size=t.length+1:=by
   rw[ByteArray.size_append];simp[ByteArray.size]
  clear e1 hne;go_enter Tryz.func51,Tryz.ntmps51;go_wp2_with fail;go_ret;exact⟨congrArg (λx=>aP (.string x)) HE.out,Xk.xt⟩
 ·have hne:t = []:=List.isEmpty_iff.1 hte;go_enter Tryz.func51,Tryz.ntmps51;go_wp2_with fail;go_ret;exact⟨by simp[P12.text,hne],Xk.xt⟩
theorem D3(w:World):Calls ab 51 #[.agg (au 5 19 0 0 [] [] [] ah).toArray] w λr w'=>r = .returned (bs (P12.text .all))/\Xk.Ext w w':=by
 go_enter Tryz.func51,Tryz.ntmps51;go_wp2_with fail;go_ret;exact⟨rfl,Xk.xt⟩
theorem DZ(op:Int)(g:Nat)(kd o2 vk vi:Int)(vs tb nm:P12.T)(p:Option Addr)(m c:Nat)(t:P12.T)(ht:t.length≤1000000)(h1:15≤op)(h2:op≤18)(w:World)
  (hr:w.rangeAt g 0 (au kd o2 vk vi vs tb nm (.slice p m c)))
  (hA:∀W,Xk.Ext w W->Calls ab 116 #[.int .i64 op,.agg (au kd o2 vk vi vs tb nm (.slice p m c)).toArray] W λr w'=>r = .returned (bs t)/\Xk.Ext W w') :
  Calls ab 51 #[.agg (au 3 op 0 0 [] [] [] (.slice (some ⟨g,0,none⟩) 1 1)).toArray] w λr w'=>r = .returned (bs (if op=15 then[78,79,84,32]++t else if op=16 then[45,32]++t else if op=17 then t ++ [32,73,83,32,78,85,76,76]else t ++ [32,73,83,32,78,79,84,32,78,85,76,76]))/\Xk.Ext w w':=by
 have hga:=az w (cd (au 3 op 0 0 [] [] [] (.slice (some ⟨g,0,none⟩) 1 1)));have HXA:Hid (Xk.Ext w (w.alloc (cd (au 3 op 0 0 [] [] [] (.slice (some ⟨g,0,none⟩) 1 1))))):=aa ((aj _ _).alloc (ag _) _);have lg:g<w.heap.size:=al _ _ (hr 0 _ rfl)
 have hcell:∀j v,(au kd o2 vk vi vs tb nm (.slice p m c))[j]?=some v->(w.alloc (cd (au 3 op 0 0 [] [] [] (.slice (some ⟨g,0,none⟩) 1 1)))).cell? ⟨g,j,none⟩=some v:=λj v hj=>by
  have:=Xk.bn HXA.out (hr j v hj);rwa [fe]at this
 have u0:=hcell 0 _ rfl;have u1:=hcell 1 _ rfl;have u2:=hcell 2 _ rfl;have u3:=hcell 3 _ rfl;have u4:=hcell 4 _ rfl;have u5:=hcell 5 _ rfl;have u6:=hcell 6 _ rfl;have u7:=hcell 7 _ rfl;have u8:=hcell 8 _ rfl;have u9:=hcell 9 _ rfl;obtain⟨z0,z1,z2,z3,z4,z5,z6,z7,z8,z9,z10⟩:=mR hga;have lg2:g<(w.alloc (cd (au 3 op 0 0 [] [] [] (.slice (some ⟨g,0,none⟩) 1 1)))).heap.size:=by rw[af];omega
 have HA:=aa λW (hx:Xk.Ext (w.alloc (cd (au 3 op 0 0 [] [] [] (.slice (some ⟨g,0,none⟩) 1 1)))) W)=>hA W (Xk.Ext.trans HXA.out hx);clear hcell hr hA;have hop:op=15∨op=16∨op=17∨op=18:=by omega
 clear h1 h2 hga;rcases hop with rfl|rfl|rfl|rfl
 ·have HQ:Hid ((⟨#[78,79,84,32]⟩++⟨t.toArray⟩:ByteArray)=⟨([78,79,84,32]++t).toArray⟩):=aa (so _ _);have hsum:¬ 9223372036854775807<4+t.length:=by omega
  go_enter Tryz.func51,Tryz.ntmps51;go_wp2_with fail;refine Xk.reg 8 (Xk.w1 HA.out λp=>?_);go_wp2_with fail;go_ret;exact⟨congrArg (λx=>aP (.string x)) HQ.out,Xk.Ext.trans HXA.out Xk.xt⟩
 ·have HQ:Hid ((⟨#[45,32]⟩++⟨t.toArray⟩:ByteArray)=⟨([45,32]++t).toArray⟩):=aa (so _ _);have hsum:¬ 9223372036854775807<2+t.length:=by omega
  go_enter Tryz.func51,Tryz.ntmps51;go_wp2_with fail;refine Xk.reg 8 (Xk.w1 HA.out λp=>?_);go_wp2_with fail;go_ret;exact⟨congrArg (λx=>aP (.string x)) HQ.out,Xk.Ext.trans HXA.out Xk.xt⟩
 ·have HQ:Hid ((⟨t.toArray⟩++⟨#[32,73,83,32,78,85,76,76]⟩:ByteArray)=⟨(t ++ [32,73,83,32,78,85,76,76]).toArray⟩):=aa (so _ _);have hsum:¬ 9223372036854775807<t.length+8:=by omega
  go_enter Tryz.func51,Tryz.ntmps51;go_wp2_with fail;refine Xk.reg 8 (Xk.w1 HA.out λp=>?_);go_wp2_with fail;go_ret;exact⟨congrArg (λx=>aP (.string x)) HQ.out,Xk.Ext.trans HXA.out Xk.xt⟩
 ·have HQ:Hid ((⟨t.toArray⟩++⟨#[32,73,83,32,78,79,84,32,78,85,76,76]⟩:ByteArray)=⟨(t ++ [32,73,83,32,78,79,84,32,78,85,76,76]).toArray⟩):=aa (so _ _);have hsum:¬ 9223372036854775807<t.length+12:=by omega
  go_enter Tryz.func51,Tryz.ntmps51;go_wp2_with fail;refine Xk.reg 8 (Xk.w1 HA.out λp=>?_);go_wp2_with fail;go_ret;exact⟨congrArg (λx=>aP (.string x)) HQ.out,Xk.Ext.trans HXA.out Xk.xt⟩
theorem D1(op:Int)(g:Nat)(kd o2 vk vi:Int)(vs tb nm:P12.T)(p:Option Addr)(m c:Nat)(kd' o2' vk' vi':Int)(vs' tb' nm':P12.T)(p':Option Addr)(m' c':Nat)(t sg t':P12.T)(ht:t.length≤1000000)(ht':t'.length≤1000000)(hsg:sg.length≤1000)(w:World)
  (hr:w.rangeAt g 0 (au kd o2 vk vi vs tb nm (.slice p m c)++au kd' o2' vk' vi' vs' tb' nm' (.slice p' m' c')))
  (hS:∀W,Calls ab 117 #[.int .i64 op] W λr w'=>r = .returned (bs sg)/\Xk.Ext W w')
  (hA:∀W,Xk.Ext w W->Calls ab 116 #[.int .i64 op,.agg (au kd o2 vk vi vs tb nm (.slice p m c)).toArray] W λr w'=>r = .returned (bs t)/\Xk.Ext W w')
  (hB:∀W,Xk.Ext w W->Calls ab 116 #[.int .i64 op,.agg (au kd' o2' vk' vi' vs' tb' nm' (.slice p' m' c')).toArray] W λr w'=>r = .returned (bs t')/\Xk.Ext W w') :
  Calls ab 51 #[.agg (au 4 op 0 0 [] [] [] (.slice (some ⟨g,0,none⟩) 2 2)).toArray] w λr w'=>r = .returned (bs (t ++ [32]++sg ++ [32]++t'))/\Xk.Ext w w':=by
 have hga:=az w (cd (au 4 op 0 0 [] [] [] (.slice (some ⟨g,0,none⟩) 2 2)));have HXA:Hid (Xk.Ext w (w.alloc (cd (au 4 op 0 0 [] [] [] (.slice (some ⟨g,0,none⟩) 2 2))))):=aa ((aj _ _).alloc (ag _) _);have lg:g<w.heap.size:=al _ _ (hr 0 _ rfl)
 have hcell:∀j v,(au kd o2 vk vi vs tb nm (.slice p m c)++au kd' o2' vk' vi' vs' tb' nm' (.slice p' m' c'))[j]?=some v->(w.alloc (cd (au 4 op 0 0 [] [] [] (.slice (some ⟨g,0,none⟩) 2 2)))).cell? ⟨g,j,none⟩=some v:=λj v hj=>by
  have:=Xk.bn HXA.out (hr j v hj);rwa [fe]at this
 have u0:=hcell 0 _ rfl;have u1:=hcell 1 _ rfl;have u2:=hcell 2 _ rfl;have u3:=hcell 3 _ rfl;have u4:=hcell 4 _ rfl;have u5:=hcell 5 _ rfl;have u6:=hcell 6 _ rfl;have u7:=hcell 7 _ rfl;have u8:=hcell 8 _ rfl;have u9:=hcell 9 _ rfl;have v0:=hcell 10 _ rfl;have v1:=hcell 11 _ rfl;have v2:=hcell 12 _ rfl;have v3:=hcell 13 _ rfl;have v4:=hcell 14 _ rfl;have v5:=hcell 15 _ rfl;have v6:=hcell 16 _ rfl;have v7:=hcell 17 _ rfl;have v8:=hcell 18 _ rfl;have v9:=hcell 19 _ rfl;obtain⟨z0,z1,z2,z3,z4,z5,z6,z7,z8,z9,z10⟩:=mR hga
 have lg2:g<(w.alloc (cd (au 4 op 0 0 [] [] [] (.slice (some ⟨g,0,none⟩) 2 2)))).heap.size:=by rw[af];omega
 have HA:=aa λW (hx:Xk.Ext (w.alloc (cd (au 4 op 0 0 [] [] [] (.slice (some ⟨g,0,none⟩) 2 2)))) W)=>hA W (Xk.Ext.trans HXA.out hx);have HB:=aa λW (hx:Xk.Ext (w.alloc (cd (au 4 op 0 0 [] [] [] (.slice (some ⟨g,0,none⟩) 2 2)))) W)=>hB W (Xk.Ext.trans HXA.out hx);have HS:=aa hS;clear hcell hr hA hB hS hga;have HQ:Hid ((⟨t.toArray⟩++⟨#[32]⟩++⟨sg.toArray⟩++⟨#[32]⟩++⟨t'.toArray⟩:ByteArray)=⟨(t ++ [32]++sg ++ [32]++t').toArray⟩):=aa (by apply bE;simp);have n1:¬ 9223372036854775807<t.length+1:=by omega
 have n2:¬ 9223372036854775807<t.length+1+sg.length:=by omega
 have n3:¬ 9223372036854775807<t.length+1+sg.length+1:=by omega
 have n4:¬ 9223372036854775807<t.length+1+sg.length+1+t'.length:=by omega
 go_enter Tryz.func51,Tryz.ntmps51;go_wp2_with fail;refine Xk.reg 21 (Xk.w3 HA.out HB.out HS.out λp=>?_);go_wp2_with fail;go_ret;exact⟨congrArg (λx=>aP (.string x)) HQ.out,Xk.Ext.trans HXA.out Xk.xt⟩
theorem B8(op:Int)(g:Nat)(kd o2 vk vi:Int)(vs tb nm:P12.T)(p:Option Addr)(m c:Nat)(t:P12.T)(ht:t.length≤1000000)(h1:20≤op)(h2:op≤23)(w:World)
  (hr:w.rangeAt g 0 (au kd o2 vk vi vs tb nm (.slice p m c)))
  (hT:∀W,Xk.Ext w W->Calls ab 51 #[.agg (au kd o2 vk vi vs tb nm (.slice p m c)).toArray] W λr w'=>r = .returned (bs t)/\Xk.Ext W w') :
  Calls ab 51 #[.agg (au 5 op 0 0 [] [] [] (.slice (some ⟨g,0,none⟩) 1 1)).toArray] w λr w'=>r = .returned (bs (P12.eL op ++ [40]++t ++ [41]))/\Xk.Ext w w':=by
 have HXA:Hid (Xk.Ext w (w.alloc (cd (au 5 op 0 0 [] [] [] (.slice (some ⟨g,0,none⟩) 1 1))))):=aa ((aj _ _).alloc (ag _) _);have lg:g<w.heap.size:=al _ _ (hr 0 _ rfl);have HR:=aa (cI hr (HXA.out.block g lg));have HT:=aa λW (hx:Xk.Ext (w.alloc (cd (au 5 op 0 0 [] [] [] (.slice (some ⟨g,0,none⟩) 1 1)))) W)=>hT W (Xk.Ext.trans HXA.out hx);have hop:op=20∨op=21∨op=22∨op=23:=by omega
 clear h1 h2 hr hT;rcases hop with rfl|rfl|rfl|rfl
 ·have HQ:Hid ((⟨#[67,79,85,78,84]⟩++⟨#[40]⟩++⟨t.toArray⟩++⟨#[41]⟩:ByteArray)=⟨(P12.eL 20 ++ [40]++t ++ [41]).toArray⟩):=aa (by apply bE;simp[P12.eL]);go_enter Tryz.func51,Tryz.ntmps51;go_wp2_with (first|(refine wpList_load_mid rfl 35 _ rfl g 0 rfl _ _ HR.out aW rfl (by kernel_rfl) ?_));refine(HT.out _ Xk.xt).mono ?_;rintro e w1 ⟨rfl,hx1⟩;go_wp2_with fail;go_ret;exact⟨congrArg (λx=>aP (.string x)) HQ.out,Xk.Ext.trans HXA.out hx1⟩
 ·have HQ:Hid ((⟨#[83,85,77]⟩++⟨#[40]⟩++⟨t.toArray⟩++⟨#[41]⟩:ByteArray)=⟨(P12.eL 21 ++ [40]++t ++ [41]).toArray⟩):=aa (by apply bE;simp[P12.eL]);go_enter Tryz.func51,Tryz.ntmps51;go_wp2_with (first|(refine wpList_load_mid rfl 35 _ rfl g 0 rfl _ _ HR.out aW rfl (by kernel_rfl) ?_));refine(HT.out _ Xk.xt).mono ?_;rintro e w1 ⟨rfl,hx1⟩;go_wp2_with fail;go_ret;exact⟨congrArg (λx=>aP (.string x)) HQ.out,Xk.Ext.trans HXA.out hx1⟩
 ·have HQ:Hid ((⟨#[77,73,78]⟩++⟨#[40]⟩++⟨t.toArray⟩++⟨#[41]⟩:ByteArray)=⟨(P12.eL 22 ++ [40]++t ++ [41]).toArray⟩):=aa (by apply bE;simp[P12.eL]);go_enter Tryz.func51,Tryz.ntmps51;go_wp2_with (first|(refine wpList_load_mid rfl 35 _ rfl g 0 rfl _ _ HR.out aW rfl (by kernel_rfl) ?_));refine(HT.out _ Xk.xt).mono ?_;rintro e w1 ⟨rfl,hx1⟩;go_wp2_with fail;go_ret;exact⟨congrArg (λx=>aP (.string x)) HQ.out,Xk.Ext.trans HXA.out hx1⟩
 ·have HQ:Hid ((⟨#[77,65,88]⟩++⟨#[40]⟩++⟨t.toArray⟩++⟨#[41]⟩:ByteArray)=⟨(P12.eL 23 ++ [40]++t ++ [41]).toArray⟩):=aa (by apply bE;simp[P12.eL]);go_enter Tryz.func51,Tryz.ntmps51;go_wp2_with (first|(refine wpList_load_mid rfl 35 _ rfl g 0 rfl _ _ HR.out aW rfl (by kernel_rfl) ?_));refine(HT.out _ Xk.xt).mono ?_;rintro e w1 ⟨rfl,hx1⟩;go_wp2_with fail;go_ret;exact⟨congrArg (λx=>aP (.string x)) HQ.out,Xk.Ext.trans HXA.out hx1⟩
theorem kL{b:Bool}{t:P12.T}:t.length≤(P12.mO b t).length:=by
 cases b<;>simp[P12.mO];omega
theorem tC{e:P12.E}(h:P12.isE e=true):e ≠ .none:=λh2=>by rw[h2]at h;cases h
theorem lV:∀ (e:P12.E),P12.isE e=true->(P12.text e).length≤1000000->∀ (S:Nat->Prop) (w:World) (l:List Value),Env w->aF S w e l->Calls ab 51 #[.agg l.toArray] w λr w'=>r = .returned (bs (P12.text e))/\Xk.Ext w w'
 | .none,h,_,_,_,_,_,_=>by cases h
 | .val k i s,h,_,_,w,_,hE,rfl=>by
  simp only[P12.isE,aq,decide_eq_true_eq]at h;exact DY k i s h.1.2 h.2 w hE
 | .col t n,h,hb,_,w,_,hE,rfl=>D0 t n (by unfold P12.text at hb;split at hb<;>simp_all<;>omega) (by unfold P12.text at hb;split at hb<;>simp_all<;>omega) w
 | .all,h,_,_,w,_,hE,rfl=>D3 w
 | .una op a,h,hb,S,w,l,hE,he=>by
  simp only[P12.isE,aq,decide_eq_true_eq]at h;unfold aF at he;obtain⟨g,u,hg,rfl,hr,hl,he⟩:=he
  have hlen:(P12.mO (P12.closed op a) (P12.text a)).length≤1000000:=by
   unfold P12.text at hb;split at hb
   ·simp at hb;omega
   ·split at hb
    ·simp at hb;omega
    ·split at hb<;>simp at hb<;>omega
  have hlt:=bH (kL (b:=P12.closed op a) (t:=P12.text a)) hlen;obtain⟨kd,o2,vk,vi,vs,tb,nm,p,m,c,rfl⟩:=he.form
  exact DZ op g kd o2 vk vi vs tb nm p m c _ hlen h.1.1 h.1.2 w hr (λW hx=>nV op kd o2 vk vi vs tb nm p m c (P12.closed op a) (P12.text a) hlt W
   (λW2=>pH op a (tC h.2) S w _ he W2) (λW2 hx2=>lV a h.2 hlt S W2 _ (hE.ext (Xk.Ext.trans hx hx2)) (aF.ik he (Xk.Ext.trans hx hx2))))
 | .call op a,h,hb,S,w,l,hE,he=>by
  simp only[P12.isE,aq,decide_eq_true_eq]at h;unfold aF at he;obtain⟨g,u,hg,rfl,hr,hl,he⟩:=he;have hlt:(P12.text a).length≤1000000:=by unfold P12.text at hb;simp at hb;omega
  obtain⟨kd,o2,vk,vi,vs,tb,nm,p,m,c,rfl⟩:=he.form;exact B8 op g kd o2 vk vi vs tb nm p m c _ hlt h.1.1 h.1.2 w hr (λW hx=>lV a h.2 hlt S W _ (hE.ext hx) (aF.ik he hx))
 | .bin op a b,h,hb,S,w,l,hE,he=>by
  simp only[P12.isE,aq,decide_eq_true_eq]at h;unfold aF at he;obtain⟨g,u,v,hg,rfl,hr,hl,hl2,he,he2⟩:=he;have hla:(P12.mO (P12.closed op a) (P12.text a)).length≤1000000:=by unfold P12.text at hb;simp at hb;omega
  have hlb:(P12.mO (P12.closed op b) (P12.text b)).length≤1000000:=by unfold P12.text at hb;simp at hb;omega
  have hsg:(P12.fb op).length≤1000:=by
   have hop:op=1∨op=2∨op=3∨op=4∨op=5∨op=6∨op=7∨op=8∨op=9∨op=10∨op=11∨op=12∨op=13∨op=14:=by omega
   rcases hop with rfl|rfl|rfl|rfl|rfl|rfl|rfl|rfl|rfl|rfl|rfl|rfl|rfl|rfl<;>decide
  have hlta:=bH (kL (b:=P12.closed op a) (t:=P12.text a)) hla;have hltb:=bH (kL (b:=P12.closed op b) (t:=P12.text b)) hlb;obtain⟨kd,o2,vk,vi,vs,tb,nm,p,m,c,rfl⟩:=he.form;obtain⟨kd',o2',vk',vi',vs',tb',nm',p',m',c',rfl⟩:=he2.form
  exact D1 op g kd o2 vk vi vs tb nm p m c kd' o2' vk' vi' vs' tb' nm' p' m' c' _ (P12.fb op) _ hla hlb hsg w hr (λW=>Ec op h.1.1.1 h.1.1.2 W)
   (λW hx=>nV op kd o2 vk vi vs tb nm p m c (P12.closed op a) (P12.text a) hlta W (λW2=>pH op a (tC h.1.2) S w _ he W2) (λW2 hx2=>lV a h.1.2 hlta S W2 _ (hE.ext (Xk.Ext.trans hx hx2)) (aF.ik he (Xk.Ext.trans hx hx2))))
   (λW hx=>nV op kd' o2' vk' vi' vs' tb' nm' p' m' c' (P12.closed op b) (P12.text b) hltb W (λW2=>pH op b (tC h.2) S w _ he2 W2) (λW2 hx2=>lV b h.2 hltb S W2 _ (hE.ext (Xk.Ext.trans hx hx2)) (aF.ik he2 (Xk.Ext.trans hx hx2))))
theorem Tryz.iG:(ab.info? 9).map (λi=>(i.zero,i.size,i.bytes))=some (some (.string ⟨#[]⟩),1,16):=by kernel_rfl
theorem gY{w:World}{B:Nat}{e:TypeId}{size n:Nat}{v:Value}{xs:List Value}(h:w.ownsRow B e size v n xs):∃p c,v = .slice p n c:=by
 rcases h.2 with⟨rfl,rfl⟩|⟨g,cap,cur,rfl,-⟩
 ·exact⟨_,_,rfl⟩
 ·exact⟨_,_,rfl⟩
theorem fI{α β:Type}{l:List α}{q:Nat}{x:α}(h:l[q]?=some x)(f:α->β):(l.take q).map f ++ [f x]=(l.take (q+1)).map f:=by
 rw[List.take_add_one,h];simp
theorem mN(v:Value)(B:Nat)(l:List P12.T)(w:World)(h:w.ownsRow B 9 1 v l.length (l.map bs))(hn:l.length≤1000000)(hj:(P12.join l).length≤140737488355328):
  Calls ab 114 #[v,.string ⟨#[44,32]⟩] w λe w'=>e = .returned (bs (P12.join l))/\Xk.Ext w w':=by
 rcases h.2 with⟨rfl,h0⟩|⟨g,cap,cur,rfl,hB,hg,hcap,hmx,hcs,htk⟩
 ·have hl0:l = []:=mr h0;subst hl0;exact(Tryz.strings_Join_none none 0 _ w).mono λe w' ⟨he,hw⟩=>⟨he,by rw[hw];exact aj _ _⟩
 ·cases hl:l with
  | nil=>
   exact(Tryz.strings_Join_none _ _ _ w).mono λe w' ⟨he,hw⟩=>⟨he,by rw[hw];exact aj _ _⟩
  | cons x r=>
   rw[← hl]
   have hm:(l.map λy=>(⟨y.toArray⟩:ByteArray)).map (·.data.toList)=l:=by
    rw[iq];exact(List.map_congr_left (λy _=>by simp)).trans (List.map_id _)
   have hlt:=(ae.1 hg).1
   have hJ:=Tryz.strings_Join g 0 cap (l.map λy=>⟨y.toArray⟩) ⟨#[44,32]⟩ w (λj y hj=>by
    rw[jc,fx]at hj;obtain⟨z,hz,rfl⟩:=hj;have hc:(cur.toList.take (l.length*1))[j]?=some (bs z):=by rw[htk,jc,hz];rfl
    rw[fp]at hc;split at hc
    ·simp only[ak,hg,fe,Option.isSome_none,aV,if_false];simpa using hc
    ·cases hc) hlt (by rw[cH];omega) (by rw[cH];exact hcap) (by rw[hm];exact hj)
   rw[hm,cH]at hJ;exact hJ
theorem Ii{α:Type}{FI:FuncId}(hent:Ent FI){S:Nat->Prop}{R:α->List Value->Prop}{l:List α}{v:Value}(f:α->P12.T)(w:World)(h:aH S w 10 R l v)(hl:l.length≤100000)(hj:(P12.join (l.map f)).length≤1000000000)(hform:∀x u,x∈l->R x u->∃kd op vk vi:Int,∃vs tb nm:P12.T,∃pp:Option Addr,∃pm pc:Nat, u=au kd op vk vi vs tb nm (.slice pp pm pc))
  (hF:∀x (kd op vk vi:Int) (vs tb nm:P12.T) (pp:Option Addr) (pm pc:Nat),x∈l->R x (au kd op vk vi vs tb nm (.slice pp pm pc))->∀W,Xk.Ext w W->Calls ab FI #[.agg (au kd op vk vi vs tb nm (.slice pp pm pc)).toArray] W λe w'=>e = .returned (bs (f x))/\Xk.Ext W w') :
  Calls ab 50 #[v,.func (.func FI) #[] #[]] w λe w'=>e = .returned (bs (P12.join (l.map f)))/\Xk.Ext w w':=by
 have hcf:=hent.run;have hci:=hent.no;have HF:=aa hF;have HS:=aa h;have HFM:=aa hform;have HJ:=aa hj;obtain⟨p,c,rfl⟩:=h.len;obtain⟨i0,hi,hz0,hz1,hz2⟩:=du Tryz.iG;have Hi:=aa hi;have Hz0:=aa hz0;have Hz1:=aa hz1;have Hz2:=aa hz2;clear hi hz0 hz1 hz2;clear hF hform h hj;go_enter Tryz.func50,Tryz.ntmps50;go_wp2_with fail;go_loopw [5,10] (λs x wr=>∃q:Nat,q≤l.length/\x = .int .i64 q/\Xk.Ext w wr/\wr.ownsRow w.heap.size 9 1 s q ((l.take q).map λy=>bs (f y))) (λ_ x _=>l.length-(intOf x).toNat)
 case atStart=>exact⟨0,by omega,rfl,aj _ _,gL _ _ _ _⟩
 case round=>
  obtain⟨q,hq,rfl,hx,ho⟩:=hrel;obtain⟨ps,cs,rfl⟩:=gY ho;have HX:=aa hx;have HO:=aa ho;have hws:=hx.size;clear hx ho;by_cases hlt:q<l.length
  ·obtain⟨g,rfl⟩:=HS.out.root (by omega);obtain⟨-,-,he⟩:=HS.out.elem;have hget:l[q]?=some l[q]:=aU hlt;obtain⟨u,hu,-,hr⟩:=he q _ hget;have hmem:=cp hlt;obtain⟨kd,op,vk,vi,vs,tb,nm,pp,pm,pc,rfl⟩:=HFM.out _ _ hmem hu;have hg:=al _ _ (hr 0 _ rfl);have HRJ:=aa (cI hr (HX.out.block g hg));have hwg:g<wr.heap.size:=aD hg HX.out.size;have hlb:(q:Int)<(l.length:Int):=by omega
   
   have hxb:Xk.Ext wr (wr.alloc (.cells (au kd op vk vi vs tb nm (.slice pp pm pc)).toArray 35)):=(aj _ _).alloc (ag _) _;have HC:=aa (HF.out _ kd op vk vi vs tb nm pp pm pc hmem hu (wr.alloc (.cells (au kd op vk vi vs tb nm (.slice pp pm pc)).toArray 35)) (Xk.Ext.trans HX.out hxb));have HXB:=aa hxb;have HGET:=aa hget;clear hr hu he hxb hget;generalize l[q]=x at *
   go_wp2_with (first|(refine wpList_load_mid rfl 35 _ rfl g (q*10) rfl _ _ HRJ.out aW rfl (by kernel_rfl) ?_)|(refine aE rfl 35 _ rfl (wr.heap.size) _ 35 (0,0) _ rfl (az wr _) aW rfl (by kernel_rfl) ?_));refine HC.out.mono ?_;rintro e wf ⟨rfl,hx'⟩;have hxf:=Xk.Ext.trans HXB.out hx';have hlf:=hxf.size;have HOF:=aa (cF HO.out (λb hb=>hxf.block b (HO.out.lt b hb).2));have HXF:=aa (Xk.Ext.trans HX.out hxf);clear hx' hxf
   go_wp2_with (at_builtin;refine Xo.bS w.heap.size rfl _ _ 29 rfl 9 i0 _ 1 16 cN Hi.out Hz0.out Hz1.out Hz2.out rfl (by decide) (.slice ps q cs) q _ rfl (cF HOF.out (λb hb=>(show Xk.Ext wf (wf.alloc (.cells #[bs (f x)] 9))from(aj _ _).alloc (ag _) _).block b (HOF.out.lt b hb).2)) wf.heap.size 0 1 1 [bs (f x)] rfl (by decide) rfl (cV wf _ _ rfl) (dt (by kernel_rfl)) (by omega) (by rw[af];omega) ?_;intro v' w7 ho' hg' hk');have hx7:Xk.Ext w w7:=eg (Xk.Ext.trans HXF.out ((aj _ _).alloc (ag _) _)) hg' (by rw[af];omega) (λj hj=>(HOF.out.lt j hj).1);have HX7:=aa hx7
   have HO7:Hid (w7.ownsRow w.heap.size 9 1 v' (q+1) ((l.take (q+1)).map λy=>bs (f y))):=aa (by rw[← fI HGET.out];exact ho');clear ho' hg' hk' hx7;go_wp2_with fail;go_roundw
   case rel=>exact⟨q+1,by omega,by go_num,HX7.out,HO7.out⟩
   case measure=>simp[intOf];omega
  ·have hlb:¬ (q:Int)<(l.length:Int):=by omega
   obtain rfl:q=l.length:=by omega
   have HJN:=aa (mN (.slice ps l.length cs) w.heap.size (l.map f) wr (by have:=HO.out;rw[fH]at this;rw[cH,iq];exact this) (by rw[cH];omega) (by have:=HJ.out;omega));go_wp2_with fail;refine HJN.out.mono ?_;rintro e wf ⟨rfl,hx'⟩;go_wp2_with fail;go_ret;exact⟨rfl,Xk.Ext.trans HX.out hx'⟩
theorem JJ{α:Type}{FI:FuncId}(hent:Ent FI){S:Nat->Prop}{R:α->List Value->Prop}{l:List α}{v:Value}(f:α->P12.T)(w:World)(h:aH S w 1 R l v)(hl:l.length≤100000)(hj:(P12.join (l.map f)).length≤1000000000)(hform:∀x u,x∈l->R x u->∃a:P12.T, u = [bs a])
  (hF:∀x (a:P12.T),x∈l->R x ([bs a])->∀W,Xk.Ext w W->Calls ab FI #[bs a] W λe w'=>e = .returned (bs (f x))/\Xk.Ext W w') :
  Calls ab 45 #[v,.func (.func FI) #[] #[]] w λe w'=>e = .returned (bs (P12.join (l.map f)))/\Xk.Ext w w':=by
 have hcf:=hent.run;have hci:=hent.no;have HF:=aa hF;have HS:=aa h;have HFM:=aa hform;have HJ:=aa hj;obtain⟨p,c,rfl⟩:=h.len;obtain⟨i0,hi,hz0,hz1,hz2⟩:=du Tryz.iG;have Hi:=aa hi;have Hz0:=aa hz0;have Hz1:=aa hz1;have Hz2:=aa hz2;clear hi hz0 hz1 hz2;clear hF hform h hj;go_enter Tryz.func45,Tryz.ntmps45;go_wp2_with fail;go_loopw [5,10] (λs x wr=>∃q:Nat,q≤l.length/\x = .int .i64 q/\Xk.Ext w wr/\wr.ownsRow w.heap.size 9 1 s q ((l.take q).map λy=>bs (f y))) (λ_ x _=>l.length-(intOf x).toNat)
 case atStart=>exact⟨0,by omega,rfl,aj _ _,gL _ _ _ _⟩
 case round=>
  obtain⟨q,hq,rfl,hx,ho⟩:=hrel;obtain⟨ps,cs,rfl⟩:=gY ho;have HX:=aa hx;have HO:=aa ho;have hws:=hx.size;clear hx ho;by_cases hlt:q<l.length
  ·obtain⟨g,rfl⟩:=HS.out.root (by omega);obtain⟨-,-,he⟩:=HS.out.elem;have hget:l[q]?=some l[q]:=aU hlt;obtain⟨u,hu,-,hr⟩:=he q _ hget;have hmem:=cp hlt;obtain⟨a,rfl⟩:=HFM.out _ _ hmem hu;have hg:=al _ _ (hr 0 _ rfl);have HRJ:=aa (cI hr (HX.out.block g hg));have hwg:g<wr.heap.size:=aD hg HX.out.size;have hlb:(q:Int)<(l.length:Int):=by omega
   have cJ:wr.cell? ⟨g,q,none⟩=some (bs a):=by have:=HRJ.out 0 _ rfl;rwa [nk,jZ]at this
   have hxb:Xk.Ext wr wr:=aj _ _;have HC:=aa (HF.out _ a hmem hu wr (Xk.Ext.trans HX.out hxb));have HXB:=aa hxb;have HGET:=aa hget;clear hr hu he hxb hget;generalize l[q]=x at *
   go_wp2_with (fail);refine HC.out.mono ?_;rintro e wf ⟨rfl,hx'⟩;have hxf:=Xk.Ext.trans HXB.out hx';have hlf:=hxf.size;have HOF:=aa (cF HO.out (λb hb=>hxf.block b (HO.out.lt b hb).2));have HXF:=aa (Xk.Ext.trans HX.out hxf);clear hx' hxf
   go_wp2_with (at_builtin;refine Xo.bS w.heap.size rfl _ _ 29 rfl 9 i0 _ 1 16 cN Hi.out Hz0.out Hz1.out Hz2.out rfl (by decide) (.slice ps q cs) q _ rfl (cF HOF.out (λb hb=>(show Xk.Ext wf (wf.alloc (.cells #[bs (f x)] 9))from(aj _ _).alloc (ag _) _).block b (HOF.out.lt b hb).2)) wf.heap.size 0 1 1 [bs (f x)] rfl (by decide) rfl (cV wf _ _ rfl) (dt (by kernel_rfl)) (by omega) (by rw[af];omega) ?_;intro v' w7 ho' hg' hk');have hx7:Xk.Ext w w7:=eg (Xk.Ext.trans HXF.out ((aj _ _).alloc (ag _) _)) hg' (by rw[af];omega) (λj hj=>(HOF.out.lt j hj).1);have HX7:=aa hx7
   have HO7:Hid (w7.ownsRow w.heap.size 9 1 v' (q+1) ((l.take (q+1)).map λy=>bs (f y))):=aa (by rw[← fI HGET.out];exact ho');clear ho' hg' hk' hx7;go_wp2_with fail;go_roundw
   case rel=>exact⟨q+1,by omega,by go_num,HX7.out,HO7.out⟩
   case measure=>simp[intOf];omega
  ·have hlb:¬ (q:Int)<(l.length:Int):=by omega
   obtain rfl:q=l.length:=by omega
   have HJN:=aa (mN (.slice ps l.length cs) w.heap.size (l.map f) wr (by have:=HO.out;rw[fH]at this;rw[cH,iq];exact this) (by rw[cH];omega) (by have:=HJ.out;omega));go_wp2_with fail;refine HJN.out.mono ?_;rintro e wf ⟨rfl,hx'⟩;go_wp2_with fail;go_ret;exact⟨rfl,Xk.Ext.trans HX.out hx'⟩
theorem JM{α:Type}{FI:FuncId}(hent:Ent FI){S:Nat->Prop}{R:α->List Value->Prop}{l:List α}{v:Value}(f:α->P12.T)(w:World)(h:aH S w 1 R l v)(hl:l.length≤100000)(hj:(P12.join (l.map f)).length≤1000000000)(hform:∀x u,x∈l->R x u->∃pp:Option Addr,∃pm pc:Nat, u = [.slice pp pm pc])
  (hF:∀x (pp:Option Addr) (pm pc:Nat),x∈l->R x ([.slice pp pm pc])->∀W,Xk.Ext w W->Calls ab FI #[.slice pp pm pc] W λe w'=>e = .returned (bs (f x))/\Xk.Ext W w') :
  Calls ab 48 #[v,.func (.func FI) #[] #[]] w λe w'=>e = .returned (bs (P12.join (l.map f)))/\Xk.Ext w w':=by
 have hcf:=hent.run;have hci:=hent.no;have HF:=aa hF;have HS:=aa h;have HFM:=aa hform;have HJ:=aa hj;obtain⟨p,c,rfl⟩:=h.len;obtain⟨i0,hi,hz0,hz1,hz2⟩:=du Tryz.iG;have Hi:=aa hi;have Hz0:=aa hz0;have Hz1:=aa hz1;have Hz2:=aa hz2;clear hi hz0 hz1 hz2;clear hF hform h hj;go_enter Tryz.func48,Tryz.ntmps48;go_wp2_with fail;go_loopw [5,10] (λs x wr=>∃q:Nat,q≤l.length/\x = .int .i64 q/\Xk.Ext w wr/\wr.ownsRow w.heap.size 9 1 s q ((l.take q).map λy=>bs (f y))) (λ_ x _=>l.length-(intOf x).toNat)
 case atStart=>exact⟨0,by omega,rfl,aj _ _,gL _ _ _ _⟩
 case round=>
  obtain⟨q,hq,rfl,hx,ho⟩:=hrel;obtain⟨ps,cs,rfl⟩:=gY ho;have HX:=aa hx;have HO:=aa ho;have hws:=hx.size;clear hx ho;by_cases hlt:q<l.length
  ·obtain⟨g,rfl⟩:=HS.out.root (by omega);obtain⟨-,-,he⟩:=HS.out.elem;have hget:l[q]?=some l[q]:=aU hlt;obtain⟨u,hu,-,hr⟩:=he q _ hget;have hmem:=cp hlt;obtain⟨pp,pm,pc,rfl⟩:=HFM.out _ _ hmem hu;have hg:=al _ _ (hr 0 _ rfl);have HRJ:=aa (cI hr (HX.out.block g hg));have hwg:g<wr.heap.size:=aD hg HX.out.size;have hlb:(q:Int)<(l.length:Int):=by omega
   have cJ:wr.cell? ⟨g,q,none⟩=some (.slice pp pm pc):=by have:=HRJ.out 0 _ rfl;rwa [nk,jZ]at this
   have hxb:Xk.Ext wr wr:=aj _ _;have HC:=aa (HF.out _ pp pm pc hmem hu wr (Xk.Ext.trans HX.out hxb));have HXB:=aa hxb;have HGET:=aa hget;clear hr hu he hxb hget;generalize l[q]=x at *
   go_wp2_with (fail);refine HC.out.mono ?_;rintro e wf ⟨rfl,hx'⟩;have hxf:=Xk.Ext.trans HXB.out hx';have hlf:=hxf.size;have HOF:=aa (cF HO.out (λb hb=>hxf.block b (HO.out.lt b hb).2));have HXF:=aa (Xk.Ext.trans HX.out hxf);clear hx' hxf
   go_wp2_with (at_builtin;refine Xo.bS w.heap.size rfl _ _ 29 rfl 9 i0 _ 1 16 cN Hi.out Hz0.out Hz1.out Hz2.out rfl (by decide) (.slice ps q cs) q _ rfl (cF HOF.out (λb hb=>(show Xk.Ext wf (wf.alloc (.cells #[bs (f x)] 9))from(aj _ _).alloc (ag _) _).block b (HOF.out.lt b hb).2)) wf.heap.size 0 1 1 [bs (f x)] rfl (by decide) rfl (cV wf _ _ rfl) (dt (by kernel_rfl)) (by omega) (by rw[af];omega) ?_;intro v' w7 ho' hg' hk');have hx7:Xk.Ext w w7:=eg (Xk.Ext.trans HXF.out ((aj _ _).alloc (ag _) _)) hg' (by rw[af];omega) (λj hj=>(HOF.out.lt j hj).1);have HX7:=aa hx7
   have HO7:Hid (w7.ownsRow w.heap.size 9 1 v' (q+1) ((l.take (q+1)).map λy=>bs (f y))):=aa (by rw[← fI HGET.out];exact ho');clear ho' hg' hk' hx7;go_wp2_with fail;go_roundw
   case rel=>exact⟨q+1,by omega,by go_num,HX7.out,HO7.out⟩
   case measure=>simp[intOf];omega
  ·have hlb:¬ (q:Int)<(l.length:Int):=by omega
   obtain rfl:q=l.length:=by omega
   have HJN:=aa (mN (.slice ps l.length cs) w.heap.size (l.map f) wr (by have:=HO.out;rw[fH]at this;rw[cH,iq];exact this) (by rw[cH];omega) (by have:=HJ.out;omega));go_wp2_with fail;refine HJN.out.mono ?_;rintro e wf ⟨rfl,hx'⟩;go_wp2_with fail;go_ret;exact⟨rfl,Xk.Ext.trans HX.out hx'⟩
theorem JK{α:Type}{FI:FuncId}(hent:Ent FI){S:Nat->Prop}{R:α->List Value->Prop}{l:List α}{v:Value}(f:α->P12.T)(w:World)(h:aH S w 12 R l v)(hl:l.length≤100000)(hj:(P12.join (l.map f)).length≤1000000000)(hform:∀x u,x∈l->R x u->∃a:P12.T,∃kd op vk vi:Int,∃vs tb nm:P12.T,∃pp:Option Addr,∃pm pc:Nat, u=bs a :: .int .i64 0::au kd op vk vi vs tb nm (.slice pp pm pc))
  (hF:∀x (a:P12.T) (kd op vk vi:Int) (vs tb nm:P12.T) (pp:Option Addr) (pm pc:Nat),x∈l->R x (bs a :: .int .i64 0::au kd op vk vi vs tb nm (.slice pp pm pc))->∀W,Xk.Ext w W->Calls ab FI #[.agg (bs a :: .int .i64 0::au kd op vk vi vs tb nm (.slice pp pm pc)).toArray] W λe w'=>e = .returned (bs (f x))/\Xk.Ext W w') :
  Calls ab 52 #[v,.func (.func FI) #[] #[]] w λe w'=>e = .returned (bs (P12.join (l.map f)))/\Xk.Ext w w':=by
 have hcf:=hent.run;have hci:=hent.no;have HF:=aa hF;have HS:=aa h;have HFM:=aa hform;have HJ:=aa hj;obtain⟨p,c,rfl⟩:=h.len;obtain⟨i0,hi,hz0,hz1,hz2⟩:=du Tryz.iG;have Hi:=aa hi;have Hz0:=aa hz0;have Hz1:=aa hz1;have Hz2:=aa hz2;clear hi hz0 hz1 hz2;clear hF hform h hj;go_enter Tryz.func52,Tryz.ntmps52;go_wp2_with fail;go_loopw [5,10] (λs x wr=>∃q:Nat,q≤l.length/\x = .int .i64 q/\Xk.Ext w wr/\wr.ownsRow w.heap.size 9 1 s q ((l.take q).map λy=>bs (f y))) (λ_ x _=>l.length-(intOf x).toNat)
 case atStart=>exact⟨0,by omega,rfl,aj _ _,gL _ _ _ _⟩
 case round=>
  obtain⟨q,hq,rfl,hx,ho⟩:=hrel;obtain⟨ps,cs,rfl⟩:=gY ho;have HX:=aa hx;have HO:=aa ho;have hws:=hx.size;clear hx ho;by_cases hlt:q<l.length
  ·obtain⟨g,rfl⟩:=HS.out.root (by omega);obtain⟨-,-,he⟩:=HS.out.elem;have hget:l[q]?=some l[q]:=aU hlt;obtain⟨u,hu,-,hr⟩:=he q _ hget;have hmem:=cp hlt;obtain⟨a,kd,op,vk,vi,vs,tb,nm,pp,pm,pc,rfl⟩:=HFM.out _ _ hmem hu;have hg:=al _ _ (hr 0 _ rfl);have HRJ:=aa (cI hr (HX.out.block g hg));have hwg:g<wr.heap.size:=aD hg HX.out.size;have hlb:(q:Int)<(l.length:Int):=by omega
   
   have hxb:Xk.Ext wr (wr.alloc (.cells (bs a :: .int .i64 0::au kd op vk vi vs tb nm (.slice pp pm pc)).toArray 85)):=(aj _ _).alloc (ag _) _;have HC:=aa (HF.out _ a kd op vk vi vs tb nm pp pm pc hmem hu (wr.alloc (.cells (bs a :: .int .i64 0::au kd op vk vi vs tb nm (.slice pp pm pc)).toArray 85)) (Xk.Ext.trans HX.out hxb));have HXB:=aa hxb;have HGET:=aa hget;clear hr hu he hxb hget;generalize l[q]=x at *
   go_wp2_with (first|(refine wpList_load_mid rfl 85 _ rfl g (q*12) rfl _ _ HRJ.out nv rfl (by kernel_rfl) ?_)|(refine aE rfl 85 _ rfl (wr.heap.size) _ 85 (0,0) _ rfl (az wr _) nv rfl (by kernel_rfl) ?_));refine HC.out.mono ?_;rintro e wf ⟨rfl,hx'⟩;have hxf:=Xk.Ext.trans HXB.out hx';have hlf:=hxf.size;have HOF:=aa (cF HO.out (λb hb=>hxf.block b (HO.out.lt b hb).2));have HXF:=aa (Xk.Ext.trans HX.out hxf);clear hx' hxf
   go_wp2_with (at_builtin;refine Xo.bS w.heap.size rfl _ _ 29 rfl 9 i0 _ 1 16 cN Hi.out Hz0.out Hz1.out Hz2.out rfl (by decide) (.slice ps q cs) q _ rfl (cF HOF.out (λb hb=>(show Xk.Ext wf (wf.alloc (.cells #[bs (f x)] 9))from(aj _ _).alloc (ag _) _).block b (HOF.out.lt b hb).2)) wf.heap.size 0 1 1 [bs (f x)] rfl (by decide) rfl (cV wf _ _ rfl) (dt (by kernel_rfl)) (by omega) (by rw[af];omega) ?_;intro v' w7 ho' hg' hk');have hx7:Xk.Ext w w7:=eg (Xk.Ext.trans HXF.out ((aj _ _).alloc (ag _) _)) hg' (by rw[af];omega) (λj hj=>(HOF.out.lt j hj).1);have HX7:=aa hx7
   have HO7:Hid (w7.ownsRow w.heap.size 9 1 v' (q+1) ((l.take (q+1)).map λy=>bs (f y))):=aa (by rw[← fI HGET.out];exact ho');clear ho' hg' hk' hx7;go_wp2_with fail;go_roundw
   case rel=>exact⟨q+1,by omega,by go_num,HX7.out,HO7.out⟩
   case measure=>simp[intOf];omega
  ·have hlb:¬ (q:Int)<(l.length:Int):=by omega
   obtain rfl:q=l.length:=by omega
   have HJN:=aa (mN (.slice ps l.length cs) w.heap.size (l.map f) wr (by have:=HO.out;rw[fH]at this;rw[cH,iq];exact this) (by rw[cH];omega) (by have:=HJ.out;omega));go_wp2_with fail;refine HJN.out.mono ?_;rintro e wf ⟨rfl,hx'⟩;go_wp2_with fail;go_ret;exact⟨rfl,Xk.Ext.trans HX.out hx'⟩
theorem Ig{α:Type}{FI:FuncId}(hent:Ent FI){S:Nat->Prop}{R:α->List Value->Prop}{l:List α}{v:Value}(f:α->P12.T)(w:World)(h:aH S w 12 R l v)(hl:l.length≤100000)(hj:(P12.join (l.map f)).length≤1000000000)(hform:∀x u,x∈l->R x u->∃b:Bool,∃kd op vk vi:Int,∃vs tb nm:P12.T,∃pp:Option Addr,∃pm pc:Nat,∃a:P12.T, u=bf b::(au kd op vk vi vs tb nm (.slice pp pm pc)++ [bs a]))
  (hF:∀x (b:Bool) (kd op vk vi:Int) (vs tb nm:P12.T) (pp:Option Addr) (pm pc:Nat) (a:P12.T),x∈l->R x (bf b::(au kd op vk vi vs tb nm (.slice pp pm pc)++ [bs a]))->∀W,Xk.Ext w W->Calls ab FI #[.agg (bf b::(au kd op vk vi vs tb nm (.slice pp pm pc)++ [bs a])).toArray] W λe w'=>e = .returned (bs (f x))/\Xk.Ext W w') :
  Calls ab 118 #[v,.func (.func FI) #[] #[]] w λe w'=>e = .returned (bs (P12.join (l.map f)))/\Xk.Ext w w':=by
 have hcf:=hent.run;have hci:=hent.no;have HF:=aa hF;have HS:=aa h;have HFM:=aa hform;have HJ:=aa hj;obtain⟨p,c,rfl⟩:=h.len;obtain⟨i0,hi,hz0,hz1,hz2⟩:=du Tryz.iG;have Hi:=aa hi;have Hz0:=aa hz0;have Hz1:=aa hz1;have Hz2:=aa hz2;clear hi hz0 hz1 hz2;clear hF hform h hj;go_enter Tryz.func118,Tryz.ntmps118;go_wp2_with fail;go_loopw [5,10] (λs x wr=>∃q:Nat,q≤l.length/\x = .int .i64 q/\Xk.Ext w wr/\wr.ownsRow w.heap.size 9 1 s q ((l.take q).map λy=>bs (f y))) (λ_ x _=>l.length-(intOf x).toNat)
 case atStart=>exact⟨0,by omega,rfl,aj _ _,gL _ _ _ _⟩
 case round=>
  obtain⟨q,hq,rfl,hx,ho⟩:=hrel;obtain⟨ps,cs,rfl⟩:=gY ho;have HX:=aa hx;have HO:=aa ho;have hws:=hx.size;clear hx ho;by_cases hlt:q<l.length
  ·obtain⟨g,rfl⟩:=HS.out.root (by omega);obtain⟨-,-,he⟩:=HS.out.elem;have hget:l[q]?=some l[q]:=aU hlt;obtain⟨u,hu,-,hr⟩:=he q _ hget;have hmem:=cp hlt;obtain⟨b,kd,op,vk,vi,vs,tb,nm,pp,pm,pc,a,rfl⟩:=HFM.out _ _ hmem hu;have hg:=al _ _ (hr 0 _ rfl);have HRJ:=aa (cI hr (HX.out.block g hg));have hwg:g<wr.heap.size:=aD hg HX.out.size;have hlb:(q:Int)<(l.length:Int):=by omega
   
   have hxb:Xk.Ext wr (wr.alloc (.cells (bf b::(au kd op vk vi vs tb nm (.slice pp pm pc)++ [bs a])).toArray 88)):=(aj _ _).alloc (ag _) _;have HC:=aa (HF.out _ b kd op vk vi vs tb nm pp pm pc a hmem hu (wr.alloc (.cells (bf b::(au kd op vk vi vs tb nm (.slice pp pm pc)++ [bs a])).toArray 88)) (Xk.Ext.trans HX.out hxb));have HXB:=aa hxb;have HGET:=aa hget;clear hr hu he hxb hget;generalize l[q]=x at *
   go_wp2_with (first|(refine wpList_load_mid rfl 88 _ rfl g (q*12) rfl _ _ HRJ.out fj rfl (by kernel_rfl) ?_)|(refine aE rfl 88 _ rfl (wr.heap.size) _ 88 (0,0) _ rfl (az wr _) fj rfl (by kernel_rfl) ?_));refine HC.out.mono ?_;rintro e wf ⟨rfl,hx'⟩;have hxf:=Xk.Ext.trans HXB.out hx';have hlf:=hxf.size;have HOF:=aa (cF HO.out (λb hb=>hxf.block b (HO.out.lt b hb).2));have HXF:=aa (Xk.Ext.trans HX.out hxf);clear hx' hxf
   go_wp2_with (at_builtin;refine Xo.bS w.heap.size rfl _ _ 29 rfl 9 i0 _ 1 16 cN Hi.out Hz0.out Hz1.out Hz2.out rfl (by decide) (.slice ps q cs) q _ rfl (cF HOF.out (λb hb=>(show Xk.Ext wf (wf.alloc (.cells #[bs (f x)] 9))from(aj _ _).alloc (ag _) _).block b (HOF.out.lt b hb).2)) wf.heap.size 0 1 1 [bs (f x)] rfl (by decide) rfl (cV wf _ _ rfl) (dt (by kernel_rfl)) (by omega) (by rw[af];omega) ?_;intro v' w7 ho' hg' hk');have hx7:Xk.Ext w w7:=eg (Xk.Ext.trans HXF.out ((aj _ _).alloc (ag _) _)) hg' (by rw[af];omega) (λj hj=>(HOF.out.lt j hj).1);have HX7:=aa hx7
   have HO7:Hid (w7.ownsRow w.heap.size 9 1 v' (q+1) ((l.take (q+1)).map λy=>bs (f y))):=aa (by rw[← fI HGET.out];exact ho');clear ho' hg' hk' hx7;go_wp2_with fail;go_roundw
   case rel=>exact⟨q+1,by omega,by go_num,HX7.out,HO7.out⟩
   case measure=>simp[intOf];omega
  ·have hlb:¬ (q:Int)<(l.length:Int):=by omega
   obtain rfl:q=l.length:=by omega
   have HJN:=aa (mN (.slice ps l.length cs) w.heap.size (l.map f) wr (by have:=HO.out;rw[fH]at this;rw[cH,iq];exact this) (by rw[cH];omega) (by have:=HJ.out;omega));go_wp2_with fail;refine HJN.out.mono ?_;rintro e wf ⟨rfl,hx'⟩;go_wp2_with fail;go_ret;exact⟨rfl,Xk.Ext.trans HX.out hx'⟩
theorem JO{α:Type}{FI:FuncId}(hent:Ent FI){S:Nat->Prop}{R:α->List Value->Prop}{l:List α}{v:Value}(f:α->P12.T)(w:World)(h:aH S w 11 R l v)(hl:l.length≤100000)(hj:(P12.join (l.map f)).length≤1000000000)(hform:∀x u,x∈l->R x u->∃kd op vk vi:Int,∃vs tb nm:P12.T,∃pp:Option Addr,∃pm pc:Nat,∃b:Bool, u=au kd op vk vi vs tb nm (.slice pp pm pc)++ [bf b])
  (hF:∀x (kd op vk vi:Int) (vs tb nm:P12.T) (pp:Option Addr) (pm pc:Nat) (b:Bool),x∈l->R x (au kd op vk vi vs tb nm (.slice pp pm pc)++ [bf b])->∀W,Xk.Ext w W->Calls ab FI #[.agg (au kd op vk vi vs tb nm (.slice pp pm pc)++ [bf b]).toArray] W λe w'=>e = .returned (bs (f x))/\Xk.Ext W w') :
  Calls ab 121 #[v,.func (.func FI) #[] #[]] w λe w'=>e = .returned (bs (P12.join (l.map f)))/\Xk.Ext w w':=by
 have hcf:=hent.run;have hci:=hent.no;have HF:=aa hF;have HS:=aa h;have HFM:=aa hform;have HJ:=aa hj;obtain⟨p,c,rfl⟩:=h.len;obtain⟨i0,hi,hz0,hz1,hz2⟩:=du Tryz.iG;have Hi:=aa hi;have Hz0:=aa hz0;have Hz1:=aa hz1;have Hz2:=aa hz2;clear hi hz0 hz1 hz2;clear hF hform h hj;go_enter Tryz.func121,Tryz.ntmps121;go_wp2_with fail;go_loopw [5,10] (λs x wr=>∃q:Nat,q≤l.length/\x = .int .i64 q/\Xk.Ext w wr/\wr.ownsRow w.heap.size 9 1 s q ((l.take q).map λy=>bs (f y))) (λ_ x _=>l.length-(intOf x).toNat)
 case atStart=>exact⟨0,by omega,rfl,aj _ _,gL _ _ _ _⟩
 case round=>
  obtain⟨q,hq,rfl,hx,ho⟩:=hrel;obtain⟨ps,cs,rfl⟩:=gY ho;have HX:=aa hx;have HO:=aa ho;have hws:=hx.size;clear hx ho;by_cases hlt:q<l.length
  ·obtain⟨g,rfl⟩:=HS.out.root (by omega);obtain⟨-,-,he⟩:=HS.out.elem;have hget:l[q]?=some l[q]:=aU hlt;obtain⟨u,hu,-,hr⟩:=he q _ hget;have hmem:=cp hlt;obtain⟨kd,op,vk,vi,vs,tb,nm,pp,pm,pc,b,rfl⟩:=HFM.out _ _ hmem hu;have hg:=al _ _ (hr 0 _ rfl);have HRJ:=aa (cI hr (HX.out.block g hg));have hwg:g<wr.heap.size:=aD hg HX.out.size;have hlb:(q:Int)<(l.length:Int):=by omega
   
   have hxb:Xk.Ext wr (wr.alloc (.cells (au kd op vk vi vs tb nm (.slice pp pm pc)++ [bf b]).toArray 92)):=(aj _ _).alloc (ag _) _;have HC:=aa (HF.out _ kd op vk vi vs tb nm pp pm pc b hmem hu (wr.alloc (.cells (au kd op vk vi vs tb nm (.slice pp pm pc)++ [bf b]).toArray 92)) (Xk.Ext.trans HX.out hxb));have HXB:=aa hxb;have HGET:=aa hget;clear hr hu he hxb hget;generalize l[q]=x at *
   go_wp2_with (first|(refine wpList_load_mid rfl 92 _ rfl g (q*11) rfl _ _ HRJ.out jQ rfl (by kernel_rfl) ?_)|(refine aE rfl 92 _ rfl (wr.heap.size) _ 92 (0,0) _ rfl (az wr _) jQ rfl (by kernel_rfl) ?_));refine HC.out.mono ?_;rintro e wf ⟨rfl,hx'⟩;have hxf:=Xk.Ext.trans HXB.out hx';have hlf:=hxf.size;have HOF:=aa (cF HO.out (λb hb=>hxf.block b (HO.out.lt b hb).2));have HXF:=aa (Xk.Ext.trans HX.out hxf);clear hx' hxf
   go_wp2_with (at_builtin;refine Xo.bS w.heap.size rfl _ _ 29 rfl 9 i0 _ 1 16 cN Hi.out Hz0.out Hz1.out Hz2.out rfl (by decide) (.slice ps q cs) q _ rfl (cF HOF.out (λb hb=>(show Xk.Ext wf (wf.alloc (.cells #[bs (f x)] 9))from(aj _ _).alloc (ag _) _).block b (HOF.out.lt b hb).2)) wf.heap.size 0 1 1 [bs (f x)] rfl (by decide) rfl (cV wf _ _ rfl) (dt (by kernel_rfl)) (by omega) (by rw[af];omega) ?_;intro v' w7 ho' hg' hk');have hx7:Xk.Ext w w7:=eg (Xk.Ext.trans HXF.out ((aj _ _).alloc (ag _) _)) hg' (by rw[af];omega) (λj hj=>(HOF.out.lt j hj).1);have HX7:=aa hx7
   have HO7:Hid (w7.ownsRow w.heap.size 9 1 v' (q+1) ((l.take (q+1)).map λy=>bs (f y))):=aa (by rw[← fI HGET.out];exact ho');clear ho' hg' hk' hx7;go_wp2_with fail;go_roundw
   case rel=>exact⟨q+1,by omega,by go_num,HX7.out,HO7.out⟩
   case measure=>simp[intOf];omega
  ·have hlb:¬ (q:Int)<(l.length:Int):=by omega
   obtain rfl:q=l.length:=by omega
   have HJN:=aa (mN (.slice ps l.length cs) w.heap.size (l.map f) wr (by have:=HO.out;rw[fH]at this;rw[cH,iq];exact this) (by rw[cH];omega) (by have:=HJ.out;omega));go_wp2_with fail;refine HJN.out.mono ?_;rintro e wf ⟨rfl,hx'⟩;go_wp2_with fail;go_ret;exact⟨rfl,Xk.Ext.trans HX.out hx'⟩
abbrev D4(l:List Value):Obj := .cells l.toArray 27
def ET(B:Nat)(o:Obj)(w w':World):Prop:=w'.os=w.os/\w'.tape=w.tape/\w'.output=w.output/\w.heap.size≤w'.heap.size/\∀b,b<w.heap.size->w'.heap[b]?=w.heap[b]?∨(B≤b/\w'.heap[b]?=some o)
theorem eE(B:Nat)(o:Obj):Xe.Pre (ET B o):=by
 refine⟨λw=>⟨rfl,rfl,rfl,ag _,λb _ => .inl rfl⟩,?_,?_,λh=>h.2.2.2.1⟩
 ·rintro a b c ⟨h1,h2,h3,h4,h5⟩ ⟨g1,g2,g3,g4,g5⟩;refine⟨g1.trans h1,g2.trans h2,g3.trans h3,bH h4 g4,λx hx=>?_⟩;rcases g5 x (aD hx h4)with e|e
  ·rw[e];exact h5 x hx
  ·exact .inr e
 ·intro a b h;exact⟨h.os,h.tape,h.output,h.size,λx hx => .inl (h.block x hx)⟩
theorem FG{w w2 W:World}{o:Obj}(h2:Xk.Ext w w2)(h:ET w2.heap.size o w2.drew W):Xk.Ext w W:=
 ⟨h.1.trans h2.os,h.2.1.trans h2.tape,h.2.2.1.trans h2.output,bH h2.size (by have:=h.2.2.2.1;rwa [cQ]at this),λb hb=>by
  have hs:=h2.size;have:=(h.2.2.2.2 b (by rw[cQ];omega)).resolve_right (λe=>by omega);exact this.trans (h2.block b hb)⟩
def zC(B:Nat)(_:List Value)(v:Value)(W:World):Prop:=∃g c,v = .pointer (some ⟨g,0,none⟩)/\B≤g/\c.size=4/\W.heap[g]?=some (.cells c 27)
def zB(B:Nat)(l:List Value)(ls:List Value)(_:Value)(W:World):Prop:=∀g,ls.head?=some (.pointer (some ⟨g,0,none⟩))->B≤g->W.heap[g]?=some (D4 l)
theorem zC.et{B:Nat}{l:List Value}(hl:l.length=4):∀ls v w w',ET B (D4 l) w w'->zC B ls v w->zC B ls v w':=by
 rintro ls v w w' h ⟨g,c,rfl,hg,hc,hw⟩;rcases h.2.2.2.2 g (ae.1 hw).1 with e|⟨-,e⟩
 ·exact⟨g,c,rfl,hg,hc,e.trans hw⟩
 ·exact⟨g,l.toArray,rfl,hg,by simpa using hl,e⟩
theorem zB.et{B:Nat}{l:List Value}:∀ls v w w',ET B (D4 l) w w'->zB B l ls v w->zB B l ls v w':=by
 intro ls v w w' h hs g hg hb;have hw:=hs g hg hb;rcases h.2.2.2.2 g (ae.1 hw).1 with e|⟨-,e⟩
 ·exact e.trans hw
 ·exact e
theorem oh{P:Program}{o:Oper}{a:Act}{B:Nat}{w:World}{φ:Value->World->Prop}(t:TypeId)(x y:Operand)(ho:o.op = .store t x y)(g:Nat)(c c':Array Value)(T:TypeId)(hx:a.eval x = .pointer (some ⟨g,0,none⟩))(hy:a.eval y = .agg c')
  (hg:w.heap[g]?=some (.cells c T)) (hs:c.size=c'.size) (hi:(P.info? t).map (·.size)=some c'.size) (h1:c'.all (·.oneCell')=true) (hb:B≤g) (hφ:∀W,W.heap[g]?=some (.cells c' T)->φ undef W):Xe.dQ (ET B (.cells c' T)) P o a w none φ:=by
 have ht:w.there g 0 c'.size:=λj hj=>by
  rw[fe];exact⟨by simp[ak,hg,show j<c.size by omega],aN w g j _ _ hg⟩
 have hp:=gO hg c'.toList 0;have hw:(w.setCells g 0 c'.toList).heap[g]?=some (.cells c' T):=by simpa using iV hg c'.toList (by simpa using hs.symm)
 unfold Xe.dQ execOp;simp only[ho,hx,hy,Instr.storeAt,Instr.sureAddr,Sem.run_bind,Sem.run_pure,oK,run_storeVar_mid w g 0 t c' ht hi h1];refine⟨⟨hp.os,hp.tape,hp.output,Nat.le_of_eq hp.size.symm,λb hbb=>?_⟩,hφ _ hw,λb hb=>by cases hb⟩;by_cases hbg:b=g
 ·subst hbg;exact .inr ⟨hb,hw⟩
 ·exact .inl (hp.rest b hbg)
theorem cE{kind lim:Int}{tn nm on:P12.T}{un:Bool}{p1 p2 p3 p4 p5 p6 p7 p8 p9 p10 p11:Option Addr}{n1 n2 n3 n4 n5 n6 n7 n8 n9 n10 n11 c1 c2 c3 c4 c5 c6 c7 c8 c9 c10 c11:Nat}
  {k1 o1 vk1 vi1:Int} {vs1 tb1 nm1:P12.T} {q1:Option Addr} {m1 d1:Nat} {k2 o2 vk2 vi2:Int} {vs2 tb2 nm2:P12.T} {q2:Option Addr} {m2 d2:Nat} {W:World} {g:Nat}
  (h:W.heap[g]?=some (bq (cA kind tn (.slice p1 n1 c1) (.slice p2 n2 c2) (.slice p3 n3 c3) (.slice p4 n4 c4) nm on un (.slice p5 n5 c5) (.slice p6 n6 c6) (.slice p7 n7 c7) (au k1 o1 vk1 vi1 vs1 tb1 nm1 (.slice q1 m1 d1)) (.slice p8 n8 c8) (.slice p9 n9 c9) (au k2 o2 vk2 vi2 vs2 tb2 nm2 (.slice q2 m2 d2)) (.slice p10 n10 c10) (.slice p11 n11 c11) lim))) :
  g<W.heap.size/\W.cell? ⟨g,1,none⟩=some (bs tn)/\W.cell? ⟨g,2,none⟩=some ((.slice p1 n1 c1))/\W.cell? ⟨g,3,none⟩=some ((.slice p2 n2 c2))/\W.cell? ⟨g,4,none⟩=some ((.slice p3 n3 c3))/\W.cell? ⟨g,5,none⟩=some ((.slice p4 n4 c4))/\W.cell? ⟨g,6,none⟩=some (bs nm)/\W.cell? ⟨g,7,none⟩=some (bs on)/\W.cell? ⟨g,8,none⟩=some (.bool un)/\W.cell? ⟨g,9,none⟩=some ((.slice p5 n5 c5))/\W.cell? ⟨g,10,none⟩=some ((.slice p6 n6 c6))/\W.cell? ⟨g,11,none⟩=some ((.slice p7 n7 c7))/\W.cell? ⟨g,12,none⟩=some (.int .i64 k1)/\W.cell? ⟨g,13,none⟩=some (.int .i64 o1)/\W.cell? ⟨g,14,none⟩=some (.int .i64 vk1)/\W.cell? ⟨g,15,none⟩=some (.int .i64 vi1)/\W.cell? ⟨g,16,none⟩=some (bs vs1)/\W.cell? ⟨g,17,none⟩=some (bs tb1)/\W.cell? ⟨g,18,none⟩=some (bs nm1)/\W.cell? ⟨g,19,none⟩=some (.int .i64 0)/\W.cell? ⟨g,20,none⟩=some (.int .i64 0)/\W.cell? ⟨g,21,none⟩=some (.slice q1 m1 d1)/\W.cell? ⟨g,22,none⟩=some ((.slice p8 n8 c8))/\W.cell? ⟨g,23,none⟩=some ((.slice p9 n9 c9))/\W.cell? ⟨g,24,none⟩=some (.int .i64 k2)/\W.cell? ⟨g,25,none⟩=some (.int .i64 o2)/\W.cell? ⟨g,26,none⟩=some (.int .i64 vk2)/\W.cell? ⟨g,27,none⟩=some (.int .i64 vi2)/\W.cell? ⟨g,28,none⟩=some (bs vs2)/\W.cell? ⟨g,29,none⟩=some (bs tb2)/\W.cell? ⟨g,30,none⟩=some (bs nm2)/\W.cell? ⟨g,31,none⟩=some (.int .i64 0)/\W.cell? ⟨g,32,none⟩=some (.int .i64 0)/\W.cell? ⟨g,33,none⟩=some (.slice q2 m2 d2)/\W.cell? ⟨g,34,none⟩=some ((.slice p10 n10 c10))/\W.cell? ⟨g,35,none⟩=some ((.slice p11 n11 c11))/\W.cell? ⟨g,36,none⟩=some (.int .i64 lim):=by
 refine⟨(ae.1 h).1,?_,?_,?_,?_,?_,?_,?_,?_,?_,?_,?_,?_,?_,?_,?_,?_,?_,?_,?_,?_,?_,?_,?_,?_,?_,?_,?_,?_,?_,?_,?_,?_,?_,?_,?_,?_⟩<;>simp[ak,h]
theorem og{tn:P12.T}{p1 p2 p3:Option Addr}{n1 n2 n3 c1 c2 c3:Nat}{W:World}{g:Nat}(h:W.heap[g]?=some (D4 [bs tn,.slice p1 n1 c1,.slice p2 n2 c2,.slice p3 n3 c3])):
  g<W.heap.size/\W.cell? ⟨g,0,none⟩=some (bs tn)/\W.cell? ⟨g,1,none⟩=some (.slice p1 n1 c1)/\W.cell? ⟨g,2,none⟩=some (.slice p2 n2 c2)/\W.cell? ⟨g,3,none⟩=some (.slice p3 n3 c3):=by
 refine⟨(ae.1 h).1,?_,?_,?_,?_⟩<;>simp[ak,h]
theorem Cs(kind lim:Int)(tn nm on:P12.T)(un:Bool)(p1 p2 p3 p4 p5 p6 p7 p8 p9 p10 p11:Option Addr)(n1 n2 n3 n4 n5 n6 n7 n8 n9 n10 n11 c1 c2 c3 c4 c5 c6 c7 c8 c9 c10 c11:Nat)
  (k1 o1 vk1 vi1:Int) (vs1 tb1 nm1:P12.T) (q1:Option Addr) (m1 d1:Nat) (k2 o2 vk2 vi2:Int) (vs2 tb2 nm2:P12.T) (q2:Option Addr) (m2 d2:Nat) (b1 b2:Bool) (l:List Value)
  (hl:l=cA kind tn (.slice p1 n1 c1) (.slice p2 n2 c2) (.slice p3 n3 c3) (.slice p4 n4 c4) nm on un (.slice p5 n5 c5) (.slice p6 n6 c6) (.slice p7 n7 c7) (au k1 o1 vk1 vi1 vs1 tb1 nm1 (.slice q1 m1 d1)) (.slice p8 n8 c8) (.slice p9 n9 c9) (au k2 o2 vk2 vi2 vs2 tb2 nm2 (.slice q2 m2 d2)) (.slice p10 n10 c10) (.slice p11 n11 c11) lim)
  (hB1:∀W,Calls ab 94 #[.agg (au k1 o1 vk1 vi1 vs1 tb1 nm1 (.slice q1 m1 d1)).toArray] W λe w'=>e = .returned (.bool b1)/\Xk.Ext W w')
  (hB2:∀W,Calls ab 94 #[.agg (au k2 o2 vk2 vi2 vs2 tb2 nm2 (.slice q2 m2 d2)).toArray] W λe w'=>e = .returned (.bool b2)/\Xk.Ext W w')
  (w:World):Calls ab 32 #[.agg l.toArray,.agg l.toArray] w λe w'=>e = .returned (.bool true)/\Xk.Ext w w':=by
 subst hl;have HB1:=aa hB1;have HB2:=aa hB2;clear hB1 hB2;go_enter Tryz.func32,Tryz.ntmps32;obtain⟨lv,hlv⟩:∃lv,lv=cA kind tn (.slice p1 n1 c1) (.slice p2 n2 c2) (.slice p3 n3 c3) (.slice p4 n4 c4) nm on un (.slice p5 n5 c5) (.slice p6 n6 c6) (.slice p7 n7 c7) (au k1 o1 vk1 vi1 vs1 tb1 nm1 (.slice q1 m1 d1)) (.slice p8 n8 c8) (.slice p9 n9 c9) (au k2 o2 vk2 vi2 vs2 tb2 nm2 (.slice q2 m2 d2)) (.slice p10 n10 c10) (.slice p11 n11 c11) lim:=⟨_,rfl⟩
 have hg1:((w.alloc (bq lv)).alloc (bq lv)).heap[w.heap.size]?=some (bq lv):=(((aj _ _).alloc (ag _) _:Xk.Ext (w.alloc (bq lv)) _).block _ (by rw[af];omega)).trans (az w _)
 have hg2:((w.alloc (bq lv)).alloc (bq lv)).heap[w.heap.size+1]?=some (bq lv):=by
  have:=az (w.alloc (bq lv)) (bq lv);rwa [af]at this
 have hsz:((w.alloc (bq lv)).alloc (bq lv)).heap.size=w.heap.size+2:=by simp
 rw[← hlv];have HLV:=aa hlv;clear hlv;go_wp2_with fail;have hx2:Xk.Ext w ((w.alloc (bq lv)).alloc (bq lv)):=((aj _ _).alloc (ag _) _).alloc (by rw[af];omega) _;generalize (w.alloc (bq lv)).alloc (bq lv)=w2 at *
 obtain⟨tl,htl⟩:∃tl:List Value,tl = [bs tn,.slice p1 n1 c1,.slice p2 n2 c2,.slice p3 n3 c3]:=⟨_,rfl⟩;have hlv:=HLV.out
 have hcl:∀g W,(W:World).heap[g]?=some (bq lv)->W.cell? ⟨g,1,none⟩=some (bs tn)/\W.cell? ⟨g,2,none⟩=some (.slice p1 n1 c1)/\W.cell? ⟨g,3,none⟩=some (.slice p2 n2 c2)/\W.cell? ⟨g,4,none⟩=some (.slice p3 n3 c3)/\W.cell? ⟨g,5,none⟩=some (.slice p4 n4 c4):=λg W h=>by
  rw[hlv]at h;refine⟨?_,?_,?_,?_,?_⟩<;>simp[ak,h]
 clear hlv;refine Xd.bB (E:=ET w2.heap.size (D4 tl)) (eE _ _) 8 (λ_=>none) (λ_ _ h=>by cases h) (λ_ _ _ _ h=>by cases h) [(4,zC w2.heap.size),(5,zC w2.heap.size),(6,zB w2.heap.size tl),(7,zB w2.heap.size tl)] (by kernel_rfl) (by kernel_rfl) (Xd.sK ?_) ?_
 ·intro y hy;simp only[aI,aC,or_false]at hy;rcases hy with rfl|rfl|rfl|rfl
  ·exact zC.et (by rw[htl];rfl)
  ·exact zC.et (by rw[htl];rfl)
  ·exact zB.et
  ·exact zB.et
 simp only[aA,aS,aG,aT];(refine Xd.ay (eE _ _) (Xk.an (by rfl)) (by rfl) (λK hK=>?_);apply ai;refine⟨λW hx hp=>?_,?_⟩;(skip;go_simp;exact⟨rfl,rfl⟩);(go_simp;refine hK _ ?_;clear hK K))
 (refine Xd.ay (eE _ _) (Xk.an (by rfl)) (by rfl) (λK hK=>?_);apply ai;refine⟨λW hx hp=>?_,?_⟩;((have hb:=((hx.2.2.2.2 w.heap.size (by have:=hsz;simp;omega)).resolve_right (λh=>by have:=h.1;omega)).trans hg1;obtain⟨k1,k2,k3,k4,k5⟩:=hcl _ _ hb);go_simp;exact⟨rfl,rfl⟩);(go_simp;refine hK _ ?_;clear hK K))
 (refine Xd.ay (eE _ _) (Xk.an (by rfl)) (by rfl) (λK hK=>?_);apply ai;refine⟨λW hx hp=>?_,?_⟩;(skip;go_simp;exact⟨rfl,rfl⟩);(go_simp;refine hK _ ?_;clear hK K))
 (refine Xd.ay (eE _ _) (Xk.an (by rfl)) (by rfl) (λK hK=>?_);apply ai;refine⟨λW hx hp=>?_,?_⟩;((have hb:=((hx.2.2.2.2 (w.heap.size+1) (by have:=hsz;simp;omega)).resolve_right (λh=>by have:=h.1;omega)).trans hg2;obtain⟨k1,k2,k3,k4,k5⟩:=hcl _ _ hb);go_simp;exact⟨rfl,rfl⟩);(go_simp;refine hK _ ?_;clear hK K))
 (refine Xd.bd (eE _ _) (by rfl) (by rfl) (λW hx hp=>?_) (λu5 K hK=>?_);((go_simp;exact⟨(eE _ _).ext ((aj _ _).alloc (ag _) _),⟨W.heap.size,_,rfl,by have h1:=hx.2.2.2.1;rw[cQ]at h1;have h2:=hsz;omega,rfl,az W _⟩,λb hb=>by cases hb⟩));(go_simp;refine hK _ ?_;clear hK K))
 (refine Xd.bd (eE _ _) (by rfl) (by rfl) (λW hx hp=>?_) (λu6 K hK=>?_);((go_simp;exact⟨(eE _ _).ext ((aj _ _).alloc (ag _) _),⟨W.heap.size,_,rfl,by have h1:=hx.2.2.2.1;rw[cQ]at h1;have h2:=hsz;omega,rfl,az W _⟩,λb hb=>by cases hb⟩));(go_simp;refine hK _ ?_;clear hK K))
 (refine Xd.bd (eE _ _) (by rfl) (by rfl) (λW hx hp=>?_) (λu7 K hK=>?_);((obtain⟨g,c,rfl,hg,hc,hw⟩:=Xd.bP (Xe.mP hp) (by kernel_rfl);rw[htl]at hx ⊢;exact oh _ _ _ rfl g c _ _ rfl rfl hw hc (by kernel_rfl) (by kernel_rfl) hg (λW hW g' hg' _=>by cases hg';exact hW)));(go_simp;refine hK _ ?_;clear hK K))
 (refine Xd.bd (eE _ _) (by rfl) (by rfl) (λW hx hp=>?_) (λu8 K hK=>?_);((obtain⟨g,c,rfl,hg,hc,hw⟩:=Xd.bP (Xe.mP hp) (by kernel_rfl);rw[htl]at hx ⊢;exact oh _ _ _ rfl g c _ _ rfl rfl hw hc (by kernel_rfl) (by kernel_rfl) hg (λW hW g' hg' _=>by cases hg';exact hW)));(go_simp;refine hK _ ?_;clear hK K))
 refine Xd.bm (λW hx hp hG=>?_);obtain⟨h8,h7,h6,h5,-⟩:=hp;obtain⟨g6,c6',rfl,hg6,-,-⟩:=h6;obtain⟨g5,c5',rfl,hg5,-,-⟩:=h5;have hT5:=h7 g5 rfl hg5;have hT6:=h8 g6 rfl hg6;clear h7 h8 hG;have hs1:=((hx.2.2.2.2 w.heap.size (by have:=hsz;simp;omega)).resolve_right (λh=>by have:=h.1;omega)).trans hg1;have hs2:=((hx.2.2.2.2 (w.heap.size+1) (by have:=hsz;simp;omega)).resolve_right (λh=>by have:=h.1;omega)).trans hg2;have hxW:=aa (FG hx2 hx);rw[HLV.out]at hs1 hs2;rw[htl]at hT5 hT6
 obtain⟨ha0,x1,x2,x3,x4,x5,x6,x7,x8,x9,x10,x11,x12,x13,x14,x15,x16,x17,x18,x19,x20,x21,x22,x23,x24,x25,x26,x27,x28,x29,x30,x31,x32,x33,x34,x35,x36⟩:=cE hs1;obtain⟨hb0,y1,y2,y3,y4,y5,y6,y7,y8,y9,y10,y11,y12,y13,y14,y15,y16,y17,y18,y19,y20,y21,y22,y23,y24,y25,y26,y27,y28,y29,y30,y31,y32,y33,y34,y35,y36⟩:=cE hs2;obtain⟨hc0,u0,u1,u2,u3⟩:=og hT5;obtain⟨hd0,v0,v1,v2,v3⟩:=og hT6;clear hs1 hs2 hT5 hT6 hcl htl hx hg1 hg2 hg5 hg6 hsz hx2;go_wp2_with fail;simp only[List.append_eq,aL,bM];refine Xk.reg 151 (Xk.w2 HB1.out HB2.out λp=>?_);go_wp2_with fail;go_ret;exact⟨rfl,Aa.trans hxW.out (Xk.xt:Xk.Ext W _)⟩
def EC(g:Nat)(T:TypeId)(L:Array Value)(w w':World):Prop:=w'.os=w.os/\w'.tape=w.tape/\w'.output=w.output/\w.heap.size≤w'.heap.size /\
 ∀b,b<w.heap.size->w'.heap[b]?=w.heap[b]?∨(b=g/\∃c c',w.heap[b]?=some (.cells c T)/\w'.heap[b]?=some (.cells c' T)/\c'.size=c.size/\∀j:Nat,c'[j]?=c[j]?∨c'[j]?=L[j]?)
theorem bY(g:Nat)(T:TypeId)(L:Array Value):Xe.Pre (EC g T L):=by
 refine⟨λw=>⟨rfl,rfl,rfl,ag _,λb _ => .inl rfl⟩,?_,?_,λh=>h.2.2.2.1⟩
 ·rintro a b c ⟨h1,h2,h3,h4,h5⟩ ⟨g1,g2,g3,g4,g5⟩;refine⟨g1.trans h1,g2.trans h2,g3.trans h3,bH h4 g4,λx hx=>?_⟩;rcases g5 x (aD hx h4)with e|⟨hb,c1,c2,e1,e2,e3,e4⟩
  ·rw[e];exact h5 x hx
  ·rcases h5 x hx with f|⟨-,d1,d2,f1,f2,f3,f4⟩
   ·exact .inr ⟨hb,c1,c2,by rw[← f];exact e1,e2,e3,e4⟩
   ·rw[f2]at e1
    cases e1;refine .inr ⟨hb,d1,c2,f1,e2,e3.trans f3,λj=>?_⟩;rcases e4 j with e|e
    ·rw[e];exact f4 j
    ·exact .inr e
 ·intro a b h;exact⟨h.os,h.tape,h.output,h.size,λx hx => .inl (h.block x hx)⟩
def ep(g:Nat)(T:TypeId)(L:Array Value)(o k:Nat)(_:Value)(W:World):Prop:=∃c,W.heap[g]?=some (.cells c T)/\∀j:Nat,o≤j->j<o+k->c[j]?=L[j]?
theorem ep.ec{g:Nat}{T:TypeId}{L:Array Value}{o k:Nat}:∀v w w',EC g T L w w'->ep g T L o k v w->ep g T L o k v w':=by
 rintro v w w' h ⟨c,hc,hj⟩;rcases h.2.2.2.2 g (ae.1 hc).1 with e|⟨-,c1,c2,e1,e2,-,e4⟩
 ·exact⟨c,e.trans hc,hj⟩
 ·rw[hc]at e1
  cases e1;refine⟨c2,e2,λj h1 h2=>?_⟩;rcases e4 j with e|e
  ·rw[e];exact hj j h1 h2
  ·exact e
theorem Kx{g:Nat}{T:TypeId}{L:Array Value}{w w':World}(h:EC g T L w w'){c:Array Value}(hc:w.heap[g]?=some (.cells c T)):∃c',w'.heap[g]?=some (.cells c' T)/\c'.size=c.size/\∀j:Nat,c'[j]?=c[j]?∨c'[j]?=L[j]?:=by
 rcases h.2.2.2.2 g (ae.1 hc).1 with e|⟨-,c1,c2,e1,e2,e3,e4⟩
 ·exact⟨c,e.trans hc,rfl,λj => .inl rfl⟩
 ·rw[hc]at e1
  cases e1;exact⟨c2,e2,e3,e4⟩
theorem Ky{g:Nat}{T:TypeId}{L:Array Value}{w w':World}(h:EC g T L w w'){b:Nat}(hb:b<w.heap.size)(hn:b≠g):w'.heap[b]?=w.heap[b]?:=(h.2.2.2.2 b hb).resolve_right λe=>hn e.1
theorem FU{g:Nat}{T:TypeId}{L:Array Value}{W:World}{c:Array Value}(hg:W.heap[g]?=some (.cells c T))(vs:List Value)(o:Nat)(hs:o+vs.length≤c.size)(hL:∀j:Nat,j<vs.length->L[o+j]?=vs[j]?):
  EC g T L W (W.setCells g o vs)/\∀v,ep g T L o vs.length v (W.setCells g o vs):=by
 obtain⟨c',e1,e2,e3,e4⟩:=jw vs o W c hg hs;obtain⟨h1,h2,h3⟩:=jG g vs o W;refine⟨⟨h1,h2,h3,Nat.le_of_eq (setCells_size g vs o W).symm,λb hb=>?_⟩,λv=>⟨c',e1,λj h1 h2=>?_⟩⟩
 ·by_cases hbg:b=g
  ·subst hbg;refine .inr ⟨rfl,c,c',hg,e1,e2,λj=>?_⟩;by_cases hj:o≤j/\j<o+vs.length
   ·have:=e3 (j-o) (by omega);rw[show o+(j-o)=j by omega]at this;have hl:=hL (j-o) (by omega);rw[show o+(j-o)=j by omega]at hl;exact .inr (this.trans hl.symm)
   ·exact .inl (e4 j (by omega))
  ·exact .inl (dY g vs o W hbg)
 ·have:=e3 (j-o) (by omega);rw[show o+(j-o)=j by omega]at this;have hl:=hL (j-o) (by omega);rw[show o+(j-o)=j by omega]at hl;exact this.trans hl.symm
theorem fK{g:Nat}{T:TypeId}{L:Array Value}{W:World}{c:Array Value}{o:Nat}{v:Value}(hg:W.heap[g]?=some (.cells c T))(hs:o<c.size)(hL:L[o]?=some v):
  Xe.gI (EC g T L) W none (ep g T L o 1) undef (W.setCell ⟨g,o,none⟩ v):=by
 obtain⟨h1,h2⟩:=FU (L:=L) hg [v] o (by simp;omega) (λj hj=>by
  have:j=0:=by simpa using hj
  subst this;simpa using hL)
 exact⟨h1,h2 _,λb hb=>by cases hb⟩
theorem nA{P:Program}{o:Oper}{a:Act}{g:Nat}{T:TypeId}{L:Array Value}{w:World}(t:TypeId)(x y:Operand)(ho:o.op = .store t x y)(off:Nat)(c c':Array Value)(hx:a.eval x = .pointer (some ⟨g,off,none⟩))(hy:a.eval y = .agg c')
  (hg:w.heap[g]?=some (.cells c T)) (hs:off+c'.size≤c.size) (hi:(P.info? t).map (·.size)=some c'.size) (h1:c'.all (·.oneCell')=true) (hL:∀j:Nat,j<c'.size->L[off+j]?=c'[j]?):Xe.dQ (EC g T L) P o a w none (ep g T L off c'.size):=by
 have ht:w.there g off c'.size:=λj hj=>⟨by simp[ak,hg,show off+j<c.size by omega],aN w g (off+j) _ _ hg⟩;obtain⟨e1,e2⟩:=FU (L:=L) hg c'.toList off (by simpa using hs) (λj hj=>by simpa using hL j (by simpa using hj));unfold Xe.dQ execOp;simp only[ho,hx,hy,Instr.storeAt,Instr.sureAddr,Sem.run_bind,Sem.run_pure,oK,run_storeVar_mid w g off t c' ht hi h1];exact⟨e1,by simpa using e2 undef,λb hb=>by cases hb⟩
theorem eH{P:Program}{ops:Array Oper}{rest:List Oper}{o:Oper}{a:Act}{w:World}{Q:Exit->Act->World->Prop}(hgd:o.guard=none)(t:TypeId)(x:Operand)(ho:o.op = .build t #[(0,x)])
  (u v:Value) (hx:a.eval x=u) (hb:(dd t #[(0,u)]).run P w = .ok v w)
  (h:wpList P ops Q rest (a.put o.dst v) w):wpList P ops Q (o::rest) a w:=
 wpList_plain hgd λ_ hK=>by
  unfold Oper.wp execOp;simp only[ho,List.map_toArray,fX,List.map_nil,hx,Sem.run_bind,Sem.run_pure,hb,oK];exact hK _ _ h
structure KI(w:World)(l:List Value)(g1 g2 g3:Nat)(s:List Nat)(W:World):Prop where
 x:Xk.Ext w W
 g:w.heap.size≤g1/\g1<g2/\g2<g3/\g3<W.heap.size
 len:l.length=37
 b1:W.heap[g1]?=some (bq l)
 b2:∃c:List Value,W.heap[g2]?=some (bq c)/\c.length=37
 b3:∃c:List Value,W.heap[g3]?=some (bq c)/\c.length=37/\∀j∈s,c[j]?=l[j]?
theorem KI.cell{w W:World}{l:List Value}{g1 g2 g3:Nat}{s:List Nat}(h:KI w l g1 g2 g3 s W){j:Nat}{v:Value}(hv:l[j]?=some v):W.cell? ⟨g1,j,none⟩=some v:=by
 simp[ak,h.b1,hv]
theorem KI.gK{w W:World}{l:List Value}{g1 g2 g3:Nat}{s:List Nat}(h:KI w l g1 g2 g3 s W){j:Nat}(hj:j<37):(∃v,W.cell? ⟨g3,j,none⟩=some v)/\W.frozen? ⟨g3,j,none⟩=false:=by
 obtain⟨c,h1,h2,-⟩:=h.b3;exact⟨⟨c[j],by simp[ak,h1,show j<c.length by omega]⟩,aN W g3 j _ _ h1⟩
theorem KI.lt1{w W:World}{l:List Value}{g1 g2 g3:Nat}{s:List Nat}(h:KI w l g1 g2 g3 s W):g1<W.heap.size:=(ae.1 h.b1).1
theorem KI.range{w W:World}{l:List Value}{g1 g2 g3:Nat}{s:List Nat}(h:KI w l g1 g2 g3 s W)(o:Nat)(vs:List Value)(hv:∀ (j:Nat) v,vs[j]?=some v->l[o+j]?=some v):W.rangeAt g1 o vs:=λj v hj=>h.cell (hv j v hj)
theorem KI.ec{w W W':World}{l:List Value}{g1 g2 g3:Nat}{s:List Nat}(h:KI w l g1 g2 g3 s W)(he:EC g3 40 l.toArray W.drew W'):KI w l g1 g2 g3 s W':=by
 obtain⟨k1,k2,k3,k4⟩:=h.g;have hs:W.heap.size≤W'.heap.size:=by have:=he.2.2.2.1;rwa [cQ]at this
 have hoff:∀b,b<W.heap.size->b≠g3->W'.heap[b]?=W.heap[b]?:=λb hb hn=>Ky he (by rwa [cQ]) hn;have hxs:=h.x.size;refine⟨⟨he.1.trans h.x.os,he.2.1.trans h.x.tape,he.2.2.1.trans h.x.output,bH h.x.size hs,λb hb=>(hoff b (by omega) (by omega)).trans (h.x.block b hb)⟩,⟨k1,k2,k3,by omega⟩,h.len,(hoff g1 (by omega) (by omega)).trans h.b1,?_,?_⟩
 ·obtain⟨c,e,hc⟩:=h.b2;exact⟨c,(hoff g2 (by omega) (by omega)).trans e,hc⟩
 ·obtain⟨c,e,hc,hj⟩:=h.b3;obtain⟨c',e',hc',hj'⟩:=Kx he (w:=W.drew) e;refine⟨c'.toList,by simpa using e',by simpa[hc]using hc',λj hjs=>?_⟩;have hL:l.toArray[j]?=l[j]?:=by simp
  rcases hj' j with q|q
  ·rw[ib,q];simpa using hj j hjs
  ·rw[ib,q,hL]
theorem KI.more{w W:World}{l:List Value}{g1 g2 g3:Nat}{s:List Nat}{o k:Nat}(h:KI w l g1 g2 g3 s W)(hc:ep g3 40 l.toArray o k undef W):KI w l g1 g2 g3 (ud o k++s) W:=by
 refine⟨h.x,h.g,h.len,h.b1,h.b2,?_⟩;obtain⟨c,e,hl,hj⟩:=h.b3;obtain⟨c',e',hj'⟩:=hc;rw[e]at e'
 cases e';refine⟨c,e,hl,λj hjs=>?_⟩;rcases ef.1 hjs with q|q
 ·have:=List.mem_range'_1.1 q;simpa using hj' j this.1 (by omega)
 ·exact hj j q
theorem KI.uj{w W W':World}{l c:List Value}{g1 g2 g3:Nat}{s:List Nat}(h:KI w l g1 g2 g3 s W)(hb:W.heap[g3]?=some (bq c))(vs:List Value)(o:Nat)(hp:bN g3 (eZ c.toArray o vs) 40 W W')(hv:∀ (j:Nat) v,vs[j]?=some v->l[o+j]?=some v):KI w l g1 g2 g3 (ud o vs.length++s) W':=by
 obtain⟨k1,k2,k3,k4⟩:=h.g;obtain⟨c1,e,hl,hj⟩:=h.b3
 obtain rfl:c1=c:=by
  rw[e]at hb;simpa using hb
 have hs:=hp.size;have hxs:=h.x.size
 have hvl:vs ≠ []->o+vs.length≤37:=λhne=>by
  have hpos:0<vs.length:=List.length_pos_iff.2 hne;have:=hv (vs.length-1) vs[vs.length-1] (by simp);have:=(cP.1 this).1;have:=h.len;omega
 refine⟨⟨hp.os.trans h.x.os,hp.tape.trans h.x.tape,hp.output.trans h.x.output,by omega,λb hb=>(hp.rest b (by omega)).trans (h.x.block b hb)⟩,⟨k1,k2,k3,by omega⟩,h.len,(hp.rest g1 (by omega)).trans h.b1,?_,?_⟩
 ·obtain⟨c2,e2,hc2⟩:=h.b2;exact⟨c2,(hp.rest g2 (by omega)).trans e2,hc2⟩
 ·by_cases hne:vs = []
  ·subst hne;exact⟨c1,by simpa[eZ]using hp.blk,hl,λj hjs=>hj j (by simpa using hjs)⟩
  ·have hle:=hvl hne;obtain⟨c',e1,e2,e3,e4⟩:=jw (T:=40) vs o W c1.toArray e (by simpa[hl]using hle);have ew:=(ky vs o e).symm.trans e1
   have ew2:c'=eZ c1.toArray o vs:=by
    have:=lP ew;injection this with h1
    exact h1.symm
   refine⟨c'.toList,by rw[ew2];simpa using hp.blk,by simpa[hl]using e2,λj hjs=>?_⟩;by_cases hj2:o≤j/\j<o+vs.length
   ·have q:=e3 (j-o) (by omega);rw[show o+(j-o)=j by omega]at q;have q2:=hv (j-o) vs[j-o]! (by rw[aU (by omega)];simp[show j-o<vs.length by omega]);rw[show o+(j-o)=j by omega]at q2;rw[ib,q,q2,aU (by omega)];simp[show j-o<vs.length by omega]
   ·have q:=e4 j (by omega);rw[ib,q];rcases ef.1 hjs with q|q
    ·have:=List.mem_range'_1.1 q;omega
    ·simpa using hj j q
theorem KI.set{w W:World}{l:List Value}{g1 g2 g3:Nat}{s:List Nat}(h:KI w l g1 g2 g3 s W)(o:Nat)(v:Value)(hv:l[o]?=some v):KI w l g1 g2 g3 (o::s) (W.setCell ⟨g3,o,none⟩ v):=by
 obtain⟨c,e,hl,hj⟩:=h.b3
 have:=h.uj e [v] o (gO e [v] o) (λj u hu=>by
  have:j=0:=by have:=(cP.1 hu).1;simp at this;omega
  subst this;simp at hu;subst hu;exact hv)
 exact this
theorem KI.done{w W:World}{l:List Value}{g1 g2 g3:Nat}{s:List Nat}(h:KI w l g1 g2 g3 s W)(hs:∀j,j<37->j∈s):W.heap[g3]?=some (bq l):=by
 obtain⟨c,e,hl,hj⟩:=h.b3;rw[e]
 have:c=l:=List.ext_getElem? λj=>by
  by_cases hjl:j<37
  ·exact hj j (hs j hjl)
  ·rw[List.getElem?_eq_none (by omega),List.getElem?_eq_none (by have:=h.len;omega)]
 rw[this]
theorem Cj{g:Nat}{T:TypeId}{L:Array Value}{Ψ:List (Nat×(Value->World->Prop))}(h:∀x∈Ψ,∀v w w',EC g T L w w'->x.2 v w->x.2 v w'):∀i φ,Xk.dH Ψ i=some φ->∀v w w',EC g T L w w'->φ v w->φ v w':=by
 intro i φ ht;induction Ψ with
 | nil=>cases ht
 | cons x r ih=>
  unfold Xk.dH at ht;split at ht
  ·cases ht;exact h x (cy ..)
  ·exact ih (λy hy=>h y (cO _ hy)) ht
theorem mU{g:Nat}{T:TypeId}{L:Array Value}{Ψ:List (Nat×(Value->World->Prop))}(h:∀x∈Ψ,∃o k,x.2=ep g T L o k):∀i φ,Xk.dH Ψ i=some φ->∀v w w',EC g T L w w'->φ v w->φ v w':=
 Cj λx hx=>by
  obtain⟨o,k,e⟩:=h x hx;rw[e];exact ep.ec
theorem KI.start{w W W3:World}{l z c0:List Value}(hl:l.length=37){s:List Nat}(hW:W=(w.alloc (bq l)).alloc (bq bg))(hp:bN W.heap.size z.toArray 40 (W.alloc (bq c0)) W3)(hz:z.length=37)(hs:∀j∈s,z[j]?=l[j]?):
  KI w l w.heap.size (w.heap.size+1) W.heap.size s W3:=by
 have hsz:W.heap.size=w.heap.size+2:=by rw[hW,af,af]
 have hx:Xk.Ext w W:=by rw[hW];exact((aj _ _).alloc (ag _) _).alloc (by rw[af];omega) _
 have hx2:Xk.Ext W (W.alloc (bq c0)):=(aj _ _).alloc (ag _) _
 have h1:W.heap[w.heap.size]?=some (bq l):=by
  rw[hW];exact(((aj _ _).alloc (ag _) _:Xk.Ext (w.alloc (bq l)) _).block _ (by rw[af];omega)).trans (az w _)
 have h2:W.heap[w.heap.size+1]?=some (bq bg):=by
  rw[hW];have:=az (w.alloc (bq l)) (bq bg);rwa [af]at this
 have hs3:=hp.size;rw[af]at hs3;refine⟨dN hp (Xk.Ext.trans hx hx2) (by omega),⟨ag _,by omega,by omega,by omega⟩,hl,(hp.rest _ (by omega)).trans ((hx2.block _ (by omega)).trans h1),⟨bg,(hp.rest _ (by omega)).trans ((hx2.block _ (by omega)).trans h2),rfl⟩,⟨z,hp.blk,hz,hs⟩⟩
theorem uT(kind:Int)(hk:kind=2∨kind=4)(nm:P12.T)(l:List Value)(hl:l=cA kind [] ah ah ah ah nm [] false ah ah ah noE ah ah noE ah ah 0)(w:World):
    Calls ab 33 #[.agg l.toArray] w λe w'=>e = .returned (.agg l.toArray)/\Xk.Ext w w':=by
  have hn1:(kind==1)=false:=by rcases hk with rfl|rfl<;>rfl
  have hn3:(kind==3)=false:=by rcases hk with rfl|rfl<;>rfl
  have hn5:(kind==5)=false:=by rcases hk with rfl|rfl<;>rfl
  have hn6:(kind==6)=false:=by rcases hk with rfl|rfl<;>rfl
  have hn7:(kind==7)=false:=by rcases hk with rfl|rfl<;>rfl
  have hn8:(kind==8)=false:=by rcases hk with rfl|rfl<;>rfl
  have hn9:(kind==9)=false:=by rcases hk with rfl|rfl<;>rfl
  have hn10:(kind==10)=false:=by rcases hk with rfl|rfl<;>rfl
  have hn11:(kind==11)=false:=by rcases hk with rfl|rfl<;>rfl
  clear hk;have hlen:l.length=37:=by rw[hl];rfl
  have HONE:Hid (l.toArray.all (·.oneCell')=true):=aa (by rw[hl];kernel_rfl);have HSZ:Hid ((ab.info? 40).map (·.size)=some l.toArray.size):=aa (by rw[ar,hlen];kernel_rfl);have c0:l[0]?=some (.int .i64 kind):=by rw[hl];rfl
  obtain⟨z,hz⟩:∃z,z=iK kind 0:=⟨_,rfl⟩;have HBD:Hid (∀W,(dd 40 #[(0,jF .i64 kind)]).run ab W = .ok (.agg z.toArray) W):=aa λW=>by rw[hz];kernel_rfl
  have hzl:z.length=37:=by rw[hz];rfl
  have HZS:Hid ((ab.info? 40).map (·.size)=some z.toArray.size):=aa (by rw[ar,hzl];kernel_rfl);have HZO:Hid (z.toArray.all (·.oneCell')=true):=aa (by rw[hz];kernel_rfl)
  have HS0:Hid (∀j∈([0,1,2,3,4,5,7,8,9,10,11,12,13,14,15,16,17,18,19,20,21,22,23,24,25,26,27,28,29,30,31,32,33,34,35,36]:List Nat),z[j]?=l[j]?):=aa (by
    rw[hz,hl];intro j hj
    first
      | rfl
      | (simp only[aI,aC,or_false]at hj
         repeat(rcases hj with rfl|hj;· rfl)
         first|done|(subst hj;rfl)))
  have HZL:=aa hzl;have HLEN:=aa hlen;have HL:=aa hl
  have HB1:=aa (show((w.alloc (.cells l.toArray 40)).alloc (bq bg)).cell? ⟨w.heap.size,0,none⟩=some (.int .i64 kind) by
    have:((w.alloc (.cells l.toArray 40)).alloc (bq bg)).heap[w.heap.size]?=some (bq l):=(((aj _ _).alloc (ag _) _:Xk.Ext (w.alloc (bq l)) _).block _ (by rw[af];omega)).trans (az w _)
    simp[ak,this,c0])
  clear hz hzl hlen hl c0;go_enter Tryz.func33,Tryz.ntmps33;go_upto_region 1 with fail
  have hc0:=HB1.out;have hlt0:w.heap.size<((w.alloc (.cells l.toArray 40)).alloc (bq bg)).heap.size:=by rw[af,af];omega
  obtain⟨W,hW⟩:∃W,W=(w.alloc (.cells l.toArray 40)).alloc (bq bg):=⟨_,rfl⟩;rw[← hW]at hc0 hlt0 ⊢;have HW:=aa hW;clear hW HB1
  go_wp2_with (first|(refine eH rfl 40 _ rfl (.int .i64 kind) _ rfl (HBD.out _) ?_)|((refine aM rfl 40 _ _ rfl (W.heap.size) _ _ 40 rfl rfl ((az W _)) ((by rw[show z.toArray.size=37 by rw[ar,HZL.out]];rfl)) (HZS.out) (HZO.out) ?_;intro w3 hp3);have HK:=aa (KI.start HLEN.out HW.out hp3 HZL.out HS0.out);clear hp3;have c0:=HK.out.cell (j:=0) (v := .int .i64 kind) (by rw[HL.out];rfl);have l1:=HK.out.lt1;have l3:=HK.out.g.2.2.2;have c6:=HK.out.cell (j:=6) (v:=bs nm) (by rw[HL.out];rfl);have d6:=(HK.out.gK (j:=6) (by decide)).1;have e6:=(HK.out.gK (j:=6) (by decide)).2;obtain⟨v6,d6⟩:=d6;have HK2:=aa (HK.out.set 6 (bs nm) (by rw[HL.out];rfl));have hb3:=HK2.out.done (by decide);obtain⟨c2,hb2,hl2⟩:=HK2.out.b2)|(refine aE rfl 40 _ rfl W.heap.size _ 40 (0,0) _ rfl hb3 av rfl HSZ.out ?_)|(refine aM rfl 40 _ _ rfl ((w.heap.size+1)) _ _ 40 rfl rfl (hb2) ((by simp only[ar,hl2,HLEN.out])) (HSZ.out) (HONE.out) ?_;intro w9 hp9))
  refine aO (bF (fn:=j0) rfl rfl hp9.blk av rfl HSZ.out) rfl ⟨rfl,dN hp9 (HK2.out).x (by have:=(HK2.out).g;omega)⟩
theorem Fa(kind:Int)(hk:kind=9∨kind=10∨kind=11)(l:List Value)(hl:l=iK kind 0)(w:World):
    Calls ab 33 #[.agg l.toArray] w λe w'=>e = .returned (.agg l.toArray)/\Xk.Ext w w':=by
  have hn1:(kind==1)=false:=by rcases hk with rfl|rfl|rfl<;>rfl
  have hn3:(kind==3)=false:=by rcases hk with rfl|rfl|rfl<;>rfl
  have hn5:(kind==5)=false:=by rcases hk with rfl|rfl|rfl<;>rfl
  have hn6:(kind==6)=false:=by rcases hk with rfl|rfl|rfl<;>rfl
  have hn7:(kind==7)=false:=by rcases hk with rfl|rfl|rfl<;>rfl
  have hn8:(kind==8)=false:=by rcases hk with rfl|rfl|rfl<;>rfl
  have ht:(kind==9)=true∨((kind==9)=false/\(kind==10)=true)∨((kind==9)=false/\(kind==10)=false/\(kind==11)=true):=by
    rcases hk with rfl|rfl|rfl
    · exact .inl rfl
    · exact .inr (.inl ⟨rfl,rfl⟩)
    · exact .inr (.inr ⟨rfl,rfl,rfl⟩)
  clear hk;rcases ht with hn9|⟨hn9,hn10⟩|⟨hn9,hn10,hn11⟩
  · have hlen:l.length=37:=by rw[hl];rfl
    have HONE:Hid (l.toArray.all (·.oneCell')=true):=aa (by rw[hl];kernel_rfl);have HSZ:Hid ((ab.info? 40).map (·.size)=some l.toArray.size):=aa (by rw[ar,hlen];kernel_rfl);have c0:l[0]?=some (.int .i64 kind):=by rw[hl];rfl
    obtain⟨z,hz⟩:∃z,z=iK kind 0:=⟨_,rfl⟩;have HBD:Hid (∀W,(dd 40 #[(0,jF .i64 kind)]).run ab W = .ok (.agg z.toArray) W):=aa λW=>by rw[hz];kernel_rfl
    have hzl:z.length=37:=by rw[hz];rfl
    have HZS:Hid ((ab.info? 40).map (·.size)=some z.toArray.size):=aa (by rw[ar,hzl];kernel_rfl);have HZO:Hid (z.toArray.all (·.oneCell')=true):=aa (by rw[hz];kernel_rfl)
    have HS0:Hid (∀j∈((pL 37):List Nat),z[j]?=l[j]?):=aa (by
      rw[hz,hl];intro j hj
      first
        | rfl
        | (simp only[aI,aC,or_false]at hj
           repeat(rcases hj with rfl|hj;· rfl)
           first|done|(subst hj;rfl)))
    have HZL:=aa hzl;have HLEN:=aa hlen;have HL:=aa hl
    have HB1:=aa (show((w.alloc (.cells l.toArray 40)).alloc (bq bg)).cell? ⟨w.heap.size,0,none⟩=some (.int .i64 kind) by
      have:((w.alloc (.cells l.toArray 40)).alloc (bq bg)).heap[w.heap.size]?=some (bq l):=(((aj _ _).alloc (ag _) _:Xk.Ext (w.alloc (bq l)) _).block _ (by rw[af];omega)).trans (az w _)
      simp[ak,this,c0])
    clear hz hzl hlen hl c0;go_enter Tryz.func33,Tryz.ntmps33;go_upto_region 1 with fail
    have hc0:=HB1.out;have hlt0:w.heap.size<((w.alloc (.cells l.toArray 40)).alloc (bq bg)).heap.size:=by rw[af,af];omega
    obtain⟨W,hW⟩:∃W,W=(w.alloc (.cells l.toArray 40)).alloc (bq bg):=⟨_,rfl⟩;rw[← hW]at hc0 hlt0 ⊢;have HW:=aa hW;clear hW HB1
    go_wp2_with (first|(refine eH rfl 40 _ rfl (.int .i64 kind) _ rfl (HBD.out _) ?_)|((refine aM rfl 40 _ _ rfl (W.heap.size) _ _ 40 rfl rfl ((az W _)) ((by rw[show z.toArray.size=37 by rw[ar,HZL.out]];rfl)) (HZS.out) (HZO.out) ?_;intro w3 hp3);have HK:=aa (KI.start HLEN.out HW.out hp3 HZL.out HS0.out);clear hp3;have c0:=HK.out.cell (j:=0) (v := .int .i64 kind) (by rw[HL.out];rfl);have l1:=HK.out.lt1;have l3:=HK.out.g.2.2.2;have hb3:=HK.out.done (by decide);obtain⟨c2,hb2,hl2⟩:=HK.out.b2)|(refine aE rfl 40 _ rfl W.heap.size _ 40 (0,0) _ rfl hb3 av rfl HSZ.out ?_)|(refine aM rfl 40 _ _ rfl ((w.heap.size+1)) _ _ 40 rfl rfl (hb2) ((by simp only[ar,hl2,HLEN.out])) (HSZ.out) (HONE.out) ?_;intro w9 hp9))
    refine aO (bF (fn:=j0) rfl rfl hp9.blk av rfl HSZ.out) rfl ⟨rfl,dN hp9 (HK.out).x (by have:=(HK.out).g;omega)⟩
  · have hlen:l.length=37:=by rw[hl];rfl
    have HONE:Hid (l.toArray.all (·.oneCell')=true):=aa (by rw[hl];kernel_rfl);have HSZ:Hid ((ab.info? 40).map (·.size)=some l.toArray.size):=aa (by rw[ar,hlen];kernel_rfl);have c0:l[0]?=some (.int .i64 kind):=by rw[hl];rfl
    obtain⟨z,hz⟩:∃z,z=iK kind 0:=⟨_,rfl⟩;have HBD:Hid (∀W,(dd 40 #[(0,jF .i64 kind)]).run ab W = .ok (.agg z.toArray) W):=aa λW=>by rw[hz];kernel_rfl
    have hzl:z.length=37:=by rw[hz];rfl
    have HZS:Hid ((ab.info? 40).map (·.size)=some z.toArray.size):=aa (by rw[ar,hzl];kernel_rfl);have HZO:Hid (z.toArray.all (·.oneCell')=true):=aa (by rw[hz];kernel_rfl)
    have HS0:Hid (∀j∈((pL 37):List Nat),z[j]?=l[j]?):=aa (by
      rw[hz,hl];intro j hj
      first
        | rfl
        | (simp only[aI,aC,or_false]at hj
           repeat(rcases hj with rfl|hj;· rfl)
           first|done|(subst hj;rfl)))
    have HZL:=aa hzl;have HLEN:=aa hlen;have HL:=aa hl
    have HB1:=aa (show((w.alloc (.cells l.toArray 40)).alloc (bq bg)).cell? ⟨w.heap.size,0,none⟩=some (.int .i64 kind) by
      have:((w.alloc (.cells l.toArray 40)).alloc (bq bg)).heap[w.heap.size]?=some (bq l):=(((aj _ _).alloc (ag _) _:Xk.Ext (w.alloc (bq l)) _).block _ (by rw[af];omega)).trans (az w _)
      simp[ak,this,c0])
    clear hz hzl hlen hl c0;go_enter Tryz.func33,Tryz.ntmps33;go_upto_region 1 with fail
    have hc0:=HB1.out;have hlt0:w.heap.size<((w.alloc (.cells l.toArray 40)).alloc (bq bg)).heap.size:=by rw[af,af];omega
    obtain⟨W,hW⟩:∃W,W=(w.alloc (.cells l.toArray 40)).alloc (bq bg):=⟨_,rfl⟩;rw[← hW]at hc0 hlt0 ⊢;have HW:=aa hW;clear hW HB1
    go_wp2_with (first|(refine eH rfl 40 _ rfl (.int .i64 kind) _ rfl (HBD.out _) ?_)|((refine aM rfl 40 _ _ rfl (W.heap.size) _ _ 40 rfl rfl ((az W _)) ((by rw[show z.toArray.size=37 by rw[ar,HZL.out]];rfl)) (HZS.out) (HZO.out) ?_;intro w3 hp3);have HK:=aa (KI.start HLEN.out HW.out hp3 HZL.out HS0.out);clear hp3;have c0:=HK.out.cell (j:=0) (v := .int .i64 kind) (by rw[HL.out];rfl);have l1:=HK.out.lt1;have l3:=HK.out.g.2.2.2;have hb3:=HK.out.done (by decide);obtain⟨c2,hb2,hl2⟩:=HK.out.b2)|(refine aE rfl 40 _ rfl W.heap.size _ 40 (0,0) _ rfl hb3 av rfl HSZ.out ?_)|(refine aM rfl 40 _ _ rfl ((w.heap.size+1)) _ _ 40 rfl rfl (hb2) ((by simp only[ar,hl2,HLEN.out])) (HSZ.out) (HONE.out) ?_;intro w9 hp9))
    refine aO (bF (fn:=j0) rfl rfl hp9.blk av rfl HSZ.out) rfl ⟨rfl,dN hp9 (HK.out).x (by have:=(HK.out).g;omega)⟩
  · have hlen:l.length=37:=by rw[hl];rfl
    have HONE:Hid (l.toArray.all (·.oneCell')=true):=aa (by rw[hl];kernel_rfl);have HSZ:Hid ((ab.info? 40).map (·.size)=some l.toArray.size):=aa (by rw[ar,hlen];kernel_rfl);have c0:l[0]?=some (.int .i64 kind):=by rw[hl];rfl
    obtain⟨z,hz⟩:∃z,z=iK kind 0:=⟨_,rfl⟩;have HBD:Hid (∀W,(dd 40 #[(0,jF .i64 kind)]).run ab W = .ok (.agg z.toArray) W):=aa λW=>by rw[hz];kernel_rfl
    have hzl:z.length=37:=by rw[hz];rfl
    have HZS:Hid ((ab.info? 40).map (·.size)=some z.toArray.size):=aa (by rw[ar,hzl];kernel_rfl);have HZO:Hid (z.toArray.all (·.oneCell')=true):=aa (by rw[hz];kernel_rfl)
    have HS0:Hid (∀j∈((pL 37):List Nat),z[j]?=l[j]?):=aa (by
      rw[hz,hl];intro j hj
      first
        | rfl
        | (simp only[aI,aC,or_false]at hj
           repeat(rcases hj with rfl|hj;· rfl)
           first|done|(subst hj;rfl)))
    have HZL:=aa hzl;have HLEN:=aa hlen;have HL:=aa hl
    have HB1:=aa (show((w.alloc (.cells l.toArray 40)).alloc (bq bg)).cell? ⟨w.heap.size,0,none⟩=some (.int .i64 kind) by
      have:((w.alloc (.cells l.toArray 40)).alloc (bq bg)).heap[w.heap.size]?=some (bq l):=(((aj _ _).alloc (ag _) _:Xk.Ext (w.alloc (bq l)) _).block _ (by rw[af];omega)).trans (az w _)
      simp[ak,this,c0])
    clear hz hzl hlen hl c0;go_enter Tryz.func33,Tryz.ntmps33;go_upto_region 1 with fail
    have hc0:=HB1.out;have hlt0:w.heap.size<((w.alloc (.cells l.toArray 40)).alloc (bq bg)).heap.size:=by rw[af,af];omega
    obtain⟨W,hW⟩:∃W,W=(w.alloc (.cells l.toArray 40)).alloc (bq bg):=⟨_,rfl⟩;rw[← hW]at hc0 hlt0 ⊢;have HW:=aa hW;clear hW HB1
    go_wp2_with (first|(refine eH rfl 40 _ rfl (.int .i64 kind) _ rfl (HBD.out _) ?_)|((refine aM rfl 40 _ _ rfl (W.heap.size) _ _ 40 rfl rfl ((az W _)) ((by rw[show z.toArray.size=37 by rw[ar,HZL.out]];rfl)) (HZS.out) (HZO.out) ?_;intro w3 hp3);have HK:=aa (KI.start HLEN.out HW.out hp3 HZL.out HS0.out);clear hp3;have c0:=HK.out.cell (j:=0) (v := .int .i64 kind) (by rw[HL.out];rfl);have l1:=HK.out.lt1;have l3:=HK.out.g.2.2.2;have hb3:=HK.out.done (by decide);obtain⟨c2,hb2,hl2⟩:=HK.out.b2)|(refine aE rfl 40 _ rfl W.heap.size _ 40 (0,0) _ rfl hb3 av rfl HSZ.out ?_)|(refine aM rfl 40 _ _ rfl ((w.heap.size+1)) _ _ 40 rfl rfl (hb2) ((by simp only[ar,hl2,HLEN.out])) (HSZ.out) (HONE.out) ?_;intro w9 hp9))
    refine aO (bF (fn:=j0) rfl rfl hp9.blk av rfl HSZ.out) rfl ⟨rfl,dN hp9 (HK.out).x (by have:=(HK.out).g;omega)⟩
theorem tH{l m:List Value}(o:Nat)(h:∀j:Nat,j<m.length->l[o+j]?=m[j]?):∀ (j:Nat) v,m[j]?=some v->l[o+j]?=some v:=λj v hj=>by
 rw[h j (cP.1 hj).1];exact hj
theorem ye(kind:Int)(hkd:kind=7)(nm:P12.T)(kd op vk vi:Int)(vs tb nn:P12.T)(pp:Option Addr)(pm pc:Nat)(l:List Value)(hl:l=cA kind [] ah ah ah ah nm [] false ah ah ah (au kd op vk vi vs tb nn (.slice pp pm pc)) ah ah noE ah ah 0)(w:World):
    Calls ab 33 #[.agg l.toArray] w λe w'=>e = .returned (.agg l.toArray)/\Xk.Ext w w':=by
  have hn1:(kind==1)=false:=by subst hkd;rfl
  have hn2:(kind==2)=false:=by subst hkd;rfl
  have hn3:(kind==3)=false:=by subst hkd;rfl
  have hn4:(kind==4)=false:=by subst hkd;rfl
  have hn5:(kind==5)=false:=by subst hkd;rfl
  have hn6:(kind==6)=false:=by subst hkd;rfl
  have hn7:(kind==7)=true:=by subst hkd;rfl
  clear hkd
  have HWL:Hid (∀ (j:Nat) v,(au kd op vk vi vs tb nn (.slice pp pm pc))[j]?=some v->l[12+j]?=some v):=aa (by
    rw[hl]
    exact tH 12 (λj hj=>by
      rcases j with _|_|_|_|_|_|_|_|_|_|j
      all_goals first|rfl|(simp at hj;omega)))
  have hlen:l.length=37:=by rw[hl];rfl
  have HONE:Hid (l.toArray.all (·.oneCell')=true):=aa (by rw[hl];kernel_rfl);have HSZ:Hid ((ab.info? 40).map (·.size)=some l.toArray.size):=aa (by rw[ar,hlen];kernel_rfl);have c0:l[0]?=some (.int .i64 kind):=by rw[hl];rfl
  obtain⟨z,hz⟩:∃z,z=iK kind 0:=⟨_,rfl⟩;have HBD:Hid (∀W,(dd 40 #[(0,jF .i64 kind)]).run ab W = .ok (.agg z.toArray) W):=aa λW=>by rw[hz];kernel_rfl
  have hzl:z.length=37:=by rw[hz];rfl
  have HZS:Hid ((ab.info? 40).map (·.size)=some z.toArray.size):=aa (by rw[ar,hzl];kernel_rfl);have HZO:Hid (z.toArray.all (·.oneCell')=true):=aa (by rw[hz];kernel_rfl)
  have HS0:Hid (∀j∈([0,1,2,3,4,5,7,8,9,10,11,22,23,24,25,26,27,28,29,30,31,32,33,34,35,36]:List Nat),z[j]?=l[j]?):=aa (by
    rw[hz,hl];intro j hj
    first
      | rfl
      | (simp only[aI,aC,or_false]at hj
         repeat(rcases hj with rfl|hj;· rfl)
         first|done|(subst hj;rfl)))
  have HZL:=aa hzl;have HLEN:=aa hlen;have HL:=aa hl
  have HB1:=aa (show((w.alloc (.cells l.toArray 40)).alloc (bq bg)).cell? ⟨w.heap.size,0,none⟩=some (.int .i64 kind) by
    have:((w.alloc (.cells l.toArray 40)).alloc (bq bg)).heap[w.heap.size]?=some (bq l):=(((aj _ _).alloc (ag _) _:Xk.Ext (w.alloc (bq l)) _).block _ (by rw[af];omega)).trans (az w _)
    simp[ak,this,c0])
  clear hz hzl hlen hl c0;go_enter Tryz.func33,Tryz.ntmps33;go_upto_region 1 with fail
  have hc0:=HB1.out;have hlt0:w.heap.size<((w.alloc (.cells l.toArray 40)).alloc (bq bg)).heap.size:=by rw[af,af];omega
  obtain⟨W,hW⟩:∃W,W=(w.alloc (.cells l.toArray 40)).alloc (bq bg):=⟨_,rfl⟩;rw[← hW]at hc0 hlt0 ⊢;have HW:=aa hW;clear hW HB1
  go_wp2_with (first|(refine eH rfl 40 _ rfl (.int .i64 kind) _ rfl (HBD.out _) ?_)|((refine aM rfl 40 _ _ rfl (W.heap.size) _ _ 40 rfl rfl ((az W _)) ((by rw[show z.toArray.size=37 by rw[ar,HZL.out]];rfl)) (HZS.out) (HZO.out) ?_;intro w3 hp3);have HK:=aa (KI.start HLEN.out HW.out hp3 HZL.out HS0.out);clear hp3;have c0:=HK.out.cell (j:=0) (v := .int .i64 kind) (by rw[HL.out];rfl);have l1:=HK.out.lt1;have l3:=HK.out.g.2.2.2;have HRW:=aa (HK.out.range 12 _ HWL.out);obtain⟨c3,hc3,hcl3,-⟩:=HK.out.b3)|(refine wpList_load_mid rfl 35 _ rfl w.heap.size 12 rfl _ _ HRW.out aW rfl (by kernel_rfl) ?_)|((refine bt rfl 35 _ _ rfl (W.heap.size) (12) _ _ 40 rfl rfl (hc3) ((by simp[hcl3])) ((by kernel_rfl)) ((by kernel_rfl)) ?_;intro w4 hp4);have HK1:=aa (show KI w l _ _ _ (ud 12 10++_) w4 from HK.out.uj hc3 _ 12 hp4 HWL.out);clear hp4 hc3;have l4:=HK1.out.lt1;have l5:=HK1.out.g.2.2.2;have c6:=HK1.out.cell (j:=6) (v:=bs nm) (by rw[HL.out];rfl);have d6:=(HK1.out.gK (j:=6) (by decide)).1;have e6:=(HK1.out.gK (j:=6) (by decide)).2;obtain⟨v6,d6⟩:=d6;have HK2:=aa (HK1.out.set 6 (bs nm) (by rw[HL.out];rfl));have hb3:=HK2.out.done (by decide);obtain⟨c2,hb2,hl2⟩:=HK2.out.b2)|(refine aE rfl 40 _ rfl W.heap.size _ 40 (0,0) _ rfl hb3 av rfl HSZ.out ?_)|(refine aM rfl 40 _ _ rfl ((w.heap.size+1)) _ _ 40 rfl rfl (hb2) ((by simp only[ar,hl2,HLEN.out])) (HSZ.out) (HONE.out) ?_;intro w9 hp9))
  refine aO (bF (fn:=j0) rfl rfl hp9.blk av rfl HSZ.out) rfl ⟨rfl,dN hp9 (HK2.out).x (by have:=(HK2.out).g;omega)⟩
theorem E9(kind:Int)(hkd:kind=6)(nm:P12.T)(ps:Option Addr)(ns cs:Nat)(kd op vk vi:Int)(vs tb nn:P12.T)(pp:Option Addr)(pm pc:Nat)(l:List Value)(hl:l=cA kind [] ah ah ah ah nm [] false ah ah (.slice ps ns cs) (au kd op vk vi vs tb nn (.slice pp pm pc)) ah ah noE ah ah 0)(w:World):
    Calls ab 33 #[.agg l.toArray] w λe w'=>e = .returned (.agg l.toArray)/\Xk.Ext w w':=by
  have hn1:(kind==1)=false:=by subst hkd;rfl
  have hn2:(kind==2)=false:=by subst hkd;rfl
  have hn3:(kind==3)=false:=by subst hkd;rfl
  have hn4:(kind==4)=false:=by subst hkd;rfl
  have hn5:(kind==5)=false:=by subst hkd;rfl
  have hn6:(kind==6)=true:=by subst hkd;rfl
  clear hkd
  have HWL:Hid (∀ (j:Nat) v,(au kd op vk vi vs tb nn (.slice pp pm pc))[j]?=some v->l[12+j]?=some v):=aa (by
    rw[hl]
    exact tH 12 (λj hj=>by
      rcases j with _|_|_|_|_|_|_|_|_|_|j
      all_goals first|rfl|(simp at hj;omega)))
  have hlen:l.length=37:=by rw[hl];rfl
  have HONE:Hid (l.toArray.all (·.oneCell')=true):=aa (by rw[hl];kernel_rfl);have HSZ:Hid ((ab.info? 40).map (·.size)=some l.toArray.size):=aa (by rw[ar,hlen];kernel_rfl);have c0:l[0]?=some (.int .i64 kind):=by rw[hl];rfl
  obtain⟨z,hz⟩:∃z,z=iK kind 0:=⟨_,rfl⟩;have HBD:Hid (∀W,(dd 40 #[(0,jF .i64 kind)]).run ab W = .ok (.agg z.toArray) W):=aa λW=>by rw[hz];kernel_rfl
  have hzl:z.length=37:=by rw[hz];rfl
  have HZS:Hid ((ab.info? 40).map (·.size)=some z.toArray.size):=aa (by rw[ar,hzl];kernel_rfl);have HZO:Hid (z.toArray.all (·.oneCell')=true):=aa (by rw[hz];kernel_rfl)
  have HS0:Hid (∀j∈([0,1,2,3,4,5,7,8,9,10,22,23,24,25,26,27,28,29,30,31,32,33,34,35,36]:List Nat),z[j]?=l[j]?):=aa (by
    rw[hz,hl];intro j hj
    first
      | rfl
      | (simp only[aI,aC,or_false]at hj
         repeat(rcases hj with rfl|hj;· rfl)
         first|done|(subst hj;rfl)))
  have HZL:=aa hzl;have HLEN:=aa hlen;have HL:=aa hl
  have HB1:=aa (show((w.alloc (.cells l.toArray 40)).alloc (bq bg)).cell? ⟨w.heap.size,0,none⟩=some (.int .i64 kind) by
    have:((w.alloc (.cells l.toArray 40)).alloc (bq bg)).heap[w.heap.size]?=some (bq l):=(((aj _ _).alloc (ag _) _:Xk.Ext (w.alloc (bq l)) _).block _ (by rw[af];omega)).trans (az w _)
    simp[ak,this,c0])
  clear hz hzl hlen hl c0;go_enter Tryz.func33,Tryz.ntmps33;go_upto_region 1 with fail
  have hc0:=HB1.out;have hlt0:w.heap.size<((w.alloc (.cells l.toArray 40)).alloc (bq bg)).heap.size:=by rw[af,af];omega
  obtain⟨W,hW⟩:∃W,W=(w.alloc (.cells l.toArray 40)).alloc (bq bg):=⟨_,rfl⟩;rw[← hW]at hc0 hlt0 ⊢;have HW:=aa hW;clear hW HB1
  go_wp2_with (first|(refine eH rfl 40 _ rfl (.int .i64 kind) _ rfl (HBD.out _) ?_)|((refine aM rfl 40 _ _ rfl (W.heap.size) _ _ 40 rfl rfl ((az W _)) ((by rw[show z.toArray.size=37 by rw[ar,HZL.out]];rfl)) (HZS.out) (HZO.out) ?_;intro w3 hp3);have HK:=aa (KI.start HLEN.out HW.out hp3 HZL.out HS0.out);clear hp3;have c0:=HK.out.cell (j:=0) (v := .int .i64 kind) (by rw[HL.out];rfl);have l1:=HK.out.lt1;have l3:=HK.out.g.2.2.2;have c11:=HK.out.cell (j:=11) (v := .slice ps ns cs) (by rw[HL.out];rfl);have d6:=(HK.out.gK (j:=11) (by decide)).1;have e6:=(HK.out.gK (j:=11) (by decide)).2;obtain⟨v6,d6⟩:=d6;have HKa:=aa (HK.out.set 11 (.slice ps ns cs) (by rw[HL.out];rfl));have HRW:=aa (HKa.out.range 12 _ HWL.out);obtain⟨c3,hc3,hcl3,-⟩:=HKa.out.b3)|(refine wpList_load_mid rfl 35 _ rfl w.heap.size 12 rfl _ _ HRW.out aW rfl (by kernel_rfl) ?_)|((refine bt rfl 35 _ _ rfl (W.heap.size) (12) _ _ 40 rfl rfl (hc3) ((by simp[hcl3])) ((by kernel_rfl)) ((by kernel_rfl)) ?_;intro w4 hp4);have HK1:=aa (show KI w l _ _ _ (ud 12 10++_) w4 from HKa.out.uj hc3 _ 12 hp4 HWL.out);clear hp4 hc3 d6 e6;have l4:=HK1.out.lt1;have l5:=HK1.out.g.2.2.2;have c6:=HK1.out.cell (j:=6) (v:=bs nm) (by rw[HL.out];rfl);have d6:=(HK1.out.gK (j:=6) (by decide)).1;have e6:=(HK1.out.gK (j:=6) (by decide)).2;obtain⟨v6,d6⟩:=d6;have HK2:=aa (HK1.out.set 6 (bs nm) (by rw[HL.out];rfl));have hb3:=HK2.out.done (by decide);obtain⟨c2,hb2,hl2⟩:=HK2.out.b2)|(refine aE rfl 40 _ rfl W.heap.size _ 40 (0,0) _ rfl hb3 av rfl HSZ.out ?_)|(refine aM rfl 40 _ _ rfl ((w.heap.size+1)) _ _ 40 rfl rfl (hb2) ((by simp only[ar,hl2,HLEN.out])) (HSZ.out) (HONE.out) ?_;intro w9 hp9))
  refine aO (bF (fn:=j0) rfl rfl hp9.blk av rfl HSZ.out) rfl ⟨rfl,dN hp9 (HK2.out).x (by have:=(HK2.out).g;omega)⟩
theorem Fb(kind:Int)(hkd:kind=1)(tn:P12.T)(p1 p2 p3 p4:Option Addr)(n1 n2 n3 n4 c1 c2 c3 c4:Nat)(l:List Value)(hl:l=cA kind tn (.slice p1 n1 c1) (.slice p2 n2 c2) (.slice p3 n3 c3) (.slice p4 n4 c4) [] [] false ah ah ah noE ah ah noE ah ah 0)(w:World):
    Calls ab 33 #[.agg l.toArray] w λe w'=>e = .returned (.agg l.toArray)/\Xk.Ext w w':=by
  have hn1:(kind==1)=true:=by subst hkd;rfl
  clear hkd;have HCT:Hid (∀ (s:List Nat) (W':World) {g2 g3:Nat},KI w l w.heap.size g2 g3 s W'->W'.cell? ⟨w.heap.size,1,none⟩=some (bs tn)/\W'.cell? ⟨w.heap.size,2,none⟩=some (.slice p1 n1 c1)/\W'.cell? ⟨w.heap.size,3,none⟩=some (.slice p2 n2 c2)/\W'.cell? ⟨w.heap.size,4,none⟩=some (.slice p3 n3 c3)):=aa λs W' g2 g3 hk=>⟨hk.cell (by rw[hl];rfl),hk.cell (by rw[hl];rfl),hk.cell (by rw[hl];rfl),hk.cell (by rw[hl];rfl)⟩;have HCK:Hid (∀ (s:List Nat) (W':World) {g2 g3:Nat},KI w l w.heap.size g2 g3 s W'->W'.cell? ⟨w.heap.size,5,none⟩=some (.slice p4 n4 c4)):=aa λs W' g2 g3 hk=>hk.cell (by rw[hl];rfl)
  have HTL:Hid (∀j:Nat,j<([bs tn,.slice p1 n1 c1,.slice p2 n2 c2,.slice p3 n3 c3]:List Value).toArray.size->l.toArray[1+j]?=([bs tn,.slice p1 n1 c1,.slice p2 n2 c2,.slice p3 n3 c3]:List Value).toArray[j]?):=aa (by
    rw[hl];intro j hj;rcases j with _|_|_|_|j
    all_goals first|rfl|(simp at hj;omega))
  have hlen:l.length=37:=by rw[hl];rfl
  have HONE:Hid (l.toArray.all (·.oneCell')=true):=aa (by rw[hl];kernel_rfl);have HSZ:Hid ((ab.info? 40).map (·.size)=some l.toArray.size):=aa (by rw[ar,hlen];kernel_rfl);have c0:l[0]?=some (.int .i64 kind):=by rw[hl];rfl
  obtain⟨z,hz⟩:∃z,z=iK kind 0:=⟨_,rfl⟩;have HBD:Hid (∀W,(dd 40 #[(0,jF .i64 kind)]).run ab W = .ok (.agg z.toArray) W):=aa λW=>by rw[hz];kernel_rfl
  have hzl:z.length=37:=by rw[hz];rfl
  have HZS:Hid ((ab.info? 40).map (·.size)=some z.toArray.size):=aa (by rw[ar,hzl];kernel_rfl);have HZO:Hid (z.toArray.all (·.oneCell')=true):=aa (by rw[hz];kernel_rfl)
  have HS0:Hid (∀j∈([0,6,7,8,9,10,11,12,13,14,15,16,17,18,19,20,21,22,23,24,25,26,27,28,29,30,31,32,33,34,35,36]:List Nat),z[j]?=l[j]?):=aa (by
    rw[hz,hl];intro j hj
    first
      | rfl
      | (simp only[aI,aC,or_false]at hj
         repeat(rcases hj with rfl|hj;· rfl)
         first|done|(subst hj;rfl)))
  have HZL:=aa hzl;have HLEN:=aa hlen;have HL:=aa hl
  have HB1:=aa (show((w.alloc (.cells l.toArray 40)).alloc (bq bg)).cell? ⟨w.heap.size,0,none⟩=some (.int .i64 kind) by
    have:((w.alloc (.cells l.toArray 40)).alloc (bq bg)).heap[w.heap.size]?=some (bq l):=(((aj _ _).alloc (ag _) _:Xk.Ext (w.alloc (bq l)) _).block _ (by rw[af];omega)).trans (az w _)
    simp[ak,this,c0])
  clear hz hzl hlen hl c0;go_enter Tryz.func33,Tryz.ntmps33;go_upto_region 1 with fail
  have hc0:=HB1.out;have hlt0:w.heap.size<((w.alloc (.cells l.toArray 40)).alloc (bq bg)).heap.size:=by rw[af,af];omega
  obtain⟨W,hW⟩:∃W,W=(w.alloc (.cells l.toArray 40)).alloc (bq bg):=⟨_,rfl⟩;rw[← hW]at hc0 hlt0 ⊢;have HW:=aa hW;clear hW HB1;go_wp2_with (first|(refine eH rfl 40 _ rfl (.int .i64 kind) _ rfl (HBD.out _) ?_)|((refine aM rfl 40 _ _ rfl (W.heap.size) _ _ 40 rfl rfl ((az W _)) ((by rw[show z.toArray.size=37 by rw[ar,HZL.out]];rfl)) (HZS.out) (HZO.out) ?_;intro w3 hp3);have HK:=aa (KI.start HLEN.out HW.out hp3 HZL.out HS0.out);clear hp3;have c0:=HK.out.cell (j:=0) (v := .int .i64 kind) (by rw[HL.out];rfl);have l1:=HK.out.lt1;have l3:=HK.out.g.2.2.2;skip))
  refine Xe.bB (E:=EC W.heap.size 40 l.toArray) (bY _ _ _) 8 (λ_=>none) (λ_ _ h=>by cases h) (λ_ _ _ _ h=>by cases h) [(5,ep W.heap.size 40 l.toArray 1 4),(7,ep W.heap.size 40 l.toArray 5 1)] (by kernel_rfl) (by kernel_rfl) (mU (by
    intro y hy;simp only[aI,aC,or_false]at hy;repeat(rcases hy with rfl|hy;· exact⟨_,_,rfl⟩)
    first|done|(subst hy;exact⟨_,_,rfl⟩))) ?_
  simp only[aA,aS,aG,aT];(refine Xe.ay (bY _ _ _) (Xk.an (by rfl)) (by rfl) (λK hK=>?_);apply ai;refine⟨λW' hx hp=>?_,?_⟩;(skip;go_simp;exact⟨rfl,rfl⟩);(go_simp;refine hK _ ?_;clear hK K))
  (refine Xe.ay (bY _ _ _) (Xk.an (by rfl)) (by rfl) (λK hK=>?_);apply ai;refine⟨λW' hx hp=>?_,?_⟩;(have hk:=HK.out.ec hx;have q1:=hk.lt1;have q0:=HCT.out _ _ hk;obtain⟨q2,q3,q4,q5⟩:=q0;clear hx hp hk;go_simp;exact⟨rfl,rfl⟩);(go_simp;refine hK _ ?_;clear hK K))
  (refine Xe.ay (bY _ _ _) (Xk.an (by rfl)) (by rfl) (λK hK=>?_);apply ai;refine⟨λW' hx hp=>?_,?_⟩;(skip;go_simp;exact⟨rfl,rfl⟩);(go_simp;refine hK _ ?_;clear hK K))
  (refine Xe.ay (bY _ _ _) (Xk.an (by rfl)) (by rfl) (λK hK=>?_);apply ai;refine⟨λW' hx hp=>?_,?_⟩;(have hk:=HK.out.ec hx;have q1:=hk.lt1;have q0:=HCK.out _ _ hk;obtain q2:=q0;clear hx hp hk;go_simp;exact⟨rfl,rfl⟩);(go_simp;refine hK _ ?_;clear hK K))
  (refine Xe.ay (bY _ _ _) (Xk.an (by rfl)) (by rfl) (λK hK=>?_);apply ai;refine⟨λW' hx hp=>?_,?_⟩;(skip;go_simp;exact⟨rfl,rfl⟩);(go_simp;refine hK _ ?_;clear hK K))
  (refine Xe.bd (bY _ _ _) (by rfl) (by rfl) (λW' hx hp=>?_) (λ_ K hK=>?_);(have hk:=HK.out.ec hx;obtain⟨cq3,hc3,hcl3,-⟩:=hk.b3;exact nA _ _ _ rfl 1 _ ([bs tn,.slice p1 n1 c1,.slice p2 n2 c2,.slice p3 n3 c3]).toArray rfl rfl hc3 (by simp[hcl3]) (by kernel_rfl) (by kernel_rfl) HTL.out);(go_simp;refine hK _ ?_;clear hK K))
  (refine Xe.ay (bY _ _ _) (Xk.an (by rfl)) (by rfl) (λK hK=>?_);apply ai;refine⟨λW' hx hp=>?_,?_⟩;(skip;go_simp;exact⟨rfl,rfl⟩);(go_simp;refine hK _ ?_;clear hK K))
  (refine Xe.bd (bY _ _ _) (by rfl) (by rfl) (λW' hx hp=>?_) (λ_ K hK=>?_);(have hk:=HK.out.ec hx;have q1:=hk.g.2.2.2;obtain⟨⟨v3,d3⟩,e3⟩:=hk.gK (j:=5) (by decide);obtain⟨cq3,hc3,hcl3,-⟩:=hk.b3;clear hx hp;go_simp;exact fK hc3 (by simp only[ar,hcl3];decide) (by rw[HL.out];rfl));(go_simp;refine hK _ ?_;clear hK K))
  refine Xe.bm (λW4 hx hp hG=>?_);obtain⟨h7,h5,-⟩:=hp;have HK1:=aa (((HK.out.ec hx).more h5).more h7);have hb3:=HK1.out.done (by decide);obtain⟨cq2,hb2,hl2⟩:=HK1.out.b2;clear h7 h5 hx hG;go_wp2_with (first|(refine aE rfl 40 _ rfl W.heap.size _ 40 (0,0) _ rfl hb3 av rfl HSZ.out ?_)|(refine aM rfl 40 _ _ rfl ((w.heap.size+1)) _ _ 40 rfl rfl (hb2) ((by simp only[ar,hl2,HLEN.out])) (HSZ.out) (HONE.out) ?_;intro w9 hp9));refine aO (bF (fn:=j0) rfl rfl hp9.blk av rfl HSZ.out) rfl ⟨rfl,dN hp9 (HK1.out).x (by have:=(HK1.out).g;omega)⟩
theorem Fc(kind:Int)(hkd:kind=3)(nm on:P12.T)(un:Bool)(p1:Option Addr)(n1 c1:Nat)(l:List Value)(hl:l=cA kind [] ah ah ah ah nm on un (.slice p1 n1 c1) ah ah noE ah ah noE ah ah 0)(w:World):
    Calls ab 33 #[.agg l.toArray] w λe w'=>e = .returned (.agg l.toArray)/\Xk.Ext w w':=by
  have hn1:(kind==1)=false:=by subst hkd;rfl
  have hn2:(kind==2)=false:=by subst hkd;rfl
  have hn3:(kind==3)=true:=by subst hkd;rfl
  clear hkd;have HC7:Hid (∀ (s:List Nat) (W':World) {g2 g3:Nat},KI w l w.heap.size g2 g3 s W'->W'.cell? ⟨w.heap.size,7,none⟩=some (bs on)):=aa λs W' g2 g3 hk=>hk.cell (by rw[hl];rfl);have HC8:Hid (∀ (s:List Nat) (W':World) {g2 g3:Nat},KI w l w.heap.size g2 g3 s W'->W'.cell? ⟨w.heap.size,8,none⟩=some (.bool un)):=aa λs W' g2 g3 hk=>hk.cell (by rw[hl];rfl);have hlen:l.length=37:=by rw[hl];rfl
  have HONE:Hid (l.toArray.all (·.oneCell')=true):=aa (by rw[hl];kernel_rfl);have HSZ:Hid ((ab.info? 40).map (·.size)=some l.toArray.size):=aa (by rw[ar,hlen];kernel_rfl);have c0:l[0]?=some (.int .i64 kind):=by rw[hl];rfl
  obtain⟨z,hz⟩:∃z,z=iK kind 0:=⟨_,rfl⟩;have HBD:Hid (∀W,(dd 40 #[(0,jF .i64 kind)]).run ab W = .ok (.agg z.toArray) W):=aa λW=>by rw[hz];kernel_rfl
  have hzl:z.length=37:=by rw[hz];rfl
  have HZS:Hid ((ab.info? 40).map (·.size)=some z.toArray.size):=aa (by rw[ar,hzl];kernel_rfl);have HZO:Hid (z.toArray.all (·.oneCell')=true):=aa (by rw[hz];kernel_rfl)
  have HS0:Hid (∀j∈([0,1,2,3,4,5,10,11,12,13,14,15,16,17,18,19,20,21,22,23,24,25,26,27,28,29,30,31,32,33,34,35,36]:List Nat),z[j]?=l[j]?):=aa (by
    rw[hz,hl];intro j hj
    first
      | rfl
      | (simp only[aI,aC,or_false]at hj
         repeat(rcases hj with rfl|hj;· rfl)
         first|done|(subst hj;rfl)))
  have HZL:=aa hzl;have HLEN:=aa hlen;have HL:=aa hl
  have HB1:=aa (show((w.alloc (.cells l.toArray 40)).alloc (bq bg)).cell? ⟨w.heap.size,0,none⟩=some (.int .i64 kind) by
    have:((w.alloc (.cells l.toArray 40)).alloc (bq bg)).heap[w.heap.size]?=some (bq l):=(((aj _ _).alloc (ag _) _:Xk.Ext (w.alloc (bq l)) _).block _ (by rw[af];omega)).trans (az w _)
    simp[ak,this,c0])
  clear hz hzl hlen hl c0;go_enter Tryz.func33,Tryz.ntmps33;go_upto_region 1 with fail
  have hc0:=HB1.out;have hlt0:w.heap.size<((w.alloc (.cells l.toArray 40)).alloc (bq bg)).heap.size:=by rw[af,af];omega
  obtain⟨W,hW⟩:∃W,W=(w.alloc (.cells l.toArray 40)).alloc (bq bg):=⟨_,rfl⟩;rw[← hW]at hc0 hlt0 ⊢;have HW:=aa hW;clear hW HB1;go_wp2_with (first|(refine eH rfl 40 _ rfl (.int .i64 kind) _ rfl (HBD.out _) ?_)|((refine aM rfl 40 _ _ rfl (W.heap.size) _ _ 40 rfl rfl ((az W _)) ((by rw[show z.toArray.size=37 by rw[ar,HZL.out]];rfl)) (HZS.out) (HZO.out) ?_;intro w3 hp3);have HK:=aa (KI.start HLEN.out HW.out hp3 HZL.out HS0.out);clear hp3;have c0:=HK.out.cell (j:=0) (v := .int .i64 kind) (by rw[HL.out];rfl);have l1:=HK.out.lt1;have l3:=HK.out.g.2.2.2;skip))
  refine Xe.bB (E:=EC W.heap.size 40 l.toArray) (bY _ _ _) 8 (λ_=>none) (λ_ _ h=>by cases h) (λ_ _ _ _ h=>by cases h) [(5,ep W.heap.size 40 l.toArray 7 1),(7,ep W.heap.size 40 l.toArray 8 1)] (by kernel_rfl) (by kernel_rfl) (mU (by
    intro y hy;simp only[aI,aC,or_false]at hy;repeat(rcases hy with rfl|hy;· exact⟨_,_,rfl⟩)
    first|done|(subst hy;exact⟨_,_,rfl⟩))) ?_
  simp only[aA,aS,aG,aT];(refine Xe.ay (bY _ _ _) (Xk.an (by rfl)) (by rfl) (λK hK=>?_);apply ai;refine⟨λW' hx hp=>?_,?_⟩;(skip;go_simp;exact⟨rfl,rfl⟩);(go_simp;refine hK _ ?_;clear hK K))
  (refine Xe.ay (bY _ _ _) (Xk.an (by rfl)) (by rfl) (λK hK=>?_);apply ai;refine⟨λW' hx hp=>?_,?_⟩;(have hk:=HK.out.ec hx;have q1:=hk.lt1;have q0:=HC7.out _ _ hk;obtain q2:=q0;clear hx hp hk;go_simp;exact⟨rfl,rfl⟩);(go_simp;refine hK _ ?_;clear hK K))
  (refine Xe.ay (bY _ _ _) (Xk.an (by rfl)) (by rfl) (λK hK=>?_);apply ai;refine⟨λW' hx hp=>?_,?_⟩;(skip;go_simp;exact⟨rfl,rfl⟩);(go_simp;refine hK _ ?_;clear hK K))
  (refine Xe.ay (bY _ _ _) (Xk.an (by rfl)) (by rfl) (λK hK=>?_);apply ai;refine⟨λW' hx hp=>?_,?_⟩;(have hk:=HK.out.ec hx;have q1:=hk.lt1;have q0:=HC8.out _ _ hk;obtain q2:=q0;clear hx hp hk;go_simp;exact⟨rfl,rfl⟩);(go_simp;refine hK _ ?_;clear hK K))
  (refine Xe.ay (bY _ _ _) (Xk.an (by rfl)) (by rfl) (λK hK=>?_);apply ai;refine⟨λW' hx hp=>?_,?_⟩;(skip;go_simp;exact⟨rfl,rfl⟩);(go_simp;refine hK _ ?_;clear hK K))
  (refine Xe.bd (bY _ _ _) (by rfl) (by rfl) (λW' hx hp=>?_) (λ_ K hK=>?_);(have hk:=HK.out.ec hx;have q1:=hk.g.2.2.2;obtain⟨⟨v3,d3⟩,e3⟩:=hk.gK (j:=7) (by decide);obtain⟨cq3,hc3,hcl3,-⟩:=hk.b3;clear hx hp;go_simp;exact fK hc3 (by simp only[ar,hcl3];decide) (by rw[HL.out];rfl));(go_simp;refine hK _ ?_;clear hK K))
  (refine Xe.ay (bY _ _ _) (Xk.an (by rfl)) (by rfl) (λK hK=>?_);apply ai;refine⟨λW' hx hp=>?_,?_⟩;(skip;go_simp;exact⟨rfl,rfl⟩);(go_simp;refine hK _ ?_;clear hK K))
  (refine Xe.bd (bY _ _ _) (by rfl) (by rfl) (λW' hx hp=>?_) (λ_ K hK=>?_);(have hk:=HK.out.ec hx;have q1:=hk.g.2.2.2;obtain⟨⟨v3,d3⟩,e3⟩:=hk.gK (j:=8) (by decide);obtain⟨cq3,hc3,hcl3,-⟩:=hk.b3;clear hx hp;go_simp;exact fK hc3 (by simp only[ar,hcl3];decide) (by rw[HL.out];rfl));(go_simp;refine hK _ ?_;clear hK K))
  refine Xe.bm (λW4 hx hp hG=>?_);obtain⟨h7,h5,-⟩:=hp;have HK1:=aa (((HK.out.ec hx).more h5).more h7);have c9:=HK1.out.cell (j:=9) (v := .slice p1 n1 c1) (by rw[HL.out];rfl);have d9:=(HK1.out.gK (j:=9) (by decide)).1;have e9:=(HK1.out.gK (j:=9) (by decide)).2;obtain⟨v9,d9⟩:=d9;have c6:=HK1.out.cell (j:=6) (v:=bs nm) (by rw[HL.out];rfl);have d6:=(HK1.out.gK (j:=6) (by decide)).1;have e6:=(HK1.out.gK (j:=6) (by decide)).2;obtain⟨v6,d6⟩:=d6;have HK2:=aa ((HK1.out.set 9 (.slice p1 n1 c1) (by rw[HL.out];rfl)).set 6 (bs nm) (by rw[HL.out];rfl));have hb3:=HK2.out.done (by decide)
  obtain⟨cq2,hb2,hl2⟩:=HK2.out.b2;have hne:w.heap.size≠W.heap.size:=by have:=HK.out.g;omega
  have hne2:W.heap.size≠w.heap.size:=λe=>hne e.symm;have l4:=HK1.out.lt1;have l5:=HK1.out.g.2.2.2;clear h7 h5 hx hG;go_wp2_with (first|(refine aE rfl 40 _ rfl W.heap.size _ 40 (0,0) _ rfl hb3 av rfl HSZ.out ?_)|(refine aM rfl 40 _ _ rfl ((w.heap.size+1)) _ _ 40 rfl rfl (hb2) ((by simp only[ar,hl2,HLEN.out])) (HSZ.out) (HONE.out) ?_;intro w9 hp9));refine aO (bF (fn:=j0) rfl rfl hp9.blk av rfl HSZ.out) rfl ⟨rfl,dN hp9 (HK2.out).x (by have:=(HK2.out).g;omega)⟩
theorem yd(kind:Int)(hkd:kind=5)(nm:P12.T)(p1 p2:Option Addr)(n1 c1 n2 c2:Nat)(l:List Value)(hl:l=cA kind [] ah ah ah ah nm [] false (.slice p1 n1 c1) (.slice p2 n2 c2) ah noE ah ah noE ah ah 0)(w:World):
    Calls ab 33 #[.agg l.toArray] w λe w'=>e = .returned (.agg l.toArray)/\Xk.Ext w w':=by
  have hn1:(kind==1)=false:=by subst hkd;rfl
  have hn2:(kind==2)=false:=by subst hkd;rfl
  have hn3:(kind==3)=false:=by subst hkd;rfl
  have hn4:(kind==4)=false:=by subst hkd;rfl
  have hn5:(kind==5)=true:=by subst hkd;rfl
  clear hkd;have HC9:Hid (∀ (s:List Nat) (W':World) {g2 g3:Nat},KI w l w.heap.size g2 g3 s W'->W'.cell? ⟨w.heap.size,9,none⟩=some (.slice p1 n1 c1)):=aa λs W' g2 g3 hk=>hk.cell (by rw[hl];rfl);have HC10:Hid (∀ (s:List Nat) (W':World) {g2 g3:Nat},KI w l w.heap.size g2 g3 s W'->W'.cell? ⟨w.heap.size,10,none⟩=some (.slice p2 n2 c2)):=aa λs W' g2 g3 hk=>hk.cell (by rw[hl];rfl);have hlen:l.length=37:=by rw[hl];rfl
  have HONE:Hid (l.toArray.all (·.oneCell')=true):=aa (by rw[hl];kernel_rfl);have HSZ:Hid ((ab.info? 40).map (·.size)=some l.toArray.size):=aa (by rw[ar,hlen];kernel_rfl);have c0:l[0]?=some (.int .i64 kind):=by rw[hl];rfl
  obtain⟨z,hz⟩:∃z,z=iK kind 0:=⟨_,rfl⟩;have HBD:Hid (∀W,(dd 40 #[(0,jF .i64 kind)]).run ab W = .ok (.agg z.toArray) W):=aa λW=>by rw[hz];kernel_rfl
  have hzl:z.length=37:=by rw[hz];rfl
  have HZS:Hid ((ab.info? 40).map (·.size)=some z.toArray.size):=aa (by rw[ar,hzl];kernel_rfl);have HZO:Hid (z.toArray.all (·.oneCell')=true):=aa (by rw[hz];kernel_rfl)
  have HS0:Hid (∀j∈([0,1,2,3,4,5,7,8,11,12,13,14,15,16,17,18,19,20,21,22,23,24,25,26,27,28,29,30,31,32,33,34,35,36]:List Nat),z[j]?=l[j]?):=aa (by
    rw[hz,hl];intro j hj
    first
      | rfl
      | (simp only[aI,aC,or_false]at hj
         repeat(rcases hj with rfl|hj;· rfl)
         first|done|(subst hj;rfl)))
  have HZL:=aa hzl;have HLEN:=aa hlen;have HL:=aa hl
  have HB1:=aa (show((w.alloc (.cells l.toArray 40)).alloc (bq bg)).cell? ⟨w.heap.size,0,none⟩=some (.int .i64 kind) by
    have:((w.alloc (.cells l.toArray 40)).alloc (bq bg)).heap[w.heap.size]?=some (bq l):=(((aj _ _).alloc (ag _) _:Xk.Ext (w.alloc (bq l)) _).block _ (by rw[af];omega)).trans (az w _)
    simp[ak,this,c0])
  clear hz hzl hlen hl c0;go_enter Tryz.func33,Tryz.ntmps33;go_upto_region 1 with fail
  have hc0:=HB1.out;have hlt0:w.heap.size<((w.alloc (.cells l.toArray 40)).alloc (bq bg)).heap.size:=by rw[af,af];omega
  obtain⟨W,hW⟩:∃W,W=(w.alloc (.cells l.toArray 40)).alloc (bq bg):=⟨_,rfl⟩;rw[← hW]at hc0 hlt0 ⊢;have HW:=aa hW;clear hW HB1;go_wp2_with (first|(refine eH rfl 40 _ rfl (.int .i64 kind) _ rfl (HBD.out _) ?_)|((refine aM rfl 40 _ _ rfl (W.heap.size) _ _ 40 rfl rfl ((az W _)) ((by rw[show z.toArray.size=37 by rw[ar,HZL.out]];rfl)) (HZS.out) (HZO.out) ?_;intro w3 hp3);have HK:=aa (KI.start HLEN.out HW.out hp3 HZL.out HS0.out);clear hp3;have c0:=HK.out.cell (j:=0) (v := .int .i64 kind) (by rw[HL.out];rfl);have l1:=HK.out.lt1;have l3:=HK.out.g.2.2.2;skip))
  refine Xe.bB (E:=EC W.heap.size 40 l.toArray) (bY _ _ _) 8 (λ_=>none) (λ_ _ h=>by cases h) (λ_ _ _ _ h=>by cases h) [(5,ep W.heap.size 40 l.toArray 9 1),(7,ep W.heap.size 40 l.toArray 10 1)] (by kernel_rfl) (by kernel_rfl) (mU (by
    intro y hy;simp only[aI,aC,or_false]at hy;repeat(rcases hy with rfl|hy;· exact⟨_,_,rfl⟩)
    first|done|(subst hy;exact⟨_,_,rfl⟩))) ?_
  simp only[aA,aS,aG,aT];(refine Xe.ay (bY _ _ _) (Xk.an (by rfl)) (by rfl) (λK hK=>?_);apply ai;refine⟨λW' hx hp=>?_,?_⟩;(skip;go_simp;exact⟨rfl,rfl⟩);(go_simp;refine hK _ ?_;clear hK K))
  (refine Xe.ay (bY _ _ _) (Xk.an (by rfl)) (by rfl) (λK hK=>?_);apply ai;refine⟨λW' hx hp=>?_,?_⟩;(have hk:=HK.out.ec hx;have q1:=hk.lt1;have q0:=HC9.out _ _ hk;obtain q2:=q0;clear hx hp hk;go_simp;exact⟨rfl,rfl⟩);(go_simp;refine hK _ ?_;clear hK K))
  (refine Xe.ay (bY _ _ _) (Xk.an (by rfl)) (by rfl) (λK hK=>?_);apply ai;refine⟨λW' hx hp=>?_,?_⟩;(skip;go_simp;exact⟨rfl,rfl⟩);(go_simp;refine hK _ ?_;clear hK K))
  (refine Xe.ay (bY _ _ _) (Xk.an (by rfl)) (by rfl) (λK hK=>?_);apply ai;refine⟨λW' hx hp=>?_,?_⟩;(have hk:=HK.out.ec hx;have q1:=hk.lt1;have q0:=HC10.out _ _ hk;obtain q2:=q0;clear hx hp hk;go_simp;exact⟨rfl,rfl⟩);(go_simp;refine hK _ ?_;clear hK K))
  (refine Xe.ay (bY _ _ _) (Xk.an (by rfl)) (by rfl) (λK hK=>?_);apply ai;refine⟨λW' hx hp=>?_,?_⟩;(skip;go_simp;exact⟨rfl,rfl⟩);(go_simp;refine hK _ ?_;clear hK K))
  (refine Xe.bd (bY _ _ _) (by rfl) (by rfl) (λW' hx hp=>?_) (λ_ K hK=>?_);(have hk:=HK.out.ec hx;have q1:=hk.g.2.2.2;obtain⟨⟨v3,d3⟩,e3⟩:=hk.gK (j:=9) (by decide);obtain⟨cq3,hc3,hcl3,-⟩:=hk.b3;clear hx hp;go_simp;exact fK hc3 (by simp only[ar,hcl3];decide) (by rw[HL.out];rfl));(go_simp;refine hK _ ?_;clear hK K))
  (refine Xe.ay (bY _ _ _) (Xk.an (by rfl)) (by rfl) (λK hK=>?_);apply ai;refine⟨λW' hx hp=>?_,?_⟩;(skip;go_simp;exact⟨rfl,rfl⟩);(go_simp;refine hK _ ?_;clear hK K))
  (refine Xe.bd (bY _ _ _) (by rfl) (by rfl) (λW' hx hp=>?_) (λ_ K hK=>?_);(have hk:=HK.out.ec hx;have q1:=hk.g.2.2.2;obtain⟨⟨v3,d3⟩,e3⟩:=hk.gK (j:=10) (by decide);obtain⟨cq3,hc3,hcl3,-⟩:=hk.b3;clear hx hp;go_simp;exact fK hc3 (by simp only[ar,hcl3];decide) (by rw[HL.out];rfl));(go_simp;refine hK _ ?_;clear hK K))
  refine Xe.bm (λW4 hx hp hG=>?_);obtain⟨h7,h5,-⟩:=hp;have HK1:=aa (((HK.out.ec hx).more h5).more h7);have c6:=HK1.out.cell (j:=6) (v:=bs nm) (by rw[HL.out];rfl);have d6:=(HK1.out.gK (j:=6) (by decide)).1;have e6:=(HK1.out.gK (j:=6) (by decide)).2;obtain⟨v6,d6⟩:=d6;have HK2:=aa (HK1.out.set 6 (bs nm) (by rw[HL.out];rfl));have hb3:=HK2.out.done (by decide);obtain⟨cq2,hb2,hl2⟩:=HK2.out.b2;have hne:w.heap.size≠W.heap.size:=by have:=HK.out.g;omega
  have hne2:W.heap.size≠w.heap.size:=λe=>hne e.symm;have l4:=HK1.out.lt1;have l5:=HK1.out.g.2.2.2;clear h7 h5 hx hG;go_wp2_with (first|(refine aE rfl 40 _ rfl W.heap.size _ 40 (0,0) _ rfl hb3 av rfl HSZ.out ?_)|(refine aM rfl 40 _ _ rfl ((w.heap.size+1)) _ _ 40 rfl rfl (hb2) ((by simp only[ar,hl2,HLEN.out])) (HSZ.out) (HONE.out) ?_;intro w9 hp9));refine aO (bF (fn:=j0) rfl rfl hp9.blk av rfl HSZ.out) rfl ⟨rfl,dN hp9 (HK2.out).x (by have:=(HK2.out).g;omega)⟩
theorem yc(kind lim:Int)(hkd:kind=8)(p1 p2 p3 p4:Option Addr)(n1 c1 n2 c2 n3 c3 n4 c4:Nat)(kdw opw vkw viw:Int)(vsw tbw nnw:P12.T)(qw:Option Addr)(mw dw:Nat)(kdj opj vkj vij:Int)(vsj tbj nnj:P12.T)(qj:Option Addr)(mj dj:Nat)(l:List Value)
    (hl:l=cA kind [] ah ah ah ah [] [] false ah ah ah (au kdw opw vkw viw vsw tbw nnw (.slice qw mw dw)) (.slice p1 n1 c1) (.slice p2 n2 c2) (au kdj opj vkj vij vsj tbj nnj (.slice qj mj dj)) (.slice p3 n3 c3) (.slice p4 n4 c4) lim) (w:World) :
    Calls ab 33 #[.agg l.toArray] w λe w'=>e = .returned (.agg l.toArray)/\Xk.Ext w w':=by
  have hn1:(kind==1)=false:=by subst hkd;rfl
  have hn2:(kind==2)=false:=by subst hkd;rfl
  have hn3:(kind==3)=false:=by subst hkd;rfl
  have hn4:(kind==4)=false:=by subst hkd;rfl
  have hn5:(kind==5)=false:=by subst hkd;rfl
  have hn6:(kind==6)=false:=by subst hkd;rfl
  have hn7:(kind==7)=false:=by subst hkd;rfl
  have hn8:(kind==8)=true:=by subst hkd;rfl
  clear hkd;have HC22:Hid (∀ (s:List Nat) (W':World) {g2 g3:Nat},KI w l w.heap.size g2 g3 s W'->W'.cell? ⟨w.heap.size,22,none⟩=some (.slice p1 n1 c1)):=aa λs W' g2 g3 hk=>hk.cell (by rw[hl];rfl);have HC23:Hid (∀ (s:List Nat) (W':World) {g2 g3:Nat},KI w l w.heap.size g2 g3 s W'->W'.cell? ⟨w.heap.size,23,none⟩=some (.slice p2 n2 c2)):=aa λs W' g2 g3 hk=>hk.cell (by rw[hl];rfl);have HC34:Hid (∀ (s:List Nat) (W':World) {g2 g3:Nat},KI w l w.heap.size g2 g3 s W'->W'.cell? ⟨w.heap.size,34,none⟩=some (.slice p3 n3 c3)):=aa λs W' g2 g3 hk=>hk.cell (by rw[hl];rfl)
  have HC35:Hid (∀ (s:List Nat) (W':World) {g2 g3:Nat},KI w l w.heap.size g2 g3 s W'->W'.cell? ⟨w.heap.size,35,none⟩=some (.slice p4 n4 c4)):=aa λs W' g2 g3 hk=>hk.cell (by rw[hl];rfl);have HC36:Hid (∀ (s:List Nat) (W':World) {g2 g3:Nat},KI w l w.heap.size g2 g3 s W'->W'.cell? ⟨w.heap.size,36,none⟩=some (.int .i64 lim)):=aa λs W' g2 g3 hk=>hk.cell (by rw[hl];rfl)
  have HCW:Hid (∀ (s:List Nat) (W':World) {g2 g3:Nat},KI w l w.heap.size g2 g3 s W'->W'.cell? ⟨w.heap.size,12,none⟩=some (.int .i64 kdw)/\W'.cell? ⟨w.heap.size,13,none⟩=some (.int .i64 opw)/\W'.cell? ⟨w.heap.size,14,none⟩=some (.int .i64 vkw)/\W'.cell? ⟨w.heap.size,15,none⟩=some (.int .i64 viw)/\W'.cell? ⟨w.heap.size,16,none⟩=some (bs vsw)/\W'.cell? ⟨w.heap.size,17,none⟩=some (bs tbw)/\W'.cell? ⟨w.heap.size,18,none⟩=some (bs nnw)/\W'.cell? ⟨w.heap.size,19,none⟩=some (.int .i64 0)/\W'.cell? ⟨w.heap.size,20,none⟩=some (.int .i64 0)/\W'.cell? ⟨w.heap.size,21,none⟩=some (.slice qw mw dw)):=aa λs W' g2 g3 hk=>⟨hk.cell (by rw[hl];rfl),hk.cell (by rw[hl];rfl),hk.cell (by rw[hl];rfl),hk.cell (by rw[hl];rfl),hk.cell (by rw[hl];rfl),hk.cell (by rw[hl];rfl),hk.cell (by rw[hl];rfl),hk.cell (by rw[hl];rfl),hk.cell (by rw[hl];rfl),hk.cell (by rw[hl];rfl)⟩
  have HCJ:Hid (∀ (s:List Nat) (W':World) {g2 g3:Nat},KI w l w.heap.size g2 g3 s W'->W'.cell? ⟨w.heap.size,24,none⟩=some (.int .i64 kdj)/\W'.cell? ⟨w.heap.size,25,none⟩=some (.int .i64 opj)/\W'.cell? ⟨w.heap.size,26,none⟩=some (.int .i64 vkj)/\W'.cell? ⟨w.heap.size,27,none⟩=some (.int .i64 vij)/\W'.cell? ⟨w.heap.size,28,none⟩=some (bs vsj)/\W'.cell? ⟨w.heap.size,29,none⟩=some (bs tbj)/\W'.cell? ⟨w.heap.size,30,none⟩=some (bs nnj)/\W'.cell? ⟨w.heap.size,31,none⟩=some (.int .i64 0)/\W'.cell? ⟨w.heap.size,32,none⟩=some (.int .i64 0)/\W'.cell? ⟨w.heap.size,33,none⟩=some (.slice qj mj dj)):=aa λs W' g2 g3 hk=>⟨hk.cell (by rw[hl];rfl),hk.cell (by rw[hl];rfl),hk.cell (by rw[hl];rfl),hk.cell (by rw[hl];rfl),hk.cell (by rw[hl];rfl),hk.cell (by rw[hl];rfl),hk.cell (by rw[hl];rfl),hk.cell (by rw[hl];rfl),hk.cell (by rw[hl];rfl),hk.cell (by rw[hl];rfl)⟩
  have HTW:Hid (∀j:Nat,j<([.int .i64 kdw,.int .i64 opw,.int .i64 vkw,.int .i64 viw,bs vsw,bs tbw,bs nnw,.int .i64 0,.int .i64 0,.slice qw mw dw]:List Value).toArray.size->l.toArray[12+j]?=([.int .i64 kdw,.int .i64 opw,.int .i64 vkw,.int .i64 viw,bs vsw,bs tbw,bs nnw,.int .i64 0,.int .i64 0,.slice qw mw dw]:List Value).toArray[j]?):=aa (by
    rw[hl];intro j hj;rcases j with _|_|_|_|_|_|_|_|_|_|j
    all_goals first|rfl|(simp at hj;omega))
  have HTJ:Hid (∀j:Nat,j<([.int .i64 kdj,.int .i64 opj,.int .i64 vkj,.int .i64 vij,bs vsj,bs tbj,bs nnj,.int .i64 0,.int .i64 0,.slice qj mj dj]:List Value).toArray.size->l.toArray[24+j]?=([.int .i64 kdj,.int .i64 opj,.int .i64 vkj,.int .i64 vij,bs vsj,bs tbj,bs nnj,.int .i64 0,.int .i64 0,.slice qj mj dj]:List Value).toArray[j]?):=aa (by
    rw[hl];intro j hj;rcases j with _|_|_|_|_|_|_|_|_|_|j
    all_goals first|rfl|(simp at hj;omega))
  have hlen:l.length=37:=by rw[hl];rfl
  have HONE:Hid (l.toArray.all (·.oneCell')=true):=aa (by rw[hl];kernel_rfl);have HSZ:Hid ((ab.info? 40).map (·.size)=some l.toArray.size):=aa (by rw[ar,hlen];kernel_rfl);have c0:l[0]?=some (.int .i64 kind):=by rw[hl];rfl
  obtain⟨z,hz⟩:∃z,z=iK kind 0:=⟨_,rfl⟩;have HBD:Hid (∀W,(dd 40 #[(0,jF .i64 kind)]).run ab W = .ok (.agg z.toArray) W):=aa λW=>by rw[hz];kernel_rfl
  have hzl:z.length=37:=by rw[hz];rfl
  have HZS:Hid ((ab.info? 40).map (·.size)=some z.toArray.size):=aa (by rw[ar,hzl];kernel_rfl);have HZO:Hid (z.toArray.all (·.oneCell')=true):=aa (by rw[hz];kernel_rfl)
  have HS0:Hid (∀j∈([0,1,2,3,4,5,6,7,8,9,10,11]:List Nat),z[j]?=l[j]?):=aa (by
    rw[hz,hl];intro j hj
    first
      | rfl
      | (simp only[aI,aC,or_false]at hj
         repeat(rcases hj with rfl|hj;· rfl)
         first|done|(subst hj;rfl)))
  have HZL:=aa hzl;have HLEN:=aa hlen;have HL:=aa hl
  have HB1:=aa (show((w.alloc (.cells l.toArray 40)).alloc (bq bg)).cell? ⟨w.heap.size,0,none⟩=some (.int .i64 kind) by
    have:((w.alloc (.cells l.toArray 40)).alloc (bq bg)).heap[w.heap.size]?=some (bq l):=(((aj _ _).alloc (ag _) _:Xk.Ext (w.alloc (bq l)) _).block _ (by rw[af];omega)).trans (az w _)
    simp[ak,this,c0])
  clear hz hzl hlen hl c0;go_enter Tryz.func33,Tryz.ntmps33;go_upto_region 1 with fail
  have hc0:=HB1.out;have hlt0:w.heap.size<((w.alloc (.cells l.toArray 40)).alloc (bq bg)).heap.size:=by rw[af,af];omega
  obtain⟨W,hW⟩:∃W,W=(w.alloc (.cells l.toArray 40)).alloc (bq bg):=⟨_,rfl⟩;rw[← hW]at hc0 hlt0 ⊢;have HW:=aa hW;clear hW HB1;go_wp2_with (first|(refine eH rfl 40 _ rfl (.int .i64 kind) _ rfl (HBD.out _) ?_)|((refine aM rfl 40 _ _ rfl (W.heap.size) _ _ 40 rfl rfl ((az W _)) ((by rw[show z.toArray.size=37 by rw[ar,HZL.out]];rfl)) (HZS.out) (HZO.out) ?_;intro w3 hp3);have HK:=aa (KI.start HLEN.out HW.out hp3 HZL.out HS0.out);clear hp3;have c0:=HK.out.cell (j:=0) (v := .int .i64 kind) (by rw[HL.out];rfl);have l1:=HK.out.lt1;have l3:=HK.out.g.2.2.2;skip))
  refine Xe.bB (E:=EC W.heap.size 40 l.toArray) (bY _ _ _) 28 (λ_=>none) (λ_ _ h=>by cases h) (λ_ _ _ _ h=>by cases h) [(15,ep W.heap.size 40 l.toArray 22 1),(17,ep W.heap.size 40 l.toArray 23 1),(19,ep W.heap.size 40 l.toArray 24 10),(21,ep W.heap.size 40 l.toArray 12 10),(23,ep W.heap.size 40 l.toArray 34 1),(25,ep W.heap.size 40 l.toArray 35 1),(27,ep W.heap.size 40 l.toArray 36 1)] (by kernel_rfl) (by kernel_rfl) (mU (by
    intro y hy;simp only[aI,aC,or_false]at hy;repeat(rcases hy with rfl|hy;· exact⟨_,_,rfl⟩)
    first|done|(subst hy;exact⟨_,_,rfl⟩))) ?_
  simp only[aA,aS,aG,aT];(refine Xe.ay (bY _ _ _) (Xk.an (by rfl)) (by rfl) (λK hK=>?_);apply ai;refine⟨λW' hx hp=>?_,?_⟩;(skip;go_simp;exact⟨rfl,rfl⟩);(go_simp;refine hK _ ?_;clear hK K))
  (refine Xe.ay (bY _ _ _) (Xk.an (by rfl)) (by rfl) (λK hK=>?_);apply ai;refine⟨λW' hx hp=>?_,?_⟩;(have hk:=HK.out.ec hx;have q1:=hk.lt1;have q0:=HC22.out _ _ hk;obtain q2:=q0;clear hx hp hk;go_simp;exact⟨rfl,rfl⟩);(go_simp;refine hK _ ?_;clear hK K))
  (refine Xe.ay (bY _ _ _) (Xk.an (by rfl)) (by rfl) (λK hK=>?_);apply ai;refine⟨λW' hx hp=>?_,?_⟩;(skip;go_simp;exact⟨rfl,rfl⟩);(go_simp;refine hK _ ?_;clear hK K))
  (refine Xe.ay (bY _ _ _) (Xk.an (by rfl)) (by rfl) (λK hK=>?_);apply ai;refine⟨λW' hx hp=>?_,?_⟩;(have hk:=HK.out.ec hx;have q1:=hk.lt1;have q0:=HC23.out _ _ hk;obtain q2:=q0;clear hx hp hk;go_simp;exact⟨rfl,rfl⟩);(go_simp;refine hK _ ?_;clear hK K))
  (refine Xe.ay (bY _ _ _) (Xk.an (by rfl)) (by rfl) (λK hK=>?_);apply ai;refine⟨λW' hx hp=>?_,?_⟩;(skip;go_simp;exact⟨rfl,rfl⟩);(go_simp;refine hK _ ?_;clear hK K))
  (refine Xe.ay (bY _ _ _) (Xk.an (by rfl)) (by rfl) (λK hK=>?_);apply ai;refine⟨λW' hx hp=>?_,?_⟩;(have hk:=HK.out.ec hx;have q1:=hk.lt1;have q0:=HCJ.out _ _ hk;obtain⟨q2,q3,q4,q5,q6,q7,q8,q9,q10,q11⟩:=q0;clear hx hp hk;go_simp;exact⟨rfl,rfl⟩);(go_simp;refine hK _ ?_;clear hK K))
  (refine Xe.ay (bY _ _ _) (Xk.an (by rfl)) (by rfl) (λK hK=>?_);apply ai;refine⟨λW' hx hp=>?_,?_⟩;(skip;go_simp;exact⟨rfl,rfl⟩);(go_simp;refine hK _ ?_;clear hK K))
  (refine Xe.ay (bY _ _ _) (Xk.an (by rfl)) (by rfl) (λK hK=>?_);apply ai;refine⟨λW' hx hp=>?_,?_⟩;(have hk:=HK.out.ec hx;have q1:=hk.lt1;have q0:=HCW.out _ _ hk;obtain⟨q2,q3,q4,q5,q6,q7,q8,q9,q10,q11⟩:=q0;clear hx hp hk;go_simp;exact⟨rfl,rfl⟩);(go_simp;refine hK _ ?_;clear hK K))
  (refine Xe.ay (bY _ _ _) (Xk.an (by rfl)) (by rfl) (λK hK=>?_);apply ai;refine⟨λW' hx hp=>?_,?_⟩;(skip;go_simp;exact⟨rfl,rfl⟩);(go_simp;refine hK _ ?_;clear hK K))
  (refine Xe.ay (bY _ _ _) (Xk.an (by rfl)) (by rfl) (λK hK=>?_);apply ai;refine⟨λW' hx hp=>?_,?_⟩;(have hk:=HK.out.ec hx;have q1:=hk.lt1;have q0:=HC34.out _ _ hk;obtain q2:=q0;clear hx hp hk;go_simp;exact⟨rfl,rfl⟩);(go_simp;refine hK _ ?_;clear hK K))
  (refine Xe.ay (bY _ _ _) (Xk.an (by rfl)) (by rfl) (λK hK=>?_);apply ai;refine⟨λW' hx hp=>?_,?_⟩;(skip;go_simp;exact⟨rfl,rfl⟩);(go_simp;refine hK _ ?_;clear hK K))
  (refine Xe.ay (bY _ _ _) (Xk.an (by rfl)) (by rfl) (λK hK=>?_);apply ai;refine⟨λW' hx hp=>?_,?_⟩;(have hk:=HK.out.ec hx;have q1:=hk.lt1;have q0:=HC35.out _ _ hk;obtain q2:=q0;clear hx hp hk;go_simp;exact⟨rfl,rfl⟩);(go_simp;refine hK _ ?_;clear hK K))
  (refine Xe.ay (bY _ _ _) (Xk.an (by rfl)) (by rfl) (λK hK=>?_);apply ai;refine⟨λW' hx hp=>?_,?_⟩;(skip;go_simp;exact⟨rfl,rfl⟩);(go_simp;refine hK _ ?_;clear hK K))
  (refine Xe.ay (bY _ _ _) (Xk.an (by rfl)) (by rfl) (λK hK=>?_);apply ai;refine⟨λW' hx hp=>?_,?_⟩;(have hk:=HK.out.ec hx;have q1:=hk.lt1;have q0:=HC36.out _ _ hk;obtain q2:=q0;clear hx hp hk;go_simp;exact⟨rfl,rfl⟩);(go_simp;refine hK _ ?_;clear hK K))
  (refine Xe.ay (bY _ _ _) (Xk.an (by rfl)) (by rfl) (λK hK=>?_);apply ai;refine⟨λW' hx hp=>?_,?_⟩;(skip;go_simp;exact⟨rfl,rfl⟩);(go_simp;refine hK _ ?_;clear hK K))
  (refine Xe.bd (bY _ _ _) (by rfl) (by rfl) (λW' hx hp=>?_) (λ_ K hK=>?_);(have hk:=HK.out.ec hx;have q1:=hk.g.2.2.2;obtain⟨⟨v3,d3⟩,e3⟩:=hk.gK (j:=22) (by decide);obtain⟨cq3,hc3,hcl3,-⟩:=hk.b3;clear hx hp;go_simp;exact fK hc3 (by simp only[ar,hcl3];decide) (by rw[HL.out];rfl));(go_simp;refine hK _ ?_;clear hK K))
  (refine Xe.ay (bY _ _ _) (Xk.an (by rfl)) (by rfl) (λK hK=>?_);apply ai;refine⟨λW' hx hp=>?_,?_⟩;(skip;go_simp;exact⟨rfl,rfl⟩);(go_simp;refine hK _ ?_;clear hK K))
  (refine Xe.bd (bY _ _ _) (by rfl) (by rfl) (λW' hx hp=>?_) (λ_ K hK=>?_);(have hk:=HK.out.ec hx;have q1:=hk.g.2.2.2;obtain⟨⟨v3,d3⟩,e3⟩:=hk.gK (j:=23) (by decide);obtain⟨cq3,hc3,hcl3,-⟩:=hk.b3;clear hx hp;go_simp;exact fK hc3 (by simp only[ar,hcl3];decide) (by rw[HL.out];rfl));(go_simp;refine hK _ ?_;clear hK K))
  (refine Xe.ay (bY _ _ _) (Xk.an (by rfl)) (by rfl) (λK hK=>?_);apply ai;refine⟨λW' hx hp=>?_,?_⟩;(skip;go_simp;exact⟨rfl,rfl⟩);(go_simp;refine hK _ ?_;clear hK K))
  (refine Xe.bd (bY _ _ _) (by rfl) (by rfl) (λW' hx hp=>?_) (λ_ K hK=>?_);(have hk:=HK.out.ec hx;obtain⟨cq3,hc3,hcl3,-⟩:=hk.b3;exact nA _ _ _ rfl 24 _ ([.int .i64 kdj,.int .i64 opj,.int .i64 vkj,.int .i64 vij,bs vsj,bs tbj,bs nnj,.int .i64 0,.int .i64 0,.slice qj mj dj]).toArray rfl rfl hc3 (by simp[hcl3]) (by kernel_rfl) (by kernel_rfl) HTJ.out);(go_simp;refine hK _ ?_;clear hK K))
  (refine Xe.ay (bY _ _ _) (Xk.an (by rfl)) (by rfl) (λK hK=>?_);apply ai;refine⟨λW' hx hp=>?_,?_⟩;(skip;go_simp;exact⟨rfl,rfl⟩);(go_simp;refine hK _ ?_;clear hK K))
  (refine Xe.bd (bY _ _ _) (by rfl) (by rfl) (λW' hx hp=>?_) (λ_ K hK=>?_);(have hk:=HK.out.ec hx;obtain⟨cq3,hc3,hcl3,-⟩:=hk.b3;exact nA _ _ _ rfl 12 _ ([.int .i64 kdw,.int .i64 opw,.int .i64 vkw,.int .i64 viw,bs vsw,bs tbw,bs nnw,.int .i64 0,.int .i64 0,.slice qw mw dw]).toArray rfl rfl hc3 (by simp[hcl3]) (by kernel_rfl) (by kernel_rfl) HTW.out);(go_simp;refine hK _ ?_;clear hK K))
  (refine Xe.ay (bY _ _ _) (Xk.an (by rfl)) (by rfl) (λK hK=>?_);apply ai;refine⟨λW' hx hp=>?_,?_⟩;(skip;go_simp;exact⟨rfl,rfl⟩);(go_simp;refine hK _ ?_;clear hK K))
  (refine Xe.bd (bY _ _ _) (by rfl) (by rfl) (λW' hx hp=>?_) (λ_ K hK=>?_);(have hk:=HK.out.ec hx;have q1:=hk.g.2.2.2;obtain⟨⟨v3,d3⟩,e3⟩:=hk.gK (j:=34) (by decide);obtain⟨cq3,hc3,hcl3,-⟩:=hk.b3;clear hx hp;go_simp;exact fK hc3 (by simp only[ar,hcl3];decide) (by rw[HL.out];rfl));(go_simp;refine hK _ ?_;clear hK K))
  (refine Xe.ay (bY _ _ _) (Xk.an (by rfl)) (by rfl) (λK hK=>?_);apply ai;refine⟨λW' hx hp=>?_,?_⟩;(skip;go_simp;exact⟨rfl,rfl⟩);(go_simp;refine hK _ ?_;clear hK K))
  (refine Xe.bd (bY _ _ _) (by rfl) (by rfl) (λW' hx hp=>?_) (λ_ K hK=>?_);(have hk:=HK.out.ec hx;have q1:=hk.g.2.2.2;obtain⟨⟨v3,d3⟩,e3⟩:=hk.gK (j:=35) (by decide);obtain⟨cq3,hc3,hcl3,-⟩:=hk.b3;clear hx hp;go_simp;exact fK hc3 (by simp only[ar,hcl3];decide) (by rw[HL.out];rfl));(go_simp;refine hK _ ?_;clear hK K))
  (refine Xe.ay (bY _ _ _) (Xk.an (by rfl)) (by rfl) (λK hK=>?_);apply ai;refine⟨λW' hx hp=>?_,?_⟩;(skip;go_simp;exact⟨rfl,rfl⟩);(go_simp;refine hK _ ?_;clear hK K))
  (refine Xe.bd (bY _ _ _) (by rfl) (by rfl) (λW' hx hp=>?_) (λ_ K hK=>?_);(have hk:=HK.out.ec hx;have q1:=hk.g.2.2.2;obtain⟨⟨v3,d3⟩,e3⟩:=hk.gK (j:=36) (by decide);obtain⟨cq3,hc3,hcl3,-⟩:=hk.b3;clear hx hp;go_simp;exact fK hc3 (by simp only[ar,hcl3];decide) (by rw[HL.out];rfl));(go_simp;refine hK _ ?_;clear hK K))
  refine Xe.bm (λW4 hx hp hG=>?_);obtain⟨h27,h25,h23,h21,h19,h17,h15,-⟩:=hp;have HK2:=aa ((((((((HK.out.ec hx).more h15).more h17).more h19).more h21).more h23).more h25).more h27);have hb3:=HK2.out.done (by decide);obtain⟨cq2,hb2,hl2⟩:=HK2.out.b2;clear h15 h17 h19 h21 h23 h25 h27 hx hG;go_wp2_with (first|(refine aE rfl 40 _ rfl W.heap.size _ 40 (0,0) _ rfl hb3 av rfl HSZ.out ?_)|(refine aM rfl 40 _ _ rfl ((w.heap.size+1)) _ _ 40 rfl rfl (hb2) ((by simp only[ar,hl2,HLEN.out])) (HSZ.out) (HONE.out) ?_;intro w9 hp9))
  refine aO (bF (fn:=j0) rfl rfl hp9.blk av rfl HSZ.out) rfl ⟨rfl,dN hp9 (HK2.out).x (by have:=(HK2.out).g;omega)⟩
theorem aZ{w w':World}{l:List Value}{T:TypeId}(hx:Xk.Ext (w.alloc (.cells l.toArray T)) w')(j:Nat)(v:Value)(h:l[j]?=some v):w'.cell? ⟨w.heap.size,j,none⟩=some v:=by
 have hb:=(hx.block w.heap.size (by rw[af];omega)).trans (az w _);simp[ak,hb,h]
theorem jL{w w':World}{l:List Value}{T:TypeId}(hx:Xk.Ext (w.alloc (.cells l.toArray T)) w')(o:Nat)(m:List Value)(h:∀j:Nat,j<m.length->l[o+j]?=m[j]?):w'.rangeAt w.heap.size o m:=λj v hj=>aZ hx (o+j) v (tH o h j v hj)
theorem wy{w w':World}{l:List Value}{T:TypeId}(hx:Xk.Ext (w.alloc (.cells l.toArray T)) w'):w'.heap[w.heap.size]?=some (.cells l.toArray T):=(hx.block w.heap.size (by rw[af];omega)).trans (az w _)
theorem dz(w:World)(o:Obj):Xk.Ext w (w.alloc o):=(aj _ _).alloc (ag _) _
theorem bG{w w':World}{o:Obj}(hx:Xk.Ext (w.alloc o) w'):Xk.Ext w w':=Xk.Ext.trans (dz w o) hx
theorem iJ{l m:List Value}{o:Nat}(hm:m.length=10)(h0:l[o]?=m[0]?)(h1:l[o+1]?=m[1]?)(h2:l[o+2]?=m[2]?)(h3:l[o+3]?=m[3]?)(h4:l[o+4]?=m[4]?)(h5:l[o+5]?=m[5]?)(h6:l[o+6]?=m[6]?)(h7:l[o+7]?=m[7]?)(h8:l[o+8]?=m[8]?)(h9:l[o+9]?=m[9]?):∀j:Nat,j<m.length->l[o+j]?=m[j]?:=λj hj=>by
 rw[hm]at hj;rcases j with _|_|_|_|_|_|_|_|_|_|j
 ·exact h0
 ·exact h1
 ·exact h2
 ·exact h3
 ·exact h4
 ·exact h5
 ·exact h6
 ·exact h7
 ·exact h8
 ·exact h9
 ·omega
theorem aF.kind{S:Nat->Prop}{w:World}:∀ {e:P12.E} {l:List Value},aF S w e l->P12.isE e=true->∃kd op vk vi vs tb nm pp pm pc,l=au kd op vk vi vs tb nm (.slice pp pm pc)/\kd≠0
 | .none,_,_,he=>by cases he
 | .val _ _ _,_,h,_ | .col _ _,_,h,_ | .all,_,h,_=>by unfold aF at h;exact⟨_,_,_,_,_,_,_,_,_,_,h,by decide⟩
 | .una _ _,_,h,_ | .call _ _,_,h,_=>by unfold aF at h;obtain⟨g,u,-,h,-⟩:=h;exact⟨_,_,_,_,_,_,_,_,_,_,h,by decide⟩
 | .bin _ _ _,_,h,_=>by unfold aF at h;obtain⟨g,u,v,-,h,-⟩:=h;exact⟨_,_,_,_,_,_,_,_,_,_,h,by decide⟩
theorem Ar(w:World):Calls ab 43 #[.agg noE.toArray] w λe w'=>e = .returned (.bool true)/\Xk.Ext w w':=by
 have hga:=az w (cd noE);have HB:=aa λW=>mV W;go_enter Tryz.func43,Tryz.ntmps43;go_wp2_with (refine aE rfl 35 _ rfl (w.heap.size) _ 35 (0,0) _ rfl hga aW rfl (by kernel_rfl) ?_);refine(HB.out _).mono ?_;rintro e w1 ⟨rfl,hx1⟩;go_wp2_with fail;go_ret;exact⟨rfl,bG hx1⟩
theorem Aq(kd op vk vi:Int)(vs tb nm:P12.T)(pp:Option Addr)(pm pc:Nat)(hk:kd≠0)(w:World)(hE:∀W,Xk.Ext w W->Calls ab 36 #[.agg (au kd op vk vi vs tb nm (.slice pp pm pc)).toArray] W λe w'=>e = .returned (.bool true)/\Xk.Ext W w'):Calls ab 43 #[.agg (au kd op vk vi vs tb nm (.slice pp pm pc)).toArray] w λe w'=>e = .returned (.bool true)/\Xk.Ext w w':=by
 have hga:=az w (cd (au kd op vk vi vs tb nm (.slice pp pm pc)));have HB:=aa λW=>tX kd op vk vi vs tb nm pp pm pc hk W;have HE:=aa hE;clear hk hE;go_enter Tryz.func43,Tryz.ntmps43;go_wp2_with (refine aE rfl 35 _ rfl (w.heap.size) _ 35 (0,0) _ rfl hga aW rfl (by kernel_rfl) ?_);refine(HB.out _).mono ?_;rintro e w1 ⟨rfl,hx1⟩;have hgb:=wy hx1;obtain⟨z0,z1,z2,z3,z4,z5,z6,z7,z8,z9,z10⟩:=mR hgb;go_wp2_with fail;refine(HE.out _ (bG hx1)).mono ?_;rintro e w2 ⟨rfl,hx2⟩;go_wp2_with fail;go_ret;exact⟨rfl,Xk.Ext.trans (bG hx1) hx2⟩
theorem mK(e:P12.E)(h:P12.eW e=true)(S:Nat->Prop)(w:World)(l:List Value)(he:aF S w e l):Calls ab 43 #[.agg l.toArray] w λe w'=>e = .returned (.bool true)/\Xk.Ext w w':=by
 cases hn:P12.noE e
 ·have hE:P12.isE e=true:=by simpa[P12.eW,hn]using h
  obtain⟨kd,op,vk,vi,vs,tb,nm,pp,pm,pc,rfl,hk⟩:=he.kind hE;exact Aq kd op vk vi vs tb nm pp pm pc hk w λW hx=>eX e hE S W _ (he.ik hx)
 ·cases e<;>first|cases hn|skip
  unfold aF at he;subst he;exact Ar w
theorem Kk(a:P12.T)(kd op vk vi:Int)(vs tb nm:P12.T)(pp:Option Addr)(pm pc:Nat)(ha:P12.isName a=true)(w:World)(hE:∀W,Xk.Ext w W->Calls ab 36 #[.agg (au kd op vk vi vs tb nm (.slice pp pm pc)).toArray] W λe w'=>e = .returned (.bool true)/\Xk.Ext W w'):
  Calls ab 34 #[.agg (bs a :: .int .i64 0::(au kd op vk vi vs tb nm (.slice pp pm pc))).toArray] w λe w'=>e = .returned (.bool true)/\Xk.Ext w w':=by
 have HN:=aa λW=>eb a ha W;have HE:=aa hE;clear ha hE;go_enter Tryz.func34,Tryz.ntmps34;go_wp2_with fail;refine(HN.out _).mono ?_;rintro e w1 ⟨rfl,hx1⟩;have q1:w1.cell? ⟨w.heap.size,1,none⟩=some (.int .i64 0):=aZ hx1 1 _ rfl;have q2:=aZ (l:=bs a :: .int .i64 0::au kd op vk vi vs tb nm (.slice pp pm pc)) hx1 2 _ rfl;have q3:=aZ (l:=bs a :: .int .i64 0::au kd op vk vi vs tb nm (.slice pp pm pc)) hx1 3 _ rfl;have q4:=aZ (l:=bs a :: .int .i64 0::au kd op vk vi vs tb nm (.slice pp pm pc)) hx1 4 _ rfl;have q5:=aZ (l:=bs a :: .int .i64 0::au kd op vk vi vs tb nm (.slice pp pm pc)) hx1 5 _ rfl
 have q6:=aZ (l:=bs a :: .int .i64 0::au kd op vk vi vs tb nm (.slice pp pm pc)) hx1 6 _ rfl;have q7:=aZ (l:=bs a :: .int .i64 0::au kd op vk vi vs tb nm (.slice pp pm pc)) hx1 7 _ rfl;have q8:=aZ (l:=bs a :: .int .i64 0::au kd op vk vi vs tb nm (.slice pp pm pc)) hx1 8 _ rfl;have q9:=aZ (l:=bs a :: .int .i64 0::au kd op vk vi vs tb nm (.slice pp pm pc)) hx1 9 _ rfl;have q10:=aZ (l:=bs a :: .int .i64 0::au kd op vk vi vs tb nm (.slice pp pm pc)) hx1 10 _ rfl;have q11:=aZ (l:=bs a :: .int .i64 0::au kd op vk vi vs tb nm (.slice pp pm pc)) hx1 11 _ rfl
 have q12:w.heap.size<w1.heap.size:=al _ _ q1;go_wp2_with fail;refine(HE.out _ (bG hx1)).mono ?_;rintro e w2 ⟨rfl,hx2⟩;go_wp2_with fail;go_ret;exact⟨rfl,Xk.Ext.trans (bG hx1) hx2⟩
theorem I3:Ent 34:=⟨λ_ _=>by go_simp,by decide⟩
theorem I4:Ent 37:=⟨λ_ _=>by go_simp,by decide⟩
theorem Kl(pp:Option Addr)(pm pc:Nat)(w:World)(hS:Calls ab 38 #[.slice pp pm pc,.int .i64 16,.func (.func 36) #[] #[]] w λe w'=>e = .returned (.bool true)/\Xk.Ext w w'):
  Calls ab 37 #[.slice pp pm pc] w λe w'=>e = .returned (.bool true)/\Xk.Ext w w':=by
 have HS:=aa hS;clear hS;go_enter Tryz.func37,Tryz.ntmps37;go_wp2_with fail;refine(HS.out).mono ?_;rintro e w2 ⟨rfl,hx2⟩;go_wp2_with fail;go_ret;exact⟨rfl,hx2⟩
theorem I6:Ent 103:=⟨λ_ _=>by go_simp,by decide⟩
theorem Ko(a:P12.T)(ty:Int)(b:Bool)(ha:P12.isName a=true)(h1:1≤ty)(h2:ty≤3)(w:World):
  Calls ab 103 #[.agg [bs a,.int .i64 ty,.bool b].toArray] w λe w'=>e = .returned (.bool true)/\Xk.Ext w w':=by
 have HN:=aa λW=>eb a ha W;clear ha;go_enter Tryz.func103,Tryz.ntmps103;go_wp2_with fail;refine(HN.out _).mono ?_;rintro e w1 ⟨rfl,hx1⟩;have q1:w1.cell? ⟨w.heap.size,1,none⟩=some (.int .i64 ty):=aZ (l := [bs a,.int .i64 ty,.bool b]) hx1 1 _ rfl;go_wp2_with fail;go_ret;exact⟨rfl,bG hx1⟩
theorem FQ:Ent 107:=⟨λ_ _=>by go_simp,by decide⟩
theorem Dk:Ent 108:=⟨λ_ _=>by go_simp,by decide⟩
theorem I2:Ent 109:=⟨λ_ _=>by go_simp,by decide⟩
theorem I5:Ent 110:=⟨λ_ _=>by go_simp,by decide⟩
theorem IK(w:World):Calls ab 107 #[.agg (bf true::(noE ++ [bs []])).toArray] w λe w'=>e = .returned (.bool true)/\Xk.Ext w w':=by
 have HB:=aa λW=>mV W;have HR:=aa (jL (l:=bf true::(noE ++ [bs []])) (aj _ _:Xk.Ext (w.alloc (.cells (bf true::(noE ++ [bs []])).toArray 88)) _) 1 noE (iJ rfl rfl rfl rfl rfl rfl rfl rfl rfl rfl rfl));go_enter Tryz.func107,Tryz.ntmps107;go_wp2_with (refine wpList_load_mid rfl 35 _ rfl w.heap.size 1 rfl _ _ HR.out aW rfl (by kernel_rfl) ?_);refine(HB.out _).mono ?_;rintro e w1 ⟨rfl,hx1⟩;have q1:w1.cell? ⟨w.heap.size,11,none⟩=some (.string ⟨#[]⟩):=aZ (l:=bf true::(noE ++ [bs []])) hx1 11 _ rfl;go_wp2_with fail;go_ret;exact⟨rfl,bG hx1⟩
theorem IL(a:P12.T)(kd op vk vi:Int)(vs tb nm:P12.T)(pp:Option Addr)(pm pc:Nat)(ha:P12.cf a=true)(w:World)(hE:∀W,Xk.Ext w W->Calls ab 36 #[.agg (au kd op vk vi vs tb nm (.slice pp pm pc)).toArray] W λe w'=>e = .returned (.bool true)/\Xk.Ext W w'):
  Calls ab 107 #[.agg (bf false::((au kd op vk vi vs tb nm (.slice pp pm pc))++ [bs a])).toArray] w λe w'=>e = .returned (.bool true)/\Xk.Ext w w':=by
 have HN:=aa λW=>lL a ha W;have HE:=aa hE;clear ha hE;have HR:=aa (jL (l:=bf false::((au kd op vk vi vs tb nm (.slice pp pm pc))++ [bs a])) (aj _ _:Xk.Ext (w.alloc (.cells (bf false::((au kd op vk vi vs tb nm (.slice pp pm pc))++ [bs a])).toArray 88)) _) 1 (au kd op vk vi vs tb nm (.slice pp pm pc)) (iJ rfl rfl rfl rfl rfl rfl rfl rfl rfl rfl rfl));go_enter Tryz.func107,Tryz.ntmps107;go_wp2_with (refine wpList_load_mid rfl 35 _ rfl w.heap.size 1 rfl _ _ HR.out aW rfl (by kernel_rfl) ?_);refine(HE.out _ (dz _ _)).mono ?_;rintro e w1 ⟨rfl,hx1⟩
 have q1:w1.cell? ⟨w.heap.size,11,none⟩=some (bs a):=aZ (l:=bf false::((au kd op vk vi vs tb nm (.slice pp pm pc))++ [bs a])) hx1 11 _ rfl;go_wp2_with fail;refine(HN.out _).mono ?_;rintro e w2 ⟨rfl,hx2⟩;go_wp2_with fail;go_ret;exact⟨rfl,Xk.Ext.trans (bG hx1) hx2⟩
theorem Fg(t n:P12.T)(h:P12.isE (.col t n)=true)(w:World):Calls ab 108 #[.agg (au 2 0 0 0 [] t n ah).toArray] w λe w'=>e = .returned (.bool true)/\Xk.Ext w w':=by
 have hga:=az w (cd (au 2 0 0 0 [] t n ah));have HE:=aa λW=>eX (.col t n) h (λ_=>True) W _ rfl;clear h;go_enter Tryz.func108,Tryz.ntmps108;go_wp2_with (refine aE rfl 35 _ rfl (w.heap.size) _ 35 (0,0) _ rfl hga aW rfl (by kernel_rfl) ?_);refine(HE.out _).mono ?_;rintro e w1 ⟨rfl,hx1⟩;go_wp2_with fail;go_ret;exact⟨rfl,bG hx1⟩
theorem Kj(a b:P12.T)(ha:P12.isName a=true)(hb:P12.cf b=true)(w:World):Calls ab 109 #[.agg [bs a,bs b].toArray] w λe w'=>e = .returned (.bool true)/\Xk.Ext w w':=by
 have HN:=aa λW=>eb a ha W;have HM:=aa λW=>lL b hb W;clear ha hb;go_enter Tryz.func109,Tryz.ntmps109;go_wp2_with fail;refine(HN.out _).mono ?_;rintro e w1 ⟨rfl,hx1⟩;have q1:w1.cell? ⟨w.heap.size,1,none⟩=some (bs b):=aZ (l := [bs a,bs b]) hx1 1 _ rfl;go_wp2_with fail;refine(HM.out _).mono ?_;rintro e w2 ⟨rfl,hx2⟩;go_wp2_with fail;go_ret;exact⟨rfl,Xk.Ext.trans (bG hx1) hx2⟩
theorem Km(b:Bool)(kd op vk vi:Int)(vs tb nm:P12.T)(pp:Option Addr)(pm pc:Nat)(w:World)(hE:∀W,Xk.Ext w W->Calls ab 36 #[.agg (au kd op vk vi vs tb nm (.slice pp pm pc)).toArray] W λe w'=>e = .returned (.bool true)/\Xk.Ext W w'):
  Calls ab 110 #[.agg ((au kd op vk vi vs tb nm (.slice pp pm pc))++ [bf b]).toArray] w λe w'=>e = .returned (.bool true)/\Xk.Ext w w':=by
 have HE:=aa hE;clear hE;have HR:=aa (jL (l:=(au kd op vk vi vs tb nm (.slice pp pm pc))++ [bf b]) (aj _ _:Xk.Ext (w.alloc (.cells ((au kd op vk vi vs tb nm (.slice pp pm pc))++ [bf b]).toArray 92)) _) 0 (au kd op vk vi vs tb nm (.slice pp pm pc)) (iJ rfl rfl rfl rfl rfl rfl rfl rfl rfl rfl rfl));go_enter Tryz.func110,Tryz.ntmps110;go_wp2_with (refine wpList_load_mid rfl 35 _ rfl w.heap.size 0 rfl _ _ HR.out aW rfl (by kernel_rfl) ?_);refine(HE.out _ (dz _ _)).mono ?_;rintro e w1 ⟨rfl,hx1⟩;go_wp2_with fail;go_ret;exact⟨rfl,bG hx1⟩
end Go.Proofs.YtkpmclddjkebeaaGreatDoor
namespace Go.Xk
open Go.RowKit
theorem bZ{P:Program}{o:Oper}{a:Act}{w:World}(t:TypeId)(x:Operand)(ho:o.op = .load t x)(g:Nat)(cs:Array Value)(T:TypeId)(fr:Nat×Nat)(d:TypeDesc)(hx:a.eval x = .pointer (some ⟨g,0,none⟩))(hg:w.heap[g]?=some (.cells cs T fr))
  (hu:P.underlying t=some d) (hd:(match d with | .struct _ | .array _ _=>true|_=>false)=true) (hi:(P.info? t).map (·.size)=some cs.size):jP P o a w (.agg cs):=by
 unfold jP execOp;simp only[ho,hx,Instr.loadAt,Instr.sureAddr,Sem.run_bind,Sem.run_pure,oK,run_loadVar_row (P:=P) w g T t cs fr d hg hu hd hi];exact⟨rfl,rfl⟩
end Go.Xk
namespace Go.Proofs.YtkpmclddjkebeaaGreatDoor
open Go.RowKit
theorem BK(kind:Int)(hk:kind=2∨kind=4)(nm:P12.T)(hN:P12.isName nm=true)(l:List Value)(hl:l=cA kind [] ah ah ah ah nm [] false ah ah ah noE ah ah noE ah ah 0)
  (hK:∀W,Calls ab 33 #[.agg l.toArray] W λe w'=>e = .returned (.agg l.toArray)/\Xk.Ext W w')
  (hS:∀W,Calls ab 32 #[.agg l.toArray,.agg l.toArray] W λe w'=>e = .returned (.bool true)/\Xk.Ext W w') (w:World) :
  Calls ab 14 #[.agg l.toArray] w λe w'=>e = .returned (.bool true)/\Xk.Ext w w':=by
 have HK:=aa hK;have HS:=aa hS;have HN:=aa λW=>eb nm hN W;clear hK hS hN;have hn1:(kind==1)=false:=by rcases hk with rfl|rfl<;>rfl
 have ht:(kind==2)=true∨((kind==2)=false/\(kind==4)=true):=by
  rcases hk with rfl|rfl
  ·exact .inl rfl
  ·exact .inr ⟨rfl,rfl⟩
 clear hk;have hlen:l.length=37:=by rw[hl];rfl
 have HSZ:Hid ((ab.info? 40).map (·.size)=some l.toArray.size):=aa (by rw[ar,hlen];kernel_rfl);have HLEN:=aa hlen;have HL:=aa hl;have HG:Hid (∀p,(Xk.exw (w.alloc (.cells l.toArray 40)).drew p).heap[w.heap.size]?=some (.cells l.toArray 40)):=aa λp=>((Xk.cm _ p).block _ (by rw[cQ,af];omega)).trans (az w _);clear hl hlen;go_enter Tryz.func14,Tryz.ntmps14;go_upto_region 1 with fail
 refine Xk.bL 5 [] trivial (by kernel_rfl) (by kernel_rfl) ?_;simp only[aA,aS,aG,aT];(refine Xk.ay (Xk.an (by rfl)) (by rfl) (λK hK=>?_);refine⟨.agg l.toArray,λp hp=>Xk.bZ 40 _ rfl w.heap.size l.toArray 40 (0,0) _ rfl (HG.out p) av rfl HSZ.out,?_⟩;(go_simp;refine hK _ ?_;clear hK K))
 (refine Xk.ay (Xk.an (by rfl)) (by rfl) (λK hK=>?_);refine⟨.agg l.toArray,λp hp=>Xk.bZ 40 _ rfl w.heap.size l.toArray 40 (0,0) _ rfl (HG.out p) av rfl HSZ.out,?_⟩;(go_simp;refine hK _ ?_;clear hK K))
 repeat(first
  | (refine Xk.ay (Xk.an (by rfl)) (by rfl) (λK hK=>?_);apply ai;refine⟨λp hp=>?_,?_⟩;(go_simp;first|exact⟨rfl,rfl⟩|((try refine⟨by kernel_rfl,?_⟩);(first|(go_at_call 33;((with_reducible refine(HK.out _).mono ?_);exact λe w' h=>h))|(go_at_call 32;((with_reducible refine(HS.out _).mono ?_);exact λe w' h=>h)))));(go_simp;refine hK _ ?_;clear hK K))
  | (refine Xk.bu (by rfl) (λK hK=>?_);go_simp;refine hK _ ?_;clear hK K)
  | (refine Xk.ay (by rfl) (by rfl) (λK hK=>?_);apply ai;refine⟨λp hp=>?_,?_⟩;(go_simp;first|exact⟨rfl,rfl⟩|((try refine⟨by kernel_rfl,?_⟩);(first|(go_at_call 33;((with_reducible refine(HK.out _).mono ?_);exact λe w' h=>h))|(go_at_call 32;((with_reducible refine(HS.out _).mono ?_);exact λe w' h=>h)))));(go_simp;refine hK _ ?_;clear hK K)))
 refine Xk.bm (λp _=>?_);obtain⟨W2,hW2⟩:∃W2,W2=Xk.exw (w.alloc (.cells l.toArray 40)).drew p:=⟨_,rfl⟩;have hx1:Xk.Ext (w.alloc (.cells l.toArray 40)) W2:=by rw[hW2];exact Xk.xt
 rw[← hW2];clear hW2 HK HS HG;have HX1:=aa hx1;have lt2:w.heap.size<W2.heap.size:=by have:=hx1.size;rw[af]at this;omega
 have kc:=aZ hx1 0 (.int .i64 kind) (by rw[HL.out];rfl);clear hx1;have q6:=aZ HX1.out 6 (bs nm) (by rw[HL.out];rfl);rcases ht with hn2|⟨hn2,hn4⟩
 all_goals
  go_wp2_with fail;refine(HN.out _).mono ?_;rintro e w1 ⟨rfl,hx3⟩;go_wp2_with fail;go_ret;exact⟨rfl,Xk.Ext.trans (bG HX1.out) hx3⟩
theorem Kn(kind:Int)(hkd:kind=3)(nm on:P12.T)(un:Bool)(p1:Option Addr)(n1 c1:Nat)(hN:P12.isName nm=true)(hO:P12.isName on=true)(w:World)(l:List Value)(hl:l=cA kind [] ah ah ah ah nm on un (.slice p1 n1 c1) ah ah noE ah ah noE ah ah 0)
  (hC:∀W,Xk.Ext w W->Calls ab 40 #[.slice p1 n1 c1,.int .i64 16,.func (.func 35) #[] #[]] W λe w'=>e = .returned (.bool true)/\Xk.Ext W w')
  (hK:∀W,Calls ab 33 #[.agg l.toArray] W λe w'=>e = .returned (.agg l.toArray)/\Xk.Ext W w')
  (hS:∀W,Calls ab 32 #[.agg l.toArray,.agg l.toArray] W λe w'=>e = .returned (.bool true)/\Xk.Ext W w') :
  Calls ab 14 #[.agg l.toArray] w λe w'=>e = .returned (.bool true)/\Xk.Ext w w':=by
 have HK:=aa hK;have HS:=aa hS;have HC:=aa hC;clear hK hS hC;have hn1:(kind==1)=false:=by subst hkd;rfl
 have hn2:(kind==2)=false:=by subst hkd;rfl
 have hn3:(kind==3)=true:=by subst hkd;rfl
 clear hkd;have hlen:l.length=37:=by rw[hl];rfl
 have HSZ:Hid ((ab.info? 40).map (·.size)=some l.toArray.size):=aa (by rw[ar,hlen];kernel_rfl);have HLEN:=aa hlen;have HL:=aa hl;have HG:Hid (∀p,(Xk.exw (w.alloc (.cells l.toArray 40)).drew p).heap[w.heap.size]?=some (.cells l.toArray 40)):=aa λp=>((Xk.cm _ p).block _ (by rw[cQ,af];omega)).trans (az w _);clear hl hlen;go_enter Tryz.func14,Tryz.ntmps14;go_upto_region 1 with fail
 refine Xk.bL 5 [] trivial (by kernel_rfl) (by kernel_rfl) ?_;simp only[aA,aS,aG,aT];(refine Xk.ay (Xk.an (by rfl)) (by rfl) (λK hK=>?_);refine⟨.agg l.toArray,λp hp=>Xk.bZ 40 _ rfl w.heap.size l.toArray 40 (0,0) _ rfl (HG.out p) av rfl HSZ.out,?_⟩;(go_simp;refine hK _ ?_;clear hK K))
 (refine Xk.ay (Xk.an (by rfl)) (by rfl) (λK hK=>?_);refine⟨.agg l.toArray,λp hp=>Xk.bZ 40 _ rfl w.heap.size l.toArray 40 (0,0) _ rfl (HG.out p) av rfl HSZ.out,?_⟩;(go_simp;refine hK _ ?_;clear hK K))
 repeat(first
  | (refine Xk.ay (Xk.an (by rfl)) (by rfl) (λK hK=>?_);apply ai;refine⟨λp hp=>?_,?_⟩;(go_simp;first|exact⟨rfl,rfl⟩|((try refine⟨by kernel_rfl,?_⟩);(first|(go_at_call 33;((with_reducible refine(HK.out _).mono ?_);exact λe w' h=>h))|(go_at_call 32;((with_reducible refine(HS.out _).mono ?_);exact λe w' h=>h)))));(go_simp;refine hK _ ?_;clear hK K))
  | (refine Xk.bu (by rfl) (λK hK=>?_);go_simp;refine hK _ ?_;clear hK K)
  | (refine Xk.ay (by rfl) (by rfl) (λK hK=>?_);apply ai;refine⟨λp hp=>?_,?_⟩;(go_simp;first|exact⟨rfl,rfl⟩|((try refine⟨by kernel_rfl,?_⟩);(first|(go_at_call 33;((with_reducible refine(HK.out _).mono ?_);exact λe w' h=>h))|(go_at_call 32;((with_reducible refine(HS.out _).mono ?_);exact λe w' h=>h)))));(go_simp;refine hK _ ?_;clear hK K)))
 refine Xk.bm (λp _=>?_);obtain⟨W2,hW2⟩:∃W2,W2=Xk.exw (w.alloc (.cells l.toArray 40)).drew p:=⟨_,rfl⟩;have hx1:Xk.Ext (w.alloc (.cells l.toArray 40)) W2:=by rw[hW2];exact Xk.xt
 rw[← hW2];clear hW2 HK HS HG;have HX1:=aa hx1;have lt2:w.heap.size<W2.heap.size:=by have:=hx1.size;rw[af]at this;omega
 have kc:=aZ hx1 0 (.int .i64 kind) (by rw[HL.out];rfl);clear hx1;have HN:=aa λW=>eb nm hN W;have HO:=aa λW=>eb on hO W;clear hN hO;have q6:=aZ HX1.out 6 (bs nm) (by rw[HL.out];rfl);go_wp2_with fail;refine(HN.out _).mono ?_;rintro e w3 ⟨rfl,hx3⟩;have HX3:=aa (Xk.Ext.trans HX1.out hx3);clear hx3;have q7:=aZ HX3.out 7 (bs on) (by rw[HL.out];rfl);go_wp2_with fail;refine(HO.out _).mono ?_;rintro e w4 ⟨rfl,hx4⟩;have HX4:=aa (Xk.Ext.trans HX3.out hx4);clear hx4 q7;have q9:=aZ HX4.out 9 (.slice p1 n1 c1) (by rw[HL.out];rfl);go_wp2_with fail;refine(HC.out _ (bG HX4.out)).mono ?_;rintro e w5 ⟨rfl,hx5⟩
 go_wp2_with fail;go_ret;exact⟨rfl,Xk.Ext.trans (bG HX4.out) hx5⟩
theorem Fh(kind:Int)(hkd:kind=7)(nm:P12.T)(hN:P12.isName nm=true)(kd op vk vi:Int)(vs tb nn:P12.T)(pp:Option Addr)(pm pc:Nat)(w:World)(l:List Value)(hl:l=cA kind [] ah ah ah ah nm [] false ah ah ah (au kd op vk vi vs tb nn (.slice pp pm pc)) ah ah noE ah ah 0)
  (hM:∀W,Xk.Ext w W->Calls ab 43 #[.agg (au kd op vk vi vs tb nn (.slice pp pm pc)).toArray] W λe w'=>e = .returned (.bool true)/\Xk.Ext W w')
  (hK:∀W,Calls ab 33 #[.agg l.toArray] W λe w'=>e = .returned (.agg l.toArray)/\Xk.Ext W w')
  (hS:∀W,Calls ab 32 #[.agg l.toArray,.agg l.toArray] W λe w'=>e = .returned (.bool true)/\Xk.Ext W w') :
  Calls ab 14 #[.agg l.toArray] w λe w'=>e = .returned (.bool true)/\Xk.Ext w w':=by
 have HK:=aa hK;have HS:=aa hS;have HM:=aa hM;clear hK hS hM;have hn1:(kind==1)=false:=by subst hkd;rfl
 have hn2:(kind==2)=false:=by subst hkd;rfl
 have hn3:(kind==3)=false:=by subst hkd;rfl
 have hn4:(kind==4)=false:=by subst hkd;rfl
 have hn5:(kind==5)=false:=by subst hkd;rfl
 have hn6:(kind==6)=false:=by subst hkd;rfl
 have hn7:(kind==7)=true:=by subst hkd;rfl
 clear hkd;have hlen:l.length=37:=by rw[hl];rfl
 have HSZ:Hid ((ab.info? 40).map (·.size)=some l.toArray.size):=aa (by rw[ar,hlen];kernel_rfl);have HLEN:=aa hlen;have HL:=aa hl;have HG:Hid (∀p,(Xk.exw (w.alloc (.cells l.toArray 40)).drew p).heap[w.heap.size]?=some (.cells l.toArray 40)):=aa λp=>((Xk.cm _ p).block _ (by rw[cQ,af];omega)).trans (az w _);clear hl hlen;go_enter Tryz.func14,Tryz.ntmps14;go_upto_region 1 with fail
 refine Xk.bL 5 [] trivial (by kernel_rfl) (by kernel_rfl) ?_;simp only[aA,aS,aG,aT];(refine Xk.ay (Xk.an (by rfl)) (by rfl) (λK hK=>?_);refine⟨.agg l.toArray,λp hp=>Xk.bZ 40 _ rfl w.heap.size l.toArray 40 (0,0) _ rfl (HG.out p) av rfl HSZ.out,?_⟩;(go_simp;refine hK _ ?_;clear hK K))
 (refine Xk.ay (Xk.an (by rfl)) (by rfl) (λK hK=>?_);refine⟨.agg l.toArray,λp hp=>Xk.bZ 40 _ rfl w.heap.size l.toArray 40 (0,0) _ rfl (HG.out p) av rfl HSZ.out,?_⟩;(go_simp;refine hK _ ?_;clear hK K))
 repeat(first
  | (refine Xk.ay (Xk.an (by rfl)) (by rfl) (λK hK=>?_);apply ai;refine⟨λp hp=>?_,?_⟩;(go_simp;first|exact⟨rfl,rfl⟩|((try refine⟨by kernel_rfl,?_⟩);(first|(go_at_call 33;((with_reducible refine(HK.out _).mono ?_);exact λe w' h=>h))|(go_at_call 32;((with_reducible refine(HS.out _).mono ?_);exact λe w' h=>h)))));(go_simp;refine hK _ ?_;clear hK K))
  | (refine Xk.bu (by rfl) (λK hK=>?_);go_simp;refine hK _ ?_;clear hK K)
  | (refine Xk.ay (by rfl) (by rfl) (λK hK=>?_);apply ai;refine⟨λp hp=>?_,?_⟩;(go_simp;first|exact⟨rfl,rfl⟩|((try refine⟨by kernel_rfl,?_⟩);(first|(go_at_call 33;((with_reducible refine(HK.out _).mono ?_);exact λe w' h=>h))|(go_at_call 32;((with_reducible refine(HS.out _).mono ?_);exact λe w' h=>h)))));(go_simp;refine hK _ ?_;clear hK K)))
 refine Xk.bm (λp _=>?_);obtain⟨W2,hW2⟩:∃W2,W2=Xk.exw (w.alloc (.cells l.toArray 40)).drew p:=⟨_,rfl⟩;have hx1:Xk.Ext (w.alloc (.cells l.toArray 40)) W2:=by rw[hW2];exact Xk.xt
 rw[← hW2];clear hW2 HK HS HG;have HX1:=aa hx1;have lt2:w.heap.size<W2.heap.size:=by have:=hx1.size;rw[af]at this;omega
 have kc:=aZ hx1 0 (.int .i64 kind) (by rw[HL.out];rfl);clear hx1;have HN:=aa λW=>eb nm hN W;clear hN;have q6:=aZ HX1.out 6 (bs nm) (by rw[HL.out];rfl);go_wp2_with fail;refine(HN.out _).mono ?_;rintro e w3 ⟨rfl,hx3⟩;have HX3:=aa (Xk.Ext.trans HX1.out hx3);clear hx3;have q12:=aZ HX3.out 12 _ (by rw[HL.out];rfl);have q13:=aZ HX3.out 13 _ (by rw[HL.out];rfl);have q14:=aZ HX3.out 14 _ (by rw[HL.out];rfl);have q15:=aZ HX3.out 15 _ (by rw[HL.out];rfl);have q16:=aZ HX3.out 16 _ (by rw[HL.out];rfl);have q17:=aZ HX3.out 17 _ (by rw[HL.out];rfl);have q18:=aZ HX3.out 18 _ (by rw[HL.out];rfl)
 have q19:=aZ HX3.out 19 _ (by rw[HL.out];rfl);have q20:=aZ HX3.out 20 _ (by rw[HL.out];rfl);have q21:=aZ HX3.out 21 _ (by rw[HL.out];rfl);have lt3:=al _ _ q12;go_wp2_with fail;refine(HM.out _ (bG HX3.out)).mono ?_;rintro e w5 ⟨rfl,hx5⟩;go_wp2_with fail;go_ret;exact⟨rfl,Xk.Ext.trans (bG HX3.out) hx5⟩
theorem Kg(kind:Int)(hkd:kind=6)(nm:P12.T)(hN:P12.isName nm=true)(p1:Option Addr)(n1 c1:Nat)(kd op vk vi:Int)(vs tb nn:P12.T)(pp:Option Addr)(pm pc:Nat)(w:World)(l:List Value)(hl:l=cA kind [] ah ah ah ah nm [] false ah ah (.slice p1 n1 c1) (au kd op vk vi vs tb nn (.slice pp pm pc)) ah ah noE ah ah 0)
  (hC:∀W,Xk.Ext w W->Calls ab 42 #[.slice p1 n1 c1,.int .i64 16,.func (.func 34) #[] #[]] W λe w'=>e = .returned (.bool true)/\Xk.Ext W w')
  (hM:∀W,Xk.Ext w W->Calls ab 43 #[.agg (au kd op vk vi vs tb nn (.slice pp pm pc)).toArray] W λe w'=>e = .returned (.bool true)/\Xk.Ext W w')
  (hK:∀W,Calls ab 33 #[.agg l.toArray] W λe w'=>e = .returned (.agg l.toArray)/\Xk.Ext W w')
  (hS:∀W,Calls ab 32 #[.agg l.toArray,.agg l.toArray] W λe w'=>e = .returned (.bool true)/\Xk.Ext W w') :
  Calls ab 14 #[.agg l.toArray] w λe w'=>e = .returned (.bool true)/\Xk.Ext w w':=by
 have HK:=aa hK;have HS:=aa hS;have HC:=aa hC;have HM:=aa hM;clear hK hS hC hM;have hn1:(kind==1)=false:=by subst hkd;rfl
 have hn2:(kind==2)=false:=by subst hkd;rfl
 have hn3:(kind==3)=false:=by subst hkd;rfl
 have hn4:(kind==4)=false:=by subst hkd;rfl
 have hn5:(kind==5)=false:=by subst hkd;rfl
 have hn6:(kind==6)=true:=by subst hkd;rfl
 clear hkd;have hlen:l.length=37:=by rw[hl];rfl
 have HSZ:Hid ((ab.info? 40).map (·.size)=some l.toArray.size):=aa (by rw[ar,hlen];kernel_rfl);have HLEN:=aa hlen;have HL:=aa hl;have HG:Hid (∀p,(Xk.exw (w.alloc (.cells l.toArray 40)).drew p).heap[w.heap.size]?=some (.cells l.toArray 40)):=aa λp=>((Xk.cm _ p).block _ (by rw[cQ,af];omega)).trans (az w _);clear hl hlen;go_enter Tryz.func14,Tryz.ntmps14;go_upto_region 1 with fail
 refine Xk.bL 5 [] trivial (by kernel_rfl) (by kernel_rfl) ?_;simp only[aA,aS,aG,aT];(refine Xk.ay (Xk.an (by rfl)) (by rfl) (λK hK=>?_);refine⟨.agg l.toArray,λp hp=>Xk.bZ 40 _ rfl w.heap.size l.toArray 40 (0,0) _ rfl (HG.out p) av rfl HSZ.out,?_⟩;(go_simp;refine hK _ ?_;clear hK K))
 (refine Xk.ay (Xk.an (by rfl)) (by rfl) (λK hK=>?_);refine⟨.agg l.toArray,λp hp=>Xk.bZ 40 _ rfl w.heap.size l.toArray 40 (0,0) _ rfl (HG.out p) av rfl HSZ.out,?_⟩;(go_simp;refine hK _ ?_;clear hK K))
 repeat(first
  | (refine Xk.ay (Xk.an (by rfl)) (by rfl) (λK hK=>?_);apply ai;refine⟨λp hp=>?_,?_⟩;(go_simp;first|exact⟨rfl,rfl⟩|((try refine⟨by kernel_rfl,?_⟩);(first|(go_at_call 33;((with_reducible refine(HK.out _).mono ?_);exact λe w' h=>h))|(go_at_call 32;((with_reducible refine(HS.out _).mono ?_);exact λe w' h=>h)))));(go_simp;refine hK _ ?_;clear hK K))
  | (refine Xk.bu (by rfl) (λK hK=>?_);go_simp;refine hK _ ?_;clear hK K)
  | (refine Xk.ay (by rfl) (by rfl) (λK hK=>?_);apply ai;refine⟨λp hp=>?_,?_⟩;(go_simp;first|exact⟨rfl,rfl⟩|((try refine⟨by kernel_rfl,?_⟩);(first|(go_at_call 33;((with_reducible refine(HK.out _).mono ?_);exact λe w' h=>h))|(go_at_call 32;((with_reducible refine(HS.out _).mono ?_);exact λe w' h=>h)))));(go_simp;refine hK _ ?_;clear hK K)))
 refine Xk.bm (λp _=>?_);obtain⟨W2,hW2⟩:∃W2,W2=Xk.exw (w.alloc (.cells l.toArray 40)).drew p:=⟨_,rfl⟩;have hx1:Xk.Ext (w.alloc (.cells l.toArray 40)) W2:=by rw[hW2];exact Xk.xt
 rw[← hW2];clear hW2 HK HS HG;have HX1:=aa hx1;have lt2:w.heap.size<W2.heap.size:=by have:=hx1.size;rw[af]at this;omega
 have kc:=aZ hx1 0 (.int .i64 kind) (by rw[HL.out];rfl);clear hx1;have HN:=aa λW=>eb nm hN W;clear hN;have q6:=aZ HX1.out 6 (bs nm) (by rw[HL.out];rfl);go_wp2_with fail;refine(HN.out _).mono ?_;rintro e w3 ⟨rfl,hx3⟩;have HX3:=aa (Xk.Ext.trans HX1.out hx3);clear hx3;have q11:=aZ HX3.out 11 (.slice p1 n1 c1) (by rw[HL.out];rfl);go_wp2_with fail;refine(HC.out _ (bG HX3.out)).mono ?_;rintro e w4 ⟨rfl,hx4⟩;have HX4:=aa (Xk.Ext.trans HX3.out hx4);clear hx4 q11;have q12:=aZ HX4.out 12 _ (by rw[HL.out];rfl);have q13:=aZ HX4.out 13 _ (by rw[HL.out];rfl);have q14:=aZ HX4.out 14 _ (by rw[HL.out];rfl)
 have q15:=aZ HX4.out 15 _ (by rw[HL.out];rfl);have q16:=aZ HX4.out 16 _ (by rw[HL.out];rfl);have q17:=aZ HX4.out 17 _ (by rw[HL.out];rfl);have q18:=aZ HX4.out 18 _ (by rw[HL.out];rfl);have q19:=aZ HX4.out 19 _ (by rw[HL.out];rfl);have q20:=aZ HX4.out 20 _ (by rw[HL.out];rfl);have q21:=aZ HX4.out 21 _ (by rw[HL.out];rfl);have lt3:=al _ _ q12;go_wp2_with fail;refine(HM.out _ (bG HX4.out)).mono ?_;rintro e w5 ⟨rfl,hx5⟩;go_wp2_with fail;go_ret;exact⟨rfl,Xk.Ext.trans (bG HX4.out) hx5⟩
theorem IN(kind:Int)(hkd:kind=5)(nm:P12.T)(hN:P12.isName nm=true)(p1 p2:Option Addr)(c1 n2 c2:Nat)(w:World)(l:List Value)(hl:l=cA kind [] ah ah ah ah nm [] false (.slice p1 0 c1) (.slice p2 n2 c2) ah noE ah ah noE ah ah 0)
  (hR:∀W,Xk.Ext w W->Calls ab 41 #[.slice p2 n2 c2,.int .i64 32,.func (.func 37) #[] #[]] W λe w'=>e = .returned (.bool true)/\Xk.Ext W w')
  (hK:∀W,Calls ab 33 #[.agg l.toArray] W λe w'=>e = .returned (.agg l.toArray)/\Xk.Ext W w')
  (hS:∀W,Calls ab 32 #[.agg l.toArray,.agg l.toArray] W λe w'=>e = .returned (.bool true)/\Xk.Ext W w') :
  Calls ab 14 #[.agg l.toArray] w λe w'=>e = .returned (.bool true)/\Xk.Ext w w':=by
 have HK:=aa hK;have HS:=aa hS;have HR:=aa hR;clear hK hS hR;have hn1:(kind==1)=false:=by subst hkd;rfl
 have hn2:(kind==2)=false:=by subst hkd;rfl
 have hn3:(kind==3)=false:=by subst hkd;rfl
 have hn4:(kind==4)=false:=by subst hkd;rfl
 have hn5:(kind==5)=true:=by subst hkd;rfl
 clear hkd;have hlen:l.length=37:=by rw[hl];rfl
 have HSZ:Hid ((ab.info? 40).map (·.size)=some l.toArray.size):=aa (by rw[ar,hlen];kernel_rfl);have HLEN:=aa hlen;have HL:=aa hl;have HG:Hid (∀p,(Xk.exw (w.alloc (.cells l.toArray 40)).drew p).heap[w.heap.size]?=some (.cells l.toArray 40)):=aa λp=>((Xk.cm _ p).block _ (by rw[cQ,af];omega)).trans (az w _);clear hl hlen;go_enter Tryz.func14,Tryz.ntmps14;go_upto_region 1 with fail
 refine Xk.bL 5 [] trivial (by kernel_rfl) (by kernel_rfl) ?_;simp only[aA,aS,aG,aT];(refine Xk.ay (Xk.an (by rfl)) (by rfl) (λK hK=>?_);refine⟨.agg l.toArray,λp hp=>Xk.bZ 40 _ rfl w.heap.size l.toArray 40 (0,0) _ rfl (HG.out p) av rfl HSZ.out,?_⟩;(go_simp;refine hK _ ?_;clear hK K))
 (refine Xk.ay (Xk.an (by rfl)) (by rfl) (λK hK=>?_);refine⟨.agg l.toArray,λp hp=>Xk.bZ 40 _ rfl w.heap.size l.toArray 40 (0,0) _ rfl (HG.out p) av rfl HSZ.out,?_⟩;(go_simp;refine hK _ ?_;clear hK K))
 repeat(first
  | (refine Xk.ay (Xk.an (by rfl)) (by rfl) (λK hK=>?_);apply ai;refine⟨λp hp=>?_,?_⟩;(go_simp;first|exact⟨rfl,rfl⟩|((try refine⟨by kernel_rfl,?_⟩);(first|(go_at_call 33;((with_reducible refine(HK.out _).mono ?_);exact λe w' h=>h))|(go_at_call 32;((with_reducible refine(HS.out _).mono ?_);exact λe w' h=>h)))));(go_simp;refine hK _ ?_;clear hK K))
  | (refine Xk.bu (by rfl) (λK hK=>?_);go_simp;refine hK _ ?_;clear hK K)
  | (refine Xk.ay (by rfl) (by rfl) (λK hK=>?_);apply ai;refine⟨λp hp=>?_,?_⟩;(go_simp;first|exact⟨rfl,rfl⟩|((try refine⟨by kernel_rfl,?_⟩);(first|(go_at_call 33;((with_reducible refine(HK.out _).mono ?_);exact λe w' h=>h))|(go_at_call 32;((with_reducible refine(HS.out _).mono ?_);exact λe w' h=>h)))));(go_simp;refine hK _ ?_;clear hK K)))
 refine Xk.bm (λp _=>?_);obtain⟨W2,hW2⟩:∃W2,W2=Xk.exw (w.alloc (.cells l.toArray 40)).drew p:=⟨_,rfl⟩;have hx1:Xk.Ext (w.alloc (.cells l.toArray 40)) W2:=by rw[hW2];exact Xk.xt
 rw[← hW2];clear hW2 HK HS HG;have HX1:=aa hx1;have lt2:w.heap.size<W2.heap.size:=by have:=hx1.size;rw[af]at this;omega
 have kc:=aZ hx1 0 (.int .i64 kind) (by rw[HL.out];rfl);clear hx1;have HN:=aa λW=>eb nm hN W;clear hN;have q6:=aZ HX1.out 6 (bs nm) (by rw[HL.out];rfl);go_wp2_with fail;refine(HN.out _).mono ?_;rintro e w3 ⟨rfl,hx3⟩;have HX3:=aa (Xk.Ext.trans HX1.out hx3);clear hx3;have q9:=aZ HX3.out 9 (.slice p1 0 c1) (by rw[HL.out];rfl);have q10:=aZ HX3.out 10 (.slice p2 n2 c2) (by rw[HL.out];rfl);go_wp2_with fail;refine(HR.out _ (bG HX3.out)).mono ?_;rintro e w5 ⟨rfl,hx5⟩;go_wp2_with fail;go_ret;exact⟨rfl,Xk.Ext.trans (bG HX3.out) hx5⟩
theorem IM(kind:Int)(hkd:kind=5)(nm:P12.T)(hN:P12.isName nm=true)(p1 p2:Option Addr)(n1 c1 n2 c2:Nat)(h1:1≤n1)(w:World)(l:List Value)(hl:l=cA kind [] ah ah ah ah nm [] false (.slice p1 n1 c1) (.slice p2 n2 c2) ah noE ah ah noE ah ah 0)
  (hC:∀W,Xk.Ext w W->Calls ab 40 #[.slice p1 n1 c1,.int .i64 16,.func (.func 35) #[] #[]] W λe w'=>e = .returned (.bool true)/\Xk.Ext W w')
  (hR:∀W,Xk.Ext w W->Calls ab 41 #[.slice p2 n2 c2,.int .i64 32,.func (.func 37) #[] #[]] W λe w'=>e = .returned (.bool true)/\Xk.Ext W w')
  (hK:∀W,Calls ab 33 #[.agg l.toArray] W λe w'=>e = .returned (.agg l.toArray)/\Xk.Ext W w')
  (hS:∀W,Calls ab 32 #[.agg l.toArray,.agg l.toArray] W λe w'=>e = .returned (.bool true)/\Xk.Ext W w') :
  Calls ab 14 #[.agg l.toArray] w λe w'=>e = .returned (.bool true)/\Xk.Ext w w':=by
 have HK:=aa hK;have HS:=aa hS;have HC:=aa hC;have HR:=aa hR;clear hK hS hC hR;have hn1:(kind==1)=false:=by subst hkd;rfl
 have hn2:(kind==2)=false:=by subst hkd;rfl
 have hn3:(kind==3)=false:=by subst hkd;rfl
 have hn4:(kind==4)=false:=by subst hkd;rfl
 have hn5:(kind==5)=true:=by subst hkd;rfl
 clear hkd;have hlen:l.length=37:=by rw[hl];rfl
 have HSZ:Hid ((ab.info? 40).map (·.size)=some l.toArray.size):=aa (by rw[ar,hlen];kernel_rfl);have HLEN:=aa hlen;have HL:=aa hl;have HG:Hid (∀p,(Xk.exw (w.alloc (.cells l.toArray 40)).drew p).heap[w.heap.size]?=some (.cells l.toArray 40)):=aa λp=>((Xk.cm _ p).block _ (by rw[cQ,af];omega)).trans (az w _);clear hl hlen;go_enter Tryz.func14,Tryz.ntmps14;go_upto_region 1 with fail
 refine Xk.bL 5 [] trivial (by kernel_rfl) (by kernel_rfl) ?_;simp only[aA,aS,aG,aT];(refine Xk.ay (Xk.an (by rfl)) (by rfl) (λK hK=>?_);refine⟨.agg l.toArray,λp hp=>Xk.bZ 40 _ rfl w.heap.size l.toArray 40 (0,0) _ rfl (HG.out p) av rfl HSZ.out,?_⟩;(go_simp;refine hK _ ?_;clear hK K))
 (refine Xk.ay (Xk.an (by rfl)) (by rfl) (λK hK=>?_);refine⟨.agg l.toArray,λp hp=>Xk.bZ 40 _ rfl w.heap.size l.toArray 40 (0,0) _ rfl (HG.out p) av rfl HSZ.out,?_⟩;(go_simp;refine hK _ ?_;clear hK K))
 repeat(first
  | (refine Xk.ay (Xk.an (by rfl)) (by rfl) (λK hK=>?_);apply ai;refine⟨λp hp=>?_,?_⟩;(go_simp;first|exact⟨rfl,rfl⟩|((try refine⟨by kernel_rfl,?_⟩);(first|(go_at_call 33;((with_reducible refine(HK.out _).mono ?_);exact λe w' h=>h))|(go_at_call 32;((with_reducible refine(HS.out _).mono ?_);exact λe w' h=>h)))));(go_simp;refine hK _ ?_;clear hK K))
  | (refine Xk.bu (by rfl) (λK hK=>?_);go_simp;refine hK _ ?_;clear hK K)
  | (refine Xk.ay (by rfl) (by rfl) (λK hK=>?_);apply ai;refine⟨λp hp=>?_,?_⟩;(go_simp;first|exact⟨rfl,rfl⟩|((try refine⟨by kernel_rfl,?_⟩);(first|(go_at_call 33;((with_reducible refine(HK.out _).mono ?_);exact λe w' h=>h))|(go_at_call 32;((with_reducible refine(HS.out _).mono ?_);exact λe w' h=>h)))));(go_simp;refine hK _ ?_;clear hK K)))
 refine Xk.bm (λp _=>?_);obtain⟨W2,hW2⟩:∃W2,W2=Xk.exw (w.alloc (.cells l.toArray 40)).drew p:=⟨_,rfl⟩;have hx1:Xk.Ext (w.alloc (.cells l.toArray 40)) W2:=by rw[hW2];exact Xk.xt
 rw[← hW2];clear hW2 HK HS HG;have HX1:=aa hx1;have lt2:w.heap.size<W2.heap.size:=by have:=hx1.size;rw[af]at this;omega
 have kc:=aZ hx1 0 (.int .i64 kind) (by rw[HL.out];rfl);clear hx1;have HN:=aa λW=>eb nm hN W;have hz:((n1:Int)==0)=false:=by simp;omega
 clear hN h1;have q6:=aZ HX1.out 6 (bs nm) (by rw[HL.out];rfl);go_wp2_with fail;refine(HN.out _).mono ?_;rintro e w3 ⟨rfl,hx3⟩;have HX3:=aa (Xk.Ext.trans HX1.out hx3);clear hx3;have q9:=aZ HX3.out 9 (.slice p1 n1 c1) (by rw[HL.out];rfl);go_wp2_with fail;refine(HC.out _ (bG HX3.out)).mono ?_;rintro e w4 ⟨rfl,hx4⟩;have HX4:=aa (Xk.Ext.trans HX3.out hx4);clear hx4 q9;have q10:=aZ HX4.out 10 (.slice p2 n2 c2) (by rw[HL.out];rfl);go_wp2_with fail;refine(HR.out _ (bG HX4.out)).mono ?_;rintro e w5 ⟨rfl,hx5⟩;go_wp2_with fail;go_ret;exact⟨rfl,Xk.Ext.trans (bG HX4.out) hx5⟩
theorem Ki(kind:Int)(hkd:kind=1)(tn:P12.T)(p1 p2 p3 p4:Option Addr)(n1 n2 n3 n4 c1 c2 c3 c4:Nat)(w:World)(l:List Value)(hl:l=cA kind tn (.slice p1 n1 c1) (.slice p2 n2 c2) (.slice p3 n3 c3) (.slice p4 n4 c4) [] [] false ah ah ah noE ah ah noE ah ah 0)
  (hT:∀W,Xk.Ext w W->Calls ab 39 #[.agg #[bs tn,.slice p1 n1 c1,.slice p2 n2 c2,.slice p3 n3 c3],.slice p4 n4 c4] W λe w'=>e = .returned (.bool true)/\Xk.Ext W w')
  (hK:∀W,Calls ab 33 #[.agg l.toArray] W λe w'=>e = .returned (.agg l.toArray)/\Xk.Ext W w')
  (hS:∀W,Calls ab 32 #[.agg l.toArray,.agg l.toArray] W λe w'=>e = .returned (.bool true)/\Xk.Ext W w') :
  Calls ab 14 #[.agg l.toArray] w λe w'=>e = .returned (.bool true)/\Xk.Ext w w':=by
 have HK:=aa hK;have HS:=aa hS;have HT:=aa hT;clear hK hS hT;have hn1:(kind==1)=true:=by subst hkd;rfl
 clear hkd;have hlen:l.length=37:=by rw[hl];rfl
 have HSZ:Hid ((ab.info? 40).map (·.size)=some l.toArray.size):=aa (by rw[ar,hlen];kernel_rfl);have HLEN:=aa hlen;have HL:=aa hl;have HG:Hid (∀p,(Xk.exw (w.alloc (.cells l.toArray 40)).drew p).heap[w.heap.size]?=some (.cells l.toArray 40)):=aa λp=>((Xk.cm _ p).block _ (by rw[cQ,af];omega)).trans (az w _);clear hl hlen;go_enter Tryz.func14,Tryz.ntmps14;go_upto_region 1 with fail
 refine Xk.bL 5 [] trivial (by kernel_rfl) (by kernel_rfl) ?_;simp only[aA,aS,aG,aT];(refine Xk.ay (Xk.an (by rfl)) (by rfl) (λK hK=>?_);refine⟨.agg l.toArray,λp hp=>Xk.bZ 40 _ rfl w.heap.size l.toArray 40 (0,0) _ rfl (HG.out p) av rfl HSZ.out,?_⟩;(go_simp;refine hK _ ?_;clear hK K))
 (refine Xk.ay (Xk.an (by rfl)) (by rfl) (λK hK=>?_);refine⟨.agg l.toArray,λp hp=>Xk.bZ 40 _ rfl w.heap.size l.toArray 40 (0,0) _ rfl (HG.out p) av rfl HSZ.out,?_⟩;(go_simp;refine hK _ ?_;clear hK K))
 repeat(first
  | (refine Xk.ay (Xk.an (by rfl)) (by rfl) (λK hK=>?_);apply ai;refine⟨λp hp=>?_,?_⟩;(go_simp;first|exact⟨rfl,rfl⟩|((try refine⟨by kernel_rfl,?_⟩);(first|(go_at_call 33;((with_reducible refine(HK.out _).mono ?_);exact λe w' h=>h))|(go_at_call 32;((with_reducible refine(HS.out _).mono ?_);exact λe w' h=>h)))));(go_simp;refine hK _ ?_;clear hK K))
  | (refine Xk.bu (by rfl) (λK hK=>?_);go_simp;refine hK _ ?_;clear hK K)
  | (refine Xk.ay (by rfl) (by rfl) (λK hK=>?_);apply ai;refine⟨λp hp=>?_,?_⟩;(go_simp;first|exact⟨rfl,rfl⟩|((try refine⟨by kernel_rfl,?_⟩);(first|(go_at_call 33;((with_reducible refine(HK.out _).mono ?_);exact λe w' h=>h))|(go_at_call 32;((with_reducible refine(HS.out _).mono ?_);exact λe w' h=>h)))));(go_simp;refine hK _ ?_;clear hK K)))
 refine Xk.bm (λp _=>?_);obtain⟨W2,hW2⟩:∃W2,W2=Xk.exw (w.alloc (.cells l.toArray 40)).drew p:=⟨_,rfl⟩;have hx1:Xk.Ext (w.alloc (.cells l.toArray 40)) W2:=by rw[hW2];exact Xk.xt
 rw[← hW2];clear hW2 HK HS HG;have HX1:=aa hx1;have lt2:w.heap.size<W2.heap.size:=by have:=hx1.size;rw[af]at this;omega
 have kc:=aZ hx1 0 (.int .i64 kind) (by rw[HL.out];rfl);clear hx1;have q1:=aZ HX1.out 1 (bs tn) (by rw[HL.out];rfl);have q2:=aZ HX1.out 2 (.slice p1 n1 c1) (by rw[HL.out];rfl);have q3:=aZ HX1.out 3 (.slice p2 n2 c2) (by rw[HL.out];rfl);have q4:=aZ HX1.out 4 (.slice p3 n3 c3) (by rw[HL.out];rfl);have q5:=aZ HX1.out 5 (.slice p4 n4 c4) (by rw[HL.out];rfl);go_wp2_with fail;refine(HT.out _ (bG HX1.out)).mono ?_;rintro e w5 ⟨rfl,hx5⟩;go_wp2_with fail;go_ret;exact⟨rfl,Xk.Ext.trans (bG HX1.out) hx5⟩
end Go.Proofs.YtkpmclddjkebeaaGreatDoor
