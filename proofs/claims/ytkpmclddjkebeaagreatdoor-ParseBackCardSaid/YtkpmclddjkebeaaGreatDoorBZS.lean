/- Walks: pantilelaw12.ParseBack. -/
import Derived.Test.YtkpmclddjkebeaaGreatDoorBZG
import Derived.Test.YtkpmclddjkebeaaGreatDoorBZI
import Derived.Test.YtkpmclddjkebeaaGreatDoorBZR
set_option linter.unusedSimpArgs false
set_option linter.unusedVariables false
set_option maxRecDepth 100000
set_option maxHeartbeats 8000000
open Array renaming getElem?_eq_some_iff→ae
open Go.Lib renaming hid→aa
open Go.Proofs.Tryz renaming prog→ab,underlying40→av
open List renaming size_toArray→ar
open Nat renaming le_refl→ag,le_trans→bH
open List renaming take_succ_cons→aA,drop_succ_cons→aG,take_zero→aS,drop_zero→aT
open Go.World renaming size_setCell→aQ,size_alloc→af,size_drew→cQ
open Exists renaming intro→ai
open Go.RowKit.Below renaming refl→aj
open Go.Region renaming wanted→bO
open Go.Code renaming region→gC
open Or renaming inl→oQ,inr→zc
namespace Go.Proofs.YtkpmclddjkebeaaGreatDoor
open Go.RowKit
theorem Bk(S:Nat->Prop)(W:World):dn S W ({}:P12.St) bg:=
 ⟨ah,ah,ah,ah,ah,ah,ah,noE,ah,ah,noE,ah,ah,rfl,aH.nil _ _ _ _,aH.nil _ _ _ _,aH.nil _ _ _ _,aH.nil _ _ _ _,aH.nil _ _ _ _,aH.nil _ _ _ _,aH.nil _ _ _ _,rfl,aH.nil _ _ _ _,aH.nil _ _ _ _,rfl,aH.nil _ _ _ _,aH.nil _ _ _ _⟩
theorem sV(s:ByteArray)(w:World)(hP:wI w):Calls ab 11 #[.string s] w λe w'=>∃ (l:List Value) (p k:Int),e = .returned (.tuple #[.agg l.toArray,.int .i64 p,.int .i64 k])/\Xk.Ext w w'/\l.length=37/\l.toArray.all (·.oneCell')=true/\(ab.info? 40).map (·.size)=some l.toArray.size /\
  (match P12.parse s.data.toList with | .ok x=>k=0/\p=0/\dn (λb=>w.heap.size≤b) w' x l | .error er=>p=er.1/\k=er.2/\l=bg):=by
 refine(qX s w hP).mono ?_;rintro e w' ⟨hx,h⟩
 cases hr:P12.parse s.data.toList with
 | ok x=>
  rw[hr]at h;obtain⟨l,he,hs⟩:=h;obtain⟨h1,h2⟩:=wW hs;exact⟨l,0,0,he,hx,hs.length,h1,h2,rfl,rfl,hs⟩
 | error er=>
  rw[hr]at h;exact⟨bg,_,_,h,hx,rfl,by kernel_rfl,by kernel_rfl,rfl,rfl,rfl⟩
theorem Gh(s:ByteArray)(hs0:s.size≤maxLen)(w:World)(hE:Env w)(hP:wI w)(hSM:∀x:P12.St,P12.isS x->Be x):
  Calls ab 4 #[.string s] w λe w'=>e = .returned (.bool true)/\Xk.Ext w w':=by
 have HK:=aa (E7 w hE hP);have HP:=aa hP;have HE:=aa hE;have HSM:=aa hSM;have hs:s.size≤9223372036854775807:=bH hs0 (by unfold maxLen;omega);clear hE hP hs0 hSM;by_cases h20:2000<s.size
 ·have b20:(2000:Int)<(s.size:Int):=by omega
  go_enter Tryz.func4,Tryz.ntmps4;go_wp2_with fail;refine(HK.out).mono ?_;rintro e w1 ⟨rfl,hx1⟩;go_wp2_with fail;go_ret;exact⟨rfl,hx1⟩
 have b20:¬ (2000:Int)<(s.size:Int):=by omega
 go_enter Tryz.func4,Tryz.ntmps4;go_wp2_with fail;refine(HK.out).mono ?_;rintro e w1 ⟨rfl,hx1⟩;have HX1:=aa hx1;clear hx1 HK;go_wp2_with fail;refine(sV _ _ (HP.out.ext HX1.out)).mono ?_;rintro e w2 ⟨l,pp,kk,rfl,hx2,g1,g2,g3,hmt⟩;have HX2:=aa (Xk.Ext.trans HX1.out hx2);have G1:=aa g1;have G2:=aa g2;have G3:=aa g3;have HM:=aa hmt;clear hx2 g1 g2 g3 hmt;rcases hpr:P12.parse s.data.toList with er|x
 ·have hm:=HM.out;rw[hpr]at hm;obtain⟨rfl,rfl,hlz⟩:=hm;have hbad:=P12.CV hpr;have hne:(er.2 !=0)=true:=by simpa using hbad.1
  have hle:(er.1:Int)≤(s.size:Int):=by have:=hbad.2;simp at this;omega
  have hge:(0:Int)≤(er.1:Int):=by omega
  have HLZ:=aa hlz;clear hpr HM hbad hlz
  go_wp2_with (first
   | ((refine aM rfl 40 _ _ rfl (w2.heap.size) _ _ 40 rfl rfl ((az w2 _)) ((by rw[show l.toArray.size=37 by rw[ar,G1.out]];rfl)) (G3.out) (G2.out) ?_;intro w3 hp3);have HX3:=aa (Xk.Ext.trans HX2.out (dN hp3 (dz w2 _) (ag _)));have hb3:=hp3.blk;have HC:Hid (Calls ab 13 #[.agg l.toArray,.agg bg.toArray] w3 λe w'=>e = .returned (.bool true)/\Xk.Ext w3 w'):=aa (by rw[HLZ.out];exact qc (Bk (λ_=>True) w3) (Bk (λ_=>True) w3) (by constructor<;>simp));clear hp3)
   | (refine gV (by rfl) 40 _ rfl w2.heap.size _ 40 (0,0) _ rfl hb3 av rfl G3.out ?_))
  refine HC.out.mono ?_;rintro e w4 ⟨rfl,hx4⟩;go_wp2_with fail;go_ret;exact⟨rfl,Xk.Ext.trans HX3.out hx4⟩
 ·have hm:=HM.out;rw[hpr]at hm;obtain⟨rfl,rfl,hst⟩:=hm;have HST:=aa hst;have hiS:=P12.uI hpr;have hlen:=P12.CT hpr (by simp;omega);have hback:=P12.Ad hiS;have HIS:=aa hiS;have HLN:=aa hlen;have HBK:=aa hback;clear hst hpr HM hiS hlen hback;obtain⟨tx,htx⟩:∃t:ByteArray,t=⟨(P12.print x).toArray⟩:=⟨_,rfl⟩;have htl:tx.data.toList=P12.print x:=by rw[htx]
  have hts:tx.size=(P12.print x).length:=by rw[htx];rfl
  have hts6:tx.size≤1000000:=by rw[hts];exact HLN.out
  have HI:Hid (∀W,Xk.Ext w2 W->Calls ab 14 #[.agg l.toArray] W λe w'=>e = .returned (.bool true)/\Xk.Ext W w'):=aa λW hx=>BI x HIS.out _ W l (HST.out.at hx)
  have HPR:Hid (∀ (S:Nat->Prop) (W W':World) (l':List Value),Xk.Ext w W->Xk.Ext W W'->dn S W x l'->Calls ab 15 #[.agg l'.toArray] W' λr w'=>r = .returned (.tuple #[.string tx,.int .i64 0])/\Xk.Ext W' w'):=aa λS W W' l' hx hx' h=>by
   have:=Eu HIS.out (HE.out.ext (Xk.Ext.trans hx hx')) (h.at hx') HLN.out;rw[htx];exact this
  have HTL:=aa htl;clear htx htl
  go_wp2_with (first
   | ((refine aM rfl 40 _ _ rfl (w2.heap.size) _ _ 40 rfl rfl ((az w2 _)) ((by rw[show l.toArray.size=37 by rw[ar,G1.out]];rfl)) (G3.out) (G2.out) ?_;intro w3 hp3);have hx23:=dN hp3 (dz w2 _) (ag _);have HX23:=aa hx23;have hb3:=hp3.blk;clear hp3 hx23)
   | (refine gV (by rfl) 40 _ rfl w2.heap.size _ 40 (0,0) _ rfl hb3 av rfl G3.out ?_))
  refine(HI.out _ HX23.out).mono ?_;rintro e w4 ⟨rfl,hx4⟩;have hb4:=(hx4.block _ (ae.1 hb3).1).trans hb3;have HX24:=aa (Xk.Ext.trans HX23.out hx4);clear hx4 hb3 HX23 HI;go_wp2_with (refine gV (by rfl) 40 _ rfl w2.heap.size _ 40 (0,0) _ rfl hb4 av rfl G3.out ?_);refine(HPR.out _ _ _ _ HX2.out HX24.out HST.out).mono ?_;rintro e w5 ⟨rfl,hx5⟩;have hb5:=(hx5.block _ (ae.1 hb4).1).trans hb4;have HX25:=aa (Xk.Ext.trans HX24.out hx5);clear hx5 hb4 HX24;by_cases h4k:4096<tx.size
  ·have b4:(4096:Int)<(tx.size:Int):=by omega
   go_wp2_with fail;go_ret;exact⟨rfl,Xk.Ext.trans HX2.out HX25.out⟩
  have b4:¬ (4096:Int)<(tx.size:Int):=by omega
  have HBK2:=aa (HBK.out (by omega));go_wp2_with fail;refine(sV _ _ (HP.out.ext (Xk.Ext.trans HX2.out HX25.out))).mono ?_;rintro e w6 ⟨l6,p6,k6,rfl,hx6,j1,j2,j3,hm6⟩;rw[HTL.out]at hm6;have hb6:=(hx6.block _ (ae.1 hb5).1).trans hb5;have HX26:=aa (Xk.Ext.trans HX25.out hx6);have J1:=aa j1;have J2:=aa j2;have J3:=aa j3;have HM6:=aa hm6;clear hx6 j1 j2 j3 hm6 hb5 HBK;rcases HBK2.out with hbk|⟨pa,hbk⟩
  ·have hm:=HM6.out;rw[hbk]at hm;obtain⟨rfl,rfl,hst6⟩:=hm;have HST6:=aa hst6;clear hst6 hbk HM6 HBK2
   go_wp2_with (first
    | ((refine aM rfl 40 _ _ rfl (w6.heap.size) _ _ 40 rfl rfl ((az w6 _)) ((by rw[show l6.toArray.size=37 by rw[ar,J1.out]];rfl)) (J3.out) (J2.out) ?_;intro w7 hp7);have hx67:=dN hp7 (dz w6 _) (ag _);have HX67:=aa hx67;have hb7:=hp7.blk;have hb8:=(hx67.block _ (ae.1 hb6).1).trans hb6;clear hp7 hx67 hb6)
    | (refine gV (by rfl) 40 _ rfl w6.heap.size _ 40 (0,0) _ rfl hb7 av rfl J3.out ?_))
   refine(HPR.out _ _ _ _ (Xk.Ext.trans HX2.out HX26.out) HX67.out HST6.out).mono ?_;rintro e w8 ⟨rfl,hx8⟩;have hb9:=(hx8.block _ (ae.1 hb7).1).trans hb7;have hb10:=(hx8.block _ (ae.1 hb8).1).trans hb8;have HX68:=aa (Xk.Ext.trans HX67.out hx8);have HC:=aa (qc (HST.out.at (Xk.Ext.trans HX26.out HX68.out)) (HST6.out.at HX68.out) (HSM.out x HIS.out));clear hx8 hb7 hb8 HX67
   go_wp2_with (first
    | (refine gV (by rfl) 40 _ rfl w2.heap.size _ 40 (0,0) _ rfl hb10 av rfl G3.out ?_)
    | (refine gV (by rfl) 40 _ rfl w6.heap.size _ 40 (0,0) _ rfl hb9 av rfl J3.out ?_))
   refine HC.out.mono ?_;rintro e w9 ⟨rfl,hx9⟩;go_wp2_with fail;go_ret;exact⟨rfl,Xk.Ext.trans HX2.out (Xk.Ext.trans HX26.out (Xk.Ext.trans HX68.out hx9))⟩
  ·have hm:=HM6.out;rw[hbk]at hm;obtain⟨rfl,rfl,-⟩:=hm;clear hbk HM6 HBK2;go_wp2_with ((refine aM rfl 40 _ _ rfl (w6.heap.size) _ _ 40 rfl rfl ((az w6 _)) ((by rw[show l6.toArray.size=37 by rw[ar,J1.out]];rfl)) (J3.out) (J2.out) ?_;intro w7 hp7);have HX67:=aa (dN hp7 (dz w6 _) (ag _));clear hp7);go_ret;exact⟨rfl,Xk.Ext.trans HX2.out (Xk.Ext.trans HX26.out HX67.out)⟩
end Go.Proofs.YtkpmclddjkebeaaGreatDoor
