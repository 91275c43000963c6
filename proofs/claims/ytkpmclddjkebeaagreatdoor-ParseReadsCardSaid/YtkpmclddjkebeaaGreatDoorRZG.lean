/- Walks: pantileref12's SameStmt, of two that are the same. -/
import Derived.Test.YtkpmclddjkebeaaGreatDoorRZF
set_option linter.unusedSimpArgs false
set_option linter.unusedVariables false
set_option maxRecDepth 100000
set_option maxHeartbeats 80000000
open And renaming intro→qE
open Go.Lib renaming hid→aa
open Go.Proofs.Tryz renaming prog→af,underlying35→aA,underlying90→uH
open Go.RowKit.Below renaming refl→al
open Go.World renaming cell?→ak
open List renaming getElem_mem→i6
open Nat renaming add_zero→oH,lt_of_lt_of_le→aK,mul_one→sn
namespace Go.Proofs.YtkpmclddjkebeaaGreatDoor
open Go.RowKit
structure k9(x:P12.St):Prop where
 tc:x.tb.cols.length≤1000000
 tk:x.tb.keys.length≤1000000
 tq:x.tb.checks.length≤1000000
 kc:x.keyCols.length≤1000000
 kc1:∀l∈x.keyCols,l.length≤1000000
 cols:x.cols.length≤1000000
 rows:x.rows.length≤1000000
 rows1:∀l∈x.rows,l.length≤1000000
 sets:x.sets.length≤1000000
 items:x.items.length≤1000000
 frm:x.frm.length≤1000000
 grp:x.group.length≤1000000
 ord:x.order.length≤1000000
theorem vX{S S':Nat->Prop}{w:World}{x:P12.St}{l l':List Value}(h:dv S w x l)(h':dv S' w x l')(hs:k9 x):
  Calls af 13 #[.agg l.toArray,.agg l'.toArray] w λe w'=>e = .returned (.bool true)/\Xk.Ext w w':=by
 obtain⟨tc,tk,tq,kc,cols,rows,sets,wh,items,frm,jn,grp,ord,h⟩:=h;obtain⟨tc',tk',tq',kc',cols',rows',sets',wh',items',frm',jn',grp',ord',h'⟩:=h';have HT:=aa λW (hx:Xk.Ext w W)=>vW x.tb.name (h.tc.si hx) (h.tk.si hx) (h.tq.qX hx) (h'.tc.si hx) (h'.tk.si hx) (h'.tq.qX hx) hs.tc hs.tk hs.tq;have HC:=aa λW (hx:Xk.Ext w W)=>oS (h.cols.si hx) (h'.cols.si hx) hs.cols;have HW:=aa λW (hx:Xk.Ext w W)=>j9 x.wher S S' W wh wh' (aC.kn h.wh hx) (aC.kn h'.wh hx);have HJ:=aa λW (hx:Xk.Ext w W)=>j9 x.join S S' W jn jn' (aC.kn h.jn hx) (aC.kn h'.jn hx)
 have HG:=aa λW (hx:Xk.Ext w W)=>mL (h.grp.qX hx) (h'.grp.qX hx) hs.grp (λe _=>j9 e);have HKC:=aa (qE h.kc h'.kc);have HRW:=aa (qE h.rows h'.rows);have HST:=aa (qE h.sets h'.sets);have HIT:=aa (qE h.items h'.items);have HFR:=aa (qE h.frm h'.frm);have HOR:=aa (qE h.ord h'.ord);have HSM:=aa hs;have hf:=h.form;have hf':=h'.form;obtain⟨p1,c1,rfl⟩:=h.tc.len;obtain⟨p2,c2,rfl⟩:=h.tk.len;obtain⟨p3,c3,rfl⟩:=h.tq.len;obtain⟨p4,c4,rfl⟩:=h.kc.len;obtain⟨p5,c5,rfl⟩:=h.cols.len;obtain⟨p6,c6,rfl⟩:=h.rows.len;obtain⟨p7,c7,rfl⟩:=h.sets.len;obtain⟨p8,c8,rfl⟩:=h.items.len;obtain⟨p9,c9,rfl⟩:=h.frm.len
 obtain⟨p10,c10,rfl⟩:=h.grp.len;obtain⟨p11,c11,rfl⟩:=h.ord.len;obtain⟨k1,o1,vk1,vi1,vs1,tb1,nm1,q1,m1,d1,rfl⟩:=h.wh.form;obtain⟨k2,o2,vk2,vi2,vs2,tb2,nm2,q2,m2,d2,rfl⟩:=h.jn.form;obtain⟨p1',c1',rfl⟩:=h'.tc.len;obtain⟨p2',c2',rfl⟩:=h'.tk.len;obtain⟨p3',c3',rfl⟩:=h'.tq.len;obtain⟨p4',c4',rfl⟩:=h'.kc.len;obtain⟨p5',c5',rfl⟩:=h'.cols.len;obtain⟨p6',c6',rfl⟩:=h'.rows.len;obtain⟨p7',c7',rfl⟩:=h'.sets.len;obtain⟨p8',c8',rfl⟩:=h'.items.len;obtain⟨p9',c9',rfl⟩:=h'.frm.len;obtain⟨p10',c10',rfl⟩:=h'.grp.len;obtain⟨p11',c11',rfl⟩:=h'.ord.len
 obtain⟨k1',o1',vk1',vi1',vs1',tb1',nm1',q1',m1',d1',rfl⟩:=h'.wh.form;obtain⟨k2',o2',vk2',vi2',vs2',tb2',nm2',q2',m2',d2',rfl⟩:=h'.jn.form;clear h h' hs;have HF:=aa hf;have HF':=aa hf';clear hf hf';obtain⟨kind,tb,keyCols,name,on,unique,xcols,xrows,xsets,wher,xitems,xfrm,join,group,order,limit⟩:=x;go_enter Tryz.func13,Tryz.ntmps13;go_upto_region 1 with fail
 obtain⟨ha,hb,hx0⟩:=BT (al _ _:Xk.Ext ((w.alloc (cL l)).alloc (cL l')) _);generalize (w.alloc (cL l)).alloc (cL l')=w2 at *
 rw[HF.out]at ha;rw[HF'.out]at hb;have a0:w2.cell? ⟨w.heap.size,0,none⟩=some (.int .i64 kind):=by simp[ak,ha]
 have b0:w2.cell? ⟨w.heap.size+1,0,none⟩=some (.int .i64 kind):=by simp[ak,hb]
 obtain⟨la,a1,a2,a3,a4,-,-,-,-,-,-,-,-,-,-,-,-,-,-,-,-,-,-,-,-,-,-,-,-,-,-,-,-,-,-,-,-⟩:=cO ha;obtain⟨lb,b1,b2,b3,b4,-,-,-,-,-,-,-,-,-,-,-,-,-,-,-,-,-,-,-,-,-,-,-,-,-,-,-,-,-,-,-,-⟩:=cO hb;have HA:=aa ha;have HB:=aa hb;have HX1:=aa hx0;clear ha hb hx0;go_wp2_with fail;refine(HT.out _ HX1.out).mono ?_;rintro e W2 ⟨rfl,hx2⟩;clear HT a0 b0 a1 a2 a3 a4 b1 b2 b3 b4;have ha:=(hx2.block _ la).trans HA.out;have hb:=(hx2.block _ lb).trans HB.out;clear la lb HA HB;obtain⟨la,-,-,-,-,a5,a6,a7,a8,a9,-,-,-,-,-,-,-,-,-,-,-,-,-,-,-,-,-,-,-,-,-,-,-,-,-,-,-⟩:=cO ha
 obtain⟨lb,-,-,-,-,b5,b6,b7,b8,b9,-,-,-,-,-,-,-,-,-,-,-,-,-,-,-,-,-,-,-,-,-,-,-,-,-,-,-⟩:=cO hb;have HA:=aa ha;have HB:=aa hb;clear ha hb;have HX2:=aa (Xk.Ext.trans HX1.out hx2);clear hx2 HX1;go_wp2_with fail;refine(HC.out _ HX2.out).mono ?_;rintro e W3 ⟨rfl,hx3⟩;clear HC a5 a6 a7 a8 a9 b5 b6 b7 b8 b9;have ha:=(hx3.block _ la).trans HA.out;have hb:=(hx3.block _ lb).trans HB.out;clear la lb HA HB;obtain⟨la,-,-,-,-,a5,-,-,-,-,a10,a11,-,-,-,-,-,-,-,-,-,-,-,-,-,-,-,-,-,-,-,-,-,-,-,-,-⟩:=cO ha;obtain⟨lb,-,-,-,-,b5,-,-,-,-,b10,b11,-,-,-,-,-,-,-,-,-,-,-,-,-,-,-,-,-,-,-,-,-,-,-,-,-⟩:=cO hb
 have HA:=aa ha;have HB:=aa hb;clear ha hb;have HX0:=aa (Xk.Ext.trans HX2.out hx3);clear hx3 HX2;go_wp2_with fail;go_loopw [5] (λx wr=>∃q:Nat,q≤keyCols.length/\x = .int .i64 q/\Xk.Ext W3 wr) (λx _=>keyCols.length-(intOf x).toNat)
 case atStart=>exact⟨0,by omega,rfl,al _ _⟩
 case round=>
  obtain⟨q,hq,rfl,hx⟩:=hrel;have HX:=aa hx;have k1:=Xk.bO hx a5;have k4:=Xk.bO hx b5;have l1:=aK la hx.size;have l2:=aK lb hx.size;have hlen:=HSM.out.kc;by_cases hlt:q<keyCols.length
  ·as_aux_lemma=>
    obtain⟨g,u,rfl,hg,hu,hr⟩:=fh HKC.out.1 hlt (Xk.Ext.trans HX0.out hx);obtain⟨g',u',rfl,hg',hu',hr'⟩:=fh HKC.out.2 hlt (Xk.Ext.trans HX0.out hx);have hlb:(q:Int)<(keyCols.length:Int):=ab;obtain⟨v,rfl,hv⟩:=hu;obtain⟨v',rfl,hv'⟩:=hu';have HE:=aa λW (hxw:Xk.Ext wr W)=>oS (hv.si (Xk.Ext.trans HX0.out (Xk.Ext.trans hx hxw))) (hv'.si (Xk.Ext.trans HX0.out (Xk.Ext.trans hx hxw))) (HSM.out.kc1 _ (i6 hlt));obtain⟨p,c,rfl⟩:=hv.len;obtain⟨p',c',rfl⟩:=hv'.len;have c1:wr.cell? ⟨g,q,none⟩=some (.slice p (keyCols[q]).length c):=by have:=hr 0 _ rfl;rwa [sn,oH]at this
    have c2:wr.cell? ⟨g',q,none⟩=some (.slice p' (keyCols[q]).length c'):=by have:=hr' 0 _ rfl;rwa [sn,oH]at this
    clear hr hr' hx hv hv';go_wp2_with fail;refine Xk.reg 12 (Xk.s1 HE.out (Xk.bD λp _=>?_));go_wp2_with fail;go_roundw
    case rel=>exact⟨q+1,by omega,by go_num,Xk.Ext.trans HX.out (Xk.cF _ _)⟩
    case measure=>simp[intOf];omega
  ·as_aux_lemma=>
    have hlb:¬ (q:Int)<(keyCols.length:Int):=ab;clear hx;go_wp2_with fail;have hx4:=HX.out;clear HX k1 k4 l1 l2 hlt hlb hq hlen a5 b5 a10 b10 a11 b11;obtain⟨W4,hW4⟩:∃W,W=wr:=⟨_,rfl⟩;rw[← hW4];rw[← hW4]at hx4;clear hW4;have ha:=(hx4.block _ la).trans HA.out;have hb:=(hx4.block _ lb).trans HB.out;clear la lb HA HB;obtain⟨la,-,-,-,-,-,-,-,-,-,a10,a11,-,-,-,-,-,-,-,-,-,-,-,-,-,-,-,-,-,-,-,-,-,-,-,-,-⟩:=cO ha;obtain⟨lb,-,-,-,-,-,-,-,-,-,b10,b11,-,-,-,-,-,-,-,-,-,-,-,-,-,-,-,-,-,-,-,-,-,-,-,-,-⟩:=cO hb;have HA:=aa ha;have HB:=aa hb;clear ha hb;have HX0:=aa (Xk.Ext.trans HX0.out hx4);clear hx4
    go_loopw [6] (λx wr=>∃q:Nat,q≤xrows.length/\x = .int .i64 q/\Xk.Ext W4 wr) (λx _=>xrows.length-(intOf x).toNat)
    case atStart=>exact⟨0,by omega,rfl,al _ _⟩
    case round=>
     obtain⟨q,hq,rfl,hx⟩:=hrel;have HX:=aa hx;have k1:=Xk.bO hx a10;have k4:=Xk.bO hx b10;have l1:=aK la hx.size;have l2:=aK lb hx.size;have hlen:=HSM.out.rows;by_cases hlt:q<xrows.length
     ·as_aux_lemma=>
       obtain⟨g,u,rfl,hg,hu,hr⟩:=fh HRW.out.1 hlt (Xk.Ext.trans HX0.out hx);obtain⟨g',u',rfl,hg',hu',hr'⟩:=fh HRW.out.2 hlt (Xk.Ext.trans HX0.out hx);have hlb:(q:Int)<(xrows.length:Int):=ab;obtain⟨v,rfl,hv⟩:=hu;obtain⟨v',rfl,hv'⟩:=hu';have HE:=aa λW (hxw:Xk.Ext wr W)=>mL (hv.qX (Xk.Ext.trans HX0.out (Xk.Ext.trans hx hxw))) (hv'.qX (Xk.Ext.trans HX0.out (Xk.Ext.trans hx hxw))) (HSM.out.rows1 _ (i6 hlt)) (λe _=>j9 e);obtain⟨p,c,rfl⟩:=hv.len;obtain⟨p',c',rfl⟩:=hv'.len;have c1:wr.cell? ⟨g,q,none⟩=some (.slice p (xrows[q]).length c):=by have:=hr 0 _ rfl;rwa [sn,oH]at this
       have c2:wr.cell? ⟨g',q,none⟩=some (.slice p' (xrows[q]).length c'):=by have:=hr' 0 _ rfl;rwa [sn,oH]at this
       clear hr hr' hx hv hv';go_wp2_with fail;refine Xk.reg 12 (Xk.s1 HE.out (Xk.bD λp _=>?_));go_wp2_with fail;go_roundw
       case rel=>exact⟨q+1,by omega,by go_num,Xk.Ext.trans HX.out (Xk.cF _ _)⟩
       case measure=>simp[intOf];omega
     ·as_aux_lemma=>
       have hlb:¬ (q:Int)<(xrows.length:Int):=ab;clear hx;go_wp2_with fail;have hx5:=HX.out;clear HX k1 k4 l1 l2 hlt hlb hq hlen a10 b10 a11 b11;obtain⟨W5,hW5⟩:∃W,W=wr:=⟨_,rfl⟩;rw[← hW5];rw[← hW5]at hx5;clear hW5;have ha:=(hx5.block _ la).trans HA.out;have hb:=(hx5.block _ lb).trans HB.out;clear la lb HA HB;obtain⟨la,-,-,-,-,-,-,-,-,-,-,a11,-,-,-,-,-,-,-,-,-,-,-,-,-,-,-,-,-,-,-,-,-,-,-,-,-⟩:=cO ha;obtain⟨lb,-,-,-,-,-,-,-,-,-,-,b11,-,-,-,-,-,-,-,-,-,-,-,-,-,-,-,-,-,-,-,-,-,-,-,-,-⟩:=cO hb;have HA:=aa ha;have HB:=aa hb;clear ha hb;have HX0:=aa (Xk.Ext.trans HX0.out hx5);clear hx5
       go_loopw [7] (λx wr=>∃q:Nat,q≤xsets.length/\x = .int .i64 q/\Xk.Ext W5 wr) (λx _=>xsets.length-(intOf x).toNat)
       case atStart=>exact⟨0,by omega,rfl,al _ _⟩
       case round=>
        obtain⟨q,hq,rfl,hx⟩:=hrel;have HX:=aa hx;have k1:=Xk.bO hx a11;have k4:=Xk.bO hx b11;have l1:=aK la hx.size;have l2:=aK lb hx.size;have hlen:=HSM.out.sets;by_cases hlt:q<xsets.length
        ·as_aux_lemma=>
          obtain⟨g,u,rfl,hg,hu,hr⟩:=fh HST.out.1 hlt (Xk.Ext.trans HX0.out hx);obtain⟨g',u',rfl,hg',hu',hr'⟩:=fh HST.out.2 hlt (Xk.Ext.trans HX0.out hx);have hlb:(q:Int)<(xsets.length:Int):=ab;obtain⟨u1,rfl,he⟩:=hu;obtain⟨u2,rfl,he'⟩:=hu';have HE:=aa λW (hxw:Xk.Ext wr W)=>j9 _ S S' W u1 u2 (aC.kn he (Xk.Ext.trans HX0.out (Xk.Ext.trans hx hxw))) (aC.kn he' (Xk.Ext.trans HX0.out (Xk.Ext.trans hx hxw)));obtain⟨_,_,_,_,_,_,_,_,_,_,rfl⟩:=he.form;obtain⟨_,_,_,_,_,_,_,_,_,_,rfl⟩:=he'.form;have n1:wr.cell? ⟨g,q*12,none⟩=some (bs xsets[q].1):=by simpa using hr 0 _ rfl
          have n2:wr.cell? ⟨g,q*12+1,none⟩=some (.int .i64 0):=hr 1 _ rfl;have m1:wr.cell? ⟨g',q*12,none⟩=some (bs xsets[q].1):=by simpa using hr' 0 _ rfl
          have m2:wr.cell? ⟨g',q*12+1,none⟩=some (.int .i64 0):=hr' 1 _ rfl;have HR:=aa (mN hr);have HR':=aa (mN hr');clear hx hr hr' he he';go_wp2_with fail;refine Xk.reg 44 (Xk.s0 ?_);refine Xk.ld 35 g (q*12+2) _ aA HR.out (by simpa using hg) ?_;go_simp;refine Xk.s0 ?_;refine Xk.ld 35 g' (q*12+2) _ aA HR'.out (by simpa using hg') ?_;go_simp;refine Xk.s1 HE.out (Xk.bD λp _=>?_);go_wp2_with fail;go_roundw
          case rel=>exact⟨q+1,by omega,by go_num,Xk.Ext.trans HX.out (Xk.cF _ _)⟩
          case measure=>simp[intOf];omega
        ·as_aux_lemma=>
          have hlb:¬ (q:Int)<(xsets.length:Int):=ab;clear hx;have ha:=(HX.out.block _ la).trans HA.out;have hb:=(HX.out.block _ lb).trans HB.out;clear la lb HA HB;obtain⟨la,-,-,-,-,-,-,-,-,-,-,-,a12,a13,a14,a15,a16,a17,a18,a19,a20,a21,a22,a23,a24,a25,a26,a27,a28,a29,a30,a31,a32,a33,a34,a35,a36⟩:=cO ha;obtain⟨lb,-,-,-,-,-,-,-,-,-,-,-,b12,b13,b14,b15,b16,b17,b18,b19,b20,b21,b22,b23,b24,b25,b26,b27,b28,b29,b30,b31,b32,b33,b34,b35,b36⟩:=cO hb;have HA:=aa ha;have HB:=aa hb;clear ha hb;go_wp2_with fail;refine(HW.out _ (Xk.Ext.trans HX0.out HX.out)).mono ?_;rintro e W6 ⟨rfl,hx6⟩
          have HX0:=aa (Xk.Ext.trans (Xk.Ext.trans HX0.out HX.out) hx6);clear HX k1 k4 l1 l2 hlt hlb hq hlen;clear a12 b12 a13 b13 a14 b14 a15 b15 a16 b16 a17 b17 a18 b18 a19 b19 a20 b20 a21 b21 a22 b22 a23 b23 a24 b24 a25 b25 a26 b26 a27 b27 a28 b28 a29 b29 a30 b30 a31 b31 a32 b32 a33 b33 a34 b34 a35 b35 a36 b36;have ha:=(hx6.block _ la).trans HA.out;have hb:=(hx6.block _ lb).trans HB.out;clear la lb HA HB;obtain⟨la,-,-,-,-,-,-,-,-,-,-,-,-,-,-,-,-,-,-,-,-,-,a22,a23,a24,a25,a26,a27,a28,a29,a30,a31,a32,a33,a34,a35,a36⟩:=cO ha
          obtain⟨lb,-,-,-,-,-,-,-,-,-,-,-,-,-,-,-,-,-,-,-,-,-,b22,b23,b24,b25,b26,b27,b28,b29,b30,b31,b32,b33,b34,b35,b36⟩:=cO hb;have HA:=aa ha;have HB:=aa hb;clear ha hb;clear hx6;go_wp2_with fail;refine(HJ.out _ HX0.out).mono ?_;rintro e W7 ⟨rfl,hx7⟩;have HX0:=aa (Xk.Ext.trans HX0.out hx7);clear a22 b22 a23 b23 a24 b24 a25 b25 a26 b26 a27 b27 a28 b28 a29 b29 a30 b30 a31 b31 a32 b32 a33 b33 a34 b34 a35 b35 a36 b36;have ha:=(hx7.block _ la).trans HA.out;have hb:=(hx7.block _ lb).trans HB.out;clear la lb HA HB
          obtain⟨la,-,-,-,-,-,-,-,-,-,-,-,-,-,-,-,-,-,-,-,-,-,a22,a23,-,-,-,-,-,-,-,-,-,-,a34,a35,a36⟩:=cO ha;obtain⟨lb,-,-,-,-,-,-,-,-,-,-,-,-,-,-,-,-,-,-,-,-,-,b22,b23,-,-,-,-,-,-,-,-,-,-,b34,b35,b36⟩:=cO hb;have HA:=aa ha;have HB:=aa hb;clear ha hb;clear hx7;go_wp2_with fail;refine(HG.out _ HX0.out).mono ?_;rintro e W8 ⟨rfl,hx8⟩;have HX0:=aa (Xk.Ext.trans HX0.out hx8);clear a22 b22 a23 b23 a34 b34 a35 b35 a36 b36;have ha:=(hx8.block _ la).trans HA.out;have hb:=(hx8.block _ lb).trans HB.out;clear la lb HA HB
          obtain⟨la,-,-,-,-,-,-,-,-,-,-,-,-,-,-,-,-,-,-,-,-,-,a22,a23,-,-,-,-,-,-,-,-,-,-,-,a35,a36⟩:=cO ha;obtain⟨lb,-,-,-,-,-,-,-,-,-,-,-,-,-,-,-,-,-,-,-,-,-,b22,b23,-,-,-,-,-,-,-,-,-,-,-,b35,b36⟩:=cO hb;have HA:=aa ha;have HB:=aa hb;clear ha hb;clear hx8;go_wp2_with fail;go_loopw [8] (λx wr=>∃q:Nat,q≤xitems.length/\x = .int .i64 q/\Xk.Ext W8 wr) (λx _=>xitems.length-(intOf x).toNat)
          case atStart=>exact⟨0,by omega,rfl,al _ _⟩
          case round=>
           obtain⟨q,hq,rfl,hx⟩:=hrel;have HX:=aa hx;have k1:=Xk.bO hx a22;have k4:=Xk.bO hx b22;have l1:=aK la hx.size;have l2:=aK lb hx.size;have hlen:=HSM.out.items;by_cases hlt:q<xitems.length
           ·as_aux_lemma=>
             obtain⟨g,u,rfl,hg,hu,hr⟩:=fh HIT.out.1 hlt (Xk.Ext.trans HX0.out hx);obtain⟨g',u',rfl,hg',hu',hr'⟩:=fh HIT.out.2 hlt (Xk.Ext.trans HX0.out hx);have hlb:(q:Int)<(xitems.length:Int):=ab;obtain⟨u1,rfl,he⟩:=hu;obtain⟨u2,rfl,he'⟩:=hu';have HE:=aa λW (hxw:Xk.Ext wr W)=>j9 _ S S' W u1 u2 (aC.kn he (Xk.Ext.trans HX0.out (Xk.Ext.trans hx hxw))) (aC.kn he' (Xk.Ext.trans HX0.out (Xk.Ext.trans hx hxw)));obtain⟨_,_,_,_,_,_,_,_,_,_,rfl⟩:=he.form;obtain⟨_,_,_,_,_,_,_,_,_,_,rfl⟩:=he'.form;have n1:wr.cell? ⟨g,q*12,none⟩=some (.bool xitems[q].1):=by simpa using hr 0 _ rfl
             have n2:wr.cell? ⟨g,q*12+11,none⟩=some (bs xitems[q].2.2):=hr 11 _ rfl;have m1:wr.cell? ⟨g',q*12,none⟩=some (.bool xitems[q].1):=by simpa using hr' 0 _ rfl
             have m2:wr.cell? ⟨g',q*12+11,none⟩=some (bs xitems[q].2.2):=hr' 11 _ rfl;have HR:=aa (mO (mN hr));have HR':=aa (mO (mN hr'));clear hx hr hr' he he';go_wp2_with fail;refine Xk.reg 44 (Xk.s0 ?_);refine Xk.ld 35 g (q*12+1) _ aA HR.out (by simpa using hg) ?_;go_simp;refine Xk.s0 ?_;refine Xk.ld 35 g' (q*12+1) _ aA HR'.out (by simpa using hg') ?_;go_simp;refine Xk.s1 HE.out (Xk.bD λp _=>?_);go_wp2_with fail;go_roundw
             case rel=>exact⟨q+1,by omega,by go_num,Xk.Ext.trans HX.out (Xk.cF _ _)⟩
             case measure=>simp[intOf];omega
           ·as_aux_lemma=>
             have hlb:¬ (q:Int)<(xitems.length:Int):=ab;clear hx;go_wp2_with fail;have hx9:=HX.out;clear HX k1 k4 l1 l2 hlt hlb hq hlen a22 b22 a23 b23 a35 b35 a36 b36;obtain⟨W9,hW9⟩:∃W,W=wr:=⟨_,rfl⟩;rw[← hW9];rw[← hW9]at hx9;clear hW9;have ha:=(hx9.block _ la).trans HA.out;have hb:=(hx9.block _ lb).trans HB.out;clear la lb HA HB;obtain⟨la,-,-,-,-,-,-,-,-,-,-,-,-,-,-,-,-,-,-,-,-,-,-,a23,-,-,-,-,-,-,-,-,-,-,-,a35,-⟩:=cO ha;obtain⟨lb,-,-,-,-,-,-,-,-,-,-,-,-,-,-,-,-,-,-,-,-,-,-,b23,-,-,-,-,-,-,-,-,-,-,-,b35,-⟩:=cO hb;have HA:=aa ha;have HB:=aa hb;clear ha hb
             have HX0:=aa (Xk.Ext.trans HX0.out hx9);clear hx9;go_loopw [9] (λx wr=>∃q:Nat,q≤xfrm.length/\x = .int .i64 q/\Xk.Ext W9 wr) (λx _=>xfrm.length-(intOf x).toNat)
             case atStart=>exact⟨0,by omega,rfl,al _ _⟩
             case round=>
              obtain⟨q,hq,rfl,hx⟩:=hrel;have HX:=aa hx;have k1:=Xk.bO hx a23;have k4:=Xk.bO hx b23;have l1:=aK la hx.size;have l2:=aK lb hx.size;have hlen:=HSM.out.frm;by_cases hlt:q<xfrm.length
              ·as_aux_lemma=>
                obtain⟨g,u,rfl,hg,hu,hr⟩:=fh HFR.out.1 hlt (Xk.Ext.trans HX0.out hx);obtain⟨g',u',rfl,hg',hu',hr'⟩:=fh HFR.out.2 hlt (Xk.Ext.trans HX0.out hx);have hlb:(q:Int)<(xfrm.length:Int):=ab;have hu0:u = [bs xfrm[q].1,bs xfrm[q].2]:=hu;have hu0':u' = [bs xfrm[q].1,bs xfrm[q].2]:=hu';subst hu0 hu0';have HR:=aa hr;have HR':=aa hr';clear hx hr hr' hu hu';go_wp2_with fail;refine Xk.reg 11 (Xk.s0 ?_);refine Xk.ld 90 g (q*2) _ uH HR.out (by simpa using hg) ?_;go_simp;refine Xk.s0 ?_;refine Xk.ld 90 g' (q*2) _ uH HR'.out (by simpa using hg') ?_;go_simp;refine Xk.s0 (Xk.bD λp _=>?_)
                go_wp2_with fail;go_roundw
                case rel=>exact⟨q+1,by omega,by go_num,Xk.Ext.trans HX.out (Xk.cF _ _)⟩
                case measure=>simp[intOf];omega
              ·as_aux_lemma=>
                have hlb:¬ (q:Int)<(xfrm.length:Int):=ab;clear hx;go_wp2_with fail;have hx10:=HX.out;clear HX k1 k4 l1 l2 hlt hlb hq hlen a23 b23 a35 b35;obtain⟨W10,hW10⟩:∃W,W=wr:=⟨_,rfl⟩;rw[← hW10];rw[← hW10]at hx10;clear hW10;have ha:=(hx10.block _ la).trans HA.out;have hb:=(hx10.block _ lb).trans HB.out;clear la lb HA HB;obtain⟨la,-,-,-,-,-,-,-,-,-,-,-,-,-,-,-,-,-,-,-,-,-,-,-,-,-,-,-,-,-,-,-,-,-,-,a35,-⟩:=cO ha;obtain⟨lb,-,-,-,-,-,-,-,-,-,-,-,-,-,-,-,-,-,-,-,-,-,-,-,-,-,-,-,-,-,-,-,-,-,-,b35,-⟩:=cO hb;have HA:=aa ha;have HB:=aa hb;clear ha hb;have HX0:=aa (Xk.Ext.trans HX0.out hx10)
                clear hx10;go_loopw [10] (λx wr=>∃q:Nat,q≤order.length/\x = .int .i64 q/\Xk.Ext W10 wr) (λx _=>order.length-(intOf x).toNat)
                case atStart=>exact⟨0,by omega,rfl,al _ _⟩
                case round=>
                 obtain⟨q,hq,rfl,hx⟩:=hrel;have HX:=aa hx;have k1:=Xk.bO hx a35;have k4:=Xk.bO hx b35;have l1:=aK la hx.size;have l2:=aK lb hx.size;have hlen:=HSM.out.ord;by_cases hlt:q<order.length
                 ·as_aux_lemma=>
                   obtain⟨g,u,rfl,hg,hu,hr⟩:=fh HOR.out.1 hlt (Xk.Ext.trans HX0.out hx);obtain⟨g',u',rfl,hg',hu',hr'⟩:=fh HOR.out.2 hlt (Xk.Ext.trans HX0.out hx);have hlb:(q:Int)<(order.length:Int):=ab;obtain⟨u1,rfl,he⟩:=hu;obtain⟨u2,rfl,he'⟩:=hu';have HE:=aa λW (hxw:Xk.Ext wr W)=>j9 _ S S' W u1 u2 (aC.kn he (Xk.Ext.trans HX0.out (Xk.Ext.trans hx hxw))) (aC.kn he' (Xk.Ext.trans HX0.out (Xk.Ext.trans hx hxw)));obtain⟨_,_,_,_,_,_,_,_,_,_,rfl⟩:=he.form;obtain⟨_,_,_,_,_,_,_,_,_,_,rfl⟩:=he'.form;have n1:wr.cell? ⟨g,q*11+10,none⟩=some (.bool order[q].2):=hr 10 _ rfl
                   have m1:wr.cell? ⟨g',q*11+10,none⟩=some (.bool order[q].2):=hr' 10 _ rfl;have HR:=aa (mO hr);have HR':=aa (mO hr');clear hx hr hr' he he';go_wp2_with fail;refine Xk.reg 29 (Xk.s0 ?_);refine Xk.ld 35 g (q*11) _ aA HR.out (by simpa using hg) ?_;go_simp;refine Xk.s0 ?_;refine Xk.ld 35 g' (q*11) _ aA HR'.out (by simpa using hg') ?_;go_simp;refine Xk.s1 HE.out (Xk.bD λp _=>?_);go_wp2_with fail;go_roundw
                   case rel=>exact⟨q+1,by omega,by go_num,Xk.Ext.trans HX.out (Xk.cF _ _)⟩
                   case measure=>simp[intOf];omega
                 ·as_aux_lemma=>
                   have hlb:¬ (q:Int)<(order.length:Int):=ab;clear hx;go_wp2_with fail;go_ret;exact⟨rfl,Xk.Ext.trans HX0.out HX.out⟩
end Go.Proofs.YtkpmclddjkebeaaGreatDoor
