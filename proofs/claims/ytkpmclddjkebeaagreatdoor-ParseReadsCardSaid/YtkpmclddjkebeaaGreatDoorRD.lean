/- What the claim's proof leans on, part 4: walks of functions and plain laws. -/
import Derived.Test.YtkpmclddjkebeaaGreatDoorRB
import Derived.Test.YtkpmclddjkebeaaGreatDoorRA
import Derived.WalkSpells
import Derived.WalkLawsBesides
set_option linter.unusedSimpArgs false
set_option linter.unusedVariables false
set_option maxRecDepth 100000
set_option maxHeartbeats 80000000
open Array renaming append_assoc→mD,getElem?_eq_some_iff→ae,getElem?_toList→pK
open Bool renaming and_eq_false_iff→oN,and_eq_true→aT,and_true→mi,eq_iff_iff→gX,false_eq_true→aS,not_eq_true'→jd,or_eq_false_iff→ky,or_eq_true→fu
open Exists renaming intro→aU
open Go.Addr renaming add→zU
open Go.Ending renaming returned→cm
open Go.Exit renaming inBlock→gP
open Go.IntWalk renaming i64_in→pb
open Go.Lib renaming extract_data→fT,hid→aa,indexByte→qF,lowerB→iA,toUpperA→iR,upperB→fH
open Go.Proofs.Tryz renaming f17→dy,prog→af,results82→me,underlying112→rn,underlying5→uh,underlying51→fW,underlying61→dQ,underlying9→ef
open Go.RowKit.Below renaming refl→al
open Go.Sort renaming grow→ni
open Go.Value renaming int→lK,string→zX
open Go.World renaming block_lt_of_cell?→ay,cell?→ak,cell?_alloc_mark→fG,cell?_of_block→kf,cell?_setCell_other→jz,ownsMap_made→uk,ownsRow_nil→qA,size_alloc→ag,size_setCell→aM
open Go renaming bodyPost_ret→ar,info_parts→uG,step_scope→pM
open List renaming all_eq_true→ft,append_nil→pL,cons_append→fV,dropWhile→xA,drop_drop→gO,drop_eq_getElem_cons→dm,drop_of_length_le→eY,drop_succ_cons→aL,find?→xz,find?_cons_of_neg→jN,getD_eq_getElem?_getD→ep,getElem?_drop→ug,getElem?_eq_getElem→aZ,getElem?_eq_some_iff→cr,getElem?_map→jA,getElem?_take→di,isPrefixOf→bX,length_append→aN,length_cons→aW,length_singleton→bf,map_cons→zW,mem_cons→aJ,mem_cons_of_mem→cV,mem_cons_self→cy,mem_iff_getElem?→iZ,mem_of_getElem?→iY,nil_append→zQ,not_mem_nil→aF,size_toArray→aP,takeWhile→dP,takeWhile_prefix→iJ,take_succ_cons→aG,take_succ_eq_append_getElem→uF,take_zero→aY
open Nat renaming le_of_not_lt→sc,le_refl→ai,lt_of_lt_of_le→aK,strongRecOn→uf,zero_add→eF,zero_le→gM
open Option renaming map_some→oG
open Option.some renaming inj→iy
open UInt8 renaming le_iff_toNat_le→fp,ofNat→ja,toNat_inj→jL
namespace Go.Proofs.YtkpmclddjkebeaaGreatDoor
open Go.RowKit
theorem tz(c:UInt8):P11.letter c=decide ((97≤(c.toNat:Int)/\(c.toNat:Int)≤122)∨(65≤(c.toNat:Int)/\(c.toNat:Int)≤90)∨(c.toNat:Int)=95):=by
 rw[gX];simp[P11.letter,fp,← jL];omega
theorem vC(c:UInt8):P11.digit c=decide (48≤(c.toNat:Int)/\(c.toNat:Int)≤57):=by
 rw[gX];simp[P11.digit,fp];omega
theorem kQ{a b:Bool}(h:a=b):cm (.bool a) = .returned (.bool b):=by rw[h]
theorem kT(c:UInt8)(w:World):Calls af 58 #[.int .i32 c.toNat] w λe w'=>e = .returned (.bool (P11.letter c))/\w=w':=by
 have hl:=tz c;have h2:(c.toNat:Int)<256:=by have:=c.toNat_lt;omega
 have HL:=aa hl;clear hl;go_enter Tryz.func58,Tryz.ntmps58;go_wp2
 all_goals
  go_ret;refine⟨kQ ?_,rfl⟩;rw[HL.out,gX];simp;try omega
theorem my(c:UInt8)(w:World):Calls af 61 #[.int .i32 c.toNat] w λe w'=>e = .returned (.bool (P11.digit c))/\w=w':=by
 have hl:=vC c;have h2:(c.toNat:Int)<256:=by have:=c.toNat_lt;omega
 have HL:=aa hl;clear hl;go_enter Tryz.func61,Tryz.ntmps61;go_wp2
 all_goals
  go_ret;refine⟨kQ ?_,rfl⟩;rw[HL.out,gX];simp;try omega
theorem D1(c:UInt8)(w:World):Calls af 60 #[.int .i32 c.toNat] w λe w'=>e = .returned (.bool (P11.dD c))/\w=w':=by
 have h1:=λw=>kT c w;have h2:=λw=>my c w
 cases hl:P11.letter c
 all_goals
  rw[hl]at h1;have HA:Hid (P11.dD c=(_||P11.digit c)):=aa (by rw[P11.dD,hl]);have H1:=aa h1;have H2:=aa h2;clear h1 h2 hl;go_enter Tryz.func60,Tryz.ntmps60;go_wp2_with (first|(go_at_call 58;(with_reducible refine(H1.out _).mono ?_);rintro e w' ⟨rfl,rfl⟩)|(go_at_call 61;(with_reducible refine(H2.out _).mono ?_);rintro e w' ⟨rfl,rfl⟩));go_ret;refine⟨kQ ?_,rfl⟩;rw[HA.out];simp
theorem lA(p:UInt8->Bool)(l:List UInt8)(a k:Nat)(h1:a≤k)(h2:k≤l.length)(h3:∀j (h:j<l.length),a≤j->j<k->p l[j]=true)(h4:∀h:k<l.length,p l[k]=false):k=a+((l.drop a).takeWhile p).length:=by
 induction h:k-a generalizing a with
 | zero=>
  obtain rfl:k=a:=av;by_cases hk:k<l.length
  ·rw[dm hk,dP,h4 hk];rfl
  ·rw[eY av];rfl
 | succ n ih=>
  have ha:a<l.length:=av;rw[dm ha,dP,h3 a ha (ai _) av];have:=ih (a+1) av (λj hj h5 h6=>h3 j hj av h6) av;simp only[aW];omega
theorem CX(s:ByteArray)(a:Nat)(ha:a≤s.size)(hs:s.size≤1000000)(w:World):
  Calls af 59 #[.string s,.int .i64 a,.func (.func 60) #[] #[]] w λe w'=>e = .returned (.int .i64 (a+((s.data.toList.drop a).takeWhile P11.dD).length:Nat))/\w=w':=by
 have HA:=aa ha;clear ha;go_enter Tryz.func59,Tryz.ntmps59;go_wp2;go_loop [7] (λx=>∃k:Nat,a≤k/\k≤s.size/\x = .int .i64 k/\Hid (∀j (h:j<s.data.toList.length),a≤j->j<k->P11.dD s.data.toList[j]=true)) (λx=>s.size-(intOf x).toNat)
 case atStart=>exact⟨a,ai _,HA.out,rfl,aa λj h h1 h2=>by omega⟩
 case round=>
  obtain⟨k,h1,h2,rfl,H3⟩:=hrel;by_cases hlt:k<s.size
  ·have hb8:(s[k].toNat:Int)<256:=by have:=s[k].toNat_lt;omega
   have hb:∀w,Calls af 60 #[.int .i32 s[k].toNat] w λe w'=>e = .returned (.bool (P11.dD s[k]))/\w=w':=λw=>D1 s[k] w
   cases hp:P11.dD s[k]
   ·rw[hp]at hb;have HB:=aa hb;have HP:=aa hp;clear hb hp;go_wp2_with (go_at_call 60;(with_reducible refine(HB.out _).mono ?_);rintro e w' ⟨rfl,rfl⟩);go_ret;exact⟨congrArg (λn:Nat=>cm (.int .i64 n)) (lA _ _ _ _ h1 h2 H3.out λ_=>HP.out),rfl⟩
   ·rw[hp]at hb;have HB:=aa hb;have HP:=aa hp;clear hb hp;go_wp2_with (go_at_call 60;(with_reducible refine(HB.out _).mono ?_);rintro e w' ⟨rfl,rfl⟩);go_round
    case rel=>exact⟨k+1,by omega,by omega,by go_num,aa λj h h5 h6=>by
     by_cases hjk:j=k
     ·subst hjk;exact HP.out
     ·exact H3.out j h h5 av⟩
    case measure=>simp[intOf];omega
  ·go_wp2;go_ret;exact⟨congrArg (λn:Nat=>cm (.int .i64 n)) (lA _ _ _ _ h1 h2 H3.out λh=>absurd h hlt),rfl⟩
theorem CW(s:ByteArray)(a:Nat)(ha:a≤s.size)(hs:s.size≤1000000)(w:World):
  Calls af 59 #[.string s,.int .i64 a,.func (.func 61) #[] #[]] w λe w'=>e = .returned (.int .i64 (a+((s.data.toList.drop a).takeWhile P11.digit).length:Nat))/\w=w':=by
 have HA:=aa ha;clear ha;go_enter Tryz.func59,Tryz.ntmps59;go_wp2;go_loop [7] (λx=>∃k:Nat,a≤k/\k≤s.size/\x = .int .i64 k/\Hid (∀j (h:j<s.data.toList.length),a≤j->j<k->P11.digit s.data.toList[j]=true)) (λx=>s.size-(intOf x).toNat)
 case atStart=>exact⟨a,ai _,HA.out,rfl,aa λj h h1 h2=>by omega⟩
 case round=>
  obtain⟨k,h1,h2,rfl,H3⟩:=hrel;by_cases hlt:k<s.size
  ·have hb8:(s[k].toNat:Int)<256:=by have:=s[k].toNat_lt;omega
   have hb:∀w,Calls af 61 #[.int .i32 s[k].toNat] w λe w'=>e = .returned (.bool (P11.digit s[k]))/\w=w':=λw=>my s[k] w
   cases hp:P11.digit s[k]
   ·rw[hp]at hb;have HB:=aa hb;have HP:=aa hp;clear hb hp;go_wp2_with (go_at_call 61;(with_reducible refine(HB.out _).mono ?_);rintro e w' ⟨rfl,rfl⟩);go_ret;exact⟨congrArg (λn:Nat=>cm (.int .i64 n)) (lA _ _ _ _ h1 h2 H3.out λ_=>HP.out),rfl⟩
   ·rw[hp]at hb;have HB:=aa hb;have HP:=aa hp;clear hb hp;go_wp2_with (go_at_call 61;(with_reducible refine(HB.out _).mono ?_);rintro e w' ⟨rfl,rfl⟩);go_round
    case rel=>exact⟨k+1,by omega,by omega,by go_num,aa λj h h5 h6=>by
     by_cases hjk:j=k
     ·subst hjk;exact HP.out
     ·exact H3.out j h h5 av⟩
    case measure=>simp[intOf];omega
  ·go_wp2;go_ret;exact⟨congrArg (λn:Nat=>cm (.int .i64 n)) (lA _ _ _ _ h1 h2 H3.out λh=>absurd h hlt),rfl⟩
end Go.Proofs.YtkpmclddjkebeaaGreatDoor
namespace P11
theorem rB:∀r:List UInt8,39∉r->ck r=none
 | [],_=>rfl
 | c::r,h=>by
  rw[nZ c r (λe=>h (by rw[e];exact cy ..)),rB r (λm=>h (cV _ m))];rfl
theorem rA(r2:List UInt8):∀r1:List UInt8,39∉r1->ck (r1++39::r2)=(ck (39::r2)).map λy=>(r1++y.1,y.2+r1.length)
 | [],_=>by simp
 | c::r1,h=>by
  rw[fV,nZ c _ (λe=>h (by rw[e];exact cy ..)),rA r2 r1 (λm=>h (cV _ m))]
  cases ck (39::r2)with
  | none=>rfl
  | some y=>simp;omega
open Go.Lib (indexByte)
theorem lD(c:UInt8):∀r:List UInt8,(indexByte r c = -1/\c∉r)∨∃n:Nat,indexByte r c=n/\n<r.length/\c∉r.take n/\r.drop n=c::r.drop (n+1)
 | []=> .inl ⟨rfl,by simp⟩
 | b::r=>by
  rw[indexByte];by_cases hb:b=c
  ·subst hb;exact .inr ⟨0,by simp,by simp,by simp,rfl⟩
  ·rw[if_neg (by simpa using hb)];rcases lD c r with⟨h1,h2⟩|⟨n,h1,h2,h3,h4⟩
   ·exact .inl ⟨by rw[h1];rfl,by simp only[aJ,not_or];exact⟨λe=>hb e.symm,h2⟩⟩
   ·refine .inr ⟨n+1,?_,by simp;omega,?_,?_⟩
    ·rw[h1,if_neg eQ];rfl
    ·rw[aG];simp only[aJ,not_or];exact⟨λe=>hb e.symm,h3⟩
    ·rw[aL,aL];exact h4
end P11
namespace Go.Proofs.YtkpmclddjkebeaaGreatDoor
open Go.RowKit
theorem wQ(s:ByteArray)(a:Nat)(c:UInt8)(k v:Int)(hk:k.toNat.toUInt8=c)(h:qF (s.data.toList.drop a) c=v)(w:World):
  Calls af 67 #[.string (s.extract a s.size),.int .u8 k] w λe w'=>e = .returned (.int .i64 v)/\w=w':=by
 refine(Tryz.strings_IndexByte _ _ _).mono ?_;rintro e w' ⟨rfl,rfl⟩;refine⟨?_,rfl⟩;rw[Lib.extract_to_end,← h,hk]
def sH(a:Nat):Option (List UInt8×Nat)->Value
 | none => .tuple #[.int .i64 0,.string ⟨#[]⟩,.bool false]
 | some x => .tuple #[.int .i64 ((a+1+x.2:Nat):Int),.string ⟨x.1.toArray⟩,.bool true]
theorem zE(t:List UInt8)(s:ByteArray)(a b:Nat):(⟨t.toArray⟩:ByteArray)++s.extract a b=⟨(t++(s.data.toList.drop a).take (b-a)).toArray⟩:=by
 have h:∀x y:ByteArray,x.data.toList=y.data.toList->x=y:=λ⟨x⟩ ⟨y⟩ h=>by
  simp at h;rw[h]
 apply h;simp only[ByteArray.data_append,Array.toList_append,fT]
theorem Ev(s:ByteArray)(a:Nat)(ha:a<s.size)(hs:s.size≤1000000)(w:World):
  Calls af 68 #[.string s,.int .i64 a] w λe w'=>e = .returned (sH a (P11.ck (s.data.toList.drop (a+1))))/\w=w':=by
 have HA:=aa ha;clear ha;go_enter Tryz.func68,Tryz.ntmps68;go_wp2;go_loop [1,7] (λx o=>∃ (b:Nat) (t:List UInt8),a≤b/\b<s.size/\t.length≤b/\x = .int .i64 b/\o = .string ⟨t.toArray⟩/\Hid (P11.ck (s.data.toList.drop (a+1))=(P11.ck (s.data.toList.drop (b+1))).map λy=>(t++y.1,y.2+(b-a)))) (λx _=>s.size-(intOf x).toNat)
 case atStart=>exact⟨a,[],ai _,HA.out,gM _,rfl,rfl,aa (by cases P11.ck (s.data.toList.drop (a+1))<;>simp)⟩
 case round=>
  obtain⟨b,t,h1,h2,ht,rfl,rfl,HT⟩:=hrel;rcases P11.lD 39 (s.data.toList.drop (b+1))with⟨e1,e2⟩|⟨n,e1,e2,e3,e4⟩
  ·have HX:=aa (λw=>wQ s (b+1) 39 39 _ rfl e1 w);have HN:Hid (P11.ck (s.data.toList.drop (a+1))=none):=aa (by rw[HT.out,P11.rB _ e2];rfl);clear e1 e2;go_wp2_with (go_at_call 67;(with_reducible refine(HX.out _).mono ?_);rintro e w' ⟨rfl,rfl⟩);go_ret3;exact⟨by rw[HN.out];rfl,rfl⟩
  ·have HX:=aa (λw=>wQ s (b+1) 39 39 _ rfl e1 w);have h3:b+1+n<s.size:=by simp at e2;omega
   have e5:s.data.toList.drop (b+1)=(s.data.toList.drop (b+1)).take n++39::s.data.toList.drop (b+n+2):=by
    have:=List.take_append_drop n (s.data.toList.drop (b+1));rw[e4,gO]at this;rw[show b+n+2=b+1+(n+1) by omega];exact this.symm
   have e6:((s.data.toList.drop (b+1)).take n).length=n:=by simp at e2 ⊢;omega
   have e7:P11.ck (s.data.toList.drop (b+1))=(P11.ck (39::s.data.toList.drop (b+n+2))).map λy=>((s.data.toList.drop (b+1)).take n++y.1,y.2+n):=by
    have:=P11.rA (s.data.toList.drop (b+n+2)) _ e3;rw[e6]at this;rw[← this,← e5]
   have e8:=zE t s (b+1) (b+1+n);rw[Nat.add_sub_cancel_left]at e8;have H8:=aa e8;have H7:=aa e7;clear e1 e2 e3 e4 e5 e6 e7 e8;by_cases hz:b+n+2=s.size
   ·have HN:Hid (sH a (P11.ck (s.data.toList.drop (a+1))) = .tuple #[.int .i64 s.size,.string (⟨t.toArray⟩++s.extract (b+1) (b+1+n)),.bool true]):=aa (by
     rw[HT.out,H7.out,hz,eY (ai s.size),H8.out];rw[P11.pU [] ff];simp only[oG,sH,pL];rw[show a+1+(1+n+(b-a))=s.size by omega])
    have hz1:(b:Int)+((n:Int)+2)=(s.size:Int):=av;have Hz:=aa hz;clear hz H7 H8;go_wp2_with (go_at_call 67;(with_reducible refine(HX.out _).mono ?_);rintro e w' ⟨rfl,rfl⟩);go_ret3;exact⟨by rw[HN.out];rfl,rfl⟩
   ·have hz1:((b:Int)+((n:Int)+2)==(s.size:Int))=false:=by rw[beq_eq_false_iff_ne];omega
    have hz2:(b:Int)+((n:Int)+2)<(s.size:Int):=av;have h4:b+n+2<s.size:=av;have h4:b+(n+2)<s.size:=av;by_cases hc:s[b+(n+2)]=39
    ·have hc1:((s[b+(n+2)].toNat:Int)==39)=true:=by rw[hc];rfl
     have hc2:((s[b+(n+2)].toNat:Int) !=39)=false:=by rw[bne,hc1];rfl
     have e9:s.data.toList.drop (b+n+2)=39::s.data.toList.drop (b+n+2+1):=by
      rw[dm (show b+n+2<s.data.toList.length from by show b+n+2<s.size;omega)];congr 1
     have HN:Hid (P11.ck (s.data.toList.drop (a+1))=(P11.ck (s.data.toList.drop (b+n+2+1))).map λy=>(t++(s.data.toList.drop (b+1)).take n ++ [39]++y.1,y.2+(b+n+2-a))):=aa (by
      rw[HT.out,H7.out,e9,P11.qJ]
      cases P11.ck (s.data.toList.drop (b+n+2+1))with
      | none=>rfl
      | some y=>simp;omega)
     have e10:(⟨t.toArray⟩++s.extract (b+1) (b+1+n)++⟨#[39]⟩:ByteArray)=⟨(t++(s.data.toList.drop (b+1)).take n ++ [39]).toArray⟩:=by
      rw[H8.out]
      have h:∀x y:ByteArray,x.data.toList=y.data.toList->x=y:=λ⟨x⟩ ⟨y⟩ h=>by
       simp at h;rw[h]
      apply h;simp[ByteArray.data_append]
     have H10:=aa e10
     have hl:(t++(s.data.toList.drop (b+1)).take n ++ [39]).length≤b+n+2:=by
      have:=List.length_take_le n (s.data.toList.drop (b+1));simp only[aN,bf];omega
     have HL:=aa hl;clear hc e9 e10 hl H7 H8 HT;go_wp2_with (go_at_call 67;(with_reducible refine(HX.out _).mono ?_);rintro e w' ⟨rfl,rfl⟩);go_round
     case rel=>exact⟨b+n+2,_,by omega,by omega,HL.out,by go_num,congrArg zX H10.out,HN⟩
     case measure=>simp[intOf];omega
    ·have hc1:((s[b+(n+2)].toNat:Int)==39)=false:=by
      rw[beq_eq_false_iff_ne];intro h;exact hc (jL.1 (by rw[show(39:UInt8).toNat=39 from rfl];omega))
     have hc2:((s[b+(n+2)].toNat:Int) !=39)=true:=by rw[bne,hc1];rfl
     have HN:Hid (sH a (P11.ck (s.data.toList.drop (a+1))) = .tuple #[.int .i64 (b+(n+2)),.string (⟨t.toArray⟩++s.extract (b+1) (b+1+n)),.bool true]):=aa (by
      have hb:(s.data.toList.drop (b+n+2)).head?≠some 39:=by
       rw[List.head?_drop,aZ (show b+n+2<s.data.toList.length from by show b+n+2<s.size;omega)];intro h;exact hc (iy h)
      rw[HT.out,H7.out,H8.out,P11.pU _ hb];simp only[oG,sH,pL];rw[show((a+1+(1+n+(b-a)):Nat):Int)=b+(n+2) by omega])
     clear hc H7 H8 HT;go_wp2_with (go_at_call 67;(with_reducible refine(HX.out _).mono ?_);rintro e w' ⟨rfl,rfl⟩);go_ret3;exact⟨by rw[HN.out];rfl,rfl⟩
end Go.Proofs.YtkpmclddjkebeaaGreatDoor
namespace Go.Proofs.YtkpmclddjkebeaaGreatDoor
open Go.RowKit Go.Maps
def iI(w:World)(v:Value)(l:List (List UInt8)):Prop:=
 ∃b off cap,v = .slice (some ⟨b,off,none⟩) l.length cap/\∀ (j:Nat) (x:List UInt8),l[j]?=some x->w.cell? ⟨b,off+j,none⟩=some (.string ⟨x.toArray⟩)
theorem iI.ext{w w':World}{v:Value}{l:List (List UInt8)}(h:iI w v l)(hx:Xk.Ext w w'):iI w' v l:=by
 obtain⟨b,off,cap,hv,hl⟩:=h;exact⟨b,off,cap,hv,λj x hj=>Xk.bO hx (hl j x hj)⟩
theorem iI.new(w:World)(l:List (List UInt8))(C:Array Value)(t:TypeId)(n:Nat)(hn:l.length=n)(h:C.toList=l.map λx=>zX ⟨x.toArray⟩):iI (w.alloc (.cells C t)) (.slice (some ⟨w.heap.size,0,none⟩) n n) l:=by
 refine⟨w.heap.size,0,n,by rw[hn],λj x hj=>?_⟩;rw[fG];simp only[eF];rw[← pK,h,jA,hj];rfl
theorem og(w:World):Calls af 65 #[] w λe w'=>∃v,e = .returned v/\iI w' v P11.fI/\Below w.heap.size w w':=by
 go_enter Tryz.func65,Tryz.ntmps65;go_wp2;go_ret;exact⟨_,rfl,iI.new w P11.fI _ _ 17 jg jg,Xk.xt⟩
theorem mP(s p:ByteArray)(a:Nat)(w:World):Calls af 57 #[.string (s.extract a s.size),.string p] w λe w'=>e = .returned (.bool (p.data.toList.isPrefixOf (s.data.toList.drop a)))/\w=w':=by
 refine(Tryz.strings_HasPrefix _ _ _).mono ?_;rintro e w' ⟨rfl,rfl⟩;refine⟨?_,rfl⟩;rw[Lib.hasPrefix,Lib.extract_to_end]
def nv(s:ByteArray)(a:Nat)(x:List UInt8):Bool:=x.isPrefixOf (s.data.toList.drop a)
theorem zC(s:ByteArray)(a:Nat)(x:List UInt8)(bs ba:Nat)(w:World)(cs:w.cell? ⟨bs,0,none⟩=some (.string s))(ca:w.cell? ⟨ba,0,none⟩=some (.int .i64 a))(ha:a≤s.size)(hs:s.size≤1000000):
  Calls af 66 #[.string ⟨x.toArray⟩,.pointer (some ⟨bs,0,none⟩),.pointer (some ⟨ba,0,none⟩)] w λe w'=>e = .returned (.bool (nv s a x))/\w=w':=by
 have HP:=aa (λw=>mP s ⟨x.toArray⟩ a w);go_enter Tryz.func66,Tryz.ntmps66;go_wp2_with (go_at_call 57;(with_reducible refine(HP.out _).mono ?_);rintro e w' ⟨rfl,rfl⟩);go_ret;exact⟨rfl,rfl⟩
def fy(p:List UInt8->Bool):List (List UInt8)->Int
 | []=> -1
 | x::l=>if p x then 0 else if fy p l = -1 then -1 else fy p l+1
theorem oV{p:List UInt8->Bool}:∀ {l:List (List UInt8)} {q:Nat} {x:List UInt8},l[q]?=some x->p x=true->(∀j y,j<q->l[j]?=some y->p y=false)->fy p l=q
 | [],_,_,h,_,_=>by simp at h
 | y::l,0,x,h,hp,_=>by
  simp at h;subst h;rw[fy,if_pos hp];rfl
 | y::l,q+1,x,h,hp,hn=>by
  have:=oV (l:=l) (q:=q) (by simpa using h) hp (λj z hj hz=>hn (j+1) z av (by simpa using hz));rw[fy,if_neg (by rw[hn 0 y av rfl];decide),if_neg av,this];rfl
theorem nJ{p:List UInt8->Bool}:∀ {l:List (List UInt8)},(∀ (j:Nat) y,l[j]?=some y->p y=false)->fy p l = -1
 | [],_=>rfl
 | y::l,hn=>by
  have:=nJ (l:=l) (λj z hz=>hn (j+1) z (by simpa using hz));rw[fy,if_neg (by rw[hn 0 y rfl];decide),if_pos this]
theorem kU{p:List UInt8->Bool}:∀l:List (List UInt8),(fy p l = -1/\l.find? p=none)∨∃ (q:Nat) (x:List UInt8),fy p l=q/\l[q]?=some x/\l.find? p=some x
 | []=> .inl ⟨rfl,rfl⟩
 | y::l=>by
  rw[fy,xz]
  cases hp:p y
  ·rw[if_neg ff];rcases kU (p:=p) l with⟨h1,h2⟩|⟨q,x,h1,h2,h3⟩
   ·exact .inl ⟨by rw[if_pos h1],h2⟩
   ·exact .inr ⟨q+1,x,by rw[if_neg av,h1];rfl,by simpa using h2,h3⟩
  ·exact .inr ⟨0,y,by rw[if_pos rfl];rfl,rfl,rfl⟩
theorem oT(s:ByteArray)(a:Nat)(v:Value)(l:List (List UInt8))(bs ba:Nat)(w:World)(hv:iI w v l)(hl:l.length≤1000)(cs:w.cell? ⟨bs,0,none⟩=some (.string s))(ca:w.cell? ⟨ba,0,none⟩=some (.int .i64 a))(ha:a≤s.size)(hs:s.size≤1000000):
  Calls af 64 #[v,.func (.func 66) #[] #[.pointer (some ⟨bs,0,none⟩),.pointer (some ⟨ba,0,none⟩)]] w λe w'=>e = .returned (.int .i64 (fy (nv s a) l))/\w=w':=by
 obtain⟨b,off,cap,rfl,hc⟩:=hv;have HC:=aa hc;have HK:=aa (λx=>zC s a x bs ba w cs ca ha hs);clear hc cs ca ha hs;go_enter Tryz.func64,Tryz.ntmps64;go_wp2;go_loop [5,8] (λ_ x=>∃q:Nat,q≤l.length/\x = .int .i64 q/\Hid (∀ (j:Nat) y,j<q->l[j]?=some y->nv s a y=false)) (λ_ x=>l.length-(intOf x).toNat)
 case atStart=>exact⟨0,gM _,rfl,aa λj y hj=>by omega⟩
 case round=>
  obtain⟨q,hq,rfl,HN⟩:=hrel;by_cases hlt:q<l.length
  ·have hx:l[q]?=some (l[q]'hlt):=aZ _;have HX:=aa hx;have c1:=HC.out q _ hx;have hk:=HK.out (l[q]'hlt);clear hx;generalize l[q]'hlt=x at *
   cases hp:nv s a x
   ·rw[hp]at hk;have Hk:=aa hk;have HP:=aa hp;clear hk hp;go_wp2_with (go_at_call 66;(with_reducible refine(Hk.out).mono ?_);rintro e w' ⟨rfl,rfl⟩);go_round
    case rel=>exact⟨q+1,by omega,by go_num,aa λj y hj hy=>by
     by_cases hjq:j=q
     ·subst hjq;rw[HX.out]at hy;cases hy;exact HP.out
     ·exact HN.out j y av hy⟩
    case measure=>simp[intOf];omega
   ·rw[hp]at hk;have Hk:=aa hk;have HP:=aa hp;clear hk hp;go_wp2_with (go_at_call 66;(with_reducible refine(Hk.out).mono ?_);rintro e w' ⟨rfl,rfl⟩);go_ret;exact⟨congrArg (λn:Int=>cm (.int .i64 n)) (oV HX.out HP.out HN.out).symm,rfl⟩
  ·go_wp2;go_ret;exact⟨congrArg (λn:Int=>cm (.int .i64 n)) (nJ λj y hy=>HN.out j y (by have:=(cr.1 hy).1;omega) hy).symm,rfl⟩
end Go.Proofs.YtkpmclddjkebeaaGreatDoor
namespace P11
def xZ(n:Nat):Go.DataW Unit:=Go.Maps.setOf (.agg []) ((words.take n).map Go.Lit.string)
theorem zf(k:List UInt8):Go.Maps.has (xZ 43) (.string k)=words.contains k:=by
 rw[xZ,Go.Maps.has_setOf _ _ _ (λx hx=>by
  obtain⟨y,-,rfl⟩:=List.mem_map.1 hx;trivial),List.take_of_length_le ff]
 rw[gX];simp[Go.Lit.sameKey]
def iS(w:List UInt8):Int×List UInt8:=if words.contains (w.map fH)then(2,w.map fH)else(1,w.map iA)
end P11
namespace Go.Proofs.YtkpmclddjkebeaaGreatDoor
open Go.RowKit Go.Maps
theorem uA(w:World)(p q:Regrown)(o:Obj):Xk.exw ((Xk.exw w p).alloc o) q=Xk.exw w ⟨q.d,p.os.push o++q.os⟩:=by
 simp[Xk.exw,ni,redrawn,World.alloc,mD]
attribute [local go_sem] uA
theorem Bb:Keyed af 9:=string_keyed ef
theorem xD(w:World):(zeroValue 114).run af w = .ok (.agg #[]) w:=jg
def jX(w:World)(B n:Nat):Prop:=w.ownsMap af 9 (unitElem (H:=Unit)) B n (P11.xZ n)
theorem jX.ext{w w':World}{B n:Nat}(h:jX w B n)(hx:Xk.Ext w w'):jX w' B n:=by
 have:=h.lt;unfold jX World.ownsMap at *
 rw[hx.block B this];exact h
theorem zK(c:UInt8)(h:P11.dD c=true):c.toNat<128:=by
 have:=P11.pf (p:=P11.dD) (q:=λc=>decide (c.toNat<128)) (by decide +kernel) c h;simpa using this
theorem Ef(s:ByteArray)(a:Int)(B:Nat)(w:World)(hw:jX w B 43)(hs:s.size≤1000000)(ha:s.data.toList.all P11.dD=true):
  Calls af 62 #[.string s,.int .i64 a,.map (some B)] w λe w'=>e = .returned (.agg #[.int .i64 (P11.iS s.data.toList).1,.string ⟨(P11.iS s.data.toList).2.toArray⟩,.int .i64 a])/\Below w.heap.size w w':=by
 have hasc:∀ (j:Nat) (b:UInt8),s.data.toList[j]?=some b->b.toNat<128:=λj b hj=>zK b (ft.1 ha b (iY hj));have HU:=aa (λw=>Tryz.strings_ToUpper_ascii s w av hasc);have HL:=aa (λw=>Tryz.strings_ToLower_ascii s w av hasc);have hW:=λo p=>hw.ext ((((al _ w).alloc (ai _) o)).trans ((Xk.cF (w.alloc o) p).mono eQ));have HW:=aa hW
 have hsz:(⟨(iR s.data.toList).toArray⟩:ByteArray).size≤maxLen:=by
  have:(⟨(iR s.data.toList).toArray⟩:ByteArray).size=s.size:=by
   show(iR s.data.toList).toArray.size=s.data.size
   simp[iR]
  unfold maxLen;omega
 have HK:=aa (Go.WideMaps.keyOf_string_mk ef hsz);clear hW hsz hw ha
 cases hc:P11.words.contains (s.data.toList.map fH)
 ·have hv:Maps.has (P11.xZ 43) (.string (iR s.data.toList))=false:=(P11.zf _).trans hc;have HR:Hid (P11.iS s.data.toList=(1,Lib.toLowerA s.data.toList)):=aa (by unfold P11.iS;rw[hc];rfl);clear hc hasc;go_enter Tryz.func62,Tryz.ntmps62;go_wp2_with (first|(go_at_call 96;with_reducible refine Xk.cl (HU.out _) λp=>?_)|(go_at_call 125;with_reducible refine Xk.cl (HL.out _) λp=>?_)|(at_lookup;refine wpList_lookup_own_unit _ rfl _ _ 112 rfl 9 114 Bb rn (xD _) B 43 _ rfl (HW.out _ _) _ _ rfl HK.out ?_));rw[HR.out]
  exact ar (v := .agg #[.int .i64 1,.string ⟨(Lib.toLowerA s.data.toList).toArray⟩,.int .i64 a]) (by simp[results,Tryz.results62,go_sem]) rfl ⟨rfl,Xk.xt⟩
 ·have hv:Maps.has (P11.xZ 43) (.string (iR s.data.toList))=true:=(P11.zf _).trans hc;have HR:Hid (P11.iS s.data.toList=(2,iR s.data.toList)):=aa (by unfold P11.iS;rw[hc];rfl);clear hc hasc;go_enter Tryz.func62,Tryz.ntmps62;go_wp2_with (first|(go_at_call 96;with_reducible refine Xk.cl (HU.out _) λp=>?_)|(go_at_call 125;with_reducible refine Xk.cl (HL.out _) λp=>?_)|(at_lookup;refine wpList_lookup_own_unit _ rfl _ _ 112 rfl 9 114 Bb rn (xD _) B 43 _ rfl (HW.out _ _) _ _ rfl HK.out ?_));rw[HR.out]
  exact ar (v := .agg #[.int .i64 2,.string ⟨(iR s.data.toList).toArray⟩,.int .i64 a]) (by simp[results,Tryz.results62,go_sem]) rfl ⟨rfl,Xk.xt⟩
end Go.Proofs.YtkpmclddjkebeaaGreatDoor
namespace Go.Xk
open Go.RowKit
def jumps(J:Nat->Act->World->Prop)(Q:Exit->Act->World->Prop):Exit->Act->World->Prop
 | .goto l,a,w=>J l a w
 | e,a,w=>Q e a w
section
variable {J : Nat → Act → World → Prop} {Q : Exit → Act → World → Prop} {a : Act} {w : World}
@[go_sem] theorem gB(l:Nat):jumps J Q (.goto l) a w=J l a w:=rfl
@[go_sem] theorem IA:jumps J Q .normal a w=Q .normal a w:=rfl
@[go_sem] theorem JM(id:Nat):jumps J Q (.exit id) a w=Q (.exit id) a w:=rfl
@[go_sem] theorem Kb:jumps J Q .ret a w=Q .ret a w:=rfl
@[go_sem] theorem I8(ch:List PanicEntry):jumps J Q (.panic ch) a w=Q (.panic ch) a w:=rfl
end
theorem sd{P:Program}{a:Act}{w:World}{Q:Exit->Act->World->Prop}{c:Code}(J:Nat->Nat->Act->World->Prop)
  (first:c.wp P (jumps (λl a w=>∃n,J n l a w) Q) a w)
  (pass:∀n l a w,J n l a w->∃rest,findLabel c l=some rest/\rest.wp P (jumps (λl' a' w'=>∃m,m<n/\J m l' a' w') Q) a w):(Code.scope c).wp P Q a w:=by
 intro b k cs
 have key:∀n l a w,J n l a w->∃rest e a' w',findLabel c l=some rest/\Q e a' w'/\Arrives P (lone (b.at a (.code rest :: .inScope c::k)) cs w) b k cs e a' w':=by
  intro n;induction n using uf with
  | _ n ih=>
   intro l a w hJ;obtain⟨rest,hf,hw⟩:=pass n l a w hJ;obtain⟨e,a₁,w₁,hq,harr⟩:=hw b (.inScope c::k) cs;refine⟨rest,?_⟩
   cases e with
   | normal=>exact⟨.normal,a₁,w₁,hf,hq,Steps.trans harr (.one step_inScope)⟩
   | exit id=>exact⟨.exit id,a₁,w₁,hf,hq,λk' hk=>harr k' (by simp[exitTo,hk])⟩
   | goto l'=>
    obtain⟨m,hlt,hJ'⟩:=hq;obtain⟨rest₂,e₂,a₂,w₂,hf₂,hq₂,harr₂⟩:=ih m hlt l' a₁ w₁ hJ';exact⟨e₂,a₂,w₂,hf,hq₂,.of_steps (harr _ (by simp[gotoIn,hf₂])) harr₂⟩
   | ret=>exact⟨_,a₁,w₁,hf,hq,harr⟩
   | panic ch=>exact⟨_,a₁,w₁,hf,hq,harr⟩
   | outgrown=>exact⟨_,a₁,w₁,hf,hq,harr⟩
 obtain⟨e,a₁,w₁,hq,harr⟩:=first b (.inScope c::k) cs
 cases e with
 | normal=>exact⟨.normal,a₁,w₁,hq,.head pM (Steps.trans harr (.one step_inScope))⟩
 | exit id=>exact⟨.exit id,a₁,w₁,hq,λk' hk => .head pM (harr k' (by simp[exitTo,hk]))⟩
 | goto l'=>
  obtain⟨n,hJ'⟩:=hq;obtain⟨rest₂,e₂,a₂,w₂,hf₂,hq₂,harr₂⟩:=key n l' a₁ w₁ hJ';exact⟨e₂,a₂,w₂,hq₂,.of_steps (.head pM (harr _ (by simp[gotoIn,hf₂]))) harr₂⟩
 | ret=>exact⟨_,a₁,w₁,hq,.of_steps (.one pM) harr⟩
 | panic ch=>exact⟨_,a₁,w₁,hq,.of_steps (.one pM) harr⟩
 | outgrown=>exact⟨_,a₁,w₁,hq,.of_steps (.one pM) harr⟩
theorem yt{w w':World}{base:Nat}{e:TypeId}{size:Nat}{v:Value}{n:Nat}{xs:List Value}(h:w.ownsRow base e size v n xs)(hx:Ext w w'):w'.ownsRow base e size v n xs:=by
 obtain⟨h1,h2⟩:=h;refine⟨h1,?_⟩;rcases h2 with h2|⟨g,cap,cur,hv,hb,hg,r⟩
 ·exact .inl h2
 ·exact .inr ⟨g,cap,cur,hv,hb,by rw[hx.block g (ae.1 hg).1];exact hg,r⟩
theorem sS{W:World}{d d':Nat}{os os':Array Obj}{base:Nat}{e:TypeId}{size:Nat}{v:Value}{n:Nat}{xs:List Value}(h:(exw W ⟨d,os⟩).ownsRow base e size v n xs):(exw W ⟨d',os++os'⟩).ownsRow base e size v n xs:=by
 rw[← jV W ⟨d,os⟩ ⟨d',os'⟩];exact yt h (cF _ _)
theorem I4{W:World}{p:Regrown}{d':Nat}{base:Nat}{e:TypeId}{size:Nat}{v:Value}{n:Nat}{xs:List Value}(h:(exw W p).ownsRow base e size v n xs):(exw W ⟨d',p.os⟩).ownsRow base e size v n xs:=by
 have:=sS (d:=p.d) (d':=d') (os:=p.os) (os' := #[]) h;simpa using this
theorem va{w:World}{base:Nat}{e:TypeId}{size:Nat}{v:Value}{n:Nat}{xs:List Value}(h:w.ownsRow base e size v n xs)(o:Obj):(w.alloc o).ownsRow base e size v n xs:=h.alloc o
theorem ny{w:World}{base:Nat}{e:TypeId}{size:Nat}{v:Value}{n:Nat}{xs:List Value}(h:w.ownsRow base e size v n xs):(w.drew).ownsRow base e size v n xs:=h.drew
theorem eb{P:Program}{w0 w:World}{ops:Array Oper}{rest:List Oper}{o:Oper}{a:Act}{Q:Exit->Act->World->Prop}(hgd:o.guard=none)(s x:Operand)(t:TypeId)
  (ho:o.op = .call { callee := .builtin .append,args := #[s,x],argTypes := #[t,t] })
  (e:TypeId) (i:TypeInfo) (z:Value) (size bytes:Nat) (ht:P.underlying t=some (.slice e)) (hi:P.info? e=some i) (hz:i.zero=some z)
  (hsize:i.size=size) (hby:i.bytes=bytes) (hzs:z.cells.size=size) (hsz:0<size)
  (v:Value) (n:Nat) (xs:List Value) (hs:a.eval s=v) (hown:w.ownsRow w0.heap.size e size v n xs)
  (g goff m c:Nat) (news:List Value) (hx:a.eval x = .slice (some ⟨g,goff,none⟩) m c) (hl:news.length=m*size) (hnews0:∀j u,news[j]?=some u->w.cell? ⟨g,goff+j,none⟩=some u) (h1:∀u∈news,u.oneCell'=true)
  (hb:n≤1000000/\m≤1000000/\bytes≤1000) (hbel:Below w0.heap.size w0 w)
  (h:∀v' p,(exw w0 p).ownsRow w0.heap.size e size v' (n+m) (xs++news)->wpList P ops Q rest (a.put o.dst v') (exw w0 p)):wpList P ops Q (o::rest) a w:=by
 have hnews:∀j u,news[j]?=some u->w.cell? (zU ⟨g,goff,none⟩ j)=some u:=λj u hj=>by rw[addr_add];exact hnews0 j u hj
 have hm:(n+m)*bytes≤2000000*1000:=Nat.mul_le_mul av hb.2.2;refine wpList_append_own w hgd s x t ho w0.heap.size e i z size bytes ht hi hz hsize hby hzs hsz v n xs hs hown _ m c news hx hl hnews h1 (by unfold maxLen;omega) av hbel.size λv' w' ho' hg _=>?_;obtain⟨p,rfl⟩:=jq (hbel.grown hg hbel.size (rO hown));exact h v' p ho'
theorem jK{W:World}{g:Nat}{x y z:Value}{t:TypeId}(h:g=W.heap.size):∀ (j:Nat) u,[x,y,z][j]?=some u->(W.alloc (.cells #[x,y,z] t)).cell? ⟨g,0+j,none⟩=some u:=by
 subst h;intro j u hj;rw[fG];match j,hj with
 | 0,hj=>simpa using hj
 | 1,hj=>simpa using hj
 | 2,hj=>simpa using hj
end Go.Xk
namespace Go.Proofs.YtkpmclddjkebeaaGreatDoor
open Go.RowKit Go.Maps
theorem Tryz.oz:(af.info? 72).map (λi=>(i.zero,i.size,i.bytes))=some (some (.agg #[.int .i64 0,.string ⟨#[]⟩,.int .i64 0]),3,32):=jg
def bN(l:List P11.Tok):List Value:=l.flatMap λt => [.int .i64 t.kind,.string ⟨t.text.toArray⟩,.int .i64 t.pos]
theorem fQ(l:List P11.Tok)(t:P11.Tok):bN (l ++ [t])=bN l ++ [.int .i64 t.kind,.string ⟨t.text.toArray⟩,.int .i64 t.pos]:=by simp[bN]
theorem rz:∀ (l:List P11.Tok) (j:Nat) (t:P11.Tok),l[j]?=some t->(bN l)[j*3]?=some (.int .i64 t.kind)/\(bN l)[j*3+1]?=some (.string ⟨t.text.toArray⟩)/\(bN l)[j*3+2]?=some (.int .i64 t.pos)
 | [],_,_,h=>by simp at h
 | x::l,0,t,h=>by
  simp at h;subst h;exact⟨rfl,rfl,rfl⟩
 | x::l,j+1,t,h=>by
  obtain⟨h1,h2,h3⟩:=rz l j t (by simpa using h);have e:bN (x::l) = .int .i64 x.kind :: .string ⟨x.text.toArray⟩ :: .int .i64 x.pos::bN l:=rfl;rw[e,show(j+1)*3=j*3+1+1+1 by omega];exact⟨by simpa using h1,by simpa using h2,by simpa using h3⟩
def BM(w:World)(v:Value)(l:List P11.Tok):Prop:=
 ∃pa cap,v = .slice pa l.length cap/\∀ (j:Nat) (t:P11.Tok),l[j]?=some t->∃b off,pa=some ⟨b,off,none⟩/\
  w.cell? ⟨b,off+j*3,none⟩=some (.int .i64 t.kind)/\w.cell? ⟨b,off+j*3+1,none⟩=some (.string ⟨t.text.toArray⟩)/\w.cell? ⟨b,off+j*3+2,none⟩=some (.int .i64 t.pos)/\l.length≤cap
def gg(s:ByteArray)(w0:World)(e:Ending)(w':World):Prop:=
 Below w0.heap.size w0 w'/\((∃l v,P11.eP s.data.toList = .inl l/\e = .returned (.tuple #[v,.int .i64 0,.int .i64 0])/\BM w' v l)∨
  ∃ (a:Nat) (k:Int),P11.eP s.data.toList = .inr (a,k)/\e = .returned (.tuple #[.slice none 0 0,.int .i64 a,.int .i64 k]))
noncomputable def eU:Code:=match dy.body with
 | some (.seq _ (.scope c))=>c
 | _ => .skip
def Fr(s:ByteArray)(bs B ba:Nat)(v:Value)(a:Act):Prop:=
 ∃f:Nat->Value,a = { tmps := #[.string s,.pointer (some ⟨bs,0,none⟩),f 2,f 3,f 4,.map (some B),f 6,f 7,v,.pointer (some ⟨ba,0,none⟩),f 10,f 11,f 12,f 13,f 14,f 15,f 16,f 17,f 18,f 19,f 20,f 21,f 22,f 23,f 24,f 25,f 26,f 27,f 28,f 29,f 30,f 31,f 32,f 33,f 34,f 35,f 36,f 37,f 38,f 39,f 40,f 41,f 42,f 43,f 44,f 45,f 46,f 47,f 48,f 49,f 50,f 51,f 52,f 53,f 54,f 55,f 56,f 57,f 58,f 59,f 60,f 61,f 62,f 63,f 64,f 65,f 66,f 67,f 68,f 69,f 70,f 71,f 72,f 73,f 74,f 75,f 76,f 77,f 78,f 79,f 80,f 81,f 82,f 83,f 84,f 85,f 86,f 87,f 88,f 89,f 90,f 91,f 92,f 93,f 94,f 95,f 96,f 97,f 98,f 99,f 100,f 101,f 102,f 103,f 104,f 105,f 106,f 107,f 108,f 109,f 110,f 111,f 112,f 113,f 114,f 115,f 116,f 117,f 118,f 119,f 120,f 121,f 122,f 123,f 124,f 125,f 126,f 127,f 128,f 129,f 130,f 131,f 132,f 133,f 134,f 135,f 136,f 137,f 138,f 139,f 140,f 141,f 142,f 143,f 144,f 145,f 146,f 147,f 148,f 149,f 150,f 151,f 152,f 153,f 154,f 155,f 156,f 157,f 158,f 159,f 160,f 161,f 162,f 163,f 164,f 165,f 166,f 167,f 168,f 169,f 170,f 171],defers := [] }
theorem Fr.of{s:ByteArray}{bs B ba:Nat}{v:Value}{a:Act}(h:a = { tmps := #[.string s,.pointer (some ⟨bs,0,none⟩),a.tmps.getD 2 undef,a.tmps.getD 3 undef,a.tmps.getD 4 undef,.map (some B),a.tmps.getD 6 undef,a.tmps.getD 7 undef,v,.pointer (some ⟨ba,0,none⟩),a.tmps.getD 10 undef,a.tmps.getD 11 undef,a.tmps.getD 12 undef,a.tmps.getD 13 undef,a.tmps.getD 14 undef,a.tmps.getD 15 undef,a.tmps.getD 16 undef,a.tmps.getD 17 undef,a.tmps.getD 18 undef,a.tmps.getD 19 undef,a.tmps.getD 20 undef,a.tmps.getD 21 undef,a.tmps.getD 22 undef,a.tmps.getD 23 undef,a.tmps.getD 24 undef,a.tmps.getD 25 undef,a.tmps.getD 26 undef,a.tmps.getD 27 undef,a.tmps.getD 28 undef,a.tmps.getD 29 undef,a.tmps.getD 30 undef,a.tmps.getD 31 undef,a.tmps.getD 32 undef,a.tmps.getD 33 undef,a.tmps.getD 34 undef,a.tmps.getD 35 undef,a.tmps.getD 36 undef,a.tmps.getD 37 undef,a.tmps.getD 38 undef,a.tmps.getD 39 undef,a.tmps.getD 40 undef,a.tmps.getD 41 undef,a.tmps.getD 42 undef,a.tmps.getD 43 undef,a.tmps.getD 44 undef,a.tmps.getD 45 undef,a.tmps.getD 46 undef,a.tmps.getD 47 undef,a.tmps.getD 48 undef,a.tmps.getD 49 undef,a.tmps.getD 50 undef,a.tmps.getD 51 undef,a.tmps.getD 52 undef,a.tmps.getD 53 undef,a.tmps.getD 54 undef,a.tmps.getD 55 undef,a.tmps.getD 56 undef,a.tmps.getD 57 undef,a.tmps.getD 58 undef,a.tmps.getD 59 undef,a.tmps.getD 60 undef,a.tmps.getD 61 undef,a.tmps.getD 62 undef,a.tmps.getD 63 undef,a.tmps.getD 64 undef,a.tmps.getD 65 undef,a.tmps.getD 66 undef,a.tmps.getD 67 undef,a.tmps.getD 68 undef,a.tmps.getD 69 undef,a.tmps.getD 70 undef,a.tmps.getD 71 undef,a.tmps.getD 72 undef,a.tmps.getD 73 undef,a.tmps.getD 74 undef,a.tmps.getD 75 undef,a.tmps.getD 76 undef,a.tmps.getD 77 undef,a.tmps.getD 78 undef,a.tmps.getD 79 undef,a.tmps.getD 80 undef,a.tmps.getD 81 undef,a.tmps.getD 82 undef,a.tmps.getD 83 undef,a.tmps.getD 84 undef,a.tmps.getD 85 undef,a.tmps.getD 86 undef,a.tmps.getD 87 undef,a.tmps.getD 88 undef,a.tmps.getD 89 undef,a.tmps.getD 90 undef,a.tmps.getD 91 undef,a.tmps.getD 92 undef,a.tmps.getD 93 undef,a.tmps.getD 94 undef,a.tmps.getD 95 undef,a.tmps.getD 96 undef,a.tmps.getD 97 undef,a.tmps.getD 98 undef,a.tmps.getD 99 undef,a.tmps.getD 100 undef,a.tmps.getD 101 undef,a.tmps.getD 102 undef,a.tmps.getD 103 undef,a.tmps.getD 104 undef,a.tmps.getD 105 undef,a.tmps.getD 106 undef,a.tmps.getD 107 undef,a.tmps.getD 108 undef,a.tmps.getD 109 undef,a.tmps.getD 110 undef,a.tmps.getD 111 undef,a.tmps.getD 112 undef,a.tmps.getD 113 undef,a.tmps.getD 114 undef,a.tmps.getD 115 undef,a.tmps.getD 116 undef,a.tmps.getD 117 undef,a.tmps.getD 118 undef,a.tmps.getD 119 undef,a.tmps.getD 120 undef,a.tmps.getD 121 undef,a.tmps.getD 122 undef,a.tmps.getD 123 undef,a.tmps.getD 124 undef,a.tmps.getD 125 undef,a.tmps.getD 126 undef,a.tmps.getD 127 undef,a.tmps.getD 128 undef,a.tmps.getD 129 undef,a.tmps.getD 130 undef,a.tmps.getD 131 undef,a.tmps.getD 132 undef,a.tmps.getD 133 undef,a.tmps.getD 134 undef,a.tmps.getD 135 undef,a.tmps.getD 136 undef,a.tmps.getD 137 undef,a.tmps.getD 138 undef,a.tmps.getD 139 undef,a.tmps.getD 140 undef,a.tmps.getD 141 undef,a.tmps.getD 142 undef,a.tmps.getD 143 undef,a.tmps.getD 144 undef,a.tmps.getD 145 undef,a.tmps.getD 146 undef,a.tmps.getD 147 undef,a.tmps.getD 148 undef,a.tmps.getD 149 undef,a.tmps.getD 150 undef,a.tmps.getD 151 undef,a.tmps.getD 152 undef,a.tmps.getD 153 undef,a.tmps.getD 154 undef,a.tmps.getD 155 undef,a.tmps.getD 156 undef,a.tmps.getD 157 undef,a.tmps.getD 158 undef,a.tmps.getD 159 undef,a.tmps.getD 160 undef,a.tmps.getD 161 undef,a.tmps.getD 162 undef,a.tmps.getD 163 undef,a.tmps.getD 164 undef,a.tmps.getD 165 undef,a.tmps.getD 166 undef,a.tmps.getD 167 undef,a.tmps.getD 168 undef,a.tmps.getD 169 undef,a.tmps.getD 170 undef,a.tmps.getD 171 undef],defers := [] }):Fr s bs B ba v a:=⟨λi=>a.tmps.getD i undef,h⟩
structure LW(w0:World)(s:ByteArray)(bs B ba:Nat)(W:World)(a:Nat):Prop where
 below:Below w0.heap.size w0 W
 cs:W.cell? ⟨bs,0,none⟩=some (.string s)
 ca:W.cell? ⟨ba,0,none⟩=some (.int .i64 a)
 fa:W.frozen? ⟨ba,0,none⟩=false
 words:jX W B 43
 ls:bs<W.heap.size
 la:ba<W.heap.size
 ha:w0.heap.size≤ba
 ne:bs≠ba
 nB:B≠ba
theorem LW.step{w0:World}{s:ByteArray}{bs B ba:Nat}{W:World}{a:Nat}(h:LW w0 s bs B ba W a)(b:Nat):LW w0 s bs B ba (W.setCell ⟨ba,0,none⟩ (.int .i64 b)) b where
 below:=h.below.setCell h.ha _
 cs:=by
  rw[← h.cs];exact kf (Below.heap_setCell W ⟨ba,0,none⟩ _ bs (by simpa using h.ne))
 ca:=by
  exact World.cell?_setCell_same W _ _ h.ca
 fa:=by rw[World.frozen?_setCell];exact h.fa
 words:=h.words.setCell (by simpa using h.nB) _
 ls:=by simpa using h.ls
 la:=by simpa using h.la
 ha:=h.ha
 ne:=h.ne
 nB:=h.nB
def J0(w0:World)(s:ByteArray)(bs B ba:Nat)(n:Nat)(act:Act)(w:World):Prop:=
 ∃ (W:World) (p:Regrown) (a:Nat) (v:Value) (acc:List P11.Tok),w=Xk.exw W p/\LW w0 s bs B ba W a/\a≤s.size/\n=2*(s.size-a)+1/\acc.length≤a/\Fr s bs B ba v act /\
  (Xk.exw W p).ownsRow W.heap.size 72 3 v acc.length (bN acc)/\P11.toks s.data.toList 0=P11.after acc (P11.toks (s.data.toList.drop a) a)
def JN(w0:World)(s:ByteArray)(bs B ba:Nat)(what:List UInt8)(n:Nat)(act:Act)(w:World):Prop:=
 ∃ (W:World) (p:Regrown) (a:Nat) (v:Value) (acc:List P11.Tok),w=Xk.exw W p/\LW w0 s bs B ba W a/\a≤s.size/\n=2*(s.size-a)/\acc.length≤a/\Fr s bs B ba v act /\
  (Xk.exw W p).ownsRow W.heap.size 72 3 v acc.length (bN acc)/\P11.toks s.data.toList 0=P11.after acc (P11.toks (s.data.toList.drop a) a)/\what.isPrefixOf (s.data.toList.drop a)=true
def JL(w0:World)(s:ByteArray)(bs B ba:Nat)(n l:Nat)(act:Act)(w:World):Prop:=
 (l=0/\J0 w0 s bs B ba n act w)∨(l=1/\JN w0 s bs B ba [45,45] n act w)∨(l=2/\JN w0 s bs B ba [39] n act w)
end Go.Proofs.YtkpmclddjkebeaaGreatDoor
namespace Go.Proofs.YtkpmclddjkebeaaGreatDoor
open Go.RowKit Go.Maps
abbrev Pass(w0:World)(s:ByteArray)(bs B ba n l:Nat)(act:Act)(w:World):Prop:=
 ∃rest,findLabel eU l=some (Code.skip.seq rest)/\rest.wp af (Xk.jumps (λl' a' w'=>∃m,m<n/\JL w0 s bs B ba m l' a' w') (bodyPost af dy (gg s w0))) act w
theorem EI{W:World}{p:Regrown}{e:TypeId}{v:Value}{n:Nat}{xs:List Value}(h:(Xk.exw W p).ownsRow W.heap.size e 3 v n xs){ad:Addr}(ha:ad.block<W.heap.size)(hs:ad.spot=none)(u:Value):(Xk.exw (W.setCell ad u) p).ownsRow (W.setCell ad u).heap.size e 3 v n xs:=by
 obtain⟨b,o,sp⟩:=ad
 cases hs;rw[← Xk.zm W p b o u ha,aM];exact ownsRow_setCell_below h ha u
theorem tK{w0:World}{s:ByteArray}{bs B ba n:Nat}{act:Act}{w:World}{W:World}{p:Regrown}{a:Nat}{v:Value}{acc:List P11.Tok}(hW:LW w0 s bs B ba W a)(b:Nat)(hn:2*(s.size-b)+1<n)(hb:a<b)(hbs:b≤s.size)(hw:w=Xk.exw (W.setCell ⟨ba,0,none⟩ (.int .i64 b)) p)
  (hacc:acc.length≤b) (hF:Fr s bs B ba v act) (hrow:(Xk.exw W p).ownsRow W.heap.size 72 3 v acc.length (bN acc)) (hT:P11.toks s.data.toList 0=P11.after acc (P11.toks (s.data.toList.drop b) b)):∃m,m<n/\JL w0 s bs B ba m 0 act w:=
 ⟨2*(s.size-b)+1,hn,.inl ⟨rfl,_,p,b,v,acc,hw,hW.step b,hbs,rfl,hacc,hF,EI hrow hW.la rfl _,hT⟩⟩
theorem drop_at(s:ByteArray)(a:Nat)(h:a<s.size):s.data.toList.drop a=s[a]::s.data.toList.drop (a+1):=dm h
theorem AI{w0:World}{s:ByteArray}{bs B ba n:Nat}{act:Act}{w:World}(W:World)(p:Regrown)(a:Nat)(v:Value)(acc:List P11.Tok)(hw:w=Xk.exw W p)(hW:LW w0 s bs B ba W a)(hs:s.size≤4096)
  (hn:n=2*(s.size-a)+1) (hacc:acc.length≤a) (hF:Fr s bs B ba v act) (hrow:(Xk.exw W p).ownsRow W.heap.size 72 3 v acc.length (bN acc)) (hT:P11.toks s.data.toList 0=P11.after acc (P11.toks (s.data.toList.drop a) a)) (hlt:a<s.size) (hb:P11.blank s[a]=true):Pass w0 s bs B ba n 0 act w:=by
 have hT':P11.toks s.data.toList 0=P11.after acc (P11.toks (s.data.toList.drop (a+1)) (a+1)):=by
  rw[hT,drop_at s a hlt,P11.zM hb]
 have HT':=aa hT';clear hT';subst hw;unfold Fr at hF;obtain⟨f,rfl⟩:=hF;unfold Pass;generalize hQ:bodyPost af dy (gg s w0)=Q;have HQ:=aa hQ;clear hQ;generalize hJL:(λ(l':Nat) (a':Act) (w':World)=>∃m,m<n/\JL w0 s bs B ba m l' a' w')=J;have HJ:=aa hJL;clear hJL;unfold eU dy;simp only[findLabel];refine⟨_,rfl,?_⟩;have cs:=hW.cs;have ca:=hW.ca;have fa:=hW.fa;have ls:=hW.ls;have la:=hW.la;have HW:=aa hW;have HN:=aa hn;have HR:=aa hrow;have HT:=aa hT;clear hW hn hrow hT;have hb8:(s[a].toNat:Int)<256:=by have:=s[a].toNat_lt;omega
 have hc:s[a]=32∨s[a]=9∨s[a]=10∨s[a]=13:=by simpa[P11.blank,or_assoc]using hb
 clear hb;rcases hc with hc|hc|hc|hc
 all_goals
  have hv:(s[a].toNat:Int)=_:=congrArg (λc:UInt8=>(c.toNat:Int)) hc;clear hc;go_wp2_with fail;go_step3;simp only[gP,Exit.then,Xk.gB,↓reduceIte];rw[← HJ.out];exact tK HW.out (a+1) (by rw[HN.out];omega) av av rfl av (Fr.of jg) HR.out HT'.out
end Go.Proofs.YtkpmclddjkebeaaGreatDoor
namespace Go.Proofs.YtkpmclddjkebeaaGreatDoor
open Go.RowKit Go.Maps
theorem dn{c d:UInt8}(h:c≠d)(n:Int)(hn:n=d.toNat):((c.toNat:Int)==n)=false:=by
 rw[beq_eq_false_iff_ne];intro e;exact h (jL.1 av)
theorem js{c d:UInt8}(h:c=d)(n:Int)(hn:n=d.toNat):((c.toNat:Int)==n)=true:=by
 rw[beq_iff_eq,h,hn]
theorem jE{c:UInt8}(h:P11.blank c=false):((c.toNat:Int)==32)=false/\((c.toNat:Int)==9)=false/\((c.toNat:Int)==10)=false/\((c.toNat:Int)==13)=false:=by
 simp only[P11.blank,ky,beq_eq_false_iff_ne]at h;exact⟨dn h.1.1.1 32 rfl,dn h.1.1.2 9 rfl,dn h.1.2 10 rfl,dn h.2 13 rfl⟩
theorem Je{w0:World}{s:ByteArray}{bs B ba n:Nat}{act:Act}{w:World}{W:World}{p:Regrown}{a:Nat}{v:Value}{acc:List P11.Tok}(hW:LW w0 s bs B ba W a)(hn:n=2*(s.size-a)+1)(ha:a≤s.size)(hw:w=Xk.exw W p)
  (hacc:acc.length≤a) (hF:Fr s bs B ba v act) (hrow:(Xk.exw W p).ownsRow W.heap.size 72 3 v acc.length (bN acc)) (hT:P11.toks s.data.toList 0=P11.after acc (P11.toks (s.data.toList.drop a) a)) {what:List UInt8} (hp:what.isPrefixOf (s.data.toList.drop a)=true) {l:Nat} (hl:(l=1/\what = [45,45])∨(l=2/\what = [39])):∃m,m<n/\JL w0 s bs B ba m l act w:=by
 have h:JN w0 s bs B ba what (2*(s.size-a)) act w:=⟨_,p,a,v,acc,hw,hW,ha,rfl,hacc,hF,hrow,hT,hp⟩;refine⟨2*(s.size-a),by omega,?_⟩;rcases hl with⟨rfl,rfl⟩|⟨rfl,rfl⟩
 ·exact .inr (.inl ⟨rfl,h⟩)
 ·exact .inr (.inr ⟨rfl,h⟩)
theorem De{w0:World}{s:ByteArray}{bs B ba n:Nat}{act:Act}{w:World}(W:World)(p:Regrown)(a:Nat)(v:Value)(acc:List P11.Tok)(hw:w=Xk.exw W p)(hW:LW w0 s bs B ba W a)(hs:s.size≤4096)
  (hn:n=2*(s.size-a)+1) (hacc:acc.length≤a) (hF:Fr s bs B ba v act) (hrow:(Xk.exw W p).ownsRow W.heap.size 72 3 v acc.length (bN acc)) (hT:P11.toks s.data.toList 0=P11.after acc (P11.toks (s.data.toList.drop a) a)) (hlt:a<s.size) (hb:P11.blank s[a]=false) (hp:([45,45]:List UInt8).isPrefixOf (s.data.toList.drop a)=true):Pass w0 s bs B ba n 0 act w:=by
 have nb:((s[a].toNat:Int)==32)=false/\((s[a].toNat:Int)==9)=false/\((s[a].toNat:Int)==10)=false/\((s[a].toNat:Int)==13)=false:=jE hb;obtain⟨nb1,nb2,nb3,nb4⟩:=nb;have hpre:=λw=>mP s ⟨#[45,45]⟩ a w;rw[show(⟨#[45,45]⟩:ByteArray).data.toList = [45,45]from rfl,hp]at hpre;have HP:=aa hp;have HX:=aa hpre;clear hp hpre hb;subst hw;unfold Fr at hF;obtain⟨f,rfl⟩:=hF;unfold Pass;generalize hQ:bodyPost af dy (gg s w0)=Q;have HQ:=aa hQ;clear hQ;generalize hJL:(λ(l':Nat) (a':Act) (w':World)=>∃m,m<n/\JL w0 s bs B ba m l' a' w')=J;have HJ:=aa hJL;clear hJL;unfold eU dy;simp only[findLabel];refine⟨_,rfl,?_⟩
 have cs:=hW.cs;have ca:=hW.ca;have fa:=hW.fa;have ls:=hW.ls;have la:=hW.la;have HW:=aa hW;have HN:=aa hn;have HR:=aa hrow;have HT:=aa hT;clear hW hn hrow hT;have hb8:(s[a].toNat:Int)<256:=by have:=s[a].toNat_lt;omega
 go_wp2_with (go_at_call 57;(with_reducible refine(HX.out _).mono ?_);rintro e w' ⟨rfl,rfl⟩);go_step3;simp only[gP,Exit.then,Xk.gB,↓reduceIte];rw[← HJ.out];exact Je HW.out HN.out av rfl hacc (Fr.of jg) HR.out HT.out HP.out (.inl ⟨rfl,rfl⟩)
theorem Dc{w0:World}{s:ByteArray}{bs B ba n:Nat}{act:Act}{w:World}(W:World)(p:Regrown)(a:Nat)(v:Value)(acc:List P11.Tok)(hw:w=Xk.exw W p)(hW:LW w0 s bs B ba W a)(hs:s.size≤4096)
  (hn:n=2*(s.size-a)+1) (hacc:acc.length≤a) (hF:Fr s bs B ba v act) (hrow:(Xk.exw W p).ownsRow W.heap.size 72 3 v acc.length (bN acc)) (hT:P11.toks s.data.toList 0=P11.after acc (P11.toks (s.data.toList.drop a) a)) (hlt:a<s.size) (hc:s[a]=39):Pass w0 s bs B ba n 0 act w:=by
 have hb:P11.blank s[a]=false:=by rw[hc];decide
 have nb:((s[a].toNat:Int)==32)=false/\((s[a].toNat:Int)==9)=false/\((s[a].toNat:Int)==10)=false/\((s[a].toNat:Int)==13)=false:=jE hb;obtain⟨nb1,nb2,nb3,nb4⟩:=nb;have hd:s.data.toList.drop a=39::s.data.toList.drop (a+1):=by rw[drop_at s a hlt,hc]
 have hp:([45,45]:List UInt8).isPrefixOf (s.data.toList.drop a)=false:=by rw[hd];simp[bX]
 have hq:([39]:List UInt8).isPrefixOf (s.data.toList.drop a)=true:=by rw[hd];simp[bX]
 have hpre:=λw=>mP s ⟨#[45,45]⟩ a w;rw[show(⟨#[45,45]⟩:ByteArray).data.toList = [45,45]from rfl,hp]at hpre;have HP:=aa hq;have HX:=aa hpre;have h39:((s[a].toNat:Int)==39)=true:=js hc 39 rfl;clear hp hq hpre hb hd hc;subst hw;unfold Fr at hF;obtain⟨f,rfl⟩:=hF;unfold Pass;generalize hQ:bodyPost af dy (gg s w0)=Q;have HQ:=aa hQ;clear hQ;generalize hJL:(λ(l':Nat) (a':Act) (w':World)=>∃m,m<n/\JL w0 s bs B ba m l' a' w')=J;have HJ:=aa hJL;clear hJL;unfold eU dy;simp only[findLabel];refine⟨_,rfl,?_⟩;have cs:=hW.cs;have ca:=hW.ca;have fa:=hW.fa;have ls:=hW.ls;have la:=hW.la;have HW:=aa hW
 have HN:=aa hn;have HR:=aa hrow;have HT:=aa hT;clear hW hn hrow hT;have hb8:(s[a].toNat:Int)<256:=by have:=s[a].toNat_lt;omega
 go_wp2_with (go_at_call 57;(with_reducible refine(HX.out _).mono ?_);rintro e w' ⟨rfl,rfl⟩);go_step3;simp only[gP,Exit.then,Xk.gB,↓reduceIte];rw[← HJ.out];exact Je HW.out HN.out av rfl hacc (Fr.of jg) HR.out HT.out HP.out (.inr ⟨rfl,rfl⟩)
theorem yu{W:World}{base:Nat}{v:Value}{l:List P11.Tok}(h:W.ownsRow base 72 3 v l.length (bN l)):BM W v l:=by
 obtain⟨h1,h2⟩:=h;rcases h2 with⟨rfl,h0⟩|⟨g,cap,cur,rfl,hg,hb,hn,hcap,hcs,hx⟩
 ·obtain rfl:l = []:=List.length_eq_zero_iff.1 h0;exact⟨none,0,rfl,λj t hj=>by simp at hj⟩
 ·refine⟨some ⟨g,0,none⟩,cap,rfl,λj t hj=>?_⟩;have hjl:j<l.length:=(cr.1 hj).1;obtain⟨e1,e2,e3⟩:=rz l j t hj
  have cell:∀ (k:Nat) u,(bN l)[k]?=some u->W.cell? ⟨g,0+k,none⟩=some u:=λk u hk=>by
   have hk':k<l.length*3:=by rw[← h1];exact(cr.1 hk).1
   rw[← hx,di,if_pos hk']at hk;simp only[ak,hb,eF,Option.isSome_none,aS,if_false];simpa using hk
  exact⟨g,0,rfl,cell _ _ e1,cell _ _ e2,cell _ _ e3,hn⟩
theorem ER{w0:World}{s:ByteArray}{bs B ba n:Nat}{act:Act}{w:World}(W:World)(p:Regrown)(a:Nat)(v:Value)(acc:List P11.Tok)(hw:w=Xk.exw W p)(hW:LW w0 s bs B ba W a)(hs:s.size≤4096)
  (hn:n=2*(s.size-a)+1) (hacc:acc.length≤a) (hF:Fr s bs B ba v act) (hrow:(Xk.exw W p).ownsRow W.heap.size 72 3 v acc.length (bN acc)) (hT:P11.toks s.data.toList 0=P11.after acc (P11.toks (s.data.toList.drop a) a)) (hge:a=s.size):Pass w0 s bs B ba n 0 act w:=by
 have hL:P11.eP s.data.toList = .inl (acc ++ [⟨0,[],s.size⟩]):=by
  rw[P11.eP,if_neg (by show ¬ 4096<s.size;omega),hT,eY (by show s.size≤a;omega),P11.nq,hge];rfl
 have HL:=aa hL;clear hL;obtain⟨i0,hi,hz0,hz1,hz2⟩:=uG Tryz.oz;have Hi:=aa hi;have Hz0:=aa hz0;have Hz1:=aa hz1;have Hz2:=aa hz2;clear hi hz0 hz1 hz2;subst hw;unfold Fr at hF;obtain⟨f,rfl⟩:=hF;unfold Pass;generalize hQ:bodyPost af dy (gg s w0)=Q;have HQ:=aa hQ;clear hQ;generalize hJL:(λ(l':Nat) (a':Act) (w':World)=>∃m,m<n/\JL w0 s bs B ba m l' a' w')=J;have HJ:=aa hJL;clear hJL;unfold eU dy;simp only[findLabel];refine⟨_,rfl,?_⟩;have cs:=hW.cs;have ca:=hW.ca;have fa:=hW.fa;have ls:=hW.ls;have la:=hW.la;have HW:=aa hW;have HN:=aa hn;have HR:=aa hrow;have HT:=aa hT;clear hW hn hrow hT
 have hge1:(s.size:Int)≤(a:Int):=av;have hge2:¬ a<s.size:=av;have hge3:a≤s.size:=av;clear hge;go_wp2_with (first|(at_builtin;refine Xk.eb (w0:=W) rfl _ _ 61 rfl 72 i0 _ 3 32 dQ Hi.out Hz0.out Hz1.out Hz2.out rfl ff v acc.length (bN acc) rfl (Xs.ow HR.out) _ 0 1 1 [.int .i64 0,.string ⟨#[]⟩,.int .i64 s.size] rfl rfl (Xk.jK eQ) Xs.m3 av Xk.xt ?_;intro v' p' ho';have Ho:=aa ho';clear ho'));rw[← HQ.out];go_ret3
 have ho:(Xk.exw W p').ownsRow W.heap.size 72 3 v' (acc ++ [(⟨0,[],s.size⟩:P11.Tok)]).length (bN (acc ++ [(⟨0,[],s.size⟩:P11.Tok)])):=by
  rw[fQ,aN];exact Ho.out
 exact⟨HW.out.below.trans ((Xk.cF W p').mono HW.out.below.size),.inl ⟨_,_,HL.out,rfl,yu ho⟩⟩
end Go.Proofs.YtkpmclddjkebeaaGreatDoor
namespace P11
theorem yJ:∀ (l:List UInt8) (d:UInt8),numOf (l ++ [d])=l.dropWhile (·==48)++ [d]
 | [],d=>rfl
 | [c],d=>by
  rw[fV,zQ,numOf,xA];by_cases h:c=48
  ·subst h;rfl
  ·rw[if_neg h];have:(c==48)=false:=by simpa using h
   simp[this]
 | c::e::l,d=>by
  have ih:=yJ (e::l) d;rw[fV,fV,numOf];rw[fV]at ih;by_cases h:c=48
  ·subst h;rw[if_pos rfl,ih];rfl
  ·rw[if_neg h];have:(c==48)=false:=by simpa using h
   rw[xA,this];rfl
theorem sL{c:UInt8}{t:List UInt8}(h:digit c=true):step (c::t) = .inl (((c::t).takeWhile digit).length,some (3,numOf ((c::t).takeWhile digit))):=by
 have hf:=sb c h;simp only[aT,jd,bne_iff_ne]at hf;obtain⟨⟨⟨h1,h2⟩,h3⟩,h4⟩:=hf;rw[step,if_neg (by rw[h1];decide),if_neg (by simp[bX];exact λh=>absurd h.symm h2),if_neg h3,if_neg (by rw[h4];decide),if_pos h]
theorem rE{c:UInt8}{t:List UInt8}(h:letter c=true):step (c::t) = .inl (((c::t).takeWhile dD).length,some (iS ((c::t).takeWhile dD))):=by
 have hf:=qm c h;simp only[aT,jd,bne_iff_ne]at hf;obtain⟨⟨h1,h2⟩,h3⟩:=hf;rw[step,if_neg (by rw[h1];decide),if_neg (by simp[bX];exact λh=>absurd h.symm h2),if_neg h3,if_pos h];rfl
theorem AU(l:List UInt8)(d:Nat)(h:d<l.length):numOf (l.take (d+1))=(l.take d).dropWhile (·==48)++(l.drop d).take 1:=by
 rw[uF h,yJ,dm h,aG,aY]
theorem pZ(p:UInt8->Bool)(l:List UInt8)(a:Nat):((l.drop a).takeWhile p)=(l.drop a).take ((l.drop a).takeWhile p).length:=by
 have:=iJ (l:=l.drop a) p;exact(List.prefix_iff_eq_take.1 this)
end P11
namespace Go.Proofs.YtkpmclddjkebeaaGreatDoor
open Go.RowKit Go.Maps
theorem AG{w0:World}{s:ByteArray}{bs B ba n:Nat}{act:Act}{w:World}(W:World)(p:Regrown)(a:Nat)(v:Value)(acc:List P11.Tok)(hw:w=Xk.exw W p)(hW:LW w0 s bs B ba W a)(hs:s.size≤4096)
  (hn:n=2*(s.size-a)+1) (hacc:acc.length≤a) (hF:Fr s bs B ba v act) (hrow:(Xk.exw W p).ownsRow W.heap.size 72 3 v acc.length (bN acc)) (hT:P11.toks s.data.toList 0=P11.after acc (P11.toks (s.data.toList.drop a) a)) (hlt:a<s.size) (hc:P11.digit s[a]=true):Pass w0 s bs B ba n 0 act w:=by
 have hf:=P11.sb s[a] hc;simp only[aT,jd,bne_iff_ne]at hf;obtain⟨⟨⟨hb,hf2⟩,hf3⟩,hf4⟩:=hf;have nb:((s[a].toNat:Int)==32)=false/\((s[a].toNat:Int)==9)=false/\((s[a].toNat:Int)==10)=false/\((s[a].toNat:Int)==13)=false:=jE hb;obtain⟨nb1,nb2,nb3,nb4⟩:=nb;have hd:=drop_at s a hlt;have hp:([45,45]:List UInt8).isPrefixOf (s.data.toList.drop a)=false:=by rw[hd];simp[bX];exact λh=>absurd h.symm hf2
 have hpre:=λw=>mP s ⟨#[45,45]⟩ a w;rw[show(⟨#[45,45]⟩:ByteArray).data.toList = [45,45]from rfl,hp]at hpre;have HX:=aa hpre;have h39:((s[a].toNat:Int)==39)=false:=dn hf3 39 rfl;have hL:=λw=>kT s[a] w;rw[hf4]at hL;have HL:=aa hL;have hD:=λw=>my s[a] w;rw[hc]at hD;have HD:=aa hD;have hrun:=λw=>CW s a av av w
 have hlen:0<((s.data.toList.drop a).takeWhile P11.digit).length/\a+((s.data.toList.drop a).takeWhile P11.digit).length≤s.size:=by
  constructor
  ·rw[hd,dP,hc];simp
  ·have:=(iJ (l:=s.data.toList.drop a) P11.digit).length_le;simp at this ⊢;omega
 have hT':P11.toks s.data.toList 0=P11.after (acc ++ [⟨3,P11.numOf ((s.data.toList.drop a).takeWhile P11.digit),a⟩]) (P11.toks (s.data.toList.drop (a+((s.data.toList.drop a).takeWhile P11.digit).length)) (a+((s.data.toList.drop a).takeWhile P11.digit).length)):=by
  have e:=P11.sL (t:=s.data.toList.drop (a+1)) hc;rw[← hd]at e;rw[hT];conv=>lhs;rw[hd]
  rw[hd]at e;rw[P11.k6 e,← hd,gO]
 have hw2:=P11.pZ P11.digit s.data.toList a;generalize hk:((s.data.toList.drop a).takeWhile P11.digit).length=k at *
 obtain⟨d,rfl⟩:∃d,k=d+1:=⟨k-1,by omega⟩
 have hnum:P11.numOf ((s.data.toList.drop a).takeWhile P11.digit)=((s.data.toList.drop a).take d).dropWhile (·==48)++(s.data.toList.drop (a+d)).take 1:=by
  rw[hw2,P11.AU _ _ (by simp;omega),gO]
 rw[hnum,show a+(d+1)=a+d+1 by omega]at hT';rw[show a+(d+1)=a+d+1 by omega]at hlen hrun;have hdq:d=a+d-a:=av;rw[hdq]at hT';rw[show a+(a+d-a)=a+d by omega]at hT';clear hdq hnum hw2 hk hd hpre hL hD hp hf2 hf3 hf4 hb hc;obtain⟨-,hlen⟩:=hlen;have haq:a≤a+d:=av;generalize a+d=q at *
 have hT1:=λw=>(Tryz.strings_TrimLeft_one (s.extract a q) 48 ff w).mono (R':=λe w'=>e = .returned (.string ⟨(Lib.trimLeftB (s.extract a q).data.toList 48).toArray⟩)/\w=w') λe w' h=>⟨h.1,h.2.symm⟩;have e1:(s.extract a q).data.toList=(s.data.toList.drop a).take (q-a):=fT s a q;rw[e1]at hT1;generalize ht:Lib.trimLeftB ((s.data.toList.drop a).take (q-a)) 48=t at hT1;have hcat:=zE t s q (q+1);rw[show q+1-q=1 by omega]at hcat
 have htl:t.length≤q:=by
  rw[← ht];have h1:=(List.dropWhile_suffix (l:=(s.data.toList.drop a).take (q-a)) (·==48)).length_le;have h2:=List.length_take_le (q-a) (s.data.toList.drop a);show(xA _ _).length≤q
  omega
 have hT2:P11.toks s.data.toList 0=P11.after (acc ++ [⟨3,t++(s.data.toList.drop q).take 1,a⟩]) (P11.toks (s.data.toList.drop (q+1)) (q+1)):=by
  rw[← ht];exact hT'
 have HT':=aa hT2;have HC:=aa hcat;have HRun:=aa hrun;have HTr:=aa hT1;clear hT' hT2 hcat hrun hT1 ht e1;obtain⟨i0,hi,hz0,hz1,hz2⟩:=uG Tryz.oz;have Hi:=aa hi;have Hz0:=aa hz0;have Hz1:=aa hz1;have Hz2:=aa hz2;clear hi hz0 hz1 hz2;subst hw;unfold Fr at hF;obtain⟨f,rfl⟩:=hF;unfold Pass;generalize hQ:bodyPost af dy (gg s w0)=Q;have HQ:=aa hQ;clear hQ;generalize hJL:(λ(l':Nat) (a':Act) (w':World)=>∃m,m<n/\JL w0 s bs B ba m l' a' w')=J;have HJ:=aa hJL;clear hJL;unfold eU dy;simp only[findLabel];refine⟨_,rfl,?_⟩;have cs:=hW.cs;have ca:=hW.ca;have fa:=hW.fa;have ls:=hW.ls;have la:=hW.la
 have HW:=aa hW;have HN:=aa hn;have HR:=aa hrow;have HT:=aa hT;clear hW hn hrow hT;have hb8:(s[a].toNat:Int)<256:=by have:=s[a].toNat_lt;omega
 go_wp2_with (first|(go_at_call 57;(with_reducible refine(HX.out _).mono ?_);rintro e w' ⟨rfl,rfl⟩)|(go_at_call 58;(with_reducible refine(HL.out _).mono ?_);rintro e w' ⟨rfl,rfl⟩)|(go_at_call 61;(with_reducible refine(HD.out _).mono ?_);rintro e w' ⟨rfl,rfl⟩)|(go_at_call 59;(with_reducible refine(HRun.out _).mono ?_);rintro e w' ⟨rfl,rfl⟩));have q1:IntKind.i64.wrap (q:Int)=(q:Int):=pb _ av;have q2:(a:Int)≤(q:Int):=av;have q3:(q:Int)+1≤(s.size:Int):=av;have q4:(q:Int)≤(s.size:Int):=av;have q5:((q:Int)+1).toNat=q+1:=av;have q6:(q:Int)≤(q:Int)+1:=av;have q7:¬ 9223372036854775807<t.length+1:=av
 refine Xk.reg 13 (Xk.w1 HTr.out λp=>?_);clear q1 q5 q7;go_wp2_with (first|(at_builtin;refine Xk.eb (w0:=W) rfl _ _ 61 rfl 72 i0 _ 3 32 dQ Hi.out Hz0.out Hz1.out Hz2.out rfl ff v acc.length (bN acc) rfl (Xs.ow HR.out) _ 0 1 1 [.int .i64 3,.string (⟨t.toArray⟩++s.extract q (q+1)),.int .i64 a] rfl rfl (Xk.jK eQ) Xs.m3 av Xk.xt ?_;intro v' p' ho';have Ho:=aa ho';clear ho'));go_step3;simp only[gP,Exit.then,Xk.gB,↓reduceIte];rw[← HJ.out]
 have ho:(Xk.exw W p').ownsRow W.heap.size 72 3 v' (acc ++ [(⟨3,t++(s.data.toList.drop q).take 1,a⟩:P11.Tok)]).length (bN (acc ++ [(⟨3,t++(s.data.toList.drop q).take 1,a⟩:P11.Tok)])):=by
  rw[fQ,aN];have:=Ho.out;rw[HC.out]at this;exact this
 exact tK HW.out (q+1) (by rw[HN.out];omega) av av rfl (by rw[aN,bf];omega) (Fr.of jg) ho HT'.out
end Go.Proofs.YtkpmclddjkebeaaGreatDoor
namespace P11
theorem zL{c:UInt8}{t:List UInt8}{n:Nat}{p:Nat}{x:Int×List UInt8}{acc:List Tok}(h:step (c::t) = .inl (n,some x)):after acc (toks (c::t) p)=after (acc ++ [⟨x.1,x.2,p⟩]) (toks ((c::t).drop n) (p+n)):=k6 (k:=x.1) (u:=x.2) h
end P11
namespace Go.Proofs.YtkpmclddjkebeaaGreatDoor
open Go.RowKit Go.Maps
def xv(k:Int)(t:ByteArray)(a:Int)(v:Value)(w:World):Prop:=
 ∃b,v = .slice (some ⟨b,0,none⟩) 1 1/\∀ (j:Nat) u,[lK .i64 k,.string t,.int .i64 a][j]?=some u->w.cell? ⟨b,0+j,none⟩=some u
theorem xv.ext{k:Int}{t:ByteArray}{a:Int}(v:Value)(w w':World)(hx:Xk.Ext w w')(h:xv k t a v w):xv k t a v w':=by
 obtain⟨b,hv,hc⟩:=h;exact⟨b,hv,λj u hj=>Xk.bO hx (hc j u hj)⟩
theorem yn{w0:World}{s:ByteArray}{bs B ba n:Nat}{act:Act}{w:World}(W:World)(p:Regrown)(a:Nat)(v:Value)(acc:List P11.Tok)(hw:w=Xk.exw W p)(hW:LW w0 s bs B ba W a)(hs:s.size≤4096)
  (hn:n=2*(s.size-a)+1) (hacc:acc.length≤a) (hF:Fr s bs B ba v act) (hrow:(Xk.exw W p).ownsRow W.heap.size 72 3 v acc.length (bN acc)) (hT:P11.toks s.data.toList 0=P11.after acc (P11.toks (s.data.toList.drop a) a)) (hlt:a<s.size) (hc:P11.letter s[a]=true):Pass w0 s bs B ba n 0 act w:=by
 have hf:=P11.qm s[a] hc;simp only[aT,jd,bne_iff_ne]at hf;obtain⟨⟨hb,hf2⟩,hf3⟩:=hf;have nb:((s[a].toNat:Int)==32)=false/\((s[a].toNat:Int)==9)=false/\((s[a].toNat:Int)==10)=false/\((s[a].toNat:Int)==13)=false:=jE hb;obtain⟨nb1,nb2,nb3,nb4⟩:=nb;have hd:=drop_at s a hlt;have hp:([45,45]:List UInt8).isPrefixOf (s.data.toList.drop a)=false:=by rw[hd];simp[bX];exact λh=>absurd h.symm hf2
 have hpre:=λw=>mP s ⟨#[45,45]⟩ a w;rw[show(⟨#[45,45]⟩:ByteArray).data.toList = [45,45]from rfl,hp]at hpre;have HX:=aa hpre;have h39:((s[a].toNat:Int)==39)=false:=dn hf3 39 rfl;have hL:=λw=>kT s[a] w;rw[hc]at hL;have HL:=aa hL;have hrun:=λw=>CX s a av av w
 have hlen:0<((s.data.toList.drop a).takeWhile P11.dD).length/\a+((s.data.toList.drop a).takeWhile P11.dD).length≤s.size:=by
  constructor
  ·rw[hd,dP,P11.kx hc];simp
  ·have:=(iJ (l:=s.data.toList.drop a) P11.dD).length_le;simp at this ⊢;omega
 have hT':P11.toks s.data.toList 0=P11.after (acc ++ [⟨(P11.iS ((s.data.toList.drop a).takeWhile P11.dD)).1,(P11.iS ((s.data.toList.drop a).takeWhile P11.dD)).2,a⟩]) (P11.toks (s.data.toList.drop (a+((s.data.toList.drop a).takeWhile P11.dD).length)) (a+((s.data.toList.drop a).takeWhile P11.dD).length)):=by
  have e:=P11.rE (t:=s.data.toList.drop (a+1)) hc;rw[hT];conv=>lhs;rw[hd]
  rw[P11.zL e,← hd,gO]
 have hw2:=P11.pZ P11.dD s.data.toList a;have hall:=P11.gL P11.dD (s.data.toList.drop a)
 have hex:∀k,a+k≤s.size->(s.extract a (a+k)).data.toList=(s.data.toList.drop a).take k:=λk hk=>by
  rw[fT,show a+k-a=k by omega]
 generalize hk:(s.data.toList.drop a).takeWhile P11.dD=u at *
 obtain⟨hl1,hl2⟩:=hlen;have hex:=hex _ hl2;rw[← hw2]at hex;generalize hq:a+u.length=q at *
 have haq:a<q:=av;have hww:=λr=>Ef (s.extract a q) a B (Xk.exw W r) (hW.words.ext (Xk.cF W r)) (by simp;omega) (by rw[hex];exact hall);rw[hex]at hww;generalize P11.iS u=x at *
 obtain⟨k,t⟩:=x;dsimp only at hww hT';have HT':=aa hT';have HRun:=aa hrun;have HWw:=aa hww;clear hT' hrun hww hex hw2 hall hk hl1 hq hd hpre hL hp hf2 hf3 hb hc;obtain⟨i0,hi,hz0,hz1,hz2⟩:=uG Tryz.oz;have Hi:=aa hi;have Hz0:=aa hz0;have Hz1:=aa hz1;have Hz2:=aa hz2;clear hi hz0 hz1 hz2;subst hw;unfold Fr at hF;obtain⟨f,rfl⟩:=hF;unfold Pass;generalize hQ:bodyPost af dy (gg s w0)=Q;have HQ:=aa hQ;clear hQ;generalize hJL:(λ(l':Nat) (a':Act) (w':World)=>∃m,m<n/\JL w0 s bs B ba m l' a' w')=J;have HJ:=aa hJL;clear hJL;unfold eU dy;simp only[findLabel];refine⟨_,rfl,?_⟩;have cs:=hW.cs;have ca:=hW.ca
 have fa:=hW.fa;have ls:=hW.ls;have la:=hW.la;have HW:=aa hW;have HN:=aa hn;have HR:=aa hrow;have HT:=aa hT;clear hW hn hrow hT;have hb8:(s[a].toNat:Int)<256:=by have:=s[a].toNat_lt;omega
 go_wp2_with (first|(go_at_call 57;(with_reducible refine(HX.out _).mono ?_);rintro e w' ⟨rfl,rfl⟩)|(go_at_call 58;(with_reducible refine(HL.out _).mono ?_);rintro e w' ⟨rfl,rfl⟩)|(go_at_call 59;(with_reducible refine(HRun.out _).mono ?_);rintro e w' ⟨rfl,rfl⟩));have q2:(a:Int)≤(q:Int):=av;have q3:(q:Int)≤(s.size:Int):=av;have q4:(a:Int)≤(s.size:Int):=av;refine Xk.eH 9 [(8,xv k ⟨t.toArray⟩ a)] ⟨λv w w'=>xv.ext v w w',trivial⟩ jg jg ?_;simp only[List.take_succ_cons,List.take_zero,List.drop_succ_cons,List.drop_zero]
 repeat(first
  | ((first|refine Xk.aX (Xk.aQ cI) cI (λK hK=>?_)|refine Xk.aX cI cI (λK hK=>?_));apply aU;refine⟨λp hp=>?_,?_⟩;(go_simp;first|exact⟨rfl,rfl⟩|((try refine⟨by kernel_rfl,?_⟩);(first|(go_at_call 62;((with_reducible refine(HWw.out _).mono ?_);exact λe w' h=>h)))));(go_simp;refine hK _ ?_;clear hK K))
  | (refine Xk.cQ cI (λK hK=>?_);go_simp;refine hK _ ?_;clear hK K))
 refine Xk.bc cI cI (λp hp=>?_) (λx K hK=>?_)
 ·go_simp;exact⟨(al _ _).alloc (ai _) _,_,rfl,Xk.jK eQ⟩
 go_simp;refine hK _ ?_;clear hK K;refine Xk.bD (λp hp=>?_);obtain⟨b,rfl,hc⟩:xv k ⟨t.toArray⟩ a x _:=hp.1;clear hp;rw[Xk.kW,Xk.jV]at hc ⊢;have HC:=aa hc;clear hc;go_wp2_with (first|(at_builtin;refine Xk.eb (w0:=W) rfl _ _ 61 rfl 72 i0 _ 3 32 dQ Hi.out Hz0.out Hz1.out Hz2.out rfl ff v acc.length (bN acc) rfl (Xs.ow HR.out) _ 0 1 1 [.int .i64 k,.string ⟨t.toArray⟩,.int .i64 a] rfl rfl HC.out Xs.m3 av Xk.xt ?_;intro v' p' ho';have Ho:=aa ho';clear ho'));go_step3;simp only[gP,Exit.then,Xk.gB,↓reduceIte];rw[← HJ.out]
 have ho:(Xk.exw W p').ownsRow W.heap.size 72 3 v' (acc ++ [(⟨k,t,a⟩:P11.Tok)]).length (bN (acc ++ [(⟨k,t,a⟩:P11.Tok)])):=by
  rw[fQ,aN];exact Ho.out
 exact tK HW.out q (by rw[HN.out];omega) av av rfl (by rw[aN,bf];omega) (Fr.of jg) ho HT'.out
end Go.Proofs.YtkpmclddjkebeaaGreatDoor
namespace Go.Xk
theorem bG{m i:Nat}{φ:World->Prop}{r:fc}{w:World}(h:cd m ((i,φ)::r) w)(hm:m.testBit i=true):φ w:=by
 unfold cd at h;rw[if_pos hm]at h;exact h.1
end Go.Xk
namespace Go.Proofs.YtkpmclddjkebeaaGreatDoor
open Go.RowKit Go.Maps
theorem ph{c:UInt8}{t:List UInt8}(hb:P11.blank c=false)(hp:([45,45]:List UInt8).isPrefixOf (c::t)=false)(hq:c≠39)(hl:P11.letter c=false)(hd:P11.digit c=false):
  P11.step (c::t)=match P11.fK (c::t)with|none => .inr (0,111)|some x => .inl (x.length,some (5,x)):=by
 rw[P11.step,if_neg (by rw[hb];decide),if_neg (by rw[hp];decide),if_neg hq,if_neg (by rw[hl];decide),if_neg (by rw[hd];decide)];rfl
theorem EU{w0:World}{s:ByteArray}{bs B ba n:Nat}{act:Act}{w:World}(W:World)(p:Regrown)(a:Nat)(v:Value)(acc:List P11.Tok)(hw:w=Xk.exw W p)(hW:LW w0 s bs B ba W a)(hs:s.size≤4096)
  (hn:n=2*(s.size-a)+1) (hacc:acc.length≤a) (hF:Fr s bs B ba v act) (hrow:(Xk.exw W p).ownsRow W.heap.size 72 3 v acc.length (bN acc)) (hT:P11.toks s.data.toList 0=P11.after acc (P11.toks (s.data.toList.drop a) a)) (hlt:a<s.size) (hb:P11.blank s[a]=false) (hp:([45,45]:List UInt8).isPrefixOf (s.data.toList.drop a)=false) (hq:s[a]≠39) (hl:P11.letter s[a]=false) (hdg:P11.digit s[a]=false)
  (hg:P11.fK (s.data.toList.drop a)=none):Pass w0 s bs B ba n 0 act w:=by
 have nb:((s[a].toNat:Int)==32)=false/\((s[a].toNat:Int)==9)=false/\((s[a].toNat:Int)==10)=false/\((s[a].toNat:Int)==13)=false:=jE hb;obtain⟨nb1,nb2,nb3,nb4⟩:=nb;have hd:=drop_at s a hlt
 have hL:P11.eP s.data.toList = .inr (a,111):=by
  have hS:=ph (t:=s.data.toList.drop (a+1)) hb (by rw[← hd];exact hp) hq hl hdg;rw[← hd,hg]at hS;rw[P11.eP,if_neg (by show ¬ 4096<s.size;omega),hT,hd];rw[hd]at hS;rw[P11.oF hS];rfl
 have HL':=aa hL;have hpre:=λw=>mP s ⟨#[45,45]⟩ a w;rw[show(⟨#[45,45]⟩:ByteArray).data.toList = [45,45]from rfl,hp]at hpre;have HX:=aa hpre;have h39:((s[a].toNat:Int)==39)=false:=dn hq 39 rfl;have hLt:=λw=>kT s[a] w;rw[hl]at hLt;have HL:=aa hLt;have hD:=λw=>my s[a] w;rw[hdg]at hD;have HD:=aa hD;have hI:=λq v hv=>oT s a v P11.fI bs ba (Xk.exw W q) hv ff (by rw[Xk.qs _ _ _ _ hW.ls];exact hW.cs) (by rw[Xk.qs _ _ _ _ hW.la];exact hW.ca) av av
 have hfs:fy (nv s a) P11.fI = -1:=by
  rcases kU (p:=nv s a) P11.fI with⟨h1,h2⟩|⟨q,x,h1,h2,h3⟩
  ·exact h1
  ·have:P11.fK (s.data.toList.drop a)=some x:=h3
   rw[hg]at this;cases this
 rw[hfs]at hI;have HI:=aa hI;clear hI hfs hD hLt hpre hL hd hb hp hq hl hdg hg;subst hw;unfold Fr at hF;obtain⟨f,rfl⟩:=hF;unfold Pass;generalize hQ:bodyPost af dy (gg s w0)=Q;have HQ:=aa hQ;clear hQ;generalize hJL:(λ(l':Nat) (a':Act) (w':World)=>∃m,m<n/\JL w0 s bs B ba m l' a' w')=J;have HJ:=aa hJL;clear hJL;unfold eU dy;simp only[findLabel];refine⟨_,rfl,?_⟩;have cs:=hW.cs;have ca:=hW.ca;have fa:=hW.fa;have ls:=hW.ls;have la:=hW.la;have HW:=aa hW;have HN:=aa hn;have HR:=aa hrow;have HT:=aa hT;clear hW hn hrow hT;have hb8:(s[a].toNat:Int)<256:=by have:=s[a].toNat_lt;omega
 go_wp2_with (first|(go_at_call 57;(with_reducible refine(HX.out _).mono ?_);rintro e w' ⟨rfl,rfl⟩)|(go_at_call 58;(with_reducible refine(HL.out _).mono ?_);rintro e w' ⟨rfl,rfl⟩)|(go_at_call 61;(with_reducible refine(HD.out _).mono ?_);rintro e w' ⟨rfl,rfl⟩)|(go_at_call 65;(with_reducible refine(og _).mono ?_);rintro e w' ⟨x,rfl,hx,hb⟩;obtain⟨p,rfl⟩:=Xk.jq hb;clear hb;(try rw[Xk.jV]at hx);have HS:=aa hx;clear hx)|(go_at_call 64;(with_reducible refine(HI.out _ _ HS.out).mono ?_);rintro e w' ⟨rfl,rfl⟩));refine Xk.reg 4 (Xk.w0 λp=>?_);go_wp2;rw[← HQ.out];go_ret3
 exact⟨HW.out.below.trans ((al _ _).trans (by first|exact(Xk.cF W _).mono HW.out.below.size|(rw[Xk.kW,Xk.jV];exact(Xk.cF W _).mono HW.out.below.size))),.inr ⟨a,111,HL'.out,rfl⟩⟩
def EN(v:Value)(i:Nat):Value:=match v with
 | .slice (some ⟨b,off,_⟩) _ _ => .pointer (some ⟨b,off+i,none⟩)
 | _=>undef
@[go_sem] theorem I2(b off len cap i:Nat):EN (.slice (some ⟨b,off,none⟩) len cap) i = .pointer (some ⟨b,off+i,none⟩):=rfl
theorem Dd{w0:World}{s:ByteArray}{bs B ba n:Nat}{act:Act}{w:World}(W:World)(p:Regrown)(a:Nat)(v:Value)(acc:List P11.Tok)(hw:w=Xk.exw W p)(hW:LW w0 s bs B ba W a)(hs:s.size≤4096)
  (hn:n=2*(s.size-a)+1) (hacc:acc.length≤a) (hF:Fr s bs B ba v act) (hrow:(Xk.exw W p).ownsRow W.heap.size 72 3 v acc.length (bN acc)) (hT:P11.toks s.data.toList 0=P11.after acc (P11.toks (s.data.toList.drop a) a)) (hlt:a<s.size) (hb:P11.blank s[a]=false) (hp:([45,45]:List UInt8).isPrefixOf (s.data.toList.drop a)=false) (hq:s[a]≠39) (hl:P11.letter s[a]=false) (hdg:P11.digit s[a]=false)
  {y:List UInt8} (hg:P11.fK (s.data.toList.drop a)=some y):Pass w0 s bs B ba n 0 act w:=by
 have nb:((s[a].toNat:Int)==32)=false/\((s[a].toNat:Int)==9)=false/\((s[a].toNat:Int)==10)=false/\((s[a].toNat:Int)==13)=false:=jE hb;obtain⟨nb1,nb2,nb3,nb4⟩:=nb;have hd:=drop_at s a hlt;have hpos:=P11.sN hg
 have hlen:a+y.length≤s.size:=by
  have:=(List.isPrefixOf_iff_prefix.1 hpos.2).length_le;simp at this;omega
 have hT':P11.toks s.data.toList 0=P11.after (acc ++ [⟨5,y,a⟩]) (P11.toks (s.data.toList.drop (a+y.length)) (a+y.length)):=by
  have hS:=ph (t:=s.data.toList.drop (a+1)) hb (by rw[← hd];exact hp) hq hl hdg;rw[← hd,hg]at hS;rw[hT];conv=>lhs;rw[hd]
  rw[hd]at hS;rw[P11.k6 hS,← hd,gO]
 have HT':=aa hT';have hpre:=λw=>mP s ⟨#[45,45]⟩ a w;rw[show(⟨#[45,45]⟩:ByteArray).data.toList = [45,45]from rfl,hp]at hpre;have HX:=aa hpre;have h39:((s[a].toNat:Int)==39)=false:=dn hq 39 rfl;have hLt:=λw=>kT s[a] w;rw[hl]at hLt;have HL:=aa hLt;have hD:=λw=>my s[a] w;rw[hdg]at hD;have HD:=aa hD;have hI:=λq v hv=>oT s a v P11.fI bs ba (Xk.exw W q) hv ff (by rw[Xk.qs _ _ _ _ hW.ls];exact hW.cs) (by rw[Xk.qs _ _ _ _ hW.la];exact hW.ca) av av
 obtain⟨i,hi,hy⟩:∃i:Nat,fy (nv s a) P11.fI=i/\P11.fI[i]?=some y:=by
  rcases kU (p:=nv s a) P11.fI with⟨h1,h2⟩|⟨q,x,h1,h2,h3⟩
  ·have:P11.fK (s.data.toList.drop a)=none:=h2
   rw[hg]at this;cases this
  ·have:P11.fK (s.data.toList.drop a)=some x:=h3
   rw[hg]at this;cases this;exact⟨q,h1,h2⟩
 rw[hi]at hI;have HI:=aa hI;have HY:=aa hy;have hi17:i<17:=(cr.1 hy).1;have hy0:=hpos.1;clear hI hi hD hLt hpre hT' hd hb hp hq hl hdg hg hy hpos;obtain⟨i0,hi,hz0,hz1,hz2⟩:=uG Tryz.oz;have Hi:=aa hi;have Hz0:=aa hz0;have Hz1:=aa hz1;have Hz2:=aa hz2;clear hi hz0 hz1 hz2;subst hw;unfold Fr at hF;obtain⟨f,rfl⟩:=hF;unfold Pass;generalize hQ:bodyPost af dy (gg s w0)=Q;have HQ:=aa hQ;clear hQ;generalize hJL:(λ(l':Nat) (a':Act) (w':World)=>∃m,m<n/\JL w0 s bs B ba m l' a' w')=J;have HJ:=aa hJL;clear hJL;unfold eU dy;simp only[findLabel];refine⟨_,rfl,?_⟩;have cs:=hW.cs;have ca:=hW.ca;have fa:=hW.fa
 have ls:=hW.ls;have la:=hW.la;have HW:=aa hW;have HN:=aa hn;have HR:=aa hrow;have HT:=aa hT;clear hW hn hrow hT;have hb8:(s[a].toNat:Int)<256:=by have:=s[a].toNat_lt;omega
 go_wp2_with (first|(go_at_call 57;(with_reducible refine(HX.out _).mono ?_);rintro e w' ⟨rfl,rfl⟩)|(go_at_call 58;(with_reducible refine(HL.out _).mono ?_);rintro e w' ⟨rfl,rfl⟩)|(go_at_call 61;(with_reducible refine(HD.out _).mono ?_);rintro e w' ⟨rfl,rfl⟩)|(go_at_call 65;(with_reducible refine(og _).mono ?_);rintro e w' ⟨x,rfl,hx,hb⟩;obtain⟨p,rfl⟩:=Xk.jq hb;clear hb;(try rw[Xk.jV]at hx);have HS:=aa hx;clear hx)|(go_at_call 64;(with_reducible refine(HI.out _ _ HS.out).mono ?_);rintro e w' ⟨rfl,rfl⟩));have i1:(i:Int)<17:=av;clear HI HS
 refine Xk.eH 8 [(1,λv w=>iI w v P11.fI),(7,xv 5 ⟨y.toArray⟩ a)] ⟨λv w w' hx h=>h.ext hx,λv w w'=>xv.ext v w w',trivial⟩ jg jg ?_;simp only[List.take_succ_cons,List.take_zero,List.drop_succ_cons,List.drop_zero];(refine Xs.k2 ?_)
 refine Xk.bc cI cI (λp hp=>?_) (λx K hK=>?_)
 ·go_simp;go_at_call 65;exact(og _).mono λe w' ⟨v,he,hs,hb⟩=>⟨v,he,hb,hs⟩
 go_simp;refine hK _ ?_;clear hK K;(refine Xs.k2 ?_)
 refine Xk.aX (Xk.aQ cI) cI (λK hK=>⟨EN x i,λp hp=>?_,?_⟩)
 ·obtain⟨b,off,cap,rfl,hc⟩:iI _ x P11.fI:=Xk.bG hp jg;clear hp hK;have h17:P11.fI.length=17:=rfl;rw[h17];go_simp;exact⟨rfl,rfl⟩
 go_simp;refine hK _ ?_;clear hK K;refine Xk.aX (Xk.aQ cI) cI (λK hK=>⟨.string ⟨y.toArray⟩,λp hp=>?_,?_⟩)
 ·obtain⟨b,off,cap,rfl,hc⟩:iI _ x P11.fI:=Xk.bG hp jg;clear hp hK;have hcy:=hc i y HY.out;simp only[Xk.kW,Xk.jV,mD]at hcy;go_simp;exact⟨rfl,rfl⟩
 go_simp;refine hK _ ?_;clear hK K;(refine Xs.k2 ?_)
 (refine Xs.k2 ?_)
 refine Xk.bc cI cI (λp hp=>?_) (λz K hK=>?_)
 ·go_simp;exact⟨(al _ _).alloc (ai _) _,_,rfl,Xk.jK eQ⟩
 go_simp;refine hK _ ?_;clear hK K;refine Xk.bD (λp hp=>?_);obtain⟨b,rfl,hc⟩:xv 5 ⟨y.toArray⟩ a z _:=hp.1;clear hp;rw[Xk.kW,Xk.jV]at hc ⊢;have HC:=aa hc;clear hc;go_wp2_with (first|(at_builtin;refine Xk.eb (w0:=W) rfl _ _ 61 rfl 72 i0 _ 3 32 dQ Hi.out Hz0.out Hz1.out Hz2.out rfl ff v acc.length (bN acc) rfl (Xs.ow HR.out) _ 0 1 1 [.int .i64 5,.string ⟨y.toArray⟩,.int .i64 a] rfl rfl HC.out Xs.m3 av Xk.xt ?_;intro v' p' ho';have Ho:=aa ho';clear ho'));have j1:IntKind.i64.wrap ((a:Int)+(y.length:Int))=(a:Int)+(y.length:Int):=pb _ av
 refine Xk.eH 7 [(1,λv w=>iI w v P11.fI)] ⟨λv w w' hx h=>h.ext hx,trivial⟩ jg jg ?_;simp only[List.take_succ_cons,List.take_zero,List.drop_succ_cons,List.drop_zero];(refine Xs.k2 ?_)
 refine Xk.bc cI cI (λp hp=>?_) (λx K hK=>?_)
 ·go_simp;go_at_call 65;exact(og _).mono λe w' ⟨v,he,hs,hb⟩=>⟨v,he,hb,hs⟩
 go_simp;refine hK _ ?_;clear hK K;(refine Xs.k2 ?_)
 refine Xk.aX (Xk.aQ cI) cI (λK hK=>⟨EN x i,λp hp=>?_,?_⟩)
 ·obtain⟨b,off,cap,rfl,hc⟩:iI _ x P11.fI:=Xk.bG hp jg;clear hp hK;have h17:P11.fI.length=17:=rfl;rw[h17];go_simp;exact⟨rfl,rfl⟩
 go_simp;refine hK _ ?_;clear hK K;refine Xk.aX (Xk.aQ cI) cI (λK hK=>⟨.string ⟨y.toArray⟩,λp hp=>?_,?_⟩)
 ·obtain⟨b,off,cap,rfl,hc⟩:iI _ x P11.fI:=Xk.bG hp jg;clear hp hK;have hcy:=hc i y HY.out;simp only[Xk.kW,Xk.jV,mD]at hcy;go_simp;exact⟨rfl,rfl⟩
 go_simp;refine hK _ ?_;clear hK K;(refine Xs.k2 ?_)
 (refine Xs.k2 ?_)
 refine Xk.bD (λp hp=>?_);clear hp j1;go_wp2;go_step3;simp only[gP,Exit.then,Xk.gB,↓reduceIte];rw[← HJ.out]
 have ho:(Xk.exw W p').ownsRow W.heap.size 72 3 v' (acc ++ [(⟨5,y,a⟩:P11.Tok)]).length (bN (acc ++ [(⟨5,y,a⟩:P11.Tok)])):=by
  rw[fQ,aN];exact Ho.out
 exact tK HW.out (a+y.length) (by rw[HN.out];omega) av hlen rfl (by rw[aN,bf];omega) (Fr.of jg) (by first|exact Xk.sS (d:=0) (Xk.I4 ho)|exact ho) HT'.out
end Go.Proofs.YtkpmclddjkebeaaGreatDoor
namespace P11
theorem oQ(d:UInt8):∀ (l:List UInt8),d∉l->(l.takeWhile (· !=d)).length=l.length
 | [],_=>rfl
 | c::l,h=>by
  have hc:(c !=d)=true:=by rw[bne_iff_ne];intro e;exact h (by rw[e];exact cy ..)
  rw[dP,hc,aW,aW,oQ d l (λm=>h (cV _ m))]
theorem pV(d:UInt8):∀ (l:List UInt8) (n:Nat),d∉l.take n->l.drop n=d::l.drop (n+1)->(l.takeWhile (· !=d)).length=n
 | [],n,_,h=>by simp at h
 | c::l,0,_,h=>by
  simp at h;subst h;simp[dP]
 | c::l,n+1,h,h'=>by
  rw[aG]at h;have hc:(c !=d)=true:=by rw[bne_iff_ne];intro e;exact h (by rw[e];exact cy ..)
  rw[dP,hc,aW,pV d l n (λm=>h (cV _ m)) (by simpa using h')]
theorem uQ{r:List UInt8}(h:([45,45]:List UInt8).isPrefixOf r=true):∃c t,r=c::t/\step (c::t) = .inl (iw (c::t),none)/\0<iw (c::t):=by
 cases r with
 | nil=>simp[bX]at h
 | cons c t=>
  have hc:c=45:=by simp[bX]at h;exact h.1.symm
  refine⟨c,t,rfl,?_,?_⟩
  ·rw[step,if_neg (by rw[hc];decide),if_pos h]
  ·unfold iw;subst hc;simp[dP]
theorem uP{r:List UInt8}(h:([39]:List UInt8).isPrefixOf r=true):∃t,r=39::t/\step (39::t)=match ck t with
   | none => .inr (0,112)
   | some x=>if((39::t).take (x.2+1)).contains 0 then .inr (((39::t).take (x.2+1)).idxOf 0,111)else .inl (x.2+1,some (4,x.1)):=by
 cases r with
 | nil=>simp[bX]at h
 | cons c t=>
  have hc:c=39:=by simp[bX]at h;exact h.symm
  subst hc;exact⟨t,rfl,by rw[step,if_neg ff,if_neg (by simp[bX]),if_pos rfl];rfl⟩
theorem Bl(d:UInt8):∀ (l:List UInt8) (n:Nat),d∉l.take n->l.drop n=d::l.drop (n+1)->l.idxOf d=n
 | [],n,_,h=>by simp at h
 | c::l,0,_,h=>by
  simp at h;subst h;simp
 | c::l,n+1,h,h'=>by
  rw[aG]at h;have hc:c≠d:=by intro e;exact h (by rw[e];exact cy ..)
  have e:=Bl d l n (λm=>h (cV _ m)) (by simpa using h');have hb:(c==d)=false:=by simpa using hc
  simp[List.idxOf_cons,hb,e]
end P11
namespace Go.Proofs.YtkpmclddjkebeaaGreatDoor
open Go.RowKit Go.Maps
theorem FE(s:ByteArray)(a b:Nat)(c:UInt8)(k v:Int)(hk:k.toNat.toUInt8=c)(h:qF ((s.data.toList.drop a).take (b-a)) c=v)(w:World):
  Calls af 67 #[.string (s.extract a b),.int .u8 k] w λe w'=>e = .returned (.int .i64 v)/\w=w':=by
 refine(Tryz.strings_IndexByte _ _ _).mono ?_;rintro e w' ⟨rfl,rfl⟩;refine⟨?_,rfl⟩;rw[fT,← h,hk]
theorem Kp{w0:World}{s:ByteArray}{bs B ba n:Nat}{act:Act}{w:World}(W:World)(p:Regrown)(a:Nat)(v:Value)(acc:List P11.Tok)(hw:w=Xk.exw W p)(hW:LW w0 s bs B ba W a)(hs:s.size≤4096)
  (hn:n=2*(s.size-a)) (hacc:acc.length≤a) (hF:Fr s bs B ba v act) (hrow:(Xk.exw W p).ownsRow W.heap.size 72 3 v acc.length (bN acc)) (hT:P11.toks s.data.toList 0=P11.after acc (P11.toks (s.data.toList.drop a) a)) (ha:a≤s.size) (hp:([45,45]:List UInt8).isPrefixOf (s.data.toList.drop a)=true):Pass w0 s bs B ba n 1 act w:=by
 obtain⟨c,t,hd,hstep,hpos⟩:=P11.uQ hp
 have hT':P11.toks s.data.toList 0=P11.after acc (P11.toks (s.data.toList.drop (a+P11.iw (s.data.toList.drop a))) (a+P11.iw (s.data.toList.drop a))):=by
  rw[hT];conv=>lhs;rw[hd]
  rw[P11.pF hstep,← hd,gO]
 rw[← hd]at hpos
 have hlt:a<s.size:=by
  have:=congrArg List.length hd;simp at this;omega
 rcases P11.lD 10 (s.data.toList.drop a)with⟨e1,e2⟩|⟨k,e1,e2,e3,e4⟩
 ·have HX:=aa (λw=>wQ s a 10 10 _ rfl e1 w)
  have hl:P11.iw (s.data.toList.drop a)=s.size-a:=by
   unfold P11.iw;rw[P11.oQ 10 _ e2];simp
  rw[hl,show a+(s.size-a)=s.size by omega]at hT';have HT':=aa hT';clear hT' hl e1 e2 hd hstep hpos hp;subst hw;unfold Fr at hF;obtain⟨f,rfl⟩:=hF;unfold Pass;generalize hQ:bodyPost af dy (gg s w0)=Q;have HQ:=aa hQ;clear hQ;generalize hJL:(λ(l':Nat) (a':Act) (w':World)=>∃m,m<n/\JL w0 s bs B ba m l' a' w')=J;have HJ:=aa hJL;clear hJL;unfold eU dy;simp only[findLabel];refine⟨_,rfl,?_⟩;have cs:=hW.cs;have ca:=hW.ca;have fa:=hW.fa;have ls:=hW.ls;have la:=hW.la;have HW:=aa hW;have HN:=aa hn;have HR:=aa hrow;have HT:=aa hT;clear hW hn hrow hT;have hz:(a:Int)+((s.size:Int)-(a:Int))=(s.size:Int):=av
  go_wp2_with (go_at_call 67;(with_reducible refine(HX.out _).mono ?_);rintro e w' ⟨rfl,rfl⟩);go_step3;simp only[gP,Exit.then,Xk.gB,↓reduceIte];rw[← HJ.out];exact tK HW.out s.size (by rw[HN.out];omega) hlt (ai _) cI av (Fr.of jg) HR.out HT'.out
 ·have HX:=aa (λw=>wQ s a 10 10 _ rfl e1 w);have hl:P11.iw (s.data.toList.drop a)=k:=P11.pV 10 _ k e3 e4;rw[hl]at hT' hpos;have hk:a+k<s.size:=by simp at e2;omega
  have HT':=aa hT';clear hT' hl e1 e2 e3 e4 hd hstep hp;subst hw;unfold Fr at hF;obtain⟨f,rfl⟩:=hF;unfold Pass;generalize hQ:bodyPost af dy (gg s w0)=Q;have HQ:=aa hQ;clear hQ;generalize hJL:(λ(l':Nat) (a':Act) (w':World)=>∃m,m<n/\JL w0 s bs B ba m l' a' w')=J;have HJ:=aa hJL;clear hJL;unfold eU dy;simp only[findLabel];refine⟨_,rfl,?_⟩;have cs:=hW.cs;have ca:=hW.ca;have fa:=hW.fa;have ls:=hW.ls;have la:=hW.la;have HW:=aa hW;have HN:=aa hn;have HR:=aa hrow;have HT:=aa hT;clear hW hn hrow hT;go_wp2_with (go_at_call 67;(with_reducible refine(HX.out _).mono ?_);rintro e w' ⟨rfl,rfl⟩);go_step3
  simp only[gP,Exit.then,Xk.gB,↓reduceIte];rw[← HJ.out];exact tK HW.out (a+k) (by rw[HN.out];omega) av av rfl av (Fr.of jg) HR.out HT'.out
theorem Aj(a:Nat):sH a none = .tuple #[.int .i64 0,.string ⟨#[]⟩,.bool false]:=rfl
theorem Ai(a:Nat)(t:List UInt8)(n:Nat):sH a (some (t,n)) = .tuple #[.int .i64 ((a+1+n:Nat):Int),.string ⟨t.toArray⟩,.bool true]:=rfl
theorem Ko{w0:World}{s:ByteArray}{bs B ba n:Nat}{act:Act}{w:World}(W:World)(p:Regrown)(a:Nat)(v:Value)(acc:List P11.Tok)(hw:w=Xk.exw W p)(hW:LW w0 s bs B ba W a)(hs:s.size≤4096)
  (hn:n=2*(s.size-a)) (hacc:acc.length≤a) (hF:Fr s bs B ba v act) (hrow:(Xk.exw W p).ownsRow W.heap.size 72 3 v acc.length (bN acc)) (hT:P11.toks s.data.toList 0=P11.after acc (P11.toks (s.data.toList.drop a) a)) (ha:a≤s.size) (hp:([39]:List UInt8).isPrefixOf (s.data.toList.drop a)=true):Pass w0 s bs B ba n 2 act w:=by
 obtain⟨t,hd,hstep⟩:=P11.uP hp
 have hlt:a<s.size:=by
  have:=congrArg List.length hd;simp at this;omega
 have ht:s.data.toList.drop (a+1)=t:=by
  have:=drop_at s a hlt;rw[hd]at this;exact(List.cons.inj this).2.symm
 have htx:=λw=>Ev s a hlt av w;rw[ht]at htx
 cases hx:P11.ck t with
 | none=>
  rw[hx]at hstep htx
  have hL:P11.eP s.data.toList = .inr (a,112):=by
   rw[P11.eP,if_neg (by show ¬ 4096<s.size;omega),hT,hd,P11.oF hstep];rfl
  rw[Aj]at htx;have HL:=aa hL;have HX:=aa htx;clear hL htx hstep hx hd ht hp;subst hw;unfold Fr at hF;obtain⟨f,rfl⟩:=hF;unfold Pass;generalize hQ:bodyPost af dy (gg s w0)=Q;have HQ:=aa hQ;clear hQ;generalize hJL:(λ(l':Nat) (a':Act) (w':World)=>∃m,m<n/\JL w0 s bs B ba m l' a' w')=J;have HJ:=aa hJL;clear hJL;unfold eU dy;simp only[findLabel];refine⟨_,rfl,?_⟩;have cs:=hW.cs;have ca:=hW.ca;have fa:=hW.fa;have ls:=hW.ls;have la:=hW.la;have HW:=aa hW;have HN:=aa hn;have HR:=aa hrow;have HT:=aa hT;clear hW hn hrow hT
  go_wp2_with (go_at_call 68;(with_reducible refine(HX.out _).mono ?_);rintro e w' ⟨rfl,rfl⟩);refine Xk.reg 4 (Xk.w0 λp=>?_);go_wp2;rw[← HQ.out];go_ret3;exact⟨HW.out.below.trans ((al _ _).trans (by first|exact(Xk.cF W _).mono HW.out.below.size|(rw[Xk.kW,Xk.jV];exact(Xk.cF W _).mono HW.out.below.size))),.inr ⟨a,112,HL.out,rfl⟩⟩
 | some x=>
  obtain⟨u,k⟩:=x;rw[hx,Ai]at htx;rw[hx]at hstep;dsimp only at hstep;have hk:=P11.kK _ t (ai _) (u,k) hx;dsimp only at hk;have hk2:a+1+k≤s.size:=by rw[← ht]at hk;simp at hk;omega
  have hq:(s.data.toList.drop a).take (a+1+k-a)=(39::t).take (k+1):=by rw[hd];congr 1;omega
  rcases P11.lD 0 ((39::t).take (k+1))with⟨e1,e2⟩|⟨j,e1,e2,e3,e4⟩
  ·have HI:=aa (λw=>FE s a (a+1+k) 0 0 (-1) rfl (by rw[hq];exact e1) w);rw[if_neg (by simpa using e2)]at hstep
   have hT':P11.toks s.data.toList 0=P11.after (acc ++ [⟨4,u,a⟩]) (P11.toks (s.data.toList.drop (a+1+k)) (a+1+k)):=by
    rw[hT,hd,P11.k6 hstep,← hd,gO,show a+(k+1)=a+1+k by omega]
   have HT':=aa hT';have HX:=aa htx;clear hT' htx hstep hx hd ht hp hq e1 e2;have haq:a<a+1+k:=av;generalize a+1+k=q at *
   obtain⟨i0,hi,hz0,hz1,hz2⟩:=uG Tryz.oz;have Hi:=aa hi;have Hz0:=aa hz0;have Hz1:=aa hz1;have Hz2:=aa hz2;clear hi hz0 hz1 hz2;subst hw;unfold Fr at hF;obtain⟨f,rfl⟩:=hF;unfold Pass;generalize hQ:bodyPost af dy (gg s w0)=Q;have HQ:=aa hQ;clear hQ;generalize hJL:(λ(l':Nat) (a':Act) (w':World)=>∃m,m<n/\JL w0 s bs B ba m l' a' w')=J;have HJ:=aa hJL;clear hJL;unfold eU dy;simp only[findLabel];refine⟨_,rfl,?_⟩;have cs:=hW.cs;have ca:=hW.ca;have fa:=hW.fa;have ls:=hW.ls;have la:=hW.la;have HW:=aa hW;have HN:=aa hn;have HR:=aa hrow;have HT:=aa hT;clear hW hn hrow hT;have q2:(a:Int)≤(q:Int):=av
   have q3:(q:Int)≤(s.size:Int):=av;have q4:(a:Int)≤(s.size:Int):=av;go_wp2_with (first|(go_at_call 68;(with_reducible refine(HX.out _).mono ?_);rintro e w' ⟨rfl,rfl⟩)|(go_at_call 67;(with_reducible refine(HI.out _).mono ?_);rintro e w' ⟨rfl,rfl⟩)|(at_builtin;refine Xk.eb (w0:=W) rfl _ _ 61 rfl 72 i0 _ 3 32 dQ Hi.out Hz0.out Hz1.out Hz2.out rfl ff v acc.length (bN acc) rfl (Xs.ow HR.out) _ 0 1 1 [.int .i64 4,.string ⟨u.toArray⟩,.int .i64 a] rfl rfl (Xk.jK eQ) Xs.m3 av Xk.xt ?_;intro v' p' ho';have Ho:=aa ho';clear ho'));go_step3;simp only[gP,Exit.then,Xk.gB,↓reduceIte];rw[← HJ.out]
   have ho:(Xk.exw W p').ownsRow W.heap.size 72 3 v' (acc ++ [(⟨4,u,a⟩:P11.Tok)]).length (bN (acc ++ [(⟨4,u,a⟩:P11.Tok)])):=by
    rw[fQ,aN];exact Ho.out
   exact tK HW.out q (by rw[HN.out];omega) haq hk2 rfl (by rw[aN,bf];omega) (Fr.of jg) ho HT'.out
  ·have HI:=aa (λw=>FE s a (a+1+k) 0 0 j rfl (by rw[hq];exact e1) w);have hj:j≤k:=by simp at e2;omega
   have hc:((39::t).take (k+1)).contains 0=true:=by
    have:(0:UInt8)∈((39::t).take (k+1)).drop j:=by rw[e4];exact cy ..
    simpa using List.mem_of_mem_drop this
   rw[if_pos hc,P11.Bl 0 _ j e3 e4]at hstep
   have hL:P11.eP s.data.toList = .inr (a+j,111):=by
    rw[P11.eP,if_neg (by show ¬ 4096<s.size;omega),hT,hd,P11.oF hstep]
   have HL:=aa hL;have HX:=aa htx;clear hL htx hstep hx hd ht hp hq e1 e2 e3 e4 hc;have haq:a+j<a+1+k:=av;generalize a+1+k=q at *
   subst hw;unfold Fr at hF;obtain⟨f,rfl⟩:=hF;unfold Pass;generalize hQ:bodyPost af dy (gg s w0)=Q;have HQ:=aa hQ;clear hQ;generalize hJL:(λ(l':Nat) (a':Act) (w':World)=>∃m,m<n/\JL w0 s bs B ba m l' a' w')=J;have HJ:=aa hJL;clear hJL;unfold eU dy;simp only[findLabel];refine⟨_,rfl,?_⟩;have cs:=hW.cs;have ca:=hW.ca;have fa:=hW.fa;have ls:=hW.ls;have la:=hW.la;have HW:=aa hW;have HN:=aa hn;have HR:=aa hrow;have HT:=aa hT;clear hW hn hrow hT;have q2:(a:Int)≤(q:Int):=av;have q3:(q:Int)≤(s.size:Int):=av;have q4:(a:Int)≤(s.size:Int):=av
   go_wp2_with (first|(go_at_call 68;(with_reducible refine(HX.out _).mono ?_);rintro e w' ⟨rfl,rfl⟩)|(go_at_call 67;(with_reducible refine(HI.out _).mono ?_);rintro e w' ⟨rfl,rfl⟩));have q5:IntKind.i64.wrap ((a:Int)+(j:Int))=(a:Int)+(j:Int):=pb _ av;refine Xk.reg 6 (Xk.w0 λp=>?_);go_wp2;rw[← HQ.out];go_ret3;exact⟨HW.out.below.trans ((al _ _).trans (by first|exact(Xk.cF W _).mono HW.out.below.size|(rw[Xk.kW,Xk.jV];exact(Xk.cF W _).mono HW.out.below.size))),.inr ⟨a+j,111,HL.out,rfl⟩⟩
end Go.Proofs.YtkpmclddjkebeaaGreatDoor
namespace Go.Proofs.YtkpmclddjkebeaaGreatDoor
open Go.RowKit Go.Maps
theorem tD{J J':Nat->Act->World->Prop}{Q:Exit->Act->World->Prop}(h:∀l a w,J l a w->J' l a w){e:Exit}{a:Act}{w:World}(hq:Xk.jumps J Q e a w):Xk.jumps J' Q e a w:=by
 cases e<;>first|exact h _ _ _ hq|exact hq
structure zO(s:ByteArray)(w0:World)(bw k:Nat)(wr:World):Prop where
 below:Below w0.heap.size w0 wr
 words:jX wr (w0.heap.size+1) k
 cs:wr.cell? ⟨w0.heap.size,0,none⟩=some (.string s)
 cw:∀ (j:Nat) (x:List UInt8),P11.words[j]?=some x->wr.cell? ⟨bw,j,none⟩=some (.string ⟨x.toArray⟩)
 lw:bw<wr.heap.size
 ls:w0.heap.size+1<wr.heap.size
 nb:bw≠w0.heap.size+1
theorem zO.grown{s:ByteArray}{w0 wr wr':World}{bw k k':Nat}(h:zO s w0 bw k wr)(hg:wr.grownBy wr' (some (w0.heap.size+1)))(hw:jX wr' (w0.heap.size+1) k'):zO s w0 bw k' wr' where
 below:=h.below.grown hg h.below.size (λj hj=>by cases hj;omega)
 words:=hw
 cs:=by rw[← h.cs];exact kf (hg.block _ (by have:=h.ls;dsimp only;omega) eQ)
 cw:=λj x hj=>by rw[← h.cw j x hj];exact kf (hg.block _ h.lw (by simpa using h.nb))
 lw:=aK h.lw hg.size
 ls:=aK h.ls hg.size
 nb:=h.nb
theorem LW.start{s:ByteArray}{w0 wr:World}{bw:Nat}(h:zO s w0 bw 43 wr):LW w0 s w0.heap.size (w0.heap.size+1) wr.heap.size (wr.alloc (.cells #[.int .i64 0] 3)) 0 where
 below:=h.below.alloc h.below.size _
 cs:=by rw[World.cell?_alloc_lt (h:=by have:=h.ls;dsimp only;omega)];exact h.cs
 ca:=by rw[fG];rfl
 fa:=eQ
 words:=h.words.ext ((al _ _).alloc (ai _) _)
 ls:=by have:=h.ls;simp;omega
 la:=eQ
 ha:=h.below.size
 ne:=by have:=h.ls;omega
 nB:=by have:=h.ls;omega
theorem FT(w:World):Xk.exw w ⟨w.drawn,#[]⟩=w:=by
 simp[Xk.exw,ni,redrawn]
theorem JL.start{w0:World}{s:ByteArray}{bs B ba:Nat}{W:World}{act:Act}(hW:LW w0 s bs B ba W 0)(hF:Fr s bs B ba (.slice none 0 0) act):JL w0 s bs B ba (2*s.size+1) 0 act W:=
 .inl ⟨rfl,W,⟨W.drawn,#[]⟩,0,.slice none 0 0,[],(FT W).symm,hW,gM _,rfl,ai _,hF,qA _ _ _ _,by rw[P11.vG];rfl⟩
theorem yo{w0:World}{s:ByteArray}{bs B ba n l:Nat}{act:Act}{w:World}(hJ:JL w0 s bs B ba n l act w)(hs:s.size≤4096):Pass w0 s bs B ba n l act w:=by
 rcases hJ with⟨rfl,W,p,a,v,acc,hw,hW,ha,hn,hacc,hF,hrow,hT⟩|⟨rfl,W,p,a,v,acc,hw,hW,ha,hn,hacc,hF,hrow,hT,hp⟩|⟨rfl,W,p,a,v,acc,hw,hW,ha,hn,hacc,hF,hrow,hT,hp⟩
 ·by_cases hlt:a<s.size
  ·cases hb:P11.blank s[a]
   ·cases hp:([45,45]:List UInt8).isPrefixOf (s.data.toList.drop a)
    ·by_cases hq:s[a]=39
     ·exact Dc W p a v acc hw hW hs hn hacc hF hrow hT hlt hq
     ·cases hl:P11.letter s[a]
      ·cases hd:P11.digit s[a]
       ·cases hg:P11.fK (s.data.toList.drop a)with
        | none=>exact EU W p a v acc hw hW hs hn hacc hF hrow hT hlt hb hp hq hl hd hg
        | some y=>exact Dd W p a v acc hw hW hs hn hacc hF hrow hT hlt hb hp hq hl hd hg
       ·exact AG W p a v acc hw hW hs hn hacc hF hrow hT hlt hd
      ·exact yn W p a v acc hw hW hs hn hacc hF hrow hT hlt hl
    ·exact De W p a v acc hw hW hs hn hacc hF hrow hT hlt hb hp
   ·exact AI W p a v acc hw hW hs hn hacc hF hrow hT hlt hb
  ·exact ER W p a v acc hw hW hs hn hacc hF hrow hT av
 ·exact Kp W p a v acc hw hW hs hn hacc hF hrow hT ha hp
 ·exact Ko W p a v acc hw hW hs hn hacc hF hrow hT ha hp
theorem xE(w:World):Calls af 56 #[] w λe w'=>e = .returned (.slice (some ⟨w.heap.size,0,none⟩) 43 43)/\(∀ (j:Nat) (x:List UInt8),P11.words[j]?=some x->w'.cell? ⟨w.heap.size,j,none⟩=some (.string ⟨x.toArray⟩))/\Below w.heap.size w w'/\w.heap.size<w'.heap.size:=by
 go_enter Tryz.func56,Tryz.ntmps56;go_wp2;go_ret;refine⟨rfl,λj x hj=>?_,Xk.xt,by simp⟩;rw[fG]
 have hC:∀C:Array Value,C.toList=P11.words.map (λx=>zX ⟨x.toArray⟩)->C[j]?=some (.string ⟨x.toArray⟩):=λC hC=>by
  rw[← pK,hC,jA,hj];rfl
 exact hC _ jg
theorem CT(k:Nat)(x:List UInt8)(h:P11.words[k]?=some x):P11.xZ (k+1)=(P11.xZ k).put (.string x) (.agg []):=by
 obtain⟨hk,rfl⟩:=cr.1 h;unfold P11.xZ;rw[uF hk,List.map_append,zW,List.map_nil,setOf_snoc]
theorem zZ(x:List UInt8)(k:Nat)(h:P11.words[k]?=some x):x.length≤100:=by
 have:P11.words.all (λx=>decide (x.length≤100))=true:=ff
 simpa using ft.1 this x (iY h)
theorem sF(s:ByteArray)(w:World):Calls af 17 #[.string s] w (gg s w):=by
 have hmm:=@run_makeMap af;generalize hQ:gg s w=R;have HQ:=aa hQ;clear hQ;go_enter Tryz.func17,Tryz.ntmps17;go_wp2;refine Xk.sd (λn l a w'=>s.size≤4096/\∃bs B ba,JL w s bs B ba n l a w') ?_ ?_
 ·go_wp2_with (go_at_call 56;(with_reducible refine(xE _).mono ?_);rintro e w' ⟨rfl,hc,hb,hz⟩;obtain⟨p,rfl⟩:=Xk.jq hb;clear hb;have HC:=aa hc;have HZ:=aa hz;clear hc hz);go_loopw [7,18] (λ_ x wr=>∃k:Nat,k≤43/\x = .int .i64 k/\zO s w (w.heap.size+2) k wr) (λ_ x _=>43-(intOf x).toNat)
  case atStart=>
   refine⟨0,by omega,rfl,⟨Xk.xt,?_,?_,?_,?_,?_,by omega⟩⟩
   ·refine jX.ext ?_ (Xk.cF _ _);have h:=uk (w.alloc (.cells #[.string s] 9)) af 9 (unitElem (H:=Unit));rw[ag]at h;exact h
   ·go_simp
   ·intro j x hj;have:=HC.out j x hj;simpa using this
   ·have:=HZ.out;simp at this ⊢;omega
   ·simp;omega
  case round=>
   obtain⟨k,hk,rfl,hL⟩:=hrel;by_cases hlt:k<43
   ·have hx:P11.words[k]?=some (P11.words[k]'hlt):=aZ _;have c1:=hL.cw k _ hx;have hsz:=zZ _ k hx;have hkey:=WideMaps.keyOf_string_mk ef (s:=⟨(P11.words[k]'hlt).toArray⟩) (by show(P11.words[k]'hlt).toArray.size≤maxLen;rw[aP];unfold maxLen;omega);have hset:=CT k _ hx;generalize P11.words[k]'hlt=x at *
    have hown:=hL.words;have HO:=aa hown;have HL:=aa hL;have HK:=aa hkey;have HS:=aa hset;clear hL hkey hset hown hx;have k1:(k:Int)<43:=av;go_wp2_with (at_mapUpdate;refine wpList_mapUpdate_own _ rfl _ _ _ 112 rfl 9 114 Bb rn (unitElem (H:=Unit)) (w.heap.size+1) k _ rfl HO.out (by unfold maxLen;omega) _ _ _ rfl rfl HK.out _ [] unitElem_mk ?_;intro w1 hown1 hgrow1;have HO1:=aa hown1;have HG1:=aa hgrow1;clear hown1 hgrow1);go_roundw
    case rel=>exact⟨k+1,by omega,by go_num,HL.out.grown HG1.out (by unfold jX;rw[HS.out];exact HO1.out)⟩
    case measure=>simp[intOf];omega
   ·obtain rfl:k=43:=av;clear hk hlt;by_cases hs:4096<s.size
    ·have c1:=hL.cs;have l1:=hL.ls;have l0:w.heap.size<wr.heap.size:=av;have HL:=aa hL;clear hL;have s1:(4096:Int)<(s.size:Int):=av;go_wp2;go_ret3;rw[← HQ.out];exact⟨HL.out.below.alloc HL.out.below.size _,.inr ⟨0,110,by rw[P11.eP,if_pos (show 4096<s.data.toList.length from hs)],rfl⟩⟩
    ·have c1:=hL.cs;have l1:=hL.ls;have l0:w.heap.size<wr.heap.size:=av;have HL:=aa hL;clear hL;have s1:¬ (4096:Int)<(s.size:Int):=av;go_wp2;go_step3;simp only[Exit.then];rename_i hK;refine hK _ _ ?_;clear hK;have hW:LW w s w.heap.size (w.heap.size+1) wr.heap.size (wr.alloc (.cells #[.int .i64 0] 3)) 0:=LW.start HL.out;obtain⟨rest,h1,h2⟩:=yo (JL.start hW (Fr.of jg)) (sc hs);have e:=h1.symm.trans (rfl:findLabel eU 0=some (Code.skip.seq _));injection e with e
     injection e with _ e
     rw[e]at h2;have h3:=wp_mono h2 (λe a w h=>tD (J':=λl a' w'=>∃n,s.size≤4096/\∃bs B ba,JL _ s bs B ba n l a' w') (λl a w ⟨m,hm,hj⟩=>⟨m,sc hs,_,_,_,hj⟩) h);rw[HQ.out]at h3;exact h3
 ·rintro n l a w' ⟨hs,bs,B,ba,hJ⟩;obtain⟨rest,h1,h2⟩:=yo hJ hs;refine⟨_,h1,?_⟩;refine wp_seq (wp_skip ?_);have h3:=wp_mono h2 (λe a w h=>tD (J':=λl a' w'=>∃m,m<n/\s.size≤4096/\∃bs B ba,JL _ s bs B ba m l a' w') (λl a w ⟨m,hm,hj⟩=>⟨m,hm,hs,bs,B,ba,hj⟩) h);rw[HQ.out]at h3;exact h3
end Go.Proofs.YtkpmclddjkebeaaGreatDoor
namespace Go.Proofs.YtkpmclddjkebeaaGreatDoor
open Go.RowKit Go.Maps
def J6(b off:Nat)(l:List P11.Tok)(w:World):Prop:=
 b<w.heap.size/\∀ (j:Nat) (t:P11.Tok),l[j]?=some t ->
  w.cell? ⟨b,off+j*3,none⟩=some (.int .i64 t.kind)/\w.cell? ⟨b,off+j*3+1,none⟩=some (.string ⟨t.text.toArray⟩)/\w.cell? ⟨b,off+j*3+2,none⟩=some (.int .i64 t.pos)
theorem yO{s:List UInt8}{l:List P11.Tok}(h:P11.eP s = .inl l):l ≠ []:=by
 unfold P11.eP at h;split at h
 ·cases h
 ·obtain⟨l',rfl,-⟩:=P11.nY _ s 0 l (ai _) h;simp
theorem Af(s:ByteArray)(l:List P11.Tok)(h:P11.eP s.data.toList = .inl l)(w:World):
  Calls af 17 #[.string s] w λe w'=>∃b off cap,e = .returned (.tuple #[.slice (some ⟨b,off,none⟩) l.length cap,.int .i64 0,.int .i64 0])/\J6 b off l w'/\l.length≤cap/\Below w.heap.size w w':=by
 refine(sF s w).mono ?_;rintro e w' ⟨hb,⟨l',v,h1,rfl,pa,cap,rfl,hc⟩|⟨a,k,h1,-⟩⟩
 ·rw[h]at h1
  cases h1;have hne:=yO h;have h0:l[0]?=some (l[0]'(List.length_pos_iff.2 hne)):=aZ _;obtain⟨b,off,rfl,c1,-,-,hcap⟩:=hc 0 _ h0;refine⟨b,off,cap,rfl,⟨ay w' _ c1,λj t hj=>?_⟩,hcap,hb⟩;obtain⟨b',off',e,h2,h3,h4,-⟩:=hc j t hj
  cases e;exact⟨h2,h3,h4⟩
 ·rw[h]at h1;cases h1
theorem Ag(s:ByteArray)(a:Nat)(k:Int)(h:P11.eP s.data.toList = .inr (a,k))(w:World):
  Calls af 17 #[.string s] w λe w'=>e = .returned (.tuple #[.slice none 0 0,.int .i64 a,.int .i64 k])/\Below w.heap.size w w':=by
 refine(sF s w).mono ?_;rintro e w' ⟨hb,⟨l',v,h1,-⟩|⟨a',k',h1,rfl⟩⟩
 ·rw[h]at h1;cases h1
 ·rw[h]at h1;cases h1;exact⟨rfl,hb⟩
theorem gp{x y:ByteArray}(h:x.data.toList=y.data.toList):x=y:=by
 obtain⟨x⟩:=x;obtain⟨y⟩:=y;simp at h;rw[h]
end Go.Proofs.YtkpmclddjkebeaaGreatDoor
namespace Go.Proofs.YtkpmclddjkebeaaGreatDoor
open Go.RowKit Go.Maps
theorem Jy{W:World}{base:Nat}{v:Value}{l:List P11.Tok}(h:W.ownsRow base 72 3 v l.length (bN l))(hne:l ≠ []):∃g cap,v = .slice (some ⟨g,0,none⟩) l.length cap:=by
 rcases h.2 with⟨-,h0⟩|⟨g,cap,cur,rfl,-⟩
 ·exact absurd (List.length_eq_zero_iff.1 h0) hne
 ·exact⟨g,cap,rfl⟩
def zR(s:ByteArray)(w0:World)(e:Ending)(w':World):Prop:=
 Below w0.heap.size w0 w'/\((∃l v,P11.eP s.data.toList = .inl l/\e = .returned (.tuple #[v,.int .i64 0,.int .i64 0])/\BM w' v l/\(l ≠ []->∃g cap,v = .slice (some ⟨g,0,none⟩) l.length cap))∨
  ∃ (a:Nat) (k:Int),P11.eP s.data.toList = .inr (a,k)/\e = .returned (.tuple #[.slice none 0 0,.int .i64 a,.int .i64 k]))
theorem jR(c:UInt8)(w:World):Calls af 78 #[.int .u8 c.toNat] w λe w'=>e = .returned (.bool (P11.letter c))/\w=w':=by
 have hl:=tz c;have h2:(c.toNat:Int)<256:=by have:=c.toNat_lt;omega
 have HL:=aa hl;clear hl;go_enter Tryz.func78,Tryz.ntmps78;go_wp2
 all_goals
  go_ret;refine⟨kQ ?_,rfl⟩;rw[HL.out,gX];simp;try omega
theorem iu(c:UInt8)(w:World):Calls af 79 #[.int .u8 c.toNat] w λe w'=>e = .returned (.bool (P11.digit c))/\w=w':=by
 have hl:=vC c;have h2:(c.toNat:Int)<256:=by have:=c.toNat_lt;omega
 have HL:=aa hl;clear hl;go_enter Tryz.func79,Tryz.ntmps79;go_wp2
 all_goals
  go_ret;refine⟨kQ ?_,rfl⟩;rw[HL.out,gX];simp;try omega
theorem wg(w:World):Calls af 154 #[] w λe w'=>∃v,e = .returned v/\iI w' v P11.words/\Below w.heap.size w w':=by
 go_enter Tryz.func154,Tryz.ntmps154;go_wp2;go_ret;exact⟨_,rfl,iI.new w P11.words _ _ 43 jg jg,Xk.xt⟩
def rr(u:List UInt8):Bool:=P11.words.contains u
theorem Be(u:List UInt8)(w:World):Calls af 81 #[.string ⟨u.toArray⟩] w λe w'=>e = .returned (.bool (rr u))/\Below w.heap.size w w':=by
 go_enter Tryz.func81,Tryz.ntmps81;go_wp2_with fail;(with_reducible refine(wg _).mono ?_)
 rintro e w1 ⟨v,rfl,⟨b,off,cap,rfl,hc⟩,hb⟩;have h43:P11.words.length=43:=rfl;rw[h43];have HC:=aa hc;have HB:=aa hb;clear hc hb h43;go_wp2;go_loop [4] (λx=>∃q:Nat,q≤43/\x = .int .i64 q/\Hid (∀ (j:Nat) y,j<q->P11.words[j]?=some y->y≠u)) (λx=>43-(intOf x).toNat)
 case atStart=>exact⟨0,gM _,rfl,aa λj y hj=>by omega⟩
 case round=>
  obtain⟨q,hq,rfl,HN⟩:=hrel;by_cases hlt:q<43
  ·have hx:P11.words[q]?=some (P11.words[q]'hlt):=aZ _;have c1:=HC.out q _ hx;have HX:=aa hx;have q1:(q:Int)<43:=av;clear hx;generalize P11.words[q]'hlt=x at *
   by_cases he:x=u
   ·subst he;have hc:rr x=true:=by unfold rr;simpa using iY HX.out
    have HCn:=aa hc;clear hc;go_wp2;go_ret;exact⟨kQ HCn.out.symm,HB.out⟩
   ·have HE:=aa he;have hne:(x==u)=false:=by simpa using he
    go_wp2;go_round
    case rel=>exact⟨q+1,by omega,by go_num,aa λj y hj hy=>by
     by_cases hjq:j=q
     ·subst hjq;rw[HX.out]at hy;cases hy;exact HE.out
     ·exact HN.out j y av hy⟩
    case measure=>simp[intOf];omega
  ·have hc:rr u=false:=by
    unfold rr;rw[Bool.eq_false_iff];intro h;obtain⟨j,hj⟩:=iZ.1 (by simpa using h:u∈P11.words);have hj43:j<43:=(cr.1 hj).1;exact HN.out j u av hj rfl
   have HCn:=aa hc;clear hc;go_wp2;go_ret;exact⟨kQ HCn.out.symm,HB.out⟩
end Go.Proofs.YtkpmclddjkebeaaGreatDoor
namespace Go.Proofs.YtkpmclddjkebeaaGreatDoor
open Go.RowKit Go.Maps
def qu(cap:Bool)(c:UInt8):UInt8:=if cap then fH c else iA c
def qI(cap:Bool)(l:List UInt8)(q j:Nat):UInt8:=if j<q then qu cap (l.getD j 0)else l.getD j 0
structure kv(w:World)(b:Nat)(cap:Bool)(l:List UInt8)(q:Nat)(wr:World):Prop where
 below:Below w.heap.size w wr
 hb:w.heap.size≤b
 lt:b<wr.heap.size
 cell:∀j,j<l.length->wr.cell? ⟨b,j,none⟩=some (.int .u8 (qI cap l q j).toNat)
 free:∀j,j<l.length->wr.frozen? ⟨b,j,none⟩=false
theorem kv.put{w wr:World}{b:Nat}{cap:Bool}{l:List UInt8}{q:Nat}(h:kv w b cap l q wr)(hq:q<l.length):kv w b cap l (q+1) (wr.setCell ⟨b,q,none⟩ (.int .u8 (qu cap (l.getD q 0)).toNat)) where
 below:=h.below.setCell h.hb _
 hb:=h.hb
 lt:=by simpa using h.lt
 cell:=λj hj=>by
  by_cases hjq:j=q
  ·subst hjq;rw[World.cell?_setCell_same _ _ _ (h.cell j hj)];unfold qI;rw[if_pos av]
  ·rw[jz _ _ _ _ (by intro e;cases e;exact hjq rfl),h.cell j hj];unfold qI;by_cases hlt:j<q
   ·rw[if_pos hlt,if_pos av]
   ·rw[if_neg hlt,if_neg av]
 free:=λj hj=>by rw[World.frozen?_setCell];exact h.free j hj
theorem kv.bg{w wr:World}{b:Nat}{cap:Bool}{l:List UInt8}{q:Nat}(h:kv w b cap l q wr)(hlt:q<l.length)(hq:qu cap (l.getD q 0)=l.getD q 0):kv w b cap l (q+1) wr where
 below:=h.below
 hb:=h.hb
 lt:=h.lt
 cell:=λj hj=>by
  rw[h.cell j hj];unfold qI;by_cases hlt:j<q
  ·rw[if_pos hlt,if_pos av]
  ·rw[if_neg hlt];by_cases hjq:j=q
   ·subst hjq;rw[if_pos av,hq]
   ·rw[if_neg av]
 free:=h.free
theorem kv.start(s:ByteArray)(cap:Bool)(w:World):kv w w.heap.size cap s.data.toList 0 (Lib.bytesWorld w 5 s) where
 below:=Lib.bytesWorld_below w _ s
 hb:=ai _
 lt:=by rw[Lib.bytesWorld_size];omega
 cell:=λj hj=>by rw[Lib.bytesWorld_cell _ _ _ _ hj];rfl
 free:=λj hj=>by
  have h1:s.size≤(Lib.bytesCells w 5 s).size:=by simp[Lib.bytesCells]
  have h2:j<s.size:=hj;unfold World.frozen?;rw[show(⟨w.heap.size,j,none⟩:Addr).block=w.heap.size from rfl,Lib.bytesWorld_at_new];simp;omega
theorem CG{c:UInt8}(h:97≤(c.toNat:Int)/\(c.toNat:Int)≤122):((fH c).toNat:Int)=c.toNat-32:=by
 have:=P11.pf (p:=λc=>decide (97≤c.toNat/\c.toNat≤122)) (q:=λc=>(fH c).toNat==c.toNat-32) (by decide +kernel) c (by simp;omega);simp at this;omega
theorem Ad{c:UInt8}(h:¬ (97≤(c.toNat:Int)/\(c.toNat:Int)≤122)):fH c=c:=by
 have:=P11.pf (p:=λc=>decide (¬ (97≤c.toNat/\c.toNat≤122))) (q:=λc=>fH c==c) (by decide +kernel) c (by simp;omega);simpa using this
theorem Du{c:UInt8}(h:65≤(c.toNat:Int)/\(c.toNat:Int)≤90):((iA c).toNat:Int)=c.toNat+32:=by
 have:=P11.pf (p:=λc=>decide (65≤c.toNat/\c.toNat≤90)) (q:=λc=>(iA c).toNat==c.toNat+32) (by decide +kernel) c (by simp;omega);simp at this;omega
theorem A6{c:UInt8}(h:¬ (65≤(c.toNat:Int)/\(c.toNat:Int)≤90)):iA c=c:=by
 have:=P11.pf (p:=λc=>decide (¬ (65≤c.toNat/\c.toNat≤90))) (q:=λc=>iA c==c) (by decide +kernel) c (by simp;omega);simpa using this
theorem kv.str{w wr:World}{b:Nat}{cap:Bool}{l:List UInt8}{q:Nat}(h:kv w b cap l q wr)(hq:l.length≤q)(k n:Nat)(hn:n=l.length):
  (convert 51 9 (.slice (some ⟨b,0,none⟩) n k)).run af wr = .ok (.string ⟨(l.map (qu cap)).toArray⟩) wr:=by
 subst hn
 have:=Xk.sP (P:=af) wr 51 9 5 fW uh ef b 0 l.length k ((l.map (qu cap)).map λc=>(c.toNat:Int)) eQ (λj hj=>by
  rw[eF,h.cell j hj];unfold qI;rw[if_pos av];simp[ep,hj])
 rw[this,List.map_map];have e:((λn:Int=>ja n.toNat)∘λc:UInt8=>(c.toNat:Int))=id:=by funext c;simp
 rw[e,List.map_id]
theorem vF(s:ByteArray)(cap:Bool)(hs:s.size≤1000000)(w:World):
  Calls af 80 #[.string s,.bool cap] w λe w'=>e = .returned (.string ⟨(s.data.toList.map (qu cap)).toArray⟩)/\Below w.heap.size w w':=by
 have kc:=λ(w:World) (s:ByteArray)=>Lib.run_convert_string_bytes (P:=af) w 9 51 5 s ef fW uh;go_enter Tryz.func80,Tryz.ntmps80;go_wp2;have hL:s.data.toList.length=s.size:=rfl;go_loopw [6] (λx wr=>∃q:Nat,q≤s.size/\x = .int .i64 q/\kv w w.heap.size cap s.data.toList q wr) (λx _=>s.size-(intOf x).toNat)
 case atStart=>exact⟨0,gM _,rfl,kv.start s cap w⟩
 case round=>
  obtain⟨q,hq,rfl,hC⟩:=hrel;have HC:=aa hC;have lt1:=hC.lt;by_cases hlt:q<s.size
  ·have c1:=hC.cell q hlt;have f1:=hC.free q hlt;unfold qI at c1;rw[if_neg (Nat.lt_irrefl q)]at c1;have hput:=hC.put hlt;have hkeep:=hC.bg hlt;have HP:=aa hput;have HK:=aa hkeep;clear hC hput hkeep;have c8:((s.data.toList.getD q 0).toNat:Int)<256:=by have:=(s.data.toList.getD q 0).toNat_lt;omega
   have q1:(q:Int)<(s.size:Int):=av;generalize s.data.toList.getD q 0=c at *
   cases cap
   ·by_cases hr:65≤(c.toNat:Int)/\(c.toNat:Int)≤90
    ·obtain⟨r1,r2⟩:=hr;have hv:=Du ⟨r1,r2⟩;have HV:=aa hv;clear hv;go_wp2;go_roundw
     case rel=>exact⟨q+1,by omega,by go_num,by
      have h:=HP.out;rw[show((qu false c).toNat:Int)=c.toNat+32 from HV.out]at h;exact h⟩
     case measure=>simp[intOf];omega
    ·have hv:=A6 hr;have HV:=aa hv;clear hv;by_cases r1:65≤(c.toNat:Int)
     ·have r2:¬ (c.toNat:Int)≤90:=λh=>hr ⟨r1,h⟩;clear hr;go_wp2;go_roundw
      case rel=>exact⟨q+1,by omega,by go_num,HK.out HV.out⟩
      case measure=>simp[intOf];omega
     ·clear hr;go_wp2;go_roundw
      case rel=>exact⟨q+1,by omega,by go_num,HK.out HV.out⟩
      case measure=>simp[intOf];omega
   ·by_cases hr:97≤(c.toNat:Int)/\(c.toNat:Int)≤122
    ·obtain⟨r1,r2⟩:=hr;have hv:=CG ⟨r1,r2⟩;have HV:=aa hv;clear hv;go_wp2;go_roundw
     case rel=>exact⟨q+1,by omega,by go_num,by
      have h:=HP.out;rw[show((qu true c).toNat:Int)=c.toNat-32 from HV.out]at h;exact h⟩
     case measure=>simp[intOf];omega
    ·have hv:=Ad hr;have HV:=aa hv;clear hv;by_cases r1:97≤(c.toNat:Int)
     ·have r2:¬ (c.toNat:Int)≤122:=λh=>hr ⟨r1,h⟩;clear hr;go_wp2;go_roundw
      case rel=>exact⟨q+1,by omega,by go_num,HK.out HV.out⟩
      case measure=>simp[intOf];omega
     ·clear hr;go_wp2;go_roundw
      case rel=>exact⟨q+1,by omega,by go_num,HK.out HV.out⟩
      case measure=>simp[intOf];omega
  ·have hb:=hC.str (by rw[hL];omega) (grownCap w s.size 0 5) s.size hL.symm;clear hC;go_wp2;go_ret;exact⟨rfl,HC.out.below⟩
end Go.Proofs.YtkpmclddjkebeaaGreatDoor
namespace Go.Proofs.YtkpmclddjkebeaaGreatDoor
open Go.RowKit Go.Maps
theorem Tryz.infoByte:(af.info? 5).map (λi=>(i.zero,i.size,i.bytes))=some (some (.int .u8 0),1,1):=jg
def iH(l:List UInt8)(a k:Nat)(z:Int):Prop:=
 (z = -1/\∀j,a≤j->j<k->l.getD j 1≠0)∨∃n:Nat,z=n/\a≤n/\n<k/\l.getD n 1=0/\∀j,a≤j->j<n->l.getD j 1≠0
theorem iH.skip{l:List UInt8}{a k:Nat}{z:Int}(h:iH l a k z)(hk:l.getD k 1≠0):iH l a (k+1) z:=by
 rcases h with⟨rfl,h⟩|⟨n,rfl,h1,h2,h3,h4⟩
 ·refine .inl ⟨rfl,λj h1 h2=>?_⟩;by_cases hj:j=k
  ·subst hj;exact hk
  ·exact h j h1 av
 ·exact .inr ⟨n,rfl,h1,by omega,h3,h4⟩
theorem iH.hit{l:List UInt8}{a k:Nat}(h:iH l a k (-1))(hak:a≤k)(hk:l.getD k 1=0):iH l a (k+1) k:=by
 rcases h with⟨-,h⟩|⟨n,e,-⟩
 ·exact .inr ⟨k,rfl,hak,by omega,hk,h⟩
 ·omega
theorem iH.more{l:List UInt8}{a k:Nat}{z:Int}(h:iH l a k z)(hz:0≤z):iH l a (k+1) z:=by
 rcases h with⟨rfl,h⟩|⟨n,rfl,h1,h2,h3,h4⟩
 ·omega
 ·exact .inr ⟨n,rfl,h1,by omega,h3,h4⟩
theorem iH.ge{l:List UInt8}{a k:Nat}{z:Int}(h:iH l a k z): -1≤z/\z<k∨z = -1:=by
 rcases h with⟨rfl,h⟩|⟨n,rfl,h1,h2,h3,h4⟩
 ·exact .inr rfl
 ·exact .inl ⟨by omega,by omega⟩
def gk(l:List UInt8)(a:Nat):Value:=match P11.ck (l.drop (a+1))with
 | none => .tuple #[.string ⟨#[]⟩,.int .i64 0,.int .i64 a,.int .i64 112]
 | some x=>if((l.drop a).take (x.2+1)).contains 0 then .tuple #[.string ⟨#[]⟩,.int .i64 0,.int .i64 ((a+((l.drop a).take (x.2+1)).idxOf 0:Nat):Int),.int .i64 111]
  else .tuple #[.string ⟨x.1.toArray⟩,.int .i64 ((a+1+x.2:Nat):Int),.int .i64 0,.int .i64 0]
theorem Il{l:List UInt8}{a k:Nat}(h:iH l a k (-1))(hk:k≤l.length)(hak:a≤k):((l.drop a).take (k-a)).contains 0=false:=by
 rcases h with⟨-,h⟩|⟨n,e,-⟩
 ·rw[Bool.eq_false_iff];intro hc;obtain⟨j,hj⟩:=iZ.1 (by simpa using hc:(0:UInt8)∈(l.drop a).take (k-a));rw[di]at hj;split at hj
  ·rw[ug]at hj;exact h (a+j) av av (by rw[ep,hj];rfl)
  ·cases hj
 ·omega
theorem E1{l:List UInt8}{a k n:Nat}(h:iH l a k n)(hk:k≤l.length):((l.drop a).take (k-a)).contains 0=true/\a+((l.drop a).take (k-a)).idxOf 0=n:=by
 rcases h with⟨e,h⟩|⟨m,e,h1,h2,h3,h4⟩
 ·omega
 ·obtain rfl:m=n:=av
  have hat:((l.drop a).take (k-a))[m-a]?=some 0:=by
   rw[di,if_pos av,ug,show a+(m-a)=m by omega,aZ (show m<l.length by omega)];rw[ep,aZ (show m<l.length by omega)]at h3;simpa using h3
  have hlt:=(cr.1 hat).1;refine⟨by simpa using iY hat,?_⟩
  have:((l.drop a).take (k-a)).idxOf 0=m-a:=by
   refine P11.Bl 0 _ (m-a) ?_ ?_
   ·intro hc;obtain⟨j,hj⟩:=iZ.1 hc;rw[di]at hj;split at hj
    ·rw[di]at hj;split at hj
     ·rw[ug]at hj;exact h4 (a+j) av av (by rw[ep,hj];rfl)
     ·cases hj
    ·cases hj
   ·rw[dm hlt];have:=(cr.1 hat).2;rw[this]
  omega
end Go.Proofs.YtkpmclddjkebeaaGreatDoor
namespace Go.Xk
open Go.RowKit
theorem tY{W:World}{g:Nat}{x:Value}{t:TypeId}(h:g=W.heap.size):∀ (j:Nat) u,[x][j]?=some u->(W.alloc (Obj.cells #[x] t)).cell? ⟨g,0+j,none⟩=some u:=by
 subst h;intro j u hj;rw[fG];match j,hj with
 | 0,hj=>simpa using hj
end Go.Xk
namespace Go.Proofs.YtkpmclddjkebeaaGreatDoor
open Go.RowKit Go.Maps
theorem qW(s:ByteArray)(k:Nat)(h:k<s.size):s.data.toList.getD k 1=s[k]:=by
 rw[ep,aZ (show k<s.data.toList.length from h)];rfl
theorem Dh{W:World}{base:Nat}{v:Value}{t:List UInt8}(h:W.ownsRow base 5 1 v t.length (Xk.iX t)):(convert 51 9 v).run af W = .ok (.string ⟨t.toArray⟩) W:=
 Xk.Acc.str (.inl h) 51 9 5 fW uh ef
theorem qc{l:List UInt8}{a k:Nat}{t:List UInt8}{Z:Int}(hak:a<k)(hk:k<l.length)(hT:P11.ck (l.drop (a+1))=(P11.ck (l.drop k)).map λy=>(t++y.1,y.2+(k-(a+1))))
  (hdk:l.drop k=39::l.drop (k+1)) (hq:(l.drop (k+1)).head?≠some 39) (hz:iH l a (k+1) Z) :
  (Z<0->gk l a = .tuple #[.string ⟨t.toArray⟩,.int .i64 (k+1),.int .i64 0,.int .i64 0])/\(¬ Z<0->gk l a = .tuple #[.string ⟨#[]⟩,.int .i64 0,.int .i64 Z,.int .i64 111]):=by
 rw[hdk,P11.pU _ hq]at hT;have e1:1+(k-(a+1))+1=k+1-a:=av;have e2:a+1+(1+(k-(a+1)))=k+1:=av;constructor
 ·intro hn;have hZ:Z = -1:=by rcases hz.ge with h|h<;>omega
  subst hZ;have h0:=Il hz av av;unfold gk;rw[hT];simp only[oG,pL];rw[e1,h0,e2];rfl
 ·intro hn;obtain⟨n,rfl⟩:∃n:Nat,Z=n:=⟨Z.toNat,by omega⟩;obtain⟨h0,h1⟩:=E1 hz av;unfold gk;rw[hT];simp only[oG,pL];rw[e1,h0,if_pos rfl,h1]
theorem qf{W:World}{base:Nat}{v:Value}{t:List UInt8}{c:UInt8}(h:W.ownsRow base 5 1 v (t.length+1) (Xk.iX t ++ [.int .u8 c.toNat])):W.ownsRow base 5 1 v (t ++ [c]).length (Xk.iX (t ++ [c])):=by
 rw[← Xk.zJ,aN];exact h
theorem yd(s:ByteArray)(a:Nat)(ha:a<s.size)(hc0:s[a]=39)(hs:s.size≤1000000)(w:World):
  Calls af 82 #[.string s,.int .i64 a] w λe w'=>e = .returned (gk s.data.toList a)/\Below w.heap.size w w':=by
 have hz0:iH s.data.toList a (a+1) (-1):= .inl ⟨rfl,λj h1 h2=>by
  obtain rfl:j=a:=av;rw[qW s j ha,hc0];decide⟩
 have HZ0:=aa hz0;have HA:=aa ha;clear hz0 hc0;obtain⟨i0,hi,hz0,hz1,hz2⟩:=uG Tryz.infoByte;have Hi:=aa hi;have Hz0:=aa hz0;have Hz1:=aa hz1;have Hz2:=aa hz2;clear hi hz0 hz1 hz2;go_enter Tryz.func82,Tryz.ntmps82;go_wp2
 go_loopw [8,9,10] (λz v x wr=>∃ (k:Nat) (Z:Int) (t:List UInt8),a<k/\k≤s.size/\x = .int .i64 k/\z = .int .i64 Z/\t.length≤k/\Below w.heap.size w wr/\wr.ownsRow w.heap.size 5 1 v t.length (Xk.iX t)/\iH s.data.toList a k Z /\
   P11.ck (s.data.toList.drop (a+1))=(P11.ck (s.data.toList.drop k)).map λy=>(t++y.1,y.2+(k-(a+1)))) (λ_ _ x _=>s.size-(intOf x).toNat)
 case atStart=>exact⟨a+1,-1,[],by omega,HA.out,rfl,rfl,by simp,al _ _,qA _ _ _ _,HZ0.out,by cases P11.ck (s.data.toList.drop (a+1))<;>simp⟩
 case round=>
  obtain⟨k,Z,t,hak,hk,rfl,rfl,htk,hB,hown,hZ,hT⟩:=hrel;obtain⟨p,rfl⟩:=Xk.jq hB;have hge:=hZ.ge;have HO:=aa hown;have HZ:=aa hZ;have HT:=aa hT;have hcv:=Dh hown;clear hB hown hZ hT;by_cases hlt:k<s.size
  ·have hgd:=qW s k hlt;have hdk:=drop_at s k hlt;have hb8:(s[k].toNat:Int)<256:=by have:=s[k].toNat_lt;omega
   by_cases hc:s[k]=39
   ·have h39:((s[k].toNat:Int)==39)=true:=js hc 39 rfl;rw[hc]at hdk hgd;have hz':=HZ.out.skip (by rw[hgd];decide);clear hgd;by_cases he:k+1<s.size
    ·have he1:((k:Int)+1==(s.size:Int))=false:=by rw[beq_eq_false_iff_ne];omega
     have he2:(k:Int)+1<(s.size:Int):=av;by_cases hc2:s[k+1]=39
     ·have hd2:=drop_at s (k+1) he;rw[hc2]at hd2;have f1:((s[k+1].toNat:Int)==39)=true:=js hc2 39 rfl;have f2:((s[k+1].toNat:Int) !=39)=false:=by rw[bne,f1];rfl
      have f3:((s[k+1].toNat:Int)==0)=false:=dn (d:=0) (by rw[hc2];decide) 0 rfl;have f8:(s[k+1].toNat:Int)<256:=by have:=s[k+1].toNat_lt;omega
      have hz2:=hz'.skip (by rw[qW s (k+1) he,hc2];decide)
      have hT':P11.ck (s.data.toList.drop (a+1))=(P11.ck (s.data.toList.drop (k+2))).map λy=>(t ++ [s[k+1]]++y.1,y.2+(k+2-(a+1))):=by
       rw[HT.out,hdk,hd2,P11.qJ,hc2]
       cases P11.ck (s.data.toList.drop (k+1+1))with
       | none=>rfl
       | some y=>simp;omega
      have HT':=aa hT';have HZ':=aa hz2;clear hT' hdk hc hc2 hcv hz' hz2 hd2;go_wp2_with (at_builtin;refine Xk.eb (w0:=w) rfl _ _ 51 rfl 5 i0 _ 1 1 fW Hi.out Hz0.out Hz1.out Hz2.out rfl ff u9 t.length (Xk.iX t) rfl (Xs.ow HO.out) _ 0 1 1 [.int .u8 s[k+1].toNat] rfl rfl (Xk.tY eQ) (by intro u hu;simp only[aJ,aF,or_false]at hu;rcases hu with rfl;rfl) av Xk.xt ?_;intro v' p' ho';have Ho:=aa ho';clear ho');go_roundw
      case rel=>exact⟨k+2,Z,t ++ [s[k+1]],by omega,by omega,by go_num,rfl,by rw[aN,bf];omega,Xk.xt,qf Ho.out,HZ'.out,HT'.out⟩
      case measure=>simp[intOf];omega
     ·have f1:((s[k+1].toNat:Int)==39)=false:=dn hc2 39 rfl;have f2:((s[k+1].toNat:Int) !=39)=true:=by rw[bne,f1];rfl
      have hend:=qc hak hlt HT.out hdk (by rw[drop_at s (k+1) he];intro h;exact hc2 (iy h)) hz';have HEnd:=aa hend;clear hend hdk hc hc2 hz';by_cases hzn:Z<0
      ·go_wp2;rw[HEnd.out.1 hzn];exact ar (v := .tuple #[.string ⟨t.toArray⟩,.int .i64 (k+1),.int .i64 0,.int .i64 0]) (by simp[results,me,go_sem]) rfl ⟨rfl,Xk.xt⟩
      ·have hzn2:0≤Z:=av;go_wp2;rw[HEnd.out.2 hzn];exact ar (v := .tuple #[.string ⟨#[]⟩,.int .i64 0,.int .i64 Z,.int .i64 111]) (by simp[results,me,go_sem]) rfl ⟨rfl,Xk.xt⟩
    ·have he0:k+1=s.size:=av;have he1:((k:Int)+1==(s.size:Int))=true:=by rw[beq_iff_eq];omega
     have hend:=qc hak hlt HT.out hdk (by rw[he0,eY (ai s.size)];decide) hz';have HEnd:=aa hend;clear hend hdk hc hz' he0;by_cases hzn:Z<0
     ·go_wp2;rw[HEnd.out.1 hzn];exact ar (v := .tuple #[.string ⟨t.toArray⟩,.int .i64 (k+1),.int .i64 0,.int .i64 0]) (by simp[results,me,go_sem]) rfl ⟨rfl,Xk.xt⟩
     ·have hzn2:0≤Z:=av;go_wp2;rw[HEnd.out.2 hzn];exact ar (v := .tuple #[.string ⟨#[]⟩,.int .i64 0,.int .i64 Z,.int .i64 111]) (by simp[results,me,go_sem]) rfl ⟨rfl,Xk.xt⟩
   ·have h39:((s[k].toNat:Int)==39)=false:=dn hc 39 rfl
    have hT':P11.ck (s.data.toList.drop (a+1))=(P11.ck (s.data.toList.drop (k+1))).map λy=>(t ++ [s[k]]++y.1,y.2+(k+1-(a+1))):=by
     rw[HT.out,hdk,P11.nZ _ _ hc]
     cases P11.ck (s.data.toList.drop (k+1))with
     | none=>rfl
     | some y=>simp;omega
    have HT':=aa hT';clear hT' hdk hc hcv;by_cases h0:s[k]=0
    ·have h00:((s[k].toNat:Int)==0)=true:=js h0 0 rfl;by_cases hzn:Z<0
     ·obtain rfl:Z = -1:=av;have hz':=HZ.out.hit av (by rw[hgd];exact h0);have HZ':=aa hz';clear hz' h0 hgd hge;go_wp2_with (at_builtin;refine Xk.eb (w0:=w) rfl _ _ 51 rfl 5 i0 _ 1 1 fW Hi.out Hz0.out Hz1.out Hz2.out rfl ff u9 t.length (Xk.iX t) rfl (Xs.ow HO.out) _ 0 1 1 [.int .u8 s[k].toNat] rfl rfl (Xk.tY eQ) (by intro u hu;simp only[aJ,aF,or_false]at hu;rcases hu with rfl;rfl) av Xk.xt ?_;intro v' p' ho';have Ho:=aa ho';clear ho');go_roundw
      case rel=>exact⟨k+1,k,t ++ [s[k]],by omega,by omega,by go_num,rfl,by rw[aN,bf];omega,Xk.xt,qf Ho.out,HZ'.out,HT'.out⟩
      case measure=>simp[intOf];omega
     ·have hzn2:0≤Z:=av;have hz':=HZ.out.more hzn2;have HZ':=aa hz';clear hz' h0 hgd hge;go_wp2_with (at_builtin;refine Xk.eb (w0:=w) rfl _ _ 51 rfl 5 i0 _ 1 1 fW Hi.out Hz0.out Hz1.out Hz2.out rfl ff u9 t.length (Xk.iX t) rfl (Xs.ow HO.out) _ 0 1 1 [.int .u8 s[k].toNat] rfl rfl (Xk.tY eQ) (by intro u hu;simp only[aJ,aF,or_false]at hu;rcases hu with rfl;rfl) av Xk.xt ?_;intro v' p' ho';have Ho:=aa ho';clear ho');go_roundw
      case rel=>exact⟨k+1,Z,t ++ [s[k]],by omega,by omega,by go_num,rfl,by rw[aN,bf];omega,Xk.xt,qf Ho.out,HZ'.out,HT'.out⟩
      case measure=>simp[intOf];omega
    ·have h00:((s[k].toNat:Int)==0)=false:=dn h0 0 rfl;have hz':=HZ.out.skip (by rw[hgd];exact h0);have HZ':=aa hz';clear hz' h0 hgd hge;go_wp2_with (at_builtin;refine Xk.eb (w0:=w) rfl _ _ 51 rfl 5 i0 _ 1 1 fW Hi.out Hz0.out Hz1.out Hz2.out rfl ff u9 t.length (Xk.iX t) rfl (Xs.ow HO.out) _ 0 1 1 [.int .u8 s[k].toNat] rfl rfl (Xk.tY eQ) (by intro u hu;simp only[aJ,aF,or_false]at hu;rcases hu with rfl;rfl) av Xk.xt ?_;intro v' p' ho';have Ho:=aa ho';clear ho');go_roundw
     case rel=>exact⟨k+1,Z,t ++ [s[k]],by omega,by omega,by go_num,rfl,by rw[aN,bf];omega,Xk.xt,qf Ho.out,HZ'.out,HT'.out⟩
     case measure=>simp[intOf];omega
  ·have hend:gk s.data.toList a = .tuple #[.string ⟨#[]⟩,.int .i64 0,.int .i64 a,.int .i64 112]:=by
    unfold gk;rw[HT.out,eY (show s.data.toList.length≤k from by show s.size≤k;omega)];rfl
   have HEnd:=aa hend;clear hend hcv;go_wp2;rw[HEnd.out];exact ar (v := .tuple #[.string ⟨#[]⟩,.int .i64 0,.int .i64 a,.int .i64 112]) (by simp[results,me,go_sem]) rfl ⟨rfl,Xk.xt⟩
end Go.Proofs.YtkpmclddjkebeaaGreatDoor
namespace P11
def sf:List UInt8 := [40,41,44,46,42,61,60,62,43,45,47,37,59]
def two(c d:UInt8):Bool:=(c==60&&d==62)||(c==60&&d==61)||(c==62&&d==61)||(c==124&&d==124)
theorem ve(c:UInt8)(t:List UInt8):(sf.map λx => [x]).find? (λx=>x.isPrefixOf (c::t))=if c∈sf then some [c]else none:=by
 unfold sf;by_cases h:c∈([40,41,44,46,42,61,60,62,43,45,47,37,59]:List UInt8)
 ·rw[if_pos h];simp only[aJ,aF,or_false]at h;rcases h with rfl|rfl|rfl|rfl|rfl|rfl|rfl|rfl|rfl|rfl|rfl|rfl|rfl<;>simp[xz,bX]
 ·rw[if_neg h,List.find?_eq_none];intro x hx;obtain⟨y,hy,rfl⟩:=List.mem_map.1 hx;simp only[bX,mi,beq_iff_eq];intro e;subst e;exact h hy
theorem As(c:UInt8):fK [c]=if c∈sf then some [c]else none:=by
 rw[← ve c []];unfold fK fI sf;simp[xz,bX]
theorem Ar{c d:UInt8}(r:List UInt8)(h:two c d=true):fK (c::d::r)=some [c,d]:=by
 simp only[two,fu,aT,beq_iff_eq]at h;rcases h with((⟨rfl,rfl⟩|⟨rfl,rfl⟩)|⟨rfl,rfl⟩)|⟨rfl,rfl⟩<;>simp[fK,fI,xz,bX]
theorem At{c d:UInt8}(r:List UInt8)(h:two c d=false):fK (c::d::r)=if c∈sf then some [c]else none:=by
 rw[← ve c (d::r)];simp only[two,ky,oN,beq_eq_false_iff_ne]at h;obtain⟨⟨⟨h1,h2⟩,h3⟩,h4⟩:=h
 have p:∀x y:UInt8,(c≠x∨d≠y)->¬ ([x,y].isPrefixOf (c::d::r)=true):=λx y h=>by
  simp only[bX,mi,aT,beq_iff_eq];rintro⟨rfl,rfl⟩;rcases h with h|h<;>exact h rfl
 unfold fK fI sf;rw[jN (p:=λx:List UInt8=>x.isPrefixOf (c::d::r)) (p 60 62 h1),jN (p:=λx:List UInt8=>x.isPrefixOf (c::d::r)) (p 60 61 h2),jN (p:=λx:List UInt8=>x.isPrefixOf (c::d::r)) (p 62 61 h3),jN (p:=λx:List UInt8=>x.isPrefixOf (c::d::r)) (p 124 124 h4)];rfl
end P11
namespace Go.Proofs.YtkpmclddjkebeaaGreatDoor
open Go.RowKit Go.Maps
theorem wY(s:ByteArray)(a:Nat)(h:a+1<s.size):(s.extract a (a+2)).toList = [s[a],s[a+1]]:=by
 rw[Lib.toList_data,fT,drop_at s a av,drop_at s (a+1) h,show a+2-a=2 by omega];rfl
theorem IJ(s:ByteArray)(a:Nat)(h:a<s.size):s.extract a (a+1)=⟨[s[a]].toArray⟩:=by
 apply gp;rw[fT,drop_at s a h,show a+1-a=1 by omega];rfl
theorem FV(s:ByteArray)(a:Nat)(h:a+1<s.size):s.extract a (a+2)=⟨[s[a],s[a+1]].toArray⟩:=by
 apply gp;rw[fT,drop_at s a av,drop_at s (a+1) h,show a+2-a=2 by omega];rfl
theorem GX{a b:ByteArray}(h:a=b):cm (.string a) = .returned (.string b):=by rw[h]
theorem ye(s:ByteArray)(a:Nat)(ha:a+1<s.size)(hs:s.size≤1000000)(h2:P11.two s[a] s[a+1]=true)(w:World):
  Calls af 83 #[.string s,.int .i64 a] w λe w'=>e = .returned (.string ⟨[s[a],s[a+1]].toArray⟩)/\w=w':=by
 have a2:(a:Int)+1<(s.size:Int):=av;have hx:=wY s a ha;have hy:=FV s a ha;have HY:=aa hy;clear hy;simp only[P11.two,fu,aT,beq_iff_eq]at h2;rcases h2 with((⟨e1,e2⟩|⟨e1,e2⟩)|⟨e1,e2⟩)|⟨e1,e2⟩
 all_goals
  rw[e1,e2]at hx HY;rw[e1,e2];clear e1 e2;go_enter Tryz.func83,Tryz.ntmps83;go_wp2;go_ret;exact⟨GX HY.out,rfl⟩
def AJ(c:UInt8):ByteArray:=if c∈P11.sf then⟨[c].toArray⟩else⟨#[]⟩
theorem yf(s:ByteArray)(a:Nat)(ha:a<s.size)(hs:s.size≤1000000)(h2:∀h:a+1<s.size,P11.two s[a] s[a+1]=false)(w:World):
  Calls af 83 #[.string s,.int .i64 a] w λe w'=>e = .returned (.string (AJ s[a]))/\w=w':=by
 have hy:=IJ s a ha;have c8:(s[a].toNat:Int)<256:=by have:=s[a].toNat_lt;omega
 by_cases hm:s[a]∈P11.sf
 ·have HR:Hid (AJ s[a]=s.extract a (a+1)):=aa (by rw[AJ,if_pos hm,hy]);clear hy;unfold P11.sf at hm;simp only[aJ,aF,or_false]at hm;by_cases ha2:a+1<s.size
  ·have a2:(a:Int)+1<(s.size:Int):=av;have hx:=wY s a ha2;have h3:=h2 ha2;simp only[P11.two,ky,oN,beq_eq_false_iff_ne]at h3
   have p:∀x y:UInt8,(s[a]≠x∨s[a+1]≠y)->¬ (s.extract a (a+2)).toList = [x,y]/\((s.extract a (a+2)).toList == [x,y])=false:=λx y h=>by
    have:¬ (s.extract a (a+2)).toList = [x,y]:=by
     rw[hx];intro e;simp only[List.cons.injEq,and_true]at e;rcases h with h|h
     ·exact h e.1
     ·exact h e.2
    exact⟨this,by simpa using this⟩
   obtain⟨p1,q1⟩:=p 60 62 h3.1.1.1;obtain⟨p2,q2⟩:=p 60 61 h3.1.1.2;obtain⟨p3,q3⟩:=p 62 61 h3.1.2;obtain⟨p4,q4⟩:=p 124 124 h3.2;clear h3 p hx h2;rcases hm with hc|hc|hc|hc|hc|hc|hc|hc|hc|hc|hc|hc|hc
   all_goals
    have hv:(s[a].toNat:Int)=_:=congrArg (λc:UInt8=>(c.toNat:Int)) hc;clear hc;go_enter Tryz.func83,Tryz.ntmps83;go_wp2;go_ret;exact⟨by rw[HR.out];rfl,rfl⟩
  ·have a2:¬ (a:Int)+1<(s.size:Int):=av;have a3:(a:Int)+1≤(s.size:Int):=av;clear h2;rcases hm with hc|hc|hc|hc|hc|hc|hc|hc|hc|hc|hc|hc|hc
   all_goals
    have hv:(s[a].toNat:Int)=_:=congrArg (λc:UInt8=>(c.toNat:Int)) hc;clear hc;go_enter Tryz.func83,Tryz.ntmps83;go_wp2;go_ret;exact⟨by rw[HR.out];rfl,rfl⟩
 ·have HR:Hid (AJ s[a]=⟨#[]⟩):=aa (by rw[AJ,if_neg hm]);clear hy;have n40:((s[a].toNat:Int)==40)=false:=dn (d:=40) (λe=>hm (by rw[e];decide)) 40 rfl;have n41:((s[a].toNat:Int)==41)=false:=dn (d:=41) (λe=>hm (by rw[e];decide)) 41 rfl;have n44:((s[a].toNat:Int)==44)=false:=dn (d:=44) (λe=>hm (by rw[e];decide)) 44 rfl;have n46:((s[a].toNat:Int)==46)=false:=dn (d:=46) (λe=>hm (by rw[e];decide)) 46 rfl;have n42:((s[a].toNat:Int)==42)=false:=dn (d:=42) (λe=>hm (by rw[e];decide)) 42 rfl;have n61:((s[a].toNat:Int)==61)=false:=dn (d:=61) (λe=>hm (by rw[e];decide)) 61 rfl
  have n60:((s[a].toNat:Int)==60)=false:=dn (d:=60) (λe=>hm (by rw[e];decide)) 60 rfl;have n62:((s[a].toNat:Int)==62)=false:=dn (d:=62) (λe=>hm (by rw[e];decide)) 62 rfl;have n43:((s[a].toNat:Int)==43)=false:=dn (d:=43) (λe=>hm (by rw[e];decide)) 43 rfl;have n45:((s[a].toNat:Int)==45)=false:=dn (d:=45) (λe=>hm (by rw[e];decide)) 45 rfl;have n47:((s[a].toNat:Int)==47)=false:=dn (d:=47) (λe=>hm (by rw[e];decide)) 47 rfl;have n37:((s[a].toNat:Int)==37)=false:=dn (d:=37) (λe=>hm (by rw[e];decide)) 37 rfl;have n59:((s[a].toNat:Int)==59)=false:=dn (d:=59) (λe=>hm (by rw[e];decide)) 59 rfl;clear hm
  by_cases ha2:a+1<s.size
  ·have a2:(a:Int)+1<(s.size:Int):=av;have hx:=wY s a ha2;have h3:=h2 ha2;simp only[P11.two,ky,oN,beq_eq_false_iff_ne]at h3
   have p:∀x y:UInt8,(s[a]≠x∨s[a+1]≠y)->¬ (s.extract a (a+2)).toList = [x,y]/\((s.extract a (a+2)).toList == [x,y])=false:=λx y h=>by
    have:¬ (s.extract a (a+2)).toList = [x,y]:=by
     rw[hx];intro e;simp only[List.cons.injEq,and_true]at e;rcases h with h|h
     ·exact h e.1
     ·exact h e.2
    exact⟨this,by simpa using this⟩
   obtain⟨p1,q1⟩:=p 60 62 h3.1.1.1;obtain⟨p2,q2⟩:=p 60 61 h3.1.1.2;obtain⟨p3,q3⟩:=p 62 61 h3.1.2;obtain⟨p4,q4⟩:=p 124 124 h3.2;clear h3 p hx h2;go_enter Tryz.func83,Tryz.ntmps83;go_wp2;go_ret;exact⟨by rw[HR.out];rfl,rfl⟩
  ·have a2:¬ (a:Int)+1<(s.size:Int):=av;clear h2;go_enter Tryz.func83,Tryz.ntmps83;go_wp2;go_ret;exact⟨by rw[HR.out];rfl,rfl⟩
end Go.Proofs.YtkpmclddjkebeaaGreatDoor
