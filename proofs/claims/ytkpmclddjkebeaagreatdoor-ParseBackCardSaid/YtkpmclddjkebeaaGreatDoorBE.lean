/- What the claim's proof leans on, part 5: walks of functions and plain laws. -/
import Derived.Test.YtkpmclddjkebeaaGreatDoorBC
import Derived.Test.YtkpmclddjkebeaaGreatDoorBA
import Derived.WalkSpells
import Derived.Outline
import Derived.WalkLawsBesides
import Derived.Lib.IndexLaws
import Derived.Lib.IndexBytes
import Derived.Maps.OwnSet
import Derived.Maps.Views
import Derived.ScopeJumps
import Derived.WalkMore
set_option linter.unusedSimpArgs false
set_option linter.unusedVariables false
set_option maxRecDepth 100000
set_option maxHeartbeats 8000000
open Array renaming append_assoc→mv,getElem?_eq_some_iff→ae,getElem?_toList→ib
open Bool renaming and_eq_true→aq,eq_iff_iff→kX,false_eq_true→aV,not_eq_true'→dF,or_eq_false_iff→kZ
open Exists renaming intro→ai
open Go.Addr renaming add→zi
open Go.Ending renaming returned→aP
open Go.Exit renaming inBlock→gF
open Go.IntWalk renaming i64_in→pn
open Go.Lib renaming extract_data→nw,hid→aa,indexByte→qI,lowerB→qH,toUpperA→iB,upperB→qG
open Go.Proofs.Tryz renaming f17→cZ,prog→ab,underlying112→rF,underlying61→jv,underlying9→fy
open Go.RowKit.Below renaming refl→aj
open Go.Sort renaming grow→nr
open Go.Value renaming int→jF,string→bp
open Go.World renaming block_lt_of_cell?→al,cell?→ak,cell?_alloc_mark→jM,cell?_of_block→vl,ownsMap_made→uf,ownsRow_nil→gL,size_alloc→af,size_setCell→aQ
open Go renaming bodyPost_ret→aO,info_parts→ue,step_scope→pQ
open List renaming all_eq_true→bA,append_nil→zg,cons_append→aL,dropWhile→wE,drop_drop→ir,drop_eq_getElem_cons→fM,drop_of_length_le→nX,drop_succ_cons→aG,drop_zero→aT,getElem?_eq_getElem→aU,getElem?_eq_some_iff→cP,getElem?_map→jc,getElem?_take→fp,isPrefixOf→cL,length_append→aB,length_cons→aK,length_singleton→cU,map_append→iS,map_cons→fX,mem_cons→aI,mem_cons_of_mem→cO,mem_cons_self→cy,mem_map→DL,mem_of_getElem?→rC,nil_append→bM,not_mem_nil→aC,size_toArray→ar,takeWhile→cX,takeWhile_prefix→im,take_succ_cons→aA,take_zero→aS
open Nat renaming le_refl→ag,lt_of_lt_of_le→aD,strongRecOn→Bf,zero_add→fe,zero_le→fP
open Option.some renaming inj→lP
open UInt8 renaming le_iff_toNat_le→eT,toNat_inj→ph
namespace Go.Proofs.YtkpmclddjkebeaaGreatDoor
open Go.RowKit
theorem Au(c:UInt8):P11.dm c=decide ((97≤(c.toNat:Int)/\(c.toNat:Int)≤122)∨(65≤(c.toNat:Int)/\(c.toNat:Int)≤90)∨(c.toNat:Int)=95):=by
 rw[kX];simp[P11.dm,eT,← ph];omega
theorem Dm(c:UInt8):P11.digit c=decide (48≤(c.toNat:Int)/\(c.toNat:Int)≤57):=by
 rw[kX];simp[P11.digit,eT];omega
theorem sO{a b:Bool}(h:a=b):aP (.bool a) = .returned (.bool b):=by rw[h]
theorem kH(c:UInt8)(w:World):Calls ab 58 #[.int .i32 c.toNat] w λe w'=>e = .returned (.bool (P11.dm c))/\w=w':=by
 have hl:=Au c;have h2:(c.toNat:Int)<256:=by have:=c.toNat_lt;omega
 have HL:=aa hl;clear hl;go_enter Tryz.func58,Tryz.ntmps58;go_wp2
 all_goals
  go_ret;refine⟨sO ?_,rfl⟩;rw[HL.out,kX];simp;try omega
theorem ml(c:UInt8)(w:World):Calls ab 61 #[.int .i32 c.toNat] w λe w'=>e = .returned (.bool (P11.digit c))/\w=w':=by
 have hl:=Dm c;have h2:(c.toNat:Int)<256:=by have:=c.toNat_lt;omega
 have HL:=aa hl;clear hl;go_enter Tryz.func61,Tryz.ntmps61;go_wp2
 all_goals
  go_ret;refine⟨sO ?_,rfl⟩;rw[HL.out,kX];simp;try omega
theorem DB(c:UInt8)(w:World):Calls ab 60 #[.int .i32 c.toNat] w λe w'=>e = .returned (.bool (P11.dq c))/\w=w':=by
 have h1:=λw=>kH c w;have h2:=λw=>ml c w
 cases hl:P11.dm c
 all_goals
  rw[hl]at h1;have HA:Hid (P11.dq c=(_||P11.digit c)):=aa (by rw[P11.dq,hl]);have H1:=aa h1;have H2:=aa h2;clear h1 h2 hl;go_enter Tryz.func60,Tryz.ntmps60;go_wp2_with (first|(go_at_call 58;(with_reducible refine(H1.out _).mono ?_);rintro e w' ⟨rfl,rfl⟩)|(go_at_call 61;(with_reducible refine(H2.out _).mono ?_);rintro e w' ⟨rfl,rfl⟩));go_ret;refine⟨sO ?_,rfl⟩;rw[HA.out];simp
theorem sr(p:UInt8->Bool)(l:List UInt8)(a k:Nat)(h1:a≤k)(h2:k≤l.length)(h3:∀j (h:j<l.length),a≤j->j<k->p l[j]=true)(h4:∀h:k<l.length,p l[k]=false):k=a+((l.drop a).takeWhile p).length:=by
 induction h:k-a generalizing a with
 | zero=>
  obtain rfl:k=a:=by omega
  by_cases hk:k<l.length
  ·rw[fM hk,cX,h4 hk];rfl
  ·rw[nX (by omega)];rfl
 | succ n ih=>
  have ha:a<l.length:=by omega
  rw[fM ha,cX,h3 a ha (ag _) (by omega)];have:=ih (a+1) (by omega) (λj hj h5 h6=>h3 j hj (by omega) h6) (by omega);simp only[aK];omega
theorem Cu(s:ByteArray)(a:Nat)(ha:a≤s.size)(hs:s.size≤1000000)(w:World):
  Calls ab 59 #[.string s,.int .i64 a,.func (.func 60) #[] #[]] w λe w'=>e = .returned (.int .i64 (a+((s.data.toList.drop a).takeWhile P11.dq).length:Nat))/\w=w':=by
 have HA:=aa ha;clear ha;go_enter Tryz.func59,Tryz.ntmps59;go_wp2;go_loop [7] (λx=>∃k:Nat,a≤k/\k≤s.size/\x = .int .i64 k/\Hid (∀j (h:j<s.data.toList.length),a≤j->j<k->P11.dq s.data.toList[j]=true)) (λx=>s.size-(intOf x).toNat)
 case atStart=>exact⟨a,ag _,HA.out,rfl,aa λj h h1 h2=>by omega⟩
 case round=>
  obtain⟨k,h1,h2,rfl,H3⟩:=hrel;by_cases hlt:k<s.size
  ·have hb8:(s[k].toNat:Int)<256:=by have:=s[k].toNat_lt;omega
   have hb:∀w,Calls ab 60 #[.int .i32 s[k].toNat] w λe w'=>e = .returned (.bool (P11.dq s[k]))/\w=w':=λw=>DB s[k] w
   cases hp:P11.dq s[k]
   ·rw[hp]at hb;have HB:=aa hb;have HP:=aa hp;clear hb hp;go_wp2_with (go_at_call 60;(with_reducible refine(HB.out _).mono ?_);rintro e w' ⟨rfl,rfl⟩);go_ret;exact⟨congrArg (λn:Nat=>aP (.int .i64 n)) (sr _ _ _ _ h1 h2 H3.out λ_=>HP.out),rfl⟩
   ·rw[hp]at hb;have HB:=aa hb;have HP:=aa hp;clear hb hp;go_wp2_with (go_at_call 60;(with_reducible refine(HB.out _).mono ?_);rintro e w' ⟨rfl,rfl⟩);go_round
    case rel=>exact⟨k+1,by omega,by omega,by go_num,aa λj h h5 h6=>by
     by_cases hjk:j=k
     ·subst hjk;exact HP.out
     ·exact H3.out j h h5 (by omega)⟩
    case measure=>simp[intOf];omega
  ·go_wp2;go_ret;exact⟨congrArg (λn:Nat=>aP (.int .i64 n)) (sr _ _ _ _ h1 h2 H3.out λh=>absurd h hlt),rfl⟩
theorem Ct(s:ByteArray)(a:Nat)(ha:a≤s.size)(hs:s.size≤1000000)(w:World):
  Calls ab 59 #[.string s,.int .i64 a,.func (.func 61) #[] #[]] w λe w'=>e = .returned (.int .i64 (a+((s.data.toList.drop a).takeWhile P11.digit).length:Nat))/\w=w':=by
 have HA:=aa ha;clear ha;go_enter Tryz.func59,Tryz.ntmps59;go_wp2;go_loop [7] (λx=>∃k:Nat,a≤k/\k≤s.size/\x = .int .i64 k/\Hid (∀j (h:j<s.data.toList.length),a≤j->j<k->P11.digit s.data.toList[j]=true)) (λx=>s.size-(intOf x).toNat)
 case atStart=>exact⟨a,ag _,HA.out,rfl,aa λj h h1 h2=>by omega⟩
 case round=>
  obtain⟨k,h1,h2,rfl,H3⟩:=hrel;by_cases hlt:k<s.size
  ·have hb8:(s[k].toNat:Int)<256:=by have:=s[k].toNat_lt;omega
   have hb:∀w,Calls ab 61 #[.int .i32 s[k].toNat] w λe w'=>e = .returned (.bool (P11.digit s[k]))/\w=w':=λw=>ml s[k] w
   cases hp:P11.digit s[k]
   ·rw[hp]at hb;have HB:=aa hb;have HP:=aa hp;clear hb hp;go_wp2_with (go_at_call 61;(with_reducible refine(HB.out _).mono ?_);rintro e w' ⟨rfl,rfl⟩);go_ret;exact⟨congrArg (λn:Nat=>aP (.int .i64 n)) (sr _ _ _ _ h1 h2 H3.out λ_=>HP.out),rfl⟩
   ·rw[hp]at hb;have HB:=aa hb;have HP:=aa hp;clear hb hp;go_wp2_with (go_at_call 61;(with_reducible refine(HB.out _).mono ?_);rintro e w' ⟨rfl,rfl⟩);go_round
    case rel=>exact⟨k+1,by omega,by omega,by go_num,aa λj h h5 h6=>by
     by_cases hjk:j=k
     ·subst hjk;exact HP.out
     ·exact H3.out j h h5 (by omega)⟩
    case measure=>simp[intOf];omega
  ·go_wp2;go_ret;exact⟨congrArg (λn:Nat=>aP (.int .i64 n)) (sr _ _ _ _ h1 h2 H3.out λh=>absurd h hlt),rfl⟩
end Go.Proofs.YtkpmclddjkebeaaGreatDoor
namespace P11
theorem rM:∀r:List UInt8,39∉r->cR r=none
 | [],_=>rfl
 | c::r,h=>by
  rw[qO c r (λe=>h (by rw[e];exact cy ..)),rM r (λm=>h (cO _ m))];rfl
theorem rL(r2:List UInt8):∀r1:List UInt8,39∉r1->cR (r1++39::r2)=(cR (39::r2)).map λy=>(r1++y.1,y.2+r1.length)
 | [],_=>by simp
 | c::r1,h=>by
  rw[aL,qO c _ (λe=>h (by rw[e];exact cy ..)),rL r2 r1 (λm=>h (cO _ m))]
  cases cR (39::r2)with
  | none=>rfl
  | some y=>simp;omega
open Go.Lib (indexByte)
theorem lp(c:UInt8):∀r:List UInt8,(indexByte r c = -1/\c∉r)∨∃n:Nat,indexByte r c=n/\n<r.length/\c∉r.take n/\r.drop n=c::r.drop (n+1)
 | []=> .inl ⟨rfl,by simp⟩
 | b::r=>by
  rw[indexByte];by_cases hb:b=c
  ·subst hb;exact .inr ⟨0,by simp,by simp,by simp,rfl⟩
  ·rw[if_neg (by simpa using hb)];rcases lp c r with⟨h1,h2⟩|⟨n,h1,h2,h3,h4⟩
   ·exact .inl ⟨by rw[h1];rfl,by simp only[aI,not_or];exact⟨λe=>hb e.symm,h2⟩⟩
   ·refine .inr ⟨n+1,?_,by simp;omega,?_,?_⟩
    ·rw[h1,if_neg (by simp)];rfl
    ·rw[aA];simp only[aI,not_or];exact⟨λe=>hb e.symm,h3⟩
    ·rw[aG,aG];exact h4
end P11
namespace Go.Proofs.YtkpmclddjkebeaaGreatDoor
open Go.RowKit
theorem vR(s:ByteArray)(a:Nat)(c:UInt8)(k v:Int)(hk:k.toNat.toUInt8=c)(h:qI (s.data.toList.drop a) c=v)(w:World):
  Calls ab 67 #[.string (s.extract a s.size),.int .u8 k] w λe w'=>e = .returned (.int .i64 v)/\w=w':=by
 refine(Tryz.strings_IndexByte _ _ _).mono ?_;rintro e w' ⟨rfl,rfl⟩;refine⟨?_,rfl⟩;rw[Lib.extract_to_end,← h,hk]
def sE(a:Nat):Option (List UInt8×Nat)->Value
 | none => .tuple #[.int .i64 0,.string ⟨#[]⟩,.bool false]
 | some x => .tuple #[.int .i64 ((a+1+x.2:Nat):Int),.string ⟨x.1.toArray⟩,.bool true]
theorem yR(t:List UInt8)(s:ByteArray)(a b:Nat):(⟨t.toArray⟩:ByteArray)++s.extract a b=⟨(t++(s.data.toList.drop a).take (b-a)).toArray⟩:=by
 have h:∀x y:ByteArray,x.data.toList=y.data.toList->x=y:=λ⟨x⟩ ⟨y⟩ h=>by
  simp at h;rw[h]
 apply h;simp only[ByteArray.data_append,Array.toList_append,nw]
theorem D2(s:ByteArray)(a:Nat)(ha:a<s.size)(hs:s.size≤1000000)(w:World):
  Calls ab 68 #[.string s,.int .i64 a] w λe w'=>e = .returned (sE a (P11.cR (s.data.toList.drop (a+1))))/\w=w':=by
 have HA:=aa ha;clear ha;go_enter Tryz.func68,Tryz.ntmps68;go_wp2;go_loop [1,7] (λx o=>∃ (b:Nat) (t:List UInt8),a≤b/\b<s.size/\t.length≤b/\x = .int .i64 b/\o = .string ⟨t.toArray⟩/\Hid (P11.cR (s.data.toList.drop (a+1))=(P11.cR (s.data.toList.drop (b+1))).map λy=>(t++y.1,y.2+(b-a)))) (λx _=>s.size-(intOf x).toNat)
 case atStart=>exact⟨a,[],ag _,HA.out,fP _,rfl,rfl,aa (by cases P11.cR (s.data.toList.drop (a+1))<;>simp)⟩
 case round=>
  obtain⟨b,t,h1,h2,ht,rfl,rfl,HT⟩:=hrel;rcases P11.lp 39 (s.data.toList.drop (b+1))with⟨e1,e2⟩|⟨n,e1,e2,e3,e4⟩
  ·have HX:=aa (λw=>vR s (b+1) 39 39 _ rfl e1 w);have HN:Hid (P11.cR (s.data.toList.drop (a+1))=none):=aa (by rw[HT.out,P11.rM _ e2];rfl);clear e1 e2;go_wp2_with (go_at_call 67;(with_reducible refine(HX.out _).mono ?_);rintro e w' ⟨rfl,rfl⟩);go_ret3;exact⟨by rw[HN.out];rfl,rfl⟩
  ·have HX:=aa (λw=>vR s (b+1) 39 39 _ rfl e1 w);have h3:b+1+n<s.size:=by simp at e2;omega
   have e5:s.data.toList.drop (b+1)=(s.data.toList.drop (b+1)).take n++39::s.data.toList.drop (b+n+2):=by
    have:=List.take_append_drop n (s.data.toList.drop (b+1));rw[e4,ir]at this;rw[show b+n+2=b+1+(n+1) by omega];exact this.symm
   have e6:((s.data.toList.drop (b+1)).take n).length=n:=by simp at e2 ⊢;omega
   have e7:P11.cR (s.data.toList.drop (b+1))=(P11.cR (39::s.data.toList.drop (b+n+2))).map λy=>((s.data.toList.drop (b+1)).take n++y.1,y.2+n):=by
    have:=P11.rL (s.data.toList.drop (b+n+2)) _ e3;rw[e6]at this;rw[← this,← e5]
   have e8:=yR t s (b+1) (b+1+n);rw[Nat.add_sub_cancel_left]at e8;have H8:=aa e8;have H7:=aa e7;clear e1 e2 e3 e4 e5 e6 e7 e8;by_cases hz:b+n+2=s.size
   ·have HN:Hid (sE a (P11.cR (s.data.toList.drop (a+1))) = .tuple #[.int .i64 s.size,.string (⟨t.toArray⟩++s.extract (b+1) (b+1+n)),.bool true]):=aa (by
     rw[HT.out,H7.out,hz,nX (ag s.size),H8.out];rw[P11.sF [] (by decide)];simp only[Option.map_some,sE,zg];rw[show a+1+(1+n+(b-a))=s.size by omega])
    have hz1:(b:Int)+((n:Int)+2)=(s.size:Int):=by omega
    have Hz:=aa hz;clear hz H7 H8;go_wp2_with (go_at_call 67;(with_reducible refine(HX.out _).mono ?_);rintro e w' ⟨rfl,rfl⟩);go_ret3;exact⟨by rw[HN.out];rfl,rfl⟩
   ·have hz1:((b:Int)+((n:Int)+2)==(s.size:Int))=false:=by rw[beq_eq_false_iff_ne];omega
    have hz2:(b:Int)+((n:Int)+2)<(s.size:Int):=by omega
    have h4:b+n+2<s.size:=by omega
    have h4:b+(n+2)<s.size:=by omega
    by_cases hc:s[b+(n+2)]=39
    ·have hc1:((s[b+(n+2)].toNat:Int)==39)=true:=by rw[hc];rfl
     have hc2:((s[b+(n+2)].toNat:Int) !=39)=false:=by rw[bne,hc1];rfl
     have e9:s.data.toList.drop (b+n+2)=39::s.data.toList.drop (b+n+2+1):=by
      rw[fM (show b+n+2<s.data.toList.length from by show b+n+2<s.size;omega)];congr 1
     have HN:Hid (P11.cR (s.data.toList.drop (a+1))=(P11.cR (s.data.toList.drop (b+n+2+1))).map λy=>(t++(s.data.toList.drop (b+1)).take n ++ [39]++y.1,y.2+(b+n+2-a))):=aa (by
      rw[HT.out,H7.out,e9,P11.uv]
      cases P11.cR (s.data.toList.drop (b+n+2+1))with
      | none=>rfl
      | some y=>simp;omega)
     have e10:(⟨t.toArray⟩++s.extract (b+1) (b+1+n)++⟨#[39]⟩:ByteArray)=⟨(t++(s.data.toList.drop (b+1)).take n ++ [39]).toArray⟩:=by
      rw[H8.out]
      have h:∀x y:ByteArray,x.data.toList=y.data.toList->x=y:=λ⟨x⟩ ⟨y⟩ h=>by
       simp at h;rw[h]
      apply h;simp[ByteArray.data_append]
     have H10:=aa e10
     have hl:(t++(s.data.toList.drop (b+1)).take n ++ [39]).length≤b+n+2:=by
      have:=List.length_take_le n (s.data.toList.drop (b+1));simp only[aB,cU];omega
     have HL:=aa hl;clear hc e9 e10 hl H7 H8 HT;go_wp2_with (go_at_call 67;(with_reducible refine(HX.out _).mono ?_);rintro e w' ⟨rfl,rfl⟩);go_round
     case rel=>exact⟨b+n+2,_,by omega,by omega,HL.out,by go_num,congrArg bp H10.out,HN⟩
     case measure=>simp[intOf];omega
    ·have hc1:((s[b+(n+2)].toNat:Int)==39)=false:=by
      rw[beq_eq_false_iff_ne];intro h;exact hc (ph.1 (by rw[show(39:UInt8).toNat=39 from rfl];omega))
     have hc2:((s[b+(n+2)].toNat:Int) !=39)=true:=by rw[bne,hc1];rfl
     have HN:Hid (sE a (P11.cR (s.data.toList.drop (a+1))) = .tuple #[.int .i64 (b+(n+2)),.string (⟨t.toArray⟩++s.extract (b+1) (b+1+n)),.bool true]):=aa (by
      have hb:(s.data.toList.drop (b+n+2)).head?≠some 39:=by
       rw[List.head?_drop,aU (show b+n+2<s.data.toList.length from by show b+n+2<s.size;omega)];intro h;exact hc (lP h)
      rw[HT.out,H7.out,H8.out,P11.sF _ hb];simp only[Option.map_some,sE,zg];rw[show((a+1+(1+n+(b-a)):Nat):Int)=b+(n+2) by omega])
     clear hc H7 H8 HT;go_wp2_with (go_at_call 67;(with_reducible refine(HX.out _).mono ?_);rintro e w' ⟨rfl,rfl⟩);go_ret3;exact⟨by rw[HN.out];rfl,rfl⟩
end Go.Proofs.YtkpmclddjkebeaaGreatDoor
namespace Go.Proofs.YtkpmclddjkebeaaGreatDoor
open Go.RowKit Go.Maps
def ja(w:World)(v:Value)(l:List (List UInt8)):Prop:=
 ∃b off cap,v = .slice (some ⟨b,off,none⟩) l.length cap/\∀ (j:Nat) (x:List UInt8),l[j]?=some x->w.cell? ⟨b,off+j,none⟩=some (.string ⟨x.toArray⟩)
theorem ja.ext{w w':World}{v:Value}{l:List (List UInt8)}(h:ja w v l)(hx:Xk.Ext w w'):ja w' v l:=by
 obtain⟨b,off,cap,hv,hl⟩:=h;exact⟨b,off,cap,hv,λj x hj=>Xk.bn hx (hl j x hj)⟩
theorem ja.new(w:World)(l:List (List UInt8))(C:Array Value)(t:TypeId)(n:Nat)(hn:l.length=n)(h:C.toList=l.map λx=>bp ⟨x.toArray⟩):ja (w.alloc (.cells C t)) (.slice (some ⟨w.heap.size,0,none⟩) n n) l:=by
 refine⟨w.heap.size,0,n,by rw[hn],λj x hj=>?_⟩;rw[jM];simp only[fe];rw[← ib,h,jc,hj];rfl
theorem oq(w:World):Calls ab 65 #[] w λe w'=>∃v,e = .returned v/\ja w' v P11.ga/\Below w.heap.size w w':=by
 go_enter Tryz.func65,Tryz.ntmps65;go_wp2;go_ret;exact⟨_,rfl,ja.new w P11.ga _ _ 17 (by kernel_rfl) (by kernel_rfl),Xk.xt⟩
theorem mH(s p:ByteArray)(a:Nat)(w:World):Calls ab 57 #[.string (s.extract a s.size),.string p] w λe w'=>e = .returned (.bool (p.data.toList.isPrefixOf (s.data.toList.drop a)))/\w=w':=by
 refine(Tryz.strings_HasPrefix _ _ _).mono ?_;rintro e w' ⟨rfl,rfl⟩;refine⟨?_,rfl⟩;rw[Lib.hasPrefix,Lib.extract_to_end]
def nE(s:ByteArray)(a:Nat)(x:List UInt8):Bool:=x.isPrefixOf (s.data.toList.drop a)
theorem yQ(s:ByteArray)(a:Nat)(x:List UInt8)(bs ba:Nat)(w:World)(cs:w.cell? ⟨bs,0,none⟩=some (.string s))(ca:w.cell? ⟨ba,0,none⟩=some (.int .i64 a))(ha:a≤s.size)(hs:s.size≤1000000):
  Calls ab 66 #[.string ⟨x.toArray⟩,.pointer (some ⟨bs,0,none⟩),.pointer (some ⟨ba,0,none⟩)] w λe w'=>e = .returned (.bool (nE s a x))/\w=w':=by
 have HP:=aa (λw=>mH s ⟨x.toArray⟩ a w);go_enter Tryz.func66,Tryz.ntmps66;go_wp2_with (go_at_call 57;(with_reducible refine(HP.out _).mono ?_);rintro e w' ⟨rfl,rfl⟩);go_ret;exact⟨rfl,rfl⟩
def fh(p:List UInt8->Bool):List (List UInt8)->Int
 | []=> -1
 | x::l=>if p x then 0 else if fh p l = -1 then -1 else fh p l+1
theorem pf{p:List UInt8->Bool}:∀ {l:List (List UInt8)} {q:Nat} {x:List UInt8},l[q]?=some x->p x=true->(∀j y,j<q->l[j]?=some y->p y=false)->fh p l=q
 | [],_,_,h,_,_=>by simp at h
 | y::l,0,x,h,hp,_=>by
  simp at h;subst h;rw[fh,if_pos hp];rfl
 | y::l,q+1,x,h,hp,hn=>by
  have:=pf (l:=l) (q:=q) (by simpa using h) hp (λj z hj hz=>hn (j+1) z (by omega) (by simpa using hz));rw[fh,if_neg (by rw[hn 0 y (by omega) rfl];decide),if_neg (by omega),this];rfl
theorem nR{p:List UInt8->Bool}:∀ {l:List (List UInt8)},(∀ (j:Nat) y,l[j]?=some y->p y=false)->fh p l = -1
 | [],_=>rfl
 | y::l,hn=>by
  have:=nR (l:=l) (λj z hz=>hn (j+1) z (by simpa using hz));rw[fh,if_neg (by rw[hn 0 y rfl];decide),if_pos this]
theorem kM{p:List UInt8->Bool}:∀l:List (List UInt8),(fh p l = -1/\l.find? p=none)∨∃ (q:Nat) (x:List UInt8),fh p l=q/\l[q]?=some x/\l.find? p=some x
 | []=> .inl ⟨rfl,rfl⟩
 | y::l=>by
  rw[fh,List.find?]
  cases hp:p y
  ·rw[if_neg (by decide)];rcases kM (p:=p) l with⟨h1,h2⟩|⟨q,x,h1,h2,h3⟩
   ·exact .inl ⟨by rw[if_pos h1],h2⟩
   ·exact .inr ⟨q+1,x,by rw[if_neg (by omega),h1];rfl,by simpa using h2,h3⟩
  ·exact .inr ⟨0,y,by rw[if_pos rfl];rfl,rfl,rfl⟩
theorem pb(s:ByteArray)(a:Nat)(v:Value)(l:List (List UInt8))(bs ba:Nat)(w:World)(hv:ja w v l)(hl:l.length≤1000)(cs:w.cell? ⟨bs,0,none⟩=some (.string s))(ca:w.cell? ⟨ba,0,none⟩=some (.int .i64 a))(ha:a≤s.size)(hs:s.size≤1000000):
  Calls ab 64 #[v,.func (.func 66) #[] #[.pointer (some ⟨bs,0,none⟩),.pointer (some ⟨ba,0,none⟩)]] w λe w'=>e = .returned (.int .i64 (fh (nE s a) l))/\w=w':=by
 obtain⟨b,off,cap,rfl,hc⟩:=hv;have HC:=aa hc;have HK:=aa (λx=>yQ s a x bs ba w cs ca ha hs);clear hc cs ca ha hs;go_enter Tryz.func64,Tryz.ntmps64;go_wp2;go_loop [5,8] (λ_ x=>∃q:Nat,q≤l.length/\x = .int .i64 q/\Hid (∀ (j:Nat) y,j<q->l[j]?=some y->nE s a y=false)) (λ_ x=>l.length-(intOf x).toNat)
 case atStart=>exact⟨0,fP _,rfl,aa λj y hj=>by omega⟩
 case round=>
  obtain⟨q,hq,rfl,HN⟩:=hrel;by_cases hlt:q<l.length
  ·have hx:l[q]?=some (l[q]'hlt):=aU _;have HX:=aa hx;have c1:=HC.out q _ hx;have hk:=HK.out (l[q]'hlt);clear hx;generalize l[q]'hlt=x at *
   cases hp:nE s a x
   ·rw[hp]at hk;have Hk:=aa hk;have HP:=aa hp;clear hk hp;go_wp2_with (go_at_call 66;(with_reducible refine(Hk.out).mono ?_);rintro e w' ⟨rfl,rfl⟩);go_round
    case rel=>exact⟨q+1,by omega,by go_num,aa λj y hj hy=>by
     by_cases hjq:j=q
     ·subst hjq;rw[HX.out]at hy;cases hy;exact HP.out
     ·exact HN.out j y (by omega) hy⟩
    case measure=>simp[intOf];omega
   ·rw[hp]at hk;have Hk:=aa hk;have HP:=aa hp;clear hk hp;go_wp2_with (go_at_call 66;(with_reducible refine(Hk.out).mono ?_);rintro e w' ⟨rfl,rfl⟩);go_ret;exact⟨congrArg (λn:Int=>aP (.int .i64 n)) (pf HX.out HP.out HN.out).symm,rfl⟩
  ·go_wp2;go_ret;exact⟨congrArg (λn:Int=>aP (.int .i64 n)) (nR λj y hy=>HN.out j y (by have:=(cP.1 hy).1;omega) hy).symm,rfl⟩
end Go.Proofs.YtkpmclddjkebeaaGreatDoor
namespace P11
def xk(n:Nat):Go.DataW Unit:=Go.Maps.setOf (.agg []) ((words.take n).map Go.Lit.string)
theorem yl(k:List UInt8):Go.Maps.has (xk 43) (.string k)=words.contains k:=by
 rw[xk,Go.Maps.has_setOf _ _ _ (λx hx=>by
  obtain⟨y,-,rfl⟩:=DL.1 hx;trivial),List.take_of_length_le (by decide)]
 rw[kX];simp[Go.Lit.sameKey]
def lE(w:List UInt8):Int×List UInt8:=if words.contains (w.map qG)then(2,w.map qG)else(1,w.map qH)
end P11
namespace Go.Proofs.YtkpmclddjkebeaaGreatDoor
open Go.RowKit Go.Maps
theorem uo(w:World)(p q:Regrown)(o:Obj):Xk.exw ((Xk.exw w p).alloc o) q=Xk.exw w ⟨q.d,p.os.push o++q.os⟩:=by
 simp[Xk.exw,nr,redrawn,World.alloc,mv]
attribute [local go_sem] uo
theorem Aw:Keyed ab 9:=string_keyed fy
theorem wJ(w:World):(zeroValue 114).run ab w = .ok (.agg #[]) w:=by kernel_rfl
def jE(w:World)(B n:Nat):Prop:=w.ownsMap ab 9 (unitElem (H:=Unit)) B n (P11.xk n)
theorem jE.ext{w w':World}{B n:Nat}(h:jE w B n)(hx:Xk.Ext w w'):jE w' B n:=by
 have:=h.lt;unfold jE World.ownsMap at *
 rw[hx.block B this];exact h
theorem yY(c:UInt8)(h:P11.dq c=true):c.toNat<128:=by
 have:=P11.zu (p:=P11.dq) (q:=λc=>decide (c.toNat<128)) (by decide +kernel) c h;simpa using this
theorem DP(s:ByteArray)(a:Int)(B:Nat)(w:World)(hw:jE w B 43)(hs:s.size≤1000000)(ha:s.data.toList.all P11.dq=true):
  Calls ab 62 #[.string s,.int .i64 a,.map (some B)] w λe w'=>e = .returned (.agg #[.int .i64 (P11.lE s.data.toList).1,.string ⟨(P11.lE s.data.toList).2.toArray⟩,.int .i64 a])/\Below w.heap.size w w':=by
 have hasc:∀ (j:Nat) (b:UInt8),s.data.toList[j]?=some b->b.toNat<128:=λj b hj=>yY b (bA.1 ha b (rC hj));have HU:=aa (λw=>Tryz.strings_ToUpper_ascii s w (by omega) hasc);have HL:=aa (λw=>Tryz.strings_ToLower_ascii s w (by omega) hasc);have hW:=λo p=>hw.ext ((((aj _ w).alloc (ag _) o)).trans ((Xk.cm (w.alloc o) p).mono (by simp)));have HW:=aa hW
 have hsz:(⟨(iB s.data.toList).toArray⟩:ByteArray).size≤maxLen:=by
  have:(⟨(iB s.data.toList).toArray⟩:ByteArray).size=s.size:=by
   show(iB s.data.toList).toArray.size=s.data.size
   simp[iB]
  unfold maxLen;omega
 have HK:=aa (Go.WideMaps.keyOf_string_mk fy hsz);clear hW hsz hw ha
 cases hc:P11.words.contains (s.data.toList.map qG)
 ·have hv:Maps.has (P11.xk 43) (.string (iB s.data.toList))=false:=(P11.yl _).trans hc;have HR:Hid (P11.lE s.data.toList=(1,Lib.toLowerA s.data.toList)):=aa (by unfold P11.lE;rw[hc];rfl);clear hc hasc;go_enter Tryz.func62,Tryz.ntmps62;go_wp2_with (first|(go_at_call 96;with_reducible refine Xk.cl (HU.out _) λp=>?_)|(go_at_call 125;with_reducible refine Xk.cl (HL.out _) λp=>?_)|(at_lookup;refine wpList_lookup_own_unit _ rfl _ _ 112 rfl 9 114 Aw rF (wJ _) B 43 _ rfl (HW.out _ _) _ _ rfl HK.out ?_));rw[HR.out]
  exact aO (v := .agg #[.int .i64 1,.string ⟨(Lib.toLowerA s.data.toList).toArray⟩,.int .i64 a]) (by simp[results,Tryz.results62,go_sem]) rfl ⟨rfl,Xk.xt⟩
 ·have hv:Maps.has (P11.xk 43) (.string (iB s.data.toList))=true:=(P11.yl _).trans hc;have HR:Hid (P11.lE s.data.toList=(2,iB s.data.toList)):=aa (by unfold P11.lE;rw[hc];rfl);clear hc hasc;go_enter Tryz.func62,Tryz.ntmps62;go_wp2_with (first|(go_at_call 96;with_reducible refine Xk.cl (HU.out _) λp=>?_)|(go_at_call 125;with_reducible refine Xk.cl (HL.out _) λp=>?_)|(at_lookup;refine wpList_lookup_own_unit _ rfl _ _ 112 rfl 9 114 Aw rF (wJ _) B 43 _ rfl (HW.out _ _) _ _ rfl HK.out ?_));rw[HR.out]
  exact aO (v := .agg #[.int .i64 2,.string ⟨(iB s.data.toList).toArray⟩,.int .i64 a]) (by simp[results,Tryz.results62,go_sem]) rfl ⟨rfl,Xk.xt⟩
end Go.Proofs.YtkpmclddjkebeaaGreatDoor
namespace Go.Xk
open Go.RowKit
def jumps(J:Nat->Act->World->Prop)(Q:Exit->Act->World->Prop):Exit->Act->World->Prop
 | .goto l,a,w=>J l a w
 | e,a,w=>Q e a w
section
variable {J : Nat → Act → World → Prop} {Q : Exit → Act → World → Prop} {a : Act} {w : World}
@[go_sem] theorem gg(l:Nat):jumps J Q (.goto l) a w=J l a w:=rfl
@[go_sem] theorem IG:jumps J Q .normal a w=Q .normal a w:=rfl
@[go_sem] theorem Kd(id:Nat):jumps J Q (.exit id) a w=Q (.exit id) a w:=rfl
@[go_sem] theorem KO:jumps J Q .ret a w=Q .ret a w:=rfl
@[go_sem] theorem Jq(ch:List PanicEntry):jumps J Q (.panic ch) a w=Q (.panic ch) a w:=rfl
end
theorem sh{P:Program}{a:Act}{w:World}{Q:Exit->Act->World->Prop}{c:Code}(J:Nat->Nat->Act->World->Prop)
  (first:c.wp P (jumps (λl a w=>∃n,J n l a w) Q) a w)
  (pass:∀n l a w,J n l a w->∃rest,findLabel c l=some rest/\rest.wp P (jumps (λl' a' w'=>∃m,m<n/\J m l' a' w') Q) a w):(Code.scope c).wp P Q a w:=by
 intro b k cs
 have key:∀n l a w,J n l a w->∃rest e a' w',findLabel c l=some rest/\Q e a' w'/\Arrives P (lone (b.at a (.code rest :: .inScope c::k)) cs w) b k cs e a' w':=by
  intro n;induction n using Bf with
  | _ n ih=>
   intro l a w hJ;obtain⟨rest,hf,hw⟩:=pass n l a w hJ;obtain⟨e,a₁,w₁,hq,harr⟩:=hw b (.inScope c::k) cs;refine⟨rest,?_⟩
   cases e with
   | normal=>exact⟨.normal,a₁,w₁,hf,hq,Steps.trans harr (.one step_inScope)⟩
   | exit id=>exact⟨.exit id,a₁,w₁,hf,hq,λk' hk=>harr k' (by simp[exitTo,hk])⟩
   | goto l'=>
    obtain⟨m,hlt,hJ'⟩:=hq;obtain⟨rest₂,e₂,a₂,w₂,hf₂,hq₂,harr₂⟩:=ih m hlt l' a₁ w₁ hJ';exact⟨e₂,a₂,w₂,hf,hq₂,.of_steps (harr _ (by simp[gotoIn,hf₂])) harr₂⟩
   | ret=>exact⟨_,a₁,w₁,hf,hq,harr⟩
   | panic ch=>exact⟨_,a₁,w₁,hf,hq,harr⟩
   | outgrown=>exact⟨_,a₁,w₁,hf,hq,harr⟩
 obtain⟨e,a₁,w₁,hq,harr⟩:=first b (.inScope c::k) cs
 cases e with
 | normal=>exact⟨.normal,a₁,w₁,hq,.head pQ (Steps.trans harr (.one step_inScope))⟩
 | exit id=>exact⟨.exit id,a₁,w₁,hq,λk' hk => .head pQ (harr k' (by simp[exitTo,hk]))⟩
 | goto l'=>
  obtain⟨n,hJ'⟩:=hq;obtain⟨rest₂,e₂,a₂,w₂,hf₂,hq₂,harr₂⟩:=key n l' a₁ w₁ hJ';exact⟨e₂,a₂,w₂,hq₂,.of_steps (.head pQ (harr _ (by simp[gotoIn,hf₂]))) harr₂⟩
 | ret=>exact⟨_,a₁,w₁,hq,.of_steps (.one pQ) harr⟩
 | panic ch=>exact⟨_,a₁,w₁,hq,.of_steps (.one pQ) harr⟩
 | outgrown=>exact⟨_,a₁,w₁,hq,.of_steps (.one pQ) harr⟩
theorem xJ{w w':World}{base:Nat}{e:TypeId}{size:Nat}{v:Value}{n:Nat}{xs:List Value}(h:w.ownsRow base e size v n xs)(hx:Ext w w'):w'.ownsRow base e size v n xs:=by
 obtain⟨h1,h2⟩:=h;refine⟨h1,?_⟩;rcases h2 with h2|⟨g,cap,cur,hv,hb,hg,r⟩
 ·exact .inl h2
 ·exact .inr ⟨g,cap,cur,hv,hb,by rw[hx.block g (ae.1 hg).1];exact hg,r⟩
theorem kC{W:World}{d d':Nat}{os os':Array Obj}{base:Nat}{e:TypeId}{size:Nat}{v:Value}{n:Nat}{xs:List Value}(h:(exw W ⟨d,os⟩).ownsRow base e size v n xs):(exw W ⟨d',os++os'⟩).ownsRow base e size v n xs:=by
 rw[← jC W ⟨d,os⟩ ⟨d',os'⟩];exact xJ h (cm _ _)
theorem uJ{W:World}{p:Regrown}{d':Nat}{base:Nat}{e:TypeId}{size:Nat}{v:Value}{n:Nat}{xs:List Value}(h:(exw W p).ownsRow base e size v n xs):(exw W ⟨d',p.os⟩).ownsRow base e size v n xs:=by
 have:=kC (d:=p.d) (d':=d') (os:=p.os) (os' := #[]) h;simpa using this
theorem ke{w:World}{base:Nat}{e:TypeId}{size:Nat}{v:Value}{n:Nat}{xs:List Value}(h:w.ownsRow base e size v n xs)(o:Obj):(w.alloc o).ownsRow base e size v n xs:=h.alloc o
theorem jI{w:World}{base:Nat}{e:TypeId}{size:Nat}{v:Value}{n:Nat}{xs:List Value}(h:w.ownsRow base e size v n xs):(w.drew).ownsRow base e size v n xs:=h.drew
theorem ko{P:Program}{w0 w:World}{ops:Array Oper}{rest:List Oper}{o:Oper}{a:Act}{Q:Exit->Act->World->Prop}(hgd:o.guard=none)(s x:Operand)(t:TypeId)
  (ho:o.op = .call { callee := .builtin .append,args := #[s,x],argTypes := #[t,t] })
  (e:TypeId) (i:TypeInfo) (z:Value) (size bytes:Nat) (ht:P.underlying t=some (.slice e)) (hi:P.info? e=some i) (hz:i.zero=some z)
  (hsize:i.size=size) (hby:i.bytes=bytes) (hzs:z.cells.size=size) (hsz:0<size)
  (v:Value) (n:Nat) (xs:List Value) (hs:a.eval s=v) (hown:w.ownsRow w0.heap.size e size v n xs)
  (g goff m c:Nat) (news:List Value) (hx:a.eval x = .slice (some ⟨g,goff,none⟩) m c) (hl:news.length=m*size) (hnews0:∀j u,news[j]?=some u->w.cell? ⟨g,goff+j,none⟩=some u) (h1:∀u∈news,u.oneCell'=true)
  (hb:n≤1000000/\m≤1000000/\bytes≤1000) (hbel:Below w0.heap.size w0 w)
  (h:∀v' p,(exw w0 p).ownsRow w0.heap.size e size v' (n+m) (xs++news)->wpList P ops Q rest (a.put o.dst v') (exw w0 p)):wpList P ops Q (o::rest) a w:=by
 have hnews:∀j u,news[j]?=some u->w.cell? (zi ⟨g,goff,none⟩ j)=some u:=λj u hj=>by rw[addr_add];exact hnews0 j u hj
 have hm:(n+m)*bytes≤2000000*1000:=Nat.mul_le_mul (by omega) hb.2.2;refine wpList_append_own w hgd s x t ho w0.heap.size e i z size bytes ht hi hz hsize hby hzs hsz v n xs hs hown _ m c news hx hl hnews h1 (by unfold maxLen;omega) (by omega) hbel.size λv' w' ho' hg _=>?_;obtain⟨p,rfl⟩:=jO (hbel.grown hg hbel.size (rU hown));exact h v' p ho'
theorem rm{W:World}{g:Nat}{x y z:Value}{t:TypeId}(h:g=W.heap.size):∀ (j:Nat) u,[x,y,z][j]?=some u->(W.alloc (.cells #[x,y,z] t)).cell? ⟨g,0+j,none⟩=some u:=by
 subst h;intro j u hj;rw[jM];match j,hj with
 | 0,hj=>simpa using hj
 | 1,hj=>simpa using hj
 | 2,hj=>simpa using hj
end Go.Xk
namespace Go.Proofs.YtkpmclddjkebeaaGreatDoor
open Go.RowKit Go.Maps
theorem Tryz.qp:(ab.info? 72).map (λi=>(i.zero,i.size,i.bytes))=some (some (.agg #[.int .i64 0,.string ⟨#[]⟩,.int .i64 0]),3,32):=by kernel_rfl
def cq(l:List P11.Tok):List Value:=l.flatMap λt => [.int .i64 t.kind,.string ⟨t.text.toArray⟩,.int .i64 t.pos]
theorem iu(l:List P11.Tok)(t:P11.Tok):cq (l ++ [t])=cq l ++ [.int .i64 t.kind,.string ⟨t.text.toArray⟩,.int .i64 t.pos]:=by simp[cq]
theorem rK:∀ (l:List P11.Tok) (j:Nat) (t:P11.Tok),l[j]?=some t->(cq l)[j*3]?=some (.int .i64 t.kind)/\(cq l)[j*3+1]?=some (.string ⟨t.text.toArray⟩)/\(cq l)[j*3+2]?=some (.int .i64 t.pos)
 | [],_,_,h=>by simp at h
 | x::l,0,t,h=>by
  simp at h;subst h;exact⟨rfl,rfl,rfl⟩
 | x::l,j+1,t,h=>by
  obtain⟨h1,h2,h3⟩:=rK l j t (by simpa using h);have e:cq (x::l) = .int .i64 x.kind :: .string ⟨x.text.toArray⟩ :: .int .i64 x.pos::cq l:=rfl;rw[e,show(j+1)*3=j*3+1+1+1 by omega];exact⟨by simpa using h1,by simpa using h2,by simpa using h3⟩
def GC(w:World)(v:Value)(l:List P11.Tok):Prop:=
 ∃pa cap,v = .slice pa l.length cap/\∀ (j:Nat) (t:P11.Tok),l[j]?=some t->∃b off,pa=some ⟨b,off,none⟩/\
  w.cell? ⟨b,off+j*3,none⟩=some (.int .i64 t.kind)/\w.cell? ⟨b,off+j*3+1,none⟩=some (.string ⟨t.text.toArray⟩)/\w.cell? ⟨b,off+j*3+2,none⟩=some (.int .i64 t.pos)/\l.length≤cap
def fS(s:ByteArray)(w0:World)(e:Ending)(w':World):Prop:=
 Below w0.heap.size w0 w'/\((∃l v,P11.ff s.data.toList = .inl l/\e = .returned (.tuple #[v,.int .i64 0,.int .i64 0])/\GC w' v l)∨
  ∃ (a:Nat) (k:Int),P11.ff s.data.toList = .inr (a,k)/\e = .returned (.tuple #[.slice none 0 0,.int .i64 a,.int .i64 k]))
noncomputable def eD:Code:=match cZ.body with
 | some (.seq _ (.scope c))=>c
 | _ => .skip
def Fr(s:ByteArray)(bs B ba:Nat)(v:Value)(a:Act):Prop:=
 ∃f:Nat->Value,a = { tmps := #[.string s,.pointer (some ⟨bs,0,none⟩),f 2,f 3,f 4,.map (some B),f 6,f 7,v,.pointer (some ⟨ba,0,none⟩),f 10,f 11,f 12,f 13,f 14,f 15,f 16,f 17,f 18,f 19,f 20,f 21,f 22,f 23,f 24,f 25,f 26,f 27,f 28,f 29,f 30,f 31,f 32,f 33,f 34,f 35,f 36,f 37,f 38,f 39,f 40,f 41,f 42,f 43,f 44,f 45,f 46,f 47,f 48,f 49,f 50,f 51,f 52,f 53,f 54,f 55,f 56,f 57,f 58,f 59,f 60,f 61,f 62,f 63,f 64,f 65,f 66,f 67,f 68,f 69,f 70,f 71,f 72,f 73,f 74,f 75,f 76,f 77,f 78,f 79,f 80,f 81,f 82,f 83,f 84,f 85,f 86,f 87,f 88,f 89,f 90,f 91,f 92,f 93,f 94,f 95,f 96,f 97,f 98,f 99,f 100,f 101,f 102,f 103,f 104,f 105,f 106,f 107,f 108,f 109,f 110,f 111,f 112,f 113,f 114,f 115,f 116,f 117,f 118,f 119,f 120,f 121,f 122,f 123,f 124,f 125,f 126,f 127,f 128,f 129,f 130,f 131,f 132,f 133,f 134,f 135,f 136,f 137,f 138,f 139,f 140,f 141,f 142,f 143,f 144,f 145,f 146,f 147,f 148,f 149,f 150,f 151,f 152,f 153,f 154,f 155,f 156,f 157,f 158,f 159,f 160,f 161,f 162,f 163,f 164,f 165,f 166,f 167,f 168,f 169,f 170,f 171],defers := [] }
theorem Fr.of{s:ByteArray}{bs B ba:Nat}{v:Value}{a:Act}(h:a = { tmps := #[.string s,.pointer (some ⟨bs,0,none⟩),a.tmps.getD 2 undef,a.tmps.getD 3 undef,a.tmps.getD 4 undef,.map (some B),a.tmps.getD 6 undef,a.tmps.getD 7 undef,v,.pointer (some ⟨ba,0,none⟩),a.tmps.getD 10 undef,a.tmps.getD 11 undef,a.tmps.getD 12 undef,a.tmps.getD 13 undef,a.tmps.getD 14 undef,a.tmps.getD 15 undef,a.tmps.getD 16 undef,a.tmps.getD 17 undef,a.tmps.getD 18 undef,a.tmps.getD 19 undef,a.tmps.getD 20 undef,a.tmps.getD 21 undef,a.tmps.getD 22 undef,a.tmps.getD 23 undef,a.tmps.getD 24 undef,a.tmps.getD 25 undef,a.tmps.getD 26 undef,a.tmps.getD 27 undef,a.tmps.getD 28 undef,a.tmps.getD 29 undef,a.tmps.getD 30 undef,a.tmps.getD 31 undef,a.tmps.getD 32 undef,a.tmps.getD 33 undef,a.tmps.getD 34 undef,a.tmps.getD 35 undef,a.tmps.getD 36 undef,a.tmps.getD 37 undef,a.tmps.getD 38 undef,a.tmps.getD 39 undef,a.tmps.getD 40 undef,a.tmps.getD 41 undef,a.tmps.getD 42 undef,a.tmps.getD 43 undef,a.tmps.getD 44 undef,a.tmps.getD 45 undef,a.tmps.getD 46 undef,a.tmps.getD 47 undef,a.tmps.getD 48 undef,a.tmps.getD 49 undef,a.tmps.getD 50 undef,a.tmps.getD 51 undef,a.tmps.getD 52 undef,a.tmps.getD 53 undef,a.tmps.getD 54 undef,a.tmps.getD 55 undef,a.tmps.getD 56 undef,a.tmps.getD 57 undef,a.tmps.getD 58 undef,a.tmps.getD 59 undef,a.tmps.getD 60 undef,a.tmps.getD 61 undef,a.tmps.getD 62 undef,a.tmps.getD 63 undef,a.tmps.getD 64 undef,a.tmps.getD 65 undef,a.tmps.getD 66 undef,a.tmps.getD 67 undef,a.tmps.getD 68 undef,a.tmps.getD 69 undef,a.tmps.getD 70 undef,a.tmps.getD 71 undef,a.tmps.getD 72 undef,a.tmps.getD 73 undef,a.tmps.getD 74 undef,a.tmps.getD 75 undef,a.tmps.getD 76 undef,a.tmps.getD 77 undef,a.tmps.getD 78 undef,a.tmps.getD 79 undef,a.tmps.getD 80 undef,a.tmps.getD 81 undef,a.tmps.getD 82 undef,a.tmps.getD 83 undef,a.tmps.getD 84 undef,a.tmps.getD 85 undef,a.tmps.getD 86 undef,a.tmps.getD 87 undef,a.tmps.getD 88 undef,a.tmps.getD 89 undef,a.tmps.getD 90 undef,a.tmps.getD 91 undef,a.tmps.getD 92 undef,a.tmps.getD 93 undef,a.tmps.getD 94 undef,a.tmps.getD 95 undef,a.tmps.getD 96 undef,a.tmps.getD 97 undef,a.tmps.getD 98 undef,a.tmps.getD 99 undef,a.tmps.getD 100 undef,a.tmps.getD 101 undef,a.tmps.getD 102 undef,a.tmps.getD 103 undef,a.tmps.getD 104 undef,a.tmps.getD 105 undef,a.tmps.getD 106 undef,a.tmps.getD 107 undef,a.tmps.getD 108 undef,a.tmps.getD 109 undef,a.tmps.getD 110 undef,a.tmps.getD 111 undef,a.tmps.getD 112 undef,a.tmps.getD 113 undef,a.tmps.getD 114 undef,a.tmps.getD 115 undef,a.tmps.getD 116 undef,a.tmps.getD 117 undef,a.tmps.getD 118 undef,a.tmps.getD 119 undef,a.tmps.getD 120 undef,a.tmps.getD 121 undef,a.tmps.getD 122 undef,a.tmps.getD 123 undef,a.tmps.getD 124 undef,a.tmps.getD 125 undef,a.tmps.getD 126 undef,a.tmps.getD 127 undef,a.tmps.getD 128 undef,a.tmps.getD 129 undef,a.tmps.getD 130 undef,a.tmps.getD 131 undef,a.tmps.getD 132 undef,a.tmps.getD 133 undef,a.tmps.getD 134 undef,a.tmps.getD 135 undef,a.tmps.getD 136 undef,a.tmps.getD 137 undef,a.tmps.getD 138 undef,a.tmps.getD 139 undef,a.tmps.getD 140 undef,a.tmps.getD 141 undef,a.tmps.getD 142 undef,a.tmps.getD 143 undef,a.tmps.getD 144 undef,a.tmps.getD 145 undef,a.tmps.getD 146 undef,a.tmps.getD 147 undef,a.tmps.getD 148 undef,a.tmps.getD 149 undef,a.tmps.getD 150 undef,a.tmps.getD 151 undef,a.tmps.getD 152 undef,a.tmps.getD 153 undef,a.tmps.getD 154 undef,a.tmps.getD 155 undef,a.tmps.getD 156 undef,a.tmps.getD 157 undef,a.tmps.getD 158 undef,a.tmps.getD 159 undef,a.tmps.getD 160 undef,a.tmps.getD 161 undef,a.tmps.getD 162 undef,a.tmps.getD 163 undef,a.tmps.getD 164 undef,a.tmps.getD 165 undef,a.tmps.getD 166 undef,a.tmps.getD 167 undef,a.tmps.getD 168 undef,a.tmps.getD 169 undef,a.tmps.getD 170 undef,a.tmps.getD 171 undef],defers := [] }):Fr s bs B ba v a:=⟨λi=>a.tmps.getD i undef,h⟩
structure LW(w0:World)(s:ByteArray)(bs B ba:Nat)(W:World)(a:Nat):Prop where
 below:Below w0.heap.size w0 W
 cs:W.cell? ⟨bs,0,none⟩=some (.string s)
 ca:W.cell? ⟨ba,0,none⟩=some (.int .i64 a)
 fa:W.frozen? ⟨ba,0,none⟩=false
 words:jE W B 43
 ls:bs<W.heap.size
 la:ba<W.heap.size
 ha:w0.heap.size≤ba
 ne:bs≠ba
 nB:B≠ba
theorem LW.step{w0:World}{s:ByteArray}{bs B ba:Nat}{W:World}{a:Nat}(h:LW w0 s bs B ba W a)(b:Nat):LW w0 s bs B ba (W.setCell ⟨ba,0,none⟩ (.int .i64 b)) b where
 below:=h.below.setCell h.ha _
 cs:=by
  rw[← h.cs];exact vl (Below.heap_setCell W ⟨ba,0,none⟩ _ bs (by simpa using h.ne))
 ca:=by
  exact World.cell?_setCell_same W _ _ h.ca
 fa:=by rw[World.frozen?_setCell];exact h.fa
 words:=h.words.setCell (by simpa using h.nB) _
 ls:=by simpa using h.ls
 la:=by simpa using h.la
 ha:=h.ha
 ne:=h.ne
 nB:=h.nB
def J0(w0:World)(s:ByteArray)(bs B ba:Nat)(n:Nat)(act:Act)(w:World):Prop:=
 ∃ (W:World) (p:Regrown) (a:Nat) (v:Value) (acc:List P11.Tok),w=Xk.exw W p/\LW w0 s bs B ba W a/\a≤s.size/\n=2*(s.size-a)+1/\acc.length≤a/\Fr s bs B ba v act /\
  (Xk.exw W p).ownsRow W.heap.size 72 3 v acc.length (cq acc)/\P11.toks s.data.toList 0=P11.after acc (P11.toks (s.data.toList.drop a) a)
def JN(w0:World)(s:ByteArray)(bs B ba:Nat)(what:List UInt8)(n:Nat)(act:Act)(w:World):Prop:=
 ∃ (W:World) (p:Regrown) (a:Nat) (v:Value) (acc:List P11.Tok),w=Xk.exw W p/\LW w0 s bs B ba W a/\a≤s.size/\n=2*(s.size-a)/\acc.length≤a/\Fr s bs B ba v act /\
  (Xk.exw W p).ownsRow W.heap.size 72 3 v acc.length (cq acc)/\P11.toks s.data.toList 0=P11.after acc (P11.toks (s.data.toList.drop a) a)/\what.isPrefixOf (s.data.toList.drop a)=true
def JL(w0:World)(s:ByteArray)(bs B ba:Nat)(n l:Nat)(act:Act)(w:World):Prop:=
 (l=0/\J0 w0 s bs B ba n act w)∨(l=1/\JN w0 s bs B ba [45,45] n act w)∨(l=2/\JN w0 s bs B ba [39] n act w)
end Go.Proofs.YtkpmclddjkebeaaGreatDoor
namespace Go.Proofs.YtkpmclddjkebeaaGreatDoor
open Go.RowKit Go.Maps
abbrev Pass(w0:World)(s:ByteArray)(bs B ba n l:Nat)(act:Act)(w:World):Prop:=
 ∃rest,findLabel eD l=some (Code.skip.seq rest)/\rest.wp ab (Xk.jumps (λl' a' w'=>∃m,m<n/\JL w0 s bs B ba m l' a' w') (bodyPost ab cZ (fS s w0))) act w
theorem Eh{W:World}{p:Regrown}{e:TypeId}{v:Value}{n:Nat}{xs:List Value}(h:(Xk.exw W p).ownsRow W.heap.size e 3 v n xs){ad:Addr}(ha:ad.block<W.heap.size)(hs:ad.spot=none)(u:Value):(Xk.exw (W.setCell ad u) p).ownsRow (W.setCell ad u).heap.size e 3 v n xs:=by
 obtain⟨b,o,sp⟩:=ad
 cases hs;rw[← Xk.yr W p b o u ha,aQ];exact ownsRow_setCell_below h ha u
theorem tF{w0:World}{s:ByteArray}{bs B ba n:Nat}{act:Act}{w:World}{W:World}{p:Regrown}{a:Nat}{v:Value}{acc:List P11.Tok}(hW:LW w0 s bs B ba W a)(b:Nat)(hn:2*(s.size-b)+1<n)(hb:a<b)(hbs:b≤s.size)(hw:w=Xk.exw (W.setCell ⟨ba,0,none⟩ (.int .i64 b)) p)
  (hacc:acc.length≤b) (hF:Fr s bs B ba v act) (hrow:(Xk.exw W p).ownsRow W.heap.size 72 3 v acc.length (cq acc)) (hT:P11.toks s.data.toList 0=P11.after acc (P11.toks (s.data.toList.drop b) b)):∃m,m<n/\JL w0 s bs B ba m 0 act w:=
 ⟨2*(s.size-b)+1,hn,.inl ⟨rfl,_,p,b,v,acc,hw,hW.step b,hbs,rfl,hacc,hF,Eh hrow hW.la rfl _,hT⟩⟩
theorem drop_at(s:ByteArray)(a:Nat)(h:a<s.size):s.data.toList.drop a=s[a]::s.data.toList.drop (a+1):=fM h
theorem Ac{w0:World}{s:ByteArray}{bs B ba n:Nat}{act:Act}{w:World}(W:World)(p:Regrown)(a:Nat)(v:Value)(acc:List P11.Tok)(hw:w=Xk.exw W p)(hW:LW w0 s bs B ba W a)(hs:s.size≤4096)
  (hn:n=2*(s.size-a)+1) (hacc:acc.length≤a) (hF:Fr s bs B ba v act) (hrow:(Xk.exw W p).ownsRow W.heap.size 72 3 v acc.length (cq acc)) (hT:P11.toks s.data.toList 0=P11.after acc (P11.toks (s.data.toList.drop a) a)) (hlt:a<s.size) (hb:P11.blank s[a]=true):Pass w0 s bs B ba n 0 act w:=by
 have hT':P11.toks s.data.toList 0=P11.after acc (P11.toks (s.data.toList.drop (a+1)) (a+1)):=by
  rw[hT,drop_at s a hlt,P11.za hb]
 have HT':=aa hT';clear hT';subst hw;unfold Fr at hF;obtain⟨f,rfl⟩:=hF;unfold Pass;generalize hQ:bodyPost ab cZ (fS s w0)=Q;have HQ:=aa hQ;clear hQ;generalize hJL:(λ(l':Nat) (a':Act) (w':World)=>∃m,m<n/\JL w0 s bs B ba m l' a' w')=J;have HJ:=aa hJL;clear hJL;unfold eD cZ;simp only[findLabel];refine⟨_,rfl,?_⟩;have cs:=hW.cs;have ca:=hW.ca;have fa:=hW.fa;have ls:=hW.ls;have la:=hW.la;have HW:=aa hW;have HN:=aa hn;have HR:=aa hrow;have HT:=aa hT;clear hW hn hrow hT;have hb8:(s[a].toNat:Int)<256:=by have:=s[a].toNat_lt;omega
 have hc:s[a]=32∨s[a]=9∨s[a]=10∨s[a]=13:=by simpa[P11.blank,or_assoc]using hb
 clear hb;rcases hc with hc|hc|hc|hc
 all_goals
  have hv:(s[a].toNat:Int)=_:=congrArg (λc:UInt8=>(c.toNat:Int)) hc;clear hc;go_wp2_with fail;go_step3;simp only[gF,Exit.then,Xk.gg,↓reduceIte];rw[← HJ.out];exact tF HW.out (a+1) (by rw[HN.out];omega) (by omega) (by omega) rfl (by omega) (Fr.of (by kernel_rfl)) HR.out HT'.out
end Go.Proofs.YtkpmclddjkebeaaGreatDoor
namespace Go.Proofs.YtkpmclddjkebeaaGreatDoor
open Go.RowKit Go.Maps
theorem ln{c d:UInt8}(h:c≠d)(n:Int)(hn:n=d.toNat):((c.toNat:Int)==n)=false:=by
 rw[beq_eq_false_iff_ne];intro e;exact h (ph.1 (by omega))
theorem I0{c d:UInt8}(h:c=d)(n:Int)(hn:n=d.toNat):((c.toNat:Int)==n)=true:=by
 rw[beq_iff_eq,h,hn]
theorem kf{c:UInt8}(h:P11.blank c=false):((c.toNat:Int)==32)=false/\((c.toNat:Int)==9)=false/\((c.toNat:Int)==10)=false/\((c.toNat:Int)==13)=false:=by
 simp only[P11.blank,kZ,beq_eq_false_iff_ne]at h;exact⟨ln h.1.1.1 32 rfl,ln h.1.1.2 9 rfl,ln h.1.2 10 rfl,ln h.2 13 rfl⟩
theorem Js{w0:World}{s:ByteArray}{bs B ba n:Nat}{act:Act}{w:World}{W:World}{p:Regrown}{a:Nat}{v:Value}{acc:List P11.Tok}(hW:LW w0 s bs B ba W a)(hn:n=2*(s.size-a)+1)(ha:a≤s.size)(hw:w=Xk.exw W p)
  (hacc:acc.length≤a) (hF:Fr s bs B ba v act) (hrow:(Xk.exw W p).ownsRow W.heap.size 72 3 v acc.length (cq acc)) (hT:P11.toks s.data.toList 0=P11.after acc (P11.toks (s.data.toList.drop a) a)) {what:List UInt8} (hp:what.isPrefixOf (s.data.toList.drop a)=true) {l:Nat} (hl:(l=1/\what = [45,45])∨(l=2/\what = [39])):∃m,m<n/\JL w0 s bs B ba m l act w:=by
 have h:JN w0 s bs B ba what (2*(s.size-a)) act w:=⟨_,p,a,v,acc,hw,hW,ha,rfl,hacc,hF,hrow,hT,hp⟩;refine⟨2*(s.size-a),by omega,?_⟩;rcases hl with⟨rfl,rfl⟩|⟨rfl,rfl⟩
 ·exact .inr (.inl ⟨rfl,h⟩)
 ·exact .inr (.inr ⟨rfl,h⟩)
theorem CR{w0:World}{s:ByteArray}{bs B ba n:Nat}{act:Act}{w:World}(W:World)(p:Regrown)(a:Nat)(v:Value)(acc:List P11.Tok)(hw:w=Xk.exw W p)(hW:LW w0 s bs B ba W a)(hs:s.size≤4096)
  (hn:n=2*(s.size-a)+1) (hacc:acc.length≤a) (hF:Fr s bs B ba v act) (hrow:(Xk.exw W p).ownsRow W.heap.size 72 3 v acc.length (cq acc)) (hT:P11.toks s.data.toList 0=P11.after acc (P11.toks (s.data.toList.drop a) a)) (hlt:a<s.size) (hb:P11.blank s[a]=false) (hp:([45,45]:List UInt8).isPrefixOf (s.data.toList.drop a)=true):Pass w0 s bs B ba n 0 act w:=by
 have nb:((s[a].toNat:Int)==32)=false/\((s[a].toNat:Int)==9)=false/\((s[a].toNat:Int)==10)=false/\((s[a].toNat:Int)==13)=false:=kf hb;obtain⟨nb1,nb2,nb3,nb4⟩:=nb;have hpre:=λw=>mH s ⟨#[45,45]⟩ a w;rw[show(⟨#[45,45]⟩:ByteArray).data.toList = [45,45]from rfl,hp]at hpre;have HP:=aa hp;have HX:=aa hpre;clear hp hpre hb;subst hw;unfold Fr at hF;obtain⟨f,rfl⟩:=hF;unfold Pass;generalize hQ:bodyPost ab cZ (fS s w0)=Q;have HQ:=aa hQ;clear hQ;generalize hJL:(λ(l':Nat) (a':Act) (w':World)=>∃m,m<n/\JL w0 s bs B ba m l' a' w')=J;have HJ:=aa hJL;clear hJL;unfold eD cZ;simp only[findLabel];refine⟨_,rfl,?_⟩
 have cs:=hW.cs;have ca:=hW.ca;have fa:=hW.fa;have ls:=hW.ls;have la:=hW.la;have HW:=aa hW;have HN:=aa hn;have HR:=aa hrow;have HT:=aa hT;clear hW hn hrow hT;have hb8:(s[a].toNat:Int)<256:=by have:=s[a].toNat_lt;omega
 go_wp2_with (go_at_call 57;(with_reducible refine(HX.out _).mono ?_);rintro e w' ⟨rfl,rfl⟩);go_step3;simp only[gF,Exit.then,Xk.gg,↓reduceIte];rw[← HJ.out];exact Js HW.out HN.out (by omega) rfl hacc (Fr.of (by kernel_rfl)) HR.out HT.out HP.out (.inl ⟨rfl,rfl⟩)
theorem CP{w0:World}{s:ByteArray}{bs B ba n:Nat}{act:Act}{w:World}(W:World)(p:Regrown)(a:Nat)(v:Value)(acc:List P11.Tok)(hw:w=Xk.exw W p)(hW:LW w0 s bs B ba W a)(hs:s.size≤4096)
  (hn:n=2*(s.size-a)+1) (hacc:acc.length≤a) (hF:Fr s bs B ba v act) (hrow:(Xk.exw W p).ownsRow W.heap.size 72 3 v acc.length (cq acc)) (hT:P11.toks s.data.toList 0=P11.after acc (P11.toks (s.data.toList.drop a) a)) (hlt:a<s.size) (hc:s[a]=39):Pass w0 s bs B ba n 0 act w:=by
 have hb:P11.blank s[a]=false:=by rw[hc];decide
 have nb:((s[a].toNat:Int)==32)=false/\((s[a].toNat:Int)==9)=false/\((s[a].toNat:Int)==10)=false/\((s[a].toNat:Int)==13)=false:=kf hb;obtain⟨nb1,nb2,nb3,nb4⟩:=nb;have hd:s.data.toList.drop a=39::s.data.toList.drop (a+1):=by rw[drop_at s a hlt,hc]
 have hp:([45,45]:List UInt8).isPrefixOf (s.data.toList.drop a)=false:=by rw[hd];simp[cL]
 have hq:([39]:List UInt8).isPrefixOf (s.data.toList.drop a)=true:=by rw[hd];simp[cL]
 have hpre:=λw=>mH s ⟨#[45,45]⟩ a w;rw[show(⟨#[45,45]⟩:ByteArray).data.toList = [45,45]from rfl,hp]at hpre;have HP:=aa hq;have HX:=aa hpre;have h39:((s[a].toNat:Int)==39)=true:=I0 hc 39 rfl;clear hp hq hpre hb hd hc;subst hw;unfold Fr at hF;obtain⟨f,rfl⟩:=hF;unfold Pass;generalize hQ:bodyPost ab cZ (fS s w0)=Q;have HQ:=aa hQ;clear hQ;generalize hJL:(λ(l':Nat) (a':Act) (w':World)=>∃m,m<n/\JL w0 s bs B ba m l' a' w')=J;have HJ:=aa hJL;clear hJL;unfold eD cZ;simp only[findLabel];refine⟨_,rfl,?_⟩;have cs:=hW.cs;have ca:=hW.ca;have fa:=hW.fa;have ls:=hW.ls;have la:=hW.la;have HW:=aa hW
 have HN:=aa hn;have HR:=aa hrow;have HT:=aa hT;clear hW hn hrow hT;have hb8:(s[a].toNat:Int)<256:=by have:=s[a].toNat_lt;omega
 go_wp2_with (go_at_call 57;(with_reducible refine(HX.out _).mono ?_);rintro e w' ⟨rfl,rfl⟩);go_step3;simp only[gF,Exit.then,Xk.gg,↓reduceIte];rw[← HJ.out];exact Js HW.out HN.out (by omega) rfl hacc (Fr.of (by kernel_rfl)) HR.out HT.out HP.out (.inr ⟨rfl,rfl⟩)
theorem ED{W:World}{base:Nat}{v:Value}{l:List P11.Tok}(h:W.ownsRow base 72 3 v l.length (cq l)):GC W v l:=by
 obtain⟨h1,h2⟩:=h;rcases h2 with⟨rfl,h0⟩|⟨g,cap,cur,rfl,hg,hb,hn,hcap,hcs,hx⟩
 ·obtain rfl:l = []:=List.length_eq_zero_iff.1 h0;exact⟨none,0,rfl,λj t hj=>by simp at hj⟩
 ·refine⟨some ⟨g,0,none⟩,cap,rfl,λj t hj=>?_⟩;have hjl:j<l.length:=(cP.1 hj).1;obtain⟨e1,e2,e3⟩:=rK l j t hj
  have cell:∀ (k:Nat) u,(cq l)[k]?=some u->W.cell? ⟨g,0+k,none⟩=some u:=λk u hk=>by
   have hk':k<l.length*3:=by rw[← h1];exact(cP.1 hk).1
   rw[← hx,fp,if_pos hk']at hk;simp only[ak,hb,fe,Option.isSome_none,aV,if_false];simpa using hk
  exact⟨g,0,rfl,cell _ _ e1,cell _ _ e2,cell _ _ e3,hn⟩
theorem Ev{w0:World}{s:ByteArray}{bs B ba n:Nat}{act:Act}{w:World}(W:World)(p:Regrown)(a:Nat)(v:Value)(acc:List P11.Tok)(hw:w=Xk.exw W p)(hW:LW w0 s bs B ba W a)(hs:s.size≤4096)
  (hn:n=2*(s.size-a)+1) (hacc:acc.length≤a) (hF:Fr s bs B ba v act) (hrow:(Xk.exw W p).ownsRow W.heap.size 72 3 v acc.length (cq acc)) (hT:P11.toks s.data.toList 0=P11.after acc (P11.toks (s.data.toList.drop a) a)) (hge:a=s.size):Pass w0 s bs B ba n 0 act w:=by
 have hL:P11.ff s.data.toList = .inl (acc ++ [⟨0,[],s.size⟩]):=by
  rw[P11.ff,if_neg (by show ¬ 4096<s.size;omega),hT,nX (by show s.size≤a;omega),P11.kq,hge];rfl
 have HL:=aa hL;clear hL;obtain⟨i0,hi,hz0,hz1,hz2⟩:=ue Tryz.qp;have Hi:=aa hi;have Hz0:=aa hz0;have Hz1:=aa hz1;have Hz2:=aa hz2;clear hi hz0 hz1 hz2;subst hw;unfold Fr at hF;obtain⟨f,rfl⟩:=hF;unfold Pass;generalize hQ:bodyPost ab cZ (fS s w0)=Q;have HQ:=aa hQ;clear hQ;generalize hJL:(λ(l':Nat) (a':Act) (w':World)=>∃m,m<n/\JL w0 s bs B ba m l' a' w')=J;have HJ:=aa hJL;clear hJL;unfold eD cZ;simp only[findLabel];refine⟨_,rfl,?_⟩;have cs:=hW.cs;have ca:=hW.ca;have fa:=hW.fa;have ls:=hW.ls;have la:=hW.la;have HW:=aa hW;have HN:=aa hn;have HR:=aa hrow;have HT:=aa hT;clear hW hn hrow hT
 have hge1:(s.size:Int)≤(a:Int):=by omega
 have hge2:¬ a<s.size:=by omega
 have hge3:a≤s.size:=by omega
 clear hge;go_wp2_with (first|(at_builtin;refine Xk.ko (w0:=W) rfl _ _ 61 rfl 72 i0 _ 3 32 jv Hi.out Hz0.out Hz1.out Hz2.out rfl (by decide) v acc.length (cq acc) rfl (by repeat(first|with_reducible exact HR.out|with_reducible refine Xk.ke ?_ _|with_reducible refine Xk.jI ?_|with_reducible exact Xk.uJ HR.out|with_reducible refine Xk.kC (d:=0) ?_)) _ 0 1 1 [.int .i64 0,.string ⟨#[]⟩,.int .i64 s.size] rfl rfl (Xk.rm (by simp)) (by intro u hu;simp only[aI,aC,or_false]at hu;rcases hu with rfl|rfl|rfl<;>rfl) (by omega) Xk.xt ?_;intro v' p' ho';have Ho:=aa ho';clear ho'));rw[← HQ.out];go_ret3
 have ho:(Xk.exw W p').ownsRow W.heap.size 72 3 v' (acc ++ [(⟨0,[],s.size⟩:P11.Tok)]).length (cq (acc ++ [(⟨0,[],s.size⟩:P11.Tok)])):=by
  rw[iu,aB];exact Ho.out
 exact⟨HW.out.below.trans ((Xk.cm W p').mono HW.out.below.size),.inl ⟨_,_,HL.out,rfl,ED ho⟩⟩
end Go.Proofs.YtkpmclddjkebeaaGreatDoor
namespace P11
theorem xO:∀ (l:List UInt8) (d:UInt8),numOf (l ++ [d])=l.dropWhile (·==48)++ [d]
 | [],d=>rfl
 | [c],d=>by
  rw[aL,bM,numOf,wE];by_cases h:c=48
  ·subst h;rfl
  ·rw[if_neg h];have:(c==48)=false:=by simpa using h
   simp[this]
 | c::e::l,d=>by
  have ih:=xO (e::l) d;rw[aL,aL,numOf];rw[aL]at ih;by_cases h:c=48
  ·subst h;rw[if_pos rfl,ih];rfl
  ·rw[if_neg h];have:(c==48)=false:=by simpa using h
   rw[wE,this];rfl
theorem zE{c:UInt8}{t:List UInt8}(h:digit c=true):step (c::t) = .inl (((c::t).takeWhile digit).length,some (3,numOf ((c::t).takeWhile digit))):=by
 have hf:=nS c h;simp only[aq,dF,bne_iff_ne]at hf;obtain⟨⟨⟨h1,h2⟩,h3⟩,h4⟩:=hf;rw[step,if_neg (by rw[h1];decide),if_neg (by simp[cL];exact λh=>absurd h.symm h2),if_neg h3,if_neg (by rw[h4];decide),if_pos h]
theorem wZ{c:UInt8}{t:List UInt8}(h:dm c=true):step (c::t) = .inl (((c::t).takeWhile dq).length,some (lE ((c::t).takeWhile dq))):=by
 have hf:=mL c h;simp only[aq,dF,bne_iff_ne]at hf;obtain⟨⟨h1,h2⟩,h3⟩:=hf;rw[step,if_neg (by rw[h1];decide),if_neg (by simp[cL];exact λh=>absurd h.symm h2),if_neg h3,if_pos h];rfl
theorem Ag(l:List UInt8)(d:Nat)(h:d<l.length):numOf (l.take (d+1))=(l.take d).dropWhile (·==48)++(l.drop d).take 1:=by
 rw[List.take_succ_eq_append_getElem h,xO,fM h,aA,aS]
theorem xw(p:UInt8->Bool)(l:List UInt8)(a:Nat):((l.drop a).takeWhile p)=(l.drop a).take ((l.drop a).takeWhile p).length:=by
 have:=im (l:=l.drop a) p;exact(List.prefix_iff_eq_take.1 this)
end P11
namespace Go.Proofs.YtkpmclddjkebeaaGreatDoor
open Go.RowKit Go.Maps
theorem Ab{w0:World}{s:ByteArray}{bs B ba n:Nat}{act:Act}{w:World}(W:World)(p:Regrown)(a:Nat)(v:Value)(acc:List P11.Tok)(hw:w=Xk.exw W p)(hW:LW w0 s bs B ba W a)(hs:s.size≤4096)
  (hn:n=2*(s.size-a)+1) (hacc:acc.length≤a) (hF:Fr s bs B ba v act) (hrow:(Xk.exw W p).ownsRow W.heap.size 72 3 v acc.length (cq acc)) (hT:P11.toks s.data.toList 0=P11.after acc (P11.toks (s.data.toList.drop a) a)) (hlt:a<s.size) (hc:P11.digit s[a]=true):Pass w0 s bs B ba n 0 act w:=by
 have hf:=P11.nS s[a] hc;simp only[aq,dF,bne_iff_ne]at hf;obtain⟨⟨⟨hb,hf2⟩,hf3⟩,hf4⟩:=hf;have nb:((s[a].toNat:Int)==32)=false/\((s[a].toNat:Int)==9)=false/\((s[a].toNat:Int)==10)=false/\((s[a].toNat:Int)==13)=false:=kf hb;obtain⟨nb1,nb2,nb3,nb4⟩:=nb;have hd:=drop_at s a hlt;have hp:([45,45]:List UInt8).isPrefixOf (s.data.toList.drop a)=false:=by rw[hd];simp[cL];exact λh=>absurd h.symm hf2
 have hpre:=λw=>mH s ⟨#[45,45]⟩ a w;rw[show(⟨#[45,45]⟩:ByteArray).data.toList = [45,45]from rfl,hp]at hpre;have HX:=aa hpre;have h39:((s[a].toNat:Int)==39)=false:=ln hf3 39 rfl;have hL:=λw=>kH s[a] w;rw[hf4]at hL;have HL:=aa hL;have hD:=λw=>ml s[a] w;rw[hc]at hD;have HD:=aa hD;have hrun:=λw=>Ct s a (by omega) (by omega) w
 have hlen:0<((s.data.toList.drop a).takeWhile P11.digit).length/\a+((s.data.toList.drop a).takeWhile P11.digit).length≤s.size:=by
  constructor
  ·rw[hd,cX,hc];simp
  ·have:=(im (l:=s.data.toList.drop a) P11.digit).length_le;simp at this ⊢;omega
 have hT':P11.toks s.data.toList 0=P11.after (acc ++ [⟨3,P11.numOf ((s.data.toList.drop a).takeWhile P11.digit),a⟩]) (P11.toks (s.data.toList.drop (a+((s.data.toList.drop a).takeWhile P11.digit).length)) (a+((s.data.toList.drop a).takeWhile P11.digit).length)):=by
  have e:=P11.zE (t:=s.data.toList.drop (a+1)) hc;rw[← hd]at e;rw[hT];conv=>lhs;rw[hd]
  rw[hd]at e;rw[P11.iI e,← hd,ir]
 have hw2:=P11.xw P11.digit s.data.toList a;generalize hk:((s.data.toList.drop a).takeWhile P11.digit).length=k at *
 obtain⟨d,rfl⟩:∃d,k=d+1:=⟨k-1,by omega⟩
 have hnum:P11.numOf ((s.data.toList.drop a).takeWhile P11.digit)=((s.data.toList.drop a).take d).dropWhile (·==48)++(s.data.toList.drop (a+d)).take 1:=by
  rw[hw2,P11.Ag _ _ (by simp;omega),ir]
 rw[hnum,show a+(d+1)=a+d+1 by omega]at hT';rw[show a+(d+1)=a+d+1 by omega]at hlen hrun;have hdq:d=a+d-a:=by omega
 rw[hdq]at hT';rw[show a+(a+d-a)=a+d by omega]at hT';clear hdq hnum hw2 hk hd hpre hL hD hp hf2 hf3 hf4 hb hc;obtain⟨-,hlen⟩:=hlen;have haq:a≤a+d:=by omega
 generalize a+d=q at *
 have hT1:=λw=>(Tryz.strings_TrimLeft_one (s.extract a q) 48 (by decide) w).mono (R':=λe w'=>e = .returned (.string ⟨(Lib.trimLeftB (s.extract a q).data.toList 48).toArray⟩)/\w=w') λe w' h=>⟨h.1,h.2.symm⟩;have e1:(s.extract a q).data.toList=(s.data.toList.drop a).take (q-a):=nw s a q;rw[e1]at hT1;generalize ht:Lib.trimLeftB ((s.data.toList.drop a).take (q-a)) 48=t at hT1;have hcat:=yR t s q (q+1);rw[show q+1-q=1 by omega]at hcat
 have htl:t.length≤q:=by
  rw[← ht];have h1:=(List.dropWhile_suffix (l:=(s.data.toList.drop a).take (q-a)) (·==48)).length_le;have h2:=List.length_take_le (q-a) (s.data.toList.drop a);show(wE _ _).length≤q
  omega
 have hT2:P11.toks s.data.toList 0=P11.after (acc ++ [⟨3,t++(s.data.toList.drop q).take 1,a⟩]) (P11.toks (s.data.toList.drop (q+1)) (q+1)):=by
  rw[← ht];exact hT'
 have HT':=aa hT2;have HC:=aa hcat;have HRun:=aa hrun;have HTr:=aa hT1;clear hT' hT2 hcat hrun hT1 ht e1;obtain⟨i0,hi,hz0,hz1,hz2⟩:=ue Tryz.qp;have Hi:=aa hi;have Hz0:=aa hz0;have Hz1:=aa hz1;have Hz2:=aa hz2;clear hi hz0 hz1 hz2;subst hw;unfold Fr at hF;obtain⟨f,rfl⟩:=hF;unfold Pass;generalize hQ:bodyPost ab cZ (fS s w0)=Q;have HQ:=aa hQ;clear hQ;generalize hJL:(λ(l':Nat) (a':Act) (w':World)=>∃m,m<n/\JL w0 s bs B ba m l' a' w')=J;have HJ:=aa hJL;clear hJL;unfold eD cZ;simp only[findLabel];refine⟨_,rfl,?_⟩;have cs:=hW.cs;have ca:=hW.ca;have fa:=hW.fa;have ls:=hW.ls;have la:=hW.la
 have HW:=aa hW;have HN:=aa hn;have HR:=aa hrow;have HT:=aa hT;clear hW hn hrow hT;have hb8:(s[a].toNat:Int)<256:=by have:=s[a].toNat_lt;omega
 go_wp2_with (first|(go_at_call 57;(with_reducible refine(HX.out _).mono ?_);rintro e w' ⟨rfl,rfl⟩)|(go_at_call 58;(with_reducible refine(HL.out _).mono ?_);rintro e w' ⟨rfl,rfl⟩)|(go_at_call 61;(with_reducible refine(HD.out _).mono ?_);rintro e w' ⟨rfl,rfl⟩)|(go_at_call 59;(with_reducible refine(HRun.out _).mono ?_);rintro e w' ⟨rfl,rfl⟩));have q1:IntKind.i64.wrap (q:Int)=(q:Int):=pn _ (by omega);have q2:(a:Int)≤(q:Int):=by omega
 have q3:(q:Int)+1≤(s.size:Int):=by omega
 have q4:(q:Int)≤(s.size:Int):=by omega
 have q5:((q:Int)+1).toNat=q+1:=by omega
 have q6:(q:Int)≤(q:Int)+1:=by omega
 have q7:¬ 9223372036854775807<t.length+1:=by omega
 refine Xk.reg 13 (Xk.w1 HTr.out λp=>?_);clear q1 q5 q7
 go_wp2_with (first|(at_builtin;refine Xk.ko (w0:=W) rfl _ _ 61 rfl 72 i0 _ 3 32 jv Hi.out Hz0.out Hz1.out Hz2.out rfl (by decide) v acc.length (cq acc) rfl (by repeat(first|with_reducible exact HR.out|with_reducible refine Xk.ke ?_ _|with_reducible refine Xk.jI ?_|with_reducible exact Xk.uJ HR.out|with_reducible refine Xk.kC (d:=0) ?_)) _ 0 1 1 [.int .i64 3,.string (⟨t.toArray⟩++s.extract q (q+1)),.int .i64 a] rfl rfl (Xk.rm (by simp)) (by intro u hu;simp only[aI,aC,or_false]at hu;rcases hu with rfl|rfl|rfl<;>rfl) (by omega) Xk.xt ?_;intro v' p' ho';have Ho:=aa ho';clear ho'));go_step3
 simp only[gF,Exit.then,Xk.gg,↓reduceIte];rw[← HJ.out]
 have ho:(Xk.exw W p').ownsRow W.heap.size 72 3 v' (acc ++ [(⟨3,t++(s.data.toList.drop q).take 1,a⟩:P11.Tok)]).length (cq (acc ++ [(⟨3,t++(s.data.toList.drop q).take 1,a⟩:P11.Tok)])):=by
  rw[iu,aB];have:=Ho.out;rw[HC.out]at this;exact this
 exact tF HW.out (q+1) (by rw[HN.out];omega) (by omega) (by omega) rfl (by rw[aB,cU];omega) (Fr.of (by kernel_rfl)) ho HT'.out
end Go.Proofs.YtkpmclddjkebeaaGreatDoor
namespace P11
theorem yZ{c:UInt8}{t:List UInt8}{n:Nat}{p:Nat}{x:Int×List UInt8}{acc:List Tok}(h:step (c::t) = .inl (n,some x)):after acc (toks (c::t) p)=after (acc ++ [⟨x.1,x.2,p⟩]) (toks ((c::t).drop n) (p+n)):=iI (k:=x.1) (u:=x.2) h
end P11
namespace Go.Proofs.YtkpmclddjkebeaaGreatDoor
open Go.RowKit Go.Maps
def wD(k:Int)(t:ByteArray)(a:Int)(v:Value)(w:World):Prop:=
 ∃b,v = .slice (some ⟨b,0,none⟩) 1 1/\∀ (j:Nat) u,[jF .i64 k,.string t,.int .i64 a][j]?=some u->w.cell? ⟨b,0+j,none⟩=some u
theorem wD.ext{k:Int}{t:ByteArray}{a:Int}(v:Value)(w w':World)(hx:Xk.Ext w w')(h:wD k t a v w):wD k t a v w':=by
 obtain⟨b,hv,hc⟩:=h;exact⟨b,hv,λj u hj=>Xk.bn hx (hc j u hj)⟩
theorem xF{w0:World}{s:ByteArray}{bs B ba n:Nat}{act:Act}{w:World}(W:World)(p:Regrown)(a:Nat)(v:Value)(acc:List P11.Tok)(hw:w=Xk.exw W p)(hW:LW w0 s bs B ba W a)(hs:s.size≤4096)
  (hn:n=2*(s.size-a)+1) (hacc:acc.length≤a) (hF:Fr s bs B ba v act) (hrow:(Xk.exw W p).ownsRow W.heap.size 72 3 v acc.length (cq acc)) (hT:P11.toks s.data.toList 0=P11.after acc (P11.toks (s.data.toList.drop a) a)) (hlt:a<s.size) (hc:P11.dm s[a]=true):Pass w0 s bs B ba n 0 act w:=by
 have hf:=P11.mL s[a] hc;simp only[aq,dF,bne_iff_ne]at hf;obtain⟨⟨hb,hf2⟩,hf3⟩:=hf;have nb:((s[a].toNat:Int)==32)=false/\((s[a].toNat:Int)==9)=false/\((s[a].toNat:Int)==10)=false/\((s[a].toNat:Int)==13)=false:=kf hb;obtain⟨nb1,nb2,nb3,nb4⟩:=nb;have hd:=drop_at s a hlt;have hp:([45,45]:List UInt8).isPrefixOf (s.data.toList.drop a)=false:=by rw[hd];simp[cL];exact λh=>absurd h.symm hf2
 have hpre:=λw=>mH s ⟨#[45,45]⟩ a w;rw[show(⟨#[45,45]⟩:ByteArray).data.toList = [45,45]from rfl,hp]at hpre;have HX:=aa hpre;have h39:((s[a].toNat:Int)==39)=false:=ln hf3 39 rfl;have hL:=λw=>kH s[a] w;rw[hc]at hL;have HL:=aa hL;have hrun:=λw=>Cu s a (by omega) (by omega) w
 have hlen:0<((s.data.toList.drop a).takeWhile P11.dq).length/\a+((s.data.toList.drop a).takeWhile P11.dq).length≤s.size:=by
  constructor
  ·rw[hd,cX,P11.mM hc];simp
  ·have:=(im (l:=s.data.toList.drop a) P11.dq).length_le;simp at this ⊢;omega
 have hT':P11.toks s.data.toList 0=P11.after (acc ++ [⟨(P11.lE ((s.data.toList.drop a).takeWhile P11.dq)).1,(P11.lE ((s.data.toList.drop a).takeWhile P11.dq)).2,a⟩]) (P11.toks (s.data.toList.drop (a+((s.data.toList.drop a).takeWhile P11.dq).length)) (a+((s.data.toList.drop a).takeWhile P11.dq).length)):=by
  have e:=P11.wZ (t:=s.data.toList.drop (a+1)) hc;rw[hT];conv=>lhs;rw[hd]
  rw[P11.yZ e,← hd,ir]
 have hw2:=P11.xw P11.dq s.data.toList a;have hall:=P11.fJ P11.dq (s.data.toList.drop a)
 have hex:∀k,a+k≤s.size->(s.extract a (a+k)).data.toList=(s.data.toList.drop a).take k:=λk hk=>by
  rw[nw,show a+k-a=k by omega]
 generalize hk:(s.data.toList.drop a).takeWhile P11.dq=u at *
 obtain⟨hl1,hl2⟩:=hlen;have hex:=hex _ hl2;rw[← hw2]at hex;generalize hq:a+u.length=q at *
 have haq:a<q:=by omega
 have hww:=λr=>DP (s.extract a q) a B (Xk.exw W r) (hW.words.ext (Xk.cm W r)) (by simp;omega) (by rw[hex];exact hall);rw[hex]at hww;generalize P11.lE u=x at *
 obtain⟨k,t⟩:=x;dsimp only at hww hT';have HT':=aa hT';have HRun:=aa hrun;have HWw:=aa hww;clear hT' hrun hww hex hw2 hall hk hl1 hq hd hpre hL hp hf2 hf3 hb hc;obtain⟨i0,hi,hz0,hz1,hz2⟩:=ue Tryz.qp;have Hi:=aa hi;have Hz0:=aa hz0;have Hz1:=aa hz1;have Hz2:=aa hz2;clear hi hz0 hz1 hz2;subst hw;unfold Fr at hF;obtain⟨f,rfl⟩:=hF;unfold Pass;generalize hQ:bodyPost ab cZ (fS s w0)=Q;have HQ:=aa hQ;clear hQ;generalize hJL:(λ(l':Nat) (a':Act) (w':World)=>∃m,m<n/\JL w0 s bs B ba m l' a' w')=J;have HJ:=aa hJL;clear hJL;unfold eD cZ;simp only[findLabel];refine⟨_,rfl,?_⟩;have cs:=hW.cs;have ca:=hW.ca
 have fa:=hW.fa;have ls:=hW.ls;have la:=hW.la;have HW:=aa hW;have HN:=aa hn;have HR:=aa hrow;have HT:=aa hT;clear hW hn hrow hT;have hb8:(s[a].toNat:Int)<256:=by have:=s[a].toNat_lt;omega
 go_wp2_with (first|(go_at_call 57;(with_reducible refine(HX.out _).mono ?_);rintro e w' ⟨rfl,rfl⟩)|(go_at_call 58;(with_reducible refine(HL.out _).mono ?_);rintro e w' ⟨rfl,rfl⟩)|(go_at_call 59;(with_reducible refine(HRun.out _).mono ?_);rintro e w' ⟨rfl,rfl⟩));have q2:(a:Int)≤(q:Int):=by omega
 have q3:(q:Int)≤(s.size:Int):=by omega
 have q4:(a:Int)≤(s.size:Int):=by omega
 refine Xk.bL 9 [(8,wD k ⟨t.toArray⟩ a)] ⟨λv w w'=>wD.ext v w w',trivial⟩ (by kernel_rfl) (by kernel_rfl) ?_;simp only[aA,aS,aG,aT]
 repeat(first
  | (refine Xk.ay (Xk.an (by rfl)) (by rfl) (λK hK=>?_);apply ai;refine⟨λp hp=>?_,?_⟩;(go_simp;first|exact⟨rfl,rfl⟩|((try refine⟨by kernel_rfl,?_⟩);(first|(go_at_call 62;((with_reducible refine(HWw.out _).mono ?_);exact λe w' h=>h)))));(go_simp;refine hK _ ?_;clear hK K))
  | (refine Xk.bu (by rfl) (λK hK=>?_);go_simp;refine hK _ ?_;clear hK K)
  | (refine Xk.ay (by rfl) (by rfl) (λK hK=>?_);apply ai;refine⟨λp hp=>?_,?_⟩;(go_simp;first|exact⟨rfl,rfl⟩|((try refine⟨by kernel_rfl,?_⟩);(first|(go_at_call 62;((with_reducible refine(HWw.out _).mono ?_);exact λe w' h=>h)))));(go_simp;refine hK _ ?_;clear hK K)))
 refine Xk.bd (by rfl) (by rfl) (λp hp=>?_) (λx K hK=>?_)
 ·go_simp;exact⟨(aj _ _).alloc (ag _) _,_,rfl,Xk.rm (by simp)⟩
 go_simp;refine hK _ ?_;clear hK K;refine Xk.bm (λp hp=>?_);obtain⟨b,rfl,hc⟩:wD k ⟨t.toArray⟩ a x _:=hp.1;clear hp;rw[Xk.kN,Xk.jC]at hc ⊢;have HC:=aa hc;clear hc
 go_wp2_with (first|(at_builtin;refine Xk.ko (w0:=W) rfl _ _ 61 rfl 72 i0 _ 3 32 jv Hi.out Hz0.out Hz1.out Hz2.out rfl (by decide) v acc.length (cq acc) rfl (by repeat(first|with_reducible exact HR.out|with_reducible refine Xk.ke ?_ _|with_reducible refine Xk.jI ?_|with_reducible exact Xk.uJ HR.out|with_reducible refine Xk.kC (d:=0) ?_)) _ 0 1 1 [.int .i64 k,.string ⟨t.toArray⟩,.int .i64 a] rfl rfl HC.out (by intro u hu;simp only[aI,aC,or_false]at hu;rcases hu with rfl|rfl|rfl<;>rfl) (by omega) Xk.xt ?_;intro v' p' ho';have Ho:=aa ho';clear ho'));go_step3;simp only[gF,Exit.then,Xk.gg,↓reduceIte]
 rw[← HJ.out]
 have ho:(Xk.exw W p').ownsRow W.heap.size 72 3 v' (acc ++ [(⟨k,t,a⟩:P11.Tok)]).length (cq (acc ++ [(⟨k,t,a⟩:P11.Tok)])):=by
  rw[iu,aB];exact Ho.out
 exact tF HW.out q (by rw[HN.out];omega) (by omega) (by omega) rfl (by rw[aB,cU];omega) (Fr.of (by kernel_rfl)) ho HT'.out
end Go.Proofs.YtkpmclddjkebeaaGreatDoor
namespace Go.Xk
theorem bP{m i:Nat}{φ:World->Prop}{r:eU}{w:World}(h:cg m ((i,φ)::r) w)(hm:m.testBit i=true):φ w:=by
 unfold cg at h;rw[if_pos hm]at h;exact h.1
end Go.Xk
namespace Go.Proofs.YtkpmclddjkebeaaGreatDoor
open Go.RowKit Go.Maps
theorem sJ{c:UInt8}{t:List UInt8}(hb:P11.blank c=false)(hp:([45,45]:List UInt8).isPrefixOf (c::t)=false)(hq:c≠39)(hl:P11.dm c=false)(hd:P11.digit c=false):
  P11.step (c::t)=match P11.fb (c::t)with|none => .inr (0,111)|some x => .inl (x.length,some (5,x)):=by
 rw[P11.step,if_neg (by rw[hb];decide),if_neg (by rw[hp];decide),if_neg hq,if_neg (by rw[hl];decide),if_neg (by rw[hd];decide)];rfl
theorem Ew{w0:World}{s:ByteArray}{bs B ba n:Nat}{act:Act}{w:World}(W:World)(p:Regrown)(a:Nat)(v:Value)(acc:List P11.Tok)(hw:w=Xk.exw W p)(hW:LW w0 s bs B ba W a)(hs:s.size≤4096)
  (hn:n=2*(s.size-a)+1) (hacc:acc.length≤a) (hF:Fr s bs B ba v act) (hrow:(Xk.exw W p).ownsRow W.heap.size 72 3 v acc.length (cq acc)) (hT:P11.toks s.data.toList 0=P11.after acc (P11.toks (s.data.toList.drop a) a)) (hlt:a<s.size) (hb:P11.blank s[a]=false) (hp:([45,45]:List UInt8).isPrefixOf (s.data.toList.drop a)=false) (hq:s[a]≠39) (hl:P11.dm s[a]=false) (hdg:P11.digit s[a]=false)
  (hg:P11.fb (s.data.toList.drop a)=none):Pass w0 s bs B ba n 0 act w:=by
 have nb:((s[a].toNat:Int)==32)=false/\((s[a].toNat:Int)==9)=false/\((s[a].toNat:Int)==10)=false/\((s[a].toNat:Int)==13)=false:=kf hb;obtain⟨nb1,nb2,nb3,nb4⟩:=nb;have hd:=drop_at s a hlt
 have hL:P11.ff s.data.toList = .inr (a,111):=by
  have hS:=sJ (t:=s.data.toList.drop (a+1)) hb (by rw[← hd];exact hp) hq hl hdg;rw[← hd,hg]at hS;rw[P11.ff,if_neg (by show ¬ 4096<s.size;omega),hT,hd];rw[hd]at hS;rw[P11.rz hS];rfl
 have HL':=aa hL;have hpre:=λw=>mH s ⟨#[45,45]⟩ a w;rw[show(⟨#[45,45]⟩:ByteArray).data.toList = [45,45]from rfl,hp]at hpre;have HX:=aa hpre;have h39:((s[a].toNat:Int)==39)=false:=ln hq 39 rfl;have hLt:=λw=>kH s[a] w;rw[hl]at hLt;have HL:=aa hLt;have hD:=λw=>ml s[a] w;rw[hdg]at hD;have HD:=aa hD;have hI:=λq v hv=>pb s a v P11.ga bs ba (Xk.exw W q) hv (by decide) (by rw[Xk.qs _ _ _ _ hW.ls];exact hW.cs) (by rw[Xk.qs _ _ _ _ hW.la];exact hW.ca) (by omega) (by omega)
 have hfs:fh (nE s a) P11.ga = -1:=by
  rcases kM (p:=nE s a) P11.ga with⟨h1,h2⟩|⟨q,x,h1,h2,h3⟩
  ·exact h1
  ·have:P11.fb (s.data.toList.drop a)=some x:=h3
   rw[hg]at this;cases this
 rw[hfs]at hI;have HI:=aa hI;clear hI hfs hD hLt hpre hL hd hb hp hq hl hdg hg;subst hw;unfold Fr at hF;obtain⟨f,rfl⟩:=hF;unfold Pass;generalize hQ:bodyPost ab cZ (fS s w0)=Q;have HQ:=aa hQ;clear hQ;generalize hJL:(λ(l':Nat) (a':Act) (w':World)=>∃m,m<n/\JL w0 s bs B ba m l' a' w')=J;have HJ:=aa hJL;clear hJL;unfold eD cZ;simp only[findLabel];refine⟨_,rfl,?_⟩;have cs:=hW.cs;have ca:=hW.ca;have fa:=hW.fa;have ls:=hW.ls;have la:=hW.la;have HW:=aa hW;have HN:=aa hn;have HR:=aa hrow;have HT:=aa hT;clear hW hn hrow hT;have hb8:(s[a].toNat:Int)<256:=by have:=s[a].toNat_lt;omega
 go_wp2_with (first|(go_at_call 57;(with_reducible refine(HX.out _).mono ?_);rintro e w' ⟨rfl,rfl⟩)|(go_at_call 58;(with_reducible refine(HL.out _).mono ?_);rintro e w' ⟨rfl,rfl⟩)|(go_at_call 61;(with_reducible refine(HD.out _).mono ?_);rintro e w' ⟨rfl,rfl⟩)|(go_at_call 65;(with_reducible refine(oq _).mono ?_);rintro e w' ⟨x,rfl,hx,hb⟩;obtain⟨p,rfl⟩:=Xk.jO hb;clear hb;(try rw[Xk.jC]at hx);have HS:=aa hx;clear hx)|(go_at_call 64;(with_reducible refine(HI.out _ _ HS.out).mono ?_);rintro e w' ⟨rfl,rfl⟩));refine Xk.reg 4 (Xk.w0 λp=>?_);go_wp2;rw[← HQ.out];go_ret3
 exact⟨HW.out.below.trans ((aj _ _).trans (by first|exact(Xk.cm W _).mono HW.out.below.size|(rw[Xk.kN,Xk.jC];exact(Xk.cm W _).mono HW.out.below.size))),.inr ⟨a,111,HL'.out,rfl⟩⟩
def En(v:Value)(i:Nat):Value:=match v with
 | .slice (some ⟨b,off,_⟩) _ _ => .pointer (some ⟨b,off+i,none⟩)
 | _=>undef
@[go_sem] theorem Jn(b off len cap i:Nat):En (.slice (some ⟨b,off,none⟩) len cap) i = .pointer (some ⟨b,off+i,none⟩):=rfl
theorem CQ{w0:World}{s:ByteArray}{bs B ba n:Nat}{act:Act}{w:World}(W:World)(p:Regrown)(a:Nat)(v:Value)(acc:List P11.Tok)(hw:w=Xk.exw W p)(hW:LW w0 s bs B ba W a)(hs:s.size≤4096)
  (hn:n=2*(s.size-a)+1) (hacc:acc.length≤a) (hF:Fr s bs B ba v act) (hrow:(Xk.exw W p).ownsRow W.heap.size 72 3 v acc.length (cq acc)) (hT:P11.toks s.data.toList 0=P11.after acc (P11.toks (s.data.toList.drop a) a)) (hlt:a<s.size) (hb:P11.blank s[a]=false) (hp:([45,45]:List UInt8).isPrefixOf (s.data.toList.drop a)=false) (hq:s[a]≠39) (hl:P11.dm s[a]=false) (hdg:P11.digit s[a]=false)
  {y:List UInt8} (hg:P11.fb (s.data.toList.drop a)=some y):Pass w0 s bs B ba n 0 act w:=by
 have nb:((s[a].toNat:Int)==32)=false/\((s[a].toNat:Int)==9)=false/\((s[a].toNat:Int)==10)=false/\((s[a].toNat:Int)==13)=false:=kf hb;obtain⟨nb1,nb2,nb3,nb4⟩:=nb;have hd:=drop_at s a hlt;have hpos:=P11.sL hg
 have hlen:a+y.length≤s.size:=by
  have:=(List.isPrefixOf_iff_prefix.1 hpos.2).length_le;simp at this;omega
 have hT':P11.toks s.data.toList 0=P11.after (acc ++ [⟨5,y,a⟩]) (P11.toks (s.data.toList.drop (a+y.length)) (a+y.length)):=by
  have hS:=sJ (t:=s.data.toList.drop (a+1)) hb (by rw[← hd];exact hp) hq hl hdg;rw[← hd,hg]at hS;rw[hT];conv=>lhs;rw[hd]
  rw[hd]at hS;rw[P11.iI hS,← hd,ir]
 have HT':=aa hT';have hpre:=λw=>mH s ⟨#[45,45]⟩ a w;rw[show(⟨#[45,45]⟩:ByteArray).data.toList = [45,45]from rfl,hp]at hpre;have HX:=aa hpre;have h39:((s[a].toNat:Int)==39)=false:=ln hq 39 rfl;have hLt:=λw=>kH s[a] w;rw[hl]at hLt;have HL:=aa hLt;have hD:=λw=>ml s[a] w;rw[hdg]at hD;have HD:=aa hD;have hI:=λq v hv=>pb s a v P11.ga bs ba (Xk.exw W q) hv (by decide) (by rw[Xk.qs _ _ _ _ hW.ls];exact hW.cs) (by rw[Xk.qs _ _ _ _ hW.la];exact hW.ca) (by omega) (by omega)
 obtain⟨i,hi,hy⟩:∃i:Nat,fh (nE s a) P11.ga=i/\P11.ga[i]?=some y:=by
  rcases kM (p:=nE s a) P11.ga with⟨h1,h2⟩|⟨q,x,h1,h2,h3⟩
  ·have:P11.fb (s.data.toList.drop a)=none:=h2
   rw[hg]at this;cases this
  ·have:P11.fb (s.data.toList.drop a)=some x:=h3
   rw[hg]at this;cases this;exact⟨q,h1,h2⟩
 rw[hi]at hI;have HI:=aa hI;have HY:=aa hy;have hi17:i<17:=(cP.1 hy).1;have hy0:=hpos.1;clear hI hi hD hLt hpre hT' hd hb hp hq hl hdg hg hy hpos;obtain⟨i0,hi,hz0,hz1,hz2⟩:=ue Tryz.qp;have Hi:=aa hi;have Hz0:=aa hz0;have Hz1:=aa hz1;have Hz2:=aa hz2;clear hi hz0 hz1 hz2;subst hw;unfold Fr at hF;obtain⟨f,rfl⟩:=hF;unfold Pass;generalize hQ:bodyPost ab cZ (fS s w0)=Q;have HQ:=aa hQ;clear hQ;generalize hJL:(λ(l':Nat) (a':Act) (w':World)=>∃m,m<n/\JL w0 s bs B ba m l' a' w')=J;have HJ:=aa hJL;clear hJL;unfold eD cZ;simp only[findLabel];refine⟨_,rfl,?_⟩;have cs:=hW.cs;have ca:=hW.ca;have fa:=hW.fa
 have ls:=hW.ls;have la:=hW.la;have HW:=aa hW;have HN:=aa hn;have HR:=aa hrow;have HT:=aa hT;clear hW hn hrow hT;have hb8:(s[a].toNat:Int)<256:=by have:=s[a].toNat_lt;omega
 go_wp2_with (first|(go_at_call 57;(with_reducible refine(HX.out _).mono ?_);rintro e w' ⟨rfl,rfl⟩)|(go_at_call 58;(with_reducible refine(HL.out _).mono ?_);rintro e w' ⟨rfl,rfl⟩)|(go_at_call 61;(with_reducible refine(HD.out _).mono ?_);rintro e w' ⟨rfl,rfl⟩)|(go_at_call 65;(with_reducible refine(oq _).mono ?_);rintro e w' ⟨x,rfl,hx,hb⟩;obtain⟨p,rfl⟩:=Xk.jO hb;clear hb;(try rw[Xk.jC]at hx);have HS:=aa hx;clear hx)|(go_at_call 64;(with_reducible refine(HI.out _ _ HS.out).mono ?_);rintro e w' ⟨rfl,rfl⟩));have i1:(i:Int)<17:=by omega
 clear HI HS;refine Xk.bL 8 [(1,λv w=>ja w v P11.ga),(7,wD 5 ⟨y.toArray⟩ a)] ⟨λv w w' hx h=>h.ext hx,λv w w'=>wD.ext v w w',trivial⟩ (by kernel_rfl) (by kernel_rfl) ?_;simp only[aA,aS,aG,aT]
 (first
  | (refine Xk.ay (Xk.an (by rfl)) (by rfl) (λK hK=>?_);apply ai;refine⟨λp hp=>?_,?_⟩;(go_simp;exact⟨rfl,rfl⟩);(go_simp;refine hK _ ?_;clear hK K))
  | (refine Xk.bu (by rfl) (λK hK=>?_);go_simp;refine hK _ ?_;clear hK K)
  | (refine Xk.ay (by rfl) (by rfl) (λK hK=>?_);apply ai;refine⟨λp hp=>?_,?_⟩;(go_simp;exact⟨rfl,rfl⟩);(go_simp;refine hK _ ?_;clear hK K)))
 refine Xk.bd (by rfl) (by rfl) (λp hp=>?_) (λx K hK=>?_)
 ·go_simp;go_at_call 65;exact(oq _).mono λe w' ⟨v,he,hs,hb⟩=>⟨v,he,hb,hs⟩
 go_simp;refine hK _ ?_;clear hK K
 (first
  | (refine Xk.ay (Xk.an (by rfl)) (by rfl) (λK hK=>?_);apply ai;refine⟨λp hp=>?_,?_⟩;(go_simp;exact⟨rfl,rfl⟩);(go_simp;refine hK _ ?_;clear hK K))
  | (refine Xk.bu (by rfl) (λK hK=>?_);go_simp;refine hK _ ?_;clear hK K)
  | (refine Xk.ay (by rfl) (by rfl) (λK hK=>?_);apply ai;refine⟨λp hp=>?_,?_⟩;(go_simp;exact⟨rfl,rfl⟩);(go_simp;refine hK _ ?_;clear hK K)))
 refine Xk.ay (Xk.an (by rfl)) (by rfl) (λK hK=>⟨En x i,λp hp=>?_,?_⟩)
 ·obtain⟨b,off,cap,rfl,hc⟩:ja _ x P11.ga:=Xk.bP hp (by kernel_rfl);clear hp hK;have h17:P11.ga.length=17:=rfl;rw[h17];go_simp;exact⟨rfl,rfl⟩
 go_simp;refine hK _ ?_;clear hK K;refine Xk.ay (Xk.an (by rfl)) (by rfl) (λK hK=>⟨.string ⟨y.toArray⟩,λp hp=>?_,?_⟩)
 ·obtain⟨b,off,cap,rfl,hc⟩:ja _ x P11.ga:=Xk.bP hp (by kernel_rfl);clear hp hK;have hcy:=hc i y HY.out;simp only[Xk.kN,Xk.jC,mv]at hcy;go_simp;exact⟨rfl,rfl⟩
 go_simp;refine hK _ ?_;clear hK K
 (first
  | (refine Xk.ay (Xk.an (by rfl)) (by rfl) (λK hK=>?_);apply ai;refine⟨λp hp=>?_,?_⟩;(go_simp;exact⟨rfl,rfl⟩);(go_simp;refine hK _ ?_;clear hK K))
  | (refine Xk.bu (by rfl) (λK hK=>?_);go_simp;refine hK _ ?_;clear hK K)
  | (refine Xk.ay (by rfl) (by rfl) (λK hK=>?_);apply ai;refine⟨λp hp=>?_,?_⟩;(go_simp;exact⟨rfl,rfl⟩);(go_simp;refine hK _ ?_;clear hK K)))
 (first
  | (refine Xk.ay (Xk.an (by rfl)) (by rfl) (λK hK=>?_);apply ai;refine⟨λp hp=>?_,?_⟩;(go_simp;exact⟨rfl,rfl⟩);(go_simp;refine hK _ ?_;clear hK K))
  | (refine Xk.bu (by rfl) (λK hK=>?_);go_simp;refine hK _ ?_;clear hK K)
  | (refine Xk.ay (by rfl) (by rfl) (λK hK=>?_);apply ai;refine⟨λp hp=>?_,?_⟩;(go_simp;exact⟨rfl,rfl⟩);(go_simp;refine hK _ ?_;clear hK K)))
 refine Xk.bd (by rfl) (by rfl) (λp hp=>?_) (λz K hK=>?_)
 ·go_simp;exact⟨(aj _ _).alloc (ag _) _,_,rfl,Xk.rm (by simp)⟩
 go_simp;refine hK _ ?_;clear hK K;refine Xk.bm (λp hp=>?_);obtain⟨b,rfl,hc⟩:wD 5 ⟨y.toArray⟩ a z _:=hp.1;clear hp;rw[Xk.kN,Xk.jC]at hc ⊢;have HC:=aa hc;clear hc
 go_wp2_with (first|(at_builtin;refine Xk.ko (w0:=W) rfl _ _ 61 rfl 72 i0 _ 3 32 jv Hi.out Hz0.out Hz1.out Hz2.out rfl (by decide) v acc.length (cq acc) rfl (by repeat(first|with_reducible exact HR.out|with_reducible refine Xk.ke ?_ _|with_reducible refine Xk.jI ?_|with_reducible exact Xk.uJ HR.out|with_reducible refine Xk.kC (d:=0) ?_)) _ 0 1 1 [.int .i64 5,.string ⟨y.toArray⟩,.int .i64 a] rfl rfl HC.out (by intro u hu;simp only[aI,aC,or_false]at hu;rcases hu with rfl|rfl|rfl<;>rfl) (by omega) Xk.xt ?_;intro v' p' ho';have Ho:=aa ho';clear ho'))
 have j1:IntKind.i64.wrap ((a:Int)+(y.length:Int))=(a:Int)+(y.length:Int):=pn _ (by omega);refine Xk.bL 7 [(1,λv w=>ja w v P11.ga)] ⟨λv w w' hx h=>h.ext hx,trivial⟩ (by kernel_rfl) (by kernel_rfl) ?_;simp only[aA,aS,aG,aT]
 (first
  | (refine Xk.ay (Xk.an (by rfl)) (by rfl) (λK hK=>?_);apply ai;refine⟨λp hp=>?_,?_⟩;(go_simp;exact⟨rfl,rfl⟩);(go_simp;refine hK _ ?_;clear hK K))
  | (refine Xk.bu (by rfl) (λK hK=>?_);go_simp;refine hK _ ?_;clear hK K)
  | (refine Xk.ay (by rfl) (by rfl) (λK hK=>?_);apply ai;refine⟨λp hp=>?_,?_⟩;(go_simp;exact⟨rfl,rfl⟩);(go_simp;refine hK _ ?_;clear hK K)))
 refine Xk.bd (by rfl) (by rfl) (λp hp=>?_) (λx K hK=>?_)
 ·go_simp;go_at_call 65;exact(oq _).mono λe w' ⟨v,he,hs,hb⟩=>⟨v,he,hb,hs⟩
 go_simp;refine hK _ ?_;clear hK K
 (first
  | (refine Xk.ay (Xk.an (by rfl)) (by rfl) (λK hK=>?_);apply ai;refine⟨λp hp=>?_,?_⟩;(go_simp;exact⟨rfl,rfl⟩);(go_simp;refine hK _ ?_;clear hK K))
  | (refine Xk.bu (by rfl) (λK hK=>?_);go_simp;refine hK _ ?_;clear hK K)
  | (refine Xk.ay (by rfl) (by rfl) (λK hK=>?_);apply ai;refine⟨λp hp=>?_,?_⟩;(go_simp;exact⟨rfl,rfl⟩);(go_simp;refine hK _ ?_;clear hK K)))
 refine Xk.ay (Xk.an (by rfl)) (by rfl) (λK hK=>⟨En x i,λp hp=>?_,?_⟩)
 ·obtain⟨b,off,cap,rfl,hc⟩:ja _ x P11.ga:=Xk.bP hp (by kernel_rfl);clear hp hK;have h17:P11.ga.length=17:=rfl;rw[h17];go_simp;exact⟨rfl,rfl⟩
 go_simp;refine hK _ ?_;clear hK K;refine Xk.ay (Xk.an (by rfl)) (by rfl) (λK hK=>⟨.string ⟨y.toArray⟩,λp hp=>?_,?_⟩)
 ·obtain⟨b,off,cap,rfl,hc⟩:ja _ x P11.ga:=Xk.bP hp (by kernel_rfl);clear hp hK;have hcy:=hc i y HY.out;simp only[Xk.kN,Xk.jC,mv]at hcy;go_simp;exact⟨rfl,rfl⟩
 go_simp;refine hK _ ?_;clear hK K
 (first
  | (refine Xk.ay (Xk.an (by rfl)) (by rfl) (λK hK=>?_);apply ai;refine⟨λp hp=>?_,?_⟩;(go_simp;exact⟨rfl,rfl⟩);(go_simp;refine hK _ ?_;clear hK K))
  | (refine Xk.bu (by rfl) (λK hK=>?_);go_simp;refine hK _ ?_;clear hK K)
  | (refine Xk.ay (by rfl) (by rfl) (λK hK=>?_);apply ai;refine⟨λp hp=>?_,?_⟩;(go_simp;exact⟨rfl,rfl⟩);(go_simp;refine hK _ ?_;clear hK K)))
 (first
  | (refine Xk.ay (Xk.an (by rfl)) (by rfl) (λK hK=>?_);apply ai;refine⟨λp hp=>?_,?_⟩;(go_simp;exact⟨rfl,rfl⟩);(go_simp;refine hK _ ?_;clear hK K))
  | (refine Xk.bu (by rfl) (λK hK=>?_);go_simp;refine hK _ ?_;clear hK K)
  | (refine Xk.ay (by rfl) (by rfl) (λK hK=>?_);apply ai;refine⟨λp hp=>?_,?_⟩;(go_simp;exact⟨rfl,rfl⟩);(go_simp;refine hK _ ?_;clear hK K)))
 refine Xk.bm (λp hp=>?_);clear hp j1;go_wp2;go_step3;simp only[gF,Exit.then,Xk.gg,↓reduceIte];rw[← HJ.out]
 have ho:(Xk.exw W p').ownsRow W.heap.size 72 3 v' (acc ++ [(⟨5,y,a⟩:P11.Tok)]).length (cq (acc ++ [(⟨5,y,a⟩:P11.Tok)])):=by
  rw[iu,aB];exact Ho.out
 exact tF HW.out (a+y.length) (by rw[HN.out];omega) (by omega) hlen rfl (by rw[aB,cU];omega) (Fr.of (by kernel_rfl)) (by first|exact Xk.kC (d:=0) (Xk.uJ ho)|exact ho) HT'.out
end Go.Proofs.YtkpmclddjkebeaaGreatDoor
namespace P11
theorem oT(d:UInt8):∀ (l:List UInt8),d∉l->(l.takeWhile (· !=d)).length=l.length
 | [],_=>rfl
 | c::l,h=>by
  have hc:(c !=d)=true:=by rw[bne_iff_ne];intro e;exact h (by rw[e];exact cy ..)
  rw[cX,hc,aK,aK,oT d l (λm=>h (cO _ m))]
theorem pV(d:UInt8):∀ (l:List UInt8) (n:Nat),d∉l.take n->l.drop n=d::l.drop (n+1)->(l.takeWhile (· !=d)).length=n
 | [],n,_,h=>by simp at h
 | c::l,0,_,h=>by
  simp at h;subst h;simp[cX]
 | c::l,n+1,h,h'=>by
  rw[aA]at h;have hc:(c !=d)=true:=by rw[bne_iff_ne];intro e;exact h (by rw[e];exact cy ..)
  rw[cX,hc,aK,pV d l n (λm=>h (cO _ m)) (by simpa using h')]
theorem Cg{r:List UInt8}(h:([45,45]:List UInt8).isPrefixOf r=true):∃c t,r=c::t/\step (c::t) = .inl (jA (c::t),none)/\0<jA (c::t):=by
 cases r with
 | nil=>simp[cL]at h
 | cons c t=>
  have hc:c=45:=by simp[cL]at h;exact h.1.symm
  refine⟨c,t,rfl,?_,?_⟩
  ·rw[step,if_neg (by rw[hc];decide),if_pos h]
  ·unfold jA;subst hc;simp[cX]
theorem Ce{r:List UInt8}(h:([39]:List UInt8).isPrefixOf r=true):∃t,r=39::t/\step (39::t)=match cR t with
   | none => .inr (0,112)
   | some x=>if((39::t).take (x.2+1)).contains 0 then .inr (((39::t).take (x.2+1)).idxOf 0,111)else .inl (x.2+1,some (4,x.1)):=by
 cases r with
 | nil=>simp[cL]at h
 | cons c t=>
  have hc:c=39:=by simp[cL]at h;exact h.symm
  subst hc;exact⟨t,rfl,by rw[step,if_neg (by decide),if_neg (by simp[cL]),if_pos rfl];rfl⟩
theorem Fv(d:UInt8):∀ (l:List UInt8) (n:Nat),d∉l.take n->l.drop n=d::l.drop (n+1)->l.idxOf d=n
 | [],n,_,h=>by simp at h
 | c::l,0,_,h=>by
  simp at h;subst h;simp
 | c::l,n+1,h,h'=>by
  rw[aA]at h;have hc:c≠d:=by intro e;exact h (by rw[e];exact cy ..)
  have e:=Fv d l n (λm=>h (cO _ m)) (by simpa using h');have hb:(c==d)=false:=by simpa using hc
  simp[List.idxOf_cons,hb,e]
end P11
namespace Go.Proofs.YtkpmclddjkebeaaGreatDoor
open Go.RowKit Go.Maps
theorem Fe(s:ByteArray)(a b:Nat)(c:UInt8)(k v:Int)(hk:k.toNat.toUInt8=c)(h:qI ((s.data.toList.drop a).take (b-a)) c=v)(w:World):
  Calls ab 67 #[.string (s.extract a b),.int .u8 k] w λe w'=>e = .returned (.int .i64 v)/\w=w':=by
 refine(Tryz.strings_IndexByte _ _ _).mono ?_;rintro e w' ⟨rfl,rfl⟩;refine⟨?_,rfl⟩;rw[nw,← h,hk]
theorem K2{w0:World}{s:ByteArray}{bs B ba n:Nat}{act:Act}{w:World}(W:World)(p:Regrown)(a:Nat)(v:Value)(acc:List P11.Tok)(hw:w=Xk.exw W p)(hW:LW w0 s bs B ba W a)(hs:s.size≤4096)
  (hn:n=2*(s.size-a)) (hacc:acc.length≤a) (hF:Fr s bs B ba v act) (hrow:(Xk.exw W p).ownsRow W.heap.size 72 3 v acc.length (cq acc)) (hT:P11.toks s.data.toList 0=P11.after acc (P11.toks (s.data.toList.drop a) a)) (ha:a≤s.size) (hp:([45,45]:List UInt8).isPrefixOf (s.data.toList.drop a)=true):Pass w0 s bs B ba n 1 act w:=by
 obtain⟨c,t,hd,hstep,hpos⟩:=P11.Cg hp
 have hT':P11.toks s.data.toList 0=P11.after acc (P11.toks (s.data.toList.drop (a+P11.jA (s.data.toList.drop a))) (a+P11.jA (s.data.toList.drop a))):=by
  rw[hT];conv=>lhs;rw[hd]
  rw[P11.pK hstep,← hd,ir]
 rw[← hd]at hpos
 have hlt:a<s.size:=by
  have:=congrArg List.length hd;simp at this;omega
 rcases P11.lp 10 (s.data.toList.drop a)with⟨e1,e2⟩|⟨k,e1,e2,e3,e4⟩
 ·have HX:=aa (λw=>vR s a 10 10 _ rfl e1 w)
  have hl:P11.jA (s.data.toList.drop a)=s.size-a:=by
   unfold P11.jA;rw[P11.oT 10 _ e2];simp
  rw[hl,show a+(s.size-a)=s.size by omega]at hT';have HT':=aa hT';clear hT' hl e1 e2 hd hstep hpos hp;subst hw;unfold Fr at hF;obtain⟨f,rfl⟩:=hF;unfold Pass;generalize hQ:bodyPost ab cZ (fS s w0)=Q;have HQ:=aa hQ;clear hQ;generalize hJL:(λ(l':Nat) (a':Act) (w':World)=>∃m,m<n/\JL w0 s bs B ba m l' a' w')=J;have HJ:=aa hJL;clear hJL;unfold eD cZ;simp only[findLabel];refine⟨_,rfl,?_⟩;have cs:=hW.cs;have ca:=hW.ca;have fa:=hW.fa;have ls:=hW.ls;have la:=hW.la;have HW:=aa hW;have HN:=aa hn;have HR:=aa hrow;have HT:=aa hT;clear hW hn hrow hT
  have hz:(a:Int)+((s.size:Int)-(a:Int))=(s.size:Int):=by omega
  go_wp2_with (go_at_call 67;(with_reducible refine(HX.out _).mono ?_);rintro e w' ⟨rfl,rfl⟩);go_step3;simp only[gF,Exit.then,Xk.gg,↓reduceIte];rw[← HJ.out];exact tF HW.out s.size (by rw[HN.out];omega) hlt (ag _) (by rfl) (by omega) (Fr.of (by kernel_rfl)) HR.out HT'.out
 ·have HX:=aa (λw=>vR s a 10 10 _ rfl e1 w);have hl:P11.jA (s.data.toList.drop a)=k:=P11.pV 10 _ k e3 e4;rw[hl]at hT' hpos;have hk:a+k<s.size:=by simp at e2;omega
  have HT':=aa hT';clear hT' hl e1 e2 e3 e4 hd hstep hp;subst hw;unfold Fr at hF;obtain⟨f,rfl⟩:=hF;unfold Pass;generalize hQ:bodyPost ab cZ (fS s w0)=Q;have HQ:=aa hQ;clear hQ;generalize hJL:(λ(l':Nat) (a':Act) (w':World)=>∃m,m<n/\JL w0 s bs B ba m l' a' w')=J;have HJ:=aa hJL;clear hJL;unfold eD cZ;simp only[findLabel];refine⟨_,rfl,?_⟩;have cs:=hW.cs;have ca:=hW.ca;have fa:=hW.fa;have ls:=hW.ls;have la:=hW.la;have HW:=aa hW;have HN:=aa hn;have HR:=aa hrow;have HT:=aa hT;clear hW hn hrow hT;go_wp2_with (go_at_call 67;(with_reducible refine(HX.out _).mono ?_);rintro e w' ⟨rfl,rfl⟩);go_step3
  simp only[gF,Exit.then,Xk.gg,↓reduceIte];rw[← HJ.out];exact tF HW.out (a+k) (by rw[HN.out];omega) (by omega) (by omega) rfl (by omega) (Fr.of (by kernel_rfl)) HR.out HT'.out
theorem zA(a:Nat):sE a none = .tuple #[.int .i64 0,.string ⟨#[]⟩,.bool false]:=rfl
theorem zz(a:Nat)(t:List UInt8)(n:Nat):sE a (some (t,n)) = .tuple #[.int .i64 ((a+1+n:Nat):Int),.string ⟨t.toArray⟩,.bool true]:=rfl
theorem K0{w0:World}{s:ByteArray}{bs B ba n:Nat}{act:Act}{w:World}(W:World)(p:Regrown)(a:Nat)(v:Value)(acc:List P11.Tok)(hw:w=Xk.exw W p)(hW:LW w0 s bs B ba W a)(hs:s.size≤4096)
  (hn:n=2*(s.size-a)) (hacc:acc.length≤a) (hF:Fr s bs B ba v act) (hrow:(Xk.exw W p).ownsRow W.heap.size 72 3 v acc.length (cq acc)) (hT:P11.toks s.data.toList 0=P11.after acc (P11.toks (s.data.toList.drop a) a)) (ha:a≤s.size) (hp:([39]:List UInt8).isPrefixOf (s.data.toList.drop a)=true):Pass w0 s bs B ba n 2 act w:=by
 obtain⟨t,hd,hstep⟩:=P11.Ce hp
 have hlt:a<s.size:=by
  have:=congrArg List.length hd;simp at this;omega
 have ht:s.data.toList.drop (a+1)=t:=by
  have:=drop_at s a hlt;rw[hd]at this;exact(List.cons.inj this).2.symm
 have htx:=λw=>D2 s a hlt (by omega) w;rw[ht]at htx
 cases hx:P11.cR t with
 | none=>
  rw[hx]at hstep htx
  have hL:P11.ff s.data.toList = .inr (a,112):=by
   rw[P11.ff,if_neg (by show ¬ 4096<s.size;omega),hT,hd,P11.rz hstep];rfl
  rw[zA]at htx;have HL:=aa hL;have HX:=aa htx;clear hL htx hstep hx hd ht hp;subst hw;unfold Fr at hF;obtain⟨f,rfl⟩:=hF;unfold Pass;generalize hQ:bodyPost ab cZ (fS s w0)=Q;have HQ:=aa hQ;clear hQ;generalize hJL:(λ(l':Nat) (a':Act) (w':World)=>∃m,m<n/\JL w0 s bs B ba m l' a' w')=J;have HJ:=aa hJL;clear hJL;unfold eD cZ;simp only[findLabel];refine⟨_,rfl,?_⟩;have cs:=hW.cs;have ca:=hW.ca;have fa:=hW.fa;have ls:=hW.ls;have la:=hW.la;have HW:=aa hW;have HN:=aa hn;have HR:=aa hrow;have HT:=aa hT;clear hW hn hrow hT
  go_wp2_with (go_at_call 68;(with_reducible refine(HX.out _).mono ?_);rintro e w' ⟨rfl,rfl⟩);refine Xk.reg 4 (Xk.w0 λp=>?_);go_wp2;rw[← HQ.out];go_ret3;exact⟨HW.out.below.trans ((aj _ _).trans (by first|exact(Xk.cm W _).mono HW.out.below.size|(rw[Xk.kN,Xk.jC];exact(Xk.cm W _).mono HW.out.below.size))),.inr ⟨a,112,HL.out,rfl⟩⟩
 | some x=>
  obtain⟨u,k⟩:=x;rw[hx,zz]at htx;rw[hx]at hstep;dsimp only at hstep;have hk:=P11.mA _ t (ag _) (u,k) hx;dsimp only at hk;have hk2:a+1+k≤s.size:=by rw[← ht]at hk;simp at hk;omega
  have hq:(s.data.toList.drop a).take (a+1+k-a)=(39::t).take (k+1):=by rw[hd];congr 1;omega
  rcases P11.lp 0 ((39::t).take (k+1))with⟨e1,e2⟩|⟨j,e1,e2,e3,e4⟩
  ·have HI:=aa (λw=>Fe s a (a+1+k) 0 0 (-1) rfl (by rw[hq];exact e1) w);rw[if_neg (by simpa using e2)]at hstep
   have hT':P11.toks s.data.toList 0=P11.after (acc ++ [⟨4,u,a⟩]) (P11.toks (s.data.toList.drop (a+1+k)) (a+1+k)):=by
    rw[hT,hd,P11.iI hstep,← hd,ir,show a+(k+1)=a+1+k by omega]
   have HT':=aa hT';have HX:=aa htx;clear hT' htx hstep hx hd ht hp hq e1 e2;have haq:a<a+1+k:=by omega
   generalize a+1+k=q at *
   obtain⟨i0,hi,hz0,hz1,hz2⟩:=ue Tryz.qp;have Hi:=aa hi;have Hz0:=aa hz0;have Hz1:=aa hz1;have Hz2:=aa hz2;clear hi hz0 hz1 hz2;subst hw;unfold Fr at hF;obtain⟨f,rfl⟩:=hF;unfold Pass;generalize hQ:bodyPost ab cZ (fS s w0)=Q;have HQ:=aa hQ;clear hQ;generalize hJL:(λ(l':Nat) (a':Act) (w':World)=>∃m,m<n/\JL w0 s bs B ba m l' a' w')=J;have HJ:=aa hJL;clear hJL;unfold eD cZ;simp only[findLabel];refine⟨_,rfl,?_⟩;have cs:=hW.cs;have ca:=hW.ca;have fa:=hW.fa;have ls:=hW.ls;have la:=hW.la;have HW:=aa hW;have HN:=aa hn;have HR:=aa hrow;have HT:=aa hT;clear hW hn hrow hT;have q2:(a:Int)≤(q:Int):=by omega
   have q3:(q:Int)≤(s.size:Int):=by omega
   have q4:(a:Int)≤(s.size:Int):=by omega
   go_wp2_with (first|(go_at_call 68;(with_reducible refine(HX.out _).mono ?_);rintro e w' ⟨rfl,rfl⟩)|(go_at_call 67;(with_reducible refine(HI.out _).mono ?_);rintro e w' ⟨rfl,rfl⟩)|(at_builtin;refine Xk.ko (w0:=W) rfl _ _ 61 rfl 72 i0 _ 3 32 jv Hi.out Hz0.out Hz1.out Hz2.out rfl (by decide) v acc.length (cq acc) rfl (by repeat(first|with_reducible exact HR.out|with_reducible refine Xk.ke ?_ _|with_reducible refine Xk.jI ?_|with_reducible exact Xk.uJ HR.out|with_reducible refine Xk.kC (d:=0) ?_)) _ 0 1 1 [.int .i64 4,.string ⟨u.toArray⟩,.int .i64 a] rfl rfl (Xk.rm (by simp)) (by intro u hu;simp only[aI,aC,or_false]at hu;rcases hu with rfl|rfl|rfl<;>rfl) (by omega) Xk.xt ?_;intro v' p' ho';have Ho:=aa ho';clear ho'))
   go_step3;simp only[gF,Exit.then,Xk.gg,↓reduceIte];rw[← HJ.out]
   have ho:(Xk.exw W p').ownsRow W.heap.size 72 3 v' (acc ++ [(⟨4,u,a⟩:P11.Tok)]).length (cq (acc ++ [(⟨4,u,a⟩:P11.Tok)])):=by
    rw[iu,aB];exact Ho.out
   exact tF HW.out q (by rw[HN.out];omega) haq hk2 rfl (by rw[aB,cU];omega) (Fr.of (by kernel_rfl)) ho HT'.out
  ·have HI:=aa (λw=>Fe s a (a+1+k) 0 0 j rfl (by rw[hq];exact e1) w);have hj:j≤k:=by simp at e2;omega
   have hc:((39::t).take (k+1)).contains 0=true:=by
    have:(0:UInt8)∈((39::t).take (k+1)).drop j:=by rw[e4];exact cy ..
    simpa using List.mem_of_mem_drop this
   rw[if_pos hc,P11.Fv 0 _ j e3 e4]at hstep
   have hL:P11.ff s.data.toList = .inr (a+j,111):=by
    rw[P11.ff,if_neg (by show ¬ 4096<s.size;omega),hT,hd,P11.rz hstep]
   have HL:=aa hL;have HX:=aa htx;clear hL htx hstep hx hd ht hp hq e1 e2 e3 e4 hc;have haq:a+j<a+1+k:=by omega
   generalize a+1+k=q at *
   subst hw;unfold Fr at hF;obtain⟨f,rfl⟩:=hF;unfold Pass;generalize hQ:bodyPost ab cZ (fS s w0)=Q;have HQ:=aa hQ;clear hQ;generalize hJL:(λ(l':Nat) (a':Act) (w':World)=>∃m,m<n/\JL w0 s bs B ba m l' a' w')=J;have HJ:=aa hJL;clear hJL;unfold eD cZ;simp only[findLabel];refine⟨_,rfl,?_⟩;have cs:=hW.cs;have ca:=hW.ca;have fa:=hW.fa;have ls:=hW.ls;have la:=hW.la;have HW:=aa hW;have HN:=aa hn;have HR:=aa hrow;have HT:=aa hT;clear hW hn hrow hT;have q2:(a:Int)≤(q:Int):=by omega
   have q3:(q:Int)≤(s.size:Int):=by omega
   have q4:(a:Int)≤(s.size:Int):=by omega
   go_wp2_with (first|(go_at_call 68;(with_reducible refine(HX.out _).mono ?_);rintro e w' ⟨rfl,rfl⟩)|(go_at_call 67;(with_reducible refine(HI.out _).mono ?_);rintro e w' ⟨rfl,rfl⟩));have q5:IntKind.i64.wrap ((a:Int)+(j:Int))=(a:Int)+(j:Int):=pn _ (by omega);refine Xk.reg 6 (Xk.w0 λp=>?_);go_wp2;rw[← HQ.out];go_ret3;exact⟨HW.out.below.trans ((aj _ _).trans (by first|exact(Xk.cm W _).mono HW.out.below.size|(rw[Xk.kN,Xk.jC];exact(Xk.cm W _).mono HW.out.below.size))),.inr ⟨a+j,111,HL.out,rfl⟩⟩
end Go.Proofs.YtkpmclddjkebeaaGreatDoor
namespace Go.Proofs.YtkpmclddjkebeaaGreatDoor
open Go.RowKit Go.Maps
theorem tz{J J':Nat->Act->World->Prop}{Q:Exit->Act->World->Prop}(h:∀l a w,J l a w->J' l a w){e:Exit}{a:Act}{w:World}(hq:Xk.jumps J Q e a w):Xk.jumps J' Q e a w:=by
 cases e<;>first|exact h _ _ _ hq|exact hq
structure ze(s:ByteArray)(w0:World)(bw k:Nat)(wr:World):Prop where
 below:Below w0.heap.size w0 wr
 words:jE wr (w0.heap.size+1) k
 cs:wr.cell? ⟨w0.heap.size,0,none⟩=some (.string s)
 cw:∀ (j:Nat) (x:List UInt8),P11.words[j]?=some x->wr.cell? ⟨bw,j,none⟩=some (.string ⟨x.toArray⟩)
 lw:bw<wr.heap.size
 ls:w0.heap.size+1<wr.heap.size
 nb:bw≠w0.heap.size+1
theorem ze.grown{s:ByteArray}{w0 wr wr':World}{bw k k':Nat}(h:ze s w0 bw k wr)(hg:wr.grownBy wr' (some (w0.heap.size+1)))(hw:jE wr' (w0.heap.size+1) k'):ze s w0 bw k' wr' where
 below:=h.below.grown hg h.below.size (λj hj=>by cases hj;omega)
 words:=hw
 cs:=by rw[← h.cs];exact vl (hg.block _ (by have:=h.ls;dsimp only;omega) (by simp))
 cw:=λj x hj=>by rw[← h.cw j x hj];exact vl (hg.block _ h.lw (by simpa using h.nb))
 lw:=aD h.lw hg.size
 ls:=aD h.ls hg.size
 nb:=h.nb
theorem LW.start{s:ByteArray}{w0 wr:World}{bw:Nat}(h:ze s w0 bw 43 wr):LW w0 s w0.heap.size (w0.heap.size+1) wr.heap.size (wr.alloc (.cells #[.int .i64 0] 3)) 0 where
 below:=h.below.alloc h.below.size _
 cs:=by rw[World.cell?_alloc_lt (h:=by have:=h.ls;dsimp only;omega)];exact h.cs
 ca:=by rw[jM];rfl
 fa:=by simp
 words:=h.words.ext ((aj _ _).alloc (ag _) _)
 ls:=by have:=h.ls;simp;omega
 la:=by simp
 ha:=h.below.size
 ne:=by have:=h.ls;omega
 nB:=by have:=h.ls;omega
theorem FE(w:World):Xk.exw w ⟨w.drawn,#[]⟩=w:=by
 simp[Xk.exw,nr,redrawn]
theorem JL.start{w0:World}{s:ByteArray}{bs B ba:Nat}{W:World}{act:Act}(hW:LW w0 s bs B ba W 0)(hF:Fr s bs B ba (.slice none 0 0) act):JL w0 s bs B ba (2*s.size+1) 0 act W:=
 .inl ⟨rfl,W,⟨W.drawn,#[]⟩,0,.slice none 0 0,[],(FE W).symm,hW,fP _,rfl,ag _,hF,gL _ _ _ _,by rw[P11.mn];rfl⟩
theorem xG{w0:World}{s:ByteArray}{bs B ba n l:Nat}{act:Act}{w:World}(hJ:JL w0 s bs B ba n l act w)(hs:s.size≤4096):Pass w0 s bs B ba n l act w:=by
 rcases hJ with⟨rfl,W,p,a,v,acc,hw,hW,ha,hn,hacc,hF,hrow,hT⟩|⟨rfl,W,p,a,v,acc,hw,hW,ha,hn,hacc,hF,hrow,hT,hp⟩|⟨rfl,W,p,a,v,acc,hw,hW,ha,hn,hacc,hF,hrow,hT,hp⟩
 ·by_cases hlt:a<s.size
  ·cases hb:P11.blank s[a]
   ·cases hp:([45,45]:List UInt8).isPrefixOf (s.data.toList.drop a)
    ·by_cases hq:s[a]=39
     ·exact CP W p a v acc hw hW hs hn hacc hF hrow hT hlt hq
     ·cases hl:P11.dm s[a]
      ·cases hd:P11.digit s[a]
       ·cases hg:P11.fb (s.data.toList.drop a)with
        | none=>exact Ew W p a v acc hw hW hs hn hacc hF hrow hT hlt hb hp hq hl hd hg
        | some y=>exact CQ W p a v acc hw hW hs hn hacc hF hrow hT hlt hb hp hq hl hd hg
       ·exact Ab W p a v acc hw hW hs hn hacc hF hrow hT hlt hd
      ·exact xF W p a v acc hw hW hs hn hacc hF hrow hT hlt hl
    ·exact CR W p a v acc hw hW hs hn hacc hF hrow hT hlt hb hp
   ·exact Ac W p a v acc hw hW hs hn hacc hF hrow hT hlt hb
  ·exact Ev W p a v acc hw hW hs hn hacc hF hrow hT (by omega)
 ·exact K2 W p a v acc hw hW hs hn hacc hF hrow hT ha hp
 ·exact K0 W p a v acc hw hW hs hn hacc hF hrow hT ha hp
theorem wK(w:World):Calls ab 56 #[] w λe w'=>e = .returned (.slice (some ⟨w.heap.size,0,none⟩) 43 43)/\(∀ (j:Nat) (x:List UInt8),P11.words[j]?=some x->w'.cell? ⟨w.heap.size,j,none⟩=some (.string ⟨x.toArray⟩))/\Below w.heap.size w w'/\w.heap.size<w'.heap.size:=by
 go_enter Tryz.func56,Tryz.ntmps56;go_wp2;go_ret;refine⟨rfl,λj x hj=>?_,Xk.xt,by simp⟩;rw[jM]
 have hC:∀C:Array Value,C.toList=P11.words.map (λx=>bp ⟨x.toArray⟩)->C[j]?=some (.string ⟨x.toArray⟩):=λC hC=>by
  rw[← ib,hC,jc,hj];rfl
 exact hC _ (by kernel_rfl)
theorem Co(k:Nat)(x:List UInt8)(h:P11.words[k]?=some x):P11.xk (k+1)=(P11.xk k).put (.string x) (.agg []):=by
 obtain⟨hk,rfl⟩:=cP.1 h;unfold P11.xk;rw[List.take_succ_eq_append_getElem hk,iS,fX,List.map_nil,setOf_snoc]
theorem zm(x:List UInt8)(k:Nat)(h:P11.words[k]?=some x):x.length≤100:=by
 have:P11.words.all (λx=>decide (x.length≤100))=true:=by decide
 simpa using bA.1 this x (rC h)
theorem sD(s:ByteArray)(w:World):Calls ab 17 #[.string s] w (fS s w):=by
 have hmm:=@run_makeMap ab;generalize hQ:fS s w=R;have HQ:=aa hQ;clear hQ;go_enter Tryz.func17,Tryz.ntmps17;go_wp2;refine Xk.sh (λn l a w'=>s.size≤4096/\∃bs B ba,JL w s bs B ba n l a w') ?_ ?_
 ·go_wp2_with (go_at_call 56;(with_reducible refine(wK _).mono ?_);rintro e w' ⟨rfl,hc,hb,hz⟩;obtain⟨p,rfl⟩:=Xk.jO hb;clear hb;have HC:=aa hc;have HZ:=aa hz;clear hc hz);go_loopw [7,18] (λ_ x wr=>∃k:Nat,k≤43/\x = .int .i64 k/\ze s w (w.heap.size+2) k wr) (λ_ x _=>43-(intOf x).toNat)
  case atStart=>
   refine⟨0,by omega,rfl,⟨Xk.xt,?_,?_,?_,?_,?_,by omega⟩⟩
   ·refine jE.ext ?_ (Xk.cm _ _);have h:=uf (w.alloc (.cells #[.string s] 9)) ab 9 (unitElem (H:=Unit));rw[af]at h;exact h
   ·go_simp
   ·intro j x hj;have:=HC.out j x hj;simpa using this
   ·have:=HZ.out;simp at this ⊢;omega
   ·simp;omega
  case round=>
   obtain⟨k,hk,rfl,hL⟩:=hrel;by_cases hlt:k<43
   ·have hx:P11.words[k]?=some (P11.words[k]'hlt):=aU _;have c1:=hL.cw k _ hx;have hsz:=zm _ k hx;have hkey:=WideMaps.keyOf_string_mk fy (s:=⟨(P11.words[k]'hlt).toArray⟩) (by show(P11.words[k]'hlt).toArray.size≤maxLen;rw[ar];unfold maxLen;omega);have hset:=Co k _ hx;generalize P11.words[k]'hlt=x at *
    have hown:=hL.words;have HO:=aa hown;have HL:=aa hL;have HK:=aa hkey;have HS:=aa hset;clear hL hkey hset hown hx;have k1:(k:Int)<43:=by omega
    go_wp2_with (at_mapUpdate;refine wpList_mapUpdate_own _ rfl _ _ _ 112 rfl 9 114 Aw rF (unitElem (H:=Unit)) (w.heap.size+1) k _ rfl HO.out (by unfold maxLen;omega) _ _ _ rfl rfl HK.out _ [] unitElem_mk ?_;intro w1 hown1 hgrow1;have HO1:=aa hown1;have HG1:=aa hgrow1;clear hown1 hgrow1);go_roundw
    case rel=>exact⟨k+1,by omega,by go_num,HL.out.grown HG1.out (by unfold jE;rw[HS.out];exact HO1.out)⟩
    case measure=>simp[intOf];omega
   ·obtain rfl:k=43:=by omega
    clear hk hlt;by_cases hs:4096<s.size
    ·have c1:=hL.cs;have l1:=hL.ls;have l0:w.heap.size<wr.heap.size:=by omega
     have HL:=aa hL;clear hL;have s1:(4096:Int)<(s.size:Int):=by omega
     go_wp2;go_ret3;rw[← HQ.out];exact⟨HL.out.below.alloc HL.out.below.size _,.inr ⟨0,110,by rw[P11.ff,if_pos (show 4096<s.data.toList.length from hs)],rfl⟩⟩
    ·have c1:=hL.cs;have l1:=hL.ls;have l0:w.heap.size<wr.heap.size:=by omega
     have HL:=aa hL;clear hL;have s1:¬ (4096:Int)<(s.size:Int):=by omega
     go_wp2;go_step3;simp only[Exit.then];rename_i hK;refine hK _ _ ?_;clear hK;have hW:LW w s w.heap.size (w.heap.size+1) wr.heap.size (wr.alloc (.cells #[.int .i64 0] 3)) 0:=LW.start HL.out;obtain⟨rest,h1,h2⟩:=xG (JL.start hW (Fr.of (by kernel_rfl))) (Nat.le_of_not_lt hs);have e:=h1.symm.trans (rfl:findLabel eD 0=some (Code.skip.seq _));injection e with e
     injection e with _ e
     rw[e]at h2;have h3:=wp_mono h2 (λe a w h=>tz (J':=λl a' w'=>∃n,s.size≤4096/\∃bs B ba,JL _ s bs B ba n l a' w') (λl a w ⟨m,hm,hj⟩=>⟨m,Nat.le_of_not_lt hs,_,_,_,hj⟩) h);rw[HQ.out]at h3;exact h3
 ·rintro n l a w' ⟨hs,bs,B,ba,hJ⟩;obtain⟨rest,h1,h2⟩:=xG hJ hs;refine⟨_,h1,?_⟩;refine wp_seq (wp_skip ?_);have h3:=wp_mono h2 (λe a w h=>tz (J':=λl a' w'=>∃m,m<n/\s.size≤4096/\∃bs B ba,JL _ s bs B ba m l a' w') (λl a w ⟨m,hm,hj⟩=>⟨m,hm,hs,bs,B,ba,hj⟩) h);rw[HQ.out]at h3;exact h3
end Go.Proofs.YtkpmclddjkebeaaGreatDoor
namespace Go.Proofs.YtkpmclddjkebeaaGreatDoor
open Go.RowKit Go.Maps
def KK(b off:Nat)(l:List P11.Tok)(w:World):Prop:=
 b<w.heap.size/\∀ (j:Nat) (t:P11.Tok),l[j]?=some t ->
  w.cell? ⟨b,off+j*3,none⟩=some (.int .i64 t.kind)/\w.cell? ⟨b,off+j*3+1,none⟩=some (.string ⟨t.text.toArray⟩)/\w.cell? ⟨b,off+j*3+2,none⟩=some (.int .i64 t.pos)
theorem E3{s:List UInt8}{l:List P11.Tok}(h:P11.ff s = .inl l):l ≠ []:=by
 unfold P11.ff at h;split at h
 ·cases h
 ·obtain⟨l',rfl,-⟩:=P11.od _ s 0 l (ag _) h;simp
theorem zv(s:ByteArray)(l:List P11.Tok)(h:P11.ff s.data.toList = .inl l)(w:World):
  Calls ab 17 #[.string s] w λe w'=>∃b off cap,e = .returned (.tuple #[.slice (some ⟨b,off,none⟩) l.length cap,.int .i64 0,.int .i64 0])/\KK b off l w'/\l.length≤cap/\Below w.heap.size w w':=by
 refine(sD s w).mono ?_;rintro e w' ⟨hb,⟨l',v,h1,rfl,pa,cap,rfl,hc⟩|⟨a,k,h1,-⟩⟩
 ·rw[h]at h1
  cases h1;have hne:=E3 h;have h0:l[0]?=some (l[0]'(List.length_pos_iff.2 hne)):=aU _;obtain⟨b,off,rfl,c1,-,-,hcap⟩:=hc 0 _ h0;refine⟨b,off,cap,rfl,⟨al w' _ c1,λj t hj=>?_⟩,hcap,hb⟩;obtain⟨b',off',e,h2,h3,h4,-⟩:=hc j t hj
  cases e;exact⟨h2,h3,h4⟩
 ·rw[h]at h1;cases h1
theorem zw(s:ByteArray)(a:Nat)(k:Int)(h:P11.ff s.data.toList = .inr (a,k))(w:World):
  Calls ab 17 #[.string s] w λe w'=>e = .returned (.tuple #[.slice none 0 0,.int .i64 a,.int .i64 k])/\Below w.heap.size w w':=by
 refine(sD s w).mono ?_;rintro e w' ⟨hb,⟨l',v,h1,-⟩|⟨a',k',h1,rfl⟩⟩
 ·rw[h]at h1;cases h1
 ·rw[h]at h1;cases h1;exact⟨rfl,hb⟩
theorem bE{x y:ByteArray}(h:x.data.toList=y.data.toList):x=y:=by
 obtain⟨x⟩:=x;obtain⟨y⟩:=y;simp at h;rw[h]
end Go.Proofs.YtkpmclddjkebeaaGreatDoor
