/- What the claim's proof leans on, part 3: walks of functions and plain laws. -/
import Derived.Test.YtkpmclddjkebeaaGreatDoorRows
import Derived.Test.YtkpmclddjkebeaaGreatDoorRB
import Derived.Test.YtkpmclddjkebeaaGreatDoorRA
import Derived.WalkSpells
import Derived.WalkLawsBesides
import Derived.Lib.ItoaLen
set_option linter.unusedSimpArgs false
set_option linter.unusedVariables false
set_option maxRecDepth 100000
set_option maxHeartbeats 80000000
open Array renaming getElem?_eq_none→eu
open BitVec renaming ofInt→rq
open Go.ByteArray renaming toList_eq→nT
open Go.Ending renaming returned→cm
open Go.IntWalk renaming i64_in→pb
open Go.Lib renaming hid→aa,indexByte→qF,itoa→lM
open Go.Proofs.Tryz renaming prog→af
open Go.RowKit.Below renaming refl→al
open List renaming mem_iff_getElem?→iZ
open Nat renaming le_refl→ai,le_trans→bI,lt_or_ge→jY
namespace Go.Proofs.YtkpmclddjkebeaaGreatDoor
open Go.RowKit
theorem and_one(i:Int):∃j,bits .and .i64 i 1=j/\j=i % 2:=by
 refine⟨_,rfl,?_⟩;have h2:(0:Int)≤i % ((2 ^ 64:Nat):Int):=Int.emod_nonneg _ ff
 have e:(((rq 64 i &&& rq 64 1).toNat:Nat):Int)=i % 2:=by
  rw[BitVec.toNat_and,BitVec.toNat_ofInt,BitVec.toNat_ofInt,show((1:Int) % ((2 ^ 64:Nat):Int)).toNat=1 from by decide,Nat.and_one_is_mod,Int.natCast_emod,Int.toNat_of_nonneg h2];exact Int.emod_emod_of_dvd _ ff
 show IntKind.wrap .i64 (((rq 64 i &&& rq 64 1).toNat:Nat):Int)=i % 2
 rw[e];have h5:0≤i % 2:=Int.emod_nonneg _ ff;have h6:i % 2<2:=Int.emod_lt_of_pos _ ff;exact pb _ av
theorem EL{a b:Bool}(h:a=b):cm (.bool a) = .returned (.bool b):=by rw[h]
theorem Bj(l:List UInt8):(qF l 0<0)=(l.contains 0=false):=by
 have g:=Lib.indexByte_ge l 0;apply propext;constructor
 ·intro h;have:=Lib.indexByte_none (show qF l 0 = -1 by omega);rw[List.contains_eq_mem,decide_eq_false_iff_not,iZ];rintro⟨k,hk⟩;exact this k hk
 ·intro h;rw[List.contains_eq_mem,decide_eq_false_iff_not,iZ]at h;by_cases hn:qF l 0<0
  ·exact hn
  ·obtain⟨o,ho⟩:=Int.eq_ofNat_of_zero_le (show 0≤qF l 0 by omega);exact absurd ⟨o,(Lib.indexByte_some ho).1⟩ h
theorem FJ(k i:Int)(s:ByteArray)(w:World):
  Calls af 97 #[.agg #[.int .i64 k,.int .i64 i,.string s]] w λe w'=>e = .returned (.bool (P6.isV k i s.data.toList))/\Below w.heap.size w w':=by
 by_cases h0:k=0
 ·subst h0;go_enter Tryz.func97,Tryz.ntmps97;go_wp2_with (go_at_call 67;refine(Tryz.strings_IndexByte _ _ _).mono ?_;rintro e w' ⟨rfl,rfl⟩)
  all_goals
   go_ret;refine⟨EL ?_,(al _ _).alloc (ai _) _⟩;go_light
   simp_all [P6.isV,nT]
 by_cases h1:k=1
 ·subst h1;obtain⟨j,hb,hj⟩:=and_one i;have Hj:=aa hj;clear hj;go_enter Tryz.func97,Tryz.ntmps97;go_wp2_with (go_at_call 67;refine(Tryz.strings_IndexByte _ _ _).mono ?_;rintro e w' ⟨rfl,rfl⟩)
  all_goals
   go_ret;refine⟨EL ?_,(al _ _).alloc (ai _) _⟩;go_light
   have hj:=Hj.out;clear hb;have e:(i=j)↔(i=0∨i=1):=av;clear hj Hj;simp_all [P6.isV,nT]
 by_cases h2:k=2
 ·subst h2;go_enter Tryz.func97,Tryz.ntmps97;go_wp2_with (go_at_call 67;refine(Tryz.strings_IndexByte _ _ _).mono ?_;rintro e w' ⟨rfl,rfl⟩)
  all_goals
   go_ret;refine⟨EL ?_,(al _ _).alloc (ai _) _⟩;go_light
   simp[P6.isV,nT]
 by_cases h3:k=3
 ·subst h3;go_enter Tryz.func97,Tryz.ntmps97;go_wp2_with (go_at_call 67;refine(Tryz.strings_IndexByte _ _ _).mono ?_;rintro e w' ⟨rfl,rfl⟩)
  all_goals
   go_ret;refine⟨EL ?_,(al _ _).alloc (ai _) _⟩;go_light
   clear h0 h1 h2;simp only[P6.isV];have hz:s.data.toList.length=s.size:=rfl;rw[hz];simp_all [Bj];try omega
 ·go_enter Tryz.func97,Tryz.ntmps97;go_wp2_with (go_at_call 67;refine(Tryz.strings_IndexByte _ _ _).mono ?_;rintro e w' ⟨rfl,rfl⟩)
  all_goals
   go_ret;refine⟨EL ?_,(al _ _).alloc (ai _) _⟩;go_light
   simp[P6.isV,h0,h1,h2,h3]
@[reducible] def vv(k i:Int)(s:ByteArray):Value := .agg #[.int .i64 k,.int .i64 i,.string s]
structure V where
 k:Int
 i:Int
 s:ByteArray
structure Env(w:World):Prop where
 tab : Lib.TabIs Tryz.prog w "internal/strconv.uint64pow10" .u64 Lib.pow10Tab
 max:∃m,w.cell? ⟨0,0,none⟩=some (.int .i64 m)
theorem Tryz.FO : Tryz.prog.globalNamed "internal/strconv.uint64pow10" = some 2 := jg
theorem Jp{P:Program}{w:World}{n:String}{g:Nat}{cs:Array Value}(hg:P.globalNamed n=some g)(h:w.var? P n=some cs):g<w.heap.size:=by
 unfold World.var? at h;simp only[hg,Option.bind_some]at h;rcases jY g w.heap.size with h1|h1
 ·exact h1
 ·rw[eu h1]at h;simp at h
theorem Env.ext{w w':World}(h:Env w)(hx:Xk.Ext w w'):Env w':=
 ⟨var?_below hx Tryz.FO (Jp Tryz.FO h.tab) h.tab,let⟨m,hm⟩:=h.max;⟨m,Xk.bO hx hm⟩⟩
theorem DT{a b:ByteArray}(h:a.data.toList=b.data.toList):a=b:=by
 obtain⟨⟨x⟩⟩:=a;obtain⟨⟨y⟩⟩:=b;simp only at h;rw[h]
theorem KO{a b:ByteArray}(h:a.data.toList=b.data.toList):cm (.string a) = .returned (.string b):=by rw[DT h]
theorem tM(n:Int)(h0 : -9223372036854775808≤n)(h1:n≤9223372036854775807)(w:World)(hE:Env w):
  Calls af 123 #[.int .i64 n,.int .i64 10] w λe w'=>e = .returned (.string ⟨(lM n).toArray⟩)/\Below w.heap.size w w':=
 (Tryz.strconv_FormatInt_10 n h0 h1 w hE.tab).mono λe w' ⟨he,k,os,hw⟩=>⟨he,by
  subst hw;exact⟨rfl,rfl,rfl,by simp,λq hq=>by rw[Go.Sort.heap_grow_old _ _ (by simpa using hq)];rfl⟩⟩
theorem yc(s:ByteArray)(hs:s.size≤1000000)(w:World)(hE:Env w):
  Calls af 190 #[.string s,.string ⟨#[39]⟩,.string ⟨#[39,39]⟩] w λe w'=>e = .returned (.string ⟨(P6.dbl s.data.toList).toArray⟩)/\Below w.heap.size w w':=by
 obtain⟨m,hm⟩:=hE.max;have hc:=Lib.countB_mul_le ⟨#[39]⟩ ff s.size s (ai _);have h1:(⟨#[39]⟩:ByteArray).size=1:=rfl;have h2:(⟨#[39,39]⟩:ByteArray).size=2:=rfl;rw[h1]at hc;have:=Tryz.strings_ReplaceAll s ⟨#[39]⟩ ⟨#[39,39]⟩ m w av hm (by rw[h1];omega) (by rw[h2];omega);have e:Lib.replaceAll s.data.toList [39] [39,39]=P6.dbl s.data.toList:=P6.sR _;rwa [show Lib.replaceAll s.data.toList (⟨#[39]⟩:ByteArray).data.toList (⟨#[39,39]⟩:ByteArray).data.toList=P6.dbl s.data.toList from e]at this
theorem C9(k i:Int)(s:ByteArray)(h0 : -9223372036854775808≤i)(h1:i≤9223372036854775807)(w:World)(hE:Env w):
  Calls af 115 #[vv k i s] w λe w'=>e = .returned (.string ⟨(P6.iC k i s.data.toList).toArray⟩)/\Below w.heap.size w w':=by
 have hI:=FJ k i s
 cases hi:P6.isV k i s.data.toList
 ·rw[hi]at hI;have HI:=aa hI;have Hv:Hid (P6.iC k i s.data.toList = [63]):=by show _=_;simp[P6.iC,hi]
  clear hi hI h0 h1;go_enter Tryz.func115,Tryz.ntmps115;go_wp2_with (go_at_call 97;with_reducible refine Xk.cl (HI.out _) λp=>?_);go_ret;exact⟨by rw[Hv.out];rfl,Xk.xt⟩
 rw[hi]at hI;have HI:=aa hI;clear hI;by_cases k0:k=0
 ·subst k0;have Hv:Hid (P6.iC 0 i s.data.toList = [78,85,76,76]):=by show _=_;simp[P6.iC,hi]
  clear hi h0 h1;go_enter Tryz.func115,Tryz.ntmps115;go_wp2_with (go_at_call 97;with_reducible refine Xk.cl (HI.out _) λp=>?_);go_ret;exact⟨by rw[Hv.out];rfl,Xk.xt⟩
 by_cases k1:k=1
 ·subst k1
  have hi01:i=0∨i=1:=by
   rw[P6.isV,if_neg ff,if_pos rfl]at hi;simp at hi;exact hi.1
  rcases hi01 with rfl|rfl
  ·have Hv:Hid (P6.iC 1 0 s.data.toList = [70,65,76,83,69]):=by show _=_;simp[P6.iC,hi]
   clear hi h0 h1 k0;go_enter Tryz.func115,Tryz.ntmps115;go_wp2_with (go_at_call 97;with_reducible refine Xk.cl (HI.out _) λp=>?_);go_ret;exact⟨by rw[Hv.out];rfl,Xk.xt⟩
  ·have Hv:Hid (P6.iC 1 1 s.data.toList = [84,82,85,69]):=by show _=_;simp[P6.iC,hi]
   clear hi h0 h1 k0;go_enter Tryz.func115,Tryz.ntmps115;go_wp2_with (go_at_call 97;with_reducible refine Xk.cl (HI.out _) λp=>?_);go_ret;exact⟨by rw[Hv.out];rfl,Xk.xt⟩
 by_cases k2:k=2
 ·subst k2;have Hv:Hid (P6.iC 2 i s.data.toList=lM i):=by show _=_;simp[P6.iC,hi]
  have HF:=aa (tM i h0 h1);have hE1:∀o p,Env (Xk.exw (w.alloc o) p):=λo p=>hE.ext (Xk.rj ((al _ _).alloc (ai _) _) eQ p);have HE:=aa hE1;clear hi h0 h1 k0 k1 hE1 hE;go_enter Tryz.func115,Tryz.ntmps115;go_wp2_with (first|(go_at_call 97;with_reducible refine Xk.cl (HI.out _) λp=>?_)|(go_at_call 123;with_reducible refine Xk.cl (HF.out _ (HE.out _ _)) λp=>?_));go_ret;exact⟨by rw[Hv.out];rfl,Xk.xt⟩
 by_cases k3:k=3
 ·subst k3
  have hsz:s.size≤40:=by
   rw[P6.isV,if_neg ff,if_neg ff,if_neg ff,if_pos rfl]at hi;simp at hi;exact hi.1.2
  have Hv:Hid (P6.iC 3 i s.data.toList=39::(P6.dbl s.data.toList ++ [39])):=by show _=_;simp[P6.iC,hi,P6.quote]
  have HF:=aa (yc s av);have hl:(P6.dbl s.data.toList).length≤80:=bI (P6.tT _) (by show 2*s.size≤80;omega);generalize P6.dbl s.data.toList=D at *
  have hE1:∀o p,Env (Xk.exw (w.alloc o) p):=λo p=>hE.ext (Xk.rj ((al _ _).alloc (ai _) _) eQ p);have HE:=aa hE1;clear hi h0 h1 k0 k1 k2 hE1 hE;go_enter Tryz.func115,Tryz.ntmps115;go_wp2_with (first|(go_at_call 97;with_reducible refine Xk.cl (HI.out _) λp=>?_)|(go_at_call 190;with_reducible refine Xk.cl (HF.out _ (HE.out _ _)) λp=>?_));go_ret;rw[Hv.out];exact⟨KO eQ,Xk.xt⟩
 ·exact absurd hi (by simp[P6.isV,k0,k1,k2,k3])
end Go.Proofs.YtkpmclddjkebeaaGreatDoor
