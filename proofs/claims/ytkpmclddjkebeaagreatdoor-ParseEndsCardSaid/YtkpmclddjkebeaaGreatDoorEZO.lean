/- Walks: pantilelaw12.ParseEnds. -/
import Derived.Test.YtkpmclddjkebeaaGreatDoorEZB
import Derived.Test.YtkpmclddjkebeaaGreatDoorEZF
import Derived.Test.YtkpmclddjkebeaaGreatDoorEZI
import Derived.Test.YtkpmclddjkebeaaGreatDoorEA
import Derived.BigFrame
set_option linter.unusedSimpArgs false
set_option linter.unusedVariables false
set_option maxRecDepth 100000
set_option maxHeartbeats 8000000
namespace Go.Proofs.YtkpmclddjkebeaaGreatDoor
open Go.RowKit
theorem cell_row {w : World} {g : Nat} {l : List Value} {T : TypeId} (h : w.heap[g]? = some (.cells l.toArray T)) {j : Nat} {v : Value} (hv : l[j]? = some v) : w.cell? ⟨g, j, none⟩ = some v := by simp [World.cell?, h, hv]
theorem same_kind {S : Nat → Prop} {w : World} {x : P12.St} {l : List Value} (h : StmtIn S w x l) (hk : x.kind ≠ 0) :
  Calls Tryz.prog 13 #[.agg l.toArray, .agg zero37.toArray] w fun e w' => e = .returned (.bool false) ∧ Xk.Ext w w' := by
 have hl := h.length
 obtain ⟨tc, tk, tq, kc, cols, rows, sets, wh, items, frm, jn, grp, ord, h⟩ := h
 have h0 : l[0]? = some (.int .i64 x.kind) := by rw [h.form]; rfl
 have HL := Lib.hid hl
 have H0 := Lib.hid h0
 have hkb : (x.kind == 0) = false := by simpa using hk
 obtain ⟨kind, hkind⟩ : ∃ k, k = x.kind := ⟨_, rfl⟩
 rw [← hkind] at H0 hkb hk
 clear h h0 hl hkind
 go_enter Tryz.func13, Tryz.ntmps13
 go_upto_region 1 with fail
 obtain ⟨ha, hb, hx0⟩ := two_new (Below.refl _ _ : Xk.Ext ((w.alloc (stmtO l)).alloc (stmtO zero37)) _)
 generalize (w.alloc (stmtO l)).alloc (stmtO zero37) = w2 at *
 have a0 : w2.cell? ⟨w.heap.size, 0, none⟩ = some (.int .i64 kind) := cell_row ha H0.out
 have b0 : w2.cell? ⟨w.heap.size + 1, 0, none⟩ = some (.int .i64 0) := cell_row hb rfl
 go_wp2_with fail
 go_ret
 exact ⟨rfl, hx0⟩
theorem byteL_at {s : ByteArray} {j : Nat} (h : j < s.size) : s.data.toList[j]? = some s[j] := by
 rw [List.getElem?_eq_getElem (by simpa using (show j < s.data.size from h))]
 exact congrArg some (Array.getElem_toList _)
theorem nd_of {s : ByteArray} {i : Nat} (hi : ¬ i + 1 < s.size) (h : ∀ j (h : j + 1 < s.size), j < i → ¬ (s[j] = 45 ∧ s[j + 1] = 45)) : P11.ND s.data.toList := fun j hj => by
 by_cases hlt : j + 1 < s.size
 ·refine h j hlt (by omega) ?_
  obtain ⟨h1, h2⟩ := hj
  rw [byteL_at (s := s) (j := j) (by omega)] at h1; rw [byteL_at (s := s) (j := j + 1) hlt] at h2
  exact ⟨Option.some.inj h1, Option.some.inj h2⟩
 ·have : s.data.toList[j + 1]? = none := List.getElem?_eq_none (by simpa using (show ¬ j + 1 < s.data.size from hlt))
  rw [this] at hj; exact absurd hj.2 (by simp)
theorem ends_any (s : ByteArray) (hs0 : s.size ≤ maxLen) (k : Nat) (hk : k < 256) (w : World) (hE : Env w) (hP : EnvP w)
  (hSame : ∀ (x : P12.St) (S S' : Nat → Prop) (W : World) (l l' : List Value), P12.isS x → StmtIn S W x l → StmtIn S' W x l' → Calls Tryz.prog 13 #[.agg l.toArray, .agg l'.toArray] W fun e w' => e = .returned (.bool true) ∧ Xk.Ext W w') :
  Calls Tryz.prog 8 #[.string s, .int .u8 k] w fun e w' => e = .returned (.bool true) ∧ Xk.Ext w w' := by
 have HK := Lib.hid (known_12 w hE hP)
 have HS := Lib.hid hSame
 have HP := Lib.hid hP
 have hs : s.size ≤ 9223372036854775807 := Nat.le_trans hs0 (by unfold maxLen; omega)
 clear hSame hE hP hs0
 by_cases h15 : 1500 < s.size
 ·have b15 : (1500 : Int) < (s.size : Int) := by omega
  go_enter Tryz.func8, Tryz.ntmps8
  go_wp2_with fail
  refine (HK.out).mono ?_
  rintro e w1 ⟨rfl, hx1⟩
  go_wp2_with fail
  go_ret
  exact ⟨rfl, hx1⟩
 have b15 : ¬ (1500 : Int) < (s.size : Int) := by omega
 go_enter Tryz.func8, Tryz.ntmps8
 go_wp2_with fail
 refine (HK.out).mono ?_
 rintro e w1 ⟨rfl, hx1⟩
 have HX1 := Lib.hid hx1
 clear hx1 HK
 go_wp2_with fail
 go_loop [5] (fun x => ∃ i : Nat, i ≤ s.size ∧ x = .int .i64 i ∧ Hid (∀ j (h : j + 1 < s.size), j < i → ¬ (s[j] = 45 ∧ s[j + 1] = 45))) (fun x => s.size - (intOf x).toNat)
 case atStart => exact ⟨0, Nat.zero_le _, rfl, Lib.hid fun j h h1 => by omega⟩
 case round =>
  obtain ⟨i, hi, rfl, HJ⟩ := hrel
  by_cases hid : i + 1 < s.size
  ·have hib : (i : Int) + 1 < (s.size : Int) := by omega
   have hi1 : (i : Int) < (s.size : Int) := by omega
   have hw1 : IntKind.i64.wrap ((i : Int) + 1) = (i : Int) + 1 := IntWalk.i64_in _ (by omega)
   have hxa : s[i].toNat = 45 ∨ ¬ s[i].toNat = 45 := Classical.em _
   have hR : (¬ (s[i].toNat = 45 ∧ s[i + 1].toNat = 45)) → ∀ j (h : j + 1 < s.size), j < i + 1 → ¬ (s[j] = 45 ∧ s[j + 1] = 45) := fun hn j h hj => by
    by_cases hji : j = i
    ·subst hji
     intro he
     exact hn ⟨by rw [he.1]; rfl, by rw [he.2]; rfl⟩
    ·exact HJ.out j h (by omega)
   have HR := Lib.hid hR
   clear hR
   rcases hxa with ha | ha
   ·have hab : ((s[i].toNat : Int) == 45) = true := by simpa using (by omega : (s[i].toNat : Int) = 45)
    rcases Classical.em (s[i + 1].toNat = 45) with hb | hb
    ·have hbb : ((s[i + 1].toNat : Int) == 45) = true := by simpa using (by omega : (s[i + 1].toNat : Int) = 45)
     go_wp2_with fail
     go_ret
     exact ⟨rfl, HX1.out⟩
    ·have hbb : ((s[i + 1].toNat : Int) == 45) = false := by simpa using (by omega : ¬ (s[i + 1].toNat : Int) = 45)
     have HB := Lib.hid hb
     clear hb
     go_wp2_with fail
     go_round
     case rel => exact ⟨i + 1, by omega, by go_num, Lib.hid (HR.out fun h => HB.out h.2)⟩
     case measure => simp [intOf]; omega
   ·have hab : ((s[i].toNat : Int) == 45) = false := by simpa using (by omega : ¬ (s[i].toNat : Int) = 45)
    have HA := Lib.hid ha
    clear ha
    go_wp2_with fail
    go_round
    case rel => exact ⟨i + 1, by omega, by go_num, Lib.hid (HR.out fun h => HA.out h.1)⟩
    case measure => simp [intOf]; omega
  ·have hib : ¬ (i : Int) + 1 < (s.size : Int) := by omega
   have hw1 : IntKind.i64.wrap ((i : Int) + 1) = (i : Int) + 1 := IntWalk.i64_in _ (by omega)
   have HND := Lib.hid (nd_of hid HJ.out)
   clear HJ
   go_wp2_with fail
   refine (parse_seen _ _ (HP.out.ext HX1.out)).mono ?_
   rintro e w2 ⟨l, pp, kk, rfl, hx2, g1, g2, g3, hmt⟩
   have HX2 := Lib.hid (Xk.Ext.trans HX1.out hx2)
   have G1 := Lib.hid g1
   have G2 := Lib.hid g2
   have G3 := Lib.hid g3
   have HM := Lib.hid hmt
   clear hx2 g1 g2 g3 hmt
   rcases hpr : P12.parse s.data.toList with er | x
   ·have hm := HM.out
    rw [hpr] at hm
    obtain ⟨rfl, rfl⟩ := hm
    have hne : (er.2 != 0) = true := by simpa using (P12.parse_bad hpr).1
    clear hpr HM
    go_wp2_with ((refine wpList_putRow rfl 40 _ _ rfl (w2.heap.size) _ _ 40 rfl rfl ((heap_new w2 _)) ((by rw [show l.toArray.size = 37 by rw [List.size_toArray, G1.out]]; rfl)) (G3.out) (G2.out) ?_; intro w3 hp3); have HX3 := Lib.hid (Xk.Ext.trans HX2.out (puts_ext hp3 (boxX w2 _) (Nat.le_refl _))); clear hp3)
    go_ret
    exact ⟨rfl, HX3.out⟩
   ·have hm := HM.out
    rw [hpr] at hm
    obtain ⟨rfl, rfl, hst⟩ := hm
    have hpos : 0 < s.size := by
     rcases Nat.eq_zero_or_pos s.size with h0 | h0
     ·exfalso
      have : s.data.toList = [] := by
       apply List.eq_nil_of_length_eq_zero
       simpa using h0
      rw [this] at hpr
      exact P12.parse_nil hpr
     ·exact h0
    have hpb : (0 : Int) < (s.size : Int) := by omega
    have hw2 : IntKind.i64.wrap ((s.size : Int) - 1) = ((s.size - 1 : Nat) : Int) := by rw [IntWalk.i64_in _ (by omega)]; omega
    have hlt1 : s.size - 1 < s.size := by omega
    have hltb : ((s.size - 1 : Nat) : Int) < (s.size : Int) := by omega
    have HST := Lib.hid hst
    have HPR := Lib.hid hpr
    clear hst hpr HM
    rcases Classical.em (s[s.size - 1].toNat = 59) with hc | hc
    ·have hcb : ((s[s.size - 1].toNat : Int) == 59) = true := by simpa using (by omega : (s[s.size - 1].toNat : Int) = 59)
     go_wp2_with ((refine wpList_putRow rfl 40 _ _ rfl (w2.heap.size) _ _ 40 rfl rfl ((heap_new w2 _)) ((by rw [show l.toArray.size = 37 by rw [List.size_toArray, G1.out]]; rfl)) (G3.out) (G2.out) ?_; intro w3 hp3); have HX3 := Lib.hid (Xk.Ext.trans HX2.out (puts_ext hp3 (boxX w2 _) (Nat.le_refl _))); clear hp3)
     go_ret
     exact ⟨rfl, HX3.out⟩
    ·have hcb : ((s[s.size - 1].toNat : Int) == 59) = false := by simpa using (by omega : ¬ (s[s.size - 1].toNat : Int) = 59)
     obtain ⟨z, hz⟩ : ∃ z : Nat, z = k % 20 := ⟨_, rfl⟩
     have hz20 : z < 20 := by omega
     have hmod : Int.tmod (k : Int) 20 = (z : Int) := by rw [hz]; exact Int.ofNat_tmod k 20
     have hmod2 : (k : Int) % 20 = (z : Int) := by omega
     clear hz
     go_wp2_with ((refine wpList_putRow rfl 40 _ _ rfl (w2.heap.size) _ _ 40 rfl rfl ((heap_new w2 _)) ((by rw [show l.toArray.size = 37 by rw [List.size_toArray, G1.out]]; rfl)) (G3.out) (G2.out) ?_; intro w3 hp3); have hb3 := hp3.blk; have HX3 := Lib.hid (Xk.Ext.trans HX2.out (puts_ext hp3 (boxX w2 _) (Nat.le_refl _))); have HS3 := Lib.hid (HST.out.at (puts_ext hp3 (boxX w2 _) (Nat.le_refl _))); clear hp3)
     have HB3 := Lib.hid hb3
     clear hb3
     go_loop [9, 10] (fun u x => ∃ q : Nat, q ≤ z ∧ x = .int .i64 q ∧ u = .string (s ++ ⟨Array.replicate q 32⟩)) (fun _ x => z - (intOf x).toNat)
     case atStart => exact ⟨0, by omega, rfl, congrArg Value.string (by apply bytes_eq; simp)⟩
     case round =>
      obtain ⟨q, hq, rfl, rfl⟩ := hrel
      by_cases hlt : q < z
      ·have hlb : (q : Int) < (z : Int) := by omega
       have g1 : ¬ 9223372036854775807 < s.size + q + 1 := by omega
       go_wp2_with fail
       go_round
       case rel => exact ⟨q + 1, by omega, by go_num, congrArg Value.string (by apply bytes_eq; simp [List.replicate_succ'])⟩
       case measure => simp [intOf]; omega
      ·obtain rfl : q = z := by omega
       have hlb : ¬ (q : Int) < (q : Int) := by omega
       have g1 : ¬ 9223372036854775807 < s.size + q + 1 := by omega
       have g2 : ¬ 9223372036854775807 < s.size + q + 3 := by omega
       have hwt : IntKind.i64.wrap (((s.size + q : Nat) : Int) + 2) = ((s.size + q + 2 : Nat) : Int) := by rw [IntWalk.i64_in _ (by omega)]; omega
       have hwt2 : IntKind.i64.wrap ((s.size : Int) + (q : Int) + 2) = (s.size : Int) + (q : Int) + 2 := IntWalk.i64_in _ (by omega)
       have hb1 : ∀ t : List UInt8, (s ++ ({ data := Array.replicate q 32 } : ByteArray) ++ ⟨t.toArray⟩).data.toList = s.data.toList ++ List.replicate q 32 ++ t := fun t => by simp
       have he := P12.parse_ends HPR.out HND.out (by (have : s.data.toList.length = s.size := by simp); omega) q (by omega)
       have hkind : x.kind ≠ 0 := by
        obtain ⟨-, ho⟩ := P12.parse_isS HPR.out
        rcases ho with ⟨h, -⟩ | ⟨h, -⟩ | ⟨h, -⟩ | ⟨h, -⟩ | ⟨h, -⟩ | ⟨h, -⟩ | ⟨h, -⟩ | ⟨h, -⟩ | h | h | h <;> omega
       have HKD := Lib.hid hkind
       have HE := Lib.hid he
       have HBY := Lib.hid hb1
       clear he hkind hb1
       go_wp2_with fail
       refine (parse_seen _ _ (HP.out.ext HX3.out)).mono ?_
       rintro e w4 ⟨l4, p4, k4, rfl, hx4, j1, j2, j3, hm4⟩
       rw [show (s ++ ({ data := Array.replicate q 32 } : ByteArray) ++ { data := #[59] }).data.toList = s.data.toList ++ List.replicate q 32 ++ [59] from HBY.out [59]] at hm4
       have HX4 := Lib.hid (Xk.Ext.trans HX3.out hx4)
       have hb4 := (hx4.block _ (Array.getElem?_eq_some_iff.1 HB3.out).1).trans HB3.out
       have HS4 := Lib.hid (HS3.out.at hx4)
       have J1 := Lib.hid j1
       have J2 := Lib.hid j2
       have J3 := Lib.hid j3
       have HM4 := Lib.hid hm4
       clear hx4 j1 j2 j3 hm4 HB3 HS3
       rcases HE.out with ⟨ea, eb⟩ | ⟨pa, eb⟩
       ·have hm := HM4.out
        rw [ea] at hm
        obtain ⟨rfl, rfl, hst4⟩ := hm
        have EB := Lib.hid eb
        have HST4 := Lib.hid hst4
        clear hst4 ea eb HM4 HE
        go_wp2_with ((refine wpList_putRow rfl 40 _ _ rfl (w4.heap.size) _ _ 40 rfl rfl ((heap_new w4 _)) ((by rw [show l4.toArray.size = 37 by rw [List.size_toArray, J1.out]]; rfl)) (J3.out) (J2.out) ?_; intro w5 hp5); have hx45 := puts_ext hp5 (boxX w4 _) (Nat.le_refl _); have HX5 := Lib.hid (Xk.Ext.trans HX4.out hx45); have hb5 := hp5.blk; have hb6 := (hx45.block _ (Array.getElem?_eq_some_iff.1 hb4).1).trans hb4; have HS5 := Lib.hid (HS4.out.at hx45); have HT5 := Lib.hid (HST4.out.at hx45); clear hp5 hx45 hb4)
        refine (parse_seen _ _ (HP.out.ext HX5.out)).mono ?_
        rintro e w6 ⟨l6, p6, k6, rfl, hx6, i1, i2, i3, hm6⟩
        rw [show (s ++ ({ data := Array.replicate q 32 } : ByteArray) ++ { data := #[59, 32, 59] }).data.toList = s.data.toList ++ List.replicate q 32 ++ [59, 32, 59] from HBY.out [59, 32, 59], EB.out] at hm6
        obtain ⟨rfl, rfl⟩ := hm6
        have HX6 := Lib.hid (Xk.Ext.trans HX5.out hx6)
        have hb7 := (hx6.block _ (Array.getElem?_eq_some_iff.1 hb5).1).trans hb5
        have hb8 := (hx6.block _ (Array.getElem?_eq_some_iff.1 hb6).1).trans hb6
        have HS6 := Lib.hid (HS5.out.at hx6)
        have HT6 := Lib.hid (HT5.out.at hx6)
        have I1 := Lib.hid i1
        have I2 := Lib.hid i2
        have I3 := Lib.hid i3
        have hsl : s.data.toList.length = s.size := by simp
        rw [hsl]
        clear hx6 i1 i2 i3 hb5 hb6 hsl
        go_wp2_with (first
         | ((refine wpList_putRow rfl 40 _ _ rfl (w6.heap.size) _ _ 40 rfl rfl ((heap_new w6 _)) ((by rw [show l6.toArray.size = 37 by rw [List.size_toArray, I1.out]]; rfl)) (I3.out) (I2.out) ?_; intro w7 hp7); have hx67 := puts_ext hp7 (boxX w6 _) (Nat.le_refl _); have HX7 := Lib.hid (Xk.Ext.trans HX6.out hx67); have hb9 := (hx67.block _ (Array.getElem?_eq_some_iff.1 hb7).1).trans hb7; have hb10 := (hx67.block _ (Array.getElem?_eq_some_iff.1 hb8).1).trans hb8; have HC := Lib.hid (HS.out x _ _ w7 _ _ (P12.parse_isS HPR.out) (HS6.out.at hx67) (HT6.out.at hx67)); clear hp7 hx67 hb7 hb8)
         | (refine wpList_loadW (by rfl) 40 _ rfl w2.heap.size _ 40 (0, 0) _ rfl hb10 Tryz.underlying40 rfl G3.out ?_)
         | (refine wpList_loadW (by rfl) 40 _ rfl w4.heap.size _ 40 (0, 0) _ rfl hb9 Tryz.underlying40 rfl J3.out ?_))
        refine HC.out.mono ?_
        rintro e w8 ⟨rfl, hx8⟩
        go_wp2_with fail
        go_ret
        exact ⟨rfl, Xk.Ext.trans HX7.out hx8⟩
       ·have hm := HM4.out
        rw [eb] at hm
        obtain ⟨rfl, rfl⟩ := hm
        clear eb HM4 HE
        go_wp2_with (first
         | ((refine wpList_putRow rfl 40 _ _ rfl (w4.heap.size) _ _ 40 rfl rfl ((heap_new w4 _)) ((by rw [show l4.toArray.size = 37 by rw [List.size_toArray, J1.out]]; rfl)) (J3.out) (J2.out) ?_; intro w5 hp5); have hx45 := puts_ext hp5 (boxX w4 _) (Nat.le_refl _); have HX5 := Lib.hid (Xk.Ext.trans HX4.out hx45); have hb6 := (hx45.block _ (Array.getElem?_eq_some_iff.1 hb4).1).trans hb4; have HC := Lib.hid (same_kind (HS4.out.at hx45) HKD.out); clear hp5 hx45 hb4)
         | (refine wpList_loadW (by rfl) 40 _ rfl w2.heap.size _ 40 (0, 0) _ rfl hb6 Tryz.underlying40 rfl G3.out ?_))
        refine HC.out.mono ?_
        rintro e w8 ⟨rfl, hx8⟩
        go_wp2_with fail
        go_ret
        exact ⟨rfl, Xk.Ext.trans HX5.out hx8⟩
end Go.Proofs.YtkpmclddjkebeaaGreatDoor
