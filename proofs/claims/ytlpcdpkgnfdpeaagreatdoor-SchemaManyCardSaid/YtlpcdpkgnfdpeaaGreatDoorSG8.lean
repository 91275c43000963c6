/- Walks: SchemaMany, its head and its texts (begun). -/
import Derived.Test.YtlpcdpkgnfdpeaaGreatDoorSR
import Derived.Deep.RegionHeld3
set_option linter.unusedSimpArgs false
set_option linter.unusedVariables false
set_option maxRecDepth 100000
set_option maxHeartbeats 80000000
namespace Go.Proofs.YtlpcdpkgnfdpeaaGreatDoor
open Go.RowKit
theorem abc_at : ∀ q : Fin 12, ((⟨#[97, 98, 99, 100, 101, 102, 103, 104, 105, 106, 107, 108]⟩ : ByteArray).extract q.val (q.val + 1)).data.toList = P13.col q.val := by decide
theorem abc_in {q : Nat} (h : q < 12) : (⟨#[97, 98, 99, 100, 101, 102, 103, 104, 105, 106, 107, 108]⟩ : ByteArray).extract q (q + 1) = ⟨(P13.col q).toArray⟩ := bytes_ext (by rw [abc_at ⟨q, h⟩])
theorem many_in (w : World) (hE : Env w) (hP : EnvP w) (T C K D : Nat) (t1 : 1 ≤ T) (t2 : T ≤ 12) (c1 : 1 ≤ C) (c2 : C ≤ 12) (k2 : K ≤ 12) (d1 : 1 ≤ D) (d2 : D ≤ 5) (dc : D ≤ C) : Calls Tryz.prog 3 #[.int .i64 T, .int .i64 C, .int .i64 K, .int .i64 D] w fun e w' => e = .returned (.bool true) ∧ Xk.Ext w w' := by
 have HEV := Lib.hid fun W (hx : Xk.Ext w W) => (⟨hE.ext hx, hP.ext hx⟩ : Env W ∧ EnvP W)
 have HK := Lib.hid (known13_any w hE hP)
 clear hE hP
 have n1 : ¬ (T : Int) < 1 := by omega
 have n2 : ¬ (T : Int) > 12 := by omega
 have n3 : ¬ (C : Int) < 1 := by omega
 have n4 : ¬ (C : Int) > 12 := by omega
 have n5 : ¬ (K : Int) < 0 := by omega
 have n6 : ¬ (K : Int) > 12 := by omega
 have n7 : ¬ (D : Int) < 1 := by omega
 have n8 : ¬ (D : Int) > 5 := by omega
 have n9 : ¬ (D : Int) > (C : Int) := by omega
 go_enter Tryz.func3, Tryz.ntmps3
 go_wp2_with fail
 refine HK.out.mono ?_
 rintro e w1 ⟨rfl, hx1⟩
 have HX1 := Lib.hid hx1
 clear hx1
 go_wp2_with fail
 go_loopw [10, 11] (fun x y wr => ∃ q : Nat, q ≤ C ∧ y = .int .i64 q ∧ x = .string ⟨(P13.bodyT q).toArray⟩ ∧ Xk.Ext w wr) (fun x y _ => C - (intOf y).toNat)
 case atStart => exact ⟨0, by omega, rfl, rfl, HX1.out⟩
 case round =>
  obtain ⟨q, hq, rfl, rfl, hx⟩ := hrel
  have HX := Lib.hid hx
  clear hx
  by_cases hlt : q < C
  ·have hlb : (q : Int) < (C : Int) := by omega
   have hl := P13.bodyT_len q
   have q12 : (q : Int) + 1 ≤ 12 := by omega
   by_cases h0 : 0 < q
   ·have h0b : (q : Int) > 0 := by omega
    go_wp2_with fail
    exact ⟨⟨q + 1, by omega, by go_num, congrArg Value.string (bytes_ext (by rw [abc_in (by omega), P13.bodyT_succ, if_pos h0]; simp)), HX.out⟩, by simp [intOf]; omega⟩
   ·have h0b : ¬ (q : Int) > 0 := by omega
    go_wp2_with fail
    exact ⟨⟨q + 1, by omega, by go_num, congrArg Value.string (bytes_ext (by rw [abc_in (by omega), P13.bodyT_succ, if_neg h0]; simp)), HX.out⟩, by simp [intOf]; omega⟩
  ·have hlb : ¬ (q : Int) < (C : Int) := by omega
   obtain rfl : q = C := by omega
   go_wp2_with fail
   go_loopw [12, 13] (fun x y wq => ∃ i : Nat, i ≤ D ∧ y = .int .i64 i ∧ x = .string ⟨(P13.listT i).toArray⟩ ∧ Xk.Ext w wq) (fun x y _ => D - (intOf y).toNat)
   case atStart => exact ⟨0, by omega, rfl, rfl, HX.out⟩
   case round =>
    obtain ⟨i, hi, rfl, rfl, hx⟩ := hrel
    have HXI := Lib.hid hx
    clear hx
    by_cases hlt : i < D
    ·have hlb : (i : Int) < (D : Int) := by omega
     have hl := P13.listT_len i
     have q12 : (i : Int) + 1 ≤ 12 := by omega
     by_cases h0 : 0 < i
     ·have h0b : (i : Int) > 0 := by omega
      go_wp2_with fail
      exact ⟨⟨i + 1, by omega, by go_num, congrArg Value.string (bytes_ext (by rw [abc_in (by omega), P13.listT_succ, if_pos h0]; simp)), HXI.out⟩, by simp [intOf]; omega⟩
     ·have h0b : ¬ (i : Int) > 0 := by omega
      go_wp2_with fail
      exact ⟨⟨i + 1, by omega, by go_num, congrArg Value.string (bytes_ext (by rw [abc_in (by omega), P13.listT_succ, if_neg h0]; simp)), HXI.out⟩, by simp [intOf]; omega⟩
    ·have hlb : ¬ (i : Int) < (D : Int) := by omega
     obtain rfl : i = D := by omega
     obtain ⟨w5, rfl⟩ : ∃ w5, w5 = wr := ⟨_, rfl⟩
     go_wp2_with fail
     have hx0 := Xk.Ext.trans HXI.out (extA w5 (.cells #[nilS] 25))
     have hb0 := heap_new w5 (.cells #[nilS] 25)
     obtain ⟨sq, hsq⟩ : ∃ sq : Nat → P13.Sch, sq = P13.sqT q := ⟨_, rfl⟩
     have hs0 : sq 0 = [] := by rw [hsq]; simp [P13.schN, P13.sqT]
     go_loopw [15] (fun x wt => ∃ (t : Nat) (p : Option Addr) (n c : Nat), t ≤ T ∧ x = .int .i64 t ∧ wt.heap[w5.heap.size]? = some (.cells #[.slice p n c] 25) ∧ SchAt (fun b => w5.heap.size < b) wt (sq t) (.slice p n c) ∧ Xk.Ext w wt) (fun x _ => T - (intOf x).toNat)
     case atStart => exact ⟨0, none, 0, 0, by omega, rfl, hb0, by rw [hs0]; exact SlcAt.nil _ _ _ _, hx0⟩
     case round =>
      obtain ⟨t, p, n, c, ht, rfl, hb, hs, hx⟩ := hrel
      by_cases hlt : t < T
      ·have hlb : (t : Int) < (T : Int) := by omega
       have t12 : t < 12 := by omega
       obtain ⟨ec, hres, hno, hyes⟩ := P13.tri_T t12 (show 1 ≤ q by omega) (show q ≤ 12 by omega)
       obtain ⟨w7, rfl⟩ : ∃ w7, w7 = wr := ⟨_, rfl⟩
       rw [hsq] at hs
       have HDE := Lib.hid fun W => dig_any t12 W
       have HSE := Lib.hid fun W b hb => rnd_stmt (P13.rndT (q := q) t12 (by omega) (by omega)) W b hb
       have HAE := Lib.hid fun W (hx9 : Xk.Ext w7 W) S l (hin : StmtIn S W (P13.createOf (P13.tab t q [])) l) => rnd_apply (P13.rndT (q := q) t12 (by omega) (by omega)) hres W (HEV.out W (Xk.Ext.trans hx hx9)).1 (HEV.out W (Xk.Ext.trans hx hx9)).2 (hs.ext hx9) hin
       have HNO := Lib.hid hno
       have HYES := Lib.hid hyes
       have HXT := Lib.hid hx
       have HB7 := Lib.hid hb
       have HS7 := Lib.hid hs
       have hsb : w7.cell? ⟨w5.heap.size, 0, none⟩ = some (.slice p n c) := by simp [World.cell?, hb]
       have l7 : w5.heap.size < w7.heap.size := World.block_lt_of_cell? _ _ hsb
       obtain ⟨xt, hxt⟩ : ∃ xt, xt = P13.createOf (P13.tab t q []) := ⟨_, rfl⟩
       rw [← hxt] at HSE HAE
       obtain ⟨dg, hdg⟩ : ∃ dg, dg = P13.dig t := ⟨_, rfl⟩
       obtain ⟨bd, hbd⟩ : ∃ bd, bd = P13.bodyT q := ⟨_, rfl⟩
       have hdl := dig_len t
       have hbl := P13.bodyT_len q
       simp only [P13.createT] at HSE
       rw [← hdg] at HDE HSE hdl
       rw [← hbd] at HSE hbl
       have hbl : bd.length ≤ 84 := by omega
       rw [show (⟨(P13.bodyT q).toArray⟩ : ByteArray) = ⟨bd.toArray⟩ by rw [hbd]]
       have s1 : ¬ 9223372036854775807 < 14 + dg.length := by omega
       have s2 : ¬ 9223372036854775807 < 14 + dg.length + 2 := by omega
       have s3 : ¬ 9223372036854775807 < 14 + dg.length + 2 + bd.length := by omega
       have s4 : ¬ 9223372036854775807 < 14 + dg.length + 2 + bd.length + 1 := by omega
       have lw := HXI.out.size
       clear hres hno hyes hx hb hs hxt hdg hbd hx0 hb0
       go_upto_region 24 with fail
       go_region_held3 (fun w' => w'.cell? ⟨w5.heap.size, 0, none⟩ = some (.slice p n c)) (first | exact hsb | exact Xk.ext_cell (show Xk.Ext w7 _ from (by repeat (first | with_reducible exact Below.refl _ _ | ((with_reducible refine Below.setCell ?_ ?_ _); rotate_left; exact Xk.sz) | ((with_reducible refine Below.alloc ?_ ?_ _); rotate_left; exact Xk.sz) | ((with_reducible refine Xk.below_exw ?_ ?_ _); rotate_left; exact Xk.sz) | (with_reducible refine Below.drew ?_)))) hsb) (first
        | (go_at_call 7; (with_reducible refine (HDE.out _).mono ?_); rintro e W1 ⟨pd, rfl, rfl⟩)
        | (go_at_call 6; (with_reducible refine (HSE.out _ _ (by simp)).mono ?_); rintro e W2 ⟨l, pa, rfl, rfl, hin⟩; (try simp only [Xk.exw_drew, Xk.exw_drew_exw, Xk.exw_exw] at hin); have HIN := Lib.hid hin; clear hin)
        | (go_at_call 5; (with_reducible refine (HAE.out _ Xk.xt _ _ (HIN.out.at Xk.xt)).mono ?_); rintro e W3 ⟨p4, n4, c4, pb, rfl, rfl, hsc⟩; (try simp only [Xk.exw_drew, Xk.exw_drew_exw, Xk.exw_exw] at hsc); have HSC := Lib.hid hsc; clear hsc)
        | (go_at_call 5; (with_reducible refine (HAE.out _ Xk.xt _ _ HIN.out).mono ?_); rintro e W3 ⟨p4, n4, c4, pb, rfl, rfl, hsc⟩; (try simp only [Xk.exw_drew, Xk.exw_drew_exw, Xk.exw_exw] at hsc); have HSC := Lib.hid hsc; clear hsc))
       all_goals
        first
        | (obtain ⟨W9, hW9⟩ : ∃ W9, W9 = Xk.exw (w7.alloc (.cells #[.slice p4 n4 c4] 25)) ⟨pb.d, pd.os ++ (pa.os ++ pb.os)⟩ := ⟨_, rfl⟩; rw [← hW9]; obtain ⟨g, hg⟩ : ∃ g, g = w7.heap.size := ⟨_, rfl⟩; (try simp only [← Nat.add_assoc]); (try simp only [← Nat.add_assoc] at hg); rw [← hg]; (try simp only [Array.append_assoc] at HSC); have HX9 : Hid (Xk.Ext w7 W9) := Lib.hid (by rw [hW9]; exact (by repeat (first | with_reducible exact Below.refl _ _ | ((with_reducible refine Below.setCell ?_ ?_ _); rotate_left; exact Xk.sz) | ((with_reducible refine Below.alloc ?_ ?_ _); rotate_left; exact Xk.sz) | ((with_reducible refine Xk.below_exw ?_ ?_ _); rotate_left; exact Xk.sz) | (with_reducible refine Below.drew ?_)))); have hg9 : W9.heap[g]? = some (.cells #[.slice p4 n4 c4] 25) := (by rw [hW9, show g = w7.heap.size by omega]; exact exw_at _ _ _); have HS9 : Hid (ec = 0 → SchAt (fun b => w7.heap.size ≤ b) W9 _ (.slice p4 n4 c4)) := Lib.hid (fun h => by rw [hW9]; exact SchAt.keep (HSC.out h) (fun b hb _ => exw_other _ _ _ _ (by simp at hb; omega)) (fun b hb _ => by simp at hb; omega)); have lg : w7.heap.size ≤ g := (by omega); clear hW9 hg)
        | (obtain ⟨W9, hW9⟩ : ∃ W9, W9 = Xk.exw ((Xk.exw w7 pd).alloc (.cells #[.slice p4 n4 c4] 25)) ⟨pb.d, pa.os ++ pb.os⟩ := ⟨_, rfl⟩; rw [← hW9]; obtain ⟨g, hg⟩ : ∃ g, g = w7.heap.size + pd.os.size := ⟨_, rfl⟩; (try simp only [← Nat.add_assoc]); (try simp only [← Nat.add_assoc] at hg); rw [← hg]; (try simp only [Array.append_assoc] at HSC); have HX9 : Hid (Xk.Ext w7 W9) := Lib.hid (by rw [hW9]; exact (by repeat (first | with_reducible exact Below.refl _ _ | ((with_reducible refine Below.setCell ?_ ?_ _); rotate_left; exact Xk.sz) | ((with_reducible refine Below.alloc ?_ ?_ _); rotate_left; exact Xk.sz) | ((with_reducible refine Xk.below_exw ?_ ?_ _); rotate_left; exact Xk.sz) | (with_reducible refine Below.drew ?_)))); have hg9 : W9.heap[g]? = some (.cells #[.slice p4 n4 c4] 25) := (by rw [hW9, show g = w7.heap.size + pd.os.size by omega]; exact (by have h := exw_at (Xk.exw w7 pd) (.cells #[.slice p4 n4 c4] 25) ⟨pb.d, pa.os ++ pb.os⟩; rwa [Xk.exw_size] at h)); have HS9 : Hid (ec = 0 → SchAt (fun b => w7.heap.size ≤ b) W9 _ (.slice p4 n4 c4)) := Lib.hid (fun h => by rw [hW9]; exact SchAt.keep (HSC.out h) (fun b hb _ => exw_other _ _ _ _ (by simp at hb ⊢; omega)) (fun b hb _ => by simp at hb; omega)); have lg : w7.heap.size ≤ g := (by omega); clear hW9 hg)
        | (obtain ⟨W9, hW9⟩ : ∃ W9, W9 = Xk.exw ((Xk.exw w7 ⟨pa.d, pd.os ++ pa.os⟩).alloc (.cells #[.slice p4 n4 c4] 25)) pb := ⟨_, rfl⟩; rw [← hW9]; obtain ⟨g, hg⟩ : ∃ g, g = w7.heap.size + (pd.os.size + pa.os.size) := ⟨_, rfl⟩; (try simp only [← Nat.add_assoc]); (try simp only [← Nat.add_assoc] at hg); rw [← hg]; (try simp only [Array.append_assoc] at HSC); have HX9 : Hid (Xk.Ext w7 W9) := Lib.hid (by rw [hW9]; exact (by repeat (first | with_reducible exact Below.refl _ _ | ((with_reducible refine Below.setCell ?_ ?_ _); rotate_left; exact Xk.sz) | ((with_reducible refine Below.alloc ?_ ?_ _); rotate_left; exact Xk.sz) | ((with_reducible refine Xk.below_exw ?_ ?_ _); rotate_left; exact Xk.sz) | (with_reducible refine Below.drew ?_)))); have hg9 : W9.heap[g]? = some (.cells #[.slice p4 n4 c4] 25) := (by rw [hW9, show g = w7.heap.size + (pd.os.size + pa.os.size) by omega]; exact (by have h := exw_at (Xk.exw w7 ⟨pa.d, pd.os ++ pa.os⟩) (.cells #[.slice p4 n4 c4] 25) pb; simpa using h)); have HS9 : Hid (ec = 0 → SchAt (fun b => w7.heap.size ≤ b) W9 _ (.slice p4 n4 c4)) := Lib.hid (fun h => by rw [hW9]; exact SchAt.keep (HSC.out h) (fun b hb _ => exw_other _ _ _ _ (by simp at hb ⊢; omega)) (fun b hb _ => by simp at hb; omega)); have lg : w7.heap.size ≤ g := (by omega); clear hW9 hg)
        | (obtain ⟨W9, hW9⟩ : ∃ W9, W9 = (Xk.exw w7 ⟨pb.d, pd.os ++ (pa.os ++ pb.os)⟩).alloc (.cells #[.slice p4 n4 c4] 25) := ⟨_, rfl⟩; rw [← hW9]; obtain ⟨g, hg⟩ : ∃ g, g = w7.heap.size + (pd.os.size + (pa.os.size + pb.os.size)) := ⟨_, rfl⟩; (try simp only [← Nat.add_assoc]); (try simp only [← Nat.add_assoc] at hg); rw [← hg]; (try simp only [Array.append_assoc] at HSC); have HX9 : Hid (Xk.Ext w7 W9) := Lib.hid (by rw [hW9]; exact (by repeat (first | with_reducible exact Below.refl _ _ | ((with_reducible refine Below.setCell ?_ ?_ _); rotate_left; exact Xk.sz) | ((with_reducible refine Below.alloc ?_ ?_ _); rotate_left; exact Xk.sz) | ((with_reducible refine Xk.below_exw ?_ ?_ _); rotate_left; exact Xk.sz) | (with_reducible refine Below.drew ?_)))); have hg9 : W9.heap[g]? = some (.cells #[.slice p4 n4 c4] 25) := (by rw [hW9, show g = w7.heap.size + (pd.os.size + (pa.os.size + pb.os.size)) by omega]; exact (by have h := heap_new (Xk.exw w7 ⟨pb.d, pd.os ++ (pa.os ++ pb.os)⟩) (.cells #[.slice p4 n4 c4] 25); simpa using h)); have HS9 : Hid (ec = 0 → SchAt (fun b => w7.heap.size ≤ b) W9 _ (.slice p4 n4 c4)) := Lib.hid (fun h => by rw [hW9]; exact SchAt.keep (HSC.out h) (fun b hb hl => (extA _ _).block b hl) (fun b hb _ => by simp at hb; omega)); have lg : w7.heap.size ≤ g := (by omega); clear hW9 hg)
       all_goals
        have hb9 := (HX9.out.block _ l7).trans HB7.out
        have c9 : W9.cell? ⟨w5.heap.size, 0, none⟩ = some (.slice p n c) := by simp [World.cell?, hb9]
        have f9 := frozen_of_row W9 w5.heap.size 0 _ _ hb9
        have k9 : W9.cell? ⟨g, 0, none⟩ = some (.slice p4 n4 c4) := by simp [World.cell?, hg9]
        have lb9 := World.block_lt_of_cell? _ _ c9
        have lg9 := World.block_lt_of_cell? _ _ k9
        have HB9 := Lib.hid hb9
        clear hg9 hb9
        by_cases h8 : 8 ≤ t ∨ 8 < q
        ·obtain ⟨he, hq9⟩ := HNO.out h8
         subst he
         have HQ9 := Lib.hid hq9
         clear hq9
         have hc : (decide ((t : Int) ≥ 8) || decide ((q : Int) > 8)) = true := by simp; omega
         by_cases h8b : (t : Int) ≥ 8
         ·go_wp2_with fail
          exact ⟨⟨t + 1, p, n, c, by omega, by go_num, HB9.out, by rw [hsq, HQ9.out]; exact HS7.out.ext HX9.out, Xk.Ext.trans HXT.out HX9.out⟩, by simp [intOf]; omega⟩
         ·have h8c : (q : Int) > 8 := by omega
          go_wp2_with fail
          exact ⟨⟨t + 1, p, n, c, by omega, by go_num, HB9.out, by rw [hsq, HQ9.out]; exact HS7.out.ext HX9.out, Xk.Ext.trans HXT.out HX9.out⟩, by simp [intOf]; omega⟩
        ·obtain ⟨he, hl9⟩ := HYES.out (by omega) (by omega)
         subst he
         have h8b : ¬ (t : Int) ≥ 8 := by omega
         have h8c : ¬ (q : Int) > 8 := by omega
         obtain ⟨p', c', he⟩ := (HS9.out rfl).len
         have hn4 : n4 = t + 1 := by cases he; exact hl9
         subst hn4
         clear he hl9
         go_wp2_with fail
         exact ⟨⟨t + 1, p4, t + 1, c4, by omega, by go_num, heap_setCell_same _ _ _ _ _ _ HB9.out, by rw [hsq]; exact (HS9.out rfl).keep (fun b hb _ => heap_setCell_other _ _ _ _ (fun e => by have hb : w7.heap.size ≤ b := hb; have e : b = w5.heap.size := (by simpa using e); omega)) (fun b hb _ => Nat.lt_of_lt_of_le l7 hb), (Xk.Ext.trans HXT.out HX9.out).setCell lw _⟩, by simp [intOf]; omega⟩
      ·have hlb : ¬ (t : Int) < (T : Int) := by omega
       obtain rfl : t = T := by omega
       have hsb : wr.cell? ⟨w5.heap.size, 0, none⟩ = some (.slice p n c) := by simp [World.cell?, hb]
       by_cases hw : 8 < q
       ·have hwb : (q : Int) > 8 := by omega
        obtain ⟨p', c', he⟩ := hs.len
        have hn : n = 0 := by cases he; rw [hsq]; simp [P13.sqT, show ¬ q ≤ 8 by omega]
        subst hn
        have HXT := Lib.hid hx
        clear hs he hx
        go_wp2_with fail
        go_ret
        exact ⟨rfl, HXT.out⟩
       ·have hwb : ¬ (q : Int) > 8 := by omega
        obtain ⟨sk, hsk⟩ : ∃ sk : Nat → P13.Sch, sk = P13.skT t q i := ⟨_, rfl⟩
        have hk0 : sq t = sk 0 := by
         rw [hsq, hsk]
         simp only [P13.sqT, P13.skT, show q ≤ 8 by omega, if_true, Nat.zero_min]
         split <;> simp [P13.schN]
        rw [hk0] at hs
        obtain ⟨w6, rfl⟩ : ∃ w6, w6 = wr := ⟨_, rfl⟩
        go_wp2_with fail
        go_loopw [18] (fun x wr => ∃ (k : Nat) (p : Option Addr) (n c : Nat), k ≤ K ∧ x = .int .i64 k ∧ wr.heap[w5.heap.size]? = some (.cells #[.slice p n c] 25) ∧ SchAt (fun b => w5.heap.size < b) wr (sk k) (.slice p n c) ∧ Xk.Ext w wr) (fun x _ => K - (intOf x).toNat)
        case atStart => exact ⟨0, p, n, c, by omega, rfl, hb, hs, hx⟩
        case round =>
         obtain ⟨k, p, n, c, hk, rfl, hb, hs, hx⟩ := hrel
         by_cases hlt : k < K
         ·have hlb : (k : Int) < (K : Int) := by omega
          have t12 : k < 12 := by omega
          obtain ⟨ec, hres, hno, hyes⟩ := P13.tri_K (T := t) (q := q) (d := i) (by omega) t12 (by omega) (by omega) (by omega) (by omega) (by omega)
          obtain ⟨w7, rfl⟩ : ∃ w7, w7 = wr := ⟨_, rfl⟩
          rw [hsk] at hs
          have HDE := Lib.hid fun W => dig_any t12 W
          have HSE := Lib.hid fun W b hb => rnd_stmt (P13.rndK (T := t) (q := q) (d := i) (by omega) t12 (by omega) (by omega) (by omega) (by omega) (by omega)) W b hb
          have HAE := Lib.hid fun W (hx9 : Xk.Ext w7 W) S l (hin : StmtIn S W (P13.indexOf (P13.tab 0 i []) (P13.key k i)) l) => rnd_apply (P13.rndK (T := t) (q := q) (d := i) (by omega) t12 (by omega) (by omega) (by omega) (by omega) (by omega)) hres W (HEV.out W (Xk.Ext.trans hx hx9)).1 (HEV.out W (Xk.Ext.trans hx hx9)).2 (hs.ext hx9) hin
          have HNO := Lib.hid hno
          have HYES := Lib.hid hyes
          have HXT := Lib.hid hx
          have HB7 := Lib.hid hb
          have HS7 := Lib.hid hs
          have hsb : w7.cell? ⟨w5.heap.size, 0, none⟩ = some (.slice p n c) := by simp [World.cell?, hb]
          have l7 : w5.heap.size < w7.heap.size := World.block_lt_of_cell? _ _ hsb
          obtain ⟨xt, hxt⟩ : ∃ xt, xt = P13.indexOf (P13.tab 0 i []) (P13.key k i) := ⟨_, rfl⟩
          rw [← hxt] at HSE HAE
          obtain ⟨dg, hdg⟩ : ∃ dg, dg = P13.dig k := ⟨_, rfl⟩
          obtain ⟨bd, hbd⟩ : ∃ bd, bd = P13.listT i := ⟨_, rfl⟩
          have hdl := dig_len k
          have hbl := P13.listT_len i
          simp only [P13.indexT] at HSE
          rw [← hdg] at HDE HSE hdl
          rw [← hbd] at HSE hbl
          have hbl : bd.length ≤ 15 := by omega
          rw [show (⟨(P13.listT i).toArray⟩ : ByteArray) = ⟨bd.toArray⟩ by rw [hbd]]
          have s1 : ¬ 9223372036854775807 < 14 + dg.length := by omega
          have s2 : ¬ 9223372036854775807 < 14 + dg.length + 8 := by omega
          have s3 : ¬ 9223372036854775807 < 14 + dg.length + 8 + bd.length := by omega
          have s4 : ¬ 9223372036854775807 < 14 + dg.length + 8 + bd.length + 1 := by omega
          have lw := HXI.out.size
          clear hres hno hyes hx hb hs hxt hdg hbd hx0 hb0
          go_upto_region 36 with fail
          go_region_held3 (fun w' => w'.cell? ⟨w5.heap.size, 0, none⟩ = some (.slice p n c)) (first | exact hsb | exact Xk.ext_cell (show Xk.Ext w7 _ from (by repeat (first | with_reducible exact Below.refl _ _ | ((with_reducible refine Below.setCell ?_ ?_ _); rotate_left; exact Xk.sz) | ((with_reducible refine Below.alloc ?_ ?_ _); rotate_left; exact Xk.sz) | ((with_reducible refine Xk.below_exw ?_ ?_ _); rotate_left; exact Xk.sz) | (with_reducible refine Below.drew ?_)))) hsb) (first
           | (go_at_call 7; (with_reducible refine (HDE.out _).mono ?_); rintro e W1 ⟨pd, rfl, rfl⟩)
           | (go_at_call 6; (with_reducible refine (HSE.out _ _ (by simp)).mono ?_); rintro e W2 ⟨l, pa, rfl, rfl, hin⟩; (try simp only [Xk.exw_drew, Xk.exw_drew_exw, Xk.exw_exw] at hin); have HIN := Lib.hid hin; clear hin)
           | (go_at_call 5; (with_reducible refine (HAE.out _ Xk.xt _ _ (HIN.out.at Xk.xt)).mono ?_); rintro e W3 ⟨p4, n4, c4, pb, rfl, rfl, hsc⟩; (try simp only [Xk.exw_drew, Xk.exw_drew_exw, Xk.exw_exw] at hsc); have HSC := Lib.hid hsc; clear hsc)
           | (go_at_call 5; (with_reducible refine (HAE.out _ Xk.xt _ _ HIN.out).mono ?_); rintro e W3 ⟨p4, n4, c4, pb, rfl, rfl, hsc⟩; (try simp only [Xk.exw_drew, Xk.exw_drew_exw, Xk.exw_exw] at hsc); have HSC := Lib.hid hsc; clear hsc))
          all_goals
           first
           | (obtain ⟨W9, hW9⟩ : ∃ W9, W9 = Xk.exw (w7.alloc (.cells #[.slice p4 n4 c4] 25)) ⟨pb.d, pd.os ++ (pa.os ++ pb.os)⟩ := ⟨_, rfl⟩; rw [← hW9]; obtain ⟨g, hg⟩ : ∃ g, g = w7.heap.size := ⟨_, rfl⟩; (try simp only [← Nat.add_assoc]); (try simp only [← Nat.add_assoc] at hg); rw [← hg]; (try simp only [Array.append_assoc] at HSC); have HX9 : Hid (Xk.Ext w7 W9) := Lib.hid (by rw [hW9]; exact (by repeat (first | with_reducible exact Below.refl _ _ | ((with_reducible refine Below.setCell ?_ ?_ _); rotate_left; exact Xk.sz) | ((with_reducible refine Below.alloc ?_ ?_ _); rotate_left; exact Xk.sz) | ((with_reducible refine Xk.below_exw ?_ ?_ _); rotate_left; exact Xk.sz) | (with_reducible refine Below.drew ?_)))); have hg9 : W9.heap[g]? = some (.cells #[.slice p4 n4 c4] 25) := (by rw [hW9, show g = w7.heap.size by omega]; exact exw_at _ _ _); have HS9 : Hid (ec = 0 → SchAt (fun b => w7.heap.size ≤ b) W9 _ (.slice p4 n4 c4)) := Lib.hid (fun h => by rw [hW9]; exact SchAt.keep (HSC.out h) (fun b hb _ => exw_other _ _ _ _ (by simp at hb; omega)) (fun b hb _ => by simp at hb; omega)); have lg : w7.heap.size ≤ g := (by omega); clear hW9 hg)
           | (obtain ⟨W9, hW9⟩ : ∃ W9, W9 = Xk.exw ((Xk.exw w7 pd).alloc (.cells #[.slice p4 n4 c4] 25)) ⟨pb.d, pa.os ++ pb.os⟩ := ⟨_, rfl⟩; rw [← hW9]; obtain ⟨g, hg⟩ : ∃ g, g = w7.heap.size + pd.os.size := ⟨_, rfl⟩; (try simp only [← Nat.add_assoc]); (try simp only [← Nat.add_assoc] at hg); rw [← hg]; (try simp only [Array.append_assoc] at HSC); have HX9 : Hid (Xk.Ext w7 W9) := Lib.hid (by rw [hW9]; exact (by repeat (first | with_reducible exact Below.refl _ _ | ((with_reducible refine Below.setCell ?_ ?_ _); rotate_left; exact Xk.sz) | ((with_reducible refine Below.alloc ?_ ?_ _); rotate_left; exact Xk.sz) | ((with_reducible refine Xk.below_exw ?_ ?_ _); rotate_left; exact Xk.sz) | (with_reducible refine Below.drew ?_)))); have hg9 : W9.heap[g]? = some (.cells #[.slice p4 n4 c4] 25) := (by rw [hW9, show g = w7.heap.size + pd.os.size by omega]; exact (by have h := exw_at (Xk.exw w7 pd) (.cells #[.slice p4 n4 c4] 25) ⟨pb.d, pa.os ++ pb.os⟩; rwa [Xk.exw_size] at h)); have HS9 : Hid (ec = 0 → SchAt (fun b => w7.heap.size ≤ b) W9 _ (.slice p4 n4 c4)) := Lib.hid (fun h => by rw [hW9]; exact SchAt.keep (HSC.out h) (fun b hb _ => exw_other _ _ _ _ (by simp at hb ⊢; omega)) (fun b hb _ => by simp at hb; omega)); have lg : w7.heap.size ≤ g := (by omega); clear hW9 hg)
           | (obtain ⟨W9, hW9⟩ : ∃ W9, W9 = Xk.exw ((Xk.exw w7 ⟨pa.d, pd.os ++ pa.os⟩).alloc (.cells #[.slice p4 n4 c4] 25)) pb := ⟨_, rfl⟩; rw [← hW9]; obtain ⟨g, hg⟩ : ∃ g, g = w7.heap.size + (pd.os.size + pa.os.size) := ⟨_, rfl⟩; (try simp only [← Nat.add_assoc]); (try simp only [← Nat.add_assoc] at hg); rw [← hg]; (try simp only [Array.append_assoc] at HSC); have HX9 : Hid (Xk.Ext w7 W9) := Lib.hid (by rw [hW9]; exact (by repeat (first | with_reducible exact Below.refl _ _ | ((with_reducible refine Below.setCell ?_ ?_ _); rotate_left; exact Xk.sz) | ((with_reducible refine Below.alloc ?_ ?_ _); rotate_left; exact Xk.sz) | ((with_reducible refine Xk.below_exw ?_ ?_ _); rotate_left; exact Xk.sz) | (with_reducible refine Below.drew ?_)))); have hg9 : W9.heap[g]? = some (.cells #[.slice p4 n4 c4] 25) := (by rw [hW9, show g = w7.heap.size + (pd.os.size + pa.os.size) by omega]; exact (by have h := exw_at (Xk.exw w7 ⟨pa.d, pd.os ++ pa.os⟩) (.cells #[.slice p4 n4 c4] 25) pb; simpa using h)); have HS9 : Hid (ec = 0 → SchAt (fun b => w7.heap.size ≤ b) W9 _ (.slice p4 n4 c4)) := Lib.hid (fun h => by rw [hW9]; exact SchAt.keep (HSC.out h) (fun b hb _ => exw_other _ _ _ _ (by simp at hb ⊢; omega)) (fun b hb _ => by simp at hb; omega)); have lg : w7.heap.size ≤ g := (by omega); clear hW9 hg)
           | (obtain ⟨W9, hW9⟩ : ∃ W9, W9 = (Xk.exw w7 ⟨pb.d, pd.os ++ (pa.os ++ pb.os)⟩).alloc (.cells #[.slice p4 n4 c4] 25) := ⟨_, rfl⟩; rw [← hW9]; obtain ⟨g, hg⟩ : ∃ g, g = w7.heap.size + (pd.os.size + (pa.os.size + pb.os.size)) := ⟨_, rfl⟩; (try simp only [← Nat.add_assoc]); (try simp only [← Nat.add_assoc] at hg); rw [← hg]; (try simp only [Array.append_assoc] at HSC); have HX9 : Hid (Xk.Ext w7 W9) := Lib.hid (by rw [hW9]; exact (by repeat (first | with_reducible exact Below.refl _ _ | ((with_reducible refine Below.setCell ?_ ?_ _); rotate_left; exact Xk.sz) | ((with_reducible refine Below.alloc ?_ ?_ _); rotate_left; exact Xk.sz) | ((with_reducible refine Xk.below_exw ?_ ?_ _); rotate_left; exact Xk.sz) | (with_reducible refine Below.drew ?_)))); have hg9 : W9.heap[g]? = some (.cells #[.slice p4 n4 c4] 25) := (by rw [hW9, show g = w7.heap.size + (pd.os.size + (pa.os.size + pb.os.size)) by omega]; exact (by have h := heap_new (Xk.exw w7 ⟨pb.d, pd.os ++ (pa.os ++ pb.os)⟩) (.cells #[.slice p4 n4 c4] 25); simpa using h)); have HS9 : Hid (ec = 0 → SchAt (fun b => w7.heap.size ≤ b) W9 _ (.slice p4 n4 c4)) := Lib.hid (fun h => by rw [hW9]; exact SchAt.keep (HSC.out h) (fun b hb hl => (extA _ _).block b hl) (fun b hb _ => by simp at hb; omega)); have lg : w7.heap.size ≤ g := (by omega); clear hW9 hg)
          all_goals
           have hb9 := (HX9.out.block _ l7).trans HB7.out
           have c9 : W9.cell? ⟨w5.heap.size, 0, none⟩ = some (.slice p n c) := by simp [World.cell?, hb9]
           have f9 := frozen_of_row W9 w5.heap.size 0 _ _ hb9
           have k9 : W9.cell? ⟨g, 0, none⟩ = some (.slice p4 n4 c4) := by simp [World.cell?, hg9]
           have lb9 := World.block_lt_of_cell? _ _ c9
           have lg9 := World.block_lt_of_cell? _ _ k9
           have HB9 := Lib.hid hb9
           clear hg9 hb9
           by_cases h8 : 8 ≤ k ∨ 3 < i
           ·obtain ⟨he, hq9⟩ := HNO.out h8
            subst he
            have HQ9 := Lib.hid hq9
            clear hq9
            by_cases h8b : (k : Int) ≥ 8
            ·go_wp2_with fail
             exact ⟨⟨k + 1, p, n, c, by omega, by go_num, HB9.out, by rw [hsk, HQ9.out]; exact HS7.out.ext HX9.out, Xk.Ext.trans HXT.out HX9.out⟩, by simp [intOf]; omega⟩
            ·have h8c : (i : Int) > 3 := by omega
             go_wp2_with fail
             exact ⟨⟨k + 1, p, n, c, by omega, by go_num, HB9.out, by rw [hsk, HQ9.out]; exact HS7.out.ext HX9.out, Xk.Ext.trans HXT.out HX9.out⟩, by simp [intOf]; omega⟩
           ·obtain ⟨he, u, hu0, huk⟩ := HYES.out (by omega) (by omega)
            subst he
            have h8b : ¬ (k : Int) ≥ 8 := by omega
            have h8c : ¬ (i : Int) > 3 := by omega
            have hs9 := HS9.out rfl
            have hl0 := (List.getElem?_eq_some_iff.1 hu0).1
            obtain ⟨gT, rfl⟩ := hs9.root hl0
            obtain ⟨hn, -, he⟩ := SlcAt.elem hs9
            obtain ⟨us, hu, -, hr⟩ := he 0 u hu0
            obtain ⟨tc, tk, tq, rfl, -, a2, -⟩ := hu
            obtain ⟨pk, ck, rfl⟩ := a2.len
            rw [huk] at hr
            have ct2 : W9.cell? ⟨gT, 2, none⟩ = some (.slice pk (k + 1) ck) := hr 2 _ rfl
            have n40 : (0 : Int) < (n4 : Int) := by omega
            have n41 : 0 < n4 := by omega
            have lT := World.block_lt_of_cell? _ _ ct2
            clear hn he hr a2 hs9 hl0 hu0 huk
            go_wp2_with fail
            exact ⟨⟨k + 1, _, n4, c4, by omega, by go_num, heap_setCell_same _ _ _ _ _ _ HB9.out, by rw [hsk]; exact (HS9.out rfl).keep (fun b hb _ => heap_setCell_other _ _ _ _ (fun e => by have hb : w7.heap.size ≤ b := hb; have e : b = w5.heap.size := (by simpa using e); omega)) (fun b hb _ => Nat.lt_of_lt_of_le l7 hb), (Xk.Ext.trans HXT.out HX9.out).setCell lw _⟩, by simp [intOf]; omega⟩
         ·have hlb : ¬ (k : Int) < (K : Int) := by omega
          have HXK := Lib.hid hx
          clear hx
          go_wp2_with fail
          go_ret
          exact ⟨rfl, HXK.out⟩
end Go.Proofs.YtlpcdpkgnfdpeaaGreatDoor
