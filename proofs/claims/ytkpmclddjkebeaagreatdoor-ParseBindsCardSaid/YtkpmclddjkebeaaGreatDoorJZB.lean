/- Walks: pantilelaw12.ParseMany. -/
import Derived.Test.YtkpmclddjkebeaaGreatDoorJI
import Derived.Test.YtkpmclddjkebeaaGreatDoorJA
set_option linter.unusedSimpArgs false
set_option linter.unusedVariables false
set_option maxRecDepth 100000
set_option maxHeartbeats 8000000
namespace P12
theorem manyS_len (k : Nat) : ∀ q, (manyS k q).length ≤ 30 + 8 * q
 | 0 => by
  match k with
  | 0 | 1 | 2 | 3 => decide
  | k + 4 => exact (by decide : ([83, 69, 76, 69, 67, 84, 32, 97, 32, 70, 82, 79, 77, 32, 116, 32, 79, 82, 68, 69, 82, 32, 66, 89, 32] : T).length ≤ 30)
 | q + 1 => by
  have := manyS_len k q
  have he : (manyEach k).length ≤ 5 := by
   match k with
   | 0 | 1 | 2 | 3 => decide
   | k + 4 => exact (by decide : ([98] : T).length ≤ 5)
  have hs : (if q = 0 then ([] : T) else [44, 32]).length ≤ 2 := by split <;> decide
  rw [manyS, List.length_append, List.length_append]
  omega
end P12
namespace Go.Proofs.YtkpmclddjkebeaaGreatDoor
open Go.RowKit
theorem parse_seen (s : ByteArray) (w : World) (hP : EnvP w) : Calls Tryz.prog 11 #[.string s] w fun e w' => ∃ (l : List Value) (p k : Int), e = .returned (.tuple #[.agg l.toArray, .int .i64 p, .int .i64 k]) ∧ Xk.Ext w w' ∧ l.length = 37 ∧ l.toArray.all (·.oneCell') = true ∧ (Tryz.prog.info? 40).map (·.size) = some l.toArray.size ∧
  (match P12.parse s.data.toList with | .ok x => k = 0 ∧ p = 0 ∧ StmtIn (fun b => w.heap.size ≤ b) w' x l | .error er => p = er.1 ∧ k = er.2) := by
 refine (parse_any s w hP).mono ?_
 rintro e w' ⟨hx, h⟩
 cases hr : P12.parse s.data.toList with
 | ok x =>
  rw [hr] at h
  obtain ⟨l, he, hs⟩ := h
  obtain ⟨h1, h2⟩ := stmt_one hs
  exact ⟨l, 0, 0, he, hx, hs.length, h1, h2, rfl, rfl, hs⟩
 | error er =>
  rw [hr] at h
  exact ⟨zero37, _, _, h, hx, rfl, by kernel_rfl, by kernel_rfl, rfl, rfl⟩
theorem many_seen {k m : Nat} (hk : k < 5) (h0 : 1 ≤ m) (h1 : m ≤ 50) {w w' : World} {l : List Value} {p e : Int} (h : match P12.parse (P12.manyS k m ++ P12.manyEnd k) with | .ok x => e = 0 ∧ p = 0 ∧ StmtIn (fun b => w.heap.size ≤ b) w' x l | .error er => p = er.1 ∧ e = er.2) :
  (m ≤ P12.manyMost k ∧ e = 0) ∨ (P12.manyMost k < m ∧ e = 122 ∧ p = (P12.manyPlace k : Int)) := by
 have ho := P12.many_ok k m hk h0 h1
 unfold P12.manyOk at ho
 cases hp : P12.parse (P12.manyS k m ++ P12.manyEnd k) with
 | ok x =>
  rw [hp] at h ho
  exact .inl ⟨by simpa using ho, h.1⟩
 | error er =>
  obtain ⟨a, b⟩ := er
  rw [hp] at h ho
  simp only [Bool.and_eq_true, decide_eq_true_eq, beq_iff_eq] at ho
  exact .inr ⟨ho.1.1, by rw [h.2, ho.2], by rw [h.1, ho.1.2]⟩
theorem many_any (n what : Int) (hn0 : -9223372036854775808 ≤ n) (hn1 : n ≤ 9223372036854775807) (hw0 : -9223372036854775808 ≤ what) (hw1 : what ≤ 9223372036854775807) (w : World) (hE : Env w) (hP : EnvP w) : Calls Tryz.prog 7 #[.int .i64 n, .int .i64 what] w fun e w' => e = .returned (.bool true) ∧ Xk.Ext w w' := by
 have HK := Lib.hid (known_12 w hE hP)
 have HP := Lib.hid hP
 clear hE hP
 by_cases hr : n < 1
 ·go_enter Tryz.func7, Tryz.ntmps7
  go_wp2_with fail
  refine (HK.out).mono ?_
  rintro e w1 ⟨rfl, hx1⟩
  go_wp2_with fail
  go_ret
  exact ⟨rfl, hx1⟩
 by_cases hr2 : 50 < n
 ·have hr' : ¬ n < 1 := hr
  go_enter Tryz.func7, Tryz.ntmps7
  go_wp2_with fail
  refine (HK.out).mono ?_
  rintro e w1 ⟨rfl, hx1⟩
  go_wp2_with fail
  go_ret
  exact ⟨rfl, hx1⟩
 obtain ⟨m, rfl⟩ : ∃ m : Nat, n = m := ⟨n.toNat, by omega⟩
 have hm1 : ¬ (m : Int) < 1 := hr
 have hm2 : ¬ 50 < (m : Int) := hr2
 have ht := Int.tmod_lt_of_pos what (show (0 : Int) < 5 by decide)
 have ht2 : -5 < what.tmod 5 := by
  by_cases hs : 0 ≤ what
  ·have := Int.tmod_nonneg 5 hs; omega
  ·have h1 := Int.tmod_lt_of_pos (-what) (show (0 : Int) < 5 by decide)
   rw [Int.neg_tmod] at h1
   omega
 have hwr : wrap64 (what.tmod 5 + 5) = what.tmod 5 + 5 := by unfold wrap64; omega
 have hq : (wrap64 (what.tmod 5 + 5)).tmod 5 = 0 ∨ (wrap64 (what.tmod 5 + 5)).tmod 5 = 1 ∨ (wrap64 (what.tmod 5 + 5)).tmod 5 = 2 ∨ (wrap64 (what.tmod 5 + 5)).tmod 5 = 3 ∨ (wrap64 (what.tmod 5 + 5)).tmod 5 = 4 := by
  rw [hwr]
  have h1 := Int.tmod_lt_of_pos (what.tmod 5 + 5) (show (0 : Int) < 5 by decide)
  have h2 := Int.tmod_nonneg 5 (show 0 ≤ what.tmod 5 + 5 by omega)
  omega
 clear hwr ht ht2 hr hr2 hw0 hw1
 have hm0 : 1 ≤ m := by omega
 have hm50 : m ≤ 50 := by omega
 rcases hq with hq | hq | hq | hq | hq
 ·go_enter Tryz.func7, Tryz.ntmps7
  go_wp2_with fail
  refine (HK.out).mono ?_
  rintro e w1 ⟨rfl, hx1⟩
  have HX1 := Lib.hid hx1
  clear hx1
  go_wp2_with fail
  go_loop [10, 11, 12] (fun s p x => ∃ (q : Nat) (pl : Int) (sv : List UInt8), q ≤ m ∧ x = .int .i64 q ∧ s = .string ⟨sv.toArray⟩ ∧ p = .int .i64 pl ∧ Hid (sv = P12.manyS 0 q ∧ pl = if q ≤ 16 then 0 else (P12.manyPlace 0 : Int))) (fun _ _ x => m - (intOf x).toNat)
  case atStart => exact ⟨0, 0, P12.manyS 0 0, by omega, rfl, rfl, rfl, Lib.hid ⟨rfl, rfl⟩⟩
  case round =>
   obtain ⟨q, pl, sv, hqm, rfl, rfl, rfl, HR⟩ := hrel
   have hlen := P12.manyS_len 0 q
   rw [← HR.out.1] at hlen
   by_cases hlt : q < m
   ·have hlb : (q : Int) < (m : Int) := by omega
    by_cases hz : q = 0
    ·have z1 : ¬ (0 : Int) < (q : Int) := by omega
     have z2 : ((q : Int) == 16) = false := by simp; omega
     have z3 : ¬ 0 < q := by omega
     have HZ := Lib.hid hz
     clear hz
     go_wp2_with fail
     go_round
     case rel => exact ⟨q + 1, pl, P12.manyS 0 (q + 1), by omega, by go_num, congrArg Value.string (by apply bytes_eq; rw [P12.manyS, ← HR.out.1, if_pos HZ.out]; simp [P12.manyEach]), rfl, Lib.hid ⟨rfl, by rw [HR.out.2, if_pos (by have := HZ.out; omega), if_pos (by have := HZ.out; omega)]⟩⟩
     case measure => simp [intOf]; omega
    by_cases hy : q = 16
    ·have z1 : (0 : Int) < (q : Int) := by omega
     have z2 : ((q : Int) == 16) = true := by simp; omega
     have z3 : 0 < q := by omega
     have HY := Lib.hid hy
     have HZ := Lib.hid hz
     clear hz hy
     go_wp2_with fail
     go_round
     case rel => exact ⟨q + 1, (P12.manyPlace 0 : Int), P12.manyS 0 (q + 1), by omega, by go_num, congrArg Value.string (by apply bytes_eq; rw [P12.manyS, ← HR.out.1, if_neg HZ.out]; simp [P12.manyEach]), congrArg (Value.int .i64) (by
      have h1 : sv = P12.manyS 0 16 := by rw [HR.out.1, HY.out]
      have h2 : P12.manyPlace 0 = sv.length + 2 := by rw [h1]; rfl
      rw [h2]
      first | rfl | (simp; done) | (simp; omega)), Lib.hid ⟨rfl, by rw [if_neg (by have := HY.out; omega)]⟩⟩
     case measure => simp [intOf]; omega
    ·have z1 : (0 : Int) < (q : Int) := by omega
     have z2 : ((q : Int) == 16) = false := by simp; omega
     have z3 : 0 < q := by omega
     have HY := Lib.hid hy
     have HZ := Lib.hid hz
     clear hz hy
     go_wp2_with fail
     go_round
     case rel => exact ⟨q + 1, pl, P12.manyS 0 (q + 1), by omega, by go_num, congrArg Value.string (by apply bytes_eq; rw [P12.manyS, ← HR.out.1, if_neg HZ.out]; simp [P12.manyEach]), rfl, Lib.hid ⟨rfl, by
      rw [HR.out.2]
      have := HY.out
      by_cases hle : q ≤ 16
      ·rw [if_pos hle, if_pos (by omega)]
      ·rw [if_neg hle, if_neg (by omega)]⟩⟩
     case measure => simp [intOf]; omega
   ·have hlb : ¬ (q : Int) < (m : Int) := by omega
    have hqe : q = m := by omega
    have HSV : Hid (sv = P12.manyS 0 m) := Lib.hid (by rw [HR.out.1, hqe])
    have HPL : Hid (pl = if m ≤ 16 then 0 else (P12.manyPlace 0 : Int)) := Lib.hid (by rw [HR.out.2, hqe])
    clear hqe
    go_wp2_with fail
    refine (parse_seen _ _ (HP.out.ext (Xk.Ext.trans HX1.out Xk.xt))).mono ?_
    rintro e w2 ⟨l, p, kk, rfl, hx2, g1, g2, g3, hmt⟩
    have hb : ∀ X : ByteArray, X.data.toList = P12.manyS 0 m ++ P12.manyEnd 0 → P12.parse X.data.toList = P12.parse (P12.manyS 0 m ++ P12.manyEnd 0) := fun X h => by rw [h]
    rw [hb _ (by rw [← HSV.out]; simp [P12.manyEnd])] at hmt
    have hc := many_seen (k := 0) (by decide) hm0 hm50 hmt
    have HX2 := Lib.hid (Xk.Ext.trans HX1.out (Xk.Ext.trans (by exact Xk.xt) hx2))
    have G1 := Lib.hid g1
    have G2 := Lib.hid g2
    have G3 := Lib.hid g3
    clear hmt hb hx2 g1 g2 g3
    rcases hc with ⟨c1, rfl⟩ | ⟨c1, rfl, c2⟩
    ·have c1' : m ≤ 16 := c1
     have y1 : ¬ (16 : Int) < (m : Int) := by omega
     clear c1
     go_wp2_with ((refine wpList_putRow rfl 40 _ _ rfl (w2.heap.size) _ _ 40 rfl rfl ((heap_new w2 _)) ((by rw [show l.toArray.size = 37 by rw [List.size_toArray, G1.out]]; rfl)) (G3.out) (G2.out) ?_; intro w5 hp5))
     go_ret
     exact ⟨rfl, Xk.Ext.trans HX2.out (puts_ext hp5 (boxX w2 _) (Nat.le_refl _))⟩
    ·have c1' : 16 < m := c1
     have y1 : (16 : Int) < (m : Int) := by omega
     obtain rfl : p = pl := by rw [c2, HPL.out, if_neg (by omega)]
     clear c1 c2
     go_wp2_with ((refine wpList_putRow rfl 40 _ _ rfl (w2.heap.size) _ _ 40 rfl rfl ((heap_new w2 _)) ((by rw [show l.toArray.size = 37 by rw [List.size_toArray, G1.out]]; rfl)) (G3.out) (G2.out) ?_; intro w5 hp5))
     go_ret
     exact ⟨rfl, Xk.Ext.trans HX2.out (puts_ext hp5 (boxX w2 _) (Nat.le_refl _))⟩
 ·go_enter Tryz.func7, Tryz.ntmps7
  go_wp2_with fail
  refine (HK.out).mono ?_
  rintro e w1 ⟨rfl, hx1⟩
  have HX1 := Lib.hid hx1
  clear hx1
  go_wp2_with fail
  go_loop [10, 11, 12] (fun s p x => ∃ (q : Nat) (pl : Int) (sv : List UInt8), q ≤ m ∧ x = .int .i64 q ∧ s = .string ⟨sv.toArray⟩ ∧ p = .int .i64 pl ∧ Hid (sv = P12.manyS 1 q ∧ pl = if q ≤ 16 then 0 else (P12.manyPlace 1 : Int))) (fun _ _ x => m - (intOf x).toNat)
  case atStart => exact ⟨0, 0, P12.manyS 1 0, by omega, rfl, rfl, rfl, Lib.hid ⟨rfl, rfl⟩⟩
  case round =>
   obtain ⟨q, pl, sv, hqm, rfl, rfl, rfl, HR⟩ := hrel
   have hlen := P12.manyS_len 1 q
   rw [← HR.out.1] at hlen
   by_cases hlt : q < m
   ·have hlb : (q : Int) < (m : Int) := by omega
    by_cases hz : q = 0
    ·have z1 : ¬ (0 : Int) < (q : Int) := by omega
     have z2 : ((q : Int) == 16) = false := by simp; omega
     have z3 : ¬ 0 < q := by omega
     have HZ := Lib.hid hz
     clear hz
     go_wp2_with fail
     go_round
     case rel => exact ⟨q + 1, pl, P12.manyS 1 (q + 1), by omega, by go_num, congrArg Value.string (by apply bytes_eq; rw [P12.manyS, ← HR.out.1, if_pos HZ.out]; simp [P12.manyEach]), rfl, Lib.hid ⟨rfl, by rw [HR.out.2, if_pos (by have := HZ.out; omega), if_pos (by have := HZ.out; omega)]⟩⟩
     case measure => simp [intOf]; omega
    by_cases hy : q = 16
    ·have z1 : (0 : Int) < (q : Int) := by omega
     have z2 : ((q : Int) == 16) = true := by simp; omega
     have z3 : 0 < q := by omega
     have HY := Lib.hid hy
     have HZ := Lib.hid hz
     clear hz hy
     go_wp2_with fail
     go_round
     case rel => exact ⟨q + 1, (P12.manyPlace 1 : Int), P12.manyS 1 (q + 1), by omega, by go_num, congrArg Value.string (by apply bytes_eq; rw [P12.manyS, ← HR.out.1, if_neg HZ.out]; simp [P12.manyEach]), congrArg (Value.int .i64) (by
      have h1 : sv = P12.manyS 1 16 := by rw [HR.out.1, HY.out]
      have h2 : P12.manyPlace 1 = sv.length + 2 := by rw [h1]; rfl
      rw [h2]
      first | rfl | (simp; done) | (simp; omega)), Lib.hid ⟨rfl, by rw [if_neg (by have := HY.out; omega)]⟩⟩
     case measure => simp [intOf]; omega
    ·have z1 : (0 : Int) < (q : Int) := by omega
     have z2 : ((q : Int) == 16) = false := by simp; omega
     have z3 : 0 < q := by omega
     have HY := Lib.hid hy
     have HZ := Lib.hid hz
     clear hz hy
     go_wp2_with fail
     go_round
     case rel => exact ⟨q + 1, pl, P12.manyS 1 (q + 1), by omega, by go_num, congrArg Value.string (by apply bytes_eq; rw [P12.manyS, ← HR.out.1, if_neg HZ.out]; simp [P12.manyEach]), rfl, Lib.hid ⟨rfl, by
      rw [HR.out.2]
      have := HY.out
      by_cases hle : q ≤ 16
      ·rw [if_pos hle, if_pos (by omega)]
      ·rw [if_neg hle, if_neg (by omega)]⟩⟩
     case measure => simp [intOf]; omega
   ·have hlb : ¬ (q : Int) < (m : Int) := by omega
    have hqe : q = m := by omega
    have HSV : Hid (sv = P12.manyS 1 m) := Lib.hid (by rw [HR.out.1, hqe])
    have HPL : Hid (pl = if m ≤ 16 then 0 else (P12.manyPlace 1 : Int)) := Lib.hid (by rw [HR.out.2, hqe])
    clear hqe
    go_wp2_with fail
    refine (parse_seen _ _ (HP.out.ext (Xk.Ext.trans HX1.out Xk.xt))).mono ?_
    rintro e w2 ⟨l, p, kk, rfl, hx2, g1, g2, g3, hmt⟩
    have hb : ∀ X : ByteArray, X.data.toList = P12.manyS 1 m ++ P12.manyEnd 1 → P12.parse X.data.toList = P12.parse (P12.manyS 1 m ++ P12.manyEnd 1) := fun X h => by rw [h]
    rw [hb _ (by rw [← HSV.out]; simp [P12.manyEnd])] at hmt
    have hc := many_seen (k := 1) (by decide) hm0 hm50 hmt
    have HX2 := Lib.hid (Xk.Ext.trans HX1.out (Xk.Ext.trans (by exact Xk.xt) hx2))
    have G1 := Lib.hid g1
    have G2 := Lib.hid g2
    have G3 := Lib.hid g3
    clear hmt hb hx2 g1 g2 g3
    rcases hc with ⟨c1, rfl⟩ | ⟨c1, rfl, c2⟩
    ·have c1' : m ≤ 16 := c1
     have y1 : ¬ (16 : Int) < (m : Int) := by omega
     clear c1
     go_wp2_with ((refine wpList_putRow rfl 40 _ _ rfl (w2.heap.size) _ _ 40 rfl rfl ((heap_new w2 _)) ((by rw [show l.toArray.size = 37 by rw [List.size_toArray, G1.out]]; rfl)) (G3.out) (G2.out) ?_; intro w5 hp5))
     go_ret
     exact ⟨rfl, Xk.Ext.trans HX2.out (puts_ext hp5 (boxX w2 _) (Nat.le_refl _))⟩
    ·have c1' : 16 < m := c1
     have y1 : (16 : Int) < (m : Int) := by omega
     obtain rfl : p = pl := by rw [c2, HPL.out, if_neg (by omega)]
     clear c1 c2
     go_wp2_with ((refine wpList_putRow rfl 40 _ _ rfl (w2.heap.size) _ _ 40 rfl rfl ((heap_new w2 _)) ((by rw [show l.toArray.size = 37 by rw [List.size_toArray, G1.out]]; rfl)) (G3.out) (G2.out) ?_; intro w5 hp5))
     go_ret
     exact ⟨rfl, Xk.Ext.trans HX2.out (puts_ext hp5 (boxX w2 _) (Nat.le_refl _))⟩
 ·go_enter Tryz.func7, Tryz.ntmps7
  go_wp2_with fail
  refine (HK.out).mono ?_
  rintro e w1 ⟨rfl, hx1⟩
  have HX1 := Lib.hid hx1
  clear hx1
  go_wp2_with fail
  go_loop [10, 11, 12] (fun s p x => ∃ (q : Nat) (pl : Int) (sv : List UInt8), q ≤ m ∧ x = .int .i64 q ∧ s = .string ⟨sv.toArray⟩ ∧ p = .int .i64 pl ∧ Hid (sv = P12.manyS 2 q ∧ pl = if q ≤ 32 then 0 else (P12.manyPlace 2 : Int))) (fun _ _ x => m - (intOf x).toNat)
  case atStart => exact ⟨0, 0, P12.manyS 2 0, by omega, rfl, rfl, rfl, Lib.hid ⟨rfl, rfl⟩⟩
  case round =>
   obtain ⟨q, pl, sv, hqm, rfl, rfl, rfl, HR⟩ := hrel
   have hlen := P12.manyS_len 2 q
   rw [← HR.out.1] at hlen
   by_cases hlt : q < m
   ·have hlb : (q : Int) < (m : Int) := by omega
    by_cases hz : q = 0
    ·have z1 : ¬ (0 : Int) < (q : Int) := by omega
     have z2 : ((q : Int) == 32) = false := by simp; omega
     have z3 : ¬ 0 < q := by omega
     have HZ := Lib.hid hz
     clear hz
     go_wp2_with fail
     go_round
     case rel => exact ⟨q + 1, pl, P12.manyS 2 (q + 1), by omega, by go_num, congrArg Value.string (by apply bytes_eq; rw [P12.manyS, ← HR.out.1, if_pos HZ.out]; simp [P12.manyEach]), rfl, Lib.hid ⟨rfl, by rw [HR.out.2, if_pos (by have := HZ.out; omega), if_pos (by have := HZ.out; omega)]⟩⟩
     case measure => simp [intOf]; omega
    by_cases hy : q = 32
    ·have z1 : (0 : Int) < (q : Int) := by omega
     have z2 : ((q : Int) == 32) = true := by simp; omega
     have z3 : 0 < q := by omega
     have HY := Lib.hid hy
     have HZ := Lib.hid hz
     clear hz hy
     go_wp2_with fail
     go_round
     case rel => exact ⟨q + 1, (P12.manyPlace 2 : Int), P12.manyS 2 (q + 1), by omega, by go_num, congrArg Value.string (by apply bytes_eq; rw [P12.manyS, ← HR.out.1, if_neg HZ.out]; simp [P12.manyEach]), congrArg (Value.int .i64) (by
      have h1 : sv = P12.manyS 2 32 := by rw [HR.out.1, HY.out]
      have h2 : P12.manyPlace 2 = sv.length + 2 := by rw [h1]; rfl
      rw [h2]
      first | rfl | (simp; done) | (simp; omega)), Lib.hid ⟨rfl, by rw [if_neg (by have := HY.out; omega)]⟩⟩
     case measure => simp [intOf]; omega
    ·have z1 : (0 : Int) < (q : Int) := by omega
     have z2 : ((q : Int) == 32) = false := by simp; omega
     have z3 : 0 < q := by omega
     have HY := Lib.hid hy
     have HZ := Lib.hid hz
     clear hz hy
     go_wp2_with fail
     go_round
     case rel => exact ⟨q + 1, pl, P12.manyS 2 (q + 1), by omega, by go_num, congrArg Value.string (by apply bytes_eq; rw [P12.manyS, ← HR.out.1, if_neg HZ.out]; simp [P12.manyEach]), rfl, Lib.hid ⟨rfl, by
      rw [HR.out.2]
      have := HY.out
      by_cases hle : q ≤ 32
      ·rw [if_pos hle, if_pos (by omega)]
      ·rw [if_neg hle, if_neg (by omega)]⟩⟩
     case measure => simp [intOf]; omega
   ·have hlb : ¬ (q : Int) < (m : Int) := by omega
    have hqe : q = m := by omega
    have HSV : Hid (sv = P12.manyS 2 m) := Lib.hid (by rw [HR.out.1, hqe])
    have HPL : Hid (pl = if m ≤ 32 then 0 else (P12.manyPlace 2 : Int)) := Lib.hid (by rw [HR.out.2, hqe])
    clear hqe
    go_wp2_with fail
    refine (parse_seen _ _ (HP.out.ext (Xk.Ext.trans HX1.out Xk.xt))).mono ?_
    rintro e w2 ⟨l, p, kk, rfl, hx2, g1, g2, g3, hmt⟩
    have hb : ∀ X : ByteArray, X.data.toList = P12.manyS 2 m ++ P12.manyEnd 2 → P12.parse X.data.toList = P12.parse (P12.manyS 2 m ++ P12.manyEnd 2) := fun X h => by rw [h]
    rw [hb _ (by rw [← HSV.out]; simp [P12.manyEnd])] at hmt
    have hc := many_seen (k := 2) (by decide) hm0 hm50 hmt
    have HX2 := Lib.hid (Xk.Ext.trans HX1.out (Xk.Ext.trans (by exact Xk.xt) hx2))
    have G1 := Lib.hid g1
    have G2 := Lib.hid g2
    have G3 := Lib.hid g3
    clear hmt hb hx2 g1 g2 g3
    rcases hc with ⟨c1, rfl⟩ | ⟨c1, rfl, c2⟩
    ·have c1' : m ≤ 32 := c1
     have y1 : ¬ (32 : Int) < (m : Int) := by omega
     clear c1
     go_wp2_with ((refine wpList_putRow rfl 40 _ _ rfl (w2.heap.size) _ _ 40 rfl rfl ((heap_new w2 _)) ((by rw [show l.toArray.size = 37 by rw [List.size_toArray, G1.out]]; rfl)) (G3.out) (G2.out) ?_; intro w5 hp5))
     go_ret
     exact ⟨rfl, Xk.Ext.trans HX2.out (puts_ext hp5 (boxX w2 _) (Nat.le_refl _))⟩
    ·have c1' : 32 < m := c1
     have y1 : (32 : Int) < (m : Int) := by omega
     obtain rfl : p = pl := by rw [c2, HPL.out, if_neg (by omega)]
     clear c1 c2
     go_wp2_with ((refine wpList_putRow rfl 40 _ _ rfl (w2.heap.size) _ _ 40 rfl rfl ((heap_new w2 _)) ((by rw [show l.toArray.size = 37 by rw [List.size_toArray, G1.out]]; rfl)) (G3.out) (G2.out) ?_; intro w5 hp5))
     go_ret
     exact ⟨rfl, Xk.Ext.trans HX2.out (puts_ext hp5 (boxX w2 _) (Nat.le_refl _))⟩
 ·go_enter Tryz.func7, Tryz.ntmps7
  go_wp2_with fail
  refine (HK.out).mono ?_
  rintro e w1 ⟨rfl, hx1⟩
  have HX1 := Lib.hid hx1
  clear hx1
  go_wp2_with fail
  go_loop [10, 11, 12] (fun s p x => ∃ (q : Nat) (pl : Int) (sv : List UInt8), q ≤ m ∧ x = .int .i64 q ∧ s = .string ⟨sv.toArray⟩ ∧ p = .int .i64 pl ∧ Hid (sv = P12.manyS 3 q ∧ pl = if q ≤ 16 then 0 else (P12.manyPlace 3 : Int))) (fun _ _ x => m - (intOf x).toNat)
  case atStart => exact ⟨0, 0, P12.manyS 3 0, by omega, rfl, rfl, rfl, Lib.hid ⟨rfl, rfl⟩⟩
  case round =>
   obtain ⟨q, pl, sv, hqm, rfl, rfl, rfl, HR⟩ := hrel
   have hlen := P12.manyS_len 3 q
   rw [← HR.out.1] at hlen
   by_cases hlt : q < m
   ·have hlb : (q : Int) < (m : Int) := by omega
    by_cases hz : q = 0
    ·have z1 : ¬ (0 : Int) < (q : Int) := by omega
     have z2 : ((q : Int) == 16) = false := by simp; omega
     have z3 : ¬ 0 < q := by omega
     have HZ := Lib.hid hz
     clear hz
     go_wp2_with fail
     go_round
     case rel => exact ⟨q + 1, pl, P12.manyS 3 (q + 1), by omega, by go_num, congrArg Value.string (by apply bytes_eq; rw [P12.manyS, ← HR.out.1, if_pos HZ.out]; simp [P12.manyEach]), rfl, Lib.hid ⟨rfl, by rw [HR.out.2, if_pos (by have := HZ.out; omega), if_pos (by have := HZ.out; omega)]⟩⟩
     case measure => simp [intOf]; omega
    by_cases hy : q = 16
    ·have z1 : (0 : Int) < (q : Int) := by omega
     have z2 : ((q : Int) == 16) = true := by simp; omega
     have z3 : 0 < q := by omega
     have HY := Lib.hid hy
     have HZ := Lib.hid hz
     clear hz hy
     go_wp2_with fail
     go_round
     case rel => exact ⟨q + 1, (P12.manyPlace 3 : Int), P12.manyS 3 (q + 1), by omega, by go_num, congrArg Value.string (by apply bytes_eq; rw [P12.manyS, ← HR.out.1, if_neg HZ.out]; simp [P12.manyEach]), congrArg (Value.int .i64) (by
      have h1 : sv = P12.manyS 3 16 := by rw [HR.out.1, HY.out]
      have h2 : P12.manyPlace 3 = sv.length + 2 := by rw [h1]; rfl
      rw [h2]
      first | rfl | (simp; done) | (simp; omega)), Lib.hid ⟨rfl, by rw [if_neg (by have := HY.out; omega)]⟩⟩
     case measure => simp [intOf]; omega
    ·have z1 : (0 : Int) < (q : Int) := by omega
     have z2 : ((q : Int) == 16) = false := by simp; omega
     have z3 : 0 < q := by omega
     have HY := Lib.hid hy
     have HZ := Lib.hid hz
     clear hz hy
     go_wp2_with fail
     go_round
     case rel => exact ⟨q + 1, pl, P12.manyS 3 (q + 1), by omega, by go_num, congrArg Value.string (by apply bytes_eq; rw [P12.manyS, ← HR.out.1, if_neg HZ.out]; simp [P12.manyEach]), rfl, Lib.hid ⟨rfl, by
      rw [HR.out.2]
      have := HY.out
      by_cases hle : q ≤ 16
      ·rw [if_pos hle, if_pos (by omega)]
      ·rw [if_neg hle, if_neg (by omega)]⟩⟩
     case measure => simp [intOf]; omega
   ·have hlb : ¬ (q : Int) < (m : Int) := by omega
    have hqe : q = m := by omega
    have HSV : Hid (sv = P12.manyS 3 m) := Lib.hid (by rw [HR.out.1, hqe])
    have HPL : Hid (pl = if m ≤ 16 then 0 else (P12.manyPlace 3 : Int)) := Lib.hid (by rw [HR.out.2, hqe])
    clear hqe
    go_wp2_with fail
    refine (parse_seen _ _ (HP.out.ext (Xk.Ext.trans HX1.out Xk.xt))).mono ?_
    rintro e w2 ⟨l, p, kk, rfl, hx2, g1, g2, g3, hmt⟩
    have hb : ∀ X : ByteArray, X.data.toList = P12.manyS 3 m ++ P12.manyEnd 3 → P12.parse X.data.toList = P12.parse (P12.manyS 3 m ++ P12.manyEnd 3) := fun X h => by rw [h]
    rw [hb _ (by rw [← HSV.out]; simp [P12.manyEnd])] at hmt
    have hc := many_seen (k := 3) (by decide) hm0 hm50 hmt
    have HX2 := Lib.hid (Xk.Ext.trans HX1.out (Xk.Ext.trans (by exact Xk.xt) hx2))
    have G1 := Lib.hid g1
    have G2 := Lib.hid g2
    have G3 := Lib.hid g3
    clear hmt hb hx2 g1 g2 g3
    rcases hc with ⟨c1, rfl⟩ | ⟨c1, rfl, c2⟩
    ·have c1' : m ≤ 16 := c1
     have y1 : ¬ (16 : Int) < (m : Int) := by omega
     clear c1
     go_wp2_with ((refine wpList_putRow rfl 40 _ _ rfl (w2.heap.size) _ _ 40 rfl rfl ((heap_new w2 _)) ((by rw [show l.toArray.size = 37 by rw [List.size_toArray, G1.out]]; rfl)) (G3.out) (G2.out) ?_; intro w5 hp5))
     go_ret
     exact ⟨rfl, Xk.Ext.trans HX2.out (puts_ext hp5 (boxX w2 _) (Nat.le_refl _))⟩
    ·have c1' : 16 < m := c1
     have y1 : (16 : Int) < (m : Int) := by omega
     obtain rfl : p = pl := by rw [c2, HPL.out, if_neg (by omega)]
     clear c1 c2
     go_wp2_with ((refine wpList_putRow rfl 40 _ _ rfl (w2.heap.size) _ _ 40 rfl rfl ((heap_new w2 _)) ((by rw [show l.toArray.size = 37 by rw [List.size_toArray, G1.out]]; rfl)) (G3.out) (G2.out) ?_; intro w5 hp5))
     go_ret
     exact ⟨rfl, Xk.Ext.trans HX2.out (puts_ext hp5 (boxX w2 _) (Nat.le_refl _))⟩
 ·go_enter Tryz.func7, Tryz.ntmps7
  go_wp2_with fail
  refine (HK.out).mono ?_
  rintro e w1 ⟨rfl, hx1⟩
  have HX1 := Lib.hid hx1
  clear hx1
  go_wp2_with fail
  go_loop [10, 11, 12] (fun s p x => ∃ (q : Nat) (pl : Int) (sv : List UInt8), q ≤ m ∧ x = .int .i64 q ∧ s = .string ⟨sv.toArray⟩ ∧ p = .int .i64 pl ∧ Hid (sv = P12.manyS 4 q ∧ pl = if q ≤ 16 then 0 else (P12.manyPlace 4 : Int))) (fun _ _ x => m - (intOf x).toNat)
  case atStart => exact ⟨0, 0, P12.manyS 4 0, by omega, rfl, rfl, rfl, Lib.hid ⟨rfl, rfl⟩⟩
  case round =>
   obtain ⟨q, pl, sv, hqm, rfl, rfl, rfl, HR⟩ := hrel
   have hlen := P12.manyS_len 4 q
   rw [← HR.out.1] at hlen
   by_cases hlt : q < m
   ·have hlb : (q : Int) < (m : Int) := by omega
    by_cases hz : q = 0
    ·have z1 : ¬ (0 : Int) < (q : Int) := by omega
     have z2 : ((q : Int) == 16) = false := by simp; omega
     have z3 : ¬ 0 < q := by omega
     have HZ := Lib.hid hz
     clear hz
     go_wp2_with fail
     go_round
     case rel => exact ⟨q + 1, pl, P12.manyS 4 (q + 1), by omega, by go_num, congrArg Value.string (by apply bytes_eq; rw [P12.manyS, ← HR.out.1, if_pos HZ.out]; simp [P12.manyEach]), rfl, Lib.hid ⟨rfl, by rw [HR.out.2, if_pos (by have := HZ.out; omega), if_pos (by have := HZ.out; omega)]⟩⟩
     case measure => simp [intOf]; omega
    by_cases hy : q = 16
    ·have z1 : (0 : Int) < (q : Int) := by omega
     have z2 : ((q : Int) == 16) = true := by simp; omega
     have z3 : 0 < q := by omega
     have HY := Lib.hid hy
     have HZ := Lib.hid hz
     clear hz hy
     go_wp2_with fail
     go_round
     case rel => exact ⟨q + 1, (P12.manyPlace 4 : Int), P12.manyS 4 (q + 1), by omega, by go_num, congrArg Value.string (by apply bytes_eq; rw [P12.manyS, ← HR.out.1, if_neg HZ.out]; simp [P12.manyEach]), congrArg (Value.int .i64) (by
      have h1 : sv = P12.manyS 4 16 := by rw [HR.out.1, HY.out]
      have h2 : P12.manyPlace 4 = sv.length + 2 := by rw [h1]; rfl
      rw [h2]
      first | rfl | (simp; done) | (simp; omega)), Lib.hid ⟨rfl, by rw [if_neg (by have := HY.out; omega)]⟩⟩
     case measure => simp [intOf]; omega
    ·have z1 : (0 : Int) < (q : Int) := by omega
     have z2 : ((q : Int) == 16) = false := by simp; omega
     have z3 : 0 < q := by omega
     have HY := Lib.hid hy
     have HZ := Lib.hid hz
     clear hz hy
     go_wp2_with fail
     go_round
     case rel => exact ⟨q + 1, pl, P12.manyS 4 (q + 1), by omega, by go_num, congrArg Value.string (by apply bytes_eq; rw [P12.manyS, ← HR.out.1, if_neg HZ.out]; simp [P12.manyEach]), rfl, Lib.hid ⟨rfl, by
      rw [HR.out.2]
      have := HY.out
      by_cases hle : q ≤ 16
      ·rw [if_pos hle, if_pos (by omega)]
      ·rw [if_neg hle, if_neg (by omega)]⟩⟩
     case measure => simp [intOf]; omega
   ·have hlb : ¬ (q : Int) < (m : Int) := by omega
    have hqe : q = m := by omega
    have HSV : Hid (sv = P12.manyS 4 m) := Lib.hid (by rw [HR.out.1, hqe])
    have HPL : Hid (pl = if m ≤ 16 then 0 else (P12.manyPlace 4 : Int)) := Lib.hid (by rw [HR.out.2, hqe])
    clear hqe
    go_wp2_with fail
    refine (parse_seen _ _ (HP.out.ext (Xk.Ext.trans HX1.out Xk.xt))).mono ?_
    rintro e w2 ⟨l, p, kk, rfl, hx2, g1, g2, g3, hmt⟩
    have hb : ∀ X : ByteArray, X.data.toList = P12.manyS 4 m ++ P12.manyEnd 4 → P12.parse X.data.toList = P12.parse (P12.manyS 4 m ++ P12.manyEnd 4) := fun X h => by rw [h]
    rw [hb _ (by rw [← HSV.out]; simp [P12.manyEnd])] at hmt
    have hc := many_seen (k := 4) (by decide) hm0 hm50 hmt
    have HX2 := Lib.hid (Xk.Ext.trans HX1.out (Xk.Ext.trans (by exact Xk.xt) hx2))
    have G1 := Lib.hid g1
    have G2 := Lib.hid g2
    have G3 := Lib.hid g3
    clear hmt hb hx2 g1 g2 g3
    rcases hc with ⟨c1, rfl⟩ | ⟨c1, rfl, c2⟩
    ·have c1' : m ≤ 16 := c1
     have y1 : ¬ (16 : Int) < (m : Int) := by omega
     clear c1
     go_wp2_with ((refine wpList_putRow rfl 40 _ _ rfl (w2.heap.size) _ _ 40 rfl rfl ((heap_new w2 _)) ((by rw [show l.toArray.size = 37 by rw [List.size_toArray, G1.out]]; rfl)) (G3.out) (G2.out) ?_; intro w5 hp5))
     go_ret
     exact ⟨rfl, Xk.Ext.trans HX2.out (puts_ext hp5 (boxX w2 _) (Nat.le_refl _))⟩
    ·have c1' : 16 < m := c1
     have y1 : (16 : Int) < (m : Int) := by omega
     obtain rfl : p = pl := by rw [c2, HPL.out, if_neg (by omega)]
     clear c1 c2
     go_wp2_with ((refine wpList_putRow rfl 40 _ _ rfl (w2.heap.size) _ _ 40 rfl rfl ((heap_new w2 _)) ((by rw [show l.toArray.size = 37 by rw [List.size_toArray, G1.out]]; rfl)) (G3.out) (G2.out) ?_; intro w5 hp5))
     go_ret
     exact ⟨rfl, Xk.Ext.trans HX2.out (puts_ext hp5 (boxX w2 _) (Nat.le_refl _))⟩
end Go.Proofs.YtkpmclddjkebeaaGreatDoor
