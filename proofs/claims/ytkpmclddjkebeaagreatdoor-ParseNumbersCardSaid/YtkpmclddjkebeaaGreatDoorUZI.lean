/- Walks: pantilelaw12.ParseNumbers. -/
import Derived.Test.YtkpmclddjkebeaaGreatDoorUZH
import Derived.BigFrame
set_option linter.unusedSimpArgs false
set_option linter.unusedVariables false
set_option maxRecDepth 100000
set_option maxHeartbeats 8000000
namespace Go.Proofs.YtkpmclddjkebeaaGreatDoor
open Go.RowKit
theorem wpList_built3 {P : Program} {ops : Array Oper} {rest : List Oper} {o : Oper} {a : Act} {w : World} {Q : Exit → Act → World → Prop} (hgd : o.guard = none) (t i0 i1 i2 : Nat) (x0 x1 x2 : Operand) (ho : o.op = .build t #[(i0, x0), (i1, x1), (i2, x2)])
  (u0 u1 u2 v : Value) (h0 : a.eval x0 = u0) (h1 : a.eval x1 = u1) (h2 : a.eval x2 = u2) (hb : (Instr.build t #[(i0, u0), (i1, u1), (i2, u2)]).run P w = .ok v w)
  (h : wpList P ops Q rest (a.put o.dst v) w) : wpList P ops Q (o :: rest) a w :=
 wpList_plain hgd fun _ hK => by
  unfold Oper.wp execOp
  simp only [ho, List.map_toArray, List.map_cons, List.map_nil, h0, h1, h2, Sem.run_bind, Sem.run_pure, hb, Result.andThen_ok]
  exact hK _ _ h
theorem wpList_loadW {P : Program} {ops : Array Oper} {rest : List Oper} {o : Oper} {a : Act} {w : World} {Q : Exit → Act → World → Prop} (hgd : Region.wanted o (yielded ops a.tmps) = true) (t : TypeId) (x : Operand) (ho : o.op = .load t x)
  (g : Nat) (cs : Array Value) (T : TypeId) (fr : Nat × Nat) (d : TypeDesc) (hx : a.eval x = .pointer (some ⟨g, 0, none⟩)) (hg : w.heap[g]? = some (.cells cs T fr))
  (hu : P.underlying t = some d) (hd : (match d with | .struct _ | .array _ _ => true | _ => false) = true) (hi : (P.info? t).map (·.size) = some cs.size)
  (h : wpList P ops Q rest (a.put o.dst (.agg cs)) w) : wpList P ops Q (o :: rest) a w :=
 wpList_step fun _ hK => by
  rw [if_pos hgd]
  unfold Oper.wp execOp
  simp only [ho, hx, Instr.loadAt, Instr.sureAddr, Sem.run_bind, Sem.run_pure, Result.andThen_ok, run_loadVar_row (P := P) w g T t cs fr d hg hu hd hi]
  exact hK _ _ h
def numL (n : Int) : List Value := stmtL 7 [] nilS nilS nilS nilS [116] [] false nilS nilS nilS (exprL 1 0 2 n [] [] [] nilS) nilS nilS noE nilS nilS 0
theorem numL_in (S : Nat → Prop) (W : World) (n : Int) : StmtIn S W (P12.numS n) (numL n) :=
 ⟨nilS, nilS, nilS, nilS, nilS, nilS, nilS, exprL 1 0 2 n [] [] [] nilS, nilS, nilS, noE, nilS, nilS, rfl, SlcAt.nil _ _ _ _, SlcAt.nil _ _ _ _, SlcAt.nil _ _ _ _, SlcAt.nil _ _ _ _, SlcAt.nil _ _ _ _, SlcAt.nil _ _ _ _, SlcAt.nil _ _ _ _, rfl, SlcAt.nil _ _ _ _, SlcAt.nil _ _ _ _, rfl, SlcAt.nil _ _ _ _, SlcAt.nil _ _ _ _⟩
theorem numbers_any (n : Int) (h0 : -9223372036854775808 ≤ n) (h1 : n ≤ 9223372036854775807) (k : Nat) (hk : k < 256) (ds : ByteArray) (hds0 : ds.size ≤ maxLen) (w : World) (hE : Env w) (hP : EnvP w)
  (hSame : ∀ (S S' : Nat → Prop) (W : World) (l l' : List Value), StmtIn S W (P12.numS n) l → StmtIn S' W (P12.numS n) l' → Calls Tryz.prog 13 #[.agg l.toArray, .agg l'.toArray] W fun e w' => e = .returned (.bool true) ∧ Xk.Ext W w') :
  Calls Tryz.prog 6 #[.int .i64 n, .int .u8 k, .string ds] w fun e w' => e = .returned (.bool true) ∧ Xk.Ext w w' := by
 have hds : ds.size ≤ 9223372036854775807 := Nat.le_trans hds0 (by unfold maxLen; omega)
 clear hds0
 have HK := Lib.hid fun W (hx : Xk.Ext w W) => known_12 W (hE.ext hx) (hP.ext hx)
 have HS := Lib.hid hSame
 have HE := Lib.hid hE
 have HP := Lib.hid hP
 clear hSame hE hP
 obtain ⟨z0, hz0⟩ : ∃ z, z = numL n := ⟨_, rfl⟩
 have HBD : Hid (∀ W, (Instr.build 40 #[(0, .int .i64 7), (3, bs [116]), (9, .agg (exprL 1 0 2 n [] [] [] nilS).toArray)]).run Tryz.prog W = .ok (.agg z0.toArray) W) := Lib.hid fun W => by rw [hz0]; kernel_rfl
 have HZL : Hid (z0.length = 37) := Lib.hid (by rw [hz0]; rfl)
 have HSZ : Hid ((Tryz.prog.info? 40).map (·.size) = some z0.toArray.size) := Lib.hid (by rw [List.size_toArray, HZL.out]; kernel_rfl)
 have HONE : Hid (z0.toArray.all (·.oneCell') = true) := Lib.hid (by rw [hz0]; kernel_rfl)
 have HIN : Hid (∀ S W, StmtIn S W (P12.numS n) z0) := Lib.hid fun S W => by rw [hz0]; exact numL_in S W n
 clear hz0
 obtain ⟨tx, htx⟩ : ∃ t : ByteArray, t = ⟨(P12.numHead ++ Lib.itoa n).toArray⟩ := ⟨_, rfl⟩
 obtain ⟨np1, np2, np3⟩ := P12.num_print n h0 h1
 have HPR : Hid (∀ W, Xk.Ext w W → Calls Tryz.prog 15 #[.agg z0.toArray] W fun r w' => r = .returned (.tuple #[.string tx, .int .i64 0]) ∧ Xk.Ext W w') := Lib.hid fun W hx => by
  have h := printDel_at np2 rfl (HE.out.ext hx) (HIN.out (fun _ => True) W) (by rw [np1]; omega)
  rw [np1] at h
  rw [htx]
  exact h
 have HPA : Hid (∀ W, Xk.Ext w W → Calls Tryz.prog 11 #[.string tx] W fun e w' => ∃ l : List Value, e = .returned (.tuple #[.agg l.toArray, .int .i64 0, .int .i64 0]) ∧ Xk.Ext W w' ∧ l.length = 37 ∧ l.toArray.all (·.oneCell') = true ∧ (Tryz.prog.info? 40).map (·.size) = some l.toArray.size ∧ StmtIn (fun b => W.heap.size ≤ b) w' (P12.numS n) l) := Lib.hid fun W hx => by
  refine (parse_seen tx W (HP.out.ext hx)).mono ?_
  rintro e w' ⟨l, p, k2, rfl, hb, hl, ho, hi, h⟩
  rw [htx, show P12.parse (⟨(P12.numHead ++ Lib.itoa n).toArray⟩ : ByteArray).data.toList = _ from P12.num_back n h0 h1] at h
  obtain ⟨rfl, rfl, h⟩ := h
  exact ⟨l, rfl, hb, hl, ho, hi, h⟩
 clear htx np1 np2 np3
 go_enter Tryz.func6, Tryz.ntmps6
 go_wp2_with fail
 refine (HK.out _ (Below.refl _ _)).mono ?_
 rintro e W1 ⟨rfl, hx1⟩
 have HX1 := Lib.hid hx1
 clear hx1 HK
 go_wp2_with fail
 obtain ⟨z, hz⟩ : ∃ z : Nat, z = k % 20 := ⟨_, rfl⟩
 have hz20 : z < 20 := by omega
 have hmod : Int.tmod (k : Int) 20 = (z : Int) := by rw [hz]; exact Int.ofNat_tmod k 20
 have hmod2 : (k : Int) % 20 = (z : Int) := by omega
 clear hz
 go_loop [7, 8] (fun s x => ∃ q : Nat, q ≤ z ∧ x = .int .i64 q ∧ s = .string ⟨(List.replicate q 48).toArray⟩) (fun _ x => z - (intOf x).toNat)
 case atStart => exact ⟨0, by omega, rfl, rfl⟩
 case round =>
  obtain ⟨q, hq, rfl, rfl⟩ := hrel
  by_cases hlt : q < z
  ·have hlb : (q : Int) < (z : Int) := by omega
   go_wp2_with fail
   go_round
   case rel => exact ⟨q + 1, by omega, by go_num, congrArg Value.string (by apply bytes_eq; simp [List.replicate_succ'])⟩
   case measure => simp [intOf]; omega
  ·obtain rfl : q = z := by omega
   have hlb : ¬ (q : Int) < (q : Int) := by omega
   go_upto_region 8 with fail
   go_wp2_with (first
    | (refine wpList_built3 rfl 40 0 3 9 _ _ _ rfl (.int .i64 7) (bs [116]) (.agg (exprL 1 0 2 n [] [] [] nilS).toArray) _ rfl rfl rfl (HBD.out _) ?_)
    | ((refine wpList_putRow rfl 40 _ _ rfl (W1.heap.size) _ _ 40 rfl rfl ((heap_new W1 _)) ((by rw [show z0.toArray.size = 37 by rw [List.size_toArray, HZL.out]]; rfl)) (HSZ.out) (HONE.out) ?_; intro w2 hp2); have hb2 := hp2.blk; have HX2 := Lib.hid (Xk.Ext.trans HX1.out (puts_ext hp2 (boxX W1 _) (Nat.le_refl _))); clear hp2)
    | (refine wpList_loadRow rfl 40 _ rfl W1.heap.size _ 40 (0, 0) _ rfl hb2 Tryz.underlying40 rfl HSZ.out ?_))
   refine (HPR.out _ HX2.out).mono ?_
   rintro e w3 ⟨rfl, hx3⟩
   have hb3 := (hx3.block _ (Array.getElem?_eq_some_iff.1 hb2).1).trans hb2
   have HX3 := Lib.hid (Xk.Ext.trans HX2.out hx3)
   clear hx3 hb2
   go_wp2_with fail
   refine (HPA.out _ HX3.out).mono ?_
   rintro e w4 ⟨l4, rfl, hx4, hl4, ho4, hi4, hs4⟩
   have hb4 := (hx4.block _ (Array.getElem?_eq_some_iff.1 hb3).1).trans hb3
   have HX4 := Lib.hid (Xk.Ext.trans HX3.out hx4)
   have HL4 := Lib.hid hl4
   have HO4 := Lib.hid ho4
   have HI4 := Lib.hid hi4
   have HS4 := Lib.hid hs4
   clear hx4 hb3 hl4 ho4 hi4 hs4
   go_wp2_with (first
    | ((refine wpList_putRow rfl 40 _ _ rfl (w4.heap.size) _ _ 40 rfl rfl ((heap_new w4 _)) ((by rw [show l4.toArray.size = 37 by rw [List.size_toArray, HL4.out]]; rfl)) (HI4.out) (HO4.out) ?_; intro w5 hp5); have hb5 := hp5.blk; have HX5 := Lib.hid (puts_ext hp5 (boxX w4 _) (Nat.le_refl _)); have hb6 := (HX5.out.block _ (Array.getElem?_eq_some_iff.1 hb4).1).trans hb4; clear hp5 hb4)
    | (refine wpList_loadW (by rfl) 40 _ rfl W1.heap.size _ 40 (0, 0) _ rfl hb6 Tryz.underlying40 rfl HSZ.out ?_)
    | (refine wpList_loadW (by rfl) 40 _ rfl w4.heap.size _ 40 (0, 0) _ rfl hb5 Tryz.underlying40 rfl HI4.out ?_))
   refine (HS.out _ _ _ _ _ (HIN.out (fun _ => True) w5) (HS4.out.at HX5.out)).mono ?_
   rintro e w6 ⟨rfl, hx6⟩
   have HX6 := Lib.hid (Xk.Ext.trans HX4.out (Xk.Ext.trans HX5.out hx6))
   clear hx6 hb5 hb6 HX1 HX2 HX3 HX4 HX5 HS HIN HS4 HBD HZL HSZ HONE HPR HPA HL4 HO4 HI4
   by_cases hs1 : ds.size < 20
   ·have b1 : (ds.size : Int) < 20 := by omega
    go_wp2_with fail
    go_ret
    exact ⟨rfl, HX6.out⟩
   have b1 : ¬ (ds.size : Int) < 20 := by omega
   by_cases hs2 : 100 < ds.size
   ·have b2 : (100 : Int) < (ds.size : Int) := by omega
    go_wp2_with fail
    go_ret
    exact ⟨rfl, HX6.out⟩
   have b2 : ¬ (100 : Int) < (ds.size : Int) := by omega
   go_wp2_with fail
   go_loop [15] (fun x => ∃ i : Nat, i ≤ ds.size ∧ x = .int .i64 i ∧ Hid (∀ j (h : j < ds.size), j < i → 49 ≤ ds[j].toNat ∧ ds[j].toNat ≤ 57)) (fun x => ds.size - (intOf x).toNat)
   case atStart => exact ⟨0, Nat.zero_le _, rfl, Lib.hid fun j h h1 => by omega⟩
   case round =>
    obtain ⟨i, hi, rfl, HJ⟩ := hrel
    by_cases hid : i < ds.size
    ·have hb8 : (ds[i].toNat : Int) < 256 := by have := ds[i].toNat_lt; omega
     have hib : (i : Int) < (ds.size : Int) := by omega
     by_cases h49 : ds[i].toNat < 49
     ·have c1 : (ds[i].toNat : Int) < 49 := by omega
      go_wp2_with fail
      go_ret
      exact ⟨rfl, HX6.out⟩
     have c1 : ¬ (ds[i].toNat : Int) < 49 := by omega
     by_cases h57 : 57 < ds[i].toNat
     ·have c2 : (57 : Int) < (ds[i].toNat : Int) := by omega
      go_wp2_with fail
      go_ret
      exact ⟨rfl, HX6.out⟩
     have c2 : ¬ (57 : Int) < (ds[i].toNat : Int) := by omega
     have HD := Lib.hid (And.intro h49 h57)
     clear h49 h57
     go_wp2_with fail
     go_round
     case rel => exact ⟨i + 1, by omega, by go_num, Lib.hid fun j h h1 => by
      by_cases hji : j = i
      ·subst hji; have := HD.out; omega
      ·exact HJ.out j h (by omega)⟩
     case measure => simp [intOf]; omega
    ·have hib : ¬ (i : Int) < (ds.size : Int) := by omega
     obtain rfl : i = ds.size := by omega
     have g1 : ¬ 9223372036854775807 < 20 + q := by omega
     have g2 : ¬ 9223372036854775807 < 20 + q + ds.size := by omega
     go_wp2_with fail
     refine (parse_seen _ _ (HP.out.ext HX6.out)).mono ?_
     rintro e w7 ⟨l7, p7, k7, rfl, hx7, hl7, ho7, hi7, h7⟩
     have hbs : (({ data := #[68, 69, 76, 69, 84, 69, 32, 70, 82, 79, 77, 32, 116, 32, 87, 72, 69, 82, 69, 32] } : ByteArray) ++ { data := Array.replicate q 48 } ++ ds).data.toList = P12.numHead ++ (List.replicate q 48 ++ ds.data.toList) := by simp [P12.numHead]
     rw [hbs, P12.num_great q ds.data.toList hz20 (by simpa using (by omega : 20 ≤ ds.size)) (by simpa using (by omega : ds.size ≤ 100)) (fun c hc => by
      obtain ⟨j, hj, rfl⟩ := List.mem_iff_getElem.1 hc
      have hj' : j < ds.size := by simpa using hj
      exact HJ.out j hj' hj')] at h7
     obtain ⟨rfl, rfl⟩ := h7
     have HX7 := Lib.hid (Xk.Ext.trans HX6.out hx7)
     clear hx7 hbs
     have HL7 := Lib.hid hl7
     have HO7 := Lib.hid ho7
     have HI7 := Lib.hid hi7
     clear hl7 ho7 hi7
     go_wp2_with ((refine wpList_putRow rfl 40 _ _ rfl (w7.heap.size) _ _ 40 rfl rfl ((heap_new w7 _)) ((by rw [show l7.toArray.size = 37 by rw [List.size_toArray, HL7.out]]; rfl)) (HI7.out) (HO7.out) ?_; intro w8 hp8); have HX8 := Lib.hid (puts_ext hp8 (boxX w7 _) (Nat.le_refl _)); clear hp8)
     go_ret
     exact ⟨rfl, Xk.Ext.trans HX7.out HX8.out⟩
end Go.Proofs.YtkpmclddjkebeaaGreatDoor
