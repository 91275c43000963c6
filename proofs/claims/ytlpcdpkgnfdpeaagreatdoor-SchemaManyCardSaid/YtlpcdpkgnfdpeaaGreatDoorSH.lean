/- What the claim's proof leans on, part 8: walks of functions and plain laws. -/
import Derived.Test.YtlpcdpkgnfdpeaaGreatDoorSG
import Derived.Test.YtlpcdpkgnfdpeaaGreatDoorSB
import Derived.Maps.RangeWalk
import Derived.Maps.StringElems
import Derived.Test.YtlpcdpkgnfdpeaaGreatDoorSD
import Derived.Defers
import Derived.Recover
set_option linter.unusedSimpArgs false
set_option linter.unusedVariables false
set_option maxRecDepth 100000
set_option maxHeartbeats 80000000
namespace Go.Proofs.YtlpcdpkgnfdpeaaGreatDoor
open Go.RowKit
theorem Tab.recF {B gx : Nat} {t : P12.Tb} {k : List (List P12.T)} {col : Nat → Nat} {tc tk tq kc : Value} {c : Array Value} {w : World} (h : Tab B gx t k col tc tk tq kc c w) (col' : Nat → Nat) (hc : ∀ b, b < w.heap.size → col b < 4 → col' b = col b) : Tab B gx t k col' tc tk tq kc c w :=
 ⟨h.blk, h.tc.keep stab_col (fun _ _ _ => rfl) (fun b hb hl => ⟨hb.1, by rw [hc b hl (by rw [hb.2]; decide)]; exact hb.2⟩), h.tk.keep stab_key (fun _ _ _ => rfl) (fun b hb hl => ⟨hb.1, by rw [hc b hl (by rw [hb.2]; decide)]; exact hb.2⟩), h.tq.keep stab_expr (fun _ _ _ => rfl) (fun b hb hl => ⟨hb.1, by rw [hc b hl (by rw [hb.2]; decide)]; exact hb.2⟩), h.kc.keep stab_strs (fun _ _ _ => rfl) (fun b hb hl => ⟨hb.1, by rw [hc b hl (by rw [hb.2]; decide)]; exact hb.2⟩), h.bx, h.bs⟩
theorem Tab.setO {B gx : Nat} {t : P12.Tb} {k : List (List P12.T)} {col : Nat → Nat} {tc tk tq kc : Value} {c : Array Value} {w : World} (h : Tab B gx t k col tc tk tq kc c w) {g : Nat} (hg : col g = 4) (hB : B ≤ g) (o : Nat) (u : Value) : Tab B gx t k col tc tk tq kc c (w.setCell ⟨g, o, none⟩ u) := by
 have hb : ∀ b, b ≠ g → (w.setCell ⟨g, o, none⟩ u).heap[b]? = w.heap[b]? := fun b hb => heap_setCell_other w ⟨g, o, none⟩ b u (fun e => hb (by simpa using e))
 have hne : ∀ i b, i ≠ 4 → (B ≤ b ∧ col b = i) → b ≠ g := fun i b hi hb e => hi (by rw [← hb.2, e, hg])
 exact ⟨(hb gx (by have := h.bx; omega)).trans h.blk, h.tc.keep stab_col (fun b hb' _ => hb b (hne 0 b (by decide) hb')) (fun b hb _ => hb), h.tk.keep stab_key (fun b hb' _ => hb b (hne 1 b (by decide) hb')) (fun b hb _ => hb), h.tq.keep stab_expr (fun b hb' _ => hb b (hne 2 b (by decide) hb')) (fun b hb _ => hb), h.kc.keep stab_strs (fun b hb' _ => hb b (hne 3 b (by decide) hb')) (fun b hb _ => hb), h.bx, by rw [World.size_setCell]; exact h.bs⟩
structure Ck (br gx gm gc B n : Nat) (Tp : World → Prop) (w0 : World) (r0 r : P12.R) (w : World) : Prop where
 rd : Rd br r w
 tab : Tp w
 tst : ∀ w w', B ≤ w.heap.size → Tp w → Turn br w w' → Tp w'
 many : w.heap[gm]? = some (manyO br n 16)
 kept : KeptG B gc [br, gx, gm] w0 w
 keeps : P12.Keeps r0 r
 h1 : br < gx
 h2 : br < gm
 h3 : gm < B
 h4 : gm ≠ gx
 h5 : gx < B
 h6 : B ≤ w.heap.size
 h7 : gc < w.heap.size
section
variable {br gx gm gc B n : Nat} {Tp Tp' : World → Prop} {w0 : World} {r0 r r' : P12.R} {w w' : World}
theorem Ck.step (F : Ck br gx gm gc B n Tp w0 r0 r w) (ht : Turn br w w') (hr : Rd br r' w') (hk : P12.Keeps r r') : Ck br gx gm gc B n Tp w0 r0 r' w' := by
 obtain ⟨a1, a2, a3, a4, a5, a6, a7, a8, a9, a10, a11, a12, a13⟩ := F
 exact ⟨hr, a3 _ _ a12 a2 ht, a3, ht.held a4 (by omega), a5.trans (KeptG.of_turn ht (by simp) (by omega)), a6.trans hk, a7, a8, a9, a10, a11, Nat.le_trans a12 ht.size, Nat.lt_of_lt_of_le a13 ht.size⟩
theorem Ck.ext (F : Ck br gx gm gc B n Tp w0 r0 r w) (hx : Xk.Ext w w') : Ck br gx gm gc B n Tp w0 r0 r w' := F.step (Turn.of_ext hx) (F.rd.ext hx) (P12.Keeps.refl _)
theorem Ck.alloc (F : Ck br gx gm gc B n Tp w0 r0 r w) (o : Obj) : Ck br gx gm gc B n Tp w0 r0 r (w.alloc o) := F.ext ((Below.refl _ _).alloc (Nat.le_refl _) _)
theorem Ck.after (F : Ck br gx gm gc B n Tp w0 r0 r w) (ht : Turn br w w') : KeptG B gc [br, gx, gm] w0 w' := F.kept.trans (KeptG.of_turn ht (by simp) (by have := F.h1; have := F.h5; omega))
theorem Ck.setO (F : Ck br gx gm gc B n Tp w0 r0 r w) {g : Nat} (hB : B ≤ g) (hG : B ≤ gc → g ≠ gc) (o : Nat) (u : Value) (hT : Tp' (w.setCell ⟨g, o, none⟩ u)) (hst : ∀ w w', B ≤ w.heap.size → Tp' w → Turn br w w' → Tp' w') : Ck br gx gm gc B n Tp' w0 r0 r (w.setCell ⟨g, o, none⟩ u) := by
 obtain ⟨a1, a2, a3, a4, a5, a6, a7, a8, a9, a10, a11, a12, a13⟩ := F
 exact ⟨Rd.setCell a1 (by omega) _ _, hT, hst, (heap_setCell_other w ⟨g, o, none⟩ gm u (fun e => by (have h : gm = g := (by simpa using e)); omega)).trans a4, a5.setCell (.inl ⟨hB, hG⟩) _ _, a6, a7, a8, a9, a10, a11, by rw [World.size_setCell]; exact a12, by rw [World.size_setCell]; exact a13⟩
theorem Ck.setX (F : Ck br gx gm gc B n Tp w0 r0 r w) (o : Nat) (u : Value) (hT : Tp' (w.setCell ⟨gx, o, none⟩ u)) (hst : ∀ w w', B ≤ w.heap.size → Tp' w → Turn br w w' → Tp' w') : Ck br gx gm gc B n Tp' w0 r0 r (w.setCell ⟨gx, o, none⟩ u) := by
 obtain ⟨a1, a2, a3, a4, a5, a6, a7, a8, a9, a10, a11, a12, a13⟩ := F
 exact ⟨Rd.setCell a1 (by omega) _ _, hT, hst, (heap_setCell_other w ⟨gx, o, none⟩ gm u (fun e => a10 (by simpa using e))).trans a4, a5.setCell (.inr ⟨by simp, a11⟩) _ _, a6, a7, a8, a9, a10, a11, by rw [World.size_setCell]; exact a12, by rw [World.size_setCell]; exact a13⟩
theorem Ck.grown (F : Ck br gx gm gc B n Tp w0 r0 r w) {k : Option Nat} (hg : w.grownBy w' k) (hk : ∀ b, k = some b → B ≤ b ∧ (B ≤ gc → b ≠ gc)) (hT : Tp' w') (hst : ∀ w w', B ≤ w.heap.size → Tp' w → Turn br w w' → Tp' w') : Ck br gx gm gc B n Tp' w0 r0 r w' := by
 obtain ⟨a1, a2, a3, a4, a5, a6, a7, a8, a9, a10, a11, a12, a13⟩ := F
 exact ⟨a1.grown hg (fun b hb => by have := (hk b hb).1; omega), hT, hst, (hg.block gm (by omega) (fun e => by have := (hk gm e.symm).1; omega)).trans a4, a5.grown hg hk, a6, a7, a8, a9, a10, a11, Nat.le_trans a12 hg.size, Nat.lt_of_lt_of_le a13 hg.size⟩
end
abbrev keyL (p : Bool) : List Value := [.string ⟨#[]⟩, nilS, .bool true, .bool p]
theorem Tryz.infoKey : (Tryz.prog.info? 100).map (fun i => (i.zero, i.size, i.bytes)) = some (some (.agg #[.string ⟨#[]⟩, nilS, .bool false, .bool false]), 4, 48) := by kernel_rfl
theorem Tryz.infoStrs : (Tryz.prog.info? 35).map (fun i => (i.zero, i.size, i.bytes)) = some (some nilS, 1, 24) := by kernel_rfl
def KTab (B gx g : Nat) (t : P12.Tb) (k : List (List P12.T)) (col : Nat → Nat) (tc tk tq kc : Value) (p : Bool) (W : World) : Prop :=
 Tab B gx t k col tc tk tq kc (tabL t.name tc tk tq kc) W ∧ W.heap[g]? = some (.cells (keyL p).toArray 100)
theorem KTab.turn {B gx g br : Nat} {t : P12.Tb} {k : List (List P12.T)} {col : Nat → Nat} {tc tk tq kc : Value} {p : Bool} {w w' : World} (h : KTab B gx g t k col tc tk tq kc p w) (ht : Turn br w w') (h1 : br < gx) (h2 : br < g) : KTab B gx g t k col tc tk tq kc p w' :=
 ⟨h.1.turn ht h1, ht.held h.2 (by omega)⟩
theorem P12.must_keeps {s : P12.T} {r r' : P12.R} (h : P12.must s r = .ok r') : P12.Keeps (P12.takes r) r' := by
 unfold P12.must at h
 split at h
 ·cases h; exact P12.Keeps.refl _
 ·cases h
theorem slc_str {w : World} {g : Nat} {c : P12.T} {S : Nat → Prop} (h : w.heap[g]? = some (.cells #[bs c] 9)) (hS : S g) : SlcAt S w 1 strR [c] (.slice (some ⟨g, 0, none⟩) 1 1) := by
 refine .inr ⟨g, 1, [[bs c]], rfl, hS, by simp, by simp, rfl, by simp, by decide, fun j v hj => ?_, fun j y u hy hu => ?_⟩
 ·have hj' : #[bs c][j]? = some v := by simpa using hj
  unfold World.cell?
  rw [h]
  simpa using hj'
 ·match j, hy, hu with
  | 0, hy, hu => cases hy; cases hu; rfl
theorem constraint_key (br gx gm gc B n : Nat) (t : P12.Tb) (k : List (List P12.T)) (c : P12.T) (r : P12.R) (w : World) (h : Rd br r w) (hx : TabAt B gx gc t k w) (hm : w.heap[gm]? = some (manyO br n 16)) (h1 : br < gx) (h2 : br < gm) (h3 : gm < B) (hne : gm ≠ gx) (hn : n ≤ 16)
  (hgs : gc < w.heap.size) (hl : t.keys.length ≤ 100 ∧ k.length ≤ 100) (hcc : (decide (16 < n + 1) && P12.constrains r) = false) (hck : P12.isT [67, 72, 69, 67, 75] r = false) :
  Calls Tryz.prog 266 #[rp br, rp gx, rp gm, bs c] w (ConPost br gx gm gc B n t k w r (match P12.keyWord r with
   | .error e => .error e
   | .ok r1 => match P12.colsOf c r1 with
    | .error e => .error e
    | .ok (l, r2) => .ok (.inr (P12.isT [80, 82, 73, 77, 65, 82, 89] r, l), r2))) := by
 have lr := h.lt
 have H := Lib.hid h
 have HX := Lib.hid hx
 have HM := Lib.hid hm
 have HB := hx.bounds
 clear h hx hm
 generalize hres : (match P12.keyWord r with
   | .error e => .error e
   | .ok r1 => match P12.colsOf c r1 with
    | .error e => .error e
    | .ok (l, r2) => .ok (.inr (P12.isT [80, 82, 73, 77, 65, 82, 89] r, l), r2) : Except P12.Er (P12.Con × P12.R)) = res
 have HE := Lib.hid hres
 clear hres
 have hbk : ∀ (W : World), (Instr.build 100 #[(2, Value.bool true)]).run Tryz.prog W = .ok (.agg (keyL false).toArray) W := fun W => by kernel_rfl
 go_enter Tryz.func266, Tryz.ntmps266
 go_wp2_with fail
 go_at_call 267
 refine (counts_any br n 16 gm r _ (rp br) 265 (P12.constrains r) w H.out HM.out h2 (by omega) (by omega) (.inl rfl) ent_constrains (fun W hr _ => constrains_any br r W hr)).mono ?_
 rintro e w1 ⟨hx1, he1⟩
 rw [if_neg (by rw [hcc]; simp)] at he1
 subst he1
 have hm1 : w1.heap[gm]? = some (manyO br (n + 1) 16) := by
  rw [hx1.block _ (by rw [World.size_setCell]; exact (Array.getElem?_eq_some_iff.1 HM.out).1), heap_setCell_same w gm 1 _ _ _ HM.out]
  simp
 have F1 : Cf br gx gm gc B (n + 1) t k w r r w1 := ⟨(Rd.setCell H.out (by omega) 1 _).ext hx1, (HX.out.setCell h3 hne 1 _).ext hx1, hm1, ((KeptG.refl _ _ _ _).setCell (.inr ⟨by simp, h3⟩) 1 _).trans (KeptG.of_ext hx1), P12.Keeps.refl _, h1, h2, h3, hne, by have := hx1.size; rw [World.size_setCell] at this; omega⟩
 clear hx1 hm1
 go_wp2_with fail
 go_at_call 100
 refine (has_got br r [67, 72, 69, 67, 75] _ F1.rd).mono ?_
 rw [hck]
 rintro e w2 ⟨rfl, ht2, hr2, hk2⟩
 simp only [P12.has, hck, Bool.false_eq_true, if_true, if_false] at hr2 hk2
 have F2 := F1.step ht2 hr2 hk2
 clear ht2 hr2 hk2 F1
 have hB2 := F2.gxB
 obtain ⟨col0, tc, tk, tq, kc, T0, h90⟩ := F2.tab
 obtain ⟨col, hcol⟩ : ∃ col : Nat → Nat, ∀ b, col b = if b < w2.heap.size then col0 b else 4 := ⟨_, fun _ => rfl⟩
 have T2 := T0.recF col (fun b hb _ => by rw [hcol, if_pos hb])
 have h9 : B ≤ gc → col gc = 9 := fun h => by rw [hcol, if_pos F2.h5]; exact h90 h
 have hgs2 := F2.h5
 have hnew : ∀ b, w2.heap.size ≤ b → col b = 4 := fun b hb => by rw [hcol, if_neg (by omega)]
 have hold : ∀ b, col b < 4 → b < w2.heap.size := fun b hb => by
  rcases Nat.lt_or_ge b w2.heap.size with h | h
  ·exact h
  ·rw [hnew b h] at hb; omega
 have hst : ∀ p (w w' : World), B ≤ w.heap.size → KTab B gx w2.heap.size t k col tc tk tq kc p w → Turn br w w' → KTab B gx w2.heap.size t k col tc tk tq kc p w' := fun p w w' _ h ht => h.turn ht h1 (by omega)
 have HST := Lib.hid hst
 have F2H := Lib.hid F2
 have T2H := Lib.hid T2
 clear T0 hcol hst T2 F2
 go_wp2_with ((refine pw (heap_new w2 _) ?_; intro w3 hp3))
 have hx3 : Xk.Ext w2 w3 := puts_ext hp3 ((Below.refl _ _).alloc (Nat.le_refl _) _) (Nat.le_refl _)
 have F3 := F2H.out.ext hx3
 have G3 : Ck br gx gm gc B (n + 1) (KTab B gx w2.heap.size t k col tc tk tq kc false) w r r w3 :=
  ⟨F3.rd, ⟨T2H.out.ext hx3, hp3.blk⟩, HST.out false, F3.many, F3.kept, F3.keeps, h1, h2, h3, hne, hB2.1, F3.gxB.2, F3.h5⟩
 clear hx3 F3 hp3 F2H T2H
 obtain ⟨p, hp⟩ : ∃ p, P12.isT [80, 82, 73, 77, 65, 82, 89] r = p := ⟨_, rfl⟩
 go_at_call 100
 refine (has_got br r [80, 82, 73, 77, 65, 82, 89] _ G3.rd).mono ?_
 rw [hp]
 rintro e w4 ⟨rfl, ht4, hr4, hk4⟩
 have G4 := G3.step ht4 hr4 hk4
 have c4 : w4.cell? ⟨w2.heap.size, 3, none⟩ = some (.bool false) := by simp [World.cell?, G4.tab.2]
 have f4 := frozen_of_row w4 w2.heap.size 3 _ _ G4.tab.2
 have hk5 : (w4.setCell ⟨w2.heap.size, 3, none⟩ (.bool p)).heap[w2.heap.size]? = some (.cells (keyL p).toArray 100) := heap_setCell_same w4 w2.heap.size 3 _ _ _ G4.tab.2
 have G5 := G4.setO hB2.2 (fun _ e => by omega) 3 (.bool p) (Tp' := KTab B gx w2.heap.size t k col tc tk tq kc p) ⟨G4.tab.1.setO (hnew _ (Nat.le_refl _)) hB2.2 3 (.bool p), hk5⟩ (HST.out p)
 have c5 : (w4.setCell ⟨w2.heap.size, 3, none⟩ (.bool p)).cell? ⟨w2.heap.size, 3, none⟩ = some (.bool p) := by simp [World.cell?, hk5]
 have hs5 : (w4.setCell ⟨w2.heap.size, 3, none⟩ (.bool p)).heap.size = w4.heap.size := World.size_setCell _ _ _
 clear ht4 hr4 hk4 G3 G4 hk5
 go_upto_if 37 with fail
 generalize w4.setCell ⟨w2.heap.size, 3, none⟩ (.bool p) = w5 at *
 clear c4 f4 c5 hs5
 go_cut [] from 10 (fun w' => ∃ r', P12.keyWord r = .ok r' ∧ P12.Keeps (P12.takes r) r' ∧ Ck br gx gm gc B (n + 1) (KTab B gx w2.heap.size t k col tc tk tq kc p) w r r' w')
 case first =>
  cases p
  ·have hK : P12.keyWord r = P12.must [85, 78, 73, 81, 85, 69] r := by simp [P12.keyWord, P12.has, hp]
   have hE := HE.out
   rw [hK] at hE
   clear HE
   have HE := Lib.hid hE
   simp only [P12.has, hp, Bool.false_eq_true, if_false] at G5
   have hW5 := G5.h6
   clear hE
   go_wp2_with fail
   go_at_call 224
   refine (must_got br [85, 78, 73, 81, 85, 69] r _ _ (G5.alloc _).rd (cell_at _ _ _ rfl) (by omega)).mono ?_
   intro e w6 h
   cases hn : P12.must [85, 78, 73, 81, 85, 69] r
   case error er => exact ste (G5.alloc _).after
   rename_i p
   rw [hn] at h HE
   dsimp only at HE
   rename P12.R => r6
   obtain ⟨rfl, ht, hr, hk⟩ := h
   have G6 := (G5.alloc _).step ht hr hk
   clear ht hr hk G5
   go_wp2_with fail
   go_meet
   case rel => exact ⟨r6, hK.trans hn, P12.must_keeps hn, G6⟩
  ·have hK : P12.keyWord r = P12.must [75, 69, 89] (P12.takes r) := by simp [P12.keyWord, P12.has, hp]
   have hE := HE.out
   rw [hK] at hE
   clear HE
   have HE := Lib.hid hE
   simp only [P12.has, hp, if_true] at G5
   have hW5 := G5.h6
   clear hE
   go_wp2_with fail
   go_at_call 224
   refine (must_got br [75, 69, 89] (P12.takes r) _ _ (G5.alloc _).rd (cell_at _ _ _ rfl) (by omega)).mono ?_
   intro e w6 h
   cases hn : P12.must [75, 69, 89] (P12.takes r)
   case error er => exact ste (G5.alloc _).after
   rename_i p
   rw [hn] at h HE
   dsimp only at HE
   rename P12.R => r6
   obtain ⟨rfl, ht, hr, hk⟩ := h
   have G6 := (G5.alloc _).step ht hr hk
   have hkk := hk
   clear ht hr hk G5
   go_wp2_with fail
   go_meet
   case rel => exact ⟨r6, hK.trans hn, hkk, G6⟩
 case rest =>
  obtain ⟨r6, hK, hk6, G6⟩ := hcut
  have hE := HE.out
  rw [hK] at hE
  clear HE G5
  dsimp only at hE
  have HE := Lib.hid hE
  have hW6 : w2.heap.size < wc.heap.size := (Array.getElem?_eq_some_iff.1 G6.tab.2).1
  clear hE
  have G7 := G6.alloc (.cells #[bs c] 9)
  have hg7 := heap_new wc (.cells #[bs c] 9)
  clear G6
  go_upto_if 47 with fail
  generalize wc.alloc (.cells #[bs c] 9) = w7 at *
  go_cut [9] from 10 (fun v w' => ∃ (l : List P12.T) (r' : P12.R) (p1 : Option Addr) (p2 p3 : Nat), P12.colsOf c r6 = .ok (l, r') ∧ P12.Keeps r6 r' ∧ v = .slice p1 p2 p3 ∧ SlcAt (fun b => w2.heap.size ≤ b) w' 1 strR l v ∧
   Ck br gx gm gc B (n + 1) (KTab B gx w2.heap.size t k col tc tk tq kc p) w r r' w')
  case first =>
   cases hce : c.isEmpty
   ·have hc : c ≠ [] := fun e => by rw [e] at hce; cases hce
    go_wp2_with fail
    go_meet
    case rel => exact ⟨[c], r6, some ⟨wc.heap.size, 0, none⟩, 1, 1, by simp [P12.colsOf, hc], P12.Keeps.refl _, rfl, slc_str hg7 (by omega), G7⟩
   ·have hc : c = [] := List.isEmpty_iff.1 hce
    have hC : P12.colsOf c r6 = P12.names r6 := by simp [P12.colsOf, hc]
    have hE := HE.out
    rw [hC] at hE
    clear HE
    have HE := Lib.hid hE
    have hl7 := (Array.getElem?_eq_some_iff.1 hg7).1
    clear hE hc hce
    go_wp2_with fail
    go_at_call 226
    refine (names_any br _ _ G7.rd).mono ?_
    intro e w8 h
    cases hn : P12.names r6
    case error er => exact ste G7.after
    rename_i p
    rw [hn] at h HE
    dsimp only at HE
    obtain ⟨l, r8⟩ := p
    obtain ⟨_, rfl, ⟨hpos, hs⟩, ht, hr, hk⟩ := h
    obtain ⟨q1, q2, q3, rfl⟩ := slc_one hs
    have G8 := G7.step ht hr hk
    have hkk := hk
    clear ht hr hk
    go_wp2_with fail
    go_meet
    case rel => exact ⟨l, r8, q1, q2, q3, hC.trans hn, hkk, rfl, hs.keep (fun _ _ _ => rfl) (fun b hb _ => by omega) (fun _ _ h => h), G8⟩
  case rest =>
   obtain ⟨l, r9, p1, p2, p3, hC, hk9, rfl, hs, G9⟩ := hcut
   have hE := HE.out
   rw [hC] at hE
   clear HE hC G7 hg7
   dsimp only at hE
   have HE := Lib.hid hE
   clear hE hK
   obtain ⟨a1, a2, b1, b2, c1, c2, d1, d2, rfl, rfl, rfl, rfl⟩ := G9.tab.1.form
   have cK : wc.cell? ⟨gx, 3, none⟩ = some (.slice b1 t.keys.length b2) := by simp [World.cell?, G9.tab.1.blk]
   have k0 : wc.cell? ⟨w2.heap.size, 0, none⟩ = some (.string ⟨#[]⟩) := by simp [World.cell?, G9.tab.2]
   have k1 : wc.cell? ⟨w2.heap.size, 1, none⟩ = some nilS := by simp [World.cell?, G9.tab.2]
   have k2 : wc.cell? ⟨w2.heap.size, 2, none⟩ = some (.bool true) := by simp [World.cell?, G9.tab.2]
   have k3 : wc.cell? ⟨w2.heap.size, 3, none⟩ = some (.bool p) := by simp [World.cell?, G9.tab.2]
   have lgk : w2.heap.size < wc.heap.size := (Array.getElem?_eq_some_iff.1 G9.tab.2).1
   have lgx : gx < wc.heap.size := by omega
   obtain ⟨col1, hcol1⟩ : ∃ col1 : Nat → Nat, ∀ b, col1 b = if b < wc.heap.size then col b else 1 := ⟨_, fun _ => rfl⟩
   have T10 := G9.tab.1.recF col1 (fun b hb _ => by rw [hcol1, if_pos hb])
   obtain ⟨us, -, hown, -, hu2, hu3, hu4⟩ := T10.tk
   have hlt : ∀ b, (Value.slice b1 t.keys.length b2).ownBlock = some b → B ≤ b ∧ b < w2.heap.size := fun b hb => by
    obtain ⟨⟨h1, h2⟩, h3⟩ := T10.tk.lt b hb
    rw [hcol1, if_pos h3] at h2
    exact ⟨h1, hold b (by omega)⟩
   have HF : Hid (∀ W, Xe.ES (Xe.specOf 100 4 (t.keys.length + 1) (us.flatten ++ keyL p) (.slice b1 t.keys.length b2)) wc.drew W → W.cell? ⟨gx, 3, none⟩ = some (.slice b1 t.keys.length b2) ∧ gx < W.heap.size ∧ W.cell? ⟨w2.heap.size, 0, none⟩ = some (.string ⟨#[]⟩) ∧ W.cell? ⟨w2.heap.size, 1, none⟩ = some nilS ∧ W.cell? ⟨w2.heap.size, 2, none⟩ = some (.bool true) ∧ W.cell? ⟨w2.heap.size, 3, none⟩ = some (.bool p) ∧ w2.heap.size < W.heap.size) := Lib.hid fun W hx => by
    have hn : ∀ x, x < B ∨ w2.heap.size ≤ x → ∀ q ∈ Xe.specOf 100 4 (t.keys.length + 1) (us.flatten ++ keyL p) (.slice b1 t.keys.length b2), q.1 ≠ x := fun x hx q hq e => by
     have := hlt _ (Xe.specOf_block hq)
     omega
    have hs := hx.2.2.2.1
    simp only [World.size_drew] at hs
    have d : ∀ b o v, b < B ∨ w2.heap.size ≤ b → wc.cell? ⟨b, o, none⟩ = some v → W.cell? ⟨b, o, none⟩ = some v := fun b o v hb hc => hx.cell (show wc.drew.cell? ⟨b, o, none⟩ = some v from hc) (hn b hb)
    exact ⟨d _ _ _ (by omega) cK, by omega, d _ _ _ (by omega) k0, d _ _ _ (by omega) k1, d _ _ _ (by omega) k2, d _ _ _ (by omega) k3, by omega⟩
   have T10H := Lib.hid T10
   have HU := Lib.hid hu4
   have HS := Lib.hid hs
   have G9H := Lib.hid G9
   have hkl : t.keys.length ≤ 4000000 := by omega
   obtain ⟨ks, hks⟩ : ∃ ks : Xe.Specs, ks = Xe.specOf 100 4 (t.keys.length + 1) (us.flatten ++ keyL p) (.slice b1 t.keys.length b2) := ⟨_, rfl⟩
   have HKS := Lib.hid hks
   have HSB : Hid (∀ k ∈ ks, (.slice b1 t.keys.length b2 : Value).ownBlock = some k.1 ∧ k.1 < (wc).heap.size) := Lib.hid fun k hk => by
    rw [hks] at hk
    exact ⟨Xe.specOf_block hk, ((hown).lt _ (Xe.specOf_block hk)).2⟩
   have HS6 : Hid (∀ k ∈ ks, (.slice b1 t.keys.length b2 : Value).ownBlock = some k.1 → k ∈ Xe.specOf 100 4 (t.keys.length + 1) (us.flatten ++ keyL p) (.slice b1 t.keys.length b2)) := Lib.hid fun k hk _ => by rw [hks] at hk; exact hk
   have HVL : Hid (∀ b, (.slice b1 t.keys.length b2 : Value).ownBlock = some b → b < (wc).heap.size) := Lib.hid fun b hb => ((hown).lt b hb).2
   have HOA := Lib.hid (hown)
   clear hks
   rw [← HKS.out] at HF
   obtain ⟨i0, hi, hz0, hz1, hz2⟩ := infoParts Tryz.infoKey
   have Hi := Lib.hid hi
   have Hz0 := Lib.hid hz0
   have Hz1 := Lib.hid hz1
   have Hz2 := Lib.hid hz2
   clear hi hz0 hz1 hz2
   clear cK k0 k1 k2 k3 hown T10 hu4 hs G9
   go_wp2
   refine Xe.wp_region_rel (E := Xe.ES ks) (Xe.pre_ES _) 12 (Xe.O2 8 _ 99 none) (Xe.O2_lt HVL.out (fun b hb => by cases hb)) (Xe.O2_ne (fun b hb e => by cases e)) [(7, Xe.newRow (wc).heap.size (keyL p) 100), (8, Xe.appF 100 4 (wc).heap.size (.slice b1 t.keys.length b2) t.keys.length us.flatten (keyL p))] (by kernel_rfl) (by kernel_rfl) (Xe.stable_es (by
       intro y hy
       simp only [List.mem_cons, List.not_mem_nil, or_false] at hy
       rcases hy with rfl | rfl
       ·exact Xe.newRow.es fun k hk => (HSB.out k hk).2
       ·exact Xe.appFact.es HS6.out fun k hk => (HSB.out k hk).2)) ?_
   simp only [List.take_succ_cons, List.take_zero, List.drop_succ_cons, List.drop_zero]
   repeat (first
    | ((first | refine Xe.rel_det (Xe.pre_ES _) (Xk.wanted_none (by rfl)) (by rfl) (fun K hK => ?_) | refine Xe.rel_det (Xe.pre_ES _) (by rfl) (by rfl) (fun K hK => ?_)); apply Exists.intro; refine ⟨fun W hx hp => ?_, ?_⟩; (obtain ⟨f1, f2, f3, f4, f5, f6, f7⟩ := HF.out _ hx; go_simp; first | exact ⟨rfl, rfl⟩ | ((try refine ⟨by kernel_rfl, ?_⟩); (fail))); (go_simp; refine hK _ ?_; clear hK K))
    | (refine Xe.rel_skip (by rfl) (fun K hK => ?_); go_simp; refine hK _ ?_; clear hK K))
   (refine Xe.rel_make (Xe.pre_ES _) (by rfl) (by rfl) (fun W hx hp => ?_) (fun ynew K hK => ?_); (go_simp; exact Xe.new_row _ _ _ _ (by first | rfl | kernel_rfl) (by have := hx.2.2.2.1; simpa using this)); (go_simp; refine hK _ ?_; clear hK K))
   (refine Xe.rel_make (Xe.pre_ES _) (by rfl) (by rfl) (fun W hx hp => ?_) (fun z1 K hK => ?_); (obtain ⟨g, rfl, hg, hc⟩ := Xe.facts_head hp (by kernel_rfl); exact Xe.make_app1 _ _ _ 30 (by rfl) 100 i0 _ 4 48 Tryz.underlying30 Hi.out Hz0.out Hz1.out Hz2.out rfl (by decide) (.slice b1 t.keys.length b2) t.keys.length us.flatten (keyL p) (by rfl) (hx.own (m := 1) (Xo.own_drew HOA.out) HS6.out) g 1 (by rfl) (by rfl) hc (one_all (by kernel_rfl)) (by omega) (by have := hx.2.2.2.1; simpa using this) (by rw [HKS.out]; exact fun k hk => hk) (by rfl)); (go_simp; refine hK _ ?_; clear hK K))
   repeat (first
    | ((first | refine Xe.rel_det (Xe.pre_ES _) (Xk.wanted_none (by rfl)) (by rfl) (fun K hK => ?_) | refine Xe.rel_det (Xe.pre_ES _) (by rfl) (by rfl) (fun K hK => ?_)); apply Exists.intro; refine ⟨fun W hx hp => ?_, ?_⟩; (obtain ⟨f1, f2, f3, f4, f5, f6, f7⟩ := HF.out _ hx; go_simp; first | exact ⟨rfl, rfl⟩ | ((try refine ⟨by kernel_rfl, ?_⟩); (fail))); (go_simp; refine hK _ ?_; clear hK K))
    | (refine Xe.rel_skip (by rfl) (fun K hK => ?_); go_simp; refine hK _ ?_; clear hK K))
   refine Xe.rel_nil (fun W hx hp hg => ?_)
   simp only [Xk.factsAll] at hp
   obtain ⟨p1', -, -⟩ := hp
   obtain ⟨z, cz, rfl, ho7, hz7⟩ := p1'.form
   have hg7 := Xe.ES.grown (e := 100) (size := 4) (n := 0) (xs := []) hx HSB.out
   have hzB : B ≤ z := by
    rcases hz7 with h | h
    ·exact (hlt z h).1
    ·have := G9H.out.h6; omega
   have T11 : Tab B gx { t with keys := t.keys ++ [p] } k col1 (.slice a1 t.cols.length a2) (.slice (some ⟨z, 0, none⟩) (t.keys.length + 1) cz) (.slice c1 t.checks.length c2) (.slice d1 k.length d2) (tabL t.name (.slice a1 t.cols.length a2) (.slice b1 t.keys.length b2) (.slice c1 t.checks.length c2) (.slice d1 k.length d2)) W :=
    Tab.grow1 (x := p) T10H.out (fun b hb => by rw [hcol1, if_neg (by omega)]) hu2 hu3 HU.out hg7 ho7 (fun b hb => by cases hb; exact hz7) rfl rfl
   have hst11 : ∀ (c0 : Array Value) (w w' : World), B ≤ w.heap.size → Tab B gx { t with keys := t.keys ++ [p] } k col1 (.slice a1 t.cols.length a2) (.slice (some ⟨z, 0, none⟩) (t.keys.length + 1) cz) (.slice c1 t.checks.length c2) (.slice d1 k.length d2) c0 w → Turn br w w' → Tab B gx { t with keys := t.keys ++ [p] } k col1 (.slice a1 t.cols.length a2) (.slice (some ⟨z, 0, none⟩) (t.keys.length + 1) cz) (.slice c1 t.checks.length c2) (.slice d1 k.length d2) c0 w' := fun c0 w w' _ h ht => h.turn ht h1
   have G11 := G9H.out.grown hg7 (fun b hb => ⟨(hlt b hb).1, fun hB e => by have h2 := (T10H.out.tk.lt b hb).1.2; rw [e, hcol1, if_pos (show gc < wc.heap.size by omega), h9 hB] at h2; omega⟩) T11 (hst11 _)
   have f11 := frozen_of_row W gx 3 _ _ T11.blk
   have c11 : W.cell? ⟨gx, 3, none⟩ = some (.slice b1 t.keys.length b2) := by simp [World.cell?, T11.blk]
   have G12 := G11.setX 3 (.slice (some ⟨z, 0, none⟩) (t.keys.length + 1) cz) (T11.setX 3 (.slice (some ⟨z, 0, none⟩) (t.keys.length + 1) cz)) (hst11 _)
   have hs12 := stabP_strs l (.slice p1 p2 p3) _ (fun b => w2.heap.size ≤ b ∧ b < wc.heap.size) _ (W.setCell ⟨gx, 3, none⟩ (.slice (some ⟨z, 0, none⟩) (t.keys.length + 1) cz)) HS.out (fun b hb hl => (heap_setCell_other W ⟨gx, 3, none⟩ b _ (fun e => by (have h : b = gx := (by simpa using e)); omega)).trans (hg7.block b hl (fun e => by have := (hlt b e.symm).2; omega))) (fun b hb hl => ⟨hb, hl⟩)
   have hw12 : Hid (wc.heap.size ≤ (W.setCell ⟨gx, 3, none⟩ (.slice (some ⟨z, 0, none⟩) (t.keys.length + 1) cz)).heap.size) := Lib.hid (by rw [World.size_setCell]; exact hg7.size)
   have G12H := Lib.hid G12
   have HS12 := Lib.hid hs12
   have HC11 := Lib.hid c11
   have HF11 := Lib.hid f11
   clear hx p1' ho7 hg7 T11 G11 G12 hs12 HOA HSB HS6 HVL HKS HF hst11 hg c11 f11
   have c11 := HC11.out
   have f11 := HF11.out
   go_upto_region 12 with fail
   generalize W.setCell ⟨gx, 3, none⟩ (.slice (some ⟨z, 0, none⟩) (t.keys.length + 1) cz) = w12 at *
   have T12 := G12H.out.tab
   have hw12 := hw12.out
   have hlt2 : ∀ b, (Value.slice d1 k.length d2).ownBlock = some b → B ≤ b ∧ b < w2.heap.size := fun b hb => by
    obtain ⟨⟨e1, e2⟩, e3⟩ := T12.kc.lt b hb
    rw [hcol1] at e2
    split at e2
    ·exact ⟨e1, hold b (by omega)⟩
    ·omega
   obtain ⟨col2, hcol2⟩ : ∃ col2 : Nat → Nat, ∀ b, col2 b = if b < w12.heap.size then (if col1 b = 4 then 3 else col1 b) else 3 := ⟨_, fun _ => rfl⟩
   have T13 := (T12.recF col2 (fun b hb h4 => by rw [hcol2, if_pos hb, if_neg (by omega)])).ext (show Xk.Ext w12 (w12.alloc (.cells #[.slice p1 p2 p3] 35)) from (Below.refl _ _).alloc (Nat.le_refl _) _)
   obtain ⟨us2, -, hown2, -, hv2, hv3, hv4⟩ := T13.kc
   have hxs : strsR (fun b => (B ≤ b ∧ col2 b = 3) ∧ ¬ (Value.slice d1 k.length d2).ownBlock = some b) (w12.alloc (.cells #[.slice p1 p2 p3] 35)) l [.slice p1 p2 p3] :=
    ⟨_, rfl, HS12.out.keep (fun b hb hl => (show Xk.Ext w12 _ from (Below.refl _ _).alloc (Nat.le_refl _) _).block b hl) (fun b hb hl => ⟨⟨by omega, by rw [hcol2, if_pos hl, hcol1, if_pos hb.2, hnew b hb.1, if_pos rfl]⟩, fun e => by have := (hlt2 b e).2; omega⟩) (fun _ _ h => h)⟩
   have c12 : w12.cell? ⟨gx, 5, none⟩ = some (.slice d1 k.length d2) := by simp [World.cell?, T12.blk]
   have lx12 : gx < w12.heap.size := by omega
   have hkl2 : k.length ≤ 4000000 := by omega
   have hc29 : B ≤ gc → col2 gc = 9 := fun h => by
    have h2 := h9 h
    rw [hcol2, if_pos (show gc < w12.heap.size by omega), hcol1, if_pos (show gc < wc.heap.size by omega), h2]
    rfl
   have HOW := Lib.hid hown2
   have T13H := Lib.hid T13
   have HV4 := Lib.hid hv4
   have HXS := Lib.hid hxs
   clear Hi Hz0 Hz1 Hz2 i0 hown2 T12 T13 hv4 hxs HC11 HF11 c11 f11
   obtain ⟨i0, hi, hz0, hz1, hz2⟩ := infoParts Tryz.infoStrs
   have Hi := Lib.hid hi
   have Hz0 := Lib.hid hz0
   have Hz1 := Lib.hid hz1
   have Hz2 := Lib.hid hz2
   clear hi hz0 hz1 hz2
   go_wp2_with (at_builtin; refine Xo.wpList_appb 0 rfl _ _ 34 rfl 35 i0 _ 1 24 Tryz.underlying34 Hi.out Hz0.out Hz1.out Hz2.out rfl (by decide) (.slice d1 k.length d2) k.length us2.flatten rfl HOW.out w12.heap.size 0 1 1 [.slice p1 p2 p3] rfl (by decide) rfl (cells_list w12 _ _ rfl) (one_all (by kernel_rfl)) (by omega) (Nat.zero_le _) ?_; intro v' w13 ho' hg' hk'; obtain ⟨z2, cz2, rfl⟩ := ownForm ho' (by omega); have T14 : Tab B gx { t with keys := t.keys ++ [p] } (k ++ [l]) col2 (.slice a1 t.cols.length a2) (.slice (some ⟨z, 0, none⟩) (t.keys.length + 1) cz) (.slice c1 t.checks.length c2) (.slice (some ⟨z2, 0, none⟩) (k.length + 1) cz2) _ w13 := Tab.grow3 (x := l) T13H.out (fun b hb => by rw [World.size_alloc] at hb; rw [hcol2, if_neg (by omega)]) hv2 hv3 HV4.out hg' ho' hk' rfl HXS.out; have c13 : w13.cell? ⟨gx, 5, none⟩ = some (.slice d1 k.length d2) := (by simp [World.cell?, T14.blk]); have f13 := frozen_of_row w13 gx 5 _ _ T14.blk; have HG13 := Lib.hid hg'; have T14H := Lib.hid T14; clear ho' hg' hk' T14)
   go_end0
   have hE := HE.out
   subst hE
   have G13 := ((G12H.out.alloc (.cells #[.slice p1 p2 p3] 35)).grown (Tp' := fun _ => True) HG13.out (fun b hb => ⟨(hlt2 b hb).1, fun hB e => by have h2 := (T13H.out.kc.lt b hb).1.2; rw [e, hc29 hB] at h2; omega⟩) trivial (fun _ _ _ _ _ => trivial)).setX (Tp' := fun _ => True) 5 (.slice (some ⟨z2, 0, none⟩) (k.length + 1) cz2) trivial (fun _ _ _ _ _ => trivial)
   exact ⟨rfl, ⟨col2, _, _, _, _, by rw [hp]; exact T14H.out.setX 5 (.slice (some ⟨z2, 0, none⟩) (k.length + 1) cz2), hc29⟩, G13.many, G13.rd, hk6.trans hk9, G13.kept⟩
end Go.Proofs.YtlpcdpkgnfdpeaaGreatDoor
namespace P12
structure Small (t : Tb) (k : List (List T)) (n : Nat) : Prop where
 sum : t.cols.length + t.keys.length + t.checks.length ≤ n
 keys : k.length = t.keys.length
 most : n ≤ 16
theorem Small.add {t : Tb} {k : List (List T)} {n : Nat} (h : Small t k n) (hn : n + 1 ≤ 16) (o : Con) : Small (addT t o) (addK k o) (n + 1) := by
 obtain ⟨h1, h2, h3⟩ := h
 cases o with
 | inl e => exact ⟨by simp [addT]; omega, by simpa [addT, addK] using h2, hn⟩
 | inr p => exact ⟨by simp [addT]; omega, by simp [addT, addK, h2], hn⟩
theorem conOf_room {n : Nat} {c : T} {r r' : R} {o : Con} (h : conOf n c r = .ok (o, r')) (hc : constrains r = true) : n + 1 ≤ 16 := by
 unfold conOf at h
 rw [hc] at h
 by_cases hn : 16 < n + 1
 ·rw [if_pos (by simpa using hn)] at h
  cases h
 ·omega
def wordQ : Nat → T
 | 1 => [66, 79, 79, 76]
 | 2 => [73, 78, 84]
 | 3 => [84, 69, 88, 84]
 | _ => []
def tyQ (r : R) : Nat → Nat × R
 | 0 => (0, r)
 | q + 1 => if wordQ q ≠ [] ∧ (tyQ r q).1 = 0 ∧ isT (wordQ q) (tyQ r q).2 = true then (q, takes (tyQ r q).2) else tyQ r q
theorem typeOf_q (r : R) : typeOf r = if (tyQ r 4).1 = 0 then fails 120 (tyQ r 4).2 else .ok (((tyQ r 4).1 : Int), (tyQ r 4).2) := by
 unfold typeOf
 cases h1 : isT [66, 79, 79, 76] r
 ·cases h2 : isT [73, 78, 84] r
  ·cases h3 : isT [84, 69, 88, 84] r <;> simp [tyQ, wordQ, h1, h2, h3]
  ·simp [tyQ, wordQ, h1, h2]
 ·simp [tyQ, wordQ, h1]
theorem tyQ_keeps (r : R) : ∀ q, Keeps r (tyQ r q).2
 | 0 => Keeps.refl r
 | q + 1 => by
  unfold tyQ
  split
  ·exact (tyQ_keeps r q).trans (keeps_takes _)
  ·exact tyQ_keeps r q
theorem name_keeps {r r' : R} {c : T} (h : name r = .ok (c, r')) : Keeps (takes r) r' := by
 unfold name at h
 split at h
 ·cases h
 ·split at h
  ·cases h
  ·cases h; exact Keeps.refl _
theorem name_named {r r' : R} {c : T} (h : name r = .ok (c, r')) : named r = true := by
 unfold name at h
 split at h
 ·cases h
 ·rename_i hk
  split at h
  ·cases h
  ·rename_i hl
   have hk : (nxt r).kind = 1 := by simpa using hk
   simp [named, hk]; omega
theorem tail_no {c : T} {f : Nat} {t : Tb} {k : List (List T)} {n : Nat} {nn : Bool} {r : R} (h1 : isT [78, 79, 84] r = false) (h2 : constrains r = false) : tailF c (f + 1) t k n nn r = .ok ((t, k, n, nn), r) := by
 rw [tailF, h1, h2]; rfl
theorem tail_con {c : T} {f : Nat} {t : Tb} {k : List (List T)} {n : Nat} {nn : Bool} {r : R} (h1 : isT [78, 79, 84] r = false) (h2 : constrains r = true) : tailF c (f + 1) t k n nn r = match conOf n c r with
  | .error e => .error e
  | .ok (o, r2) => tailF c f (addT t o) (addK k o) (n + 1) (nn || isT [80, 82, 73, 77, 65, 82, 89] r) r2 := by
 rw [tailF, h1, h2]; rfl
theorem tail_not {c : T} {f : Nat} {t : Tb} {k : List (List T)} {n : Nat} {nn : Bool} {r : R} (h1 : isT [78, 79, 84] r = true) : tailF c (f + 1) t k n nn r = match must [78, 85, 76, 76] (takes r) with
  | .error e => .error e
  | .ok r => tailF c f t k n true r := by
 rw [tailF, h1]; rfl
theorem constrains_kind {r : R} (h : constrains r = true) : (nxt r).kind ≠ 0 := by
 unfold constrains at h
 simp only [Bool.or_eq_true] at h
 rcases h with (h | h) | h <;> exact isT_kind h
def NoC (r : R) : Prop := ∀ t ∈ r.l, t.text ≠ [67, 72, 69, 67, 75]
theorem NoC.keep {r r' : R} (h : NoC r) (k : Keeps r r') : NoC r' := fun t ht => h t (k.suf.subset ht)
theorem NoC.no {r : R} (h : NoC r) : isT [67, 72, 69, 67, 75] r = false := by
 unfold isT nxt
 cases hl : r.l with
 | nil => rfl
 | cons t l => simp [h t (by rw [hl]; simp)]
theorem name_ne {r r' : R} {c : T} (g : Good r) (h : name r = .ok (c, r')) : c ≠ [] := by
 unfold name at h
 split at h
 ·cases h
 ·rename_i hk
  split at h
  ·cases h
  ·cases h; exact g.nxt_ok.name (by simpa using hk)
end P12
namespace Go.Proofs.YtlpcdpkgnfdpeaaGreatDoor
open Go.RowKit
theorem constraint_many (br gx gm gc B n : Nat) (t : P12.Tb) (k : List (List P12.T)) (c : P12.T) (r : P12.R) (w : World) (h : Rd br r w) (hx : TabAt B gx gc t k w) (hm : w.heap[gm]? = some (manyO br n 16)) (h1 : br < gx) (h2 : br < gm) (h3 : gm < B) (hne : gm ≠ gx) (hn : n ≤ 16)
  (hcc : (decide (16 < n + 1) && P12.constrains r) = true) :
  Calls Tryz.prog 266 #[rp br, rp gx, rp gm, bs c] w (ConPost br gx gm gc B n t k w r (.error ((P12.nxt r).pos, 122))) := by
 have lr := h.lt
 have H := Lib.hid h
 have HM := Lib.hid hm
 clear h hx hm
 go_enter Tryz.func266, Tryz.ntmps266
 go_wp2_with fail
 go_at_call 267
 refine (counts_any br n 16 gm r _ (rp br) 265 (P12.constrains r) w H.out HM.out h2 (by omega) (by omega) (.inl rfl) ent_constrains (fun W hr _ => constrains_any br r W hr)).mono ?_
 rintro e w1 ⟨hx1, he1⟩
 rw [if_pos hcc] at he1
 subst he1
 simp only [faults]
 go_wp2
 exact ⟨rfl, rfl, ((KeptG.refl _ _ _ _).setCell (.inr ⟨by simp, h3⟩) 1 _).trans (KeptG.of_ext hx1)⟩
theorem constraint_no (br gx gm gc B n : Nat) (t : P12.Tb) (k : List (List P12.T)) (c : P12.T) (r : P12.R) (w : World) (h : Rd br r w) (hx : TabAt B gx gc t k w) (hm : w.heap[gm]? = some (manyO br n 16)) (h1 : br < gx) (h2 : br < gm) (h3 : gm < B) (hne : gm ≠ gx) (hs : t.keys.length ≤ 100 ∧ t.checks.length ≤ 100 ∧ k.length ≤ 100) (hn : n ≤ 16) (hgs : gc < w.heap.size) (hck : P12.isT [67, 72, 69, 67, 75] r = false) :
  Calls Tryz.prog 266 #[rp br, rp gx, rp gm, bs c] w (ConPost br gx gm gc B n t k w r (P12.conOf n c r)) := by
 cases hcc : (decide (16 < n + 1) && P12.constrains r)
 ·rw [show P12.conOf n c r = (match P12.keyWord r with
  | .error e => .error e
  | .ok r1 => match P12.colsOf c r1 with
   | .error e => .error e
   | .ok (l, r2) => .ok (.inr (P12.isT [80, 82, 73, 77, 65, 82, 89] r, l), r2)) by
    unfold P12.conOf
    rw [hcc, hck]
    simp only [Bool.false_eq_true, if_false]
    have : (P12.has [80, 82, 73, 77, 65, 82, 89] r).1 = P12.isT [80, 82, 73, 77, 65, 82, 89] r := by
     unfold P12.has
     cases P12.isT [80, 82, 73, 77, 65, 82, 89] r <;> rfl
    rw [this]
    rfl]
  exact constraint_key br gx gm gc B n t k c r w h hx hm h1 h2 h3 hne hn hgs ⟨hs.1, hs.2.2⟩ hcc hck
 ·rw [show P12.conOf n c r = .error ((P12.nxt r).pos, 122) by
     unfold P12.conOf P12.fails
     rw [if_pos (by exact hcc)]]
  exact constraint_many br gx gm gc B n t k c r w h hx hm h1 h2 h3 hne hn hcc
structure ConQ (Q : P12.R → Prop) : Prop where
 keep : ∀ r r', Q r → P12.Keeps r r' → Q r'
 con : ∀ (br gx gm gc B n : Nat) (t : P12.Tb) (k : List (List P12.T)) (c : P12.T) (r : P12.R) (w : World) (h : Rd br r w) (hx : TabAt B gx gc t k w) (hm : w.heap[gm]? = some (manyO br n 16)) (h1 : br < gx) (h2 : br < gm) (h3 : gm < B) (hne : gm ≠ gx) (hs : t.keys.length ≤ 100 ∧ t.checks.length ≤ 100 ∧ k.length ≤ 100) (hn : n ≤ 16) (hgs : gc < w.heap.size), Q r → Calls Tryz.prog 266 #[rp br, rp gx, rp gm, bs c] w (ConPost br gx gm gc B n t k w r (P12.conOf n c r))
theorem conQ_no : ConQ P12.NoC := ⟨fun _ _ h k => h.keep k, fun br gx gm gc B n t k c r w h hx hm h1 h2 h3 hne hs hn hgs hq => constraint_no br gx gm gc B n t k c r w h hx hm h1 h2 h3 hne hs hn hgs hq.no⟩
structure Pk (br gx gm B n : Nat) (Tp : World → Prop) (w0 : World) (r0 r : P12.R) (w : World) : Prop where
 rd : Rd br r w
 tab : Tp w
 tst : ∀ w w', B ≤ w.heap.size → Tp w → Turn br w w' → Tp w'
 many : w.heap[gm]? = some (manyO br n 16)
 kept : Kept B [br, gx, gm] w0 w
 keeps : P12.Keeps r0 r
 h1 : br < gx
 h2 : br < gm
 h3 : gm < B
 h4 : gm ≠ gx
 h5 : gx < B
 h6 : B ≤ w.heap.size
section
variable {br gx gm B n : Nat} {Tp Tp' : World → Prop} {w0 : World} {r0 r r' : P12.R} {w w' : World}
theorem Pk.step (F : Pk br gx gm B n Tp w0 r0 r w) (ht : Turn br w w') (hr : Rd br r' w') (hk : P12.Keeps r r') : Pk br gx gm B n Tp w0 r0 r' w' := by
 obtain ⟨a1, a2, a3, a4, a5, a6, a7, a8, a9, a10, a11, a12⟩ := F
 exact ⟨hr, a3 _ _ a12 a2 ht, a3, ht.held a4 (by omega), a5.trans (Kept.of_turn ht (by simp)), a6.trans hk, a7, a8, a9, a10, a11, Nat.le_trans a12 ht.size⟩
theorem Pk.ext (F : Pk br gx gm B n Tp w0 r0 r w) (hx : Xk.Ext w w') : Pk br gx gm B n Tp w0 r0 r w' := F.step (Turn.of_ext hx) (F.rd.ext hx) (P12.Keeps.refl _)
theorem Pk.alloc (F : Pk br gx gm B n Tp w0 r0 r w) (o : Obj) : Pk br gx gm B n Tp w0 r0 r (w.alloc o) := F.ext ((Below.refl _ _).alloc (Nat.le_refl _) _)
theorem Pk.after (F : Pk br gx gm B n Tp w0 r0 r w) (ht : Turn br w w') : Kept B [br, gx, gm] w0 w' := F.kept.trans (Kept.of_turn ht (by simp))
theorem Pk.setO (F : Pk br gx gm B n Tp w0 r0 r w) {g : Nat} (hB : B ≤ g) (o : Nat) (u : Value) (hT : Tp' (w.setCell ⟨g, o, none⟩ u)) (hst : ∀ w w', B ≤ w.heap.size → Tp' w → Turn br w w' → Tp' w') : Pk br gx gm B n Tp' w0 r0 r (w.setCell ⟨g, o, none⟩ u) := by
 obtain ⟨a1, a2, a3, a4, a5, a6, a7, a8, a9, a10, a11, a12⟩ := F
 exact ⟨Rd.setCell a1 (by omega) _ _, hT, hst, (heap_setCell_other w ⟨g, o, none⟩ gm u (fun e => by (have h : gm = g := (by simpa using e)); omega)).trans a4, a5.setCell (.inl hB) _ _, a6, a7, a8, a9, a10, a11, by rw [World.size_setCell]; exact a12⟩
theorem Pk.setX (F : Pk br gx gm B n Tp w0 r0 r w) (o : Nat) (u : Value) (hT : Tp' (w.setCell ⟨gx, o, none⟩ u)) (hst : ∀ w w', B ≤ w.heap.size → Tp' w → Turn br w w' → Tp' w') : Pk br gx gm B n Tp' w0 r0 r (w.setCell ⟨gx, o, none⟩ u) := by
 obtain ⟨a1, a2, a3, a4, a5, a6, a7, a8, a9, a10, a11, a12⟩ := F
 exact ⟨Rd.setCell a1 (by omega) _ _, hT, hst, (heap_setCell_other w ⟨gx, o, none⟩ gm u (fun e => a10 (by simpa using e))).trans a4, a5.setCell (.inr (.inl (by simp))) _ _, a6, a7, a8, a9, a10, a11, by rw [World.size_setCell]; exact a12⟩
theorem Pk.grown (F : Pk br gx gm B n Tp w0 r0 r w) {k : Option Nat} (hg : w.grownBy w' k) (hk : ∀ b, k = some b → B ≤ b) (hT : Tp' w') (hst : ∀ w w', B ≤ w.heap.size → Tp' w → Turn br w w' → Tp' w') : Pk br gx gm B n Tp' w0 r0 r w' := by
 obtain ⟨a1, a2, a3, a4, a5, a6, a7, a8, a9, a10, a11, a12⟩ := F
 exact ⟨a1.grown hg (fun b hb => by have := hk b hb; omega), hT, hst, (hg.block gm (by omega) (fun e => by have := hk gm e.symm; omega)).trans a4, a5.grown hg hk, a6, a7, a8, a9, a10, a11, Nat.le_trans a12 hg.size⟩
theorem Pk.with (F : Pk br gx gm B n Tp w0 r0 r w) (hT : Tp' w) (hst : ∀ w w', B ≤ w.heap.size → Tp' w → Turn br w w' → Tp' w') : Pk br gx gm B n Tp' w0 r0 r w := by
 obtain ⟨a1, a2, a3, a4, a5, a6, a7, a8, a9, a10, a11, a12⟩ := F
 exact ⟨a1, hT, hst, a4, a5, a6, a7, a8, a9, a10, a11, a12⟩
end
theorem flat_at {sz : Nat} : ∀ (us : List (List Value)), (∀ u ∈ us, u.length = sz) → ∀ (j : Nat) (u : List Value), us[j]? = some u → ∀ i, i < sz → us.flatten[j * sz + i]? = u[i]?
 | [], _, _, _, h, _, _ => by simp at h
 | v :: us, hl, j, u, h, i, hi => by
  have hv := hl v (by simp)
  rw [List.flatten_cons]
  cases j with
  | zero =>
   simp only [List.getElem?_cons_zero, Option.some.injEq] at h
   subst h
   rw [Nat.zero_mul, Nat.zero_add, List.getElem?_append_left (by omega)]
  | succ j =>
   rw [Nat.succ_mul, List.getElem?_append_right (by omega), hv, show j * sz + sz + i - sz = j * sz + i by omega]
   exact flat_at us (fun u hu => hl u (by simp [hu])) j u (by simpa using h) i hi
theorem SlcAt.elem {α : Type} {S : Nat → Prop} {w : World} {sz : Nat} {R : α → List Value → Prop} {l : List α} {g n c : Nat} (h : SlcAt S w sz R l (.slice (some ⟨g, 0, none⟩) n c)) :
  n = l.length ∧ S g ∧ ∀ (j : Nat) x, l[j]? = some x → ∃ u, R x u ∧ u.length = sz ∧ w.rangeAt g (j * sz) u := by
 rcases h with ⟨-, h⟩ | ⟨g', c', us, h1, h2, h3, h4, h5, h6, h7, h8, h9⟩
 ·cases h
 ·cases h1
  refine ⟨rfl, h2, fun j x hx => ?_⟩
  have hj : j < us.length := by have := (List.getElem?_eq_some_iff.1 hx).1; omega
  have hu : us[j]? = some us[j] := List.getElem?_eq_getElem hj
  refine ⟨us[j], h9 j x _ hx hu, h6 _ (List.getElem_mem hj), fun i v hv => ?_⟩
  have hi : i < sz := by have := (List.getElem?_eq_some_iff.1 hv).1; rw [h6 _ (List.getElem_mem hj)] at this; exact this
  have := h8 (j * sz + i) v (by rw [flat_at us h6 j _ hu i hi]; exact hv)
  rwa [Nat.zero_add] at this
theorem set_same {c : Array Value} {o : Nat} {v : Value} (h : c[o]? = some v) : c.setIfInBounds o v = c := by
 apply Array.ext (by simp)
 intro i h1 h2
 rw [Array.getElem_setIfInBounds (by simpa using h2)]
 split
 ·rename_i e
  subst e
  rw [Array.getElem?_eq_getElem h2] at h
  exact (Option.some.inj h).symm
 ·rfl
theorem Tab.setNN {B gx : Nat} {t : P12.Tb} {k : List (List P12.T)} {col : Nat → Nat} {tk tq kc : Value} {cc : Array Value} {w : World} {c : P12.T} {ty : Int} {nn : Bool} {z cz : Nat} {cs : List (P12.T × Int × Bool)}
  (h : Tab B gx { t with cols := cs ++ [(c, ty, nn)] } k col (.slice (some ⟨z, 0, none⟩) (cs.length + 1) cz) tk tq kc cc w) (b : Bool) :
  Tab B gx { t with cols := cs ++ [(c, ty, b)] } k col (.slice (some ⟨z, 0, none⟩) (cs.length + 1) cz) tk tq kc cc (w.setCell ⟨z, cs.length * 3 + 2, none⟩ (.bool b)) ∧ w.cell? ⟨z, cs.length * 3 + 2, none⟩ = some (.bool nn) ∧ w.frozen? ⟨z, cs.length * 3 + 2, none⟩ = false := by
 obtain ⟨-, cur, hc, hcs⟩ := h.tc.mem
 obtain ⟨-, -, he⟩ := SlcAt.elem (h.tc.slc stab_col (by decide))
 obtain ⟨u, hu, -, hr⟩ := he cs.length (c, ty, nn) (by simp)
 have hu : u = [(.string ⟨c.toArray⟩), .int .i64 ty, .bool nn] := hu
 subst hu
 have e0 : cur[cs.length * 3]? = some ((.string ⟨c.toArray⟩)) := by have := hr 0 _ rfl; simpa [World.cell?, hc] using this
 have e1 : cur[cs.length * 3 + 1]? = some (.int .i64 ty) := by have := hr 1 _ rfl; simpa [World.cell?, hc] using this
 refine ⟨?_, hr 2 _ rfl, frozen_of_row w z _ _ _ hc⟩
 refine Tab.put0 (t := { t with cols := cs }) (l := [(.string ⟨c.toArray⟩), .int .i64 ty, .bool b]) h hc ?_ rfl rfl
 have hp := puts_set hc [.bool b] (cs.length * 3 + 2)
 have hw : writeAt cur (cs.length * 3) [(.string ⟨c.toArray⟩), .int .i64 ty, .bool b] = writeAt cur (cs.length * 3 + 2) [.bool b] := by
  show ((cur.setIfInBounds (cs.length * 3) ((.string ⟨c.toArray⟩))).setIfInBounds (cs.length * 3 + 1) (.int .i64 ty)).setIfInBounds (cs.length * 3 + 1 + 1) (.bool b) = cur.setIfInBounds (cs.length * 3 + 2) (.bool b)
  rw [set_same e0, set_same e1]
 show Puts z (writeAt cur (cs.length * 3) [(.string ⟨c.toArray⟩), .int .i64 ty, .bool b]) _ w _
 rw [hw]
 exact hp
theorem Own.form1 {α : Type} {S : Nat → Prop} {e : TypeId} {sz : Nat} {R : (Nat → Prop) → World → α → List Value → Prop} {xs : List α} {x : α} {v : Value} {w : World} (h : Own S e sz R (xs ++ [x]) v w) : ∃ z cz, v = .slice (some ⟨z, 0, none⟩) (xs.length + 1) cz := by
 obtain ⟨us, -, ho, -⟩ := h
 rcases ho.2 with ⟨-, h0⟩ | ⟨g, cap, cur, rfl, -⟩
 ·simp at h0
 ·exact ⟨g, cap, by simp⟩
theorem TabAt.mark {B gx gc : Nat} {t : P12.Tb} {k : List (List P12.T)} {w : World} (h : TabAt B gx 0 t k w) (hg : w.heap.size ≤ gc) : TabAt B gx gc t k w := by
 obtain ⟨col, tc, tk, tq, kc, h, -⟩ := h
 exact ⟨fun b => if b < w.heap.size then col b else 9, tc, tk, tq, kc, h.recF _ (fun b hb _ => by simp only [hb, if_true]), fun _ => if_neg (by omega)⟩
theorem TabAt.unmark {B gx gc : Nat} {t : P12.Tb} {k : List (List P12.T)} {w : World} (h : TabAt B gx gc t k w) : TabAt B gx 0 t k w := by
 obtain ⟨col, tc, tk, tq, kc, h, -⟩ := h
 exact ⟨col, tc, tk, tq, kc, h, fun hb => by have := h.bx; omega⟩
theorem TabAt.setO {B gx gc : Nat} {t : P12.Tb} {k : List (List P12.T)} {w : World} (h : TabAt B gx gc t k w) (hB : B ≤ gc) (o : Nat) (u : Value) : TabAt B gx gc t k (w.setCell ⟨gc, o, none⟩ u) := by
 obtain ⟨col, tc, tk, tq, kc, h, h9⟩ := h
 have hb : ∀ b, b ≠ gc → (w.setCell ⟨gc, o, none⟩ u).heap[b]? = w.heap[b]? := fun b hb => heap_setCell_other w ⟨gc, o, none⟩ b u (fun e => hb (by simpa using e))
 have hne : ∀ i b, i ≠ 9 → (B ≤ b ∧ col b = i) → b ≠ gc := fun i b hi hb e => hi (by rw [← hb.2, e, h9 hB])
 exact ⟨col, tc, tk, tq, kc, ⟨(hb gx (by have := h.bx; omega)).trans h.blk, h.tc.keep stab_col (fun b hb' _ => hb b (hne 0 b (by decide) hb')) (fun b hb _ => hb), h.tk.keep stab_key (fun b hb' _ => hb b (hne 1 b (by decide) hb')) (fun b hb _ => hb), h.tq.keep stab_expr (fun b hb' _ => hb b (hne 2 b (by decide) hb')) (fun b hb _ => hb), h.kc.keep stab_strs (fun b hb' _ => hb b (hne 3 b (by decide) hb')) (fun b hb _ => hb), h.bx, by rw [World.size_setCell]; exact h.bs⟩, h9⟩
abbrev colO (c : P12.T) (ty : Nat) : Obj := .cells #[bs c, .int .i64 ty, .bool false] 51
def CTab (B gx gc : Nat) (t : P12.Tb) (k : List (List P12.T)) (c : P12.T) (ty : Nat) (W : World) : Prop := TabAt B gx gc t k W ∧ W.heap[gc]? = some (colO c ty)
theorem CTab.turn {B gx gc br : Nat} {t : P12.Tb} {k : List (List P12.T)} {c : P12.T} {ty : Nat} {w w' : World} (h : CTab B gx gc t k c ty w) (ht : Turn br w w') (h1 : br < gx) (h2 : br < gc) : CTab B gx gc t k c ty w' :=
 ⟨h.1.turn ht h1, ht.held h.2 (by omega)⟩
def PartPost (br gx gm B : Nat) (w0 : World) (r0 : P12.R) (res : Except P12.Er ((P12.Tb × List (List P12.T) × Nat) × P12.R)) (e : Ending) (w' : World) : Prop :=
 match res with
 | .error er => e = faults er ∧ Kept B [br, gx, gm] w0 w'
 | .ok ((t, k, n), r') => e = .returned (.tuple #[]) ∧ TabAt B gx 0 t k w' ∧ w'.heap[gm]? = some (manyO br n 16) ∧ Rd br r' w' ∧ P12.Keeps (P12.takes r0) r' ∧ Kept B [br, gx, gm] w0 w' ∧ P12.Small t k n
theorem part_con {Q : P12.R → Prop} (hQ : ConQ Q) (br gx gm B n : Nat) (t : P12.Tb) (k : List (List P12.T)) (r : P12.R) (w : World) (h : Rd br r w) (hx : TabAt B gx 0 t k w) (hm : w.heap[gm]? = some (manyO br n 16)) (h1 : br < gx) (h2 : br < gm) (h3 : gm < B) (hne : gm ≠ gx) (hs : P12.Small t k n) (hc : P12.constrains r = true) (hq : Q r) :
  Calls Tryz.prog 225 #[rp br, rp gx, rp gm] w (PartPost br gx gm B w r (P12.part t k n r)) := by
 have HR := Lib.hid h
 have HX := Lib.hid hx
 have HM := Lib.hid hm
 have HS := Lib.hid hs
 have lr := h.lt
 clear h hx hm hs
 go_enter Tryz.func225, Tryz.ntmps225
 go_wp2_with fail
 go_at_call 265
 refine (constrains_any br r w HR.out).mono ?_
 rw [hc]
 rintro e w1 ⟨rfl, hx1⟩
 go_wp2_with fail
 go_at_call 266
 refine (hQ.con br gx gm 0 B n t k [] r w1 (HR.out.ext hx1) (HX.out.ext hx1) ((hx1.block _ (Array.getElem?_eq_some_iff.1 HM.out).1).trans HM.out) h1 h2 h3 hne (by have := HS.out.sum; have := HS.out.keys; have := HS.out.most; omega) HS.out.most (by have := hx1.size; omega) hq).mono ?_
 intro e w2 h
 cases hn : P12.conOf n [] r with
 | error er =>
  rw [hn] at h
  obtain ⟨rfl, hk⟩ := h
  simp only [faults]
  go_wp2
  rw [show P12.part t k n r = .error er by unfold P12.part; rw [hc, hn]; rfl]
  exact ⟨rfl, rfl, (Kept.of_ext hx1).trans hk.kept⟩
 | ok p =>
  obtain ⟨o, r2⟩ := p
  rw [hn] at h
  obtain ⟨rfl, hT, hM, hR, hK, hk⟩ := h
  go_wp2
  refine bodyPost_ret (results_none rfl _ _ _) rfl ?_
  rw [show P12.part t k n r = .ok ((P12.addT t o, P12.addK k o, n + 1), r2) by unfold P12.part; rw [hc, hn]; rfl]
  exact ⟨rfl, hT, hM, hR, hK, (Kept.of_ext hx1).trans hk.kept, HS.out.add (P12.conOf_room hn hc) o⟩
theorem part_many (br gx gm B n : Nat) (t : P12.Tb) (k : List (List P12.T)) (r : P12.R) (w : World) (h : Rd br r w) (hx : TabAt B gx 0 t k w) (hm : w.heap[gm]? = some (manyO br n 16)) (h1 : br < gx) (h2 : br < gm) (h3 : gm < B) (hne : gm ≠ gx) (hs : P12.Small t k n) (hc : P12.constrains r = false) (hr : (decide (16 < n + 1) && P12.named r) = true) :
  Calls Tryz.prog 225 #[rp br, rp gx, rp gm] w (PartPost br gx gm B w r (.error ((P12.nxt r).pos, 122))) := by
 have HR := Lib.hid h
 have HM := Lib.hid hm
 have HS := Lib.hid hs
 have lr := h.lt
 have hmf := mkfun
 clear h hx hm hs
 go_enter Tryz.func225, Tryz.ntmps225
 go_wp2_with fail
 go_at_call 265
 refine (constrains_any br r w HR.out).mono ?_
 rw [hc]
 rintro e w1 ⟨rfl, hx1⟩
 go_wp2_with fail
 go_at_call 267
 refine (counts_any br n 16 gm r _ (rp br) 233 (P12.named r) w1 (HR.out.ext hx1) ((hx1.block _ (Array.getElem?_eq_some_iff.1 HM.out).1).trans HM.out) h2 (by have := HS.out.most; omega) (by omega) (.inl rfl) ent_named (fun W hr _ => named_any br r W hr)).mono ?_
 rintro e w2 ⟨hx2, he2⟩
 rw [if_pos hr] at he2
 subst he2
 simp only [faults]
 go_wp2
 exact ⟨rfl, rfl, ((Kept.of_ext hx1).setCell (.inr (.inl (by simp))) 1 _).trans (Kept.of_ext hx2)⟩
theorem Tryz.infoCol : (Tryz.prog.info? 51).map (fun i => (i.zero, i.size, i.bytes)) = some (some (.agg #[.string ⟨#[]⟩, .int .i64 0, .bool false]), 3, 32) := by kernel_rfl
abbrev Pc (br gx gm gc B n : Nat) (t : P12.Tb) (k : List (List P12.T)) (c : P12.T) (ty : Nat) (w0 : World) (r0 r : P12.R) (w : World) : Prop := Pk br gx gm B n (CTab B gx gc t k c ty) w0 r0 r w
theorem Pk.ct {br gx gm gc B n : Nat} {t : P12.Tb} {k : List (List P12.T)} {c : P12.T} {ty : Nat} {w0 w : World} {r0 r : P12.R} (F : Pc br gx gm gc B n t k c ty w0 r0 r w) (hg : B ≤ gc) (q : Nat) : Pc br gx gm gc B n t k c q w0 r0 r (w.setCell ⟨gc, 1, none⟩ (.int .i64 q)) :=
 F.setO hg 1 (.int .i64 q) ⟨F.tab.1.setO hg _ _, heap_setCell_same w gc 1 _ _ _ F.tab.2⟩ (fun w w' _ h ht => h.turn ht F.h1 (by have := F.h5; have := F.h1; omega))
theorem part_col {Q : P12.R → Prop} (hQ : ConQ Q) (br gx gm B n : Nat) (t : P12.Tb) (k : List (List P12.T)) (r : P12.R) (w : World) (h : Rd br r w) (hx : TabAt B gx 0 t k w) (hm : w.heap[gm]? = some (manyO br n 16)) (h1 : br < gx) (h2 : br < gm) (h3 : gm < B) (hne : gm ≠ gx) (hs : P12.Small t k n) (hc : P12.constrains r = false) (hr : (decide (16 < n + 1) && P12.named r) = false) (hQr : Q r) :
  Calls Tryz.prog 225 #[rp br, rp gx, rp gm] w (PartPost br gx gm B w r (match P12.name r with
  | .error e => .error e
  | .ok (c, r) =>
   match P12.typeOf r with
   | .error e => .error e
   | .ok (ty, r) =>
    match P12.tailF c r.l.length t k (n + 1) false r with
    | .error e => .error e
    | .ok ((t, k, n, nn), r) => .ok (({ t with cols := t.cols ++ [(c, ty, nn)] }, k, n), r))) := by
 have HR := Lib.hid h
 have HX := Lib.hid hx
 have HM := Lib.hid hm
 have HS := Lib.hid hs
 have HB := hx.bounds
 have lr := h.lt
 have hmf := mkfun
 generalize hres : (match P12.name r with
  | .error e => .error e
  | .ok (c, r) =>
   match P12.typeOf r with
   | .error e => .error e
   | .ok (ty, r) =>
    match P12.tailF c r.l.length t k (n + 1) false r with
    | .error e => .error e
    | .ok ((t, k, n, nn), r) => .ok (({ t with cols := t.cols ++ [(c, ty, nn)] }, k, n), r) : Except P12.Er ((P12.Tb × List (List P12.T) × Nat) × P12.R)) = res
 have HE := Lib.hid hres
 clear h hx hm hs hres
 go_enter Tryz.func225, Tryz.ntmps225
 go_wp2_with fail
 go_at_call 265
 refine (constrains_any br r w HR.out).mono ?_
 rw [hc]
 rintro e w1 ⟨rfl, hx1⟩
 go_wp2_with fail
 go_at_call 267
 have hm1 : w1.heap[gm]? = some (manyO br n 16) := (hx1.block _ (Array.getElem?_eq_some_iff.1 HM.out).1).trans HM.out
 refine (counts_any br n 16 gm r _ (rp br) 233 (P12.named r) w1 (HR.out.ext hx1) hm1 h2 (by have := HS.out.most; omega) (by omega) (.inl rfl) ent_named (fun W hr _ => named_any br r W hr)).mono ?_
 rintro e w2 ⟨hx2, he2⟩
 rw [if_neg (by rw [hr]; simp)] at he2
 subst he2
 have hm2 : w2.heap[gm]? = some (manyO br (n + 1) 16) := by
  rw [hx2.block _ (by rw [World.size_setCell]; exact (Array.getElem?_eq_some_iff.1 hm1).1), heap_setCell_same w1 gm 1 _ _ _ hm1]
  simp
 have F2 : Pk br gx gm B (n + 1) (TabAt B gx 0 t k) w r r w2 :=
  ⟨(Rd.setCell (HR.out.ext hx1) (by omega) 1 _).ext hx2, ((HX.out.ext hx1).setCell h3 hne 1 _).ext hx2, fun w w' _ h ht => h.turn ht h1, hm2, ((Kept.of_ext hx1).setCell (.inr (.inl (by simp))) 1 _).trans (Kept.of_ext hx2), P12.Keeps.refl _, h1, h2, h3, hne, HB.1, by have := hx1.size; have := hx2.size; rw [World.size_setCell] at this; omega⟩
 have lr2 := F2.rd.lt
 clear hx1 hm1 hx2 hm2
 go_wp2_with fail
 go_at_call 223
 refine (name_any br r _ F2.rd).mono ?_
 intro e w3 h
 cases hn : P12.name r
 case error er => exact ste F2.after
 rename_i p
 rw [hn] at h HE
 dsimp only at HE
 obtain ⟨c, r3⟩ := p
 obtain ⟨_, rfl, rfl, ht, hr3, hk3⟩ := h
 have hk3' : P12.Keeps (P12.takes r) r3 := P12.name_keeps hn
 have hc0 : c ≠ [] := P12.name_ne HR.out.good hn
 have F3 := F2.step ht hr3 hk3
 have hB3 := F3.h6
 clear ht hr3 hk3 F2
 go_upto_region 5 with fail
 have hgt : ((w3.alloc (colO c 0)).alloc (.cells #[.string ⟨#[]⟩, bs [66, 79, 79, 76], bs [73, 78, 84], bs [84, 69, 88, 84]] 194)).heap[w3.heap.size + 1]? = some (.cells #[.string ⟨#[]⟩, bs [66, 79, 79, 76], bs [73, 78, 84], bs [84, 69, 88, 84]] 194) := by
  have := heap_new (w3.alloc (colO c 0)) (.cells #[.string ⟨#[]⟩, bs [66, 79, 79, 76], bs [73, 78, 84], bs [84, 69, 88, 84]] 194)
  rwa [World.size_alloc] at this
 have F5 : Pc br gx gm w3.heap.size B (n + 1) t k c 0 w r r3 ((w3.alloc (colO c 0)).alloc (.cells #[.string ⟨#[]⟩, bs [66, 79, 79, 76], bs [73, 78, 84], bs [84, 69, 88, 84]] 194)) :=
  ((F3.alloc (colO c 0)).with (Tp' := CTab B gx w3.heap.size t k c 0) ⟨(F3.tab.mark (Nat.le_refl _)).ext ((Below.refl _ _).alloc (Nat.le_refl _) _), heap_new w3 _⟩ (fun w w' _ h ht => h.turn ht h1 (by omega))).alloc _
 clear F3
 generalize ((w3.alloc (colO c 0)).alloc (.cells #[.string ⟨#[]⟩, bs [66, 79, 79, 76], bs [73, 78, 84], bs [84, 69, 88, 84]] 194)) = w5 at *
 have hlt5 := (Array.getElem?_eq_some_iff.1 hgt).1
 generalize hgc : w3.heap.size = gc at *
 clear hgc
 go_wp2_with ((refine lw hgt Tryz.underlying194 ?_))
 clear hgt hlt5
 go_loopw [27] (fun x wr => ∃ q : Nat, q ≤ 4 ∧ x = .int .i64 q ∧ Pc br gx gm gc B (n + 1) t k c (P12.tyQ r3 q).1 w r (P12.tyQ r3 q).2 wr) (fun x _ => 4 - (intOf x).toNat)
 case atStart => exact ⟨0, by omega, rfl, F5⟩
 case round =>
  obtain ⟨q, hq, rfl, F⟩ := hrel
  clear F5
  have hgB : B ≤ gc := hB3
  have hq5 : q = 0 ∨ q = 1 ∨ q = 2 ∨ q = 3 ∨ q = 4 := by omega
  rcases hq5 with rfl | rfl | rfl | rfl | rfl
  ·go_wp2_with fail
   go_roundw
   case rel => exact ⟨1, by omega, by go_num, by rw [show P12.tyQ r3 1 = P12.tyQ r3 0 by simp [P12.tyQ, P12.wordQ]]; exact F⟩
   case measure => simp [intOf]
  ·generalize hy : P12.tyQ r3 1 = st at F
   obtain ⟨y, r'⟩ := st
   dsimp only at F
   have hnx : P12.tyQ r3 (1 + 1) = if y = 0 ∧ P12.isT [66, 79, 79, 76] r' = true then (1, P12.takes r') else (y, r') := by
    rw [P12.tyQ, hy]
    simp [P12.wordQ]
   have cY : wr.cell? ⟨gc, 1, none⟩ = some (.int .i64 y) := by simp [World.cell?, F.tab.2]
   have fY := frozen_of_row wr gc 1 _ _ F.tab.2
   have lY := (Array.getElem?_eq_some_iff.1 F.tab.2).1
   by_cases hy0 : y = 0
   ·subst hy0
    cases hi : P12.isT [66, 79, 79, 76] r'
    ·rw [if_neg (by rw [hi]; simp)] at hnx
     simp only [Int.natCast_zero] at cY
     go_wp2_with fail
     go_at_call 100
     refine (has_no br r' [66, 79, 79, 76] wr F.rd hi).mono ?_
     rintro e w7 ⟨rfl, hx7⟩
     go_wp2_with fail
     go_roundw
     case rel => exact ⟨1 + 1, by omega, by go_num, by rw [hnx]; exact F.ext hx7⟩
     case measure => simp [intOf]
    ·rw [if_pos ⟨rfl, hi⟩] at hnx
     simp only [Int.natCast_zero] at cY
     go_wp2_with fail
     go_at_call 100
     refine (has_yes br r' [66, 79, 79, 76] wr F.rd hi).mono ?_
     rintro e w7 ⟨rfl, ht7, hr7⟩
     have F7 := F.step ht7 hr7 (P12.keeps_takes r')
     have c7 : w7.cell? ⟨gc, 1, none⟩ = some (.int .i64 (0 : Nat)) := by simp [World.cell?, F7.tab.2]
     have f7 := frozen_of_row w7 gc 1 _ _ F7.tab.2
     have l7 := (Array.getElem?_eq_some_iff.1 F7.tab.2).1
     clear ht7 hr7
     go_wp2_with fail
     go_roundw
     case rel => exact ⟨1 + 1, by omega, by go_num, by rw [hnx]; exact F7.ct hgB 1⟩
     case measure => simp [intOf]
   ·rw [if_neg (by simp [hy0])] at hnx
    have hyb : ((y : Int) == 0) = false := by simpa using hy0
    go_wp2_with fail
    go_roundw
    case rel => exact ⟨1 + 1, by omega, by go_num, by rw [hnx]; exact F⟩
    case measure => simp [intOf]
  ·generalize hy : P12.tyQ r3 2 = st at F
   obtain ⟨y, r'⟩ := st
   dsimp only at F
   have hnx : P12.tyQ r3 (2 + 1) = if y = 0 ∧ P12.isT [73, 78, 84] r' = true then (2, P12.takes r') else (y, r') := by
    rw [P12.tyQ, hy]
    simp [P12.wordQ]
   have cY : wr.cell? ⟨gc, 1, none⟩ = some (.int .i64 y) := by simp [World.cell?, F.tab.2]
   have fY := frozen_of_row wr gc 1 _ _ F.tab.2
   have lY := (Array.getElem?_eq_some_iff.1 F.tab.2).1
   by_cases hy0 : y = 0
   ·subst hy0
    cases hi : P12.isT [73, 78, 84] r'
    ·rw [if_neg (by rw [hi]; simp)] at hnx
     simp only [Int.natCast_zero] at cY
     go_wp2_with fail
     go_at_call 100
     refine (has_no br r' [73, 78, 84] wr F.rd hi).mono ?_
     rintro e w7 ⟨rfl, hx7⟩
     go_wp2_with fail
     go_roundw
     case rel => exact ⟨2 + 1, by omega, by go_num, by rw [hnx]; exact F.ext hx7⟩
     case measure => simp [intOf]
    ·rw [if_pos ⟨rfl, hi⟩] at hnx
     simp only [Int.natCast_zero] at cY
     go_wp2_with fail
     go_at_call 100
     refine (has_yes br r' [73, 78, 84] wr F.rd hi).mono ?_
     rintro e w7 ⟨rfl, ht7, hr7⟩
     have F7 := F.step ht7 hr7 (P12.keeps_takes r')
     have c7 : w7.cell? ⟨gc, 1, none⟩ = some (.int .i64 (0 : Nat)) := by simp [World.cell?, F7.tab.2]
     have f7 := frozen_of_row w7 gc 1 _ _ F7.tab.2
     have l7 := (Array.getElem?_eq_some_iff.1 F7.tab.2).1
     clear ht7 hr7
     go_wp2_with fail
     go_roundw
     case rel => exact ⟨2 + 1, by omega, by go_num, by rw [hnx]; exact F7.ct hgB 2⟩
     case measure => simp [intOf]
   ·rw [if_neg (by simp [hy0])] at hnx
    have hyb : ((y : Int) == 0) = false := by simpa using hy0
    go_wp2_with fail
    go_roundw
    case rel => exact ⟨2 + 1, by omega, by go_num, by rw [hnx]; exact F⟩
    case measure => simp [intOf]
  ·generalize hy : P12.tyQ r3 3 = st at F
   obtain ⟨y, r'⟩ := st
   dsimp only at F
   have hnx : P12.tyQ r3 (3 + 1) = if y = 0 ∧ P12.isT [84, 69, 88, 84] r' = true then (3, P12.takes r') else (y, r') := by
    rw [P12.tyQ, hy]
    simp [P12.wordQ]
   have cY : wr.cell? ⟨gc, 1, none⟩ = some (.int .i64 y) := by simp [World.cell?, F.tab.2]
   have fY := frozen_of_row wr gc 1 _ _ F.tab.2
   have lY := (Array.getElem?_eq_some_iff.1 F.tab.2).1
   by_cases hy0 : y = 0
   ·subst hy0
    cases hi : P12.isT [84, 69, 88, 84] r'
    ·rw [if_neg (by rw [hi]; simp)] at hnx
     simp only [Int.natCast_zero] at cY
     go_wp2_with fail
     go_at_call 100
     refine (has_no br r' [84, 69, 88, 84] wr F.rd hi).mono ?_
     rintro e w7 ⟨rfl, hx7⟩
     go_wp2_with fail
     go_roundw
     case rel => exact ⟨3 + 1, by omega, by go_num, by rw [hnx]; exact F.ext hx7⟩
     case measure => simp [intOf]
    ·rw [if_pos ⟨rfl, hi⟩] at hnx
     simp only [Int.natCast_zero] at cY
     go_wp2_with fail
     go_at_call 100
     refine (has_yes br r' [84, 69, 88, 84] wr F.rd hi).mono ?_
     rintro e w7 ⟨rfl, ht7, hr7⟩
     have F7 := F.step ht7 hr7 (P12.keeps_takes r')
     have c7 : w7.cell? ⟨gc, 1, none⟩ = some (.int .i64 (0 : Nat)) := by simp [World.cell?, F7.tab.2]
     have f7 := frozen_of_row w7 gc 1 _ _ F7.tab.2
     have l7 := (Array.getElem?_eq_some_iff.1 F7.tab.2).1
     clear ht7 hr7
     go_wp2_with fail
     go_roundw
     case rel => exact ⟨3 + 1, by omega, by go_num, by rw [hnx]; exact F7.ct hgB 3⟩
     case measure => simp [intOf]
   ·rw [if_neg (by simp [hy0])] at hnx
    have hyb : ((y : Int) == 0) = false := by simpa using hy0
    go_wp2_with fail
    go_roundw
    case rel => exact ⟨3 + 1, by omega, by go_num, by rw [hnx]; exact F⟩
    case measure => simp [intOf]
  ·have hE := HE.out
   rw [P12.typeOf_q] at hE
   have hk4 := P12.tyQ_keeps r3 4
   generalize hy : P12.tyQ r3 4 = st at F hE hk4
   obtain ⟨y, r4⟩ := st
   dsimp only at F hE hk4
   have cY : wr.cell? ⟨gc, 1, none⟩ = some (.int .i64 y) := by simp [World.cell?, F.tab.2]
   have fY := frozen_of_row wr gc 1 _ _ F.tab.2
   have lY := (Array.getElem?_eq_some_iff.1 F.tab.2).1
   by_cases hy0 : y = 0
   ·subst hy0
    rw [if_pos rfl] at hE
    dsimp only [P12.fails] at hE
    subst hE
    simp only [Int.natCast_zero] at cY
    go_wp2_with fail
    go_at_call 102
    refine (fails_any br r4 120 wr F.rd).mono ?_
    rintro e w7 ⟨rfl, hx7⟩
    simp only [faults]
    go_wp2
    exact ⟨rfl, rfl, F.after (Turn.of_ext hx7)⟩
   rw [if_neg hy0] at hE
   dsimp only at hE
   clear HE
   have HE := Lib.hid hE
   have hyb : ((y : Int) == 0) = false := by simpa using hy0
   obtain ⟨col, tc, tk, tq, kc, T, h9⟩ := F.tab.1
   have h9 := h9 hgB
   obtain ⟨a1, a2, b1, b2, c1, c2, d1, d2, rfl, rfl, rfl, rfl⟩ := T.form
   have cC : wr.cell? ⟨gx, 2, none⟩ = some (.slice a1 t.cols.length a2) := by simp [World.cell?, T.blk]
   have k0 : wr.cell? ⟨gc, 0, none⟩ = some (bs c) := by simp [World.cell?, F.tab.2]
   have k2 : wr.cell? ⟨gc, 2, none⟩ = some (.bool false) := by simp [World.cell?, F.tab.2]
   have hBg := F.h5
   have lgx : gx < wr.heap.size := by omega
   have T10 := T.recol 0
   obtain ⟨us, -, hown, -, hu2, hu3, hu4⟩ := T10.tc
   have hlt : ∀ b, (Value.slice a1 t.cols.length a2).ownBlock = some b → B ≤ b ∧ b < wr.heap.size ∧ b ≠ gc := fun b hb => by
    obtain ⟨⟨h1, h2⟩, h3⟩ := T10.tc.lt b hb
    try dsimp only at h2
    rw [if_pos h3] at h2
    exact ⟨h1, h3, fun e => by rw [e, h9] at h2; omega⟩
   have HF : Hid (∀ W, Xe.ES (Xe.specOf 51 3 (t.cols.length + 1) (us.flatten ++ [bs c, .int .i64 y, .bool false]) (.slice a1 t.cols.length a2)) wr.drew W → W.cell? ⟨gx, 2, none⟩ = some (.slice a1 t.cols.length a2) ∧ gx < W.heap.size ∧ W.cell? ⟨gc, 0, none⟩ = some (bs c) ∧ W.cell? ⟨gc, 1, none⟩ = some (.int .i64 y) ∧ W.cell? ⟨gc, 2, none⟩ = some (.bool false) ∧ gc < W.heap.size) := Lib.hid fun W hx => by
    have hn : ∀ x, x < B ∨ x = gc → ∀ q ∈ Xe.specOf 51 3 (t.cols.length + 1) (us.flatten ++ [bs c, .int .i64 y, .bool false]) (.slice a1 t.cols.length a2), q.1 ≠ x := fun x hx q hq e => by
     have := hlt _ (Xe.specOf_block hq)
     omega
    have hs := hx.2.2.2.1
    simp only [World.size_drew] at hs
    have d : ∀ b o v, b < B ∨ b = gc → wr.cell? ⟨b, o, none⟩ = some v → W.cell? ⟨b, o, none⟩ = some v := fun b o v hb hc => hx.cell (show wr.drew.cell? ⟨b, o, none⟩ = some v from hc) (hn b hb)
    exact ⟨d _ _ _ (by omega) cC, by omega, d _ _ _ (by omega) k0, d _ _ _ (by omega) cY, d _ _ _ (by omega) k2, by omega⟩
   have T10H := Lib.hid T10
   have HU := Lib.hid hu4
   have hkl : t.cols.length ≤ 4000000 := by have := HS.out.sum; have := HS.out.most; omega
   obtain ⟨ks, hks⟩ : ∃ ks : Xe.Specs, ks = Xe.specOf 51 3 (t.cols.length + 1) (us.flatten ++ [bs c, .int .i64 y, .bool false]) (.slice a1 t.cols.length a2) := ⟨_, rfl⟩
   have HKS := Lib.hid hks
   have HSB : Hid (∀ k ∈ ks, (.slice a1 t.cols.length a2 : Value).ownBlock = some k.1 ∧ k.1 < (wr).heap.size) := Lib.hid fun k hk => by
    rw [hks] at hk
    exact ⟨Xe.specOf_block hk, ((hown).lt _ (Xe.specOf_block hk)).2⟩
   have HS6 : Hid (∀ k ∈ ks, (.slice a1 t.cols.length a2 : Value).ownBlock = some k.1 → k ∈ Xe.specOf 51 3 (t.cols.length + 1) (us.flatten ++ [bs c, .int .i64 y, .bool false]) (.slice a1 t.cols.length a2)) := Lib.hid fun k hk _ => by rw [hks] at hk; exact hk
   have HVL : Hid (∀ b, (.slice a1 t.cols.length a2 : Value).ownBlock = some b → b < (wr).heap.size) := Lib.hid fun b hb => ((hown).lt b hb).2
   have HOA := Lib.hid (hown)
   clear hks
   rw [← HKS.out] at HF
   obtain ⟨i0, hi, hz0, hz1, hz2⟩ := infoParts Tryz.infoCol
   have Hi := Lib.hid hi
   have Hz0 := Lib.hid hz0
   have Hz1 := Lib.hid hz1
   have Hz2 := Lib.hid hz2
   clear hi hz0 hz1 hz2
   go_upto_region 14 with fail
   have FH := Lib.hid F
   clear cC k0 k2 hown T10 hu4 F cY fY
   refine Xe.wp_region_rel (E := Xe.ES ks) (Xe.pre_ES _) 12 (Xe.O2 8 _ 99 none) (Xe.O2_lt HVL.out (fun b hb => by cases hb)) (Xe.O2_ne (fun b hb e => by cases e)) [(7, Xe.newRow (wr).heap.size [bs c, .int .i64 y, .bool false] 51), (8, Xe.appF 51 3 (wr).heap.size (.slice a1 t.cols.length a2) t.cols.length us.flatten [bs c, .int .i64 y, .bool false])] (by kernel_rfl) (by kernel_rfl) (Xe.stable_es (by
       intro y hy
       simp only [List.mem_cons, List.not_mem_nil, or_false] at hy
       rcases hy with rfl | rfl
       ·exact Xe.newRow.es fun k hk => (HSB.out k hk).2
       ·exact Xe.appFact.es HS6.out fun k hk => (HSB.out k hk).2)) ?_
   simp only [List.take_succ_cons, List.take_zero, List.drop_succ_cons, List.drop_zero]
   repeat (first
    | ((first | refine Xe.rel_det (Xe.pre_ES _) (Xk.wanted_none (by rfl)) (by rfl) (fun K hK => ?_) | refine Xe.rel_det (Xe.pre_ES _) (by rfl) (by rfl) (fun K hK => ?_)); apply Exists.intro; refine ⟨fun W hx hp => ?_, ?_⟩; (obtain ⟨f1, f2, f3, f4, f5, f6⟩ := HF.out _ hx; go_simp; first | exact ⟨rfl, rfl⟩ | ((try refine ⟨by kernel_rfl, ?_⟩); (fail))); (go_simp; refine hK _ ?_; clear hK K))
    | (refine Xe.rel_skip (by rfl) (fun K hK => ?_); go_simp; refine hK _ ?_; clear hK K))
   (refine Xe.rel_make (Xe.pre_ES _) (by rfl) (by rfl) (fun W hx hp => ?_) (fun ynew K hK => ?_); (go_simp; exact Xe.new_row _ _ _ _ (by first | rfl | kernel_rfl) (by have := hx.2.2.2.1; simpa using this)); (go_simp; refine hK _ ?_; clear hK K))
   (refine Xe.rel_make (Xe.pre_ES _) (by rfl) (by rfl) (fun W hx hp => ?_) (fun z1 K hK => ?_); (obtain ⟨g, rfl, hg, hc⟩ := Xe.facts_head hp (by kernel_rfl); exact Xe.make_app1 _ _ _ 29 (by rfl) 51 i0 _ 3 32 Tryz.underlying29 Hi.out Hz0.out Hz1.out Hz2.out rfl (by decide) (.slice a1 t.cols.length a2) t.cols.length us.flatten [bs c, .int .i64 y, .bool false] (by rfl) (hx.own (m := 1) (Xo.own_drew HOA.out) HS6.out) g 1 (by rfl) (by rfl) hc (one_all (by kernel_rfl)) (by omega) (by have := hx.2.2.2.1; simpa using this) (by rw [HKS.out]; exact fun k hk => hk) (by rfl)); (go_simp; refine hK _ ?_; clear hK K))
   repeat (first
    | ((first | refine Xe.rel_det (Xe.pre_ES _) (Xk.wanted_none (by rfl)) (by rfl) (fun K hK => ?_) | refine Xe.rel_det (Xe.pre_ES _) (by rfl) (by rfl) (fun K hK => ?_)); apply Exists.intro; refine ⟨fun W hx hp => ?_, ?_⟩; (obtain ⟨f1, f2, f3, f4, f5, f6⟩ := HF.out _ hx; go_simp; first | exact ⟨rfl, rfl⟩ | ((try refine ⟨by kernel_rfl, ?_⟩); (fail))); (go_simp; refine hK _ ?_; clear hK K))
    | (refine Xe.rel_skip (by rfl) (fun K hK => ?_); go_simp; refine hK _ ?_; clear hK K))
   refine Xe.rel_nil (fun W hx hp hg => ?_)
   simp only [Xk.factsAll] at hp
   obtain ⟨p1', -, -⟩ := hp
   obtain ⟨z, cz, rfl, ho7, hz7⟩ := p1'.form
   have hg7 := Xe.ES.grown (e := 51) (size := 3) (n := 0) (xs := []) hx HSB.out
   have T11 := Tab.grow0 (x := (c, (y : Int), false)) T10H.out (fun b hb => if_neg (by omega)) hu2 hu3 HU.out hg7 ho7 (fun b hb => by cases hb; exact hz7) rfl rfl
   have hgc7 : W.heap[gc]? = some (colO c y) := (hg7.block gc lY (fun e => (hlt gc e.symm).2.2 rfl)).trans FH.out.tab.2
   have f11 := frozen_of_row W gx 2 _ _ T11.blk
   have c11 : W.cell? ⟨gx, 2, none⟩ = some (.slice a1 t.cols.length a2) := by simp [World.cell?, T11.blk]
   have F12 : Pc br gx gm gc B (n + 1) { t with cols := t.cols ++ [(c, (y : Int), false)] } k c y w r r4 (W.setCell ⟨gx, 2, none⟩ (.slice (some ⟨z, 0, none⟩) (t.cols.length + 1) cz)) :=
    (FH.out.grown (Tp' := fun _ => True) hg7 (fun b hb => (hlt b hb).1) trivial (fun _ _ _ _ _ => trivial)).setX 2 _
     ⟨⟨_, _, _, _, _, T11.setX 2 (.slice (some ⟨z, 0, none⟩) (t.cols.length + 1) cz), fun _ => (if_pos lY).trans h9⟩, (heap_setCell_other W ⟨gx, 2, none⟩ gc _ (fun e => by (have h : gc = gx := (by simpa using e)); omega)).trans hgc7⟩
     (fun w w' _ h ht => h.turn ht h1 (by omega))
   clear hx p1' ho7 hg7 T11 hgc7 HOA HSB HS6 HVL HKS HF hg
   go_wp2_with fail
   clear c11 f11 Hi Hz0 Hz1 Hz2 i0 FH T10H HU
   have hE := HE.out
   obtain ⟨resT, hRT⟩ : ∃ x, P12.tailF c r4.l.length t k (n + 1) false r4 = x := ⟨_, rfl⟩
   rw [hRT] at hE
   clear HE
   have HE := Lib.hid hE
   have HRT := Lib.hid hRT
   have hk34 := hk3'.trans hk4
   have hs12 : P12.Small { t with cols := t.cols ++ [(c, (y : Int), false)] } k (n + 1) := ⟨by have := HS.out.sum; simp; omega, HS.out.keys, by
    have := P12.name_named hn
    rw [this] at hr
    simp at hr
    omega⟩
   have hlen0 : t.cols.length ≤ 16 := by have := HS.out.sum; have := HS.out.most; omega
   clear hE hRT HS HX HM
   generalize W.setCell ⟨gx, 2, none⟩ (.slice (some ⟨z, 0, none⟩) (t.cols.length + 1) cz) = w12 at *
   go_loopw [69] (fun _ wr => ∃ (t' : P12.Tb) (k' : List (List P12.T)) (n' : Nat) (nn : Bool) (r' : P12.R) (f : Nat), Pc br gx gm gc B n' { t' with cols := t'.cols ++ [(c, (y : Int), nn)] } k' c y w r r' wr ∧ t'.cols.length = t.cols.length ∧ P12.Small { t' with cols := t'.cols ++ [(c, (y : Int), nn)] } k' n' ∧ r'.l.length ≤ f ∧ P12.Keeps (P12.takes r) r' ∧ P12.tailF c f t' k' n' nn r' = resT) (fun _ wr => rdLen br wr)
   case atStart => exact ⟨t, k, n + 1, false, r4, r4.l.length, F12, rfl, hs12, Nat.le_refl _, hk34, HRT.out⟩
   case round =>
    obtain ⟨t', k', n', nn, r', f, F, htl, hsm, hf, hkr, hres⟩ := hrel
    clear F12
    have hgood := F.rd.good
    have hpos := hgood.pos
    have hlen := F.rd.len
    obtain ⟨f, rfl⟩ : ∃ j, f = j + 1 := ⟨f - 1, by omega⟩
    have HRS := Lib.hid hres
    have HSM := Lib.hid hsm
    clear hres hsm
    cases hN : P12.isT [78, 79, 84] r'
    ·go_wp2_with fail
     go_at_call 100
     refine (has_no br r' [78, 79, 84] _ F.rd hN).mono ?_
     rintro e w7 ⟨rfl, hx7⟩
     have F7 := F.ext hx7
     clear F hx7
     go_wp2_with fail
     go_at_call 265
     refine (constrains_any br r' _ F7.rd).mono ?_
     cases hC : P12.constrains r'
     ·rintro e w8 ⟨rfl, hx8⟩
      have F8 := F7.ext hx8
      go_wp2_with fail
      refine bodyPost_ret (results_none rfl _ _ _) rfl ?_
      have hE := HE.out
      rw [← HRS.out, P12.tail_no hN hC] at hE
      dsimp only at hE
      subst hE
      exact ⟨rfl, F8.tab.1.unmark, F8.many, F8.rd, hkr, F8.kept, HSM.out⟩
     ·rintro e w8 ⟨rfl, hx8⟩
      have F8 := F7.ext hx8
      clear F7 hx8
      go_wp2_with fail
      go_at_call 187
      refine (isT_any br r' [80, 82, 73, 77, 65, 82, 89] _ F8.rd).mono ?_
      generalize hpp : P12.isT [80, 82, 73, 77, 65, 82, 89] r' = pp
      rintro e w9 ⟨rfl, hx9⟩
      have F9 := F8.ext hx9
      have k0 : w9.cell? ⟨gc, 0, none⟩ = some (bs c) := by simp [World.cell?, F9.tab.2]
      have l9 := (Array.getElem?_eq_some_iff.1 F9.tab.2).1
      clear F8 hx9
      go_wp2_with fail
      go_at_call 266
      refine (hQ.con br gx gm gc B n' _ k' c r' w9 F9.rd F9.tab.1 F9.many h1 h2 h3 hne (by have := HSM.out.sum; have := HSM.out.keys; have := HSM.out.most; dsimp only at *; omega) HSM.out.most l9 (hQ.keep _ _ hQr ((P12.keeps_takes r).trans hkr))).mono ?_
      intro e w10 h
      cases hn : P12.conOf n' c r' with
      | error er =>
       rw [hn] at h
       obtain ⟨rfl, hk⟩ := h
       simp only [faults]
       go_wp2
       have hE := HE.out
       rw [← HRS.out, P12.tail_con hN hC, hn] at hE
       dsimp only at hE
       subst hE
       exact ⟨rfl, rfl, F9.kept.trans hk.kept⟩
      | ok p =>
       obtain ⟨o, r10⟩ := p
       rw [hn] at h
       obtain ⟨rfl, hT, hM, hR, hK, hk⟩ := h
       have hRS := HRS.out
       rw [P12.tail_con hN hC, hn] at hRS
       dsimp only at hRS
       rw [hpp] at hRS
       have ht2 : P12.addT { t' with cols := t'.cols ++ [(c, (y : Int), nn)] } o = { P12.addT t' o with cols := (P12.addT t' o).cols ++ [(c, (y : Int), nn)] } := by cases o <;> rfl
       have hcl : (P12.addT t' o).cols.length = t.cols.length := by rw [← htl]; cases o <;> rfl
       have hsm2 := HSM.out.add (P12.conOf_room hn hC) o
       rw [ht2] at hT hsm2
       have F10 : Pc br gx gm gc B (n' + 1) { P12.addT t' o with cols := (P12.addT t' o).cols ++ [(c, (y : Int), nn)] } (P12.addK k' o) c y w r r10 w10 :=
        ⟨hR, ⟨hT, (hk.fore hgB l9).trans F9.tab.2⟩, fun w w' _ h ht => h.turn ht h1 (by omega), hM, F9.kept.trans hk.kept, F9.keeps.trans ((P12.keeps_takes r').trans hK), h1, h2, h3, hne, F9.h5, Nat.le_trans F9.h6 hk.kept.size⟩
       have hlt10 : r10.l.length < r'.l.length := by
        have := hK.le
        have := P12.takes_lt F9.rd.good (P12.constrains_kind hC)
        omega
       have hkr10 := hkr.trans ((P12.keeps_takes r').trans hK)
       clear F9 hT hM hR hk HRS HSM
       obtain ⟨col, tc, tk, tq, kc, T, h9⟩ := F10.tab.1
       obtain ⟨z2, cz2, rfl⟩ := T.tc.form1
       have hset := fun b => T.setNN b
       simp only [hcl] at hset
       obtain ⟨-, cNN, fNN⟩ := hset nn
       have hzB := (T.tc.lt z2 rfl).1
       have hzg : z2 ≠ gc := fun e => by have h := hzB.2; rw [e, h9 hgB] at h; omega
       have F11 : ∀ b : Bool, Pc br gx gm gc B (n' + 1) { P12.addT t' o with cols := (P12.addT t' o).cols ++ [(c, (y : Int), b)] } (P12.addK k' o) c y w r r10 (w10.setCell ⟨z2, t.cols.length * 3 + 2, none⟩ (.bool b)) := fun b =>
        F10.setO hzB.1 _ _ ⟨⟨_, _, _, _, _, (hset b).1, h9⟩, (heap_setCell_other w10 ⟨z2, t.cols.length * 3 + 2, none⟩ gc _ (fun e => hzg (by simpa using e.symm))).trans F10.tab.2⟩ (fun w w' _ h ht => h.turn ht h1 (by omega))
       have hsm3 : ∀ b : Bool, P12.Small { P12.addT t' o with cols := (P12.addT t' o).cols ++ [(c, (y : Int), b)] } (P12.addK k' o) (n' + 1) := fun b => ⟨by have := hsm2.sum; simpa using this, hsm2.keys, hsm2.most⟩
       have cC : w10.cell? ⟨gx, 2, none⟩ = some (.slice (some ⟨z2, 0, none⟩) (t.cols.length + 1) cz2) := by simp [World.cell?, T.blk, hcl]
       have lgx : gx < w10.heap.size := (Array.getElem?_eq_some_iff.1 T.blk).1
       have lz := World.block_lt_of_cell? _ _ cNN
       have F11H := Lib.hid F11
       have hl10 : ∀ b p, rdLen br (Xk.exw (w10.setCell ⟨z2, t.cols.length * 3 + 2, none⟩ (.bool b)) p) = r10.l.length := fun b p => ((F11 b).rd.exw p).len
       clear F10 T hset hsm2 F11
       have hb1 : (t.cols.length : Int) < (t.cols.length : Int) + 1 := by omega
       cases nn
       ·go_wp2_with fail
        refine Xk.reg 20 (Xk.w0 fun p => ?_)
        go_wp2_with fail
        go_roundw
        case rel => exact ⟨P12.addT t' o, P12.addK k' o, n' + 1, pp, r10, f, (F11H.out pp).ext (Xk.ext_exw _ _), hcl, hsm3 pp, by omega, hkr10, by rw [← hRS, Bool.false_or]⟩
        case measure => rw [hl10, hlen]; exact hlt10
       ·go_wp2_with fail
        refine Xk.reg 20 (Xk.w0 fun p => ?_)
        go_wp2_with fail
        go_roundw
        case rel => exact ⟨P12.addT t' o, P12.addK k' o, n' + 1, true, r10, f, (F11H.out true).ext (Xk.ext_exw _ _), hcl, hsm3 true, by omega, hkr10, by rw [← hRS, Bool.true_or]⟩
        case measure => rw [hl10, hlen]; exact hlt10
    ·go_wp2_with fail
     go_at_call 100
     refine (has_yes br r' [78, 79, 84] _ F.rd hN).mono ?_
     rintro e w7 ⟨rfl, ht7, hr7⟩
     have F7 := F.step ht7 hr7 (P12.keeps_takes r')
     have hlt7 := P12.takes_lt hgood (P12.isT_kind hN)
     have hW7 := F7.h6
     clear ht7 hr7 F
     go_wp2_with fail
     go_at_call 224
     refine (must_got br [78, 85, 76, 76] (P12.takes r') _ _ (F7.alloc _).rd (cell_at _ _ _ rfl) (by omega)).mono ?_
     intro e w8 h
     cases hn : P12.must [78, 85, 76, 76] (P12.takes r') with
     | error er =>
      rw [hn] at h
      obtain ⟨rfl, ht⟩ := h
      simp only [faults]
      go_wp2
      have hE := HE.out
      rw [← HRS.out, P12.tail_not hN, hn] at hE
      dsimp only at hE
      subst hE
      exact ⟨rfl, rfl, (F7.alloc _).after ht⟩
     | ok r10 =>
      rw [hn] at h
      obtain ⟨rfl, ht, hr8, hk8⟩ := h
      have hRS := HRS.out
      rw [P12.tail_not hN, hn] at hRS
      dsimp only at hRS
      have F10 := (F7.alloc (.cells #[bs [78, 85, 76, 76]] 9)).step ht hr8 hk8
      have hlt10 : r10.l.length < r'.l.length := by have := hk8.le; omega
      have hkr10 := hkr.trans ((P12.keeps_takes r').trans hk8)
      have hsm2 := HSM.out
      clear ht hr8 F7 HRS HSM
      obtain ⟨col, tc, tk, tq, kc, T, h9⟩ := F10.tab.1
      obtain ⟨z2, cz2, rfl⟩ := T.tc.form1
      have hset := fun b => T.setNN b
      simp only [htl] at hset
      obtain ⟨-, cNN, fNN⟩ := hset nn
      have hzB := (T.tc.lt z2 rfl).1
      have hzg : z2 ≠ gc := fun e => by have h := hzB.2; rw [e, h9 hgB] at h; omega
      have F11 : Pc br gx gm gc B n' { t' with cols := t'.cols ++ [(c, (y : Int), true)] } k' c y w r r10 (w8.setCell ⟨z2, t.cols.length * 3 + 2, none⟩ (.bool true)) :=
       F10.setO hzB.1 _ _ ⟨⟨_, _, _, _, _, (hset true).1, h9⟩, (heap_setCell_other w8 ⟨z2, t.cols.length * 3 + 2, none⟩ gc _ (fun e => hzg (by simpa using e.symm))).trans F10.tab.2⟩ (fun w w' _ h ht => h.turn ht h1 (by omega))
      have hsm3 : P12.Small { t' with cols := t'.cols ++ [(c, (y : Int), true)] } k' n' := ⟨by have := hsm2.sum; simpa using this, hsm2.keys, hsm2.most⟩
      have cC : w8.cell? ⟨gx, 2, none⟩ = some (.slice (some ⟨z2, 0, none⟩) (t.cols.length + 1) cz2) := by simp [World.cell?, T.blk, htl]
      have lgx : gx < w8.heap.size := (Array.getElem?_eq_some_iff.1 T.blk).1
      have lz := World.block_lt_of_cell? _ _ cNN
      have F11H := Lib.hid F11
      have hl10 := F11.rd.len
      clear F10 T hset hsm2 F11
      have hb1 : (t.cols.length : Int) < (t.cols.length : Int) + 1 := by omega
      go_wp2_with fail
      go_roundw
      case rel => exact ⟨t', k', n', true, r10, f, F11H.out, htl, hsm3, by omega, hkr10, hRS⟩
      case measure => rw [hl10, hlen]; exact hlt10
theorem part_q {Q : P12.R → Prop} (hQ : ConQ Q) (br gx gm B n : Nat) (t : P12.Tb) (k : List (List P12.T)) (r : P12.R) (w : World) (h : Rd br r w) (hx : TabAt B gx 0 t k w) (hm : w.heap[gm]? = some (manyO br n 16)) (h1 : br < gx) (h2 : br < gm) (h3 : gm < B) (hne : gm ≠ gx) (hs : P12.Small t k n) (hq : Q r) :
  Calls Tryz.prog 225 #[rp br, rp gx, rp gm] w (PartPost br gx gm B w r (P12.part t k n r)) := by
 cases hc : P12.constrains r
 ·cases hr : (decide (16 < n + 1) && P12.named r)
  ·rw [show P12.part t k n r = (match P12.name r with
  | .error e => .error e
  | .ok (c, r) =>
   match P12.typeOf r with
   | .error e => .error e
   | .ok (ty, r) =>
    match P12.tailF c r.l.length t k (n + 1) false r with
    | .error e => .error e
    | .ok ((t, k, n, nn), r) => .ok (({ t with cols := t.cols ++ [(c, ty, nn)] }, k, n), r)) by
     unfold P12.part
     rw [hc, hr]
     rfl]
   exact part_col hQ br gx gm B n t k r w h hx hm h1 h2 h3 hne hs hc hr hq
  ·rw [show P12.part t k n r = .error ((P12.nxt r).pos, 122) by
     unfold P12.part
     rw [hc, hr]
     rfl]
   exact part_many br gx gm B n t k r w h hx hm h1 h2 h3 hne hs hc hr
 ·exact part_con hQ br gx gm B n t k r w h hx hm h1 h2 h3 hne hs hc hq
theorem create_idx (br : Nat) (r : P12.R) (w : World) (h : Rd br r w) (hj : P12.isT [84, 65, 66, 76, 69] r = false) : Calls Tryz.prog 179 #[rp br] w (Got br w r (StmtV w) (P12.create r)) := by
 have HR := Lib.hid h
 have lr := h.lt
 clear h
 generalize hres : P12.create r = res
 have hE := hres
 simp only [P12.create, bind, Except.bind, pure, Except.pure] at hE
 have HE := Lib.hid hE
 clear hE hres
 have HM := Lib.hid fun W => made_any 3 W
 rw [if_neg (by decide)] at HM
 have hE := HE.out
 rw [hj] at hE
 simp only [Bool.false_eq_true, if_false] at hE
 clear HE
 have HE := Lib.hid hE
 clear hE
 go_enter Tryz.func179, Tryz.ntmps179
 go_wp2_with fail
 go_at_call 100
 refine (has_no br r [84, 65, 66, 76, 69] _ (HR.out.alloc _) hj).mono ?_
 rintro e w1 ⟨rfl, hx1⟩
 go_wp2_with fail
 go_at_call 186
 refine (HM.out _).mono ?_
 rintro e w2 ⟨rfl, hx2⟩
 have hx12 := Xk.Ext.trans hx1 hx2
 go_wp2_with ((refine pw (heap_new w2 _) ?_; intro w3 hp3); have F3 := (Fz.start (wm := w2) HR.out (Turn.of_ext hx12) ((HR.out.alloc _).ext hx12) (P12.Keeps.refl _) hp3).cells (c' := (stmtL 3 [] nilS nilS nilS nilS [] [] false nilS nilS nilS noE nilS nilS noE nilS nilS 0).toArray) rfl)
 have hzx := F3.zx
 clear hp3 hx1 hx2 hx12
 cases hu : P12.isT [85, 78, 73, 81, 85, 69] r
 ·have hE := HE.out
  simp only [P12.has, hu, Bool.false_eq_true, if_false, Bool.false_or] at hE
  clear HE
  have HE := Lib.hid hE
  clear hE
  go_at_call 100
  refine (has_no br r [85, 78, 73, 81, 85, 69] _ F3.rd hu).mono ?_
  rintro e w4 ⟨rfl, hx4⟩
  have F4 := F3.ext hx4
  have c4 := F4.cell (o := 8) rfl
  have f4 := F4.free 8
  have hW4 := F4.size
  have F5 := (F4.set 8 (.bool false)).cells (c' := (stmtL 3 [] nilS nilS nilS nilS [] [] false nilS nilS nilS noE nilS nilS noE nilS nilS 0).toArray) rfl
  have c5 := F5.cell (o := 8) rfl
  have hW5 := F5.size
  clear hx4 F3 F4
  go_wp2_with fail
  go_at_call 187
  refine (isT_any br r [73, 78, 68, 69, 88] _ F5.rd).mono ?_
  cases hi : P12.isT [73, 78, 68, 69, 88] r
  ·have hE := HE.out
   simp only [hi, Bool.false_eq_true, if_false, P12.fails] at hE
   subst hE
   rintro e w6 ⟨rfl, hx6⟩
   have F6 := F5.ext hx6
   go_wp2_with fail
   go_at_call 102
   refine (fails_any br r 120 _ F6.rd).mono ?_
   rintro e w7 ⟨rfl, hx7⟩
   simp only [faults]
   go_wp2
   exact ⟨rfl, rfl, F6.after (Turn.of_ext hx7)⟩
  ·have hE := HE.out
   simp only [hi, if_true] at hE
   clear HE
   have HE := Lib.hid hE
   clear hE
   rintro e w6 ⟨rfl, hx6⟩
   have F5' := F5.ext hx6
   have hW5' := F5'.size
   clear F5 c5 c4 f4 hx6
   go_wp2_with fail
   go_at_call 224
   refine (must_got br [73, 78, 68, 69, 88] r _ _ (F5'.alloc _).rd (cell_at _ _ _ (rfl)) (by omega)).mono ?_
   intro e w6 h
   cases hn : P12.must [73, 78, 68, 69, 88] r
   case error er => exact ste (F5'.alloc _).after
   rename_i p
   rw [hn] at h HE
   dsimp only at HE
   rename P12.R => r6
   obtain ⟨rfl, ht, hr, hk⟩ := h
   have F6 := (F5'.alloc _).step ht hr hk
   clear ht hr hk
   go_wp2_with fail
   go_at_call 223
   refine (name_any br _ _ F6.rd).mono ?_
   intro e w7 h
   cases hn : P12.name r6
   case error er => exact ste F6.after
   rename_i p
   rw [hn] at h HE
   dsimp only at HE
   obtain ⟨a, r7⟩ := p
   obtain ⟨_, rfl, rfl, ht, hr, hk⟩ := h
   have F7 := F6.step ht hr hk
   have c7 := F7.cell (o := 6) rfl
   have f7 := F7.free 6
   have hW7 := F7.size
   have F8 := (F7.set 6 (bs a)).cells (c' := (stmtL 3 [] nilS nilS nilS nilS a [] false nilS nilS nilS noE nilS nilS noE nilS nilS 0).toArray) rfl
   clear ht hr hk F6 F7
   go_wp2_with fail
   go_at_call 224
   refine (must_got br [79, 78] r7 _ _ (F8.alloc _).rd (cell_at _ _ _ (by rw [World.size_setCell])) (by omega)).mono ?_
   intro e w9 h
   cases hn : P12.must [79, 78] r7
   case error er => exact ste (F8.alloc _).after
   rename_i p
   rw [hn] at h HE
   dsimp only at HE
   rename P12.R => r9
   obtain ⟨rfl, ht, hr, hk⟩ := h
   have F9 := (F8.alloc _).step ht hr hk
   clear ht hr hk F8 c7 f7
   go_wp2_with fail
   go_at_call 223
   refine (name_any br _ _ F9.rd).mono ?_
   intro e w10 h
   cases hn : P12.name r9
   case error er => exact ste F9.after
   rename_i p
   rw [hn] at h HE
   dsimp only at HE
   obtain ⟨b, r10⟩ := p
   obtain ⟨_, rfl, rfl, ht, hr, hk⟩ := h
   have F10 := F9.step ht hr hk
   have c10 := F10.cell (o := 7) rfl
   have f10 := F10.free 7
   have hW10 := F10.size
   have F11 := (F10.set 7 (bs b)).cells (c' := (stmtL 3 [] nilS nilS nilS nilS a b false nilS nilS nilS noE nilS nilS noE nilS nilS 0).toArray) rfl
   clear ht hr hk F9 F10
   go_wp2_with fail
   go_at_call 226
   refine (names_any br _ _ F11.rd).mono ?_
   intro e w12 h
   cases hn : P12.names r10
   case error er => exact ste F11.after
   rename_i p
   rw [hn] at h HE
   dsimp only at HE
   obtain ⟨l, r12⟩ := p
   obtain ⟨_, rfl, ⟨hpos, hs⟩, ht, hr, hk⟩ := h
   obtain ⟨q1, q2, q3, rfl⟩ := slc_one hs
   have F12 := (F11.step ht hr hk).add (stabP_slc stab_str 1 l (.slice q1 q2 q3)) (F11.up (stabP_slc stab_str 1 l (.slice q1 q2 q3)) hs)
   have c12 := F12.cell (o := 9) rfl
   have f12 := F12.free 9
   have F13 := (F12.set 9 (.slice q1 q2 q3)).cells (c' := (stmtL 3 [] nilS nilS nilS nilS a b false (.slice q1 q2 q3) nilS nilS noE nilS nilS noE nilS nilS 0).toArray) rfl
   have hb13 := F13.blk
   have hz13 := F13.zero
   have hW12 := F12.size
   clear ht hr hk F11 c10 f10 hs
   go_wp2_with (first | (refine lw hb13 Tryz.underlying46 ?_) | (refine pw hz13 ?_; intro w14 hp14))
   refine bodyPost_ret (results_row (fn := Tryz.f179) rfl rfl hp14.blk Tryz.underlying46 rfl (by kernel_rfl)) rfl ?_
   have hE := HE.out
   subst hE
   refine Fz.finish F13 hp14 (fun ⟨_, hcl⟩ => ?_)
   exact ⟨nilS, nilS, nilS, nilS, _, nilS, nilS, noE, nilS, nilS, noE, nilS, nilS, rfl, SlcAt.nil _ _ _ _, SlcAt.nil _ _ _ _, SlcAt.nil _ _ _ _, SlcAt.nil _ _ _ _, hcl, SlcAt.nil _ _ _ _, SlcAt.nil _ _ _ _, rfl, SlcAt.nil _ _ _ _, SlcAt.nil _ _ _ _, rfl, SlcAt.nil _ _ _ _, SlcAt.nil _ _ _ _⟩
 ·have hE := HE.out
  simp only [P12.has, hu, if_true, Bool.true_or] at hE
  clear HE
  have HE := Lib.hid hE
  clear hE
  go_at_call 100
  refine (has_yes br r [85, 78, 73, 81, 85, 69] _ F3.rd hu).mono ?_
  rintro e w4 ⟨rfl, ht, hr⟩
  have F4 := F3.step ht hr (P12.keeps_takes r)
  have c4 := F4.cell (o := 8) rfl
  have f4 := F4.free 8
  have hW4 := F4.size
  have F5 := (F4.set 8 (.bool true)).cells (c' := (stmtL 3 [] nilS nilS nilS nilS [] [] true nilS nilS nilS noE nilS nilS noE nilS nilS 0).toArray) rfl
  have c5 := F5.cell (o := 8) rfl
  have hW5 := F5.size
  clear ht hr F3 F4
  go_wp2_with fail
  go_at_call 224
  refine (must_got br [73, 78, 68, 69, 88] (P12.takes r) _ _ (F5.alloc _).rd (cell_at _ _ _ (by rw [World.size_setCell])) (by omega)).mono ?_
  intro e w6 h
  cases hn : P12.must [73, 78, 68, 69, 88] (P12.takes r)
  case error er => exact ste (F5.alloc _).after
  rename_i p
  rw [hn] at h HE
  dsimp only at HE
  rename P12.R => r6
  obtain ⟨rfl, ht, hr, hk⟩ := h
  have F6 := (F5.alloc _).step ht hr hk
  clear ht hr hk
  go_wp2_with fail
  go_at_call 223
  refine (name_any br _ _ F6.rd).mono ?_
  intro e w7 h
  cases hn : P12.name r6
  case error er => exact ste F6.after
  rename_i p
  rw [hn] at h HE
  dsimp only at HE
  obtain ⟨a, r7⟩ := p
  obtain ⟨_, rfl, rfl, ht, hr, hk⟩ := h
  have F7 := F6.step ht hr hk
  have c7 := F7.cell (o := 6) rfl
  have f7 := F7.free 6
  have hW7 := F7.size
  have F8 := (F7.set 6 (bs a)).cells (c' := (stmtL 3 [] nilS nilS nilS nilS a [] true nilS nilS nilS noE nilS nilS noE nilS nilS 0).toArray) rfl
  clear ht hr hk F6 F7
  go_wp2_with fail
  go_at_call 224
  refine (must_got br [79, 78] r7 _ _ (F8.alloc _).rd (cell_at _ _ _ (by rw [World.size_setCell])) (by omega)).mono ?_
  intro e w9 h
  cases hn : P12.must [79, 78] r7
  case error er => exact ste (F8.alloc _).after
  rename_i p
  rw [hn] at h HE
  dsimp only at HE
  rename P12.R => r9
  obtain ⟨rfl, ht, hr, hk⟩ := h
  have F9 := (F8.alloc _).step ht hr hk
  clear ht hr hk F8 c7 f7
  go_wp2_with fail
  go_at_call 223
  refine (name_any br _ _ F9.rd).mono ?_
  intro e w10 h
  cases hn : P12.name r9
  case error er => exact ste F9.after
  rename_i p
  rw [hn] at h HE
  dsimp only at HE
  obtain ⟨b, r10⟩ := p
  obtain ⟨_, rfl, rfl, ht, hr, hk⟩ := h
  have F10 := F9.step ht hr hk
  have c10 := F10.cell (o := 7) rfl
  have f10 := F10.free 7
  have hW10 := F10.size
  have F11 := (F10.set 7 (bs b)).cells (c' := (stmtL 3 [] nilS nilS nilS nilS a b true nilS nilS nilS noE nilS nilS noE nilS nilS 0).toArray) rfl
  clear ht hr hk F9 F10
  go_wp2_with fail
  go_at_call 226
  refine (names_any br _ _ F11.rd).mono ?_
  intro e w12 h
  cases hn : P12.names r10
  case error er => exact ste F11.after
  rename_i p
  rw [hn] at h HE
  dsimp only at HE
  obtain ⟨l, r12⟩ := p
  obtain ⟨_, rfl, ⟨hpos, hs⟩, ht, hr, hk⟩ := h
  obtain ⟨q1, q2, q3, rfl⟩ := slc_one hs
  have F12 := (F11.step ht hr hk).add (stabP_slc stab_str 1 l (.slice q1 q2 q3)) (F11.up (stabP_slc stab_str 1 l (.slice q1 q2 q3)) hs)
  have c12 := F12.cell (o := 9) rfl
  have f12 := F12.free 9
  have F13 := (F12.set 9 (.slice q1 q2 q3)).cells (c' := (stmtL 3 [] nilS nilS nilS nilS a b true (.slice q1 q2 q3) nilS nilS noE nilS nilS noE nilS nilS 0).toArray) rfl
  have hb13 := F13.blk
  have hz13 := F13.zero
  have hW12 := F12.size
  clear ht hr hk F11 c10 f10 hs
  go_wp2_with (first | (refine lw hb13 Tryz.underlying46 ?_) | (refine pw hz13 ?_; intro w14 hp14))
  refine bodyPost_ret (results_row (fn := Tryz.f179) rfl rfl hp14.blk Tryz.underlying46 rfl (by kernel_rfl)) rfl ?_
  have hE := HE.out
  subst hE
  refine Fz.finish F13 hp14 (fun ⟨_, hcl⟩ => ?_)
  exact ⟨nilS, nilS, nilS, nilS, _, nilS, nilS, noE, nilS, nilS, noE, nilS, nilS, rfl, SlcAt.nil _ _ _ _, SlcAt.nil _ _ _ _, SlcAt.nil _ _ _ _, SlcAt.nil _ _ _ _, hcl, SlcAt.nil _ _ _ _, SlcAt.nil _ _ _ _, rfl, SlcAt.nil _ _ _ _, SlcAt.nil _ _ _ _, rfl, SlcAt.nil _ _ _ _, SlcAt.nil _ _ _ _⟩
theorem tab0 {gx gm : Nat} {a : P12.T} {w : World} (hb : w.heap[gx]? = some (.cells (tabL a nilS nilS nilS nilS) 46)) (h : gx < gm) (hs : gm + 1 ≤ w.heap.size) : TabAt (gm + 1) gx 0 { name := a } [] w :=
 ⟨fun _ => 9, nilS, nilS, nilS, nilS, ⟨hb, Own.nil, Own.nil, Own.nil, Own.nil, by omega, hs⟩, fun _ => rfl⟩
theorem Kept.at_end3 {br gx gm B : Nat} {w0 w w' : World} (h : Kept B [br, gx, gm] w w') (ht : Turn br w0 w) (hB : w0.heap.size ≤ B) (h1 : w0.heap.size ≤ gx) (h2 : w0.heap.size ≤ gm) : Turn br w0 w' := by
 obtain ⟨a1, a2, a3, a4, a5⟩ := ht
 refine ⟨h.os.trans a1, h.tape.trans a2, h.output.trans a3, Nat.le_trans a4 h.size, fun b hb => ?_⟩
 by_cases hbr : b = br
 ·exact .inr ⟨(br, fun _ => True), by simp, hbr.symm, trivial⟩
 ·rw [h.block b (by omega) (by omega) (by simp; omega)]
  exact a5 b hb
theorem P12.parts_eq {f : Nat} {t : P12.Tb} {k : List (List P12.T)} {n : Nat} {r : P12.R} : P12.partsF (f + 1) t k n r = match P12.part t k n r with
  | .error e => .error e
  | .ok ((t, k, n), r) => if P12.isT [44] r then P12.partsF f t k n (P12.takes r) else .ok ((t, k), r) := by
 rw [P12.partsF]; rfl
theorem create_tab {Q : P12.R → Prop} (hQ : ConQ Q) (br : Nat) (r : P12.R) (w : World) (h : Rd br r w) (hq : Q r) (hj : P12.isT [84, 65, 66, 76, 69] r = true) : Calls Tryz.prog 179 #[rp br] w (Got br w r (StmtV w) (P12.create r)) := by
 have HR := Lib.hid h
 have lr := h.lt
 clear h
 generalize hres : P12.create r = res
 have hE := hres
 simp only [P12.create, bind, Except.bind, pure, Except.pure] at hE
 have HE := Lib.hid hE
 clear hE hres
 have HM := Lib.hid fun W => made_any 1 W
 rw [if_neg (by decide)] at HM
 have hE := HE.out
 rw [hj] at hE
 simp only [if_true] at hE
 clear HE
 have HE := Lib.hid hE
 clear hE
 have hnot := notrun
 go_enter Tryz.func179, Tryz.ntmps179
 go_wp2_with fail
 go_at_call 100
 refine (has_yes br r [84, 65, 66, 76, 69] _ (HR.out.alloc _) hj).mono ?_
 rintro e w1 ⟨rfl, ht1, hr1⟩
 go_wp2_with fail
 go_at_call 186
 refine (HM.out _).mono ?_
 rintro e w2 ⟨rfl, hx2⟩
 have ht12 := Turn.trans ht1 (Turn.of_ext hx2)
 have hr2 := hr1.ext hx2
 go_wp2_with ((refine pw (heap_new w2 _) ?_; intro w3 hp3); have F3 := (Fz.start (wm := w2) HR.out ht12 hr2 (P12.keeps_takes r) hp3).cells (c' := (stmtL 1 [] nilS nilS nilS nilS [] [] false nilS nilS nilS noE nilS nilS noE nilS nilS 0).toArray) rfl)
 have hzx := F3.zx
 clear hp3 ht1 hr1 hx2 ht12 hr2
 go_at_call 223
 refine (name_any br _ _ F3.rd).mono ?_
 intro e w4 h
 cases hn : P12.name (P12.takes r)
 case error er => exact ste F3.after
 rename_i p
 rw [hn] at h HE
 dsimp only at HE
 obtain ⟨a, r4⟩ := p
 obtain ⟨_, rfl, rfl, ht, hr, hk⟩ := h
 have F4 := F3.step ht hr hk
 have c4 := F4.cell (o := 1) rfl
 have f4 := F4.free 1
 have hW4 := F4.size
 have F5 := (F4.set 1 (bs a)).cells (c' := tabL a nilS nilS nilS nilS) rfl
 clear ht hr hk F3 F4
 go_wp2_with fail
 go_at_call 224
 refine (must_got br [40] r4 _ _ (F5.alloc _).rd (cell_at _ _ _ (by rw [World.size_setCell])) (by omega)).mono ?_
 intro e w6 h
 cases hn : P12.must [40] r4
 case error er => exact ste (F5.alloc _).after
 rename_i p
 rw [hn] at h HE
 dsimp only at HE
 rename P12.R => r6
 obtain ⟨rfl, ht, hr, hk⟩ := h
 have F6 := (F5.alloc _).step ht hr hk
 have hW6 := F6.size
 clear ht hr hk F5 c4 f4
 have hbm : ∀ (W : World), (Instr.build 252 #[(0, rp br), (2, Value.int .i64 16)]).run Tryz.prog W = .ok (.agg #[rp br, .int .i64 0, .int .i64 16]) W := fun W => by kernel_rfl
 go_wp2_with fail
 have hz7 := (F6.alloc (.cells #[rp br, .int .i64 0, .int .i64 16] 252)).zero
 have hT7 := (F6.alloc (.cells #[rp br, .int .i64 0, .int .i64 16] 252)).turn
 have hk7 := F6.keeps
 have hR7 := (F6.alloc (.cells #[rp br, .int .i64 0, .int .i64 16] 252)).rd
 have hM7 := heap_new w6 (.cells #[rp br, .int .i64 0, .int .i64 16] 252)
 have hS7 : w6.heap.size + 1 ≤ (w6.alloc (.cells #[rp br, .int .i64 0, .int .i64 16] 252)).heap.size := by rw [World.size_alloc]; omega
 have hA7 := tab0 (F6.alloc (.cells #[rp br, .int .i64 0, .int .i64 16] 252)).blk hW6 hS7
 have hgw := F6.gzge
 clear F6
 generalize (w6.alloc (.cells #[rp br, .int .i64 0, .int .i64 16] 252)) = w7 at *
 generalize w6.heap.size = gm at *
 generalize w2.heap.size = gx at *
 have hE := HE.out
 obtain ⟨resP, hRP⟩ : ∃ x, P12.partsF r6.l.length { name := a } [] 0 r6 = x := ⟨_, rfl⟩
 rw [hRP] at hE
 clear HE
 have HE := Lib.hid hE
 have HRP := Lib.hid hRP
 clear hE hRP
 go_loopw [24] (fun _ wr => ∃ (t' : P12.Tb) (k' : List (List P12.T)) (n' : Nat) (r' : P12.R) (f : Nat), Rd br r' wr ∧ TabAt (gm + 1) gx 0 t' k' wr ∧ wr.heap[gm]? = some (manyO br n' 16) ∧ Kept (gm + 1) [br, gx, gm] w7 wr ∧ P12.Keeps r6 r' ∧ P12.Small t' k' n' ∧ r'.l.length ≤ f ∧ P12.partsF f t' k' n' r' = resP) (fun _ wr => rdLen br wr)
 case atStart => exact ⟨{ name := a }, [], 0, r6, r6.l.length, hR7, hA7, hM7, Kept.refl _ _ _, P12.Keeps.refl _, ⟨by simp, rfl, by omega⟩, Nat.le_refl _, HRP.out⟩
 case round =>
  obtain ⟨t', k', n', r', f, hR, hA, hM, hK, hkr, hsm, hf, hres⟩ := hrel
  have hpos := hR.good.pos
  have hlen := hR.len
  obtain ⟨f, rfl⟩ : ∃ j, f = j + 1 := ⟨f - 1, by omega⟩
  rw [P12.parts_eq] at hres
  have HRS := Lib.hid hres
  clear hres hR7 hA7 hM7 HRP
  go_wp2_with fail
  go_at_call 225
  refine (part_q hQ br gx gm (gm + 1) n' t' k' r' wr hR hA hM (by omega) (by omega) (by omega) (by omega) hsm (hQ.keep _ _ hq (hk7.trans hkr))).mono ?_
  intro e w8 h
  cases hn : P12.part t' k' n' r' with
  | error er =>
   rw [hn] at h
   obtain ⟨rfl, hk⟩ := h
   simp only [faults]
   go_wp2
   have hE := HE.out
   rw [← HRS.out, hn] at hE
   dsimp only at hE
   subst hE
   exact ⟨rfl, rfl, Kept.at_end3 (hK.trans hk) hT7 (by omega) (by omega) (by omega)⟩
  | ok p =>
   obtain ⟨⟨t8, k8, n8⟩, r8⟩ := p
   rw [hn] at h
   obtain ⟨rfl, hA8, hM8, hR8, hkk, hk8, hsm8⟩ := h
   have hRS := HRS.out
   rw [hn] at hRS
   dsimp only at hRS
   have hK8 := hK.trans hk8
   have hkr8 := hkr.trans ((P12.keeps_takes r').trans hkk)
   have hle8 := ((P12.keeps_takes r').trans hkk).le
   clear hA hM hK hk8 hR HRS
   go_wp2_with fail
   go_at_call 100
   cases hc : P12.isT [44] r8
   ·refine (has_no br r8 [44] _ hR8 hc).mono ?_
    rintro e w9 ⟨rfl, hx9⟩
    rw [hc] at hRS
    simp only [Bool.false_eq_true, if_false] at hRS
    have hE := HE.out
    rw [← hRS] at hE
    dsimp only at hE
    clear HE hRS
    have HE := Lib.hid hE
    clear hE
    have hR9 := hR8.ext hx9
    have hA9 := hA8.ext hx9
    have hK9 := hK8.trans (Kept.of_ext hx9)
    have hl9 := hx9.size
    have hS9 := hA9.bounds.2
    clear hR8 hA8 hM8 hK8 hx9
    go_wp2_with fail
    go_at_call 224
    refine (must_got br [41] r8 _ _ (hR9.alloc _) (cell_at _ _ _ rfl) (by omega)).mono ?_
    intro e w10 h
    cases hn : P12.must [41] r8
    case error er =>
     rw [hn] at h
     have hE := HE.out
     rw [hn] at hE
     dsimp only at hE
     subst hE
     obtain ⟨rfl, ht⟩ := h
     simp only [faults]
     go_wp2
     exact ⟨rfl, rfl, Kept.at_end3 (hK9.trans ((Kept.of_ext ((Below.refl _ _).alloc (Nat.le_refl _) _)).trans (Kept.of_turn ht (by simp)))) hT7 (by omega) (by omega) (by omega)⟩
    rename_i p
    rw [hn] at h HE
    dsimp only at HE
    rename P12.R => r10
    obtain ⟨rfl, ht, hr10, hk10⟩ := h
    have hA10 := (hA9.ext (show Xk.Ext w9 (w9.alloc (.cells #[bs [41]] 9)) from (Below.refl _ _).alloc (Nat.le_refl _) _)).turn ht (by omega)
    have hK10 := hK9.trans ((Kept.of_ext (show Xk.Ext w9 (w9.alloc (.cells #[bs [41]] 9)) from (Below.refl _ _).alloc (Nat.le_refl _) _)).trans (Kept.of_turn ht (by simp)))
    have hz10 := hK10.held hz7 (by omega) (by simp; omega)
    obtain ⟨tc, tk, tq, kc, hb10, s1, s2, s3, s4⟩ := hA10.stmt (S := fun b => gm + 1 ≤ b) (fun b hb => hb)
    obtain ⟨x1, x2, x3, rfl⟩ := slc_one s1
    obtain ⟨y1, y2, y3, rfl⟩ := slc_one s2
    obtain ⟨z1, z2, z3, rfl⟩ := slc_one s3
    obtain ⟨v1, v2, v3, rfl⟩ := slc_one s4
    have hSI : StmtIn (fun b => gm + 1 ≤ b) w10 { P12.made 1 with tb := t8, keyCols := k8 } (stmtL 1 t8.name (.slice x1 x2 x3) (.slice y1 y2 y3) (.slice z1 z2 z3) (.slice v1 v2 v3) [] [] false nilS nilS nilS noE nilS nilS noE nilS nilS 0) :=
     ⟨_, _, _, _, nilS, nilS, nilS, noE, nilS, nilS, noE, nilS, nilS, rfl, s1, s2, s3, s4, SlcAt.nil _ _ _ _, SlcAt.nil _ _ _ _, SlcAt.nil _ _ _ _, rfl, SlcAt.nil _ _ _ _, SlcAt.nil _ _ _ _, rfl, SlcAt.nil _ _ _ _, SlcAt.nil _ _ _ _⟩
    have HSI := Lib.hid hSI
    have hTk := Kept.at_end3 hK10 hT7 (by omega) (by omega) (by omega)
    have HTK := Lib.hid hTk
    clear ht hR9 hA9 hK9 hA10 s1 s2 s3 s4 hSI hTk
    go_wp2_with (first | (refine lw hb10 Tryz.underlying46 ?_) | (refine pw hz10 ?_; intro w11 hp11))
    refine bodyPost_ret (results_row (fn := Tryz.f179) rfl rfl hp11.blk Tryz.underlying46 rfl (by kernel_rfl)) rfl ?_
    have hE := HE.out
    subst hE
    exact ⟨_, rfl, ⟨_, rfl, HSI.out.keep (fun b hb _ => hp11.rest b (by omega)) (fun b hb _ => by omega)⟩, Puts.turn hp11 HTK.out (Nat.le_refl _), Puts.rd hp11 hr10 (by omega), hk7.trans (hkr8.trans hk10)⟩
   ·refine (has_yes br r8 [44] _ hR8 hc).mono ?_
    rintro e w9 ⟨rfl, ht9, hr9⟩
    rw [hc] at hRS
    simp only [if_true] at hRS
    have hlt9 := P12.takes_lt hR8.good (P12.isT_kind hc)
    have hl9 := hr9.len
    go_wp2_with fail
    go_roundw
    case rel => exact ⟨t8, k8, n8, P12.takes r8, f, hr9, hA8.turn ht9 (by omega), ht9.held hM8 (by omega), hK8.trans (Kept.of_turn ht9 (by simp)), hkr8.trans (P12.keeps_takes r8), hsm8, by omega, hRS⟩
    case measure => rw [hl9, hlen]; omega
theorem create_q {Q : P12.R → Prop} (hQ : ConQ Q) (br : Nat) (r : P12.R) (w : World) (h : Rd br r w) (hq : Q r) : Calls Tryz.prog 179 #[rp br] w (Got br w r (StmtV w) (P12.create r)) := by
 cases hj : P12.isT [84, 65, 66, 76, 69] r
 ·exact create_idx br r w h hj
 ·exact create_tab hQ br r w h hq hj
end Go.Proofs.YtlpcdpkgnfdpeaaGreatDoor
namespace Go.Proofs.YtlpcdpkgnfdpeaaGreatDoor
open Go.RowKit Go.WideMaps Go.Maps
open Classical in
noncomputable def methE (br : Nat) : Value → Option (DataW Unit × List MemPlace) := fun v =>
 if h : ∃ f : Nat, v = .func (.func f) #[rp br] #[] then some (.lit (.int .i64 (h.choose : Nat)), []) else if v = .nilFunc then some (.lit (.int .i64 (-1)), []) else none
theorem methE_some (br f : Nat) : methE br (.func (.func f) #[rp br] #[]) = some (.lit (.int .i64 f), []) := by
 unfold methE
 have h : ∃ g : Nat, Value.func (.func f) #[rp br] #[] = .func (.func g) #[rp br] #[] := ⟨f, rfl⟩
 rw [dif_pos h]
 have e : f = h.choose := Fn.func.inj (Value.func.inj h.choose_spec).1
 exact congrArg (fun g : Nat => some (DataW.lit (Lit.int .i64 (g : Int)), ([] : List MemPlace))) e.symm
theorem methE_nil (br : Nat) : methE br .nilFunc = some (.lit (.int .i64 (-1)), []) := by
 unfold methE
 rw [dif_neg (fun ⟨_, h⟩ => by cases h), if_pos rfl]
theorem methE_inv {br : Nat} {v : Value} {y : DataW Unit × List MemPlace} (h : methE br v = some y) : (∃ f : Nat, v = .func (.func f) #[rp br] #[] ∧ y.1 = .lit (.int .i64 f)) ∨ (v = .nilFunc ∧ y.1 = .lit (.int .i64 (-1))) := by
 unfold methE at h
 split at h
 ·rename_i hh
  cases h
  exact .inl ⟨hh.choose, hh.choose_spec, rfl⟩
 ·split at h
  ·rename_i hv
   cases h
   exact .inr ⟨hv, rfl⟩
  ·cases h
theorem dR_atd (s : P12.T) (d : Int) : ∀ l, (dR l).atKey (.string s) (.lit (.int .i64 d)) = .lit (.int .i64 (((l.find? fun x => x.1 == s).map (·.2)).getD d))
 | [] => rfl
 | x :: l => by
  rw [dR, List.find?_cons]
  by_cases h : x.1 = s
  ·subst h
   rw [atKey_put_same (dR_map l) (by trivial)]
   simp
  ·rw [atKey_put_other (by intro e; cases e; exact h rfl), dR_atd s d l, show (x.1 == s) = false by simpa using h]
abbrev mapF (br : Nat) (w : World) (b n : Nat) (D : DataW Unit) : Prop := w.ownsMap Tryz.prog 9 (methE br) b n D
theorem zeroF (w : World) : (zeroValue 80).run Tryz.prog w = .ok .nilFunc w := by kernel_rfl
theorem lay_f {br : Nat} {w : World} {b n : Nat} {l : List (P12.T × Int)} (h : mapF br w b n (dR l)) (hn : n ≤ 100) (s : P12.T) (f : Nat) (hs : s.length ≤ 100) :
  ∃ w', (Instr.mapUpdate 215 (.map (some b)) (.string ⟨s.toArray⟩) (.func (.func f) #[rp br] #[])).run Tryz.prog w = .ok () w' ∧ mapF br w' b (n + 1) (dR ((s, (f : Int)) :: l)) ∧ w.grownBy w' (some b) := by
 have hkey : keyOf Tryz.prog 9 (.string ⟨s.toArray⟩) = some (.string s) := by
  have := keyOf_string_mk Tryz.underlying9 (s := ⟨s.toArray⟩) (by show s.length ≤ _; unfold maxLen; omega)
  simpa using this
 exact h.update lawS Tryz.underlying215 (by unfold maxLen; omega) hkey (methE_some br f)
theorem look_f {br : Nat} {w : World} {b n : Nat} {l : List (P12.T × Int)} (h : mapF br w b n (dR l)) (s : P12.T) (hs : s.length ≤ 100000) :
  ∃ v, (Instr.lookup 215 (.map (some b)) (.string ⟨s.toArray⟩) true).run Tryz.prog w = .ok (.tuple #[v, .bool (l.find? fun x => x.1 == s).isSome]) w ∧ ∀ f : Nat, ((l.find? fun x => x.1 == s).map (·.2)) = some (f : Int) → v = .func (.func f) #[rp br] #[] := by
 have hkey : keyOf Tryz.prog 9 (.string ⟨s.toArray⟩) = some (.string s) := by
  have := keyOf_string_mk Tryz.underlying9 (s := ⟨s.toArray⟩) (by show s.length ≤ _; unfold maxLen; omega)
  simpa using this
 obtain ⟨v, ps, hr, hv⟩ := h.look_ok lawS Tryz.underlying215 (zeroF _) (methE_nil br) hkey
 rw [dR_has] at hr
 refine ⟨v, hr, fun f hf => ?_⟩
 rw [dR_atd] at hv
 rw [hf] at hv
 rcases methE_inv hv with ⟨g, rfl, hg⟩ | ⟨rfl, hg⟩
 ·have h1 := DataW.lit.inj hg
  have h2 := (Lit.int.inj h1).2
  simp only [Option.getD_some] at h2
  rw [show f = g by omega]
 ·have h1 := DataW.lit.inj hg
  have h2 := (Lit.int.inj h1).2
  simp only [Option.getD_some] at h2
  omega
def stL : List (P12.T × Int) := [([83, 69, 76, 69, 67, 84], ((184 : Nat) : Int)), ([68, 69, 76, 69, 84, 69], ((183 : Nat) : Int)), ([85, 80, 68, 65, 84, 69], ((182 : Nat) : Int)), ([73, 78, 83, 69, 82, 84], ((181 : Nat) : Int)), ([68, 82, 79, 80], ((180 : Nat) : Int)), ([67, 82, 69, 65, 84, 69], ((179 : Nat) : Int))]
theorem meth_map (br : Nat) (w : World) : ∃ w1 w2 w3 w4 w5 w6 : World, (Instr.mapUpdate 215 (.map (some w.heap.size)) (.string ⟨[67, 82, 69, 65, 84, 69].toArray⟩) (.func (.func 179) #[rp br] #[])).run Tryz.prog (w.alloc (.map #[] 0)) = .ok () w1 ∧ (Instr.mapUpdate 215 (.map (some w.heap.size)) (.string ⟨[68, 82, 79, 80].toArray⟩) (.func (.func 180) #[rp br] #[])).run Tryz.prog (w1) = .ok () w2 ∧ (Instr.mapUpdate 215 (.map (some w.heap.size)) (.string ⟨[73, 78, 83, 69, 82, 84].toArray⟩) (.func (.func 181) #[rp br] #[])).run Tryz.prog (w2) = .ok () w3 ∧ (Instr.mapUpdate 215 (.map (some w.heap.size)) (.string ⟨[85, 80, 68, 65, 84, 69].toArray⟩) (.func (.func 182) #[rp br] #[])).run Tryz.prog (w3) = .ok () w4 ∧ (Instr.mapUpdate 215 (.map (some w.heap.size)) (.string ⟨[68, 69, 76, 69, 84, 69].toArray⟩) (.func (.func 183) #[rp br] #[])).run Tryz.prog (w4) = .ok () w5 ∧ (Instr.mapUpdate 215 (.map (some w.heap.size)) (.string ⟨[83, 69, 76, 69, 67, 84].toArray⟩) (.func (.func 184) #[rp br] #[])).run Tryz.prog (w5) = .ok () w6 ∧ mapF br w6 w.heap.size 6 (dR stL) ∧ Xk.Ext w w6 := by
 have o0 : mapF br (w.alloc (.map #[] 0)) w.heap.size 0 (dR []) := World.ownsMap_made _ _ _ _
 have x0 : Below w.heap.size w (w.alloc (.map #[] 0)) := (Below.refl _ _).alloc (Nat.le_refl _) _
 obtain ⟨w1, h1, o1, g1⟩ := lay_f o0 (by decide) [67, 82, 69, 65, 84, 69] 179 (by decide)
 have x1 := ext_of_grown x0 x0.size g1
 obtain ⟨w2, h2, o2, g2⟩ := lay_f o1 (by decide) [68, 82, 79, 80] 180 (by decide)
 have x2 := ext_of_grown x1 x1.size g2
 obtain ⟨w3, h3, o3, g3⟩ := lay_f o2 (by decide) [73, 78, 83, 69, 82, 84] 181 (by decide)
 have x3 := ext_of_grown x2 x2.size g3
 obtain ⟨w4, h4, o4, g4⟩ := lay_f o3 (by decide) [85, 80, 68, 65, 84, 69] 182 (by decide)
 have x4 := ext_of_grown x3 x3.size g4
 obtain ⟨w5, h5, o5, g5⟩ := lay_f o4 (by decide) [68, 69, 76, 69, 84, 69] 183 (by decide)
 have x5 := ext_of_grown x4 x4.size g5
 obtain ⟨w6, h6, o6, g6⟩ := lay_f o5 (by decide) [83, 69, 76, 69, 67, 84] 184 (by decide)
 have x6 := ext_of_grown x5 x5.size g6
 exact ⟨w1, w2, w3, w4, w5, w6, h1, h2, h3, h4, h5, h6, o6, x6⟩
end Go.Proofs.YtlpcdpkgnfdpeaaGreatDoor
namespace P12
theorem stmt_create {r : R} (h : (nxt r).kind = 2) (ht : (nxt r).text = [67, 82, 69, 65, 84, 69]) : statement r = create (takes r) := by simp [statement, isT, h, ht]
end P12
namespace Go.Proofs.YtlpcdpkgnfdpeaaGreatDoor
open Go.RowKit Go.WideMaps Go.Maps
theorem grown_of_ext {w w' : World} (h : Xk.Ext w w') : w.grownBy w' none :=
 let t : Turn 0 w w' := Turn.of_ext h
 ⟨t.1, t.2.1, t.2.2.1, h.size, fun x h2 _ => h.block x h2⟩
theorem slc_cell {α : Type} {S : Nat → Prop} {w : World} {sz : Nat} {R : α → List Value → Prop} {l : List α} {v : Value} (h : SlcAt S w sz R l v) : v.oneCell' = true := by
 obtain ⟨a, b, c, rfl⟩ := slc_one h
 rfl
theorem StmtIn.one {S : Nat → Prop} {w : World} {x : P12.St} {l : List Value} (h : StmtIn S w x l) : l.toArray.all (·.oneCell') = true := by
 obtain ⟨tc, tk, tq, kc, cols, rows, sets, wh, items, frm, jn, grp, ord, h⟩ := h
 have hw : ∀ u ∈ wh, u.oneCell' = true := by
  obtain ⟨_, _, _, _, _, _, _, _, _, _, e⟩ := h.wh.form
  rw [e]
  intro u hu
  simp only [List.mem_cons, List.not_mem_nil, or_false] at hu
  rcases hu with rfl | rfl | rfl | rfl | rfl | rfl | rfl | rfl | rfl | rfl <;> rfl
 have hj : ∀ u ∈ jn, u.oneCell' = true := by
  obtain ⟨_, _, _, _, _, _, _, _, _, _, e⟩ := h.jn.form
  rw [e]
  intro u hu
  simp only [List.mem_cons, List.not_mem_nil, or_false] at hu
  rcases hu with rfl | rfl | rfl | rfl | rfl | rfl | rfl | rfl | rfl | rfl <;> rfl
 rw [h.form]
 simp only [List.all_toArray, List.all_cons, List.all_append, List.all_nil, slc_cell h.tc, slc_cell h.tk, slc_cell h.tq, slc_cell h.kc, slc_cell h.cols, slc_cell h.rows, slc_cell h.sets, slc_cell h.items, slc_cell h.frm, slc_cell h.grp, slc_cell h.ord, List.all_eq_true.2 hw, List.all_eq_true.2 hj]
 rfl
end Go.Proofs.YtlpcdpkgnfdpeaaGreatDoor
namespace Go.Xe
open Go.RowKit
open Go.Xk
open Go.Proofs.YtlpcdpkgnfdpeaaGreatDoor (puts_set setCells_all)
theorem store_row {P : Program} {o : Oper} {a : Act} {ks : Specs} {w : World} (t : TypeId) (x y : Operand) (ho : o.op = .store t x y) (g : Nat) (c c' : Array Value) (T : TypeId) (hx : a.eval x = .pointer (some ⟨g, 0, none⟩)) (hy : a.eval y = .agg c')
  (hg : w.heap[g]? = some (.cells c T)) (hs : c.size = c'.size) (hi : (P.info? t).map (·.size) = some c'.size) (h1 : c'.all (·.oneCell') = true) (hk : (g, fun o => o = some (.cells c' T)) ∈ ks) : makeRun (ES ks) P o a w none (blockFact g (.cells c' T)) := by
 have ht : w.there g 0 c'.size := fun j hj => by
  rw [Nat.zero_add]
  exact ⟨by simp [World.cell?, hg, show j < c.size by omega], frozen_of_row w g j _ _ hg⟩
 have hp := puts_set hg c'.toList 0
 have hw : (w.setCells g 0 c'.toList).heap[g]? = some (.cells c' T) := by simpa using setCells_all hg c'.toList (by simpa using hs.symm)
 unfold makeRun execOp
 simp only [ho, hx, hy, Instr.storeAt, Instr.sureAddr, Sem.run_bind, Sem.run_pure, Result.andThen_ok, run_storeVar_mid w g 0 t c' ht hi h1]
 refine ⟨⟨hp.os, hp.tape, hp.output, Nat.le_of_eq hp.size.symm, fun b hb => ?_⟩, hw, fun b hb => by cases hb⟩
 by_cases hbg : b = g
 ·subst hbg; exact .inr ⟨_, hk, rfl, hw⟩
 ·exact .inl (hp.rest b hbg)
theorem store1 {ks : Specs} {W : World} {b : Nat} {a0 x : Value} {t : TypeId} (h : W.heap[b]? = some (.cells #[a0] t)) (hk : (b, fun o => o = some (.cells #[x] t)) ∈ ks) :
  newPost (ES ks) W none (blockFact b (.cells #[x] t)) undef (W.setCell ⟨b, 0, none⟩ x) := by
 have h1 : (W.setCell ⟨b, 0, none⟩ x).heap[b]? = some (.cells #[x] t) := by rw [heap_setCell_same W b 0 _ t x h]; rfl
 refine ⟨⟨rfl, rfl, rfl, by simp, fun c hc => ?_⟩, h1, fun c hc => by cases hc⟩
 by_cases hcb : c = b
 ·subst hcb; exact .inr ⟨_, hk, rfl, h1⟩
 ·exact .inl (heap_setCell_other W ⟨b, 0, none⟩ c x (fun e => hcb (by simpa using e)))
end Go.Xe
namespace Go.Proofs.YtlpcdpkgnfdpeaaGreatDoor
open Go.RowKit
def PRes (g : Nat) (l : List Value) (a k : Int) (w : World) : Prop :=
 w.heap[g]? = some (stmtO l) ∧ w.heap[g + 1]? = some (.cells #[.int .i64 a] 3) ∧ w.heap[g + 2]? = some (.cells #[.int .i64 k] 26)
theorem caught (g : Nat) (l : List Value) (hl : l.length = 37) (a0 k0 a k : Int) (w : World) (h : PRes g l a0 k0 w) :
  CallsD Tryz.prog 98 #[.pointer (some ⟨g, 0, none⟩), .pointer (some ⟨g + 1, 0, none⟩), .pointer (some ⟨g + 2, 0, none⟩)] (.panicking [{ v := .iface 150 (.agg #[.int .i64 a, .int .i64 k]), recovered := false }]) w fun e u' w' =>
   e = .returned (.tuple #[]) ∧ u' = .panicking [{ v := .iface 150 (.agg #[.int .i64 a, .int .i64 k]), recovered := true }] ∧ PRes g zero37 a k w' ∧ Kept w.heap.size [g, g + 1, g + 2] w w' := by
 have HP := Lib.hid h
 clear h
 refine callsD_of_wpS Tryz.func98 rfl fun c₀ cs hu => ?_
 apply wpS_seq
 apply wpS_region
 simp [wpOpsS, go_sem, recoverD, hu, Tryz.ntmps98, Exit.thenS]
 refine wpS_of_wp ?_
 have hnot := notrun
 have et : (#[Value.pointer (some ⟨g, 0, none⟩), .pointer (some ⟨g + 1, 0, none⟩), .pointer (some ⟨g + 2, 0, none⟩)] ++ ((Array.replicate 19 undef).setIfInBounds 3 (.iface 150 (.agg #[.int .i64 a, .int .i64 k]))).setIfInBounds 0 (.iface 150 (.agg #[.int .i64 a, .int .i64 k]))) =
  #[.pointer (some ⟨g, 0, none⟩), .pointer (some ⟨g + 1, 0, none⟩), .pointer (some ⟨g + 2, 0, none⟩), .iface 150 (.agg #[.int .i64 a, .int .i64 k]), undef, undef, .iface 150 (.agg #[.int .i64 a, .int .i64 k]), undef, undef, undef, undef, undef, undef, undef, undef, undef, undef, undef, undef, undef, undef, undef] := by kernel_rfl
 rw [et]
 clear et
 have hta : ∀ W : World, (Instr.typeAssert (.iface 150 (.agg #[.int .i64 a, .int .i64 k])) 20 150 true).run Tryz.prog W = .ok (.tuple #[.agg #[.int .i64 a, .int .i64 k], .bool true]) W := fun W => by kernel_rfl
 generalize hQ : (fun (e : Exit) (a' : Act) (w' : World) => bodyPostS Tryz.prog Tryz.f98 c₀ cs _ e a' _ w') = Q
 have HQ := Lib.hid hQ
 clear hQ
 obtain ⟨p0, p1, p2⟩ := HP.out
 have lg := (Array.getElem?_eq_some_iff.1 p2).1
 go_upto_region 5 with fail
 obtain ⟨ks, hks⟩ : ∃ ks : Xe.Specs, ks = [(g, fun o => o = some (stmtO zero37)), (g + 1, fun o => o = some (.cells #[.int .i64 a] 3))] := ⟨_, rfl⟩
 have HKS := Lib.hid hks
 have hkb : ∀ k ∈ ks, k.1 = g ∨ k.1 = g + 1 := fun k hk => by
  rw [hks] at hk
  simp only [List.mem_cons, List.not_mem_nil, or_false] at hk
  rcases hk with rfl | rfl
  ·exact .inl rfl
  ·exact .inr rfl
 have hgt := heap_new w (.cells #[.int .i64 a, .int .i64 k] 150)
 have hxa : Xk.Ext w (w.alloc (.cells #[.int .i64 a, .int .i64 k] 150)) := (Below.refl _ _).alloc (Nat.le_refl _) _
 have q0 := (hxa.block _ (by omega)).trans p0
 have q1 := (hxa.block _ (by omega)).trans p1
 have q2 := (hxa.block _ (by omega)).trans p2
 have hl1 : w.heap.size < (w.alloc (.cells #[.int .i64 a, .int .i64 k] 150)).heap.size := by rw [World.size_alloc]; omega
 have hKa : Kept w.heap.size [g, g + 1, g + 2] w (w.alloc (.cells #[.int .i64 a, .int .i64 k] 150)) := Kept.of_ext hxa
 generalize w.alloc (.cells #[.int .i64 a, .int .i64 k] 150) = w1 at *
 have HF : Hid (∀ W, Xe.ES ks w1.drew W → W.cell? ⟨w.heap.size, 0, none⟩ = some (.int .i64 a) ∧ W.cell? ⟨w.heap.size, 1, none⟩ = some (.int .i64 k) ∧ w.heap.size < W.heap.size) := Lib.hid fun W hx => by
  have hb := (hx.block (w := w1.drew) (by simpa using hl1) (fun k hk e => by rcases hkb k hk with h | h <;> omega)).trans hgt
  exact ⟨by simp [World.cell?, hb], by simp [World.cell?, hb], (Array.getElem?_eq_some_iff.1 hb).1⟩
 have HG0 : Hid (∀ W, Xe.ES ks w1.drew W → ∃ c : Array Value, W.heap[g]? = some (.cells c 46) ∧ c.size = 37) := Lib.hid fun W hx => by
  rcases hx.2.2.2.2 g (by simp; omega) with e | ⟨k, hk, e1, e2⟩
  ·exact ⟨_, e.trans q0, by simp [hl]⟩
  ·rw [hks] at hk
   simp only [List.mem_cons, List.not_mem_nil, or_false] at hk
   rcases hk with rfl | rfl
   ·exact ⟨_, e2, rfl⟩
   ·simp at e1
 have HG1 : Hid (∀ W, Xe.ES ks w1.drew W → ∃ a0, W.heap[g + 1]? = some (.cells #[a0] 3)) := Lib.hid fun W hx => by
  rcases hx.2.2.2.2 (g + 1) (by simp; omega) with e | ⟨k, hk, e1, e2⟩
  ·exact ⟨_, e.trans q1⟩
  ·rw [hks] at hk
   simp only [List.mem_cons, List.not_mem_nil, or_false] at hk
   rcases hk with rfl | rfl
   ·simp at e1
   ·exact ⟨_, e2⟩
 have hbz : ∀ W : World, (Instr.build 46 #[]).run Tryz.prog W = .ok (.agg zero37.toArray) W := fun W => by kernel_rfl
 clear hks q0 q1 hgt p0 p1 p2 hta hnot
 refine Xe.wp_region_rel (E := Xe.ES ks) (Xe.pre_ES _) 7 (fun _ => none) (fun _ _ h => by cases h) (fun _ _ _ _ h => by cases h) [(5, Xe.blockFact g (stmtO zero37)), (6, Xe.blockFact (g + 1) (.cells #[.int .i64 a] 3))] (by kernel_rfl) (by kernel_rfl) (Xe.stable_es (by
   intro y hy
   simp only [List.mem_cons, List.not_mem_nil, or_false] at hy
   rcases hy with rfl | rfl
   ·exact Xe.blockFact.es fun k hk e => by
     rw [HKS.out] at hk
     simp only [List.mem_cons, List.not_mem_nil, or_false] at hk
     rcases hk with rfl | rfl
     ·rfl
     ·simp at e
   ·exact Xe.blockFact.es fun k hk e => by
     rw [HKS.out] at hk
     simp only [List.mem_cons, List.not_mem_nil, or_false] at hk
     rcases hk with rfl | rfl
     ·simp at e
     ·rfl)) ?_
 simp only [List.take_succ_cons, List.take_zero, List.drop_succ_cons, List.drop_zero]
 (refine Xs.s3 HF.out ?_)
 (refine Xs.s3 HF.out ?_)
 (refine Xs.s3 HF.out ?_)
 (refine Xs.s3 HF.out ?_)
 (refine Xs.s3 HF.out ?_)
 refine Xe.rel_make (Xe.pre_ES _) (by rfl) (by rfl) (fun W hx hp => ?_) (fun y K hK => ?_)
 ·obtain ⟨c, hc, hcs⟩ := HG0.out W hx
  exact Xe.store_row _ _ _ rfl g c zero37.toArray _ rfl rfl hc (by rw [hcs]; rfl) (by kernel_rfl) (by kernel_rfl) (by rw [HKS.out]; exact List.mem_cons_self ..)
 go_simp
 refine hK _ ?_
 clear hK K
 refine Xe.rel_make (Xe.pre_ES _) (by rfl) (by rfl) (fun W hx hp => ?_) (fun y2 K hK => ?_)
 ·obtain ⟨a0, hc⟩ := HG1.out W hx
  have c1 : W.cell? ⟨g + 1, 0, none⟩ = some a0 := by simp [World.cell?, hc]
  have f1 := frozen_of_row W (g + 1) 0 _ _ hc
  have l1 := (Array.getElem?_eq_some_iff.1 hc).1
  go_simp
  exact Xe.store1 hc (by rw [HKS.out]; simp)
 go_simp
 refine hK _ ?_
 clear hK K
 refine Xe.rel_nil (fun W hx hp hg => ?_)
 simp only [Xk.factsAll] at hp
 obtain ⟨r1, r0, -⟩ := hp
 have r2 := (hx.block (w := w1.drew) (b := g + 2) (by simp; omega) (fun k hk e => by rcases hkb k hk with h | h <;> omega)).trans q2
 have hKW : Kept w.heap.size [g, g + 1, g + 2] w W := hKa.trans ⟨hx.1, hx.2.1, hx.2.2.1, hx.2.2.2.1, fun b _ h2 h3 => hx.block (w := w1.drew) h2 (fun k hk e => h3 (by rcases hkb k hk with h | h <;> simp [← e, h]))⟩
 have c2 : W.cell? ⟨g + 2, 0, none⟩ = some (.int .i64 k0) := by simp [World.cell?, r2]
 have f2 := frozen_of_row W (g + 2) 0 _ _ r2
 have l2 := (Array.getElem?_eq_some_iff.1 r2).1
 have HR0 := Lib.hid (show W.heap[g]? = some (stmtO zero37) from r0)
 have HR1 := Lib.hid (show W.heap[g + 1]? = some (.cells #[.int .i64 a] 3) from r1)
 have HR2 := Lib.hid r2
 have HKW := Lib.hid hKW
 clear r0 r1 r2 hx hKW hg
 go_wp2_with fail
 rw [← HQ.out]
 have hR : PRes g zero37 a k (W.setCell ⟨g + 2, 0, none⟩ (.int .i64 k)) :=
  ⟨(heap_setCell_other W ⟨g + 2, 0, none⟩ g _ (by simp)).trans HR0.out, (heap_setCell_other W ⟨g + 2, 0, none⟩ (g + 1) _ (by simp)).trans HR1.out, by rw [heap_setCell_same W (g + 2) 0 _ _ _ HR2.out]; rfl⟩
 have hK : Kept w.heap.size [g, g + 1, g + 2] w (W.setCell ⟨g + 2, 0, none⟩ (.int .i64 k)) := HKW.out.setCell (.inr (.inl (by simp))) _ _
 simp [bodyPostS, results, Tryz.results98]
 exact ⟨hR, hK⟩
theorem idle (g : Nat) (w : World) :
  CallsD Tryz.prog 98 #[.pointer (some ⟨g, 0, none⟩), .pointer (some ⟨g + 1, 0, none⟩), .pointer (some ⟨g + 2, 0, none⟩)] .returning w fun e u' w' => e = .returned (.tuple #[]) ∧ u' = .returning ∧ w' = w := by
 refine callsD_of_wpS Tryz.func98 rfl fun c₀ cs hu => ?_
 apply wpS_seq
 apply wpS_region
 simp [wpOpsS, go_sem, recoverD, hu, Tryz.ntmps98, Exit.thenS]
 refine wpS_of_wp ?_
 have et : (#[Value.pointer (some ⟨g, 0, none⟩), .pointer (some ⟨g + 1, 0, none⟩), .pointer (some ⟨g + 2, 0, none⟩)] ++ ((Array.replicate 19 undef).setIfInBounds 3 .nilIface).setIfInBounds 0 .nilIface) =
  #[.pointer (some ⟨g, 0, none⟩), .pointer (some ⟨g + 1, 0, none⟩), .pointer (some ⟨g + 2, 0, none⟩), .nilIface, undef, undef, .nilIface, undef, undef, undef, undef, undef, undef, undef, undef, undef, undef, undef, undef, undef, undef, undef] := by kernel_rfl
 rw [et]
 clear et
 generalize hQ : (fun (e : Exit) (a' : Act) (w' : World) => bodyPostS Tryz.prog Tryz.f98 c₀ cs _ e a' _ w') = Q
 have HQ := Lib.hid hQ
 clear hQ
 go_wp2_with fail
 rw [← HQ.out]
 simp [bodyPostS, results, Tryz.results98, hu]
 cases c₀
 simp_all
theorem results_three {tmps : Array Value} {w : World} {g : Nat} {l : List Value} {a k : Int} (hl : l.length = 37) (h0 : tmps.getD 2 undef = .pointer (some ⟨g, 0, none⟩)) (h1 : tmps.getD 3 undef = .pointer (some ⟨g + 1, 0, none⟩)) (h2 : tmps.getD 4 undef = .pointer (some ⟨g + 2, 0, none⟩)) (h : PRes g l a k w) :
  (results Tryz.f37 tmps).run Tryz.prog w = .ok (.tuple #[.agg l.toArray, .int .i64 a, .int .i64 k]) w := by
 obtain ⟨p0, p1, p2⟩ := h
 have e0 := run_loadVar_row (P := Tryz.prog) w g 46 46 l.toArray (0, 0) _ p0 Tryz.underlying46 rfl (by simp only [List.size_toArray, hl]; kernel_rfl)
 have e1 : w.cell? ⟨g + 1, 0, none⟩ = some (.int .i64 a) := by simp [World.cell?, p1]
 have e2 : w.cell? ⟨g + 2, 0, none⟩ = some (.int .i64 k) := by simp [World.cell?, p2]
 simp only [Array.getD_eq_getD_getElem?] at h0 h1 h2
 have e3 : (loadVar 3 ⟨g + 1, 0, none⟩).run Tryz.prog w = .ok (.int .i64 a) w := by simp [go_sem, e1]
 have e4 : (loadVar 26 ⟨g + 2, 0, none⟩).run Tryz.prog w = .ok (.int .i64 k) w := by simp [go_sem, e2]
 simp [results, Tryz.results37, h0, h1, h2, asAddr, e0, e3, e4]
def EnvP (w : World) : Prop := ∃ tp p, w.cell? ⟨8, 0, none⟩ = some (.iface tp p)
theorem EnvP.ext {w w' : World} (h : EnvP w) (hx : Xk.Ext w w') : EnvP w' := by
 obtain ⟨tp, p, hc⟩ := h
 exact ⟨tp, p, Xk.ext_cell hx hc⟩
theorem ext_turn {br : Nat} {w w5 w6 : World} (hx : Xk.Ext w w5) (ht : Turn br w5 w6) (hb : w.heap.size ≤ br) : Xk.Ext w w6 :=
 ⟨ht.1.trans hx.os, ht.2.1.trans hx.tape, ht.2.2.1.trans hx.output, Nat.le_trans hx.size ht.size, fun k hk => (ht.block (Nat.lt_of_lt_of_le hk hx.size) (by omega)).trans (hx.block k hk)⟩
theorem ext_kept {B : Nat} {ks : List Nat} {w w6 w7 : World} (hx : Xk.Ext w w6) (h : Kept B ks w6 w7) (hB : w.heap.size ≤ B) (hk : ∀ k ∈ ks, w.heap.size ≤ k) : Xk.Ext w w7 :=
 ⟨h.os.trans hx.os, h.tape.trans hx.tape, h.output.trans hx.output, Nat.le_trans hx.size h.size, fun k hk' => (h.block k (by omega) (Nat.lt_of_lt_of_le hk' hx.size) (fun e => by have := hk k e; omega)).trans (hx.block k hk')⟩
theorem ext_puts {g : Nat} {c : Array Value} {T : TypeId} {w w6 w7 : World} (hx : Xk.Ext w w6) (h : Puts g c T w6 w7) (hg : w.heap.size ≤ g) : Xk.Ext w w7 :=
 ⟨h.os.trans hx.os, h.tape.trans hx.tape, h.output.trans hx.output, by rw [h.size]; exact hx.size, fun k hk' => (h.rest k (by omega)).trans (hx.block k hk')⟩
def isI : Option Value → Bool
 | some (.int _ _) => true
 | _ => false
def isS : Option Value → Bool
 | some (.string _) => true
 | _ => false
theorem zero_all : (List.range 40).all (fun o => !(isI zero37[o]? && isS zero37[o + 1]? && isI zero37[o + 2]?)) = true := by kernel_rfl
theorem zero_tok {o : Nat} {a p : Int} {s : ByteArray} (h1 : zero37[o]? = some (.int .i64 a)) (h2 : zero37[o + 1]? = some (.string s)) (h3 : zero37[o + 2]? = some (.int .i64 p)) : False := by
 have ho : o < 37 := (List.getElem?_eq_some_iff.1 h1).1
 have := List.all_eq_true.1 zero_all o (List.mem_range.2 (by omega))
 rw [h1, h2, h3] at this
 simp [isI, isS] at this
theorem Rd.putRes {br g : Nat} {r : P12.R} {c : Array Value} {w w' : World} (h : Rd br r w) (hz : w.heap[g]? = some (stmtO zero37)) (hp : Puts g c 46 w w') (hg : g < br) (he : g ≠ 8) : Rd br r w' := by
 obtain ⟨b, off, cap, h⟩ := h
 have hb : b ≠ g := fun e => by
  subst e
  obtain ⟨h1, h2, h3⟩ := h.toks.2 0 _ (P12.nxt_get h.good)
  simp only [Nat.zero_mul, Nat.add_zero, World.cell?, hz, Option.isSome_none, Bool.false_eq_true, if_false, List.getElem?_toArray] at h1 h2 h3
  exact zero_tok h1 h2 h3
 have hk : ∀ {x o' : Nat} {v : Value}, x ≠ g → w.cell? ⟨x, o', none⟩ = some v → w'.cell? ⟨x, o', none⟩ = some v := fun {x o' v} hne hc => by
  rw [World.cell?_of_block (hp.rest x hne)]; exact hc
 refine ⟨b, off, cap, (hp.rest br (by omega)).trans h.blk, h.lo, h.cap, ⟨by rw [hp.size]; exact h.toks.1, fun j t hj => ?_⟩, h.good, h.glo, let ⟨tp, p, hc⟩ := h.env; ⟨tp, p, hk (fun e => he e.symm) hc⟩⟩
 obtain ⟨h1, h2, h3⟩ := h.toks.2 j t hj
 exact ⟨hk hb h1, hk hb h2, hk hb h3⟩
def ParsePost (w : World) (r : Except P12.Er P12.St) (e : Ending) (w' : World) : Prop :=
 Xk.Ext w w' ∧ match r with
  | .ok x => ∃ l, e = .returned (.tuple #[.agg l.toArray, .int .i64 0, .int .i64 0]) ∧ StmtIn (fun b => w.heap.size ≤ b) w' x l
  | .error er => e = .returned (.tuple #[.agg zero37.toArray, .int .i64 er.1, .int .i64 er.2])
theorem parse_ok (s : ByteArray) (l : List P11.Tok) (w : World) (hE : EnvP w) (h : P11.lexed s.data.toList = .inl l) (HST : ∀ br W, Rd br ⟨l, 0⟩ W → Calls Tryz.prog 99 #[rp br] W (Got br W ⟨l, 0⟩ (StmtV W) (P12.statement ⟨l, 0⟩))) : Calls Tryz.prog 37 #[.string s] w (ParsePost w (P12.parseToks l)) := by
 have HE := Lib.hid hE
 have hgood := P12.lexed_good h
 have HT := Lib.hid fun W => tokens_row s l h W
 have hmf := mkfun
 clear h hE
 generalize hres : P12.parseToks l = res
 have HRES := Lib.hid hres
 clear hres
 go_enter_defers Tryz.func37, Tryz.ntmps37
 go_wp2_with fail
 refine (HT.out _).mono ?_
 rintro e w1 ⟨b, off, cap, rfl, htk, hcap, hx1⟩
 obtain ⟨w3, hw3⟩ : ∃ W, W = ((w.alloc (stmtO zero37)).alloc (.cells #[.int .i64 0] 3)).alloc (.cells #[.int .i64 0] 26) := ⟨_, rfl⟩
 have hx03 : Xk.Ext w w3 := by rw [hw3]; exact Xk.xt
 have hb3 : PRes w.heap.size zero37 0 0 w3 := by
  rw [hw3]
  refine ⟨?_, ?_, ?_⟩
  ·exact ((Turn.alloc (Turn.refl (w.heap.size + 5) _) _).held ((Turn.alloc (Turn.refl (w.heap.size + 5) _) _).held (heap_new w _) (by omega)) (by omega))
  ·refine (Turn.alloc (Turn.refl (w.heap.size + 5) _) _).held ?_ (by omega)
   have := heap_new (w.alloc (stmtO zero37)) (.cells #[.int .i64 0] 3)
   rwa [World.size_alloc] at this
  ·have := heap_new ((w.alloc (stmtO zero37)).alloc (.cells #[.int .i64 0] 3)) (.cells #[.int .i64 0] 26)
   rwa [World.size_alloc, World.size_alloc] at this
 have hx31 : Xk.Ext w3 w1 := by rw [hw3]; exact hx1
 have hl3 : w3.heap.size = w.heap.size + 3 := by rw [hw3, World.size_alloc, World.size_alloc, World.size_alloc]
 have hl1 := hx31.size
 have d0 := (hx31.block _ (by omega)).trans hb3.1
 have d1 := (hx31.block _ (by omega)).trans hb3.2.1
 have d2 := (hx31.block _ (by omega)).trans hb3.2.2
 have hx01 := Xk.Ext.trans hx03 hx31
 clear hx1 hw3 hb3 hx03 hx31
 have c1 : w1.cell? ⟨w.heap.size + 1, 0, none⟩ = some (.int .i64 0) := by simp [World.cell?, d1]
 have c2 : w1.cell? ⟨w.heap.size + 1 + 1, 0, none⟩ = some (.int .i64 0) := by simp [World.cell?, d2]
 have f1 := frozen_of_row w1 (w.heap.size + 1) 0 _ _ d1
 have f2 := frozen_of_row w1 (w.heap.size + 1 + 1) 0 _ _ d2
 go_wp2_with fail
 have hne1 : b ≠ w.heap.size + 1 ∧ b ≠ w.heap.size + 1 + 1 := by
  obtain ⟨t0, ll, e1, -⟩ := hgood.head
  have e1 : l = t0 :: ll := e1
  have c := (htk.2 0 t0 (by rw [e1]; rfl)).2.1
  constructor
  ·intro e
   rw [e] at c
   simp [World.cell?, d1] at c
  ·intro e
   rw [e] at c
   simp [World.cell?, d2] at c
 have hs4 : (((w1.setCell ⟨w.heap.size + 1, 0, none⟩ (.int .i64 0)).setCell ⟨w.heap.size + 1 + 1, 0, none⟩ (.int .i64 0))).heap.size = w1.heap.size := by rw [World.size_setCell, World.size_setCell]
 have hP4 : PRes w.heap.size zero37 0 0 ((w1.setCell ⟨w.heap.size + 1, 0, none⟩ (.int .i64 0)).setCell ⟨w.heap.size + 1 + 1, 0, none⟩ (.int .i64 0)) := by
  have d1' := heap_setCell_same w1 (w.heap.size + 1) 0 _ _ (.int .i64 0) d1
  refine ⟨?_, ?_, ?_⟩
  ·rw [heap_setCell_other _ ⟨w.heap.size + 1 + 1, 0, none⟩ _ _ (by show ¬ _ = _; first | (simp; done) | (simp; omega)), heap_setCell_other _ ⟨w.heap.size + 1, 0, none⟩ _ _ (by show ¬ _ = _; first | (simp; done) | (simp; omega))]; exact d0
  ·rw [heap_setCell_other _ ⟨w.heap.size + 1 + 1, 0, none⟩ _ _ (by show ¬ _ = _; first | (simp; done) | (simp; omega))]; exact d1'
  ·exact heap_setCell_same _ (w.heap.size + 1 + 1) 0 _ _ (.int .i64 0) ((heap_setCell_other w1 ⟨w.heap.size + 1, 0, none⟩ _ _ (by simp)).trans d2)
 have hX4 : Xk.Ext w ((w1.setCell ⟨w.heap.size + 1, 0, none⟩ (.int .i64 0)).setCell ⟨w.heap.size + 1 + 1, 0, none⟩ (.int .i64 0)) := (Below.setCell (Below.setCell hx01 (by show w.heap.size ≤ w.heap.size + 1; omega) _) (by show w.heap.size ≤ w.heap.size + 1 + 1; omega) _)
 have hT4 : TkRow b off l ((w1.setCell ⟨w.heap.size + 1, 0, none⟩ (.int .i64 0)).setCell ⟨w.heap.size + 1 + 1, 0, none⟩ (.int .i64 0)) := by
  have hk : ∀ {o : Nat} {v : Value}, w1.cell? ⟨b, o, none⟩ = some v → ((w1.setCell ⟨w.heap.size + 1, 0, none⟩ (.int .i64 0)).setCell ⟨w.heap.size + 1 + 1, 0, none⟩ (.int .i64 0)).cell? ⟨b, o, none⟩ = some v := fun {o v} hc => by
   rw [World.cell?_setCell_other _ _ _ _ (fun e => hne1.2 (by cases e; rfl)), World.cell?_setCell_other _ _ _ _ (fun e => hne1.1 (by cases e; rfl))]; exact hc
  exact ⟨by rw [hs4]; exact htk.1, fun j t hj => ⟨hk (htk.2 j t hj).1, hk (htk.2 j t hj).2.1, hk (htk.2 j t hj).2.2⟩⟩
 have hb1 := htk.1
 clear c1 c2 f1 f2 d0 d1 d2 htk hx01 hne1
 generalize ((w1.setCell ⟨w.heap.size + 1, 0, none⟩ (.int .i64 0)).setCell ⟨w.heap.size + 1 + 1, 0, none⟩ (.int .i64 0)) = w4 at *
 rw [← hs4] at hb1 hl1 ⊢
 clear hs4
 have hxa : Xk.Ext w4 (w4.alloc (.cells #[.slice (some ⟨b, off, none⟩) l.length cap, .int .i64 0] 154)) := (Below.refl _ _).alloc (Nat.le_refl _) _
 have hX5 := Xk.Ext.trans hX4 hxa
 have hP5 : PRes w.heap.size zero37 0 0 (w4.alloc (.cells #[.slice (some ⟨b, off, none⟩) l.length cap, .int .i64 0] 154)) := ⟨(hxa.block _ (by omega)).trans hP4.1, (hxa.block _ (by omega)).trans hP4.2.1, (hxa.block _ (by omega)).trans hP4.2.2⟩
 have hR5 : Rd w4.heap.size ⟨l, 0⟩ (w4.alloc (.cells #[.slice (some ⟨b, off, none⟩) l.length cap, .int .i64 0] 154)) := by
  obtain ⟨tp, p, hc⟩ := HE.out
  exact ⟨b, off, cap, ⟨heap_new w4 _, hb1, hcap, hT4.ext hxa, hgood, by have h := World.block_lt_of_cell? _ _ hc; simp only at h; omega, ⟨tp, p, Xk.ext_cell hX5 hc⟩⟩⟩
 generalize w4.alloc (.cells #[.slice (some ⟨b, off, none⟩) l.length cap, .int .i64 0] 154) = w5 at *
 generalize hbr : w4.heap.size = br at *
 clear hxa hP4 hX4 hT4 hbr
 have lbr := hR5.lt
 go_at_call 99
 refine (HST br w5 hR5).mono ?_
 intro e w6 h
 cases hn : P12.statement ⟨l, 0⟩ with
 | error er =>
  rw [hn] at h
  obtain ⟨rfl, ht⟩ := h
  have hP6 : PRes w.heap.size zero37 0 0 w6 := ⟨ht.held hP5.1 (by omega), ht.held hP5.2.1 (by omega), ht.held hP5.2.2 (by omega)⟩
  simp only [faults]
  go_wp2
  refine leaves_cons (f := 98) (args := #[.pointer (some ⟨w.heap.size, 0, none⟩), .pointer (some ⟨w.heap.size + 1, 0, none⟩), .pointer (some ⟨w.heap.size + 1 + 1, 0, none⟩)]) (by simp) (by simp [go_sem]) ?_
  refine (caught w.heap.size zero37 rfl 0 0 er.1 er.2 w6 hP6).mono ?_
  rintro e u' w7 ⟨rfl, rfl, hP7, hK7⟩
  have hE := HRES.out
  rw [show P12.parseToks l = .error er by simp [P12.parseToks, hn, bind, Except.bind]] at hE
  subst hE
  have hx7 : Xk.Ext w w7 := ext_kept (ext_turn hX5 ht (by omega)) hK7 (by have := ht.size; have := hX5.size; omega) (by simp)
  simp [Leaves, settle]
  exact ⟨_, results_three rfl rfl rfl rfl hP7, hx7, rfl⟩
 | ok p =>
  obtain ⟨x, r6⟩ := p
  rw [hn] at h
  obtain ⟨v, rfl, ⟨ls, rfl, hs⟩, ht, hr6, hk6⟩ := h
  have hX6 := ext_turn hX5 ht (by omega)
  have q0 := ht.held hP5.1 (by omega)
  have q1 := ht.held hP5.2.1 (by omega)
  have q2 := ht.held hP5.2.2 (by omega)
  have hl37 := hs.length
  have hl6 := ht.size
  have HS := Lib.hid hs
  have HR6 := Lib.hid hr6
  have HX6 := Lib.hid hX6
  clear hs hr6 hP5 hR5 hX5 ht hX6
  go_wp2_with ((refine wpList_putRow rfl 46 _ _ rfl (w.heap.size) _ _ 46 rfl rfl (q0) ((by simp [hl37])) ((by simp only [List.size_toArray, hl37]; kernel_rfl)) (HS.out.one) ?_; intro w7 hp7))
  have hge : w.heap.size ≠ 8 := by
   obtain ⟨tp, p, hc⟩ := HE.out
   have h := World.block_lt_of_cell? _ _ hc
   simp only at h
   omega
  have hR7 : Rd br r6 w7 := HR6.out.putRes q0 hp7 (by omega) hge
  have hX7 : Xk.Ext w w7 := ext_puts HX6.out hp7 (Nat.le_refl _)
  have hs7 : StmtIn (fun b => w5.heap.size ≤ b) w7 x ls := HS.out.keep (fun b hb _ => hp7.rest b (by omega)) (fun b hb _ => hb)
  have hP7 : PRes w.heap.size ls 0 0 w7 := ⟨hp7.blk, (hp7.rest _ (by omega)).trans q1, (hp7.rest _ (by omega)).trans q2⟩
  clear q0 q1 q2 hp7 HR6 HX6 HS
  go_wp2_with fail
  go_at_call 100
  refine (has_got br r6 [59] w7 hR7).mono ?_
  rintro e w8 ⟨rfl, ht8, hr8, hk8⟩
  have hl7 := hR7.lt
  have hP8 : PRes w.heap.size ls 0 0 w8 := ⟨ht8.held hP7.1 (by omega), ht8.held hP7.2.1 (by omega), ht8.held hP7.2.2 (by omega)⟩
  have hX8 := ext_turn hX7 ht8 (by omega)
  have hs8 : StmtIn (fun b => w5.heap.size ≤ b) w8 x ls := hs7.keep (fun b hb hl => ht8.block hl (by omega)) (fun b hb _ => hb)
  generalize hr8' : (P12.has [59] r6).2 = r8 at *
  clear hP7 hX7 hs7 hR7 ht8 hk8
  go_wp2_with fail
  go_at_call 101
  refine (next_any br r8 w8 hr8).mono ?_
  rintro e w9 ⟨rfl, hx9⟩
  have hP9 : PRes w.heap.size ls 0 0 w9 := by
   have hw := hX8.size
   have := (Array.getElem?_eq_some_iff.1 hP8.2.2).1
   exact ⟨(hx9.block _ (by omega)).trans hP8.1, (hx9.block _ (by omega)).trans hP8.2.1, (hx9.block _ (by omega)).trans hP8.2.2⟩
  have hX9 := Xk.Ext.trans hX8 hx9
  have hs9 : StmtIn (fun b => w5.heap.size ≤ b) w9 x ls := hs8.keep (fun b hb hl => hx9.block b hl) (fun b hb _ => hb)
  have hr9 := hr8.ext hx9
  have hlp := (Array.getElem?_eq_some_iff.1 hP9.2.2).1
  have hPT : P12.parseToks l = if (P12.nxt r8).kind ≠ 0 then P12.fails 120 r8 else .ok x := by
   simp only [P12.parseToks, hn, bind, Except.bind, hr8', pure, Except.pure]
  clear hP8 hX8 hs8 hr8 hx9
  by_cases hk : (P12.nxt r8).kind = 0
  ·have hkb : ((P12.nxt r8).kind != 0) = false := by simpa using hk
   rw [if_neg (by simpa using hk)] at hPT
   have hE := HRES.out
   rw [hPT] at hE
   subst hE
   have hb9 := hP9.1
   have HP9 := Lib.hid hP9
   have HS9 := Lib.hid hs9
   have HX9 := Lib.hid hX9
   have lw9 := hX9.size
   clear hP9 hs9 hX9 hr9
   go_wp2_with (first | (refine wpList_loadRow rfl 46 _ rfl (w.heap.size) _ 46 (0, 0) _ rfl (hb9) Tryz.underlying46 rfl ((by simp only [List.size_toArray, hl37]; kernel_rfl)) ?_) | ((refine wpList_putRow rfl 46 _ _ rfl (w.heap.size) _ _ 46 rfl rfl (hb9) (rfl) ((by simp only [List.size_toArray, hl37]; kernel_rfl)) (HS9.out.one) ?_; intro w10 hp10); have d1 := (hp10.rest _ (show w.heap.size + 1 ≠ w.heap.size by omega)).trans HP9.out.2.1; have d2 := (hp10.rest _ (show w.heap.size + 2 ≠ w.heap.size by omega)).trans HP9.out.2.2; have c1 : w10.cell? ⟨w.heap.size + 1, 0, none⟩ = some (.int .i64 0) := (by simp [World.cell?, d1]); have c2 : w10.cell? ⟨w.heap.size + 1 + 1, 0, none⟩ = some (.int .i64 0) := (by simp [World.cell?, d2]); have f1 := frozen_of_row w10 (w.heap.size + 1) 0 _ _ d1; have f2 := frozen_of_row w10 (w.heap.size + 1 + 1) 0 _ _ d2))
   have hP11 : PRes w.heap.size ls 0 0 ((w10.setCell ⟨w.heap.size + 1, 0, none⟩ (.int .i64 0)).setCell ⟨w.heap.size + 1 + 1, 0, none⟩ (.int .i64 0)) := by
    refine ⟨?_, ?_, ?_⟩
    ·rw [heap_setCell_other _ ⟨w.heap.size + 1 + 1, 0, none⟩ _ _ (by show ¬ _ = _; first | (simp; done) | (simp; omega)), heap_setCell_other _ ⟨w.heap.size + 1, 0, none⟩ _ _ (by show ¬ _ = _; first | (simp; done) | (simp; omega))]; exact hp10.blk
    ·rw [heap_setCell_other _ ⟨w.heap.size + 1 + 1, 0, none⟩ _ _ (by show ¬ _ = _; first | (simp; done) | (simp; omega))]; exact heap_setCell_same _ _ _ _ _ (.int .i64 0) d1
    ·exact heap_setCell_same _ (w.heap.size + 1 + 1) 0 _ _ (.int .i64 0) ((heap_setCell_other w10 ⟨w.heap.size + 1, 0, none⟩ _ _ (by show ¬ _ = _; first | (simp; done) | (simp; omega))).trans d2)
   have hX11 : Xk.Ext w ((w10.setCell ⟨w.heap.size + 1, 0, none⟩ (.int .i64 0)).setCell ⟨w.heap.size + 1 + 1, 0, none⟩ (.int .i64 0)) := (Below.setCell (Below.setCell (ext_puts HX9.out hp10 (Nat.le_refl _)) (by show w.heap.size ≤ w.heap.size + 1; omega) _) (by show w.heap.size ≤ w.heap.size + 1 + 1; omega) _)
   refine leaves_cons (f := 98) (args := #[.pointer (some ⟨w.heap.size, 0, none⟩), .pointer (some ⟨w.heap.size + 1, 0, none⟩), .pointer (some ⟨w.heap.size + 1 + 1, 0, none⟩)]) (by simp) (by simp [go_sem]) ?_
   refine (idle w.heap.size _).mono ?_
   rintro e u' w11 ⟨rfl, rfl, rfl⟩
   have hs11 : StmtIn (fun b => w.heap.size ≤ b) ((w10.setCell ⟨w.heap.size + 1, 0, none⟩ (.int .i64 0)).setCell ⟨w.heap.size + 1 + 1, 0, none⟩ (.int .i64 0)) x ls := HS9.out.keep (fun b hb _ => by
     rw [heap_setCell_other _ ⟨w.heap.size + 1 + 1, 0, none⟩ _ _ (by show ¬ _ = _; simp; omega), heap_setCell_other _ ⟨w.heap.size + 1, 0, none⟩ _ _ (by show ¬ _ = _; simp; omega)]; exact hp10.rest b (by omega)) (fun b hb _ => by omega)
   simp only [Leaves, settle]
   exact ⟨_, results_three hl37 rfl rfl rfl hP11, hX11, ls, rfl, hs11⟩
  ·have hkb : ((P12.nxt r8).kind != 0) = true := by simpa using hk
   rw [if_pos (by simpa using hk)] at hPT
   have hE := HRES.out
   rw [hPT] at hE
   subst hE
   go_wp2_with fail
   go_at_call 102
   refine (fails_any br r8 120 w9 hr9).mono ?_
   rintro e w10 ⟨rfl, hx10⟩
   have hP10 : PRes w.heap.size ls 0 0 w10 := ⟨(hx10.block _ (by omega)).trans hP9.1, (hx10.block _ (by omega)).trans hP9.2.1, (hx10.block _ (by omega)).trans hP9.2.2⟩
   simp only [faults]
   go_wp2
   refine leaves_cons (f := 98) (args := #[.pointer (some ⟨w.heap.size, 0, none⟩), .pointer (some ⟨w.heap.size + 1, 0, none⟩), .pointer (some ⟨w.heap.size + 1 + 1, 0, none⟩)]) (by simp) (by simp [go_sem]) ?_
   refine (caught w.heap.size ls hl37 0 0 (P12.nxt r8).pos 120 w10 hP10).mono ?_
   rintro e u' w11 ⟨rfl, rfl, hP11, hK11⟩
   have hx11 : Xk.Ext w w11 := ext_kept (Xk.Ext.trans hX9 hx10) hK11 (by have := hx10.size; omega) (by simp)
   simp [Leaves, settle]
   exact ⟨_, results_three rfl rfl rfl rfl hP11, hx11, rfl⟩
end Go.Proofs.YtlpcdpkgnfdpeaaGreatDoor
namespace Go.Proofs.YtlpcdpkgnfdpeaaGreatDoor
open Go.RowKit Go.WideMaps Go.Maps
theorem statementC_any (br : Nat) (r : P12.R) (w : World) (h : Rd br r w) (h2 : (P12.nxt r).kind = 2) (ht : (P12.nxt r).text = [67, 82, 69, 65, 84, 69]) (hn0 : P12.NoC r) : Calls Tryz.prog 99 #[rp br] w (Got br w r (StmtV w) (P12.statement r)) := by
 have HR := Lib.hid h
 have H2K := Lib.hid h2
 have HTX := Lib.hid ht
 clear h2 ht
 have lr := h.lt
 have hok := h.good.nxt_ok.len
 have hmf := mkfun
 have hmm := @run_makeMap Tryz.prog
 clear h
 generalize hres : P12.statement r = res
 have HE := Lib.hid hres
 clear hres
 obtain ⟨w0, hw0⟩ : ∃ W, W = w.alloc (stmtO zero37) := ⟨_, rfl⟩
 have HW0 := Lib.hid hw0
 obtain ⟨w1, w2, w3, w4, w5, w6, m1, m2, m3, m4, m5, m6, O, X⟩ := meth_map br w0
 rw [hw0] at m1 m2 m3 m4 m5 m6
 rw [World.size_alloc] at m1 m2 m3 m4 m5 m6
 have HO := Lib.hid O
 have HX := Lib.hid X
 clear O X hw0
 go_enter Tryz.func99, Tryz.ntmps99
 go_wp2_with fail
 go_at_call 101
 have hx06 : Xk.Ext w w6 := Xk.Ext.trans (by rw [HW0.out]; exact (Below.refl _ _).alloc (Nat.le_refl _) _) HX.out
 refine (next_any br r _ (HR.out.ext hx06)).mono ?_
 rintro e w7 ⟨rfl, hx7⟩
 have hz0 : w0.heap[w.heap.size]? = some (stmtO zero37) := by rw [HW0.out]; exact heap_new w _
 have hxt : Xk.Ext w (w7.alloc (.cells #[.int .i64 (P12.nxt r).kind, .string ⟨(P12.nxt r).text.toArray⟩, .int .i64 (P12.nxt r).pos] 82)) := Xk.Ext.trans (Xk.Ext.trans hx06 hx7) ((Below.refl _ _).alloc (Nat.le_refl _) _)
 have hgt := heap_new w7 (.cells #[.int .i64 (P12.nxt r).kind, .string ⟨(P12.nxt r).text.toArray⟩, .int .i64 (P12.nxt r).pos] 82)
 have h0t : Xk.Ext w0 (w7.alloc (.cells #[.int .i64 (P12.nxt r).kind, .string ⟨(P12.nxt r).text.toArray⟩, .int .i64 (P12.nxt r).pos] 82)) := Xk.Ext.trans (Xk.Ext.trans HX.out hx7) ((Below.refl _ _).alloc (Nat.le_refl _) _)
 have hzt := (h0t.block _ (Array.getElem?_eq_some_iff.1 hz0).1).trans hz0
 have hOt : mapF br (w7.alloc (.cells #[.int .i64 (P12.nxt r).kind, .string ⟨(P12.nxt r).text.toArray⟩, .int .i64 (P12.nxt r).pos] 82)) w0.heap.size 6 (dR stL) := HO.out.kept (grown_of_ext (Xk.Ext.trans hx7 ((Below.refl _ _).alloc (Nat.le_refl _) _))) (by simp)
 rw [HW0.out, World.size_alloc] at hOt
 go_upto_if 27 with fail
 clear m1 m2 m3 m4 m5 m6 hx06 hx7 h0t hz0 HO HX HW0
 generalize hw7 : w7.heap.size = g7 at *
 generalize w7.alloc (.cells #[.int .i64 (P12.nxt r).kind, .string ⟨(P12.nxt r).text.toArray⟩, .int .i64 (P12.nxt r).pos] 82) = wt at *
 have hwlt : w.heap.size < wt.heap.size := (Array.getElem?_eq_some_iff.1 hzt).1
 have h2 := H2K.out
 have ht := HTX.out
 obtain ⟨v, hlook, hv⟩ := look_f hOt (P12.nxt r).text (by omega)
 have k1 : wt.cell? ⟨g7, 1, none⟩ = some (.string ⟨(P12.nxt r).text.toArray⟩) := by simp [World.cell?, hgt]
 have l1 := World.block_lt_of_cell? _ _ k1
 have h2b : ((P12.nxt r).kind == 2) = true := by simpa using h2
 clear hgt hOt
 have hv := hv 179 (by rw [ht]; rfl)
 subst hv
 rw [ht] at hlook
 rw [show ((stL.find? fun x => x.1 == [67, 82, 69, 65, 84, 69]).isSome) = true from rfl] at hlook
 have hE := HE.out
 rw [P12.stmt_create h2 ht] at hE
 clear HE hv
 have HE := Lib.hid hE
 clear hE
 rw [ht] at k1
 go_wp2_with fail
 go_at_call 185
 refine (takes_any br r _ (HR.out.ext hxt)).mono ?_
 rintro e w8 ⟨rfl, ht8, hr8⟩
 have hT8 := Turn.trans (Turn.of_ext hxt) ht8
 have hz8 := ht8.held hzt (by omega)
 have hl8 := ht8.size
 clear hlook k1
 go_wp2_with fail
 go_at_call 179
 refine (create_q conQ_no br (P12.takes r) w8 hr8 (hn0.keep (P12.keeps_takes r))).mono ?_
 intro e w9 h
 cases hn : P12.create (P12.takes r) with
 | error er =>
  rw [hn] at h
  have hE := HE.out
  rw [hn] at hE
  subst hE
  obtain ⟨rfl, ht9⟩ := h
  simp only [faults]
  go_wp2
  exact ⟨rfl, rfl, Turn.trans hT8 ht9⟩
 | ok p =>
  obtain ⟨x, r9⟩ := p
  rw [hn] at h
  have hE := HE.out
  rw [hn] at hE
  subst hE
  obtain ⟨v, rfl, ⟨l, rfl, hs⟩, ht9, hr9, hk9⟩ := h
  have hz9 := ht9.held hz8 (by omega)
  have hl37 := hs.length
  have HS := Lib.hid hs
  have HT9 := Lib.hid (Turn.trans hT8 ht9)
  have HR9 := Lib.hid hr9
  clear hs ht9 hr9 ht8 hT8
  go_wp2_with ((refine wpList_putRow rfl 46 _ _ rfl (w.heap.size) _ _ 46 rfl rfl (hz9) ((by simp [hl37])) ((by simp only [List.size_toArray, hl37]; kernel_rfl)) (HS.out.one) ?_; intro w10 hp10))
  refine bodyPost_ret (results_row (fn := Tryz.f99) rfl rfl hp10.blk Tryz.underlying46 rfl (by simp only [List.size_toArray, hl37]; kernel_rfl)) rfl ?_
  exact ⟨_, rfl, ⟨l, rfl, HS.out.keep (fun b hb _ => hp10.rest b (by omega)) (fun b hb _ => by omega)⟩, Puts.turn hp10 HT9.out (Nat.le_refl _), Puts.rd hp10 HR9.out (by omega), (P12.keeps_takes r).trans hk9⟩
end Go.Proofs.YtlpcdpkgnfdpeaaGreatDoor
namespace P12
def isCr (s : T) : Bool := match P11.lexed s with
 | .inl l => (nxt ⟨l, 0⟩).kind == 2 && (nxt ⟨l, 0⟩).text == [67, 82, 69, 65, 84, 69] && l.all fun t => t.text != [67, 72, 69, 67, 75]
 | .inr _ => false
theorem isCr_out {s : T} (h : isCr s = true) : ∃ l, P11.lexed s = .inl l ∧ (nxt ⟨l, 0⟩).kind = 2 ∧ (nxt ⟨l, 0⟩).text = [67, 82, 69, 65, 84, 69] ∧ NoC ⟨l, 0⟩ := by
 unfold isCr at h
 split at h
 ·rename_i l hl
  simp only [Bool.and_eq_true, beq_iff_eq, List.all_eq_true, bne_iff_ne] at h
  exact ⟨l, hl, h.1.1, h.1.2, h.2⟩
 ·cases h
end P12
namespace Go.Proofs.YtlpcdpkgnfdpeaaGreatDoor
open Go.RowKit
theorem parseC_any (s : ByteArray) (w : World) (hE : EnvP w) (h : P12.isCr s.data.toList = true) : Calls Tryz.prog 37 #[.string s] w (ParsePost w (P12.parse s.data.toList)) := by
 obtain ⟨l, hl, h2, ht, hn⟩ := P12.isCr_out h
 unfold P12.parse
 rw [hl]
 exact parse_ok s l w hE hl fun br W hr => statementC_any br ⟨l, 0⟩ W hr h2 ht hn
end Go.Proofs.YtlpcdpkgnfdpeaaGreatDoor
