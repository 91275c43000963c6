/- Walks: a constraint of a table. -/
import Derived.Test.YtkpmclddjkebeaaGreatDoorEF
set_option linter.unusedSimpArgs false
set_option linter.unusedVariables false
set_option maxRecDepth 100000
set_option maxHeartbeats 8000000
namespace Go.Proofs.YtkpmclddjkebeaaGreatDoor
open Go.RowKit
structure Cf (br gx gm gc B n : Nat) (t : P12.Tb) (k : List (List P12.T)) (w0 : World) (r0 r : P12.R) (w : World) : Prop where
 rd : Rd br r w
 tab : TabAt B gx gc t k w
 many : w.heap[gm]? = some (manyO br n 16)
 kept : KeptG B gc [br, gx, gm] w0 w
 keeps : P12.Keeps r0 r
 h1 : br < gx
 h2 : br < gm
 h3 : gm < B
 h4 : gm ≠ gx
 h5 : gc < w.heap.size
section
variable {br gx gm gc B n : Nat} {t : P12.Tb} {k : List (List P12.T)} {w0 : World} {r0 r r' : P12.R} {w w' : World}
theorem Cf.step (F : Cf br gx gm gc B n t k w0 r0 r w) (ht : Turn br w w') (hr : Rd br r' w') (hk : P12.Keeps r r') : Cf br gx gm gc B n t k w0 r0 r' w' := by
 obtain ⟨a1, a2, a3, a4, a5, a6, a7, a8, a9, a10⟩ := F
 exact ⟨hr, a2.turn ht a6, ht.held a3 (by omega), a4.trans (KeptG.of_turn ht (by simp) (by have := a2.bounds; omega)), a5.trans hk, a6, a7, a8, a9, Nat.lt_of_lt_of_le a10 ht.size⟩
theorem Cf.ext (F : Cf br gx gm gc B n t k w0 r0 r w) (hx : Xk.Ext w w') : Cf br gx gm gc B n t k w0 r0 r w' := F.step (Turn.of_ext hx) (F.rd.ext hx) (P12.Keeps.refl _)
theorem Cf.after (F : Cf br gx gm gc B n t k w0 r0 r w) (ht : Turn br w w') : KeptG B gc [br, gx, gm] w0 w' := F.kept.trans (KeptG.of_turn ht (by simp) (by have := F.tab.bounds; have := F.h1; omega))
theorem Cf.gxB (F : Cf br gx gm gc B n t k w0 r0 r w) : gx < B ∧ B ≤ w.heap.size := F.tab.bounds
end
def ConPost (br gx gm gc B n : Nat) (t : P12.Tb) (k : List (List P12.T)) (w0 : World) (r0 : P12.R) (res : Except P12.Er (P12.Con × P12.R)) (e : Ending) (w' : World) : Prop :=
 match res with
 | .error er => e = faults er ∧ KeptG B gc [br, gx, gm] w0 w'
 | .ok (o, r') => e = .returned (.tuple #[]) ∧ TabAt B gx gc (P12.addT t o) (P12.addK k o) w' ∧ w'.heap[gm]? = some (manyO br (n + 1) 16) ∧ Rd br r' w' ∧ P12.Keeps (P12.takes r0) r' ∧ KeptG B gc [br, gx, gm] w0 w'
theorem constraint_check (br gx gm gc B n : Nat) (t : P12.Tb) (k : List (List P12.T)) (c : P12.T) (r : P12.R) (w : World) (h : Rd br r w) (hx : TabAt B gx gc t k w) (hm : w.heap[gm]? = some (manyO br n 16)) (h1 : br < gx) (h2 : br < gm) (h3 : gm < B) (hne : gm ≠ gx) (hn : n ≤ 16)
  (hl : t.checks.length ≤ 100) (hcc : (decide (16 < n + 1) && P12.constrains r) = false) (hck : P12.isT [67, 72, 69, 67, 75] r = true) (hb : gx < w.heap.size) (hgs : gc < w.heap.size) :
  Calls Tryz.prog 199 #[rp br, rp gx, rp gm, bs c] w (ConPost br gx gm gc B n t k w r (match P12.within P12.expr (P12.takes r) with | .error e => .error e | .ok (e, r) => .ok (.inl e, r))) := by
 have lr := h.lt
 have H := Lib.hid h
 have HX := Lib.hid hx
 have HM := Lib.hid hm
 have HB := hx.bounds
 clear h hx hm
 obtain ⟨i0, hi, hz0, hz1, hz2⟩ := infoParts Tryz.infoExpr10
 have Hi := Lib.hid hi
 have Hz0 := Lib.hid hz0
 have Hz1 := Lib.hid hz1
 have Hz2 := Lib.hid hz2
 clear hi hz0 hz1 hz2
 cases hw : P12.within P12.expr (P12.takes r) with
 | error er =>
  go_enter Tryz.func199, Tryz.ntmps199
  go_wp2_with fail
  go_at_call 200
  refine (counts_any br n 16 gm r _ (rp br) 198 (P12.constrains r) w H.out HM.out h2 (by omega) (by omega) (.inl rfl) ent_constrains (fun W hr _ => constrains_any br r W hr)).mono ?_
  rintro e w1 ⟨hx1, he1⟩
  rw [if_neg (by rw [hcc]; simp)] at he1
  subst he1
  have hm1 : w1.heap[gm]? = some (manyO br (n + 1) 16) := by
   rw [hx1.block _ (by rw [World.size_setCell]; exact (Array.getElem?_eq_some_iff.1 HM.out).1), heap_setCell_same w gm 1 _ _ _ HM.out]
   simp
  have F1 : Cf br gx gm gc B (n + 1) t k w r r w1 := ⟨(Rd.setCell H.out (by omega) 1 _).ext hx1, (HX.out.setCell h3 hne 1 _).ext hx1, hm1, ((KeptG.refl _ _ _ _).setCell (.inr ⟨by simp, h3⟩) 1 _).trans (KeptG.of_ext hx1), P12.Keeps.refl _, h1, h2, h3, hne, by have := hx1.size; rw [World.size_setCell] at this; omega⟩
  clear hx1 hm1
  go_wp2_with fail
  go_at_call 20
  refine (has_got br r [67, 72, 69, 67, 75] _ F1.rd).mono ?_
  rw [hck]
  rintro e w2 ⟨rfl, ht2, hr2, hk2⟩
  simp only [P12.has, hck, Bool.false_eq_true, if_true, if_false] at hr2 hk2
  have F2 := F1.step ht2 hr2 hk2
  clear ht2 hr2 hk2 F1
  obtain ⟨col, tc, tk, tq, kc, T0, h9⟩ := F2.tab
  have T := T0.recol 2
  obtain ⟨a1, a2, b1, b2, c1, c2, d1, d2, rfl, rfl, rfl, rfl⟩ := T.form
  have hG1 : w2.cell? ⟨gx, 4, none⟩ = some (.slice c1 t.checks.length c2) := by simp [World.cell?, T.blk]
  have G1 := Lib.hid hG1
  have hsz2 := F2.gxB
  clear hG1 T0
  go_wp2
  refine Xg.wp_region_rel_any (E := Turn br) (Xe.pre_ES _) (fun ch W => Ending.panicked ch = faults er ∧ Turn br w2 W) 8 11 (fun _ => none) (fun _ _ h => by cases h) (fun _ _ _ _ h => by cases h) [(8, fun _ _ => False), (10, newE w2)] (by kernel_rfl) (by kernel_rfl) (Xg.stable_one ((by
     intro y hy
     simp only [List.mem_cons, List.not_mem_nil, or_false] at hy
     rcases hy with rfl | rfl
     ·rw [if_pos rfl]; exact fun _ _ _ _ h => h
     ·rw [if_neg (show ¬ (10 = 8) by decide)]; exact newE.turn (by omega)))) ((fun ch a w' hd hX => by exact ⟨hd, hX.1, F2.after hX.2⟩)) 7 rfl ?_
  simp only [List.take_succ_cons, List.take_zero, List.drop_succ_cons, List.drop_zero]
  refine Xg.gs ?_
  (refine Xg.rel_det (Xk.wanted_none (by rfl)) (by rfl) (fun K hK => ?_); apply Exists.intro; refine ⟨fun W hx hp => ?_, ?_⟩; (have c := hx.cell (show w2.drew.cell? ⟨gx, 4, none⟩ = some (.slice c1 t.checks.length c2) from G1.out) (by omega); go_simp; first | exact ⟨rfl, rfl⟩ | ((try refine ⟨by kernel_rfl, ?_⟩); (fail))); (go_simp; refine hK _ ?_; clear hK K))
  refine Xg.gs ?_
  (refine Xg.rel_loud (by rfl) (by rfl) rfl (fun W hx hp => ?_) (fun u K hK => ?_); (go_simp; ((refine (withinE_any br (P12.takes r) _ (F2.rd.drew.ext hx)).mono ?_); intro e w2 h; rw [hw] at h; obtain ⟨h1, h2⟩ := h; exact Or.inr ⟨_, h1, by exact ⟨rfl, (Turn.drew (Turn.refl _ _)).trans ((Turn.of_ext hx).trans h2)⟩⟩)); (go_simp; refine hK _ ?_; clear hK K))
  refine Xg.gs ?_
  (refine Xg.rel_make (by rfl) (by rfl) (by decide) (fun W hx hp => ?_) (fun u2 K hK => ?_); ((go_simp; exact ⟨(Below.refl _ _).alloc (Nat.le_refl _) _, ⟨W.heap.size, rfl, by simpa using hx.size, heap_new W _⟩, fun b hb => by cases hb; exact ⟨.inr (Nat.le_refl _), by simp⟩⟩)); (go_simp; refine hK _ ?_; clear hK K))
  refine Xg.rel_nil (fun W hx hp hg => ?_)
  exact hp.2.1.elim
 | ok p =>
  obtain ⟨x, r4⟩ := p
  go_enter Tryz.func199, Tryz.ntmps199
  go_wp2_with fail
  go_at_call 200
  refine (counts_any br n 16 gm r _ (rp br) 198 (P12.constrains r) w H.out HM.out h2 (by omega) (by omega) (.inl rfl) ent_constrains (fun W hr _ => constrains_any br r W hr)).mono ?_
  rintro e w1 ⟨hx1, he1⟩
  rw [if_neg (by rw [hcc]; simp)] at he1
  subst he1
  have hm1 : w1.heap[gm]? = some (manyO br (n + 1) 16) := by
   rw [hx1.block _ (by rw [World.size_setCell]; exact (Array.getElem?_eq_some_iff.1 HM.out).1), heap_setCell_same w gm 1 _ _ _ HM.out]
   simp
  have F1 : Cf br gx gm gc B (n + 1) t k w r r w1 := ⟨(Rd.setCell H.out (by omega) 1 _).ext hx1, (HX.out.setCell h3 hne 1 _).ext hx1, hm1, ((KeptG.refl _ _ _ _).setCell (.inr ⟨by simp, h3⟩) 1 _).trans (KeptG.of_ext hx1), P12.Keeps.refl _, h1, h2, h3, hne, by have := hx1.size; rw [World.size_setCell] at this; omega⟩
  clear hx1 hm1
  go_wp2_with fail
  go_at_call 20
  refine (has_got br r [67, 72, 69, 67, 75] _ F1.rd).mono ?_
  rw [hck]
  rintro e w2 ⟨rfl, ht2, hr2, hk2⟩
  simp only [P12.has, hck, Bool.false_eq_true, if_true, if_false] at hr2 hk2
  have F2 := F1.step ht2 hr2 hk2
  clear ht2 hr2 hk2 F1
  obtain ⟨col, tc, tk, tq, kc, T0, h9⟩ := F2.tab
  have T := T0.recol 2
  obtain ⟨a1, a2, b1, b2, c1, c2, d1, d2, rfl, rfl, rfl, rfl⟩ := T.form
  have hG1 : w2.cell? ⟨gx, 4, none⟩ = some (.slice c1 t.checks.length c2) := by simp [World.cell?, T.blk]
  have G1 := Lib.hid hG1
  have hsz2 := F2.gxB
  clear hG1 T0
  go_wp2
  refine Xg.wp_region_rel_any (E := Turn br) (Xe.pre_ES _) (fun ch W => False) 8 11 (fun _ => none) (fun _ _ h => by cases h) (fun _ _ _ _ h => by cases h) [(8, gotE br w2 (P12.takes r) x r4), (10, newE w2)] (by kernel_rfl) (by kernel_rfl) (Xg.stable_one ((by
     intro y hy
     simp only [List.mem_cons, List.not_mem_nil, or_false] at hy
     rcases hy with rfl | rfl
     ·rw [if_pos rfl]; exact gotE.ext
     ·rw [if_neg (show ¬ (10 = 8) by decide)]; exact newE.turn (by omega)))) ((fun ch a w' hd hX => hX.elim)) 7 rfl ?_
  simp only [List.take_succ_cons, List.take_zero, List.drop_succ_cons, List.drop_zero]
  refine Xg.gs ?_
  (refine Xg.rel_det (Xk.wanted_none (by rfl)) (by rfl) (fun K hK => ?_); apply Exists.intro; refine ⟨fun W hx hp => ?_, ?_⟩; (have c := hx.cell (show w2.drew.cell? ⟨gx, 4, none⟩ = some (.slice c1 t.checks.length c2) from G1.out) (by omega); go_simp; first | exact ⟨rfl, rfl⟩ | ((try refine ⟨by kernel_rfl, ?_⟩); (fail))); (go_simp; refine hK _ ?_; clear hK K))
  refine Xg.gs ?_
  (refine Xg.rel_loud (by rfl) (by rfl) rfl (fun W hx hp => ?_) (fun u K hK => ?_); (go_simp; ((refine (withinE_any br (P12.takes r) _ (F2.rd.drew.ext hx)).mono ?_); intro e w2 h; rw [hw] at h; obtain ⟨v', rfl, ⟨l, rfl, he⟩, h1, h2, h3⟩ := h; exact Or.inl ⟨_, rfl, h1, ⟨l, rfl, he.mono (fun b hb _ => Nat.le_trans hx.size hb), h2, h3⟩, fun b hb => by cases hb⟩)); (go_simp; refine hK _ ?_; clear hK K))
  refine Xg.gs ?_
  (refine Xg.rel_make (by rfl) (by rfl) (by decide) (fun W hx hp => ?_) (fun u2 K hK => ?_); ((go_simp; exact ⟨(Below.refl _ _).alloc (Nat.le_refl _) _, ⟨W.heap.size, rfl, by simpa using hx.size, heap_new W _⟩, fun b hb => by cases hb; exact ⟨.inr (Nat.le_refl _), by simp⟩⟩)); (go_simp; refine hK _ ?_; clear hK K))
  refine Xg.rel_nil (fun W hx hp hg => ?_)
  obtain ⟨⟨g, rfl, hge, hgc⟩, ⟨l, rfl, he, hr1, hk1⟩, -⟩ := hp
  have hx' : Turn br w2 W := (Turn.drew (Turn.refl _ _)).trans hx
  have hsz := hx'.size
  have TW := T.turn hx' F2.h1
  have HTW := Lib.hid TW
  obtain ⟨us, -, hown, hS, hu2, hu3, hu4⟩ := TW.tq
  have HU := Lib.hid hu4
  have hlt0 := T.tq.lt
  have hlt := TW.tq.lt
  have hcg : B ≤ gc → (fun b => if b < w2.heap.size then col b else 2) gc = 9 := fun h => (if_pos F2.h5).trans (h9 h)
  have hnew : ∀ b, w2.heap.size ≤ b → (fun b => if b < w2.heap.size then col b else 2) b = 2 := fun b hb => if_neg (by omega)
  clear hu4 hx hg TW
  refine Xg.any_one (k := 11) (by kernel_rfl) rfl ?_
  refine Xo.wpList_appb 0 rfl _ _ 25 rfl 35 i0 _ 10 120 Tryz.underlying25 Hi.out Hz0.out Hz1.out Hz2.out rfl (by decide) (.slice c1 t.checks.length c2) t.checks.length us.flatten rfl hown g 0 1 1 noE rfl (by decide) rfl (cells_blk hgc) (one_all (by kernel_rfl)) (by omega) (Nat.zero_le _) ?_
  intro v' w7 ho' hg' hk'
  obtain ⟨z, cz, rfl⟩ := ownForm ho' (by omega)
  have T7 := Tab.grow2 (x := P12.E.none) HTW.out (fun b hb => hnew b (by omega)) hu2 hu3 HU.out hg' ho' hk' rfl rfl
  have HE7 := Lib.hid (he.keep (S' := fun b => w2.heap.size ≤ b ∧ b < W.heap.size) (w' := w7) (fun b hb hl => hg'.block b hl (fun e => by have := (hlt0 b e.symm).2; omega)) (fun b hb hl => ⟨hb, hl⟩))
  have HR7 := Lib.hid (hr1.grown hg' (fun b hb => by have := (hlt b hb).1.1; omega))
  have HK7 := Lib.hid ((F2.after hx').grown hg' (fun b hb => ⟨(hlt b hb).1.1, fun hB e => by have h2 := (hlt b hb).1.2; rw [e] at h2; have h3 := hcg hB; dsimp only at h2 h3; omega⟩))
  have HM7 := Lib.hid ((hg'.block gm (by omega) (fun e => by have := (hlt gm e.symm).1.1; omega)).trans (hx'.held F2.many (by omega)))
  have HKP := Lib.hid hk1
  have hzB : B ≤ z := (T7.tq.lt z rfl).1.1
  have hzG : B ≤ z ∧ (B ≤ gc → z ≠ gc) := ⟨hzB, fun hB e => by have h2 := (T7.tq.lt z rfl).1.2; rw [e] at h2; have h3 := hcg hB; dsimp only at h2 h3; omega⟩
  have hzW : ∀ b, w2.heap.size ≤ b → b < W.heap.size → ¬ z = b := fun b h1 h2 e => by
   subst e
   rcases hk' z rfl with h | h
   ·have := (hlt0 z h).2; omega
   ·omega
  obtain ⟨-, cur, hcur, hcs0⟩ := T7.tq.mem
  have hcs : t.checks.length * 10 + 10 ≤ cur.size := by
   have : (t.checks ++ [P12.E.none]).length = t.checks.length + 1 := by simp
   rw [show ({ t with checks := t.checks ++ [P12.E.none] } : P12.Tb).checks = t.checks ++ [P12.E.none] from rfl, this] at hcs0
   omega
  have HC7 := Lib.hid hcur
  have hb7 : w7.cell? ⟨gx, 4, none⟩ = some (.slice c1 t.checks.length c2) := by simp [World.cell?, T7.blk]
  have f7 := frozen_of_row w7 gx 4 _ _ T7.blk
  have T7H := Lib.hid T7
  clear ho' hg' hk' hlt hown hu2 hu3 HU us HTW hx' hgc hge hr1 he hcur T7 T hS hcs0
  show wpAny _ _ _ _ _ _ _ _
  obtain ⟨kd, op', vk, vi, vs, tb, nm, pp, pm, pc, rfl⟩ := HE7.out.form
  refine Xg.any_two (j := 12) (k := 14) (by kernel_rfl) rfl rfl ?_ ?_
  ·go_wp2
   show wpAny _ _ _ _ _ _ _ _
   refine Xg.any_two (j := 13) (k := 14) (by kernel_rfl) rfl rfl ?_ ?_
   ·refine wpList_putMid rfl 35 _ _ rfl z (t.checks.length * 10) cur _ 35 rfl rfl HC7.out hcs (by kernel_rfl) (by kernel_rfl) ?_
    intro w8 hp8
    show wpAny _ _ _ _ _ _ _ _
    have T8 := Tab.put2 T7H.out HC7.out hp8 rfl (HE7.out.keep (fun _ _ _ => rfl) (fun b hb _ => ⟨⟨by omega, hnew b hb.1⟩, hzW b hb.1 hb.2⟩))
    have hb8 : w8.cell? ⟨gx, 4, none⟩ = some (.slice c1 t.checks.length c2) := by simp [World.cell?, T8.blk]
    have f8 := frozen_of_row w8 gx 4 _ _ T8.blk
    have T8H := Lib.hid T8
    have HP8 := Lib.hid hp8
    clear T8 hp8
    refine Xg.any_one (k := 14) (by kernel_rfl) rfl ?_
    go_wp2
    show wpAny _ _ _ _ _ _ _ _
    refine Xg.any_one (k := 15) (by kernel_rfl) rfl ?_
    go_wp2
    show wpAny _ _ _ _ _ _ _ _
    refine Xg.any_one (k := 16) (by kernel_rfl) rfl ?_
    go_wp2
    show wpAny _ _ _ _ _ _ _ _
    refine Xg.any_one (k := 17) (by kernel_rfl) rfl ?_
    go_wp2
    show wpAny _ _ _ _ _ _ _ _
    refine Xg.any_nil (by kernel_rfl) ?_
    go_wp2
    go_end0
    exact ⟨rfl, ⟨_, _, _, _, _, T8H.out.setX 4 (.slice (some ⟨z, 0, none⟩) (t.checks.length + 1) cz), hcg⟩, (heap_setCell_other w8 ⟨gx, 4, none⟩ gm _ (fun e => F2.h4 (by simpa using e))).trans ((HP8.out.rest gm (by omega)).trans HM7.out), Rd.setCell (Puts.rd HP8.out HR7.out (by omega)) F2.h1 _ _, HKP.out, (HK7.out.trans (KeptG.of_puts HP8.out hzG)).setCell (.inr ⟨by simp, hsz2.1⟩) _ _⟩
   ·go_wp2
    show wpAny _ _ _ _ _ _ _ _
    refine Xg.any_two (j := 13) (k := 15) (by kernel_rfl) rfl rfl ?_ ?_
    ·refine wpList_putMid rfl 35 _ _ rfl z (t.checks.length * 10) cur _ 35 rfl rfl HC7.out hcs (by kernel_rfl) (by kernel_rfl) ?_
     intro w8 hp8
     show wpAny _ _ _ _ _ _ _ _
     have T8 := Tab.put2 T7H.out HC7.out hp8 rfl (HE7.out.keep (fun _ _ _ => rfl) (fun b hb _ => ⟨⟨by omega, hnew b hb.1⟩, hzW b hb.1 hb.2⟩))
     have hb8 : w8.cell? ⟨gx, 4, none⟩ = some (.slice c1 t.checks.length c2) := by simp [World.cell?, T8.blk]
     have f8 := frozen_of_row w8 gx 4 _ _ T8.blk
     have T8H := Lib.hid T8
     have HP8 := Lib.hid hp8
     clear T8 hp8
     refine Xg.any_one (k := 15) (by kernel_rfl) rfl ?_
     go_wp2
     show wpAny _ _ _ _ _ _ _ _
     refine Xg.any_one (k := 16) (by kernel_rfl) rfl ?_
     go_wp2
     show wpAny _ _ _ _ _ _ _ _
     refine Xg.any_one (k := 17) (by kernel_rfl) rfl ?_
     go_wp2
     show wpAny _ _ _ _ _ _ _ _
     refine Xg.any_nil (by kernel_rfl) ?_
     go_wp2
     go_end0
     exact ⟨rfl, ⟨_, _, _, _, _, T8H.out.setX 4 (.slice (some ⟨z, 0, none⟩) (t.checks.length + 1) cz), hcg⟩, (heap_setCell_other w8 ⟨gx, 4, none⟩ gm _ (fun e => F2.h4 (by simpa using e))).trans ((HP8.out.rest gm (by omega)).trans HM7.out), Rd.setCell (Puts.rd HP8.out HR7.out (by omega)) F2.h1 _ _, HKP.out, (HK7.out.trans (KeptG.of_puts HP8.out hzG)).setCell (.inr ⟨by simp, hsz2.1⟩) _ _⟩
    ·go_wp2
     show wpAny _ _ _ _ _ _ _ _
     refine Xg.any_two (j := 13) (k := 16) (by kernel_rfl) rfl rfl ?_ ?_
     ·refine wpList_putMid rfl 35 _ _ rfl z (t.checks.length * 10) cur _ 35 rfl rfl HC7.out hcs (by kernel_rfl) (by kernel_rfl) ?_
      intro w8 hp8
      show wpAny _ _ _ _ _ _ _ _
      have T8 := Tab.put2 T7H.out HC7.out hp8 rfl (HE7.out.keep (fun _ _ _ => rfl) (fun b hb _ => ⟨⟨by omega, hnew b hb.1⟩, hzW b hb.1 hb.2⟩))
      have hb8 : w8.cell? ⟨gx, 4, none⟩ = some (.slice c1 t.checks.length c2) := by simp [World.cell?, T8.blk]
      have f8 := frozen_of_row w8 gx 4 _ _ T8.blk
      have T8H := Lib.hid T8
      have HP8 := Lib.hid hp8
      clear T8 hp8
      refine Xg.any_one (k := 16) (by kernel_rfl) rfl ?_
      go_wp2
      show wpAny _ _ _ _ _ _ _ _
      refine Xg.any_one (k := 17) (by kernel_rfl) rfl ?_
      go_wp2
      show wpAny _ _ _ _ _ _ _ _
      refine Xg.any_nil (by kernel_rfl) ?_
      go_wp2
      go_end0
      exact ⟨rfl, ⟨_, _, _, _, _, T8H.out.setX 4 (.slice (some ⟨z, 0, none⟩) (t.checks.length + 1) cz), hcg⟩, (heap_setCell_other w8 ⟨gx, 4, none⟩ gm _ (fun e => F2.h4 (by simpa using e))).trans ((HP8.out.rest gm (by omega)).trans HM7.out), Rd.setCell (Puts.rd HP8.out HR7.out (by omega)) F2.h1 _ _, HKP.out, (HK7.out.trans (KeptG.of_puts HP8.out hzG)).setCell (.inr ⟨by simp, hsz2.1⟩) _ _⟩
     ·go_wp2
      show wpAny _ _ _ _ _ _ _ _
      refine Xg.any_two (j := 13) (k := 17) (by kernel_rfl) rfl rfl ?_ ?_
      ·refine wpList_putMid rfl 35 _ _ rfl z (t.checks.length * 10) cur _ 35 rfl rfl HC7.out hcs (by kernel_rfl) (by kernel_rfl) ?_
       intro w8 hp8
       show wpAny _ _ _ _ _ _ _ _
       have T8 := Tab.put2 T7H.out HC7.out hp8 rfl (HE7.out.keep (fun _ _ _ => rfl) (fun b hb _ => ⟨⟨by omega, hnew b hb.1⟩, hzW b hb.1 hb.2⟩))
       have hb8 : w8.cell? ⟨gx, 4, none⟩ = some (.slice c1 t.checks.length c2) := by simp [World.cell?, T8.blk]
       have f8 := frozen_of_row w8 gx 4 _ _ T8.blk
       have T8H := Lib.hid T8
       have HP8 := Lib.hid hp8
       clear T8 hp8
       refine Xg.any_one (k := 17) (by kernel_rfl) rfl ?_
       go_wp2
       show wpAny _ _ _ _ _ _ _ _
       refine Xg.any_nil (by kernel_rfl) ?_
       go_wp2
       go_end0
       exact ⟨rfl, ⟨_, _, _, _, _, T8H.out.setX 4 (.slice (some ⟨z, 0, none⟩) (t.checks.length + 1) cz), hcg⟩, (heap_setCell_other w8 ⟨gx, 4, none⟩ gm _ (fun e => F2.h4 (by simpa using e))).trans ((HP8.out.rest gm (by omega)).trans HM7.out), Rd.setCell (Puts.rd HP8.out HR7.out (by omega)) F2.h1 _ _, HKP.out, (HK7.out.trans (KeptG.of_puts HP8.out hzG)).setCell (.inr ⟨by simp, hsz2.1⟩) _ _⟩
      ·go_wp2
       show wpAny _ _ _ _ _ _ _ _
       refine Xg.any_one (k := 13) (by kernel_rfl) rfl ?_
       refine wpList_putMid rfl 35 _ _ rfl z (t.checks.length * 10) cur _ 35 rfl rfl ((heap_setCell_other w7 ⟨gx, 4, none⟩ z _ (fun e => by (have h : z = gx := (by simpa using e)); omega)).trans HC7.out) hcs (by kernel_rfl) (by kernel_rfl) ?_
       intro w8 hp8
       show wpAny _ _ _ _ _ _ _ _
       refine Xg.any_nil (by kernel_rfl) ?_
       go_wp2
       go_end0
       have hrst : ∀ b, b ≠ gx → (w7.setCell ⟨gx, 4, none⟩ (.slice (some ⟨z, 0, none⟩) (t.checks.length + 1) cz)).heap[b]? = w7.heap[b]? := fun b hb => heap_setCell_other w7 ⟨gx, 4, none⟩ b _ (fun e => hb (by simpa using e))
       exact ⟨rfl, ⟨_, _, _, _, _, Tab.put2 (T7H.out.setX 4 (.slice (some ⟨z, 0, none⟩) (t.checks.length + 1) cz)) ((hrst z (by omega)).trans HC7.out) hp8 rfl (HE7.out.keep (fun b hb hl => hrst b (by omega)) (fun b hb _ => ⟨⟨by omega, hnew b hb.1⟩, hzW b hb.1 hb.2⟩)), hcg⟩, (hp8.rest gm (by omega)).trans ((hrst gm F2.h4).trans HM7.out), Puts.rd hp8 (Rd.setCell HR7.out F2.h1 _ _) (by omega), HKP.out, (HK7.out.setCell (.inr ⟨by simp, hsz2.1⟩) _ _).trans (KeptG.of_puts hp8 hzG)⟩
  ·go_wp2
   show wpAny _ _ _ _ _ _ _ _
   refine Xg.any_two (j := 12) (k := 15) (by kernel_rfl) rfl rfl ?_ ?_
   ·go_wp2
    show wpAny _ _ _ _ _ _ _ _
    refine Xg.any_two (j := 13) (k := 15) (by kernel_rfl) rfl rfl ?_ ?_
    ·refine wpList_putMid rfl 35 _ _ rfl z (t.checks.length * 10) cur _ 35 rfl rfl HC7.out hcs (by kernel_rfl) (by kernel_rfl) ?_
     intro w8 hp8
     show wpAny _ _ _ _ _ _ _ _
     have T8 := Tab.put2 T7H.out HC7.out hp8 rfl (HE7.out.keep (fun _ _ _ => rfl) (fun b hb _ => ⟨⟨by omega, hnew b hb.1⟩, hzW b hb.1 hb.2⟩))
     have hb8 : w8.cell? ⟨gx, 4, none⟩ = some (.slice c1 t.checks.length c2) := by simp [World.cell?, T8.blk]
     have f8 := frozen_of_row w8 gx 4 _ _ T8.blk
     have T8H := Lib.hid T8
     have HP8 := Lib.hid hp8
     clear T8 hp8
     refine Xg.any_one (k := 15) (by kernel_rfl) rfl ?_
     go_wp2
     show wpAny _ _ _ _ _ _ _ _
     refine Xg.any_one (k := 16) (by kernel_rfl) rfl ?_
     go_wp2
     show wpAny _ _ _ _ _ _ _ _
     refine Xg.any_one (k := 17) (by kernel_rfl) rfl ?_
     go_wp2
     show wpAny _ _ _ _ _ _ _ _
     refine Xg.any_nil (by kernel_rfl) ?_
     go_wp2
     go_end0
     exact ⟨rfl, ⟨_, _, _, _, _, T8H.out.setX 4 (.slice (some ⟨z, 0, none⟩) (t.checks.length + 1) cz), hcg⟩, (heap_setCell_other w8 ⟨gx, 4, none⟩ gm _ (fun e => F2.h4 (by simpa using e))).trans ((HP8.out.rest gm (by omega)).trans HM7.out), Rd.setCell (Puts.rd HP8.out HR7.out (by omega)) F2.h1 _ _, HKP.out, (HK7.out.trans (KeptG.of_puts HP8.out hzG)).setCell (.inr ⟨by simp, hsz2.1⟩) _ _⟩
    ·go_wp2
     show wpAny _ _ _ _ _ _ _ _
     refine Xg.any_two (j := 13) (k := 16) (by kernel_rfl) rfl rfl ?_ ?_
     ·refine wpList_putMid rfl 35 _ _ rfl z (t.checks.length * 10) cur _ 35 rfl rfl HC7.out hcs (by kernel_rfl) (by kernel_rfl) ?_
      intro w8 hp8
      show wpAny _ _ _ _ _ _ _ _
      have T8 := Tab.put2 T7H.out HC7.out hp8 rfl (HE7.out.keep (fun _ _ _ => rfl) (fun b hb _ => ⟨⟨by omega, hnew b hb.1⟩, hzW b hb.1 hb.2⟩))
      have hb8 : w8.cell? ⟨gx, 4, none⟩ = some (.slice c1 t.checks.length c2) := by simp [World.cell?, T8.blk]
      have f8 := frozen_of_row w8 gx 4 _ _ T8.blk
      have T8H := Lib.hid T8
      have HP8 := Lib.hid hp8
      clear T8 hp8
      refine Xg.any_one (k := 16) (by kernel_rfl) rfl ?_
      go_wp2
      show wpAny _ _ _ _ _ _ _ _
      refine Xg.any_one (k := 17) (by kernel_rfl) rfl ?_
      go_wp2
      show wpAny _ _ _ _ _ _ _ _
      refine Xg.any_nil (by kernel_rfl) ?_
      go_wp2
      go_end0
      exact ⟨rfl, ⟨_, _, _, _, _, T8H.out.setX 4 (.slice (some ⟨z, 0, none⟩) (t.checks.length + 1) cz), hcg⟩, (heap_setCell_other w8 ⟨gx, 4, none⟩ gm _ (fun e => F2.h4 (by simpa using e))).trans ((HP8.out.rest gm (by omega)).trans HM7.out), Rd.setCell (Puts.rd HP8.out HR7.out (by omega)) F2.h1 _ _, HKP.out, (HK7.out.trans (KeptG.of_puts HP8.out hzG)).setCell (.inr ⟨by simp, hsz2.1⟩) _ _⟩
     ·go_wp2
      show wpAny _ _ _ _ _ _ _ _
      refine Xg.any_two (j := 13) (k := 17) (by kernel_rfl) rfl rfl ?_ ?_
      ·refine wpList_putMid rfl 35 _ _ rfl z (t.checks.length * 10) cur _ 35 rfl rfl HC7.out hcs (by kernel_rfl) (by kernel_rfl) ?_
       intro w8 hp8
       show wpAny _ _ _ _ _ _ _ _
       have T8 := Tab.put2 T7H.out HC7.out hp8 rfl (HE7.out.keep (fun _ _ _ => rfl) (fun b hb _ => ⟨⟨by omega, hnew b hb.1⟩, hzW b hb.1 hb.2⟩))
       have hb8 : w8.cell? ⟨gx, 4, none⟩ = some (.slice c1 t.checks.length c2) := by simp [World.cell?, T8.blk]
       have f8 := frozen_of_row w8 gx 4 _ _ T8.blk
       have T8H := Lib.hid T8
       have HP8 := Lib.hid hp8
       clear T8 hp8
       refine Xg.any_one (k := 17) (by kernel_rfl) rfl ?_
       go_wp2
       show wpAny _ _ _ _ _ _ _ _
       refine Xg.any_nil (by kernel_rfl) ?_
       go_wp2
       go_end0
       exact ⟨rfl, ⟨_, _, _, _, _, T8H.out.setX 4 (.slice (some ⟨z, 0, none⟩) (t.checks.length + 1) cz), hcg⟩, (heap_setCell_other w8 ⟨gx, 4, none⟩ gm _ (fun e => F2.h4 (by simpa using e))).trans ((HP8.out.rest gm (by omega)).trans HM7.out), Rd.setCell (Puts.rd HP8.out HR7.out (by omega)) F2.h1 _ _, HKP.out, (HK7.out.trans (KeptG.of_puts HP8.out hzG)).setCell (.inr ⟨by simp, hsz2.1⟩) _ _⟩
      ·go_wp2
       show wpAny _ _ _ _ _ _ _ _
       refine Xg.any_one (k := 13) (by kernel_rfl) rfl ?_
       refine wpList_putMid rfl 35 _ _ rfl z (t.checks.length * 10) cur _ 35 rfl rfl ((heap_setCell_other w7 ⟨gx, 4, none⟩ z _ (fun e => by (have h : z = gx := (by simpa using e)); omega)).trans HC7.out) hcs (by kernel_rfl) (by kernel_rfl) ?_
       intro w8 hp8
       show wpAny _ _ _ _ _ _ _ _
       refine Xg.any_nil (by kernel_rfl) ?_
       go_wp2
       go_end0
       have hrst : ∀ b, b ≠ gx → (w7.setCell ⟨gx, 4, none⟩ (.slice (some ⟨z, 0, none⟩) (t.checks.length + 1) cz)).heap[b]? = w7.heap[b]? := fun b hb => heap_setCell_other w7 ⟨gx, 4, none⟩ b _ (fun e => hb (by simpa using e))
       exact ⟨rfl, ⟨_, _, _, _, _, Tab.put2 (T7H.out.setX 4 (.slice (some ⟨z, 0, none⟩) (t.checks.length + 1) cz)) ((hrst z (by omega)).trans HC7.out) hp8 rfl (HE7.out.keep (fun b hb hl => hrst b (by omega)) (fun b hb _ => ⟨⟨by omega, hnew b hb.1⟩, hzW b hb.1 hb.2⟩)), hcg⟩, (hp8.rest gm (by omega)).trans ((hrst gm F2.h4).trans HM7.out), Puts.rd hp8 (Rd.setCell HR7.out F2.h1 _ _) (by omega), HKP.out, (HK7.out.setCell (.inr ⟨by simp, hsz2.1⟩) _ _).trans (KeptG.of_puts hp8 hzG)⟩
   ·go_wp2
    show wpAny _ _ _ _ _ _ _ _
    refine Xg.any_two (j := 12) (k := 16) (by kernel_rfl) rfl rfl ?_ ?_
    ·go_wp2
     show wpAny _ _ _ _ _ _ _ _
     refine Xg.any_two (j := 13) (k := 16) (by kernel_rfl) rfl rfl ?_ ?_
     ·refine wpList_putMid rfl 35 _ _ rfl z (t.checks.length * 10) cur _ 35 rfl rfl HC7.out hcs (by kernel_rfl) (by kernel_rfl) ?_
      intro w8 hp8
      show wpAny _ _ _ _ _ _ _ _
      have T8 := Tab.put2 T7H.out HC7.out hp8 rfl (HE7.out.keep (fun _ _ _ => rfl) (fun b hb _ => ⟨⟨by omega, hnew b hb.1⟩, hzW b hb.1 hb.2⟩))
      have hb8 : w8.cell? ⟨gx, 4, none⟩ = some (.slice c1 t.checks.length c2) := by simp [World.cell?, T8.blk]
      have f8 := frozen_of_row w8 gx 4 _ _ T8.blk
      have T8H := Lib.hid T8
      have HP8 := Lib.hid hp8
      clear T8 hp8
      refine Xg.any_one (k := 16) (by kernel_rfl) rfl ?_
      go_wp2
      show wpAny _ _ _ _ _ _ _ _
      refine Xg.any_one (k := 17) (by kernel_rfl) rfl ?_
      go_wp2
      show wpAny _ _ _ _ _ _ _ _
      refine Xg.any_nil (by kernel_rfl) ?_
      go_wp2
      go_end0
      exact ⟨rfl, ⟨_, _, _, _, _, T8H.out.setX 4 (.slice (some ⟨z, 0, none⟩) (t.checks.length + 1) cz), hcg⟩, (heap_setCell_other w8 ⟨gx, 4, none⟩ gm _ (fun e => F2.h4 (by simpa using e))).trans ((HP8.out.rest gm (by omega)).trans HM7.out), Rd.setCell (Puts.rd HP8.out HR7.out (by omega)) F2.h1 _ _, HKP.out, (HK7.out.trans (KeptG.of_puts HP8.out hzG)).setCell (.inr ⟨by simp, hsz2.1⟩) _ _⟩
     ·go_wp2
      show wpAny _ _ _ _ _ _ _ _
      refine Xg.any_two (j := 13) (k := 17) (by kernel_rfl) rfl rfl ?_ ?_
      ·refine wpList_putMid rfl 35 _ _ rfl z (t.checks.length * 10) cur _ 35 rfl rfl HC7.out hcs (by kernel_rfl) (by kernel_rfl) ?_
       intro w8 hp8
       show wpAny _ _ _ _ _ _ _ _
       have T8 := Tab.put2 T7H.out HC7.out hp8 rfl (HE7.out.keep (fun _ _ _ => rfl) (fun b hb _ => ⟨⟨by omega, hnew b hb.1⟩, hzW b hb.1 hb.2⟩))
       have hb8 : w8.cell? ⟨gx, 4, none⟩ = some (.slice c1 t.checks.length c2) := by simp [World.cell?, T8.blk]
       have f8 := frozen_of_row w8 gx 4 _ _ T8.blk
       have T8H := Lib.hid T8
       have HP8 := Lib.hid hp8
       clear T8 hp8
       refine Xg.any_one (k := 17) (by kernel_rfl) rfl ?_
       go_wp2
       show wpAny _ _ _ _ _ _ _ _
       refine Xg.any_nil (by kernel_rfl) ?_
       go_wp2
       go_end0
       exact ⟨rfl, ⟨_, _, _, _, _, T8H.out.setX 4 (.slice (some ⟨z, 0, none⟩) (t.checks.length + 1) cz), hcg⟩, (heap_setCell_other w8 ⟨gx, 4, none⟩ gm _ (fun e => F2.h4 (by simpa using e))).trans ((HP8.out.rest gm (by omega)).trans HM7.out), Rd.setCell (Puts.rd HP8.out HR7.out (by omega)) F2.h1 _ _, HKP.out, (HK7.out.trans (KeptG.of_puts HP8.out hzG)).setCell (.inr ⟨by simp, hsz2.1⟩) _ _⟩
      ·go_wp2
       show wpAny _ _ _ _ _ _ _ _
       refine Xg.any_one (k := 13) (by kernel_rfl) rfl ?_
       refine wpList_putMid rfl 35 _ _ rfl z (t.checks.length * 10) cur _ 35 rfl rfl ((heap_setCell_other w7 ⟨gx, 4, none⟩ z _ (fun e => by (have h : z = gx := (by simpa using e)); omega)).trans HC7.out) hcs (by kernel_rfl) (by kernel_rfl) ?_
       intro w8 hp8
       show wpAny _ _ _ _ _ _ _ _
       refine Xg.any_nil (by kernel_rfl) ?_
       go_wp2
       go_end0
       have hrst : ∀ b, b ≠ gx → (w7.setCell ⟨gx, 4, none⟩ (.slice (some ⟨z, 0, none⟩) (t.checks.length + 1) cz)).heap[b]? = w7.heap[b]? := fun b hb => heap_setCell_other w7 ⟨gx, 4, none⟩ b _ (fun e => hb (by simpa using e))
       exact ⟨rfl, ⟨_, _, _, _, _, Tab.put2 (T7H.out.setX 4 (.slice (some ⟨z, 0, none⟩) (t.checks.length + 1) cz)) ((hrst z (by omega)).trans HC7.out) hp8 rfl (HE7.out.keep (fun b hb hl => hrst b (by omega)) (fun b hb _ => ⟨⟨by omega, hnew b hb.1⟩, hzW b hb.1 hb.2⟩)), hcg⟩, (hp8.rest gm (by omega)).trans ((hrst gm F2.h4).trans HM7.out), Puts.rd hp8 (Rd.setCell HR7.out F2.h1 _ _) (by omega), HKP.out, (HK7.out.setCell (.inr ⟨by simp, hsz2.1⟩) _ _).trans (KeptG.of_puts hp8 hzG)⟩
    ·go_wp2
     show wpAny _ _ _ _ _ _ _ _
     refine Xg.any_two (j := 12) (k := 17) (by kernel_rfl) rfl rfl ?_ ?_
     ·go_wp2
      show wpAny _ _ _ _ _ _ _ _
      refine Xg.any_two (j := 13) (k := 17) (by kernel_rfl) rfl rfl ?_ ?_
      ·refine wpList_putMid rfl 35 _ _ rfl z (t.checks.length * 10) cur _ 35 rfl rfl HC7.out hcs (by kernel_rfl) (by kernel_rfl) ?_
       intro w8 hp8
       show wpAny _ _ _ _ _ _ _ _
       have T8 := Tab.put2 T7H.out HC7.out hp8 rfl (HE7.out.keep (fun _ _ _ => rfl) (fun b hb _ => ⟨⟨by omega, hnew b hb.1⟩, hzW b hb.1 hb.2⟩))
       have hb8 : w8.cell? ⟨gx, 4, none⟩ = some (.slice c1 t.checks.length c2) := by simp [World.cell?, T8.blk]
       have f8 := frozen_of_row w8 gx 4 _ _ T8.blk
       have T8H := Lib.hid T8
       have HP8 := Lib.hid hp8
       clear T8 hp8
       refine Xg.any_one (k := 17) (by kernel_rfl) rfl ?_
       go_wp2
       show wpAny _ _ _ _ _ _ _ _
       refine Xg.any_nil (by kernel_rfl) ?_
       go_wp2
       go_end0
       exact ⟨rfl, ⟨_, _, _, _, _, T8H.out.setX 4 (.slice (some ⟨z, 0, none⟩) (t.checks.length + 1) cz), hcg⟩, (heap_setCell_other w8 ⟨gx, 4, none⟩ gm _ (fun e => F2.h4 (by simpa using e))).trans ((HP8.out.rest gm (by omega)).trans HM7.out), Rd.setCell (Puts.rd HP8.out HR7.out (by omega)) F2.h1 _ _, HKP.out, (HK7.out.trans (KeptG.of_puts HP8.out hzG)).setCell (.inr ⟨by simp, hsz2.1⟩) _ _⟩
      ·go_wp2
       show wpAny _ _ _ _ _ _ _ _
       refine Xg.any_one (k := 13) (by kernel_rfl) rfl ?_
       refine wpList_putMid rfl 35 _ _ rfl z (t.checks.length * 10) cur _ 35 rfl rfl ((heap_setCell_other w7 ⟨gx, 4, none⟩ z _ (fun e => by (have h : z = gx := (by simpa using e)); omega)).trans HC7.out) hcs (by kernel_rfl) (by kernel_rfl) ?_
       intro w8 hp8
       show wpAny _ _ _ _ _ _ _ _
       refine Xg.any_nil (by kernel_rfl) ?_
       go_wp2
       go_end0
       have hrst : ∀ b, b ≠ gx → (w7.setCell ⟨gx, 4, none⟩ (.slice (some ⟨z, 0, none⟩) (t.checks.length + 1) cz)).heap[b]? = w7.heap[b]? := fun b hb => heap_setCell_other w7 ⟨gx, 4, none⟩ b _ (fun e => hb (by simpa using e))
       exact ⟨rfl, ⟨_, _, _, _, _, Tab.put2 (T7H.out.setX 4 (.slice (some ⟨z, 0, none⟩) (t.checks.length + 1) cz)) ((hrst z (by omega)).trans HC7.out) hp8 rfl (HE7.out.keep (fun b hb hl => hrst b (by omega)) (fun b hb _ => ⟨⟨by omega, hnew b hb.1⟩, hzW b hb.1 hb.2⟩)), hcg⟩, (hp8.rest gm (by omega)).trans ((hrst gm F2.h4).trans HM7.out), Puts.rd hp8 (Rd.setCell HR7.out F2.h1 _ _) (by omega), HKP.out, (HK7.out.setCell (.inr ⟨by simp, hsz2.1⟩) _ _).trans (KeptG.of_puts hp8 hzG)⟩
     ·go_wp2
      show wpAny _ _ _ _ _ _ _ _
      refine Xg.any_one (k := 12) (by kernel_rfl) rfl ?_
      go_wp2
      show wpAny _ _ _ _ _ _ _ _
      refine Xg.any_one (k := 13) (by kernel_rfl) rfl ?_
      refine wpList_putMid rfl 35 _ _ rfl z (t.checks.length * 10) cur _ 35 rfl rfl ((heap_setCell_other w7 ⟨gx, 4, none⟩ z _ (fun e => by (have h : z = gx := (by simpa using e)); omega)).trans HC7.out) hcs (by kernel_rfl) (by kernel_rfl) ?_
      intro w8 hp8
      show wpAny _ _ _ _ _ _ _ _
      refine Xg.any_nil (by kernel_rfl) ?_
      go_wp2
      go_end0
      have hrst : ∀ b, b ≠ gx → (w7.setCell ⟨gx, 4, none⟩ (.slice (some ⟨z, 0, none⟩) (t.checks.length + 1) cz)).heap[b]? = w7.heap[b]? := fun b hb => heap_setCell_other w7 ⟨gx, 4, none⟩ b _ (fun e => hb (by simpa using e))
      exact ⟨rfl, ⟨_, _, _, _, _, Tab.put2 (T7H.out.setX 4 (.slice (some ⟨z, 0, none⟩) (t.checks.length + 1) cz)) ((hrst z (by omega)).trans HC7.out) hp8 rfl (HE7.out.keep (fun b hb hl => hrst b (by omega)) (fun b hb _ => ⟨⟨by omega, hnew b hb.1⟩, hzW b hb.1 hb.2⟩)), hcg⟩, (hp8.rest gm (by omega)).trans ((hrst gm F2.h4).trans HM7.out), Puts.rd hp8 (Rd.setCell HR7.out F2.h1 _ _) (by omega), HKP.out, (HK7.out.setCell (.inr ⟨by simp, hsz2.1⟩) _ _).trans (KeptG.of_puts hp8 hzG)⟩
end Go.Proofs.YtkpmclddjkebeaaGreatDoor
