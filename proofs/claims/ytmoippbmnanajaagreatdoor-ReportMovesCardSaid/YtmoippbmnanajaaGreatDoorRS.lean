/- Walks: report.guess, of a table. -/
import Derived.Test.YtmoippbmnanajaaGreatDoorRQ
set_option linter.unusedSimpArgs false
set_option linter.unusedVariables false
namespace Go.Proofs.YtmoippbmnanajaaGreatDoor
open Go.RowKit
theorem heap_exw_alloc {w W : World} {o : Obj} (h : Xk.Ext (w.alloc o) W) : W.heap[w.heap.size]? = some o := by
  rw [h.block _ (by simp), heap_alloc_new]
abbrev ansObj (vc vr : Value) (n : Int) : Obj := .cells #[vc, vr, .int .i64 n] 25 (0, 0)
theorem own_form {w : World} {base : Nat} {e : TypeId} {sz : Nat} {v : Value} {n : Nat} {xs : List Value} (h : w.ownsRow base e sz v n xs) (hn : 0 < n) : ∃ g cap, v = .slice (some ⟨g, 0, none⟩) n cap := by
  rcases h.2 with ⟨-, h0⟩ | ⟨g, cap, cur, hv, -⟩
  · omega
  · exact ⟨g, cap, hv⟩
theorem own_form0 {w : World} {base : Nat} {e : TypeId} {sz : Nat} {v : Value} {n : Nat} {xs : List Value} (h : w.ownsRow base e sz v n xs) : ∃ p cap, v = .slice p n cap := by
  rcases h.2 with ⟨hv, h0⟩ | ⟨g, cap, cur, hv, -⟩
  · exact ⟨none, 0, by rw [hv, h0]⟩
  · exact ⟨_, cap, hv⟩
theorem rows_lives {B : Nat} {w : World} {e : TypeId} {v : Value} {n : Nat} {us : List Value} {l : List (List V)} (h : w.ownsRow B e 1 v n us) (hl : l.length = n) (hu : ∀ (j : Nat) (u : Value) (x : List V), us[j]? = some u → l[j]? = some x → Xo.Lives B [v.ownBlock] w (fun W => RowAt W u x)) :
    Xo.Lives B [] w fun W => RowsAt W v l := fun W h1 h2 => by
  have ho := Xo.lives_own h (ks := []) (by simp) W h1 h2
  refine SlAt.own ho hl fun b j x hj hc => ?_
  obtain ⟨u, hju⟩ : ∃ u, us[j]? = some u := ⟨_, List.getElem?_eq_getElem (by have := h.1; have := (List.getElem?_eq_some_iff.1 hj).1; omega)⟩
  refine ⟨u, by have := hc 0 u (by decide) (by simpa using hju); simpa using this, ?_⟩
  exact (hu j u x hju hj) W h1 fun b hb hl _ => h2 b hb hl (by simp)
theorem cutAt_none (s : List UInt8) (vw : Value) (ws : List Nat) (h : P25.cut 0 s ws = none) (w : World) (hw : IntsAt w vw ws) (hs : s.length ≤ 2000000000) (hn : ws.length ≤ 100000) (hm : ∀ n ∈ ws, n ≤ 4000000000) :
    Calls Tryz.prog 60 #[.string ⟨s.toArray⟩, vw] w fun e w' => ∃ v, e = .returned (.tuple #[v, .bool false]) ∧ Below w.heap.size w w' :=
  (cutAt_any s vw ws w hw hs hn hm).mono fun e w' ⟨hb, hm⟩ => by
    rw [h] at hm
    obtain ⟨v, hv⟩ := hm
    exact ⟨v, hv, hb⟩
theorem cutAt_some (s : List UInt8) (vw : Value) (ws : List Nat) (l : List (List UInt8)) (h : P25.cut 0 s ws = some l) (w : World) (hw : IntsAt w vw ws) (hs : s.length ≤ 2000000000) (hn : ws.length ≤ 100000) (hm : ∀ n ∈ ws, n ≤ 4000000000) :
    Calls Tryz.prog 60 #[.string ⟨s.toArray⟩, vw] w fun e w' => ∃ v, e = .returned (.tuple #[v, .bool true]) ∧ Xo.Lives w.heap.size [] w' (fun W => StrsAt W v l) ∧ Below w.heap.size w w' :=
  (cutAt_any s vw ws w hw hs hn hm).mono fun e w' ⟨hb, hm⟩ => by
    rw [h] at hm
    obtain ⟨v, hv, hl⟩ := hm
    exact ⟨v, hv, hl, hb⟩
theorem rowIn_none (vl : Value) (l : List (List UInt8)) (h : rowIn l = none) (w : World) (hE : EnvR w) (hl : StrsAt w vl l) (hn : l.length ≤ 100000) (hm : ∀ x ∈ l, x.length ≤ 2000000000) :
    Calls Tryz.prog 62 #[vl] w fun e w' => ∃ v, e = .returned (.tuple #[v, .bool false]) ∧ Below w.heap.size w w' :=
  (rowIn_any vl l w hE hl hn hm).mono fun e w' ⟨hb, hm⟩ => by
    rw [h] at hm
    obtain ⟨v, hv⟩ := hm
    exact ⟨v, hv, hb⟩
theorem rowIn_some (vl : Value) (l : List (List UInt8)) (r : List V) (h : rowIn l = some r) (w : World) (hE : EnvR w) (hl : StrsAt w vl l) (hn : l.length ≤ 100000) (hm : ∀ x ∈ l, x.length ≤ 2000000000) :
    Calls Tryz.prog 62 #[vl] w fun e w' => ∃ v, e = .returned (.tuple #[v, .bool true]) ∧ Xo.Lives w.heap.size [] w' (fun W => RowAt W v r) ∧ Below w.heap.size w w' :=
  (rowIn_any vl l w hE hl hn hm).mono fun e w' ⟨hb, hm⟩ => by
    rw [h] at hm
    obtain ⟨v, hv, hl⟩ := hm
    exact ⟨v, hv, hl, hb⟩
theorem cut_most : ∀ (ws : List Nat) (k : Nat) (s : List UInt8) (l : List (List UInt8)), P25.cut k s ws = some l → l.length = ws.length ∧ ∀ x ∈ l, x.length ≤ s.length
  | [], k, s, l, h => by
    unfold P25.cut at h
    split at h
    · cases h; exact ⟨rfl, fun x hx => by cases hx⟩
    · cases h
  | n :: r, k, s, l, h => by
    unfold P25.cut at h
    cases hr : P25.rest k s with
    | none => rw [hr] at h; cases h
    | some t =>
      rw [hr] at h
      dsimp only at h
      have ht : t.length ≤ s.length := by
        unfold P25.rest at hr
        split at hr
        · cases hr; exact Nat.le_refl _
        · split at hr
          · cases hr; rw [List.length_drop]; omega
          · split at hr
            · cases hr; exact Nat.zero_le _
            · cases hr
      cases hc : P25.cut (k + 1) (t.drop n) r with
      | none => rw [hc] at h; cases h
      | some l' =>
        rw [hc] at h
        cases h
        obtain ⟨h1, h2⟩ := cut_most r (k + 1) _ l' hc
        refine ⟨by simp [h1], fun x hx => ?_⟩
        rcases List.mem_cons.1 hx with rfl | hx
        · rw [List.length_take]; omega
        · have := h2 x hx
          rw [List.length_drop] at this
          omega
set_option maxRecDepth 100000 in
set_option maxHeartbeats 16000000 in
theorem guess_many (s : List UInt8) (w : World) (hE : EnvR w) (hs : s.length ≤ 2000000000) (h3 : 3 ≤ (linesOf s).length) (hln : (linesOf s).length ≤ 100001) (hm : ∀ x ∈ linesOf s, x.length ≤ 2000000000)
    (hw : (widths ((linesOf s).getD 1 [])).length ≤ 100000) (hwm : ∀ x ∈ Lib.split ((linesOf s).getD 1 []) [45, 43, 45], x.length ≤ 2000000000) :
    Calls Tryz.prog 31 #[.string ⟨s.toArray⟩] w (GuessPost w (guess s)) := by
  have HE := Lib.hid hE
  have hgN : P25.cut 0 ((linesOf s).getD 0 []) (widths ((linesOf s).getD 1 [])) = none → guess s = none := fun h => by
    unfold guess; rw [if_neg (by omega), if_neg (by omega), h]
  have hgC : ∀ names, P25.cut 0 ((linesOf s).getD 0 []) (widths ((linesOf s).getD 1 [])) = some names → rowsIn (widths ((linesOf s).getD 1 [])) (((linesOf s).drop 2).take ((linesOf s).length - 3)) = none → guess s = none := fun names h h' => by
    unfold guess; rw [if_neg (by omega), if_neg (by omega), h]; dsimp only; rw [h']
  have hgS : ∀ names rows, P25.cut 0 ((linesOf s).getD 0 []) (widths ((linesOf s).getD 1 [])) = some names → rowsIn (widths ((linesOf s).getD 1 [])) (((linesOf s).drop 2).take ((linesOf s).length - 3)) = some rows → guess s = some ⟨names.map fun x => Lib.trimB x 32, rows, 0⟩ := fun names rows h h' => by
    unfold guess; rw [if_neg (by omega), if_neg (by omega), h]; dsimp only; rw [h']
  have HSp : Hid (∀ W, Xk.Ext w W → Calls Tryz.prog 58 #[.string ⟨s.toArray⟩, .string ⟨#[10]⟩] W fun e w' => ∃ v, e = .returned v ∧ Xo.Lives W.heap.size [] w' (fun W => StrsAt W v (linesOf s)) ∧ Below W.heap.size W w') := Lib.hid fun W (hx : Xk.Ext w W) => split_any s [10] (by omega) (by decide) W (hE.env.ext hx)
  generalize linesOf s = L at hgN hgC hgS HSp h3 hln hm hw hwm
  have h0 : L[0]? = some (L.getD 0 []) := by rw [List.getD_eq_getElem?_getD, List.getElem?_eq_getElem (by omega)]; rfl
  have h1 : L[1]? = some (L.getD 1 []) := by rw [List.getD_eq_getElem?_getD, List.getElem?_eq_getElem (by omega)]; rfl
  have hx0 := hm _ (List.mem_of_getElem? h0)
  have hx1 := hm _ (List.mem_of_getElem? h1)
  generalize L.getD 0 [] = x0 at hgN hgC hgS h0 hx0
  generalize L.getD 1 [] = x1 at hgN hgC hgS h1 hx1 hw hwm
  have HSq : Hid (∀ W, Xk.Ext w W → Calls Tryz.prog 58 #[.string ⟨x1.toArray⟩, .string ⟨#[45, 43, 45]⟩] W fun e w' => ∃ v, e = .returned v ∧ Xo.Lives W.heap.size [] w' (fun W => StrsAt W v (Lib.split x1 [45, 43, 45])) ∧ Below W.heap.size W w') := Lib.hid fun W (hx : Xk.Ext w W) => split_any x1 [45, 43, 45] (by omega) (by decide) W (hE.env.ext hx)
  have hwd : widths x1 = (Lib.split x1 [45, 43, 45]).map List.length := rfl
  generalize Lib.split x1 [45, 43, 45] = D at HSq hwd hwm
  have HGN := Lib.hid hgN
  have HGC := Lib.hid hgC
  have HGS := Lib.hid hgS
  have H0 := Lib.hid h0
  have H1 := Lib.hid h1
  have HM := Lib.hid hm
  have HWd := Lib.hid hwd
  have HWm := Lib.hid hwm
  have hDl : D.length ≤ 100000 := by rw [hwd, List.length_map] at hw; exact hw
  have l2a : ((L.length : Int) == 2) = false := (beq_eq_false_iff_ne).2 (by omega)
  have l2b : (L.length == 2) = false := (beq_eq_false_iff_ne).2 (by omega)
  have l3a : ¬ (L.length : Int) < 3 := by omega
  obtain ⟨i0, hi, hz0, hz1, hz2⟩ := info_parts Tryz.infoInt
  have Hi := Lib.hid hi
  have Hz0 := Lib.hid hz0
  have Hz1 := Lib.hid hz1
  have Hz2 := Lib.hid hz2
  clear hi hz0 hz1 hz2 hE hgN hgC hgS h0 h1 hm hwd hwm hw
  go_enter Tryz.func31, Tryz.ntmps31
  go_wp2_with (first
    | (go_at_call 58; (with_reducible refine (HSp.out _ (by repeat (first | with_reducible exact Below.refl _ _ | ((with_reducible refine Below.setCell ?_ ?_ _); rotate_left; exact (by (try simp only [World.size_alloc, Xk.exw_size, World.size_setCell, World.size_drew, World.heap_drewN]); omega)) | ((with_reducible refine Below.alloc ?_ ?_ _); rotate_left; exact (by (try simp only [World.size_alloc, Xk.exw_size, World.size_setCell, World.size_drew, World.heap_drewN]); omega)) | ((with_reducible refine Xk.below_exw ?_ ?_ _); rotate_left; exact (by (try simp only [World.size_alloc, Xk.exw_size, World.size_setCell, World.size_drew, World.heap_drewN]); omega)) | (with_reducible refine Below.drew ?_)))).mono ?_); rintro e W1 ⟨x, rfl, hx, hb⟩; have hx2 := hx.now.parts; obtain ⟨px, cx, rfl, hx3⟩ := hx2; obtain ⟨b1, o1, rfl, d1⟩ := hx3 1 _ H1.out; have HX := Lib.hid hx; have HBZ := Lib.hid hb; have HB1 := Lib.hid ((ext_alloc w _).trans hb); have hsz1 := HB1.out.size; have l1 := World.block_lt_of_cell? _ _ d1; clear hx hb hx3)
    | (go_at_call 58; (with_reducible refine (HSq.out _ (by repeat (first | with_reducible exact HB1.out | with_reducible exact Below.refl _ _ | ((with_reducible refine Below.setCell ?_ ?_ _); rotate_left; exact (by (try simp only [World.size_alloc, Xk.exw_size, World.size_setCell, World.size_drew, World.heap_drewN]); omega)) | ((with_reducible refine Below.alloc ?_ ?_ _); rotate_left; exact (by (try simp only [World.size_alloc, Xk.exw_size, World.size_setCell, World.size_drew, World.heap_drewN]); omega)) | ((with_reducible refine Xk.below_exw ?_ ?_ _); rotate_left; exact (by (try simp only [World.size_alloc, Xk.exw_size, World.size_setCell, World.size_drew, World.heap_drewN]); omega)) | (with_reducible refine Below.drew ?_)))).mono ?_); rintro e W3 ⟨x, rfl, hx, hb⟩; have hx2 := hx.now.parts; obtain ⟨py, cy, rfl, hx3⟩ := hx2; have HY := Lib.hid hx3; have HBY := Lib.hid hb; clear hx hb hx3))
  have r0 : W1.heap[w.heap.size]? = some (ansObj (.slice none 0 0) (.slice none 0 0) 0) := heap_exw_alloc HBZ.out
  have ra : W3.heap[W1.heap.size]? = some (ansObj (.slice none 0 0) (.slice none 0 0) 0) := heap_exw_alloc HBY.out
  have HB3 := Lib.hid ((ext_alloc W1 _).trans HBY.out)
  have hsz3 : W1.heap.size < W3.heap.size := by have := HBY.out.size; simp at this; omega
  have hsw5 : w.heap.size < W1.heap.size := (Array.getElem?_eq_some_iff.1 r0).1
  have R0 := Lib.hid r0
  have RA := Lib.hid ra
  have HXL := Lib.hid (HX.out.le (B' := w.heap.size) (by simp))
  clear r0 ra HBY HBZ HX d1 l1
  go_loopw [8, 45] (fun v x wr => ∃ q : Nat, q ≤ D.length ∧ x = .int .i64 q ∧ Below W3.heap.size W3 wr ∧ wr.ownsRow W3.heap.size 3 1 v q (icells ((widths x1).take q))) (fun _ x _ => D.length - (intOf x).toNat)
  case atStart => exact ⟨0, by omega, rfl, Below.refl _ _, World.ownsRow_nil _ _ _ _⟩
  case round =>
    obtain ⟨q, hq, rfl, hbw, ho⟩ := hrel
    have HB := Lib.hid hbw
    have HO := Lib.hid ho
    have hsz := hbw.size
    clear hbw ho
    by_cases hlt : q < D.length
    · have hx : D[q]? = some D[q] := by simp [hlt]
      generalize D[q] = y at hx
      obtain ⟨b2, o2, rfl, d1⟩ := HY.out q y hx
      have d1 := Xk.ext_cell HB.out d1
      have l1 := World.block_lt_of_cell? _ _ d1
      have Hn : Hid ((widths x1).take (q + 1) = (widths x1).take q ++ [y.length]) := Lib.hid (take_snocL (by rw [HWd.out, List.getElem?_map, hx]; rfl))
      clear hx
      go_wp2_with (first | (at_builtin; refine Xo.wpList_appk (w0 := W3) rfl _ _ 59 rfl 3 i0 _ 1 8 Tryz.underlying59 Hi.out Hz0.out Hz1.out Hz2.out rfl (by decide) u8 q (icells ((widths x1).take q)) rfl (by repeat (first | with_reducible exact HO.out | with_reducible refine Xo.own_alloc ?_ _ | with_reducible refine Xo.own_drew ?_ | with_reducible refine Xo.own_exw ?_ _)) _ 0 1 1 [.int .i64 y.length] rfl (by decide) rfl (Xo.cells1 (by simp)) (Xo.one1 rfl) (by omega) (by repeat (first | with_reducible exact HB.out | with_reducible exact Below.refl _ _ | ((with_reducible refine Below.setCell ?_ ?_ _); rotate_left; exact (by (try simp only [World.size_alloc, Xk.exw_size, World.size_setCell, World.size_drew, World.heap_drewN]); omega)) | ((with_reducible refine Below.alloc ?_ ?_ _); rotate_left; exact (by (try simp only [World.size_alloc, Xk.exw_size, World.size_setCell, World.size_drew, World.heap_drewN]); omega)) | ((with_reducible refine Xk.below_exw ?_ ?_ _); rotate_left; exact (by (try simp only [World.size_alloc, Xk.exw_size, World.size_setCell, World.size_drew, World.heap_drewN]); omega)) | (with_reducible refine Below.drew ?_))) ?_; intro v' w' ho' hg' hk' hb'; have HO' := Lib.hid ho'; have HG' := Lib.hid hg'; have HK' := Lib.hid hk'; have HB' := Lib.hid hb'; clear ho' hg' hk' hb'))
      go_roundw
      case rel => exact ⟨q + 1, by omega, by go_num, HB'.out, by rw [Hn.out, ← icells_snoc]; exact HO'.out⟩
      case measure => simp [intOf]; omega
    · obtain rfl : q = D.length := by omega
      have hwl : (widths x1).length = D.length := by rw [HWd.out, List.length_map]
      have HWI : Hid (Xo.Lives W3.heap.size [] wr fun W => IntsAt W u8 (widths x1)) := Lib.hid ((Xo.lives_own HO.out (by simp)).imp fun W h => by
        have h := IntsAt.own h
        rwa [List.take_of_length_le (by omega)] at h)
      have hwm : ∀ n ∈ widths x1, n ≤ 4000000000 := fun n hn => by
        rw [HWd.out] at hn
        obtain ⟨z, hz, rfl⟩ := List.mem_map.1 hn
        have := HWm.out z hz
        omega
      have HWn := Lib.hid hwm
      have hx13 : Xk.Ext W1 wr := Xk.Ext.trans HB3.out HB.out
      have HX4 := Lib.hid hx13
      have hl4 := HXL.out.now.ext hx13
      obtain ⟨pz, cz, ez, hl5⟩ := hl4.parts
      obtain ⟨b3, o3, e3, d0⟩ := hl5 0 _ H0.out
      cases ez
      cases e3
      rw [Nat.add_zero] at d0
      have l0 := World.block_lt_of_cell? _ _ d0
      have hr4 : wr.heap[w.heap.size]? = some (ansObj (.slice none 0 0) (.slice none 0 0) 0) := by rw [hx13.block _ (Array.getElem?_eq_some_iff.1 R0.out).1]; exact R0.out
      have ha4 : wr.heap[W1.heap.size]? = some (ansObj (.slice none 0 0) (.slice none 0 0) 0) := by rw [HB.out.block _ hsz3]; exact RA.out
      have HR4 := Lib.hid hr4
      have HA4 := Lib.hid ha4
      have hbw4 : Xk.Ext w wr := Xk.Ext.trans HB1.out hx13
      have HW4 := Lib.hid hbw4
      clear hwm hx13 hl4 hl5 hr4 ha4 hbw4 hlt HB HO HY hwl
      cases hcut : P25.cut 0 x0 (widths x1) with
      | none =>
        have HC := Lib.hid (cutAt_none x0 u8 (widths x1) hcut wr HWI.out.now (by omega) (by rw [HWd.out, List.length_map]; omega) HWn.out)
        have HG := Lib.hid (HGN.out hcut)
        clear hcut
        go_wp2_with (first | (go_at_call 60; (with_reducible refine (HC.out).mono ?_); rintro e W5 ⟨v, rfl, hb⟩; have HB5 := Lib.hid hb; have ha5 := (hb.block _ (Nat.lt_of_lt_of_le hsz3 hsz)).trans HA4.out; have hr5 := (hb.block _ (Array.getElem?_eq_some_iff.1 HR4.out).1).trans HR4.out; have Hr5 := Lib.hid hr5; obtain ⟨f1, f2, f3, f4, f5, f6⟩ := Xe.cells_of3 ha5; obtain ⟨g1, g2, g3, g4, g5, g6⟩ := Xe.cells_of3 hr5; clear hb ha5 hr5))
        obtain ⟨z1, z2, z3, -⟩ := Xe.cells_of3 (Xe.set3 (x := .slice none 0 0) (y := .slice none 0 0) (z := .int .i64 0) Hr5.out).1
        refine bodyPost_ret (v := .tuple #[.agg #[.slice none 0 0, .slice none 0 0, .int .i64 0], .bool false]) (by simp [results, Tryz.results31, go_sem, z1, z2, z3]) rfl ⟨(((Xk.Ext.trans HW4.out HB5.out).setCell (Nat.le_refl _) _).setCell (Nat.le_refl _) _).setCell (Nat.le_refl _) _, ?_⟩
        rw [HG.out]
        exact ⟨_, _, _, _, _, _, _, rfl⟩
      | some names =>
        have HC := Lib.hid (cutAt_some x0 u8 (widths x1) names hcut wr HWI.out.now (by omega) (by rw [HWd.out, List.length_map]; omega) HWn.out)
        obtain ⟨hnl, hnm⟩ := cut_most _ _ _ _ hcut
        have hnl2 : names.length ≤ 100000 := by rw [hnl, HWd.out, List.length_map]; omega
        have HNm := Lib.hid hnm
        have HG := Lib.hid (fun h => HGC.out names hcut h)
        have HG2 := Lib.hid (fun rows h => HGS.out names rows hcut h)
        clear hcut HGN HGC HGS hnm hnl
        go_wp2_with (first | (go_at_call 60; (with_reducible refine (HC.out).mono ?_); rintro e W5 ⟨v, rfl, hl, hb⟩; have HN5 := Lib.hid hl; have HB5 := Lib.hid hb; have hvn := hl.now.parts; obtain ⟨pn, cn, rfl, -⟩ := hvn; clear hl hb))
        have hx5 : Xk.Ext W1 W5 := Xk.Ext.trans HX4.out HB5.out
        have hsz5 : W3.heap.size ≤ W5.heap.size := Nat.le_trans hsz HB5.out.size
        have hbig : Xo.Lives w.heap.size [some W1.heap.size] W5 fun W => (W.heap[w.heap.size]? = some (ansObj (.slice none 0 0) (.slice none 0 0) 0) ∧ StrsAt W (.slice (some ⟨b1, o1, none⟩) L.length cx) L) ∧ IntsAt W u8 (widths x1) ∧ StrsAt W (.slice pn names.length cn) names :=
          ((Xo.lives_block (hx5.block _ (Array.getElem?_eq_some_iff.1 R0.out).1 |>.trans R0.out) (Nat.le_refl _) (by have := (Array.getElem?_eq_some_iff.1 R0.out).1; simp; omega)).and (HXL.out.beyond hx5 (fun b hb => by simp at hb; omega))).and
            (((HWI.out.ext HB5.out).off (fun b hb => by simp at hb; omega) (by omega)).and (HN5.out.off (fun b hb => by simp at hb; omega) (by omega)))
        have ha5 : W5.heap[W1.heap.size]? = some (ansObj (.slice none 0 0) (.slice none 0 0) 0) := (HB5.out.block _ (Nat.lt_of_lt_of_le hsz3 hsz)).trans HA4.out
        have HBig := Lib.hid hbig
        have HA5 := Lib.hid ha5
        have HW5 := Lib.hid (Xk.Ext.trans HW4.out HB5.out)
        have lab : W1.heap.size < W5.heap.size := by omega
        clear hx5 hbig ha5 HN5 HC HWI HXL HR4 HA4 HX4 HW4 HB3 R0 RA HB5 d0 l0
        have hjs := info_parts Tryz.infoStr
        clear Hi Hz0 Hz1 Hz2 i0
        obtain ⟨i0, hi, hz0, hz1, hz2⟩ := hjs
        have Hi := Lib.hid hi
        have Hz0 := Lib.hid hz0
        have Hz1 := Lib.hid hz1
        have Hz2 := Lib.hid hz2
        clear hi hz0 hz1 hz2
        go_loopw [68] (fun x wr => ∃ (q : Nat) (vC : Value), q ≤ names.length ∧ x = .int .i64 q ∧ wr.heap[W1.heap.size]? = some (ansObj vC (.slice none 0 0) 0) ∧ wr.ownsRow W5.heap.size 9 1 vC q (scells ((names.map fun x => Lib.trimB x 32).take q)) ∧
          Below w.heap.size w wr ∧ W5.heap.size ≤ wr.heap.size ∧ Xo.Lives w.heap.size [some W1.heap.size, vC.ownBlock] wr fun W => (W.heap[w.heap.size]? = some (ansObj (.slice none 0 0) (.slice none 0 0) 0) ∧ StrsAt W (.slice (some ⟨b1, o1, none⟩) L.length cx) L) ∧ IntsAt W u8 (widths x1) ∧ StrsAt W (.slice pn names.length cn) names) (fun x _ => names.length - (intOf x).toNat)
        case atStart => exact ⟨0, .slice none 0 0, by omega, rfl, HA5.out, World.ownsRow_nil _ _ _ _, HW5.out, Nat.le_refl _, fun w' h1 h2 => HBig.out w' h1 fun b hb hl hn => h2 b hb hl (by simp at hn ⊢; exact ⟨hn, by simp [Value.ownBlock]⟩)⟩
        case round =>
          obtain ⟨q, vC, hq, rfl, ha, ho, hbw, hsz6, hbg⟩ := hrel
          have HA := Lib.hid ha
          have HO := Lib.hid ho
          have HB := Lib.hid hbw
          have HBG := Lib.hid hbg
          clear ha ho hbw hbg
          by_cases hlt : q < names.length
          · have hy : names[q]? = some names[q] := by simp [hlt]
            generalize names[q] = y at hy
            have hym := HNm.out y (List.mem_of_getElem? hy)
            obtain ⟨pn2, cn2, e2, hpn⟩ := HBG.out.now.2.2.parts
            obtain ⟨b2, o2, rfl, d1⟩ := hpn q y hy
            cases e2
            have l1 := World.block_lt_of_cell? _ _ d1
            have hqb : (q : Int) < (names.length : Int) := by omega
            have Hn : Hid ((names.map fun x => Lib.trimB x 32).take (q + 1) = (names.map fun x => Lib.trimB x 32).take q ++ [Lib.trimB y 32]) := Lib.hid (take_snocL (by rw [List.getElem?_map, hy]; rfl))
            have HT := Lib.hid fun W => trimmed_any y (by omega) W
            generalize Lib.trimB y 32 = t at Hn HT
            obtain ⟨ks, hks⟩ : ∃ ks : Xe.Specs, ks = Xe.specOf 9 1 (q + 1) (scells ((names.map fun x => Lib.trimB x 32).take q) ++ [.string ⟨t.toArray⟩]) vC := ⟨_, rfl⟩
            have HKS := Lib.hid hks
            have HS6 : Hid (∀ k ∈ ks, vC.ownBlock = some k.1 → k ∈ Xe.specOf 9 1 (q + 1) (scells ((names.map fun x => Lib.trimB x 32).take q) ++ [.string ⟨t.toArray⟩]) vC) := Lib.hid fun k hk _ => by rw [hks] at hk; exact hk
            have HSB : Hid (∀ k ∈ ks, W5.heap.size ≤ k.1 ∧ k.1 < wr.heap.size) := Lib.hid fun k hk => by
              rw [hks] at hk
              exact HO.out.lt _ (Xe.specOf_block hk)
            have HSK : Hid (∀ k ∈ ks, some k.1 ∈ [some W1.heap.size, vC.ownBlock]) := Lib.hid fun k hk => by
              rw [hks] at hk
              rw [Xe.specOf_block hk]; simp
            have HF : Hid (∀ W, Xe.ES ks wr.drew W → W.heap[W1.heap.size]? = some (ansObj vC (.slice none 0 0) 0)) := Lib.hid fun W hx => (hx.block (by simp; omega) fun k hk e => by have := (HSB.out k hk).1; omega).trans HA.out
            have HFc := Lib.hid fun W hx => (Xe.cells_of3 (HF.out W hx)).1
            have hsw : w.heap.size ≤ W5.heap.size := HW5.out.size
            clear hks hpn hy hym
            go_wp2
            refine Xe.wp_region_rel (E := Xe.ES ks) (Xe.pre_ES _) 7 (Xe.O2 5 vC.ownBlock 99 none) (Xe.O2_lt (fun b hb => (HO.out.lt b hb).2) (fun b hb => by cases hb)) (Xe.O2_ne (fun b hb e => by cases e)) [(4, Xe.newFact wr.heap.size (.string ⟨t.toArray⟩)), (5, Xe.appFact W5.heap.size 9 1 wr.heap.size vC q 1 (scells ((names.map fun x => Lib.trimB x 32).take q) ++ [.string ⟨t.toArray⟩]))] (by kernel_rfl) (by kernel_rfl) (Xe.stable_es (by
                          intro y hy
                          simp only [List.mem_cons, List.not_mem_nil, or_false] at hy
                          rcases hy with rfl | rfl
                          · exact Xe.newFact.es fun k hk => (HSB.out k hk).2
                          · exact Xe.appFact.es HS6.out fun k hk => (HSB.out k hk).2)) ?_
            simp only [List.take_succ_cons, List.take_zero, List.drop_succ_cons, List.drop_zero]
            repeat (first
              | (refine Xe.rel_det (Xe.pre_ES _) (Xk.wanted_none (by rfl)) (by rfl) (fun K hK => ?_); apply Exists.intro; refine ⟨fun W hx hp => ?_, ?_⟩; (have f1 := HFc.out _ hx; go_simp; first | exact ⟨rfl, rfl⟩ | ((try refine ⟨by kernel_rfl, ?_⟩); (first | (go_at_call 61; ((with_reducible refine (HT.out _).mono ?_); exact fun e w' h => h))))); (go_simp; refine hK _ ?_; clear hK K))
              | (refine Xe.rel_skip (by rfl) (fun K hK => ?_); go_simp; refine hK _ ?_; clear hK K)
              | (refine Xe.rel_det (Xe.pre_ES _) (by rfl) (by rfl) (fun K hK => ?_); apply Exists.intro; refine ⟨fun W hx hp => ?_, ?_⟩; (have f1 := HFc.out _ hx; go_simp; first | exact ⟨rfl, rfl⟩ | ((try refine ⟨by kernel_rfl, ?_⟩); (first | (go_at_call 61; ((with_reducible refine (HT.out _).mono ?_); exact fun e w' h => h))))); (go_simp; refine hK _ ?_; clear hK K)))
            (refine Xe.rel_make (Xe.pre_ES _) (by rfl) (by rfl) (fun W hx hp => ?_) (fun y K hK => ?_); (go_simp; exact Xe.new_one _ _ _ (by have := hx.2.2.2.1; simpa using this)); (go_simp; refine hK _ ?_; clear hK K))
            (refine Xe.rel_make (Xe.pre_ES _) (by rfl) (by rfl) (fun W hx hp => ?_) (fun z1 K hK => ?_); (obtain ⟨g, rfl, hg, hc⟩ := Xe.facts_head hp (by kernel_rfl); exact Xe.make_app _ _ _ _ 22 (by rfl) 9 i0 _ 1 16 Tryz.underlying22 Hi.out Hz0.out Hz1.out Hz2.out rfl (by decide) vC q (scells ((names.map fun x => Lib.trimB x 32).take q)) (by rfl) (hx.own (m := 1) (news := [.string ⟨t.toArray⟩]) (Xo.own_drew HO.out) HS6.out ) ⟨g, 0, none⟩ 1 1 [.string ⟨t.toArray⟩] (by rfl) (by decide) rfl (Xo.one_at hc) (Xo.one1 rfl) (by omega) (by have := hx.2.2.2.1; simp at this; omega) (by have := hx.2.2.2.1; simpa using this) (by rw [HKS.out]; exact fun k hk => hk) (by rfl)); (go_simp; refine hK _ ?_; clear hK K))
            repeat (first
              | (refine Xe.rel_det (Xe.pre_ES _) (Xk.wanted_none (by rfl)) (by rfl) (fun K hK => ?_); apply Exists.intro; refine ⟨fun W hx hp => ?_, ?_⟩; (skip; go_simp; first | exact ⟨rfl, rfl⟩ | ((try refine ⟨by kernel_rfl, ?_⟩); (fail))); (go_simp; refine hK _ ?_; clear hK K))
              | (refine Xe.rel_skip (by rfl) (fun K hK => ?_); go_simp; refine hK _ ?_; clear hK K)
              | (refine Xe.rel_det (Xe.pre_ES _) (by rfl) (by rfl) (fun K hK => ?_); apply Exists.intro; refine ⟨fun W hx hp => ?_, ?_⟩; (skip; go_simp; first | exact ⟨rfl, rfl⟩ | ((try refine ⟨by kernel_rfl, ?_⟩); (fail))); (go_simp; refine hK _ ?_; clear hK K)))
            refine Xe.rel_nil (fun W hx hp hg => ?_)
            simp only [Xk.factsAll] at hp
            obtain ⟨⟨p1, p2⟩, -, -⟩ := hp
            obtain ⟨gz, cz1, rfl⟩ := own_form p1 (by omega)
            have HP1 := Lib.hid p1
            have HP2 := Lib.hid p2
            have HX := Lib.hid hx
            have hha := HF.out W hx
            have HHa := Lib.hid hha
            obtain ⟨f1, f2, f3, f4, f5, f6⟩ := Xe.cells_of3 hha
            have HBE := Lib.hid (Xe.ES.below (w := wr.drew) (B := w.heap.size) (show Below w.heap.size w wr.drew from by have := HB.out; exact (by repeat (first | with_reducible exact HB.out | with_reducible exact Below.refl _ _ | ((with_reducible refine Below.setCell ?_ ?_ _); rotate_left; exact (by (try simp only [World.size_alloc, Xk.exw_size, World.size_setCell, World.size_drew, World.heap_drewN]); omega)) | ((with_reducible refine Below.alloc ?_ ?_ _); rotate_left; exact (by (try simp only [World.size_alloc, Xk.exw_size, World.size_setCell, World.size_drew, World.heap_drewN]); omega)) | ((with_reducible refine Xk.below_exw ?_ ?_ _); rotate_left; exact (by (try simp only [World.size_alloc, Xk.exw_size, World.size_setCell, World.size_drew, World.heap_drewN]); omega)) | (with_reducible refine Below.drew ?_)))) hx (fun k hk => by have := (HSB.out k hk).1; omega) (by simpa using HB.out.size))
            have hszw : wr.heap.size ≤ W.heap.size := by simpa using hx.2.2.2.1
            clear p1 p2 hg hx hha
            go_wp2
            go_roundw
            case rel => exact ⟨q + 1, .slice (some ⟨gz, 0, none⟩) (q + 1) cz1, by omega, by go_num, by
                have := heap_setCell_same W W1.heap.size 0 _ _ (.slice (some ⟨gz, 0, none⟩) (q + 1) cz1) HHa.out
                exact this, by rw [Hn.out, ← scells_snoc]; exact Xo.own_setCell HP1.out (by omega) _, HBE.out.setCell (by show w.heap.size ≤ W1.heap.size; omega) _, by simp; omega,
              (HX.out.lives (ls' := [some W1.heap.size, (Value.slice (some ⟨gz, 0, none⟩) (q + 1) cz1).ownBlock]) HBG.out HSK.out fun b hb => by
                simp only [List.mem_cons, List.not_mem_nil, or_false] at hb ⊢
                rcases hb with hb | hb
                · exact .inl (.inl hb)
                · rcases HP2.out with ⟨g, cap, e1, e2⟩ | ⟨b', hb', e1⟩
                  · rw [e2] at hb; rw [e1]; exact .inl (.inr hb)
                  · rw [e1] at hb; cases hb; exact .inr (by simpa using hb')).setCell (.inr (by simp)) _⟩
            case measure => simp [intOf]; omega
          · obtain rfl : q = names.length := by omega
            have hNC : Xo.Lives W5.heap.size [] wr fun W => StrsAt W vC (names.map fun x => Lib.trimB x 32) := (Xo.lives_own HO.out (by simp)).imp fun W h => by
              have h := StrsAt.own h
              rwa [List.take_of_length_le (by simp)] at h
            obtain ⟨pC, cC, rfl⟩ := own_form0 HO.out
            have HNC := Lib.hid hNC
            have hown := (Xo.own_or HO.out)
            have HOwn := Lib.hid hown
            have hcx : L.length ≤ cx := by
              obtain ⟨_, _, ez, hcap, -⟩ := HBG.out.now.1.2
              cases ez
              exact hcap
            have HBG2 : Hid (Xo.Lives w.heap.size [some W1.heap.size] wr fun W => (W.heap[w.heap.size]? = some (ansObj (.slice none 0 0) (.slice none 0 0) 0) ∧ StrsAt W (.slice (some ⟨b1, o1, none⟩) L.length cx) L) ∧ IntsAt W u8 (widths x1)) :=
              Lib.hid ((HBG.out.imp fun W h => ⟨h.1, h.2.1⟩).less (fun b hb => by simp at hb; simp [hb]))
            clear hNC hown HO HBG HA5 HBig hlt
            have hjs := info_parts Tryz.infoRow
            clear Hi Hz0 Hz1 Hz2 i0
            obtain ⟨i0, hi, hz0, hz1, hz2⟩ := hjs
            have Hi := Lib.hid hi
            have Hz0 := Lib.hid hz0
            have Hz1 := Lib.hid hz1
            have Hz2 := Lib.hid hz2
            clear hi hz0 hz1 hz2
            have s1 : IntKind.i64.wrap ((L.length : Int) - 1) = (L.length : Int) - 1 := IntWalk.i64_in _ (by omega)
            have s2 : (2 : Int) ≤ (L.length : Int) - 1 := by omega
            have s3 : (L.length : Int) - 1 ≤ (cx : Int) := by omega
            have s4 : ((L.length : Int) - 1).toNat = L.length - 1 := by omega
            obtain ⟨f1, f2, f3, f4, f5, f6⟩ := Xe.cells_of3 HA.out
            go_wp2
            clear s1 s2 s3 s4 f1 f2 f3 f4 f5 f6
            generalize hn3 : L.length - 1 - 2 = n3
            have hn4 : n3 + 3 = L.length := by omega
            have HN4 : Hid (L.length - 3 = n3) := Lib.hid (by omega)
            have lcx : L.length - 2 ≤ cx - 2 := by omega
            clear hn3
            obtain ⟨BW, hBW⟩ : ∃ n, n = wr.heap.size := ⟨_, rfl⟩
            have hB5 : W5.heap.size ≤ BW := by omega
            have hB6 : BW ≤ wr.heap.size := by omega
            clear hBW
            have HB6 := Lib.hid hsz6
            go_loopw [86] (fun x W => ∃ (q : Nat) (vR : Value) (rows : List (List V)) (us : List Value), q ≤ n3 ∧ x = .int .i64 q ∧ W.heap[W1.heap.size]? = some (ansObj (.slice pC names.length cC) vR 0) ∧ W.ownsRow BW 37 1 vR q us ∧ rows.length = q ∧
              (∀ (j : Nat) (u : Value) (r : List V), us[j]? = some u → rows[j]? = some r → Xo.Lives BW [vR.ownBlock] W (fun W => RowAt W u r)) ∧
              Below w.heap.size w W ∧ BW ≤ W.heap.size ∧
              Xo.Lives w.heap.size [some W1.heap.size, vR.ownBlock] W (fun W => (W.heap[w.heap.size]? = some (ansObj (.slice none 0 0) (.slice none 0 0) 0) ∧ StrsAt W (.slice (some ⟨b1, o1, none⟩) L.length cx) L) ∧ IntsAt W u8 (widths x1)) ∧
              Xo.Lives W5.heap.size [vR.ownBlock] W (fun W => StrsAt W (.slice pC names.length cC) (names.map fun x => Lib.trimB x 32)) ∧
              rowsIn (widths x1) ((L.drop 2).take n3) = (rowsIn (widths x1) (((L.drop 2).take n3).drop q)).map (rows ++ ·)) (fun x _ => n3 - (intOf x).toNat)
            case atStart => exact ⟨0, .slice none 0 0, [], [], by omega, rfl, HA.out, World.ownsRow_nil _ _ _ _, rfl, fun j u r h => by simp at h, HB.out, hB6,
              fun w' h1 h2 => HBG2.out w' h1 fun b hb hl hn => h2 b hb hl (by simp at hn ⊢; exact ⟨hn, by simp [Value.ownBlock]⟩),
              fun w' h1 h2 => HNC.out w' h1 fun b hb hl hn => h2 b hb hl (by simp [Value.ownBlock]), by simp⟩
            case round =>
              clear HA HNC HBG2 HB hB6
              obtain ⟨q, vR, rows, us, hq, rfl, ha, ho, hrl, hus, hbw, hsz7, hbg, hnc, hrec⟩ := hrel
              have HA := Lib.hid ha
              have HO := Lib.hid ho
              have HB := Lib.hid hbw
              have HBG := Lib.hid hbg
              have HNC := Lib.hid hnc
              have HRL := Lib.hid hrl
              have HUS := Lib.hid hus
              have HREC := Lib.hid hrec
              have hbz := hbw.size
              obtain ⟨pR, cR, rfl⟩ := own_form0 ho
              clear ha ho hbw hbg hnc hrl hus hrec
              by_cases hlt : q < n3
              · have hl : L[2 + q]? = some (L[2 + q]'(by omega)) := List.getElem?_eq_getElem _
                generalize L[2 + q]'(by omega) = l at hl
                have hlm := HM.out l (List.mem_of_getElem? hl)
                have Hd : Hid (((L.drop 2).take n3).drop q = l :: ((L.drop 2).take n3).drop (q + 1)) := Lib.hid (by
                  have h1 : ((L.drop 2).take n3)[q]? = some l := by rw [List.getElem?_take, if_pos hlt, List.getElem?_drop, hl]
                  have hq' := (List.getElem?_eq_some_iff.1 h1).1
                  rw [List.drop_eq_getElem_cons hq', (List.getElem?_eq_some_iff.1 h1).2])
                obtain ⟨_, _, ez, hcap, hl5⟩ := HBG.out.now.1.2
                cases ez
                obtain ⟨b3, o3, e3, d1⟩ := hl5 _ l hl
                cases e3
                unfold strR at d1
                rw [Nat.mul_one, ← Nat.add_assoc] at d1
                have l1 := World.block_lt_of_cell? _ _ d1
                have hqn : (q : Int) < (n3 : Int) := by omega
                have hwl : (widths x1).length ≤ 100000 := by rw [HWd.out, List.length_map]; omega
                have hba := (Array.getElem?_eq_some_iff.1 HA.out).1
                clear hl hl5
                cases hcut : P25.cut 0 l (widths x1) with
                | none =>
                  have HC := Lib.hid (cutAt_none l u8 (widths x1) hcut _ HBG.out.now.2 (by omega) hwl HWn.out)
                  have HGn : Hid (guess s = none) := Lib.hid (HG.out (by rw [HN4.out, HREC.out, Hd.out, rowsIn, hcut]; rfl))
                  clear hcut
                  go_wp2_with (first | (go_at_call 60; (with_reducible refine (HC.out).mono ?_); rintro e Wc ⟨v, rfl, hb⟩; have HBc := Lib.hid hb; have ha5 := (hb.block _ hba).trans HA.out; have hr5 := (HBG.out.ext hb).now.1.1; have Hr5 := Lib.hid hr5; obtain ⟨f1, f2, f3, f4, f5, f6⟩ := Xe.cells_of3 ha5; obtain ⟨g1, g2, g3, g4, g5, g6⟩ := Xe.cells_of3 hr5; clear hb ha5 hr5))
                  obtain ⟨z1, z2, z3, -⟩ := Xe.cells_of3 (Xe.set3 (x := .slice pC names.length cC) (y := .slice pR q cR) (z := .int .i64 0) Hr5.out).1
                  refine bodyPost_ret (v := .tuple #[.agg #[.slice pC names.length cC, .slice pR q cR, .int .i64 0], .bool false]) (by simp [results, Tryz.results31, go_sem, z1, z2, z3]) rfl ⟨(((Xk.Ext.trans HB.out HBc.out).setCell (Nat.le_refl _) _).setCell (Nat.le_refl _) _).setCell (Nat.le_refl _) _, ?_⟩
                  rw [HGn.out]
                  exact ⟨_, _, _, _, _, _, _, rfl⟩
                | some c =>
                  have HC := Lib.hid (cutAt_some l u8 (widths x1) c hcut _ HBG.out.now.2 (by omega) hwl HWn.out)
                  obtain ⟨hcl, hcm⟩ := cut_most _ _ _ _ hcut
                  have HCm : Hid (∀ x ∈ c, x.length ≤ 2000000000) := Lib.hid fun x hx => by have := hcm x hx; omega
                  have hcl2 : c.length ≤ 100000 := by omega
                  have HRow : Hid (rowsIn (widths x1) ((L.drop 2).take n3) = (match rowIn c with | none => none | some r => (rowsIn (widths x1) (((L.drop 2).take n3).drop (q + 1))).map fun t => r :: t).map (rows ++ ·)) := Lib.hid (by rw [HREC.out, Hd.out, rowsIn, hcut]; rfl)
                  clear hcut hcm hcl
                  go_wp2_with (first | (go_at_call 60; (with_reducible refine (HC.out).mono ?_); rintro e Wc ⟨v, rfl, hl, hb⟩; have HLc := Lib.hid hl; have HBc := Lib.hid hb; have hvn := hl.now.parts; obtain ⟨pv, cv, rfl, -⟩ := hvn; clear hl hb))
                  have HEc := Lib.hid (HE.out.ext (Xk.Ext.trans HB.out HBc.out))
                  cases hrow : rowIn c with
                  | none =>
                    have HCr := Lib.hid (rowIn_none _ c hrow Wc HEc.out HLc.out.now hcl2 HCm.out)
                    have HGn : Hid (guess s = none) := Lib.hid (HG.out (by rw [HN4.out, HRow.out, hrow]; rfl))
                    clear hrow
                    go_wp2_with (first | (go_at_call 62; (with_reducible refine (HCr.out).mono ?_); rintro e Wd ⟨v, rfl, hb⟩; have HBd := Lib.hid hb; have ha5 := (hb.block _ (Nat.lt_of_lt_of_le hba HBc.out.size)).trans ((HBc.out.block _ hba).trans HA.out); have hr5 := ((HBG.out.ext HBc.out).ext hb).now.1.1; have Hr5 := Lib.hid hr5; obtain ⟨f1, f2, f3, f4, f5, f6⟩ := Xe.cells_of3 ha5; obtain ⟨g1, g2, g3, g4, g5, g6⟩ := Xe.cells_of3 hr5; clear hb ha5 hr5))
                    obtain ⟨z1, z2, z3, -⟩ := Xe.cells_of3 (Xe.set3 (x := .slice pC names.length cC) (y := .slice pR q cR) (z := .int .i64 0) Hr5.out).1
                    refine bodyPost_ret (v := .tuple #[.agg #[.slice pC names.length cC, .slice pR q cR, .int .i64 0], .bool false]) (by simp [results, Tryz.results31, go_sem, z1, z2, z3]) rfl ⟨(((Xk.Ext.trans (Xk.Ext.trans HB.out HBc.out) HBd.out).setCell (Nat.le_refl _) _).setCell (Nat.le_refl _) _).setCell (Nat.le_refl _) _, ?_⟩
                    rw [HGn.out]
                    exact ⟨_, _, _, _, _, _, _, rfl⟩
                  | some r =>
                    have HCr := Lib.hid (rowIn_some _ c r hrow Wc HEc.out HLc.out.now hcl2 HCm.out)
                    have HRow2 : Hid (rowsIn (widths x1) ((L.drop 2).take n3) = (rowsIn (widths x1) (((L.drop 2).take n3).drop (q + 1))).map ((rows ++ [r]) ++ ·)) := Lib.hid (by
                      rw [HRow.out, hrow]
                      dsimp only
                      cases rowsIn (widths x1) (((L.drop 2).take n3).drop (q + 1)) <;> simp)
                    clear hrow
                    go_wp2_with (first
                      | (go_at_call 62; (with_reducible refine (HCr.out).mono ?_); rintro e Wd ⟨v, rfl, hl, hb⟩; have HLd := Lib.hid hl; have HBd := Lib.hid hb; have hvn := hl.now; obtain ⟨pv2, cv2, rfl, -⟩ := hvn; have HX := Lib.hid (Xk.Ext.trans HBc.out hb); have ha5 := (hb.block _ (Nat.lt_of_lt_of_le hba HBc.out.size)).trans ((HBc.out.block _ hba).trans HA.out); have HA5 := Lib.hid ha5; have HO5 := Lib.hid (Xo.own_ext HO.out HX.out); obtain ⟨f1, f2, f3, f4, f5, f6⟩ := Xe.cells_of3 ha5; have hwd := HX.out.size; have hba2 := (Array.getElem?_eq_some_iff.1 ha5).1; clear hl hb ha5)
                      | (at_builtin; refine Xo.wpList_appb BW rfl _ _ 23 rfl 37 i0 _ 1 24 Tryz.underlying23 Hi.out Hz0.out Hz1.out Hz2.out rfl (by decide) (.slice pR q cR) q us rfl (by repeat (first | with_reducible exact HO5.out | with_reducible refine Xo.own_alloc ?_ _ | with_reducible refine Xo.own_drew ?_ | with_reducible refine Xo.own_exw ?_ _)) _ 0 1 1 [.slice pv2 r.length cv2] rfl (by decide) rfl (Xo.cells1 (by simp)) (Xo.one1 rfl) (by omega) (by simp only [World.size_alloc]; omega) ?_; intro v' w' ho' hg' hk'; obtain ⟨pz, cz, rfl⟩ := own_form ho' (by omega); have HO' := Lib.hid ho'; have HG' := Lib.hid hg'; have HK' := Lib.hid hk'; have hown5 := HO5.out.lt; have hne5 : some W1.heap.size ≠ (Value.slice pR q cR).ownBlock := (fun e => by have := (hown5 _ e.symm).1; omega); have ha6 := (hg'.block W1.heap.size (by simp; omega) hne5).trans ((heap_alloc_old _ _ hba2).trans HA5.out); have HA6 := Lib.hid ha6; obtain ⟨y1, y2, y3, y4, y5, y6⟩ := Xe.cells_of3 ha6; clear ho' hg' hk' ha6 hown5 hne5))
                    go_roundw
                    case rel =>
                      have hbD := Xk.Ext.trans (Xk.Ext.trans HB.out HX.out) (ext_alloc Wd (.cells #[.slice pv2 r.length cv2] 37))
                      have husl : us.length = q := by have := HO.out.1; omega
                      refine ⟨q + 1, .slice (some ⟨pz, 0, none⟩) (q + 1) cz, rows ++ [r], us ++ [.slice pv2 r.length cv2], by omega, by go_num, heap_setCell_same _ W1.heap.size 1 _ _ _ HA6.out, Xo.own_setCell HO'.out (by omega) _, by rw [List.length_append, HRL.out]; rfl, ?_, ?_, ?_, ?_, ?_, HRow2.out⟩
                      · intro j u x hj hx
                        exact (Xo.elems_app (R := fun W u r => RowAt W u r) (l := rows ++ [r]) (x := r) (q := q) (fun j u x hj hx => HUS.out j u x hj (by
                          rw [List.getElem?_append_left (by rw [HRL.out, ← husl]; exact (List.getElem?_eq_some_iff.1 hj).1)] at hx
                          exact hx)) (Xk.Ext.trans HX.out (ext_alloc _ _)) husl (by rw [List.getElem?_append_right (by rw [HRL.out]; exact Nat.le_refl _), HRL.out]; simp) ((HLd.out.le HBc.out.size).alloc _) (fun b hb => (HO.out.lt b hb).2) hsz7 HG'.out HK'.out j u x hj hx).setCell (.inl (by omega)) _
                      · exact (hbD.grown HG'.out hbD.size (fun k hk => by have := (HO.out.lt k hk).1; omega)).setCell (by show w.heap.size ≤ W1.heap.size; omega) _
                      · have h1 := HG'.out.size
                        simp only [World.size_alloc] at h1
                        simp only [World.size_setCell]
                        omega
                      · exact (((HBG.out.ext HX.out).alloc _).grown HG'.out (fun b e => by simp [e]) (fun b hb => by
                          simp only [List.mem_cons, List.not_mem_nil, or_false] at hb ⊢
                          rcases hb with hb | hb
                          · exact .inl (.inl hb)
                          · rcases HK'.out b hb.symm with h | h
                            · exact .inl (.inr h.symm)
                            · exact .inr h) (ks' := [some W1.heap.size, (Value.slice (some ⟨pz, 0, none⟩) (q + 1) cz).ownBlock])).setCell (.inr (by simp)) _
                      · exact (((HNC.out.ext HX.out).alloc _).grown HG'.out (fun b e => by simp [e]) (fun b hb => by
                          simp only [List.mem_cons, List.not_mem_nil, or_false] at hb ⊢
                          rcases HK'.out b hb.symm with h | h
                          · exact .inl h.symm
                          · exact .inr h) (ks' := [(Value.slice (some ⟨pz, 0, none⟩) (q + 1) cz).ownBlock])).setCell (.inl (by omega)) _
                    case measure => simp [intOf]; omega
              · obtain rfl : q = n3 := by omega
                have HF : Hid (guess s = some ⟨names.map fun x => Lib.trimB x 32, rows, 0⟩) := Lib.hid (HG2.out rows (by rw [HN4.out, HREC.out, List.drop_of_length_le (by rw [List.length_take]; omega)]; simp [rowsIn]))
                have hres := HBG.out.now.1.1
                obtain ⟨f1, f2, f3, f4, f5, f6⟩ := Xe.cells_of3 HA.out
                obtain ⟨g1, g2, g3, g4, g5, g6⟩ := Xe.cells_of3 hres
                have HRes := Lib.hid hres
                clear hres
                go_wp2
                obtain ⟨z1, z2, z3, -⟩ := Xe.cells_of3 (Xe.set3 (x := .slice pC names.length cC) (y := .slice pR q cR) (z := .int .i64 0) HRes.out).1
                refine bodyPost_ret (v := .tuple #[.agg #[.slice pC names.length cC, .slice pR q cR, .int .i64 0], .bool true]) (by simp [results, Tryz.results31, go_sem, z1, z2, z3]) rfl ⟨((HB.out.setCell (Nat.le_refl _) _).setCell (Nat.le_refl _) _).setCell (Nat.le_refl _) _, ?_⟩
                rw [HF.out]
                have hsw : w.heap.size < BW := by omega
                have h1 := ((((HNC.out.setCell (b := w.heap.size) (o := 0) (.inl (by omega)) (.slice pC names.length cC)).setCell (b := w.heap.size) (o := 1) (.inl (by omega)) (.slice pR q cR)).setCell (b := w.heap.size) (o := 2) (.inl (by omega)) (.int .i64 0)).less (ks' := []) (by simp)).le (B' := w.heap.size) (by omega)
                have h2 := (((((rows_lives HO.out HRL.out HUS.out).setCell (b := w.heap.size) (o := 0) (.inl (by omega)) (.slice pC names.length cC)).setCell (b := w.heap.size) (o := 1) (.inl (by omega)) (.slice pR q cR)).setCell (b := w.heap.size) (o := 2) (.inl (by omega)) (.int .i64 0))).le (B' := w.heap.size) (by omega)
                exact ⟨_, _, rfl, h1.and h2⟩
end Go.Proofs.YtmoippbmnanajaaGreatDoor
