/- Walks: pantilehelp.Texts, Values, Tables, Answers. -/
import Derived.Test.YtmoippbmnanajaaGreatDoorRT
import Derived.RegionTactic
set_option linter.unusedSimpArgs false
set_option linter.unusedVariables false
namespace Go.Proofs.YtmoippbmnanajaaGreatDoor
open Go.RowKit
theorem list_eq_of {α : Type} {l m : List α} (hl : l.length = m.length) (h : ∀ (j : Nat) x, j < l.length → l[j]? = some x → m[j]? = some x) : l = m := by
  apply List.ext_getElem? 
  intro j
  by_cases hj : j < l.length
  · rw [List.getElem?_eq_getElem hj, h j _ hj (List.getElem?_eq_getElem hj)]
  · rw [List.getElem?_eq_none (by omega), List.getElem?_eq_none (by omega)]
instance : DecidableEq V := fun a b => if h : a.k = b.k ∧ a.i = b.i ∧ a.s = b.s then .isTrue (by cases a; cases b; obtain ⟨h1, h2, h3⟩ := h; simp at h1 h2 h3; subst h1; subst h2; subst h3; rfl) else .isFalse fun e => h (by subst e; exact ⟨rfl, rfl, rfl⟩)
set_option maxRecDepth 100000 in
set_option maxHeartbeats 4000000 in
theorem texts_any (v u : Value) (l m : List (List UInt8)) (w : World) (hv : StrsAt w v l) (hu : StrsAt w u m) (hl : l.length ≤ 1000000) (hm : m.length ≤ 1000000) :
    Calls Tryz.prog 37 #[v, u] w fun e w' => e = .returned (.bool (decide (l = m))) ∧ Below w.heap.size w w' := by
  obtain ⟨pa, ca, rfl, hc⟩ := hv.parts
  obtain ⟨pb, cb, rfl, hd⟩ := hu.parts
  have HC := Lib.hid hc
  have HD := Lib.hid hd
  clear hc hd hv hu
  by_cases hlen : l.length = m.length
  · have hn : ¬ (l.length : Int) ≠ (m.length : Int) := by omega
    have hnb : ((l.length : Int) == (m.length : Int)) = true := beq_iff_eq.2 (by omega)
    rw [hlen] at hn hnb ⊢
    go_enter Tryz.func37, Tryz.ntmps37
    go_wp2
    go_loopw [5] (fun x wr => ∃ q : Nat, q ≤ m.length ∧ x = .int .i64 q ∧ Below w.heap.size w wr ∧ Hid (∀ (j : Nat) y, j < q → l[j]? = some y → m[j]? = some y)) (fun x _ => m.length - (intOf x).toNat)
    case atStart => exact ⟨0, Nat.zero_le _, rfl, Below.refl _ _, Lib.hid fun j y hj => by omega⟩
    case round =>
      obtain ⟨q, hq, rfl, hbw, HN⟩ := hrel
      by_cases hlt : q < m.length
      · have hx : l[q]? = some (l[q]'(by omega)) := List.getElem?_eq_getElem _
        have hy : m[q]? = some (m[q]'hlt) := List.getElem?_eq_getElem _
        have HX := Lib.hid hx
        have HY := Lib.hid hy
        obtain ⟨b, off, rfl, d1⟩ := HC.out q _ hx
        obtain ⟨b2, off2, rfl, d2⟩ := HD.out q _ hy
        have d1 := Xk.ext_cell hbw d1
        have d2 := Xk.ext_cell hbw d2
        have l1 := World.block_lt_of_cell? _ _ d1
        have l2 := World.block_lt_of_cell? _ _ d2
        have HB := Lib.hid hbw
        have hsz := hbw.size
        clear hx hy hbw
        generalize l[q]'(by omega) = x at *
        generalize m[q]'hlt = y at *
        by_cases hxy : x = y
        · subst hxy
          go_wp2
          go_region
          all_goals
            go_wp2
            go_roundw
            case rel => exact ⟨q + 1, by omega, by go_num, (by repeat (first | with_reducible exact HB.out | with_reducible exact Below.refl _ _ | ((with_reducible refine Below.setCell ?_ ?_ _); rotate_left; exact (by (try simp only [World.size_alloc, Xk.exw_size, World.size_setCell, World.size_drew, World.heap_drewN]); omega)) | ((with_reducible refine Below.alloc ?_ ?_ _); rotate_left; exact (by (try simp only [World.size_alloc, Xk.exw_size, World.size_setCell, World.size_drew, World.heap_drewN]); omega)) | ((with_reducible refine Xk.below_exw ?_ ?_ _); rotate_left; exact (by (try simp only [World.size_alloc, Xk.exw_size, World.size_setCell, World.size_drew, World.heap_drewN]); omega)) | (with_reducible refine Below.drew ?_))), Lib.hid fun j y hj hy => by
              by_cases hjq : j = q
              · subst hjq; rw [HX.out] at hy; cases hy; exact HY.out
              · exact HN.out j y (by omega) hy⟩
            case measure => simp [intOf]; omega
        · have hxy2 : (x == y) = false := beq_eq_false_iff_ne.2 hxy
          have hf : decide (l = m) = false := decide_eq_false fun e => by
            have := HX.out
            rw [e, HY.out] at this
            cases this; exact hxy rfl
          have HF := Lib.hid hf
          clear hf
          go_wp2
          go_region
          all_goals
            go_wp2
            go_ret
            exact ⟨by rw [HF.out]; rfl, (by repeat (first | with_reducible exact HB.out | with_reducible exact Below.refl _ _ | ((with_reducible refine Below.setCell ?_ ?_ _); rotate_left; exact (by (try simp only [World.size_alloc, Xk.exw_size, World.size_setCell, World.size_drew, World.heap_drewN]); omega)) | ((with_reducible refine Below.alloc ?_ ?_ _); rotate_left; exact (by (try simp only [World.size_alloc, Xk.exw_size, World.size_setCell, World.size_drew, World.heap_drewN]); omega)) | ((with_reducible refine Xk.below_exw ?_ ?_ _); rotate_left; exact (by (try simp only [World.size_alloc, Xk.exw_size, World.size_setCell, World.size_drew, World.heap_drewN]); omega)) | (with_reducible refine Below.drew ?_)))⟩
      · go_wp2
        go_ret
        exact ⟨by rw [decide_eq_true (list_eq_of hlen fun j x hj hx => HN.out j x (by omega) hx)]; rfl, hbw⟩
  · have hn : (l.length : Int) ≠ (m.length : Int) := by omega
    have hnb : ((l.length : Int) == (m.length : Int)) = false := beq_eq_false_iff_ne.2 (by omega)
    have hf : decide (l = m) = false := decide_eq_false fun e => hlen (by rw [e])
    go_enter Tryz.func37, Tryz.ntmps37
    go_wp2
    go_ret
    exact ⟨by rw [hf]; rfl, Below.refl _ _⟩
set_option maxRecDepth 100000 in
set_option maxHeartbeats 4000000 in
theorem values_any (v u : Value) (l m : List V) (w : World) (hv : RowAt w v l) (hu : RowAt w u m) (hl : l.length ≤ 1000000) (hm : m.length ≤ 1000000) :
    Calls Tryz.prog 68 #[v, u] w fun e w' => e = .returned (.bool (decide (l = m))) ∧ Below w.heap.size w w' := by
  obtain ⟨pa, ca, rfl, hc⟩ := hv
  obtain ⟨pb, cb, rfl, hd⟩ := hu
  have HC := Lib.hid hc
  have HD := Lib.hid hd
  clear hc hd
  by_cases hlen : l.length = m.length
  · have hn : ¬ (l.length : Int) ≠ (m.length : Int) := by omega
    have hnb : ((l.length : Int) == (m.length : Int)) = true := beq_iff_eq.2 (by omega)
    rw [hlen] at hn hnb ⊢
    go_enter Tryz.func68, Tryz.ntmps68
    go_wp2
    go_loopw [5] (fun x wr => ∃ q : Nat, q ≤ m.length ∧ x = .int .i64 q ∧ Below w.heap.size w wr ∧ Hid (∀ (j : Nat) y, j < q → l[j]? = some y → m[j]? = some y)) (fun x _ => m.length - (intOf x).toNat)
    case atStart => exact ⟨0, Nat.zero_le _, rfl, Below.refl _ _, Lib.hid fun j y hj => by omega⟩
    case round =>
      obtain ⟨q, hq, rfl, hbw, HN⟩ := hrel
      by_cases hlt : q < m.length
      · have hx : l[q]? = some (l[q]'(by omega)) := List.getElem?_eq_getElem _
        have hy : m[q]? = some (m[q]'hlt) := List.getElem?_eq_getElem _
        have HX := Lib.hid hx
        have HY := Lib.hid hy
        obtain ⟨b, off, rfl, a1, a2, a3, -⟩ := HC.out q _ hx
        obtain ⟨b2, off2, rfl, c1, c2, c3, -⟩ := HD.out q _ hy
        have lb := Nat.lt_of_lt_of_le (World.block_lt_of_cell? w _ a1) hbw.size
        have lb2 := Nat.lt_of_lt_of_le (World.block_lt_of_cell? w _ c1) hbw.size
        have d1 := Xk.ext_cell hbw a1
        have d2 := Xk.ext_cell hbw a2
        have d3 := Xk.ext_cell hbw a3
        have e1 := Xk.ext_cell hbw c1
        have e2 := Xk.ext_cell hbw c2
        have e3 := Xk.ext_cell hbw c3
        clear a1 a2 a3 c1 c2 c3
        have HB := Lib.hid hbw
        have hsz := hbw.size
        clear hx hy hbw
        generalize l[q]'(by omega) = x at *
        generalize m[q]'hlt = y at *
        by_cases hxy : x = y
        · subst hxy
          go_wp2
          refine Xk.wp_region_rel' 9 [] trivial (by kernel_rfl) (by kernel_rfl) ?_
          simp only [List.take_succ_cons, List.take_zero, List.drop_succ_cons, List.drop_zero]
          repeat (first
            | (refine Xk.rel_det (Xk.wanted_none (by rfl)) (by rfl) (fun K hK => ?_); apply Exists.intro; refine ⟨fun p hp => ?_, ?_⟩; (go_simp; first | exact ⟨rfl, rfl⟩ | ((try refine ⟨by kernel_rfl, ?_⟩); (fail))); (go_simp; refine hK _ ?_; clear hK K))
            | (refine Xk.rel_skip (by rfl) (fun K hK => ?_); go_simp; refine hK _ ?_; clear hK K)
            | (refine Xk.rel_det (by rfl) (by rfl) (fun K hK => ?_); apply Exists.intro; refine ⟨fun p hp => ?_, ?_⟩; (go_simp; first | exact ⟨rfl, rfl⟩ | ((try refine ⟨by kernel_rfl, ?_⟩); (fail))); (go_simp; refine hK _ ?_; clear hK K)))
          refine Xk.rel_nil (fun p _ => ?_)
          all_goals
            go_wp2
            go_roundw
            case rel => exact ⟨q + 1, by omega, by go_num, (by repeat (first | with_reducible exact HB.out | with_reducible exact Below.refl _ _ | ((with_reducible refine Below.setCell ?_ ?_ _); rotate_left; exact (by (try simp only [World.size_alloc, Xk.exw_size, World.size_setCell, World.size_drew, World.heap_drewN]); omega)) | ((with_reducible refine Below.alloc ?_ ?_ _); rotate_left; exact (by (try simp only [World.size_alloc, Xk.exw_size, World.size_setCell, World.size_drew, World.heap_drewN]); omega)) | ((with_reducible refine Xk.below_exw ?_ ?_ _); rotate_left; exact (by (try simp only [World.size_alloc, Xk.exw_size, World.size_setCell, World.size_drew, World.heap_drewN]); omega)) | (with_reducible refine Below.drew ?_))), Lib.hid fun j y hj hy => by
              by_cases hjq : j = q
              · subst hjq; rw [HX.out] at hy; cases hy; exact HY.out
              · exact HN.out j y (by omega) hy⟩
            case measure => simp [intOf]; omega
        · have hxy2 : ¬ x.k = y.k ∨ (x.k = y.k ∧ ¬ x.i = y.i) ∨ (x.k = y.k ∧ x.i = y.i ∧ ¬ x.s.toList = y.s.toList) := by
            by_cases h1 : x.k = y.k
            · by_cases h2 : x.i = y.i
              · refine .inr (.inr ⟨h1, h2, fun h3 => hxy ?_⟩)
                rw [ByteArray.toList_eq, ByteArray.toList_eq] at h3
                have h4 : x.s = y.s := ByteArray.ext (Array.ext' h3)
                cases x; cases y; rw [V.mk.injEq]; exact ⟨h1, h2, h4⟩
              · exact .inr (.inl ⟨h1, h2⟩)
            · exact .inl h1
          have hf : decide (l = m) = false := decide_eq_false fun e => by
            have := HX.out
            rw [e, HY.out] at this
            cases this; exact hxy rfl
          have HF := Lib.hid hf
          clear hf
          rcases hxy2 with g1 | ⟨g1, g2⟩ | ⟨g1, g2, g3⟩
          all_goals
            clear hxy
            go_wp2
            refine Xk.wp_region_rel' 9 [] trivial (by kernel_rfl) (by kernel_rfl) ?_
            simp only [List.take_succ_cons, List.take_zero, List.drop_succ_cons, List.drop_zero]
            repeat (first
              | (refine Xk.rel_det (Xk.wanted_none (by rfl)) (by rfl) (fun K hK => ?_); apply Exists.intro; refine ⟨fun p hp => ?_, ?_⟩; (go_simp; first | exact ⟨rfl, rfl⟩ | ((try refine ⟨by kernel_rfl, ?_⟩); (fail))); (go_simp; refine hK _ ?_; clear hK K))
              | (refine Xk.rel_skip (by rfl) (fun K hK => ?_); go_simp; refine hK _ ?_; clear hK K)
              | (refine Xk.rel_det (by rfl) (by rfl) (fun K hK => ?_); apply Exists.intro; refine ⟨fun p hp => ?_, ?_⟩; (go_simp; first | exact ⟨rfl, rfl⟩ | ((try refine ⟨by kernel_rfl, ?_⟩); (fail))); (go_simp; refine hK _ ?_; clear hK K)))
            refine Xk.rel_nil (fun p _ => ?_)
            go_wp2
            go_ret
            exact ⟨by rw [HF.out]; rfl, (by repeat (first | with_reducible exact HB.out | with_reducible exact Below.refl _ _ | ((with_reducible refine Below.setCell ?_ ?_ _); rotate_left; exact (by (try simp only [World.size_alloc, Xk.exw_size, World.size_setCell, World.size_drew, World.heap_drewN]); omega)) | ((with_reducible refine Below.alloc ?_ ?_ _); rotate_left; exact (by (try simp only [World.size_alloc, Xk.exw_size, World.size_setCell, World.size_drew, World.heap_drewN]); omega)) | ((with_reducible refine Xk.below_exw ?_ ?_ _); rotate_left; exact (by (try simp only [World.size_alloc, Xk.exw_size, World.size_setCell, World.size_drew, World.heap_drewN]); omega)) | (with_reducible refine Below.drew ?_)))⟩
      · go_wp2
        go_ret
        exact ⟨by rw [decide_eq_true (list_eq_of hlen fun j x hj hx => HN.out j x (by omega) hx)]; rfl, hbw⟩
  · have hn : (l.length : Int) ≠ (m.length : Int) := by omega
    have hnb : ((l.length : Int) == (m.length : Int)) = false := beq_eq_false_iff_ne.2 (by omega)
    have hf : decide (l = m) = false := decide_eq_false fun e => hlen (by rw [e])
    go_enter Tryz.func68, Tryz.ntmps68
    go_wp2
    go_ret
    exact ⟨by rw [hf]; rfl, Below.refl _ _⟩
set_option maxRecDepth 100000 in
set_option maxHeartbeats 4000000 in
theorem tables_any (v u : Value) (l m : List (List V)) (w : World) (hv : RowsAt w v l) (hu : RowsAt w u m) (hlr : ∀ r ∈ l, r.length ≤ 1000000) (hmr : ∀ r ∈ m, r.length ≤ 1000000) (hl : l.length ≤ 1000000) (hm : m.length ≤ 1000000) :
    Calls Tryz.prog 38 #[v, u] w fun e w' => e = .returned (.bool (decide (l = m))) ∧ Below w.heap.size w w' := by
  obtain ⟨pa, ca, rfl, hc⟩ := hv.parts
  obtain ⟨pb, cb, rfl, hd⟩ := hu.parts
  have HC := Lib.hid hc
  have HD := Lib.hid hd
  have HLr := Lib.hid hlr
  have HMr := Lib.hid hmr
  clear hc hd hv hu hlr hmr
  by_cases hlen : l.length = m.length
  · have hn : ¬ (l.length : Int) ≠ (m.length : Int) := by omega
    have hnb : ((l.length : Int) == (m.length : Int)) = true := beq_iff_eq.2 (by omega)
    rw [hlen] at hn hnb ⊢
    go_enter Tryz.func38, Tryz.ntmps38
    go_wp2
    go_loopw [5] (fun x wr => ∃ q : Nat, q ≤ m.length ∧ x = .int .i64 q ∧ Below w.heap.size w wr ∧ Hid (∀ (j : Nat) y, j < q → l[j]? = some y → m[j]? = some y)) (fun x _ => m.length - (intOf x).toNat)
    case atStart => exact ⟨0, Nat.zero_le _, rfl, Below.refl _ _, Lib.hid fun j y hj => by omega⟩
    case round =>
      obtain ⟨q, hq, rfl, hbw, HN⟩ := hrel
      by_cases hlt : q < m.length
      · have hx : l[q]? = some (l[q]'(by omega)) := List.getElem?_eq_getElem _
        have hy : m[q]? = some (m[q]'hlt) := List.getElem?_eq_getElem _
        have HX := Lib.hid hx
        have HY := Lib.hid hy
        obtain ⟨b, off, u1, rfl, d1, r1⟩ := HC.out q _ hx
        obtain ⟨b2, off2, u2, rfl, d2, r2⟩ := HD.out q _ hy
        have d1 := Xk.ext_cell hbw d1
        have d2 := Xk.ext_cell hbw d2
        have hk := Lib.hid fun p => values_any u1 u2 _ _ (Xk.exw wr p) ((r1.ext hbw).ext (Xk.ext_exw _ _)) ((r2.ext hbw).ext (Xk.ext_exw _ _)) (HLr.out _ (List.mem_of_getElem? hx)) (HMr.out _ (List.mem_of_getElem? hy))
        clear r1 r2
        have l1 := World.block_lt_of_cell? _ _ d1
        have l2 := World.block_lt_of_cell? _ _ d2
        have HB := Lib.hid hbw
        have hsz := hbw.size
        clear hx hy hbw
        generalize l[q]'(by omega) = x at *
        generalize m[q]'hlt = y at *
        by_cases hxy : x = y
        · subst hxy
          have hk2 : Hid _ := Lib.hid fun p => by have h := hk.out p; rw [decide_eq_true rfl] at h; exact h
          clear hk
          go_wp2
          refine Xk.wp_region_rel' 10 [] trivial (by kernel_rfl) (by kernel_rfl) ?_
          simp only [List.take_succ_cons, List.take_zero, List.drop_succ_cons, List.drop_zero]
          repeat (first
            | (refine Xk.rel_det (Xk.wanted_none (by rfl)) (by rfl) (fun K hK => ?_); apply Exists.intro; refine ⟨fun p hp => ?_, ?_⟩; (go_simp; first | exact ⟨rfl, rfl⟩ | ((try refine ⟨by kernel_rfl, ?_⟩); (first | (go_at_call 68; ((with_reducible refine (hk2.out _).mono ?_); exact fun e w' h => h))))); (go_simp; refine hK _ ?_; clear hK K))
            | (refine Xk.rel_skip (by rfl) (fun K hK => ?_); go_simp; refine hK _ ?_; clear hK K)
            | (refine Xk.rel_det (by rfl) (by rfl) (fun K hK => ?_); apply Exists.intro; refine ⟨fun p hp => ?_, ?_⟩; (go_simp; first | exact ⟨rfl, rfl⟩ | ((try refine ⟨by kernel_rfl, ?_⟩); (first | (go_at_call 68; ((with_reducible refine (hk2.out _).mono ?_); exact fun e w' h => h))))); (go_simp; refine hK _ ?_; clear hK K)))
          refine Xk.rel_nil (fun p _ => ?_)
          all_goals
            go_wp2
            go_roundw
            case rel => exact ⟨q + 1, by omega, by go_num, (by repeat (first | with_reducible exact HB.out | with_reducible exact Below.refl _ _ | ((with_reducible refine Below.setCell ?_ ?_ _); rotate_left; exact (by (try simp only [World.size_alloc, Xk.exw_size, World.size_setCell, World.size_drew, World.heap_drewN]); omega)) | ((with_reducible refine Below.alloc ?_ ?_ _); rotate_left; exact (by (try simp only [World.size_alloc, Xk.exw_size, World.size_setCell, World.size_drew, World.heap_drewN]); omega)) | ((with_reducible refine Xk.below_exw ?_ ?_ _); rotate_left; exact (by (try simp only [World.size_alloc, Xk.exw_size, World.size_setCell, World.size_drew, World.heap_drewN]); omega)) | (with_reducible refine Below.drew ?_))), Lib.hid fun j y hj hy => by
              by_cases hjq : j = q
              · subst hjq; rw [HX.out] at hy; cases hy; exact HY.out
              · exact HN.out j y (by omega) hy⟩
            case measure => simp [intOf]; omega
        · have hk2 : Hid _ := Lib.hid fun p => by have h := hk.out p; rw [decide_eq_false hxy] at h; exact h
          clear hk
          have hf : decide (l = m) = false := decide_eq_false fun e => by
            have := HX.out
            rw [e, HY.out] at this
            cases this; exact hxy rfl
          have HF := Lib.hid hf
          clear hf
          go_wp2
          refine Xk.wp_region_rel' 10 [] trivial (by kernel_rfl) (by kernel_rfl) ?_
          simp only [List.take_succ_cons, List.take_zero, List.drop_succ_cons, List.drop_zero]
          repeat (first
            | (refine Xk.rel_det (Xk.wanted_none (by rfl)) (by rfl) (fun K hK => ?_); apply Exists.intro; refine ⟨fun p hp => ?_, ?_⟩; (go_simp; first | exact ⟨rfl, rfl⟩ | ((try refine ⟨by kernel_rfl, ?_⟩); (first | (go_at_call 68; ((with_reducible refine (hk2.out _).mono ?_); exact fun e w' h => h))))); (go_simp; refine hK _ ?_; clear hK K))
            | (refine Xk.rel_skip (by rfl) (fun K hK => ?_); go_simp; refine hK _ ?_; clear hK K)
            | (refine Xk.rel_det (by rfl) (by rfl) (fun K hK => ?_); apply Exists.intro; refine ⟨fun p hp => ?_, ?_⟩; (go_simp; first | exact ⟨rfl, rfl⟩ | ((try refine ⟨by kernel_rfl, ?_⟩); (first | (go_at_call 68; ((with_reducible refine (hk2.out _).mono ?_); exact fun e w' h => h))))); (go_simp; refine hK _ ?_; clear hK K)))
          refine Xk.rel_nil (fun p _ => ?_)
          all_goals
            go_wp2
            go_ret
            exact ⟨by rw [HF.out]; rfl, (by repeat (first | with_reducible exact HB.out | with_reducible exact Below.refl _ _ | ((with_reducible refine Below.setCell ?_ ?_ _); rotate_left; exact (by (try simp only [World.size_alloc, Xk.exw_size, World.size_setCell, World.size_drew, World.heap_drewN]); omega)) | ((with_reducible refine Below.alloc ?_ ?_ _); rotate_left; exact (by (try simp only [World.size_alloc, Xk.exw_size, World.size_setCell, World.size_drew, World.heap_drewN]); omega)) | ((with_reducible refine Xk.below_exw ?_ ?_ _); rotate_left; exact (by (try simp only [World.size_alloc, Xk.exw_size, World.size_setCell, World.size_drew, World.heap_drewN]); omega)) | (with_reducible refine Below.drew ?_)))⟩
      · go_wp2
        go_ret
        exact ⟨by rw [decide_eq_true (list_eq_of hlen fun j x hj hx => HN.out j x (by omega) hx)]; rfl, hbw⟩
  · have hn : (l.length : Int) ≠ (m.length : Int) := by omega
    have hnb : ((l.length : Int) == (m.length : Int)) = false := beq_eq_false_iff_ne.2 (by omega)
    have hf : decide (l = m) = false := decide_eq_false fun e => hlen (by rw [e])
    go_enter Tryz.func38, Tryz.ntmps38
    go_wp2
    go_ret
    exact ⟨by rw [hf]; rfl, Below.refl _ _⟩
/-- How many names, rows and values an answer has. -/
structure AnsCount (a : Ans) : Prop where
  names : a.names.length ≤ 4096
  rows : a.rows.length ≤ 4096
  row : ∀ r ∈ a.rows, r.length ≤ 4096
/-- The same answer? -/
def sameA (a b : Ans) : Bool := decide (a.names = b.names) && decide (a.rows = b.rows) && decide (a.n = b.n)
set_option maxRecDepth 100000 in
set_option maxHeartbeats 4000000 in
theorem answersC_any (vc vr uc ur : Value) (a b : Ans) (w : World) (hc : StrsAt w vc a.names) (hr : RowsAt w vr a.rows) (hc' : StrsAt w uc b.names) (hr' : RowsAt w ur b.rows) (ha : AnsCount a) (hb : AnsCount b) :
    Calls Tryz.prog 14 #[.agg #[vc, vr, .int .i64 a.n], .agg #[uc, ur, .int .i64 b.n]] w fun e w' => e = .returned (.bool (sameA a b)) ∧ Below w.heap.size w w' := by
  have HT := Lib.hid fun W (h : Xk.Ext w W) => texts_any vc uc a.names b.names W (hc.ext h) (hc'.ext h) (Nat.le_trans ha.names (by omega)) (Nat.le_trans hb.names (by omega))
  have HR := Lib.hid fun W (h : Xk.Ext w W) => tables_any vr ur a.rows b.rows W (hr.ext h) (hr'.ext h) (fun r hr => Nat.le_trans (ha.row r hr) (by omega)) (fun r hr => Nat.le_trans (hb.row r hr) (by omega)) (Nat.le_trans ha.rows (by omega)) (Nat.le_trans hb.rows (by omega))
  obtain ⟨p1, c1, rfl, -⟩ := hc.parts
  obtain ⟨p2, c2, rfl, -⟩ := hr.parts
  obtain ⟨p3, c3, rfl, -⟩ := hc'.parts
  obtain ⟨p4, c4, rfl, -⟩ := hr'.parts
  have HS : Hid (sameA a b = (decide (a.names = b.names) && decide (a.rows = b.rows) && decide (a.n = b.n))) := Lib.hid rfl
  clear hc hr hc' hr' ha hb
  cases h1 : decide (a.names = b.names)
  · rw [h1] at HT
    have HS2 : Hid (sameA a b = false) := Lib.hid (by rw [HS.out, h1]; rfl)
    clear h1
    go_enter Tryz.func14, Tryz.ntmps14
    go_wp2_with (first | (go_at_call 37; (with_reducible refine (HT.out _ (by repeat (first | with_reducible exact Below.refl _ _ | ((with_reducible refine Below.setCell ?_ ?_ _); rotate_left; exact (by (try simp only [World.size_alloc, Xk.exw_size, World.size_setCell, World.size_drew, World.heap_drewN]); omega)) | ((with_reducible refine Below.alloc ?_ ?_ _); rotate_left; exact (by (try simp only [World.size_alloc, Xk.exw_size, World.size_setCell, World.size_drew, World.heap_drewN]); omega)) | ((with_reducible refine Xk.below_exw ?_ ?_ _); rotate_left; exact (by (try simp only [World.size_alloc, Xk.exw_size, World.size_setCell, World.size_drew, World.heap_drewN]); omega)) | (with_reducible refine Below.drew ?_)))).mono ?_); rintro e w' ⟨rfl, hb⟩; obtain ⟨p, rfl⟩ := Xk.exw_of hb; clear hb))
    go_ret
    exact ⟨by rw [HS2.out]; rfl, (by repeat (first | with_reducible exact Below.refl _ _ | ((with_reducible refine Below.setCell ?_ ?_ _); rotate_left; exact (by (try simp only [World.size_alloc, Xk.exw_size, World.size_setCell, World.size_drew, World.heap_drewN]); omega)) | ((with_reducible refine Below.alloc ?_ ?_ _); rotate_left; exact (by (try simp only [World.size_alloc, Xk.exw_size, World.size_setCell, World.size_drew, World.heap_drewN]); omega)) | ((with_reducible refine Xk.below_exw ?_ ?_ _); rotate_left; exact (by (try simp only [World.size_alloc, Xk.exw_size, World.size_setCell, World.size_drew, World.heap_drewN]); omega)) | (with_reducible refine Below.drew ?_)))⟩
  · rw [h1] at HT
    cases h2 : decide (a.rows = b.rows)
    · rw [h2] at HR
      have HS2 : Hid (sameA a b = false) := Lib.hid (by rw [HS.out, h1, h2]; rfl)
      clear h1 h2
      go_enter Tryz.func14, Tryz.ntmps14
      go_wp2_with (first | (go_at_call 37; (with_reducible refine (HT.out _ (by repeat (first | with_reducible exact Below.refl _ _ | ((with_reducible refine Below.setCell ?_ ?_ _); rotate_left; exact (by (try simp only [World.size_alloc, Xk.exw_size, World.size_setCell, World.size_drew, World.heap_drewN]); omega)) | ((with_reducible refine Below.alloc ?_ ?_ _); rotate_left; exact (by (try simp only [World.size_alloc, Xk.exw_size, World.size_setCell, World.size_drew, World.heap_drewN]); omega)) | ((with_reducible refine Xk.below_exw ?_ ?_ _); rotate_left; exact (by (try simp only [World.size_alloc, Xk.exw_size, World.size_setCell, World.size_drew, World.heap_drewN]); omega)) | (with_reducible refine Below.drew ?_)))).mono ?_); rintro e w' ⟨rfl, hb⟩; obtain ⟨p, rfl⟩ := Xk.exw_of hb; clear hb) | (go_at_call 38; (with_reducible refine (HR.out _ (by repeat (first | with_reducible exact Below.refl _ _ | ((with_reducible refine Below.setCell ?_ ?_ _); rotate_left; exact (by (try simp only [World.size_alloc, Xk.exw_size, World.size_setCell, World.size_drew, World.heap_drewN]); omega)) | ((with_reducible refine Below.alloc ?_ ?_ _); rotate_left; exact (by (try simp only [World.size_alloc, Xk.exw_size, World.size_setCell, World.size_drew, World.heap_drewN]); omega)) | ((with_reducible refine Xk.below_exw ?_ ?_ _); rotate_left; exact (by (try simp only [World.size_alloc, Xk.exw_size, World.size_setCell, World.size_drew, World.heap_drewN]); omega)) | (with_reducible refine Below.drew ?_)))).mono ?_); rintro e w' ⟨rfl, hb⟩; obtain ⟨p, rfl⟩ := Xk.exw_of hb; clear hb))
      go_ret
      exact ⟨by rw [HS2.out]; rfl, (by repeat (first | with_reducible exact Below.refl _ _ | ((with_reducible refine Below.setCell ?_ ?_ _); rotate_left; exact (by (try simp only [World.size_alloc, Xk.exw_size, World.size_setCell, World.size_drew, World.heap_drewN]); omega)) | ((with_reducible refine Below.alloc ?_ ?_ _); rotate_left; exact (by (try simp only [World.size_alloc, Xk.exw_size, World.size_setCell, World.size_drew, World.heap_drewN]); omega)) | ((with_reducible refine Xk.below_exw ?_ ?_ _); rotate_left; exact (by (try simp only [World.size_alloc, Xk.exw_size, World.size_setCell, World.size_drew, World.heap_drewN]); omega)) | (with_reducible refine Below.drew ?_)))⟩
    · rw [h2] at HR
      have HS2 : Hid (sameA a b = decide (a.n = b.n)) := Lib.hid (by rw [HS.out, h1, h2]; rfl)
      clear h1 h2
      go_enter Tryz.func14, Tryz.ntmps14
      go_wp2_with (first | (go_at_call 37; (with_reducible refine (HT.out _ (by repeat (first | with_reducible exact Below.refl _ _ | ((with_reducible refine Below.setCell ?_ ?_ _); rotate_left; exact (by (try simp only [World.size_alloc, Xk.exw_size, World.size_setCell, World.size_drew, World.heap_drewN]); omega)) | ((with_reducible refine Below.alloc ?_ ?_ _); rotate_left; exact (by (try simp only [World.size_alloc, Xk.exw_size, World.size_setCell, World.size_drew, World.heap_drewN]); omega)) | ((with_reducible refine Xk.below_exw ?_ ?_ _); rotate_left; exact (by (try simp only [World.size_alloc, Xk.exw_size, World.size_setCell, World.size_drew, World.heap_drewN]); omega)) | (with_reducible refine Below.drew ?_)))).mono ?_); rintro e w' ⟨rfl, hb⟩; obtain ⟨p, rfl⟩ := Xk.exw_of hb; clear hb) | (go_at_call 38; (with_reducible refine (HR.out _ (by repeat (first | with_reducible exact Below.refl _ _ | ((with_reducible refine Below.setCell ?_ ?_ _); rotate_left; exact (by (try simp only [World.size_alloc, Xk.exw_size, World.size_setCell, World.size_drew, World.heap_drewN]); omega)) | ((with_reducible refine Below.alloc ?_ ?_ _); rotate_left; exact (by (try simp only [World.size_alloc, Xk.exw_size, World.size_setCell, World.size_drew, World.heap_drewN]); omega)) | ((with_reducible refine Xk.below_exw ?_ ?_ _); rotate_left; exact (by (try simp only [World.size_alloc, Xk.exw_size, World.size_setCell, World.size_drew, World.heap_drewN]); omega)) | (with_reducible refine Below.drew ?_)))).mono ?_); rintro e w' ⟨rfl, hb⟩; obtain ⟨p, rfl⟩ := Xk.exw_of hb; clear hb))
      go_ret
      exact ⟨by rw [HS2.out]; rfl, (by repeat (first | with_reducible exact Below.refl _ _ | ((with_reducible refine Below.setCell ?_ ?_ _); rotate_left; exact (by (try simp only [World.size_alloc, Xk.exw_size, World.size_setCell, World.size_drew, World.heap_drewN]); omega)) | ((with_reducible refine Below.alloc ?_ ?_ _); rotate_left; exact (by (try simp only [World.size_alloc, Xk.exw_size, World.size_setCell, World.size_drew, World.heap_drewN]); omega)) | ((with_reducible refine Xk.below_exw ?_ ?_ _); rotate_left; exact (by (try simp only [World.size_alloc, Xk.exw_size, World.size_setCell, World.size_drew, World.heap_drewN]); omega)) | (with_reducible refine Below.drew ?_)))⟩
theorem answers_any (vc vr uc ur : Value) (a b : Ans) (w : World) (hc : StrsAt w vc a.names) (hr : RowsAt w vr a.rows) (hc' : StrsAt w uc b.names) (hr' : RowsAt w ur b.rows) (ha : AnsOk 4096 a) (hb : AnsOk 4096 b) :
    Calls Tryz.prog 14 #[.agg #[vc, vr, .int .i64 a.n], .agg #[uc, ur, .int .i64 b.n]] w fun e w' => e = .returned (.bool (sameA a b)) ∧ Below w.heap.size w w' :=
  answersC_any vc vr uc ur a b w hc hr hc' hr' ⟨ha.names, ha.rows, fun r hr => (ha.row r hr).1⟩ ⟨hb.names, hb.rows, fun r hr => (hb.row r hr).1⟩
end Go.Proofs.YtmoippbmnanajaaGreatDoor
