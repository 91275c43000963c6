/- Walks: rows compared. -/
import Derived.Test.YtmoippbmnanajaaGreatDoorE
set_option linter.unusedSimpArgs false
set_option linter.unusedVariables false
namespace Go.Proofs.YtmoippbmnanajaaGreatDoor
open Go.RowKit

/-- A value of three fields. -/
structure V where
  k : Int
  i : Int
  s : ByteArray
/-- v is a slice of api.Value that reads as l in w. -/
def RowAt (w : World) (v : Value) (l : List V) : Prop :=
  ∃ pa cap, v = .slice pa l.length cap ∧ ∀ (j : Nat) (x : V), l[j]? = some x → ∃ b off, pa = some ⟨b, off, none⟩ ∧
    w.cell? ⟨b, off + j * 3, none⟩ = some (.int .i64 x.k) ∧ w.cell? ⟨b, off + j * 3 + 1, none⟩ = some (.int .i64 x.i) ∧ w.cell? ⟨b, off + j * 3 + 2, none⟩ = some (.string x.s) ∧ x.s.size ≤ maxLen
theorem RowAt.ext {w w' : World} {v : Value} {l : List V} (h : RowAt w v l) (hx : Xk.Ext w w') : RowAt w' v l := by
  obtain ⟨pa, cap, hv, hl⟩ := h
  refine ⟨pa, cap, hv, fun j x hj => ?_⟩
  obtain ⟨b, off, h1, h2, h3, h4, h5⟩ := hl j x hj
  exact ⟨b, off, h1, Xk.ext_cell hx h2, Xk.ext_cell hx h3, Xk.ext_cell hx h4, h5⟩
def cmpX (x y : V) : Int := cmpV x.k x.i x.s y.k y.i y.s
def rowsV : List V → List V → Int
  | [], [] => 0
  | [], _ :: _ => -1
  | _ :: _, [] => 1
  | x :: l, y :: m => if cmpX x y = 0 then rowsV l m else cmpX x y
theorem rowsV_drop : ∀ (l m : List V) (q : Nat), q ≤ l.length → q ≤ m.length → (∀ j x y, j < q → l[j]? = some x → m[j]? = some y → cmpX x y = 0) → rowsV l m = rowsV (l.drop q) (m.drop q)
  | _, _, 0, _, _, _ => rfl
  | [], _, q + 1, h, _, _ => by simp at h
  | _ :: _, [], q + 1, _, h, _ => by simp at h
  | x :: l, y :: m, q + 1, h, h', hz => by
    rw [rowsV, if_pos (hz 0 x y (by omega) rfl rfl), List.drop_succ_cons, List.drop_succ_cons]
    exact rowsV_drop l m q (by simpa using h) (by simpa using h') fun j a b hj ha hb => hz (j + 1) a b (by omega) (by simpa using ha) (by simpa using hb)
theorem rowsV_at {l m : List V} {q : Nat} {x y : V} (hx : l[q]? = some x) (hy : m[q]? = some y) (hz : ∀ j x y, j < q → l[j]? = some x → m[j]? = some y → cmpX x y = 0) (hn : cmpX x y ≠ 0) : rowsV l m = cmpX x y := by
  have h1 : q < l.length := (List.getElem?_eq_some_iff.1 hx).1
  have h2 : q < m.length := (List.getElem?_eq_some_iff.1 hy).1
  rw [rowsV_drop l m q (by omega) (by omega) hz, List.drop_eq_getElem_cons h1, List.drop_eq_getElem_cons h2]
  have e1 : l[q] = x := (List.getElem?_eq_some_iff.1 hx).2
  have e2 : m[q] = y := (List.getElem?_eq_some_iff.1 hy).2
  rw [e1, e2, rowsV, if_neg hn]
theorem rowsV_end {l m : List V} {q : Nat} (hq : q = min l.length m.length) (hz : ∀ j x y, j < q → l[j]? = some x → m[j]? = some y → cmpX x y = 0) : rowsV l m = P6.cmpInt l.length m.length := by
  rw [rowsV_drop l m q (by omega) (by omega) hz]
  rcases Nat.lt_trichotomy l.length m.length with h | h | h
  · rw [List.drop_of_length_le (by omega : l.length ≤ q), List.drop_eq_getElem_cons (by omega : q < m.length), rowsV, P6.cmpInt, if_pos (by omega)]
  · rw [List.drop_of_length_le (by omega : l.length ≤ q), List.drop_of_length_le (by omega : m.length ≤ q), rowsV, P6.cmpInt, if_neg (by omega), if_neg (by omega)]
  · rw [List.drop_of_length_le (by omega : m.length ≤ q), List.drop_eq_getElem_cons (by omega : q < l.length), rowsV, P6.cmpInt, if_neg (by omega), if_pos (by omega)]

set_option maxRecDepth 100000 in
set_option maxHeartbeats 2000000 in
theorem rows_any (va vb : Value) (l m : List V) (w : World) (ha : RowAt w va l) (hb : RowAt w vb m) (hl : l.length ≤ 1000000) (hm : m.length ≤ 1000000) :
    Calls Tryz.prog 45 #[va, vb] w fun e w' => e = .returned (.int .i64 (rowsV l m)) ∧ Below w.heap.size w w' := by
  obtain ⟨pa, ca, rfl, ha⟩ := ha
  obtain ⟨pb, cb, rfl, hb⟩ := hb
  go_enter Tryz.func45, Tryz.ntmps45
  go_wp2
  go_loopw [12] (fun x wr => ∃ q : Nat, q ≤ min l.length m.length ∧ x = .int .i64 q ∧ Below w.heap.size w wr ∧ ∀ j x y, j < q → l[j]? = some x → m[j]? = some y → cmpX x y = 0) (fun x _ => min l.length m.length - (intOf x).toNat)
  case atStart => exact ⟨0, by omega, rfl, Below.refl _ _, fun j x y hj => by omega⟩
  case round =>
    obtain ⟨q, hq, rfl, hbw, hz⟩ := hrel
    have Hz := Lib.hid hz
    clear hz
    obtain ⟨p, rfl⟩ := Xk.exw_of hbw
    clear hbw
    by_cases hlt : q < min l.length m.length
    · have hla : q < l.length := by omega
      have hlb : q < m.length := by omega
      obtain ⟨b, off, rfl, a1, a2, a3, a4⟩ := ha q l[q] (by simp [hla])
      obtain ⟨b', off', rfl, b1, b2, b3, b4⟩ := hb q m[q] (by simp [hlb])
      have Hx := Lib.hid (show l[q]? = some l[q] by simp [hla])
      have Hy := Lib.hid (show m[q]? = some m[q] by simp [hlb])
      clear ha hb
      have lb := World.block_lt_of_cell? w _ a1
      have lb' := World.block_lt_of_cell? w _ b1
      generalize hgx : l[q] = x at *
      generalize hgy : m[q] = y at *
      clear hgx hgy
      have hc : ∀ w, Calls Tryz.prog 72 #[vv x.k x.i x.s, vv y.k y.i y.s] w fun e w' => e = .returned (.int .i64 (cmpX x y)) ∧ Below w.heap.size w w' := compare_any _ _ _ _ _ _
      by_cases h0 : cmpX x y = 0
      · have Hc := Lib.hid hc
        have Hz0 := Lib.hid h0
        rw [h0] at hc
        have H0 := Lib.hid hc
        clear hc h0 Hc
        go_wp2
        refine Xk.wp_region_rel' 10 [] trivial (by kernel_rfl) (by kernel_rfl) ?_
        simp only [List.take_succ_cons, List.take_zero, List.drop_succ_cons, List.drop_zero]
        repeat (first
          | (refine Xk.rel_skip (by rfl) (fun K hK => ?_); go_simp; refine hK _ ?_; clear hK K)
          | (refine Xk.rel_det (by rfl) (by rfl) (fun K hK => ?_); apply Exists.intro; refine ⟨fun p hp => ?_, ?_⟩; (go_simp; first | exact ⟨rfl, rfl⟩ | ((try refine ⟨by kernel_rfl, ?_⟩); (((with_reducible refine (H0.out _).mono ?_); exact fun e w' h => h)))); (go_simp; refine hK _ ?_; clear hK K)))
        refine Xk.rel_nil (fun p _ => ?_)
        go_wp2
        go_roundw
        case rel => exact ⟨q + 1, by omega, by go_num, (by repeat (first | with_reducible exact Below.refl _ _ | ((with_reducible refine Below.setCell ?_ ?_ _); rotate_left; exact (by (try simp only [World.size_alloc, Xk.exw_size, World.size_setCell, World.size_drew, World.heap_drewN]); omega)) | ((with_reducible refine Below.alloc ?_ ?_ _); rotate_left; exact (by (try simp only [World.size_alloc, Xk.exw_size, World.size_setCell, World.size_drew, World.heap_drewN]); omega)) | ((with_reducible refine Xk.below_exw ?_ ?_ _); rotate_left; exact (by (try simp only [World.size_alloc, Xk.exw_size, World.size_setCell, World.size_drew, World.heap_drewN]); omega)) | (with_reducible refine Below.drew ?_))), fun j x' y' hj hx hy => by
          by_cases hjq : j = q
          · subst hjq
            rw [Hx.out] at hx; rw [Hy.out] at hy
            cases hx; cases hy; exact Hz0.out
          · exact Hz.out j x' y' (by omega) hx hy⟩
        case measure => simp [intOf]; omega
      · have Hv := Lib.hid (rowsV_at Hx.out Hy.out Hz.out h0)
        have H0 := Lib.hid hc
        generalize cmpX x y = c at *
        have hb : (c != 0) = true := by simpa using h0
        clear hc
        go_wp2
        refine Xk.wp_region_rel' 10 [] trivial (by kernel_rfl) (by kernel_rfl) ?_
        simp only [List.take_succ_cons, List.take_zero, List.drop_succ_cons, List.drop_zero]
        repeat (first
          | (refine Xk.rel_skip (by rfl) (fun K hK => ?_); go_simp; refine hK _ ?_; clear hK K)
          | (refine Xk.rel_det (by rfl) (by rfl) (fun K hK => ?_); apply Exists.intro; refine ⟨fun p hp => ?_, ?_⟩; (go_simp; first | exact ⟨rfl, rfl⟩ | ((try refine ⟨by kernel_rfl, ?_⟩); (((with_reducible refine (H0.out _).mono ?_); exact fun e w' h => h)))); (go_simp; refine hK _ ?_; clear hK K)))
        refine Xk.rel_nil (fun p _ => ?_)
        go_wp2
        go_ret
        exact ⟨by rw [Hv.out]; rfl, (by repeat (first | with_reducible exact Below.refl _ _ | ((with_reducible refine Below.setCell ?_ ?_ _); rotate_left; exact (by (try simp only [World.size_alloc, Xk.exw_size, World.size_setCell, World.size_drew, World.heap_drewN]); omega)) | ((with_reducible refine Below.alloc ?_ ?_ _); rotate_left; exact (by (try simp only [World.size_alloc, Xk.exw_size, World.size_setCell, World.size_drew, World.heap_drewN]); omega)) | ((with_reducible refine Xk.below_exw ?_ ?_ _); rotate_left; exact (by (try simp only [World.size_alloc, Xk.exw_size, World.size_setCell, World.size_drew, World.heap_drewN]); omega)) | (with_reducible refine Below.drew ?_)))⟩
    · have Hv := Lib.hid (rowsV_end (q := q) (by omega) Hz.out)
      clear ha hb
      go_wp2_with (go_at_call 73; (with_reducible refine (compare_int _ _ _).mono ?_); rintro e w' ⟨rfl, rfl⟩)
      go_ret
      exact ⟨by rw [Hv.out]; rfl, (by repeat (first | with_reducible exact Below.refl _ _ | ((with_reducible refine Below.setCell ?_ ?_ _); rotate_left; exact (by (try simp only [World.size_alloc, Xk.exw_size, World.size_setCell, World.size_drew, World.heap_drewN]); omega)) | ((with_reducible refine Below.alloc ?_ ?_ _); rotate_left; exact (by (try simp only [World.size_alloc, Xk.exw_size, World.size_setCell, World.size_drew, World.heap_drewN]); omega)) | ((with_reducible refine Xk.below_exw ?_ ?_ _); rotate_left; exact (by (try simp only [World.size_alloc, Xk.exw_size, World.size_setCell, World.size_drew, World.heap_drewN]); omega)) | (with_reducible refine Below.drew ?_)))⟩

end Go.Proofs.YtmoippbmnanajaaGreatDoor
