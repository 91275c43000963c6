/- The walk of the statement ValueSorted. -/
import Derived.Test.YtpikcjpimciniaaDoorR
import Derived.Test.YtpikcjpimciniaaDoorI
import Derived.Laws.OwnMore
import Derived.Deep.AppendLies
import Derived.LoopN
import Derived.Deep.QuietTactic
import Derived.BigQuiet
set_option linter.unusedSimpArgs false
set_option linter.unusedVariables false
namespace Go.Proofs.YtpikcjpimciniaaDoor
open Go.RowKit
attribute [local irreducible] Xk.wpRel

theorem wanted_none {o : Oper} {y} (h : o.guard = none) : Region.wanted o y = true := by
  unfold Region.wanted; rw [h]
theorem ownsRow_ext {w w' : World} {base : Nat} {e : TypeId} {size : Nat} {v : Value} {n : Nat} {xs : List Value} (h : w.ownsRow base e size v n xs) (hx : Xk.Ext w w') : w'.ownsRow base e size v n xs := by
  obtain ⟨h1, h2⟩ := h
  refine ⟨h1, ?_⟩
  rcases h2 with h2 | ⟨g, cap, cur, hv, hb, hg, r⟩
  · exact .inl h2
  · exact .inr ⟨g, cap, cur, hv, hb, by rw [hx.block g (Array.getElem?_eq_some_iff.1 hg).1]; exact hg, r⟩

attribute [local semireducible] Xk.exw
@[go_sem] theorem exw_drew (w : World) (p : Regrown) : Xk.exw w.drew p = Xk.exw w p := rfl
attribute [local irreducible] Xk.exw
theorem bdrewN {B : Nat} {a w : World} (h : Below B a w) (q : Nat) : Below B a (w.drewN q) := ⟨h.os, h.tape, h.output, h.size, h.block⟩
/-- A slice appended to nothing: a row of its own. -/
theorem wpList_copy {P : Program} {w0 w : World} {ops : Array Oper} {rest : List Oper} {o : Oper} {a : Act} {Q : Exit → Act → World → Prop} (hgd : o.guard = none) (s x : Operand) (t : TypeId)
    (ho : o.op = .call { callee := .builtin .append, args := #[s, x], argTypes := #[t, t] })
    (e : TypeId) (i : TypeInfo) (z : Value) (bytes : Nat) (ht : P.underlying t = some (.slice e)) (hi : P.info? e = some i) (hz : i.zero = some z)
    (hsize : i.size = 1) (hby : i.bytes = bytes) (hzs : z.cells.size = 1)
    (hs : a.eval s = .slice none 0 0) (ad : Addr) (m c : Nat) (news : List Value) (hx : a.eval x = .slice (some ad) m c) (hl : news.length = m)
    (hnews : ∀ j u, news[j]? = some u → w.cell? (ad.add j) = some u) (h1 : ∀ u ∈ news, u.oneCell' = true) (hm : m ≤ 1000000) (hbytes : bytes ≤ 1000) (hbel : Below w0.heap.size w0 w)
    (h : ∀ v' p, (Xk.exw w0 p).ownsRow w0.heap.size e 1 v' m news → (m = 0 → v' = .slice none 0 0) → wpList P ops Q rest (a.put o.dst v') (Xk.exw w0 p)) : wpList P ops Q (o :: rest) a w := by
  have hb : m * bytes ≤ 140737488355328 := by
    have := Nat.mul_le_mul hm hbytes
    omega
  refine wpList_append_own w hgd s x t ho w0.heap.size e i z 1 bytes ht hi hz hsize hby hzs (by decide) (.slice none 0 0) 0 [] hs (World.ownsRow_nil _ _ _ _) _ m c news hx (by simpa using hl) hnews h1
    (by unfold maxLen; omega) (by simpa using hb) hbel.size fun v' w' ho' hg hz => ?_
  obtain ⟨p, rfl⟩ := Xk.exw_of (hbel.grown hg hbel.size (fun k hk => by cases hk))
  exact h v' p (by simpa using ho') fun h0 => hz.2 ⟨rfl, h0⟩

theorem Tryd.infoR : (Tryd.prog.info? 35).map (fun i => (i.zero, i.size, i.bytes)) = some (some (.slice none 0 0), 1, 24) := by kernel_rfl
def rw' (M : List (Value × List V)) (p : Nat) : List V := ((M[p]?).map Prod.snd).getD []
def swapM (M : List (Value × List V)) (k : Nat) (x y : Value × List V) : List (Value × List V) := (M.set k y).set (k - 1) x
theorem rw'_at {M : List (Value × List V)} {p : Nat} {x : Value × List V} (h : M[p]? = some x) : rw' M p = x.2 := by simp [rw', h]
theorem swapM_rw {M : List (Value × List V)} {k : Nat} {x y : Value × List V} (hk : 0 < k) (hx : M[k]? = some x) (hy : M[k - 1]? = some y) : rw' (swapM M k x y) = swp (rw' M) k := by
  have h1 : k < M.length := (List.getElem?_eq_some_iff.1 hx).1
  funext p
  unfold swp
  rw [rw'_at hx, rw'_at hy]
  unfold swapM rw'
  rw [List.getElem?_set, List.getElem?_set]
  by_cases hp : p = k
  · subst hp
    rw [if_pos rfl, if_neg (by omega), if_pos rfl, if_pos (by omega)]
    rfl
  · by_cases hp1 : p = k - 1
    · subst hp1
      rw [if_neg hp, if_pos rfl, if_pos rfl, if_pos (by simp; omega)]
      rfl
    · rw [if_neg hp, if_neg hp1, if_neg (by omega), if_neg (by omega)]
theorem swapM_mem {M : List (Value × List V)} {k : Nat} {x y : Value × List V} {C : Value × List V → Prop} (h : ∀ (j : Nat) z, M[j]? = some z → C z) (hx : M[k]? = some x) (hy : M[k - 1]? = some y) : ∀ (j : Nat) z, (swapM M k x y)[j]? = some z → C z := by
  intro j z hz
  unfold swapM at hz
  rw [List.getElem?_set] at hz
  split at hz
  · split at hz
    · cases hz; exact h _ _ hx
    · cases hz
  · rw [List.getElem?_set] at hz
    split at hz
    · split at hz
      · cases hz; exact h _ _ hy
      · cases hz
    · exact h _ _ hz
theorem swapM_fst {M : List (Value × List V)} {k : Nat} {x y : Value × List V} : (swapM M k x y).map Prod.fst = ((M.map Prod.fst).set k y.1).set (k - 1) x.1 := by
  unfold swapM; rw [List.map_set, List.map_set]
theorem swapM_length {M : List (Value × List V)} {k : Nat} {x y : Value × List V} : (swapM M k x y).length = M.length := by simp [swapM]

theorem cmpX_bound (x y : V) : -1 ≤ cmpX x y ∧ cmpX x y ≤ 1 := by
  have key : ∀ a b c a' b' c', -1 ≤ P6.cmp3 a b c a' b' c' ∧ P6.cmp3 a b c a' b' c' ≤ 1 := fun a b c a' b' c' => by
    rcases P6.cmp3_key a b c a' b' c' with ⟨-, h⟩ | ⟨-, h⟩ | ⟨-, h⟩ <;> (rw [h]; decide)
  exact key _ _ _ _ _ _
theorem rowsV_bound : ∀ l m : List V, -1 ≤ rowsV l m ∧ rowsV l m ≤ 1
  | [], [] => by decide
  | [], _ :: _ => by simp [rowsV]
  | _ :: _, [] => by simp [rowsV]
  | x :: l, y :: m => by
    rw [rowsV]
    split
    · exact rowsV_bound l m
    · exact cmpX_bound x y
theorem signs {M : List (Value × List V)} {n a c : Nat} {x y : Value × List V} (h : upto (rw' M) n) (ha : a < n) (hc : c < n) (hx : M[a]? = some x) (hy : M[c]? = some y) :
    -1 ≤ rowsV x.2 y.2 ∧ rowsV x.2 y.2 ≤ 1 ∧ ((a < c ∧ rowsV x.2 y.2 ≤ 0) ∨ (a = c ∧ rowsV x.2 y.2 = 0) ∨ (c < a ∧ 0 ≤ rowsV x.2 y.2)) := by
  refine ⟨(rowsV_bound _ _).1, (rowsV_bound _ _).2, ?_⟩
  rcases Nat.lt_trichotomy a c with g | g | g
  · have := h a c g hc
    rw [rw'_at hx, rw'_at hy] at this
    exact .inl ⟨g, this⟩
  · subst g
    rw [hx] at hy
    cases hy
    exact .inr (.inl ⟨rfl, rowsV_same _⟩)
  · have := h c a g ha
    rw [rw'_at hx, rw'_at hy, rowsV_anti] at this
    exact .inr (.inr ⟨g, by omega⟩)
/-- The copy at block g reads as M; each of its rows reads as it did. -/
def Held (w wr : World) (g cap n : Nat) (M : List (Value × List V)) : Prop :=
  Below w.heap.size w wr ∧ wr.ownsRow w.heap.size 35 1 (.slice (some ⟨g, 0, none⟩) n cap) n (M.map Prod.fst) ∧ M.length = n ∧ ∀ (j : Nat) x, M[j]? = some x → RowAt w x.1 x.2 ∧ x.2.length ≤ 6
theorem Held.at {w wr : World} {g cap n : Nat} {M : List (Value × List V)} (h : Held w wr g cap n M) {k : Nat} {x : Value × List V} (hx : M[k]? = some x) :
    wr.cell? ⟨g, k, none⟩ = some x.1 ∧ wr.frozen? ⟨g, k, none⟩ = false ∧ w.heap.size ≤ g ∧ g < wr.heap.size := by
  have hk := (List.getElem?_eq_some_iff.1 hx).1
  refine ⟨?_, h.2.1.frozenAt k, ?_⟩
  · rw [h.2.1.cellAt k (by rw [← h.2.2.1]; omega), List.getElem?_map, hx]; rfl
  · rcases h.2.1.2 with ⟨h', _⟩ | ⟨g', cap', cur, h', hb, hg, _⟩
    · simp at h'
    · simp only [Value.slice.injEq, Option.some.injEq, Addr.mk.injEq, and_true, true_and] at h'
      obtain ⟨rfl, rfl⟩ := h'
      exact ⟨hb, (Array.getElem?_eq_some_iff.1 hg).1⟩
theorem Held.ext {w wr wr' : World} {g cap n : Nat} {M : List (Value × List V)} (h : Held w wr g cap n M) (hx : Xk.Ext wr wr') : Held w wr' g cap n M :=
  ⟨h.1.trans (hx.mono h.1.size), ownsRow_ext h.2.1 hx, h.2.2⟩
theorem Held.swap {w wr : World} {g cap n : Nat} {M : List (Value × List V)} (h : Held w wr g cap n M) {k : Nat} {x y : Value × List V} (hk : 0 < k) (hx : M[k]? = some x) (hy : M[k - 1]? = some y) :
    Held w ((wr.setCell ⟨g, k, none⟩ y.1).setCell ⟨g, k - 1, none⟩ x.1) g cap n (swapM M k x y) := by
  obtain ⟨-, -, hg, -⟩ := h.at hx
  refine ⟨(h.1.setCell hg _).setCell hg _, ?_, by rw [swapM_length]; exact h.2.2.1, swapM_mem h.2.2.2 hx hy⟩
  rw [swapM_fst]
  exact ((h.2.1.stored k y.1).1.stored (k - 1) x.1).1

set_option maxRecDepth 100000 in
set_option maxHeartbeats 4000000 in
theorem valueSorted_walk (pa : Option Addr) (cap : Nat) (L : List (Value × List V)) (w : World) (hE : Env w)
    (hl : ∀ j x, L[j]? = some x → ∃ b off, pa = some ⟨b, off, none⟩ ∧ w.cell? ⟨b, off + j, none⟩ = some x.1 ∧ RowAt w x.1 x.2 ∧ x.2.length ≤ maxLen) (hn : L.length ≤ maxLen) :
    Calls Tryd.prog 6 #[.slice pa L.length cap] w fun e w' => e = .returned (.bool true) ∧ Below w.heap.size w w' := by
  have HE := Lib.hid hE
  have HN := Lib.hid hn
  have HL := Lib.hid hl
  clear hE hn hl
  go_enter Tryd.func6, Tryd.ntmps6
  by_cases h14 : 14 < L.length
  · go_wp2_with (first | (go_at_call 9; (with_reducible refine (known6 _ HE.out).mono ?_); rintro e w' ⟨rfl, hb⟩; obtain ⟨p, rfl⟩ := Xk.exw_of hb; clear hb))
    go_ret
    exact ⟨rfl, (by repeat (first | with_reducible exact Below.refl _ _ | ((with_reducible refine Below.setCell ?_ ?_ _); rotate_left; exact (by (try simp only [World.size_alloc, Xk.exw_size, World.size_setCell, World.size_drew, World.heap_drewN]); omega)) | ((with_reducible refine Below.alloc ?_ ?_ _); rotate_left; exact (by (try simp only [World.size_alloc, Xk.exw_size, World.size_setCell, World.size_drew, World.heap_drewN]); omega)) | ((with_reducible refine Xk.below_exw ?_ ?_ _); rotate_left; exact (by (try simp only [World.size_alloc, Xk.exw_size, World.size_setCell, World.size_drew, World.heap_drewN]); omega)) | (with_reducible refine Below.drew ?_)))⟩
  go_wp2_with (first | (go_at_call 9; (with_reducible refine (known6 _ HE.out).mono ?_); rintro e w' ⟨rfl, hb⟩; obtain ⟨p, rfl⟩ := Xk.exw_of hb; clear hb))
  go_loopw [3] (fun x wr => ∃ q : Nat, q ≤ L.length ∧ x = .int .i64 q ∧ Below w.heap.size w wr ∧ ∀ (j : Nat) (x : Value × List V), j < q → L[j]? = some x → x.2.length ≤ 6) (fun x _ => L.length - (intOf x).toNat)
  case atStart => exact ⟨0, by omega, rfl, (by repeat (first | with_reducible exact Below.refl _ _ | ((with_reducible refine Below.setCell ?_ ?_ _); rotate_left; exact (by (try simp only [World.size_alloc, Xk.exw_size, World.size_setCell, World.size_drew, World.heap_drewN]); omega)) | ((with_reducible refine Below.alloc ?_ ?_ _); rotate_left; exact (by (try simp only [World.size_alloc, Xk.exw_size, World.size_setCell, World.size_drew, World.heap_drewN]); omega)) | ((with_reducible refine Xk.below_exw ?_ ?_ _); rotate_left; exact (by (try simp only [World.size_alloc, Xk.exw_size, World.size_setCell, World.size_drew, World.heap_drewN]); omega)) | (with_reducible refine Below.drew ?_))), fun j x hj => by omega⟩
  case round =>
    obtain ⟨q, hq, rfl, hbw, hz⟩ := hrel
    have Hz := Lib.hid hz
    clear hz
    obtain ⟨p, rfl⟩ := Xk.exw_of hbw
    clear hbw
    by_cases hlt : q < L.length
    · obtain ⟨b, off, rfl, hc, ⟨pa', ca', hv, -⟩, hm⟩ := HL.out q L[q] (by simp [hlt])
      have lb := World.block_lt_of_cell? w _ hc
      have Hx := Lib.hid (show L[q]? = some L[q] by simp [hlt])
      generalize hgx : L[q] = x at *
      clear hgx
      obtain ⟨xv, xl⟩ := x
      dsimp only at hc hv hm
      subst hv
      by_cases h6 : 6 < xl.length
      · go_wp2
        go_ret
        exact ⟨rfl, (by repeat (first | with_reducible exact Below.refl _ _ | ((with_reducible refine Below.setCell ?_ ?_ _); rotate_left; exact (by (try simp only [World.size_alloc, Xk.exw_size, World.size_setCell, World.size_drew, World.heap_drewN]); omega)) | ((with_reducible refine Below.alloc ?_ ?_ _); rotate_left; exact (by (try simp only [World.size_alloc, Xk.exw_size, World.size_setCell, World.size_drew, World.heap_drewN]); omega)) | ((with_reducible refine Xk.below_exw ?_ ?_ _); rotate_left; exact (by (try simp only [World.size_alloc, Xk.exw_size, World.size_setCell, World.size_drew, World.heap_drewN]); omega)) | (with_reducible refine Below.drew ?_)))⟩
      · go_wp2
        go_roundw
        case rel => exact ⟨q + 1, by omega, by go_num, (by repeat (first | with_reducible exact Below.refl _ _ | ((with_reducible refine Below.setCell ?_ ?_ _); rotate_left; exact (by (try simp only [World.size_alloc, Xk.exw_size, World.size_setCell, World.size_drew, World.heap_drewN]); omega)) | ((with_reducible refine Below.alloc ?_ ?_ _); rotate_left; exact (by (try simp only [World.size_alloc, Xk.exw_size, World.size_setCell, World.size_drew, World.heap_drewN]); omega)) | ((with_reducible refine Xk.below_exw ?_ ?_ _); rotate_left; exact (by (try simp only [World.size_alloc, Xk.exw_size, World.size_setCell, World.size_drew, World.heap_drewN]); omega)) | (with_reducible refine Below.drew ?_))), fun j y hj hy => by
          by_cases hjq : j = q
          · subst hjq
            rw [Hx.out] at hy
            cases hy
            show xl.length ≤ 6
            omega
          · exact Hz.out j y (by omega) hy⟩
        case measure => simp [intOf]; omega
    · have h6 : ∀ (j : Nat) (x : Value × List V), L[j]? = some x → x.2.length ≤ 6 := fun j x hj => Hz.out j x (by have := (List.getElem?_eq_some_iff.1 hj).1; omega) hj
      have H6 := Lib.hid h6
      clear h6 Hz
      obtain ⟨i0, hi, hz0, hz1, hz2⟩ := info_parts Tryd.infoR
      have Hi := Lib.hid hi
      have Hz0 := Lib.hid hz0
      have Hz1 := Lib.hid hz1
      have Hz2 := Lib.hid hz2
      clear hi hz0 hz1 hz2
      by_cases h0 : L.length = 0
      · obtain rfl : L = [] := List.length_eq_zero_iff.1 h0
        have HC : Hid (∀ (j : Nat) (u : Value), ([] : List Value)[j]? = some u → False) := Lib.hid fun j u hj => by simp at hj
        cases pa with
        | none =>
          go_wp2
          refine wp_loop_rounds 1 ?_
          rw [rounds_succ]
          go_wp2
          refine wp_loop_rounds 1 ?_
          rw [rounds_succ]
          go_wp2
          go_ret
          exact ⟨rfl, (by repeat (first | with_reducible exact Below.refl _ _ | ((with_reducible refine Below.setCell ?_ ?_ _); rotate_left; exact (by (try simp only [World.size_alloc, Xk.exw_size, World.size_setCell, World.size_drew, World.heap_drewN]); omega)) | ((with_reducible refine Below.alloc ?_ ?_ _); rotate_left; exact (by (try simp only [World.size_alloc, Xk.exw_size, World.size_setCell, World.size_drew, World.heap_drewN]); omega)) | ((with_reducible refine Xk.below_exw ?_ ?_ _); rotate_left; exact (by (try simp only [World.size_alloc, Xk.exw_size, World.size_setCell, World.size_drew, World.heap_drewN]); omega)) | (with_reducible refine Below.drew ?_)))⟩
        | some a =>
          go_wp2_with (at_builtin; refine wpList_copy (w0 := w) rfl _ _ 38 rfl 35 i0 _ _ Tryd.underlying38 Hi.out Hz0.out Hz1.out Hz2.out rfl rfl _ _ _ [] rfl rfl (fun j u hj => (HC.out j u hj).elim) (by simp) (by decide) (by decide) (by repeat (first | with_reducible exact Below.refl _ _ | ((with_reducible refine Below.setCell ?_ ?_ _); rotate_left; exact (by (try simp only [World.size_alloc, Xk.exw_size, World.size_setCell, World.size_drew, World.heap_drewN]); omega)) | ((with_reducible refine Below.alloc ?_ ?_ _); rotate_left; exact (by (try simp only [World.size_alloc, Xk.exw_size, World.size_setCell, World.size_drew, World.heap_drewN]); omega)) | ((with_reducible refine Xk.below_exw ?_ ?_ _); rotate_left; exact (by (try simp only [World.size_alloc, Xk.exw_size, World.size_setCell, World.size_drew, World.heap_drewN]); omega)) | (with_reducible refine Below.drew ?_))) ?_; intro v' p' ho' hz'; obtain rfl := hz' rfl; clear ho' hz')
          refine wp_loop_rounds 1 ?_
          rw [rounds_succ]
          go_wp2
          refine wp_loop_rounds 1 ?_
          rw [rounds_succ]
          go_wp2
          go_ret
          exact ⟨rfl, (by repeat (first | with_reducible exact Below.refl _ _ | ((with_reducible refine Below.setCell ?_ ?_ _); rotate_left; exact (by (try simp only [World.size_alloc, Xk.exw_size, World.size_setCell, World.size_drew, World.heap_drewN]); omega)) | ((with_reducible refine Below.alloc ?_ ?_ _); rotate_left; exact (by (try simp only [World.size_alloc, Xk.exw_size, World.size_setCell, World.size_drew, World.heap_drewN]); omega)) | ((with_reducible refine Xk.below_exw ?_ ?_ _); rotate_left; exact (by (try simp only [World.size_alloc, Xk.exw_size, World.size_setCell, World.size_drew, World.heap_drewN]); omega)) | (with_reducible refine Below.drew ?_)))⟩
      obtain ⟨b, off, rfl, -⟩ := HL.out 0 (L[0]'(by omega)) (List.getElem?_eq_getElem (by omega))
      have HC : Hid (∀ (p : Regrown) (j : Nat) (u : Value), (L.map Prod.fst)[j]? = some u → (Xk.exw w p).cell? ((⟨b, off, none⟩ : Addr).add j) = some u) := Lib.hid fun p j u hj => by
        rw [List.getElem?_map] at hj
        cases hx : L[j]? with
        | none => rw [hx] at hj; cases hj
        | some x =>
          rw [hx] at hj
          obtain ⟨b', off', e, hc, -⟩ := HL.out j x hx
          cases e
          cases hj
          rw [add_cell]
          exact Xk.ext_cell (Xk.ext_exw w p) hc
      have HO : Hid (∀ u ∈ L.map Prod.fst, u.oneCell' = true) := Lib.hid fun u hu => by
        obtain ⟨x, hx, rfl⟩ := List.mem_map.1 hu
        obtain ⟨j, hj⟩ := List.mem_iff_getElem?.1 hx
        obtain ⟨b', off', e, hc, ⟨pa', ca', hv, -⟩, -⟩ := HL.out j x hj
        rw [hv]; rfl
      go_wp2_with (at_builtin; refine wpList_copy (w0 := w) rfl _ _ 38 rfl 35 i0 _ _ Tryd.underlying38 Hi.out Hz0.out Hz1.out Hz2.out rfl rfl _ _ _ (L.map Prod.fst) rfl (by simp) (HC.out _) HO.out (by omega) (by decide) (by repeat (first | with_reducible exact Below.refl _ _ | ((with_reducible refine Below.setCell ?_ ?_ _); rotate_left; exact (by (try simp only [World.size_alloc, Xk.exw_size, World.size_setCell, World.size_drew, World.heap_drewN]); omega)) | ((with_reducible refine Below.alloc ?_ ?_ _); rotate_left; exact (by (try simp only [World.size_alloc, Xk.exw_size, World.size_setCell, World.size_drew, World.heap_drewN]); omega)) | ((with_reducible refine Xk.below_exw ?_ ?_ _); rotate_left; exact (by (try simp only [World.size_alloc, Xk.exw_size, World.size_setCell, World.size_drew, World.heap_drewN]); omega)) | (with_reducible refine Below.drew ?_))) ?_; intro v' p' ho' hz'; obtain ⟨g, cap', rfl, hg1, hg2⟩ := ho'.form (by omega); have HW := Lib.hid ho'; clear ho' hz')
      have hH0 : Held w (Xk.exw w p') g cap' L.length L := ⟨(by repeat (first | with_reducible exact Below.refl _ _ | ((with_reducible refine Below.setCell ?_ ?_ _); rotate_left; exact (by (try simp only [World.size_alloc, Xk.exw_size, World.size_setCell, World.size_drew, World.heap_drewN]); omega)) | ((with_reducible refine Below.alloc ?_ ?_ _); rotate_left; exact (by (try simp only [World.size_alloc, Xk.exw_size, World.size_setCell, World.size_drew, World.heap_drewN]); omega)) | ((with_reducible refine Xk.below_exw ?_ ?_ _); rotate_left; exact (by (try simp only [World.size_alloc, Xk.exw_size, World.size_setCell, World.size_drew, World.heap_drewN]); omega)) | (with_reducible refine Below.drew ?_))), HW.out, rfl, fun j x hj => by
        obtain ⟨b', off', e, hc, hr, -⟩ := HL.out j x hj
        exact ⟨hr, H6.out j x hj⟩⟩
      have HH0 := Lib.hid hH0
      clear hH0 HW
      go_loopw [5] (fun x wr => ∃ (M : List (Value × List V)) (i : Nat), x = .int .i64 i ∧ i ≤ L.length ∧ Held w wr g cap' L.length M ∧ upto (rw' M) i) (fun x _ => L.length - (intOf x).toNat)
      case atStart => exact ⟨L, 1, rfl, by omega, HH0.out, fun p q hp hq => by omega⟩
      case round =>
        obtain ⟨M, i, rfl, hi, hH, hu⟩ := hrel
        have HH := Lib.hid hH
        have HU := Lib.hid hu
        clear hH hu
        by_cases hlt : i < L.length
        · go_wp2
          go_loopw [6] (fun x wr => ∃ (M : List (Value × List V)) (k : Nat), x = .int .i64 k ∧ k ≤ i ∧ Held w wr g cap' L.length M ∧ goesDown (rw' M) i k) (fun x _ => (intOf x).toNat)
          case atStart => exact ⟨M, i, rfl, Nat.le_refl _, HH.out, goesDown_start HU.out⟩
          case round =>
            clear HH HU M
            obtain ⟨M, k, rfl, hk, hH, hd⟩ := hrel
            have HH := Lib.hid hH
            have HD := Lib.hid hd
            clear hH hd
            by_cases hk0 : k = 0
            · subst hk0
              go_wp2
              go_quiet (fail)
              go_wp2
              go_roundw
              case rel => exact ⟨M, i + 1, by go_num, by omega, HH.out.ext (bdrewN (Below.refl _ _) _), goesDown_end HD.out (.inl rfl)⟩
              case measure => simp [intOf]; omega
            obtain ⟨k, rfl⟩ : ∃ j, k = j + 1 := ⟨k - 1, by omega⟩
            have hM := HH.out.2.2.1
            have hx : M[k + 1]? = some (M[k + 1]'(by omega)) := List.getElem?_eq_getElem _
            have hy : M[k]? = some (M[k]'(by omega)) := List.getElem?_eq_getElem _
            generalize M[k + 1]'(by omega) = x at hx
            generalize M[k]'(by omega) = y at hy
            obtain ⟨xv, xl⟩ := x
            obtain ⟨yv, yl⟩ := y
            obtain ⟨rx, lx⟩ := HH.out.2.2.2 _ _ hx
            obtain ⟨ry, ly⟩ := HH.out.2.2.2 _ _ hy
            dsimp only at rx ry lx ly
            have rx2 := rx
            have ry2 := ry
            obtain ⟨pax, cax, rfl, -⟩ := rx2
            obtain ⟨pay, cay, rfl, -⟩ := ry2
            obtain ⟨cx, fx, hg, hgs⟩ := HH.out.at hx
            obtain ⟨cy, fy, -, -⟩ := HH.out.at hy
            dsimp only at cx cy
            have hR : ∀ W, Xk.Ext w W → Calls Tryd.prog 15 #[.slice pax xl.length cax, .slice pay yl.length cay] W fun e w' => e = .returned (.int .i64 (rowsV xl yl)) ∧ Below W.heap.size W w' := fun W hW => rows_any _ _ _ _ W (rx.ext hW) (ry.ext hW) (by omega) (by omega)
            have hB := HH.out.1
            have HR := Lib.hid (fun q => hR _ (Xk.below_exw hB hB.size q))
            clear hB
            have Hx := Lib.hid hx
            have Hy := Lib.hid hy
            have HM := Lib.hid hM
            clear hR hx hy rx ry lx ly hM
            have hb1 : (0 : Int) ≤ (k : Int) + 1 := by omega
            have hb2 : (k : Int) + 1 < (L.length : Int) := by omega
            have hb3 : (k : Int) < (L.length : Int) := by omega
            have hb4 : IntKind.i64.wrap (k : Int) = (k : Int) := IntWalk.i64_in _ (by omega)
            have hb5 : ((k : Int) + 1).toNat = k + 1 := by omega
            by_cases hc : rowsV xl yl < 0
            · have HQ := Lib.hid hc
              go_wp2
              refine Xk.wp_region_rel' 15 [] trivial (by kernel_rfl) (by kernel_rfl) ?_
              simp only [List.take_succ_cons, List.take_zero, List.drop_succ_cons, List.drop_zero]
              repeat (first
                | (refine Xk.rel_det (wanted_none (by rfl)) (by rfl) (fun K hK => ?_); apply Exists.intro; refine ⟨fun p hp => ?_, ?_⟩; (go_simp; first | exact ⟨rfl, rfl⟩ | ((try refine ⟨by kernel_rfl, ?_⟩); (first | (go_at_call 15; ((with_reducible refine (HR.out _).mono ?_); exact fun e w' h => h))))); (go_simp; refine hK _ ?_; clear hK K))
                | (refine Xk.rel_skip (by rfl) (fun K hK => ?_); go_simp; refine hK _ ?_; clear hK K)
                | (refine Xk.rel_det (by rfl) (by rfl) (fun K hK => ?_); apply Exists.intro; refine ⟨fun p hp => ?_, ?_⟩; (go_simp; first | exact ⟨rfl, rfl⟩ | ((try refine ⟨by kernel_rfl, ?_⟩); (first | (go_at_call 15; ((with_reducible refine (HR.out _).mono ?_); exact fun e w' h => h))))); (go_simp; refine hK _ ?_; clear hK K)))
              refine Xk.rel_nil (fun p _ => ?_)
              go_wp2
              go_region
              clear hb4 hb5
              go_wp2
              go_roundw
              case rel => exact ⟨swapM M (k + 1) (.slice pax xl.length cax, xl) (.slice pay yl.length cay, yl), k, by go_num, by omega, ((HH.out.swap (by omega) Hx.out Hy.out).ext (Xk.ext_exw _ p)).ext ((Below.refl _ _).drew), by
                rw [swapM_rw (by omega) Hx.out Hy.out]
                exact goesDown_step HD.out (by omega) (by rw [rw'_at Hx.out, show k + 1 - 1 = k from rfl, rw'_at Hy.out]; exact HQ.out)⟩
              case measure => simp [intOf]
            · have HQ := Lib.hid hc
              go_wp2
              refine Xk.wp_region_rel' 15 [] trivial (by kernel_rfl) (by kernel_rfl) ?_
              simp only [List.take_succ_cons, List.take_zero, List.drop_succ_cons, List.drop_zero]
              repeat (first
                | (refine Xk.rel_det (wanted_none (by rfl)) (by rfl) (fun K hK => ?_); apply Exists.intro; refine ⟨fun p hp => ?_, ?_⟩; (go_simp; first | exact ⟨rfl, rfl⟩ | ((try refine ⟨by kernel_rfl, ?_⟩); (first | (go_at_call 15; ((with_reducible refine (HR.out _).mono ?_); exact fun e w' h => h))))); (go_simp; refine hK _ ?_; clear hK K))
                | (refine Xk.rel_skip (by rfl) (fun K hK => ?_); go_simp; refine hK _ ?_; clear hK K)
                | (refine Xk.rel_det (by rfl) (by rfl) (fun K hK => ?_); apply Exists.intro; refine ⟨fun p hp => ?_, ?_⟩; (go_simp; first | exact ⟨rfl, rfl⟩ | ((try refine ⟨by kernel_rfl, ?_⟩); (first | (go_at_call 15; ((with_reducible refine (HR.out _).mono ?_); exact fun e w' h => h))))); (go_simp; refine hK _ ?_; clear hK K)))
              refine Xk.rel_nil (fun p _ => ?_)
              clear hb4 hb5
              go_wp2
              go_roundw
              case rel => exact ⟨M, i + 1, by go_num, by omega, HH.out.ext (Xk.ext_exw _ _), goesDown_end HD.out (.inr (by rw [rw'_at Hx.out, show k + 1 - 1 = k from rfl, rw'_at Hy.out]; have := HQ.out; omega))⟩
              case measure => simp [intOf]; omega
        · obtain rfl : i = L.length := by omega
          clear hlt hi
          go_wp2
          go_loopw [7] (fun x wr => ∃ a : Nat, x = .int .i64 a ∧ a ≤ L.length ∧ Held w wr g cap' L.length M) (fun x _ => L.length - (intOf x).toNat)
          case atStart => exact ⟨0, rfl, by omega, HH.out⟩
          case round =>
            obtain ⟨a, rfl, ha, hH⟩ := hrel
            clear HH
            have HH := Lib.hid hH
            clear hH
            by_cases hla : a < L.length
            · go_wp2
              go_loopw [8] (fun x wr => ∃ c : Nat, x = .int .i64 c ∧ c ≤ L.length ∧ Held w wr g cap' L.length M) (fun x _ => L.length - (intOf x).toNat)
              case atStart => exact ⟨0, rfl, by omega, HH.out⟩
              case round =>
                obtain ⟨c, rfl, hc, hH⟩ := hrel
                clear HH
                have HH := Lib.hid hH
                clear hH
                by_cases hlc : c < L.length
                · have hM := HH.out.2.2.1
                  have hx : M[a]? = some (M[a]'(by omega)) := List.getElem?_eq_getElem _
                  have hy : M[c]? = some (M[c]'(by omega)) := List.getElem?_eq_getElem _
                  generalize M[a]'(by omega) = x at hx
                  generalize M[c]'(by omega) = y at hy
                  have hs := signs HU.out hla hlc hx hy
                  obtain ⟨xv, xl⟩ := x
                  obtain ⟨yv, yl⟩ := y
                  obtain ⟨rx, lx⟩ := HH.out.2.2.2 _ _ hx
                  obtain ⟨ry, ly⟩ := HH.out.2.2.2 _ _ hy
                  dsimp only at rx ry lx ly hs
                  have rx2 := rx
                  have ry2 := ry
                  obtain ⟨pax, cax, rfl, -⟩ := rx2
                  obtain ⟨pay, cay, rfl, -⟩ := ry2
                  obtain ⟨cx, fx, hg, hgs⟩ := HH.out.at hx
                  obtain ⟨cy, fy, -, -⟩ := HH.out.at hy
                  dsimp only at cx cy
                  have hR : ∀ W, Xk.Ext w W → Calls Tryd.prog 15 #[.slice pax xl.length cax, .slice pay yl.length cay] W fun e w' => e = .returned (.int .i64 (rowsV xl yl)) ∧ Below W.heap.size W w' := fun W hW => rows_any _ _ _ _ W (rx.ext hW) (ry.ext hW) (by omega) (by omega)
                  have hR' : ∀ W, Xk.Ext w W → Calls Tryd.prog 15 #[.slice pay yl.length cay, .slice pax xl.length cax] W fun e w' => e = .returned (.int .i64 (- rowsV xl yl)) ∧ Below W.heap.size W w' := fun W hW => by
                    rw [← rowsV_anti]; exact rows_any _ _ _ _ W (ry.ext hW) (rx.ext hW) (by omega) (by omega)
                  generalize rowsV xl yl = r at hR hR' hs
                  have hB := HH.out.1
                  have HR := Lib.hid (fun q => hR _ (Xk.below_exw hB hB.size q))
                  have HR' := Lib.hid (fun q => hR' _ (Xk.below_exw hB hB.size q))
                  have Hx := Lib.hid hx
                  have Hy := Lib.hid hy
                  clear hB hR hR' hx hy rx ry lx ly hM
                  have hb1 : (a : Int) < (L.length : Int) := by omega
                  have hb2 : (c : Int) < (L.length : Int) := by omega
                  obtain ⟨hr1, hr2, hs⟩ := hs
                  rcases hs with ⟨s1, s2⟩ | ⟨s1, s2⟩ | ⟨s1, s2⟩
                  · have t1 : (a : Int) ≤ (c : Int) := by omega
                    have t2 : decide ((c : Int) ≤ (a : Int)) = false := by simp; omega
                    have t5 : decide (c ≤ a) = false := by simp; omega
                    have t3 : decide (0 < r) = false := by simp; omega
                    have t4 : IntKind.i64.wrap r = r := IntWalk.i64_in _ (by omega)
                    go_wp2
                    refine Xk.wp_region_rel' 10 [] trivial (by kernel_rfl) (by kernel_rfl) ?_
                    simp only [List.take_succ_cons, List.take_zero, List.drop_succ_cons, List.drop_zero]
                    repeat (first
                      | (refine Xk.rel_det (wanted_none (by rfl)) (by rfl) (fun K hK => ?_); apply Exists.intro; refine ⟨fun p hp => ?_, ?_⟩; (go_simp; first | exact ⟨rfl, rfl⟩ | ((try refine ⟨by kernel_rfl, ?_⟩); (first | (go_at_call 15; ((with_reducible refine (HR.out _).mono ?_); exact fun e w' h => h))))); (go_simp; refine hK _ ?_; clear hK K))
                      | (refine Xk.rel_skip (by rfl) (fun K hK => ?_); go_simp; refine hK _ ?_; clear hK K)
                      | (refine Xk.rel_det (by rfl) (by rfl) (fun K hK => ?_); apply Exists.intro; refine ⟨fun p hp => ?_, ?_⟩; (go_simp; first | exact ⟨rfl, rfl⟩ | ((try refine ⟨by kernel_rfl, ?_⟩); (first | (go_at_call 15; ((with_reducible refine (HR.out _).mono ?_); exact fun e w' h => h))))); (go_simp; refine hK _ ?_; clear hK K)))
                    refine Xk.rel_nil (fun p _ => ?_)
                    go_wp2
                    refine Xk.wp_region_rel' 30 [] trivial (by kernel_rfl) (by kernel_rfl) ?_
                    simp only [List.take_succ_cons, List.take_zero, List.drop_succ_cons, List.drop_zero]
                    repeat (first
                      | (refine Xk.rel_det (wanted_none (by rfl)) (by rfl) (fun K hK => ?_); apply Exists.intro; refine ⟨fun p hp => ?_, ?_⟩; (go_simp; first | exact ⟨rfl, rfl⟩ | ((try refine ⟨by kernel_rfl, ?_⟩); (first | (go_at_call 15; ((with_reducible refine (HR'.out _).mono ?_); exact fun e w' h => h))))); (go_simp; refine hK _ ?_; clear hK K))
                      | (refine Xk.rel_skip (by rfl) (fun K hK => ?_); go_simp; refine hK _ ?_; clear hK K)
                      | (refine Xk.rel_det (by rfl) (by rfl) (fun K hK => ?_); apply Exists.intro; refine ⟨fun p hp => ?_, ?_⟩; (go_simp; first | exact ⟨rfl, rfl⟩ | ((try refine ⟨by kernel_rfl, ?_⟩); (first | (go_at_call 15; ((with_reducible refine (HR'.out _).mono ?_); exact fun e w' h => h))))); (go_simp; refine hK _ ?_; clear hK K)))
                    refine Xk.rel_nil (fun p _ => ?_)
                    clear t4
                    go_wp2
                    go_roundw
                    case rel => exact ⟨c + 1, by go_num, by omega, HH.out.ext (Xk.ext_exw _ _)⟩
                    case measure => simp [intOf]; omega
                  · subst s1 s2
                    have e := Hx.out.symm.trans Hy.out
                    simp only [Option.some.injEq, Prod.mk.injEq, Value.slice.injEq] at e
                    obtain ⟨⟨rfl, -, rfl⟩, rfl⟩ := e
                    have hR0 := HR.out
                    clear HR' hr1 hr2 cy fy hb2
                    have HR' := Lib.hid hR0
                    clear hR0
                    have t4 : IntKind.i64.wrap 0 = 0 := rfl
                    go_wp2
                    refine Xk.wp_region_rel' 10 [] trivial (by kernel_rfl) (by kernel_rfl) ?_
                    simp only [List.take_succ_cons, List.take_zero, List.drop_succ_cons, List.drop_zero]
                    repeat (first
                      | (refine Xk.rel_det (wanted_none (by rfl)) (by rfl) (fun K hK => ?_); apply Exists.intro; refine ⟨fun p hp => ?_, ?_⟩; (go_simp; first | exact ⟨rfl, rfl⟩ | ((try refine ⟨by kernel_rfl, ?_⟩); (first | (go_at_call 15; ((with_reducible refine (HR.out _).mono ?_); exact fun e w' h => h))))); (go_simp; refine hK _ ?_; clear hK K))
                      | (refine Xk.rel_skip (by rfl) (fun K hK => ?_); go_simp; refine hK _ ?_; clear hK K)
                      | (refine Xk.rel_det (by rfl) (by rfl) (fun K hK => ?_); apply Exists.intro; refine ⟨fun p hp => ?_, ?_⟩; (go_simp; first | exact ⟨rfl, rfl⟩ | ((try refine ⟨by kernel_rfl, ?_⟩); (first | (go_at_call 15; ((with_reducible refine (HR.out _).mono ?_); exact fun e w' h => h))))); (go_simp; refine hK _ ?_; clear hK K)))
                    refine Xk.rel_nil (fun p _ => ?_)
                    go_wp2
                    refine Xk.wp_region_rel' 30 [] trivial (by kernel_rfl) (by kernel_rfl) ?_
                    simp only [List.take_succ_cons, List.take_zero, List.drop_succ_cons, List.drop_zero]
                    repeat (first
                      | (refine Xk.rel_det (wanted_none (by rfl)) (by rfl) (fun K hK => ?_); apply Exists.intro; refine ⟨fun p hp => ?_, ?_⟩; (go_simp; first | exact ⟨rfl, rfl⟩ | ((try refine ⟨by kernel_rfl, ?_⟩); (first | (go_at_call 15; ((with_reducible refine (HR'.out _).mono ?_); exact fun e w' h => h))))); (go_simp; refine hK _ ?_; clear hK K))
                      | (refine Xk.rel_skip (by rfl) (fun K hK => ?_); go_simp; refine hK _ ?_; clear hK K)
                      | (refine Xk.rel_det (by rfl) (by rfl) (fun K hK => ?_); apply Exists.intro; refine ⟨fun p hp => ?_, ?_⟩; (go_simp; first | exact ⟨rfl, rfl⟩ | ((try refine ⟨by kernel_rfl, ?_⟩); (first | (go_at_call 15; ((with_reducible refine (HR'.out _).mono ?_); exact fun e w' h => h))))); (go_simp; refine hK _ ?_; clear hK K)))
                    refine Xk.rel_nil (fun p _ => ?_)
                    clear t4
                    go_wp2
                    go_roundw
                    case rel => exact ⟨a + 1, by go_num, by omega, HH.out.ext (Xk.ext_exw _ _)⟩
                    case measure => simp [intOf]; omega
                  · have t1 : (c : Int) ≤ (a : Int) := by omega
                    have t2 : decide ((a : Int) ≤ (c : Int)) = false := by simp; omega
                    have t5 : decide (a ≤ c) = false := by simp; omega
                    have t3 : decide (r < 0) = false := by simp; omega
                    have t4 : IntKind.i64.wrap r = r := IntWalk.i64_in _ (by omega)
                    go_wp2
                    refine Xk.wp_region_rel' 10 [] trivial (by kernel_rfl) (by kernel_rfl) ?_
                    simp only [List.take_succ_cons, List.take_zero, List.drop_succ_cons, List.drop_zero]
                    repeat (first
                      | (refine Xk.rel_det (wanted_none (by rfl)) (by rfl) (fun K hK => ?_); apply Exists.intro; refine ⟨fun p hp => ?_, ?_⟩; (go_simp; first | exact ⟨rfl, rfl⟩ | ((try refine ⟨by kernel_rfl, ?_⟩); (first | (go_at_call 15; ((with_reducible refine (HR.out _).mono ?_); exact fun e w' h => h))))); (go_simp; refine hK _ ?_; clear hK K))
                      | (refine Xk.rel_skip (by rfl) (fun K hK => ?_); go_simp; refine hK _ ?_; clear hK K)
                      | (refine Xk.rel_det (by rfl) (by rfl) (fun K hK => ?_); apply Exists.intro; refine ⟨fun p hp => ?_, ?_⟩; (go_simp; first | exact ⟨rfl, rfl⟩ | ((try refine ⟨by kernel_rfl, ?_⟩); (first | (go_at_call 15; ((with_reducible refine (HR.out _).mono ?_); exact fun e w' h => h))))); (go_simp; refine hK _ ?_; clear hK K)))
                    refine Xk.rel_nil (fun p _ => ?_)
                    go_wp2
                    refine Xk.wp_region_rel' 30 [] trivial (by kernel_rfl) (by kernel_rfl) ?_
                    simp only [List.take_succ_cons, List.take_zero, List.drop_succ_cons, List.drop_zero]
                    repeat (first
                      | (refine Xk.rel_det (wanted_none (by rfl)) (by rfl) (fun K hK => ?_); apply Exists.intro; refine ⟨fun p hp => ?_, ?_⟩; (go_simp; first | exact ⟨rfl, rfl⟩ | ((try refine ⟨by kernel_rfl, ?_⟩); (first | (go_at_call 15; ((with_reducible refine (HR'.out _).mono ?_); exact fun e w' h => h))))); (go_simp; refine hK _ ?_; clear hK K))
                      | (refine Xk.rel_skip (by rfl) (fun K hK => ?_); go_simp; refine hK _ ?_; clear hK K)
                      | (refine Xk.rel_det (by rfl) (by rfl) (fun K hK => ?_); apply Exists.intro; refine ⟨fun p hp => ?_, ?_⟩; (go_simp; first | exact ⟨rfl, rfl⟩ | ((try refine ⟨by kernel_rfl, ?_⟩); (first | (go_at_call 15; ((with_reducible refine (HR'.out _).mono ?_); exact fun e w' h => h))))); (go_simp; refine hK _ ?_; clear hK K)))
                    refine Xk.rel_nil (fun p _ => ?_)
                    clear t4
                    go_wp2
                    go_roundw
                    case rel => exact ⟨c + 1, by go_num, by omega, HH.out.ext (Xk.ext_exw _ _)⟩
                    case measure => simp [intOf]; omega
                · go_wp2
                  go_roundw
                  case rel => exact ⟨a + 1, by go_num, by omega, HH.out⟩
                  case measure => simp [intOf]; omega
            · go_wp2
              go_ret
              exact ⟨rfl, HH.out.1⟩
end Go.Proofs.YtpikcjpimciniaaDoor
