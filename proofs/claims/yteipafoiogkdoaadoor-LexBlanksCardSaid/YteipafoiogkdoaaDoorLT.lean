/- The walk of the statement LexBlanks. -/
import Derived.Test.YteipafoiogkdoaaDoorLQ
import Derived.Test.YteipafoiogkdoaaDoorPQ
set_option linter.unusedSimpArgs false
set_option linter.unusedVariables false
namespace Go.Proofs.YteipafoiogkdoaaDoor
open Go.RowKit Go.Maps
/-- v is a slice of bytes that reads as l in w. -/
def BytesAt (w : World) (v : Value) (l : List Nat) : Prop :=
  ∃ pa cap, v = .slice pa l.length cap ∧ ∀ (j : Nat) (x : Nat), l[j]? = some x → x < 256 ∧ ∃ b off, pa = some ⟨b, off, none⟩ ∧ w.cell? ⟨b, off + j, none⟩ = some (.int .u8 x)
theorem cell_mark (W : World) (A : Array Value) (t : TypeId) (n i : Nat) (h : n = W.heap.size) : (W.alloc (Obj.cells A t)).cell? ⟨n, i, none⟩ = A[i]? := by
  subst h; rw [World.cell?_alloc_mark]
theorem blocks3 {W W1 : World} {A B C : Array Value} {tA tB tC : TypeId} (h : ((W.alloc (Obj.cells A tA)).alloc (Obj.cells B tB)).alloc (Obj.cells C tC) = W1) :
    Xk.Ext W W1 ∧ W.heap.size + 2 < W1.heap.size ∧ (∀ i, W1.cell? ⟨W.heap.size, i, none⟩ = A[i]?) ∧ (∀ i, W1.cell? ⟨W.heap.size + 1, i, none⟩ = B[i]?) ∧ (∀ i, W1.cell? ⟨W.heap.size + 1 + 1, i, none⟩ = C[i]?) := by
  subst h
  refine ⟨(((Below.refl _ _).alloc (Nat.le_refl _) _).alloc (by simp) _).alloc (by simp; omega) _, by simp, fun i => ?_, fun i => ?_, fun i => ?_⟩
  · rw [World.cell?_alloc_lt (h := by simp; omega), World.cell?_alloc_lt (h := by simp), cell_mark _ _ _ _ _ rfl]
  · rw [World.cell?_alloc_lt (h := by simp), cell_mark _ _ _ _ _ (by simp)]
  · rw [cell_mark _ _ _ _ _ (by simp)]
def item (l m : List Nat) (j : Nat) : Nat × Nat := (l.getD j 0 % 10, if j < m.length then m.getD j 0 % 6 else 0)
def items (l m : List Nat) (q : Nat) : List (Nat × Nat) := (List.range q).map (item l m)
theorem items_ok (l m : List Nat) (q : Nat) : ∀ x ∈ items l m q, x.1 < 10 ∧ x.2 < 6 := by
  intro x hx
  obtain ⟨j, -, rfl⟩ := List.mem_map.1 hx
  refine ⟨Nat.mod_lt _ (by decide), ?_⟩
  unfold item
  dsimp only
  split
  · exact Nat.mod_lt _ (by decide)
  · decide
theorem items_succ (l m : List Nat) (q : Nat) : P11.cat (items l m (q + 1)) = P11.cat (items l m q) ++ ((P11.bw.getD (item l m q).1 ([], (0, []))).1 ++ P11.bg.getD (item l m q).2 []) := by
  unfold items
  rw [List.range_succ, List.map_append, P11.cat_append]
  congr 1
  simp [P11.cat]
theorem items_len (l m : List Nat) (q : Nat) : (items l m q).length = q := by simp [items]
theorem cat3 (a b c : List UInt8) : (⟨a.toArray⟩ ++ ⟨b.toArray⟩ ++ ⟨c.toArray⟩ : ByteArray) = ⟨(a ++ (b ++ c)).toArray⟩ := by
  apply bytes_eq; simp
theorem strs_at (A : Array Value) (L : List (List UInt8)) (h : A.toList = L.map fun x => Value.string ⟨x.toArray⟩) (i : Nat) (hi : i < L.length) : A[i]? = some (.string ⟨(L.getD i []).toArray⟩) := by
  rw [← Array.getElem?_toList, h, List.getElem?_map, List.getElem?_eq_getElem hi, List.getD_eq_getElem?_getD, List.getElem?_eq_getElem hi]; rfl
def bwT : List (List UInt8) := P11.bw.map (·.1)
def bwX : List (List UInt8) := P11.bw.map (·.2.2)
theorem bwT_at (i : Nat) : bwT.getD i [] = (P11.bw.getD i ([], (0, []))).1 := by
  simp only [bwT, List.getD_eq_getElem?_getD, List.getElem?_map]
  cases P11.bw[i]? <;> rfl
theorem bwX_at (i : Nat) : bwX.getD i [] = (P11.bw.getD i ([], (0, []))).2.2 := by
  simp only [bwX, List.getD_eq_getElem?_getD, List.getElem?_map]
  cases P11.bw[i]? <;> rfl
set_option maxRecDepth 100000 in
set_option maxHeartbeats 4000000 in
theorem lexBlanks_walk (pa pb : Option Addr) (ca cb : Nat) (l m : List Nat) (w : World) (ha : BytesAt w (.slice pa l.length ca) l) (hb : BytesAt w (.slice pb m.length cb) m) (hl : l.length ≤ maxLen) (hm : m.length ≤ maxLen) :
    Calls Tryd.prog 3 #[.slice pa l.length ca, .slice pb m.length cb] w fun e w' => e = .returned (.bool true) ∧ Below w.heap.size w w' := by
  have HA := Lib.hid ha
  have HB := Lib.hid hb
  clear ha hb
  unfold maxLen at hl hm
  by_cases h60 : 60 < l.length
  · have s1 : (60 : Int) < (l.length : Int) := by omega
    go_enter Tryd.func3, Tryd.ntmps3
    go_wp2_with (go_at_call 7; (with_reducible refine (known11 _).mono ?_); rintro e w' ⟨rfl, hb⟩; obtain ⟨p, rfl⟩ := Xk.exw_of hb; clear hb)
    go_ret
    exact ⟨rfl, (by repeat (first | with_reducible exact Below.refl _ _ | ((with_reducible refine Below.setCell ?_ ?_ _); rotate_left; exact (by (try simp only [World.size_alloc, Xk.exw_size, World.size_setCell, World.size_drew, World.heap_drewN]); omega)) | ((with_reducible refine Below.alloc ?_ ?_ _); rotate_left; exact (by (try simp only [World.size_alloc, Xk.exw_size, World.size_setCell, World.size_drew, World.heap_drewN]); omega)) | ((with_reducible refine Xk.below_exw ?_ ?_ _); rotate_left; exact (by (try simp only [World.size_alloc, Xk.exw_size, World.size_setCell, World.size_drew, World.heap_drewN]); omega)) | (with_reducible refine Below.drew ?_)))⟩
  have s1 : ¬ (60 : Int) < (l.length : Int) := by omega
  go_enter Tryd.func3, Tryd.ntmps3
  go_wp2_with (go_at_call 7; (with_reducible refine (known11 _).mono ?_); rintro e w' ⟨rfl, hb⟩; obtain ⟨p, rfl⟩ := Xk.exw_of hb; clear hb)
  generalize hW1 : World.alloc (World.alloc (World.alloc _ _) _) _ = W1
  obtain ⟨f1, f2, f3, f4, f5⟩ := blocks3 hW1
  have F3 := Lib.hid (fun i (hi : i < 10) => (f3 i).trans (strs_at _ bwT (by kernel_rfl) i hi))
  have F4 := Lib.hid (fun i (hi : i < 10) => (f4 i).trans (strs_at _ bwX (by kernel_rfl) i hi))
  have F5 := Lib.hid (fun i (hi : i < 6) => (f5 i).trans (strs_at _ P11.bg (by kernel_rfl) i hi))
  have HX1 := Lib.hid ((Xk.ext_exw w p).trans (f1.mono (by simp)))
  have z3 : w.heap.size + p.os.size < W1.heap.size := by rw [Xk.exw_size] at f2; omega
  have z4 : w.heap.size + p.os.size + 1 < W1.heap.size := by rw [Xk.exw_size] at f2; omega
  have z5 : w.heap.size + p.os.size + 1 + 1 < W1.heap.size := by rw [Xk.exw_size] at f2; omega
  rw [Xk.exw_size] at F3 F4 F5
  clear f1 f2 f3 f4 f5 hW1
  generalize w.heap.size + p.os.size = bb at *
  go_loopw [8, 9] (fun t x wr => ∃ q : Nat, q ≤ l.length ∧ x = .int .i64 q ∧ t = .string ⟨(P11.cat (items l m q)).toArray⟩ ∧ Xk.Ext W1 wr) (fun _ x _ => l.length - (intOf x).toNat)
  case atStart => exact ⟨0, Nat.zero_le _, rfl, rfl, Below.refl _ _⟩
  case round =>
    obtain ⟨q, hq, rfl, rfl, hxt⟩ := hrel
    have HX := Lib.hid hxt
    clear hxt
    have hcl := P11.cat_len (items l m q) (items_ok l m q)
    rw [items_len] at hcl
    by_cases hlt : q < l.length
    · have hx : l[q]? = some (l[q]'hlt) := List.getElem?_eq_getElem _
      obtain ⟨b, off, rfl⟩ : ∃ b off, pa = some ⟨b, off, none⟩ := by
        obtain ⟨pa', ca', e, hc⟩ := HA.out
        cases e
        obtain ⟨-, b, off, h1, -⟩ := hc q _ hx
        exact ⟨b, off, h1⟩
      have hc : l[q] < 256 ∧ w.cell? ⟨b, off + q, none⟩ = some (.int .u8 l[q]) := by
        obtain ⟨pa', ca', e, hc⟩ := HA.out
        cases e
        obtain ⟨h1, b', off', h2, h3⟩ := hc q _ hx
        cases h2
        exact ⟨h1, h3⟩
      have c1 := Xk.ext_cell HX.out (Xk.ext_cell HX1.out hc.2)
      have lb1 := World.block_lt_of_cell? wr _ c1
      have y3 := Nat.lt_of_lt_of_le z3 HX.out.size
      have y4 := Nat.lt_of_lt_of_le z4 HX.out.size
      have y5 := Nat.lt_of_lt_of_le z5 HX.out.size
      have g1 := Xk.ext_cell HX.out (F3.out (l[q] % 10) (Nat.mod_lt _ (by decide)))
      have hi : (item l m q).1 = l[q] % 10 := by
        unfold item; rw [List.getD_eq_getElem?_getD, hx]; rfl
      have l1 := P11.bw_len _ (P11.bw_mem (Nat.mod_lt l[q] (by decide : 0 < 10)))
      rw [← bwT_at] at l1
      have hsu := items_succ l m q
      rw [hi, ← bwT_at] at hsu
      have hv : l[q] < 256 := hc.1
      clear hc hx hi
      generalize l[q] = z at *
      have ht : (z : Int).tmod 10 = ((z % 10 : Nat) : Int) := by rw [Int.tmod_eq_emod_of_nonneg (by omega)]; omega
      have hi10 : z % 10 < 10 := Nat.mod_lt _ (by decide)
      generalize z % 10 = i at *
      by_cases hq2 : q < m.length
      · have hy : m[q]? = some (m[q]'hq2) := List.getElem?_eq_getElem _
        obtain ⟨b', off', rfl⟩ : ∃ b off, pb = some ⟨b, off, none⟩ := by
          obtain ⟨pa', ca', e, hc⟩ := HB.out
          cases e
          obtain ⟨-, b, off, h1, -⟩ := hc q _ hy
          exact ⟨b, off, h1⟩
        have hc : m[q] < 256 ∧ w.cell? ⟨b', off' + q, none⟩ = some (.int .u8 m[q]) := by
          obtain ⟨pa', ca', e, hc⟩ := HB.out
          cases e
          obtain ⟨h1, b', off', h2, h3⟩ := hc q _ hy
          cases h2
          exact ⟨h1, h3⟩
        have c2 := Xk.ext_cell HX.out (Xk.ext_cell HX1.out hc.2)
        have lb2 := World.block_lt_of_cell? wr _ c2
        have hi2 : (item l m q).2 = m[q] % 6 := by
          unfold item; dsimp only; rw [if_pos hq2, List.getD_eq_getElem?_getD, hy]; rfl
        have g2 := Xk.ext_cell HX.out (F5.out (m[q] % 6) (Nat.mod_lt _ (by decide)))
        have l2 := P11.bg_len _ (P11.bg_mem (Nat.mod_lt m[q] (by decide : 0 < 6)))
        rw [hi2] at hsu
        have hv2 : m[q] < 256 := hc.1
        clear hc hy hi2
        generalize m[q] = y at *
        have hu : (y : Int).tmod 6 = ((y % 6 : Nat) : Int) := by rw [Int.tmod_eq_emod_of_nonneg (by omega)]; omega
        have hu2 : (y : Int) % 6 = ((y % 6 : Nat) : Int) := by omega
        have hj6 : y % 6 < 6 := Nat.mod_lt _ (by decide)
        generalize y % 6 = j at *
        have HC := Lib.hid (cat3 (P11.cat (items l m q)) (bwT.getD i []) (P11.bg.getD j []))
        have HSU := Lib.hid hsu
        clear hsu
        generalize P11.cat (items l m q) = T at *
        generalize bwT.getD i [] = u at *
        generalize P11.bg.getD j [] = g at *
        have b1 : (z : Int) < 256 := by omega
        have b6 : (y : Int) < 256 := by omega
        have b2 : (q : Int) < (l.length : Int) := by omega
        have b7 : (q : Int) < (m.length : Int) := by omega
        have b3 : (i : Int) < 10 := by omega
        have b8 : (j : Int) < 6 := by omega
        have b4 : ¬ 9223372036854775807 < T.length + u.length := by omega
        have b5 : ¬ 9223372036854775807 < T.length + u.length + g.length := by omega
        go_wp2
        refine Xk.wp_region_rel' 14 [] trivial (by kernel_rfl) (by kernel_rfl) ?_
        simp only [List.take_succ_cons, List.take_zero, List.drop_succ_cons, List.drop_zero]
        repeat (first
          | (refine Xk.rel_det (Xk.wanted_none (by rfl)) (by rfl) (fun K hK => ?_); apply Exists.intro; refine ⟨fun p hp => ?_, ?_⟩; (go_simp; first | exact ⟨rfl, rfl⟩ | ((try refine ⟨by kernel_rfl, ?_⟩); (fail))); (go_simp; refine hK _ ?_; clear hK K))
          | (refine Xk.rel_skip (by rfl) (fun K hK => ?_); go_simp; refine hK _ ?_; clear hK K)
          | (refine Xk.rel_det (by rfl) (by rfl) (fun K hK => ?_); apply Exists.intro; refine ⟨fun p hp => ?_, ?_⟩; (go_simp; first | exact ⟨rfl, rfl⟩ | ((try refine ⟨by kernel_rfl, ?_⟩); (fail))); (go_simp; refine hK _ ?_; clear hK K)))
        refine Xk.rel_nil (fun p _ => ?_)
        clear b4 b5
        go_wp2
        go_roundw
        case rel => exact ⟨q + 1, by omega, by go_num, by rw [HSU.out]; exact congrArg Value.string HC.out, HX.out.trans (Xk.ext_exw _ _)⟩
        case measure => simp [intOf]; omega
      · have hi2 : (item l m q).2 = 0 := if_neg hq2
        have g2 := Xk.ext_cell HX.out (F5.out 0 (by decide))
        have l2 := P11.bg_len _ (P11.bg_mem (show 0 < 6 by decide))
        rw [hi2] at hsu
        have HC := Lib.hid (cat3 (P11.cat (items l m q)) (bwT.getD i []) (P11.bg.getD 0 []))
        have HSU := Lib.hid hsu
        clear hsu hi2
        generalize P11.cat (items l m q) = T at *
        generalize bwT.getD i [] = u at *
        generalize P11.bg.getD 0 [] = g at *
        have b1 : (z : Int) < 256 := by omega
        have b2 : (q : Int) < (l.length : Int) := by omega
        have b3 : (i : Int) < 10 := by omega
        have b4 : ¬ 9223372036854775807 < T.length + u.length := by omega
        have b5 : ¬ 9223372036854775807 < T.length + u.length + g.length := by omega
        go_wp2
        refine Xk.wp_region_rel' 14 [] trivial (by kernel_rfl) (by kernel_rfl) ?_
        simp only [List.take_succ_cons, List.take_zero, List.drop_succ_cons, List.drop_zero]
        repeat (first
          | (refine Xk.rel_det (Xk.wanted_none (by rfl)) (by rfl) (fun K hK => ?_); apply Exists.intro; refine ⟨fun p hp => ?_, ?_⟩; (go_simp; first | exact ⟨rfl, rfl⟩ | ((try refine ⟨by kernel_rfl, ?_⟩); (fail))); (go_simp; refine hK _ ?_; clear hK K))
          | (refine Xk.rel_skip (by rfl) (fun K hK => ?_); go_simp; refine hK _ ?_; clear hK K)
          | (refine Xk.rel_det (by rfl) (by rfl) (fun K hK => ?_); apply Exists.intro; refine ⟨fun p hp => ?_, ?_⟩; (go_simp; first | exact ⟨rfl, rfl⟩ | ((try refine ⟨by kernel_rfl, ?_⟩); (fail))); (go_simp; refine hK _ ?_; clear hK K)))
        refine Xk.rel_nil (fun p _ => ?_)
        clear b4 b5
        go_wp2
        go_roundw
        case rel => exact ⟨q + 1, by omega, by go_num, by rw [HSU.out]; exact congrArg Value.string HC.out, HX.out.trans (Xk.ext_exw _ _)⟩
        case measure => simp [intOf]; omega
    · obtain rfl : q = l.length := by omega
      obtain ⟨ts, e1, e2⟩ := P11.cat_all (items l m l.length) (items_ok l m l.length)
      have hlx : P11.lexed (⟨(P11.cat (items l m l.length)).toArray⟩ : ByteArray).data.toList = .inl (ts ++ [⟨0, [], (P11.cat (items l m l.length)).length⟩]) := by
        show P11.lexed (P11.cat (items l m l.length)).toArray.toList = _
        rw [List.toList_toArray, P11.lexed, if_neg (by omega), e2]
      have htl : ts.length = l.length := by
        have := congrArg List.length e1
        rw [List.length_map, List.length_map, items_len] at this
        exact this
      have hok := fun w => tokens_ok _ _ hlx w
      rw [List.length_append, List.length_singleton, htl] at hok
      have HOK := Lib.hid hok
      have HE1 := Lib.hid e1
      have HTL := Lib.hid htl
      clear hok hlx e1 e2 htl
      generalize P11.cat (items l m l.length) = T at *
      go_wp2_with fail
      (with_reducible refine (HOK.out _).mono ?_)
      rintro e w2 ⟨b2, off2, cap2, rfl, hrow2, hb2⟩
      have hlast := hrow2.2 l.length ⟨0, [], T.length⟩ (by rw [List.getElem?_append_right (by rw [HTL.out]; exact Nat.le_refl _), HTL.out, Nat.sub_self]; rfl)
      have HL := Lib.hid hlast
      have HR2 := Lib.hid hrow2
      have HXX := Lib.hid (HX.out.trans hb2)
      have hl2 := hrow2.1
      clear hrow2 hb2 HX hlast
      go_wp2
      go_loopw [14] (fun x wr => ∃ q : Nat, q ≤ l.length ∧ x = .int .i64 q ∧ Xk.Ext w2 wr) (fun x _ => l.length - (intOf x).toNat)
      case atStart => exact ⟨0, Nat.zero_le _, rfl, Below.refl _ _⟩
      case round =>
        obtain ⟨q, hq, rfl, hxt⟩ := hrel
        have HX := Lib.hid hxt
        clear hxt
        by_cases hlt : q < l.length
        · have hx : l[q]? = some (l[q]'hlt) := List.getElem?_eq_getElem _
          obtain ⟨b, off, rfl⟩ : ∃ b off, pa = some ⟨b, off, none⟩ := by
            obtain ⟨pa', ca', e, hc⟩ := HA.out
            cases e
            obtain ⟨-, b, off, h1, -⟩ := hc q _ hx
            exact ⟨b, off, h1⟩
          have hc : l[q] < 256 ∧ w.cell? ⟨b, off + q, none⟩ = some (.int .u8 l[q]) := by
            obtain ⟨pa', ca', e, hc⟩ := HA.out
            cases e
            obtain ⟨h1, b', off', h2, h3⟩ := hc q _ hx
            cases h2
            exact ⟨h1, h3⟩
          have HXY := Lib.hid (Xk.Ext.trans HXX.out HX.out)
          have c1 := Xk.ext_cell HXY.out (Xk.ext_cell HX1.out hc.2)
          have lb1 := World.block_lt_of_cell? wr _ c1
          have y4 := Nat.lt_of_lt_of_le z4 HXY.out.size
          have g1 := Xk.ext_cell HXY.out (F4.out (l[q] % 10) (Nat.mod_lt _ (by decide)))
          have hi : (item l m q).1 = l[q] % 10 := by
            unfold item; rw [List.getD_eq_getElem?_getD, hx]; rfl
          have hq3 : q < ts.length := by rw [HTL.out]; exact hlt
          have htx : ts[q].text = bwX.getD (l[q] % 10) [] := by
            have := congrArg (fun z => z[q]?) HE1.out
            simp only [List.getElem?_map, items, List.getElem?_eq_getElem hq3, List.getElem?_range hlt, Option.map_some, Option.some.injEq] at this
            rw [this, bwX_at, ← hi]
          obtain ⟨-, c2, -⟩ := (HR2.out.ext HX.out).2 q ts[q] (by rw [List.getElem?_append_left hq3, List.getElem?_eq_getElem hq3])
          have lb2 := World.block_lt_of_cell? wr _ c2
          rw [htx] at c2
          have hv : l[q] < 256 := hc.1
          clear hc hx hi htx
          generalize l[q] = z at *
          have ht : (z : Int).tmod 10 = ((z % 10 : Nat) : Int) := by rw [Int.tmod_eq_emod_of_nonneg (by omega)]; omega
          have hi10 : z % 10 < 10 := Nat.mod_lt _ (by decide)
          generalize z % 10 = i at *
          generalize bwX.getD i [] = u at *
          have b1 : (z : Int) < 256 := by omega
          have b2 : (q : Int) < (l.length : Int) := by omega
          have b3 : (i : Int) < 10 := by omega
          have b4 : (q : Int) < (l.length : Int) + 1 := by omega
          go_wp2
          refine Xk.wp_region_rel' 13 [] trivial (by kernel_rfl) (by kernel_rfl) ?_
          simp only [List.take_succ_cons, List.take_zero, List.drop_succ_cons, List.drop_zero]
          repeat (first
            | (refine Xk.rel_det (Xk.wanted_none (by rfl)) (by rfl) (fun K hK => ?_); apply Exists.intro; refine ⟨fun p hp => ?_, ?_⟩; (go_simp; first | exact ⟨rfl, rfl⟩ | ((try refine ⟨by kernel_rfl, ?_⟩); (fail))); (go_simp; refine hK _ ?_; clear hK K))
            | (refine Xk.rel_skip (by rfl) (fun K hK => ?_); go_simp; refine hK _ ?_; clear hK K)
            | (refine Xk.rel_det (by rfl) (by rfl) (fun K hK => ?_); apply Exists.intro; refine ⟨fun p hp => ?_, ?_⟩; (go_simp; first | exact ⟨rfl, rfl⟩ | ((try refine ⟨by kernel_rfl, ?_⟩); (fail))); (go_simp; refine hK _ ?_; clear hK K)))
          refine Xk.rel_nil (fun p _ => ?_)
          go_wp2
          go_roundw
          case rel => exact ⟨q + 1, by omega, by go_num, HX.out.trans (Xk.ext_exw _ _)⟩
          case measure => simp [intOf]; omega
        · obtain rfl : q = l.length := by omega
          obtain ⟨c1, -, c3⟩ := HL.out
          have c1 := Xk.ext_cell HX.out c1
          have c3 := Xk.ext_cell HX.out c3
          go_wp2
          go_ret
          exact ⟨rfl, Xk.Ext.trans HX1.out (Xk.Ext.trans HXX.out HX.out)⟩
end Go.Proofs.YteipafoiogkdoaaDoor
