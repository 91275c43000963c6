/- Walks: report.rowIn. -/
import Derived.Test.YtmoippbmnanajaaGreatDoorRN
import Derived.Test.YtmoippbmnanajaaGreatDoorP8
set_option linter.unusedSimpArgs false
set_option linter.unusedVariables false
namespace Go.Proofs.YtmoippbmnanajaaGreatDoor
open Go.RowKit
theorem lit_ok {t : List UInt8} {x : V} (h : lit t = some x) : isX x = true ∧ printX x = t ∧ -9223372036854775808 ≤ x.i ∧ x.i ≤ 9223372036854775807 := by
  unfold lit at h
  cases hc : cand t with
  | none => rw [hc] at h; cases h
  | some y =>
    rw [hc] at h
    dsimp only at h
    split at h
    · rename_i hy
      cases h
      refine ⟨hy.1, hy.2, ?_⟩
      unfold cand at hc
      split at hc
      · cases hc; exact ⟨by decide, by decide⟩
      · split at hc
        · cases hc; exact ⟨by decide, by decide⟩
        · split at hc
          · cases hc; exact ⟨by decide, by decide⟩
          · split at hc
            · split at hc
              · cases hc
              · cases hc; exact ⟨by show (-9223372036854775808 : Int) ≤ 0; decide, by show (0 : Int) ≤ _; decide⟩
            · split at hc
              · rename_i n hn
                cases hc
                have := Lib.parseIntB_bounds hn
                have h1 : -9223372036854775808 ≤ n := this.1
                have h2 : n < 9223372036854775808 := this.2
                exact ⟨h1, by show n ≤ _; omega⟩
              · cases hc
    · cases h
theorem isX_size {x : V} (h : isX x = true) : x.s.size ≤ 40 := by
  have e : x.s.data.toList.length = x.s.size := rfl
  obtain ⟨k, i, s⟩ := x
  dsimp only at e ⊢
  unfold isX at h
  dsimp only at h
  rcases P6.isV_kind h with ⟨-, -, h0⟩ | ⟨-, -, h0⟩ | ⟨-, h0⟩ | ⟨rfl, -⟩
  · rw [h0] at e; simp at e; omega
  · rw [h0] at e; simp at e; omega
  · rw [h0] at e; simp at e; omega
  · rw [is3] at h
    simp at h
    omega
/-- Values as cells. -/
def vcells : List V → List Value
  | [] => []
  | x :: l => .int .i64 x.k :: .int .i64 x.i :: .string x.s :: vcells l
theorem vcells_snoc : ∀ (l : List V) (x : V), vcells l ++ [.int .i64 x.k, .int .i64 x.i, .string x.s] = vcells (l ++ [x])
  | [], x => rfl
  | y :: l, x => by simp only [vcells, List.cons_append]; rw [← vcells_snoc l x]
theorem vcells_length : ∀ l : List V, (vcells l).length = l.length * 3
  | [] => rfl
  | x :: l => by simp only [vcells, List.length_cons, vcells_length l]; omega
theorem vcells_at : ∀ (l : List V) (q : Nat) (x : V), l[q]? = some x → (vcells l)[q * 3]? = some (.int .i64 x.k) ∧ (vcells l)[q * 3 + 1]? = some (.int .i64 x.i) ∧ (vcells l)[q * 3 + 2]? = some (.string x.s)
  | [], q, x, h => by simp at h
  | y :: l, 0, x, h => by simp at h; subst h; exact ⟨rfl, rfl, rfl⟩
  | y :: l, q + 1, x, h => by
    have := vcells_at l q x (by simpa using h)
    rw [show (q + 1) * 3 = q * 3 + 3 by omega]
    exact this
theorem RowAt.own {w : World} {base : Nat} {e : TypeId} {v : Value} {n : Nat} {l : List V} (h : w.ownsRow base e 3 v n (vcells l)) (hs : ∀ x ∈ l, x.s.size ≤ maxLen) : RowAt w v l := by
  obtain ⟨h1, h2⟩ := h
  rw [vcells_length] at h1
  have hn : l.length = n := by omega
  rcases h2 with ⟨rfl, h0⟩ | ⟨g, cap, cur, rfl, hb, hg, hnc, hcm, hcs, htake⟩
  · have : l = [] := List.eq_nil_of_length_eq_zero (by omega)
    subst this
    exact ⟨none, 0, rfl, fun j x hj => by simp at hj⟩
  · subst hn
    refine ⟨some ⟨g, 0, none⟩, cap, rfl, fun j x hj => ?_⟩
    obtain ⟨c0, c1, c2⟩ := vcells_at l j x hj
    have get : ∀ k u, (vcells l)[k]? = some u → w.cell? ⟨g, k, none⟩ = some u := fun k u hk => by
      have hlt := (List.getElem?_eq_some_iff.1 hk).1
      rw [vcells_length] at hlt
      rw [← htake, List.getElem?_take, if_pos hlt] at hk
      simp only [World.cell?, hg]
      simpa using hk
    refine ⟨g, 0, rfl, ?_, ?_, ?_, hs x (List.mem_of_getElem? hj)⟩
    · rw [Nat.zero_add]; exact get _ _ c0
    · rw [Nat.zero_add]; exact get _ _ c1
    · rw [Nat.zero_add]; exact get _ _ c2
theorem dropBlank_snoc (l : List (List UInt8)) (x : List UInt8) : P25.dropBlank (l ++ [x]) = if P25.blank x then P25.dropBlank l else l ++ [x] := by
  unfold P25.dropBlank
  rw [List.reverse_append, List.reverse_singleton, List.singleton_append, List.dropWhile_cons]
  split <;> simp
theorem literal_some (t : List UInt8) (y : V) (h : lit t = some y) (w : World) (hE : EnvR w) (ht : t.length ≤ 2000000000) :
    Calls Tryz.prog 94 #[.string ⟨t.toArray⟩] w fun e w' => e = .returned (.tuple #[vv y.k y.i y.s, .bool true]) ∧ Below w.heap.size w w' :=
  (literal_any t w hE ht).mono fun e w' h' => by
    obtain ⟨hb, x, ok, rfl, hm⟩ := h'
    rw [h] at hm
    obtain ⟨rfl, rfl⟩ := hm
    exact ⟨rfl, hb⟩
theorem literal_none (t : List UInt8) (h : lit t = none) (w : World) (hE : EnvR w) (ht : t.length ≤ 2000000000) :
    Calls Tryz.prog 94 #[.string ⟨t.toArray⟩] w fun e w' => ∃ x : V, e = .returned (.tuple #[vv x.k x.i x.s, .bool false]) ∧ Below w.heap.size w w' :=
  (literal_any t w hE ht).mono fun e w' h' => by
    obtain ⟨hb, x, ok, rfl, hm⟩ := h'
    rw [h] at hm
    obtain rfl := hm
    exact ⟨x, rfl, hb⟩
/-- How rowIn ends. -/
def RowPost (w : World) (r : Option (List V)) (e : Ending) (w' : World) : Prop := Below w.heap.size w w' ∧ match r with
  | some l => ∃ v, e = .returned (.tuple #[v, .bool true]) ∧ Xo.Lives w.heap.size [] w' fun W => RowAt W v l
  | none => ∃ v, e = .returned (.tuple #[v, .bool false])
theorem vals_ok : ∀ (l : List (List UInt8)) (r : List V), vals l = some r → ∀ x ∈ r, ∃ s, lit s = some x
  | [], r, h => by cases h; intro x hx; cases hx
  | s :: l, r, h => by
    unfold vals at h
    cases hs : lit (P25.inner s) with
    | none => rw [hs] at h; cases h
    | some y =>
      rw [hs] at h
      dsimp only at h
      cases hv : vals l with
      | none => rw [hv] at h; cases h
      | some r' =>
        rw [hv] at h
        cases h
        intro x hx
        rcases List.mem_cons.1 hx with rfl | hx
        · exact ⟨_, hs⟩
        · exact vals_ok l r' hv x hx
theorem Tryz.infoV : (Tryz.prog.info? 36).map (fun i => (i.zero, i.size, i.bytes)) = some (some (.agg #[.int .i64 0, .int .i64 0, .string ⟨#[]⟩]), 3, 32) := by kernel_rfl
set_option maxRecDepth 100000 in
set_option maxHeartbeats 8000000 in
theorem rowIn_any (vl : Value) (l : List (List UInt8)) (w : World) (hE : EnvR w) (hl : StrsAt w vl l) (hn : l.length ≤ 100000) (hm : ∀ x ∈ l, x.length ≤ 2000000000) :
    Calls Tryz.prog 62 #[vl] w (RowPost w (rowIn l)) := by
  obtain ⟨pl, cl, rfl, hcl, hl'⟩ := hl
  have HL : Hid (∀ (j : Nat) (x : List UInt8), l[j]? = some x → ∃ b off, pl = some ⟨b, off, none⟩ ∧ w.cell? ⟨b, off + j, none⟩ = some (.string ⟨x.toArray⟩)) := Lib.hid fun j x hj => by
    obtain ⟨b, off, h1, h2⟩ := hl' j x hj
    rw [Nat.mul_one] at h2
    exact ⟨b, off, h1, h2⟩
  have HM := Lib.hid hm
  have HE := Lib.hid hE
  obtain ⟨i0, hi, hz0, hz1, hz2⟩ := info_parts Tryz.infoV
  have Hi := Lib.hid hi
  have Hz0 := Lib.hid hz0
  have Hz1 := Lib.hid hz1
  have Hz2 := Lib.hid hz2
  clear hi hz0 hz1 hz2 hl' hm hE
  go_enter Tryz.func62, Tryz.ntmps62
  go_wp2
  go_loopw [0] (fun a wr => ∃ m : Nat, m ≤ l.length ∧ a = .slice pl m cl ∧ Below w.heap.size w wr ∧ P25.dropBlank l = P25.dropBlank (l.take m)) (fun a _ => match a with | .slice _ n _ => n | _ => 0)
  case atStart => exact ⟨l.length, Nat.le_refl _, rfl, Below.refl _ _, by rw [List.take_length]⟩
  case round =>
    obtain ⟨m, hml, rfl, hbw, hd⟩ := hrel
    have HB := Lib.hid hbw
    have HD := Lib.hid hd
    have hsz := hbw.size
    clear hbw hd
    have stop : (m = 0 ∨ ∃ x, l[m - 1]? = some x ∧ 0 < m ∧ P25.blank x = false) → P25.dropBlank (l.take m) = l.take m := by
      rintro (rfl | ⟨x, hx, h0, hbx⟩)
      · rfl
      · have e : l.take m = l.take (m - 1) ++ [x] := by
          have := take_snocL hx
          rwa [show m - 1 + 1 = m by omega] at this
        rw [e, dropBlank_snoc, hbx]; rfl
    by_cases hgo : ∃ x, 0 < m ∧ l[m - 1]? = some x ∧ P25.blank x = true
    · obtain ⟨x, h0, hx, hbx⟩ := hgo
      have Hnx : Hid (P25.dropBlank l = P25.dropBlank (l.take (m - 1))) := Lib.hid (by
        have e : l.take m = l.take (m - 1) ++ [x] := by
          have := take_snocL hx
          rwa [show m - 1 + 1 = m by omega] at this
        rw [HD.out, e, dropBlank_snoc, if_pos hbx])
      obtain ⟨b, off, rfl, d1⟩ := HL.out _ x hx
      have d1 := Xk.ext_cell HB.out d1
      have l1 := World.block_lt_of_cell? _ _ d1
      have htr : Lib.trimB x 32 = [] := by unfold P25.blank at hbx; simpa using hbx
      have hT := fun W => trimmed_any x (by have := HM.out x (List.mem_of_getElem? hx); omega) W
      rw [htr] at hT
      have HT := Lib.hid hT
      clear hT htr hbx hx stop
      obtain ⟨m, rfl⟩ : ∃ k, m = k + 1 := ⟨m - 1, by omega⟩
      rw [show m + 1 - 1 = m by omega] at d1 Hnx
      go_wp2_with (first | (go_at_call 61; (with_reducible refine (HT.out _).mono ?_); rintro e w' ⟨rfl, hb⟩; obtain ⟨p, rfl⟩ := Xk.exw_of hb; clear hb))
      go_roundw
      case rel => exact ⟨m, by omega, rfl, (by repeat (first | with_reducible exact HB.out | with_reducible exact Below.refl _ _ | ((with_reducible refine Below.setCell ?_ ?_ _); rotate_left; exact (by (try simp only [World.size_alloc, Xk.exw_size, World.size_setCell, World.size_drew, World.heap_drewN]); omega)) | ((with_reducible refine Below.alloc ?_ ?_ _); rotate_left; exact (by (try simp only [World.size_alloc, Xk.exw_size, World.size_setCell, World.size_drew, World.heap_drewN]); omega)) | ((with_reducible refine Xk.below_exw ?_ ?_ _); rotate_left; exact (by (try simp only [World.size_alloc, Xk.exw_size, World.size_setCell, World.size_drew, World.heap_drewN]); omega)) | (with_reducible refine Below.drew ?_))), Hnx.out⟩
      case measure => exact Nat.lt_succ_self m
    · have hstop : P25.dropBlank (l.take m) = l.take m := by
        refine stop ?_
        by_cases h0 : m = 0
        · exact .inl h0
        · have hx : l[m - 1]? = some (l[m - 1]'(by omega)) := List.getElem?_eq_getElem _
          refine .inr ⟨_, hx, by omega, ?_⟩
          cases hb : P25.blank (l[m - 1]'(by omega))
          · rfl
          · exact absurd ⟨_, by omega, hx, hb⟩ hgo
      have HR : Hid (rowIn l = vals (l.take m)) := Lib.hid (by unfold rowIn; rw [HD.out, hstop])
      have HX : Hid (0 < m → ∃ x, l[m - 1]? = some x ∧ P25.blank x = false) := Lib.hid fun h0 => by
        have hx : l[m - 1]? = some (l[m - 1]'(by omega)) := List.getElem?_eq_getElem _
        refine ⟨_, hx, ?_⟩
        cases hb : P25.blank (l[m - 1]'(by omega))
        · rfl
        · exact absurd ⟨_, h0, hx, hb⟩ hgo
      clear stop hgo hstop
      by_cases h0 : m = 0
      · subst h0
        rw [List.take_zero] at HR
        go_wp2
        refine wp_loop_rounds 1 ?_
        rw [rounds_succ]
        have HF : Hid (rowIn l = some []) := Lib.hid (by rw [HR.out]; rfl)
        go_wp2
        go_ret2
        exact ⟨HB.out, by rw [HF.out]; exact ⟨_, rfl, fun W h1 h2 => ⟨none, 0, rfl, fun j x hj => by simp at hj⟩⟩⟩
      · obtain ⟨x, hx, hbx⟩ := HX.out (by omega)
        obtain ⟨b, off, rfl, d1⟩ := HL.out _ x hx
        have d1 := Xk.ext_cell HB.out d1
        have l1 := World.block_lt_of_cell? _ _ d1
        have hT := fun W => trimmed_any x (by have := HM.out x (List.mem_of_getElem? hx); omega) W
        have hu : (Lib.trimB x 32).isEmpty = false := by
          unfold P25.blank at hbx
          cases hl : Lib.trimB x 32 with
          | nil => rw [hl] at hbx; cases hbx
          | cons a r => rfl
        generalize Lib.trimB x 32 = u at hT hu
        have HT := Lib.hid hT
        clear hT hbx hx
        obtain ⟨m, rfl⟩ : ∃ k, m = k + 1 := ⟨m - 1, by omega⟩
        rw [show m + 1 - 1 = m by omega] at d1
        clear HX
        go_wp2_with (first | (go_at_call 61; (with_reducible refine (HT.out _).mono ?_); rintro e w' ⟨rfl, hb⟩; obtain ⟨p, rfl⟩ := Xk.exw_of hb; clear hb))
        generalize hW : Xk.exw wr _ = W1
        have HB := Lib.hid (HB.out.trans ((show Xk.Ext wr W1 by rw [← hW]; exact Xk.ext_exw _ _).mono HB.out.size))
        clear hW d1 l1 hu HT
        go_loopw [4, 30] (fun v x wr => ∃ (q : Nat) (r : List V), q ≤ m + 1 ∧ x = .int .i64 q ∧ Below w.heap.size w wr ∧ wr.ownsRow w.heap.size 36 3 v q (vcells r) ∧ r.length = q ∧ (∀ x ∈ r, x.s.size ≤ 40) ∧
          rowIn l = (vals ((l.take (m + 1)).drop q)).map (r ++ ·)) (fun _ x _ => m + 1 - (intOf x).toNat)
        case atStart => exact ⟨0, [], by omega, rfl, HB.out, World.ownsRow_nil _ _ _ _, rfl, (fun x hx => by cases hx), by rw [HR.out]; simp⟩
        case round =>
          clear HB HR
          obtain ⟨q, r, hq, rfl, hbw, ho, hrl, hrs, hrec⟩ := hrel
          have HB := Lib.hid hbw
          have HO := Lib.hid ho
          have HS := Lib.hid hrec
          have HRS := Lib.hid hrs
          have HRL := Lib.hid hrl
          have hsz := hbw.size
          clear hbw ho hrec hrs hrl
          by_cases hlt : q < m + 1
          · have hx : l[q]? = some (l[q]'(by omega)) := List.getElem?_eq_getElem _
            generalize l[q]'(by omega) = x at hx
            have Hd : Hid ((l.take (m + 1)).drop q = x :: (l.take (m + 1)).drop (q + 1)) := Lib.hid (by
              have : (l.take (m + 1))[q]? = some x := by rw [List.getElem?_take, if_pos hlt, hx]
              have hq' := (List.getElem?_eq_some_iff.1 this).1
              rw [List.drop_eq_getElem_cons hq', (List.getElem?_eq_some_iff.1 this).2])
            have hxm := HM.out x (List.mem_of_getElem? hx)
            obtain ⟨b2, off2, e2, d1⟩ := HL.out q x hx
            cases e2
            have d1 := Xk.ext_cell HB.out d1
            have l1 := World.block_lt_of_cell? _ _ d1
            have hqm : (q : Int) < (m : Int) + 1 := by omega
            have HTL : Hid (∀ W, Calls Tryz.prog 92 #[.string ⟨x.toArray⟩, .string ⟨#[32]⟩] W fun e w' => e = .returned (.string ⟨(Lib.trimLeftB x 32).toArray⟩) ∧ W = w') := Lib.hid fun W => (Tryz.strings_TrimLeft_one ⟨x.toArray⟩ 32 (by decide) W).mono fun e w' ⟨a, b⟩ => ⟨a, b.symm⟩
            have htl : (Lib.trimLeftB x 32).length ≤ 2000000000 := by
              have : (Lib.trimLeftB x 32).length ≤ x.length := (List.dropWhile_sublist _).length_le
              omega
            have HHP : Hid (∀ W, Calls Tryz.prog 52 #[.string ⟨(Lib.trimLeftB x 32).toArray⟩, .string ⟨#[39]⟩] W fun e w' => e = .returned (.bool (Lib.hasPrefix (Lib.trimLeftB x 32) [39])) ∧ W = w') := Lib.hid fun W => (Tryz.strings_HasPrefix ⟨(Lib.trimLeftB x 32).toArray⟩ ⟨#[39]⟩ W).mono fun e w' ⟨a, b⟩ => ⟨a, b.symm⟩
            have hinl : (P25.inner x).length ≤ 2000000000 := by
              unfold P25.inner
              split
              · rw [List.length_take]; omega
              · have h1 : (Lib.trimB x 32).length ≤ (Lib.trimRightB x 32).length := (List.dropWhile_sublist _).length_le
                have h2 := P25.trimRight_length x 32
                omega
            have hnext : ∀ y, lit (P25.inner x) = some y → rowIn l = (vals ((l.take (m + 1)).drop (q + 1))).map ((r ++ [y]) ++ ·) := fun y hy => by
              rw [HS.out, Hd.out, vals, hy]
              dsimp only
              cases vals ((l.take (m + 1)).drop (q + 1)) <;> simp
            have hnone : lit (P25.inner x) = none → rowIn l = none := fun hy => by
              rw [HS.out, Hd.out, vals, hy]; rfl
            have HNext := Lib.hid hnext
            have HNone := Lib.hid hnone
            clear hnext hnone hx
            cases hp : Lib.hasPrefix (Lib.trimLeftB x 32) [39]
            · have hin : P25.inner x = Lib.trimB x 32 := by unfold P25.inner; rw [if_neg (by rw [hp]; decide)]
              have HT := Lib.hid fun W => trimmed_any x (by omega) W
              rw [hp] at HHP
              rw [hin] at HNext HNone hinl
              generalize Lib.trimB x 32 = t at HNext HNone hinl HT
              clear hp hin
              cases hlit : lit t with
              | none =>
                have HLt := Lib.hid fun W (hx : Xk.Ext w W) => literal_none t hlit W (HE.out.ext hx) (by omega)
                have HEnd := Lib.hid (HNone.out hlit)
                clear hlit
                go_wp2_with (first | (go_at_call 92; (with_reducible refine (HTL.out _).mono ?_); rintro e w' ⟨rfl, rfl⟩) | (go_at_call 52; (with_reducible refine (HHP.out _).mono ?_); rintro e w' ⟨rfl, rfl⟩) | (go_at_call 61; (with_reducible refine (HT.out _).mono ?_); rintro e w' ⟨rfl, hb⟩; obtain ⟨p, rfl⟩ := Xk.exw_of hb; clear hb) | (go_at_call 94; (with_reducible refine (HLt.out _ (by repeat (first | with_reducible exact HB.out | with_reducible exact Below.refl _ _ | ((with_reducible refine Below.setCell ?_ ?_ _); rotate_left; exact (by (try simp only [World.size_alloc, Xk.exw_size, World.size_setCell, World.size_drew, World.heap_drewN]); omega)) | ((with_reducible refine Below.alloc ?_ ?_ _); rotate_left; exact (by (try simp only [World.size_alloc, Xk.exw_size, World.size_setCell, World.size_drew, World.heap_drewN]); omega)) | ((with_reducible refine Xk.below_exw ?_ ?_ _); rotate_left; exact (by (try simp only [World.size_alloc, Xk.exw_size, World.size_setCell, World.size_drew, World.heap_drewN]); omega)) | (with_reducible refine Below.drew ?_)))).mono ?_); rintro e w' ⟨z, rfl, hb⟩; obtain ⟨p, rfl⟩ := Xk.exw_of hb; clear hb))
                go_ret2
                exact ⟨(by repeat (first | with_reducible exact HB.out | with_reducible exact Below.refl _ _ | ((with_reducible refine Below.setCell ?_ ?_ _); rotate_left; exact (by (try simp only [World.size_alloc, Xk.exw_size, World.size_setCell, World.size_drew, World.heap_drewN]); omega)) | ((with_reducible refine Below.alloc ?_ ?_ _); rotate_left; exact (by (try simp only [World.size_alloc, Xk.exw_size, World.size_setCell, World.size_drew, World.heap_drewN]); omega)) | ((with_reducible refine Xk.below_exw ?_ ?_ _); rotate_left; exact (by (try simp only [World.size_alloc, Xk.exw_size, World.size_setCell, World.size_drew, World.heap_drewN]); omega)) | (with_reducible refine Below.drew ?_))), by rw [HEnd.out]; exact ⟨_, rfl⟩⟩
              | some y =>
                have HLt := Lib.hid fun W (hx : Xk.Ext w W) => literal_some t y hlit W (HE.out.ext hx) (by omega)
                have HEnd := Lib.hid (HNext.out y hlit)
                have HYs := Lib.hid (isX_size (lit_ok hlit).1)
                clear hlit
                go_wp2_with (first | (go_at_call 92; (with_reducible refine (HTL.out _).mono ?_); rintro e w' ⟨rfl, rfl⟩) | (go_at_call 52; (with_reducible refine (HHP.out _).mono ?_); rintro e w' ⟨rfl, rfl⟩) | (go_at_call 61; (with_reducible refine (HT.out _).mono ?_); rintro e w' ⟨rfl, hb⟩; obtain ⟨p, rfl⟩ := Xk.exw_of hb; clear hb) | (go_at_call 94; (with_reducible refine (HLt.out _ (by repeat (first | with_reducible exact HB.out | with_reducible exact Below.refl _ _ | ((with_reducible refine Below.setCell ?_ ?_ _); rotate_left; exact (by (try simp only [World.size_alloc, Xk.exw_size, World.size_setCell, World.size_drew, World.heap_drewN]); omega)) | ((with_reducible refine Below.alloc ?_ ?_ _); rotate_left; exact (by (try simp only [World.size_alloc, Xk.exw_size, World.size_setCell, World.size_drew, World.heap_drewN]); omega)) | ((with_reducible refine Xk.below_exw ?_ ?_ _); rotate_left; exact (by (try simp only [World.size_alloc, Xk.exw_size, World.size_setCell, World.size_drew, World.heap_drewN]); omega)) | (with_reducible refine Below.drew ?_)))).mono ?_); rintro e w' ⟨rfl, hb⟩; obtain ⟨p, rfl⟩ := Xk.exw_of hb; clear hb) | (at_builtin; refine Xo.wpList_appk (w0 := w) rfl _ _ 37 rfl 36 i0 _ 3 32 Tryz.underlying37 Hi.out Hz0.out Hz1.out Hz2.out rfl (by decide) u4 q (vcells r) rfl (by repeat (first | with_reducible exact HO.out | with_reducible refine Xo.own_alloc ?_ _ | with_reducible refine Xo.own_drew ?_ | with_reducible refine Xo.own_exw ?_ _)) _ 0 1 1 [.int .i64 y.k, .int .i64 y.i, .string y.s] rfl (by decide) rfl (Xo.cells3 (by simp)) (Xo.one3 rfl rfl rfl) (by omega) (by repeat (first | with_reducible exact HB.out | with_reducible exact Below.refl _ _ | ((with_reducible refine Below.setCell ?_ ?_ _); rotate_left; exact (by (try simp only [World.size_alloc, Xk.exw_size, World.size_setCell, World.size_drew, World.heap_drewN]); omega)) | ((with_reducible refine Below.alloc ?_ ?_ _); rotate_left; exact (by (try simp only [World.size_alloc, Xk.exw_size, World.size_setCell, World.size_drew, World.heap_drewN]); omega)) | ((with_reducible refine Xk.below_exw ?_ ?_ _); rotate_left; exact (by (try simp only [World.size_alloc, Xk.exw_size, World.size_setCell, World.size_drew, World.heap_drewN]); omega)) | (with_reducible refine Below.drew ?_))) ?_; intro v' w' ho' hg' hk' hb'; have HO' := Lib.hid ho'; have HG' := Lib.hid hg'; have HK' := Lib.hid hk'; have HB' := Lib.hid hb'; clear ho' hg' hk' hb'))
                go_roundw
                case rel => exact ⟨q + 1, r ++ [y], by omega, by go_num, HB'.out, by rw [← vcells_snoc]; exact HO'.out, by rw [List.length_append, HRL.out]; rfl, fun z hz => by
                  rcases List.mem_append.1 hz with h | h
                  · exact HRS.out z h
                  · simp at h; subst h; exact HYs.out, HEnd.out⟩
                case measure => simp [intOf]; omega
            · have hin : P25.inner x = (Lib.trimLeftB x 32).take (Lib.lastIndexByte ⟨(Lib.trimLeftB x 32).toArray⟩ 39 + 1).toNat := by unfold P25.inner; rw [if_pos hp]
              rw [hp] at HHP
              have hli : ∃ n : Nat, n ≤ (Lib.trimLeftB x 32).length ∧ Lib.lastIndexByte ⟨(Lib.trimLeftB x 32).toArray⟩ 39 + 1 = (n : Int) := by
                have hz : (⟨(Lib.trimLeftB x 32).toArray⟩ : ByteArray).size = (Lib.trimLeftB x 32).length := by simp [ByteArray.size]
                rcases Lib.lastIndexByte_spec ⟨(Lib.trimLeftB x 32).toArray⟩ 39 with ⟨h, -⟩ | ⟨i, h1, h2, -⟩
                · exact ⟨0, Nat.zero_le _, by rw [h]; rfl⟩
                · exact ⟨i + 1, by omega, by rw [h2]; rfl⟩
              obtain ⟨n, hn1, hn2⟩ := hli
              rw [hn2, Int.toNat_natCast] at hin
              have HLI : Hid (∀ W, Calls Tryz.prog 93 #[.string ⟨(Lib.trimLeftB x 32).toArray⟩, .int .u8 39] W fun e w' => e = .returned (.int .i64 (Lib.lastIndexByte ⟨(Lib.trimLeftB x 32).toArray⟩ 39)) ∧ W = w') := Lib.hid fun W => (Tryz.strings_LastIndexByte ⟨(Lib.trimLeftB x 32).toArray⟩ 39 (by show (Lib.trimLeftB x 32).length < _; omega) W).mono fun e w' ⟨a, b⟩ => ⟨a, b.symm⟩
              have hsl := take_str (Lib.trimLeftB x 32) n n (by omega)
              rw [hin] at HNext HNone hinl
              generalize (Lib.trimLeftB x 32).take n = t at HNext HNone hinl hsl
              generalize Lib.lastIndexByte ⟨(Lib.trimLeftB x 32).toArray⟩ 39 = li at HLI hn2
              have hw1 : IntKind.i64.wrap (li + 1) = (n : Int) := by rw [hn2]; exact IntWalk.i64_in _ (by omega)
              have hn3 : (n : Int) ≤ ((Lib.trimLeftB x 32).length : Int) := by omega
              generalize Lib.trimLeftB x 32 = tl at HTL HHP HLI hsl htl hn1 hn3
              have Hn2 := Lib.hid hn2
              have Hl1 : 0 ≤ li + 1 := by omega
              clear hp hin hn2
              cases hlit : lit t with
              | none =>
                have HLt := Lib.hid fun W (hx : Xk.Ext w W) => literal_none t hlit W (HE.out.ext hx) (by omega)
                have HEnd := Lib.hid (HNone.out hlit)
                clear hlit
                go_wp2_with (first | (go_at_call 92; (with_reducible refine (HTL.out _).mono ?_); rintro e w' ⟨rfl, rfl⟩) | (go_at_call 52; (with_reducible refine (HHP.out _).mono ?_); rintro e w' ⟨rfl, rfl⟩) | (go_at_call 93; (with_reducible refine (HLI.out _).mono ?_); rintro e w' ⟨rfl, rfl⟩) | (go_at_call 94; (with_reducible refine (HLt.out _ (by repeat (first | with_reducible exact HB.out | with_reducible exact Below.refl _ _ | ((with_reducible refine Below.setCell ?_ ?_ _); rotate_left; exact (by (try simp only [World.size_alloc, Xk.exw_size, World.size_setCell, World.size_drew, World.heap_drewN]); omega)) | ((with_reducible refine Below.alloc ?_ ?_ _); rotate_left; exact (by (try simp only [World.size_alloc, Xk.exw_size, World.size_setCell, World.size_drew, World.heap_drewN]); omega)) | ((with_reducible refine Xk.below_exw ?_ ?_ _); rotate_left; exact (by (try simp only [World.size_alloc, Xk.exw_size, World.size_setCell, World.size_drew, World.heap_drewN]); omega)) | (with_reducible refine Below.drew ?_)))).mono ?_); rintro e w' ⟨z, rfl, hb⟩; obtain ⟨p, rfl⟩ := Xk.exw_of hb; clear hb))
                go_ret2
                exact ⟨(by repeat (first | with_reducible exact HB.out | with_reducible exact Below.refl _ _ | ((with_reducible refine Below.setCell ?_ ?_ _); rotate_left; exact (by (try simp only [World.size_alloc, Xk.exw_size, World.size_setCell, World.size_drew, World.heap_drewN]); omega)) | ((with_reducible refine Below.alloc ?_ ?_ _); rotate_left; exact (by (try simp only [World.size_alloc, Xk.exw_size, World.size_setCell, World.size_drew, World.heap_drewN]); omega)) | ((with_reducible refine Xk.below_exw ?_ ?_ _); rotate_left; exact (by (try simp only [World.size_alloc, Xk.exw_size, World.size_setCell, World.size_drew, World.heap_drewN]); omega)) | (with_reducible refine Below.drew ?_))), by rw [HEnd.out]; exact ⟨_, rfl⟩⟩
              | some y =>
                have HLt := Lib.hid fun W (hx : Xk.Ext w W) => literal_some t y hlit W (HE.out.ext hx) (by omega)
                have HEnd := Lib.hid (HNext.out y hlit)
                have HYs := Lib.hid (isX_size (lit_ok hlit).1)
                clear hlit
                go_wp2_with (first | (go_at_call 92; (with_reducible refine (HTL.out _).mono ?_); rintro e w' ⟨rfl, rfl⟩) | (go_at_call 52; (with_reducible refine (HHP.out _).mono ?_); rintro e w' ⟨rfl, rfl⟩) | (go_at_call 93; (with_reducible refine (HLI.out _).mono ?_); rintro e w' ⟨rfl, rfl⟩) | (go_at_call 94; (with_reducible refine (HLt.out _ (by repeat (first | with_reducible exact HB.out | with_reducible exact Below.refl _ _ | ((with_reducible refine Below.setCell ?_ ?_ _); rotate_left; exact (by (try simp only [World.size_alloc, Xk.exw_size, World.size_setCell, World.size_drew, World.heap_drewN]); omega)) | ((with_reducible refine Below.alloc ?_ ?_ _); rotate_left; exact (by (try simp only [World.size_alloc, Xk.exw_size, World.size_setCell, World.size_drew, World.heap_drewN]); omega)) | ((with_reducible refine Xk.below_exw ?_ ?_ _); rotate_left; exact (by (try simp only [World.size_alloc, Xk.exw_size, World.size_setCell, World.size_drew, World.heap_drewN]); omega)) | (with_reducible refine Below.drew ?_)))).mono ?_); rintro e w' ⟨rfl, hb⟩; obtain ⟨p, rfl⟩ := Xk.exw_of hb; clear hb) | (at_builtin; refine Xo.wpList_appk (w0 := w) rfl _ _ 37 rfl 36 i0 _ 3 32 Tryz.underlying37 Hi.out Hz0.out Hz1.out Hz2.out rfl (by decide) u4 q (vcells r) rfl (by repeat (first | with_reducible exact HO.out | with_reducible refine Xo.own_alloc ?_ _ | with_reducible refine Xo.own_drew ?_ | with_reducible refine Xo.own_exw ?_ _)) _ 0 1 1 [.int .i64 y.k, .int .i64 y.i, .string y.s] rfl (by decide) rfl (Xo.cells3 (by simp)) (Xo.one3 rfl rfl rfl) (by omega) (by repeat (first | with_reducible exact HB.out | with_reducible exact Below.refl _ _ | ((with_reducible refine Below.setCell ?_ ?_ _); rotate_left; exact (by (try simp only [World.size_alloc, Xk.exw_size, World.size_setCell, World.size_drew, World.heap_drewN]); omega)) | ((with_reducible refine Below.alloc ?_ ?_ _); rotate_left; exact (by (try simp only [World.size_alloc, Xk.exw_size, World.size_setCell, World.size_drew, World.heap_drewN]); omega)) | ((with_reducible refine Xk.below_exw ?_ ?_ _); rotate_left; exact (by (try simp only [World.size_alloc, Xk.exw_size, World.size_setCell, World.size_drew, World.heap_drewN]); omega)) | (with_reducible refine Below.drew ?_))) ?_; intro v' w' ho' hg' hk' hb'; have HO' := Lib.hid ho'; have HG' := Lib.hid hg'; have HK' := Lib.hid hk'; have HB' := Lib.hid hb'; clear ho' hg' hk' hb'))
                go_roundw
                case rel => exact ⟨q + 1, r ++ [y], by omega, by go_num, HB'.out, by rw [← vcells_snoc]; exact HO'.out, by rw [List.length_append, HRL.out]; rfl, fun z hz => by
                  rcases List.mem_append.1 hz with h | h
                  · exact HRS.out z h
                  · simp at h; subst h; exact HYs.out, HEnd.out⟩
                case measure => simp [intOf]; omega
          · have hge : ¬ (q : Int) < (m : Int) + 1 := by omega
            have HF : Hid (rowIn l = some r) := Lib.hid (by rw [HS.out, List.drop_of_length_le (by rw [List.length_take]; omega)]; simp [vals])
            go_wp2
            go_ret2
            exact ⟨HB.out, by rw [HF.out]; exact ⟨_, rfl, (Xo.lives_own HO.out (by simp)).imp fun W h => RowAt.own h fun x hx => Nat.le_trans (HRS.out x hx) (by unfold maxLen; omega)⟩⟩
end Go.Proofs.YtmoippbmnanajaaGreatDoor
