/- Walks: pantilelaw25.fit. -/
import Derived.Test.YtmoippbmnanajaaGreatDoorSK
import Derived.Test.YtmoippbmnanajaaGreatDoorSI
set_option linter.unusedSimpArgs false
set_option linter.unusedVariables false
namespace Go.Proofs.YtmoippbmnanajaaGreatDoor
open Go.RowKit
theorem nameByte_true {c : UInt8} (h : nameByte c = true) : ¬ (c.toNat : Int) ≤ 32 ∧ ((c.toNat : Int) == 124) = false ∧ ((c.toNat : Int) == 45) = false ∧ ((c.toNat : Int) == 43) = false ∧ ((c.toNat : Int) == 39) = false ∧ ¬ 126 < (c.toNat : Int) := by
  simp only [nameByte, Bool.and_eq_true, Bool.not_eq_true', decide_eq_true_eq, decide_eq_false_iff_not] at h
  obtain ⟨⟨⟨⟨⟨h1, h2⟩, h3⟩, h4⟩, h5⟩, h6⟩ := h
  exact ⟨by omega, beq_eq_false_iff_ne.2 (by omega), beq_eq_false_iff_ne.2 (by omega), beq_eq_false_iff_ne.2 (by omega), beq_eq_false_iff_ne.2 (by omega), by omega⟩
theorem nameByte_false {c : UInt8} (h : nameByte c = false) : (c.toNat : Int) ≤ 32 ∨ (¬ (c.toNat : Int) ≤ 32 ∧ ((c.toNat : Int) == 124) = true) ∨ (¬ (c.toNat : Int) ≤ 32 ∧ ((c.toNat : Int) == 124) = false ∧ ((c.toNat : Int) == 45) = true) ∨
    (¬ (c.toNat : Int) ≤ 32 ∧ ((c.toNat : Int) == 124) = false ∧ ((c.toNat : Int) == 45) = false ∧ ((c.toNat : Int) == 43) = true) ∨
    (¬ (c.toNat : Int) ≤ 32 ∧ ((c.toNat : Int) == 124) = false ∧ ((c.toNat : Int) == 45) = false ∧ ((c.toNat : Int) == 43) = false ∧ ((c.toNat : Int) == 39) = true) ∨
    (¬ (c.toNat : Int) ≤ 32 ∧ ((c.toNat : Int) == 124) = false ∧ ((c.toNat : Int) == 45) = false ∧ ((c.toNat : Int) == 43) = false ∧ ((c.toNat : Int) == 39) = false ∧ 126 < (c.toNat : Int)) := by
  simp only [beq_iff_eq, beq_eq_false_iff_ne]
  by_cases h1 : (c.toNat : Int) ≤ 32
  · exact .inl h1
  by_cases h2 : (c.toNat : Int) = 124
  · exact .inr (.inl ⟨h1, h2⟩)
  by_cases h3 : (c.toNat : Int) = 45
  · exact .inr (.inr (.inl ⟨h1, h2, h3⟩))
  by_cases h4 : (c.toNat : Int) = 43
  · exact .inr (.inr (.inr (.inl ⟨h1, h2, h3, h4⟩)))
  by_cases h5 : (c.toNat : Int) = 39
  · exact .inr (.inr (.inr (.inr (.inl ⟨h1, h2, h3, h4, h5⟩))))
  by_cases h6 : 126 < (c.toNat : Int)
  · exact .inr (.inr (.inr (.inr (.inr ⟨h1, h2, h3, h4, h5, h6⟩))))
  · exfalso
    rw [← Bool.not_eq_true] at h
    apply h
    simp only [nameByte, Bool.and_eq_true, Bool.not_eq_true', decide_eq_true_eq, decide_eq_false_iff_not]
    exact ⟨⟨⟨⟨⟨by omega, by omega⟩, by omega⟩, by omega⟩, by omega⟩, by omega⟩
def textByte (c : UInt8) : Bool := !(c == 10) && !(c == 124)
theorem textByte_true {c : UInt8} (h : textByte c = true) : ((c.toNat : Int) == 10) = false ∧ ((c.toNat : Int) == 124) = false := by
  simp only [textByte, Bool.and_eq_true, Bool.not_eq_true', beq_eq_false_iff_ne] at h ⊢
  exact ⟨fun e => h.1 (UInt8.toNat_inj.1 (by have : (10 : UInt8).toNat = 10 := rfl; omega)), fun e => h.2 (UInt8.toNat_inj.1 (by have : (124 : UInt8).toNat = 124 := rfl; omega))⟩
theorem textByte_false {c : UInt8} (h : textByte c = false) : ((c.toNat : Int) == 10) = true ∨ (((c.toNat : Int) == 10) = false ∧ ((c.toNat : Int) == 124) = true) := by
  by_cases h1 : c = 10
  · subst h1; exact .inl rfl
  by_cases h2 : c = 124
  · subst h2; exact .inr ⟨rfl, rfl⟩
  · simp [textByte, h1, h2] at h
def fitNames (names : List (List UInt8)) (n : Int) : Bool := (names.all fun x => !x.isEmpty && nameOk x) && decide (n = 0)
theorem bool_ret {b c : Bool} (h : b = c) : Ending.returned (.bool b) = Ending.returned (.bool c) := by rw [h]
set_option maxRecDepth 100000 in
set_option maxHeartbeats 8000000 in
theorem fit_any (vc vr : Value) (names : List (List UInt8)) (L : List (List V)) (cnt : Int) (w : World) (hc : StrsAt w vc names) (hr : RowsAt w vr L) (hn : names.length ≤ maxLen) (hL : L.length ≤ maxLen)
    (hm : ∀ x ∈ names, x.length ≤ maxLen) (hl : ∀ r ∈ L, r.length ≤ maxLen) :
    Calls Tryz.prog 12 #[.agg #[vc, vr, .int .i64 cnt]] w fun e w' => e = .returned (.bool (fitA ⟨names, L, cnt⟩)) ∧ Below w.heap.size w w' := by
  obtain ⟨pc, cc, rfl, hc'⟩ := hc.parts
  obtain ⟨pr, cr, rfl, hr'⟩ := hr.parts
  have HC := Lib.hid hc'
  have HR := Lib.hid hr'
  have HL := Lib.hid hl
  have HM := Lib.hid hm
  unfold maxLen at hn hL
  by_cases hz : names = []
  · have HF : Hid (fitA ⟨names, L, cnt⟩ = ((L.length : Int) == 0)) := Lib.hid (by
      unfold fitA
      rw [if_pos hz]
      cases L <;> simp
      omega)
    have hlen : names.length = 0 := by rw [hz]; rfl
    rw [hlen]
    clear hc hr hc' hr' hl hm hz HC HR HL HM
    go_enter Tryz.func12, Tryz.ntmps12
    go_wp2
    go_ret
    exact ⟨by rw [HF.out]; rfl, (by repeat (first | with_reducible exact Below.refl _ _ | ((with_reducible refine Below.setCell ?_ ?_ _); rotate_left; exact (by (try simp only [World.size_alloc, Xk.exw_size, World.size_setCell, World.size_drew, World.heap_drewN]); omega)) | ((with_reducible refine Below.alloc ?_ ?_ _); rotate_left; exact (by (try simp only [World.size_alloc, Xk.exw_size, World.size_setCell, World.size_drew, World.heap_drewN]); omega)) | ((with_reducible refine Xk.below_exw ?_ ?_ _); rotate_left; exact (by (try simp only [World.size_alloc, Xk.exw_size, World.size_setCell, World.size_drew, World.heap_drewN]); omega)) | (with_reducible refine Below.drew ?_)))⟩
  have HF : Hid (fitA ⟨names, L, cnt⟩ = ((names.all fun x => !x.isEmpty && nameOk x) && decide (cnt = 0) && L.all (rowOk names.length))) := Lib.hid (by unfold fitA; rw [if_neg hz])
  have hnz : ((names.length : Int) == 0) = false := beq_eq_false_iff_ne.2 fun e => hz (List.eq_nil_of_length_eq_zero (by omega))
  have hpos : 0 < names.length := List.length_pos_iff.2 hz
  generalize fitA ⟨names, L, cnt⟩ = F at HF
  clear hc hr hc' hr' hl hm hz
  go_enter Tryz.func12, Tryz.ntmps12
  go_wp2
  generalize hW0 : w.alloc _ = W0
  have hx0 : Xk.Ext w W0 := by subst hW0; exact ext_alloc _ _
  have k0 : W0.cell? ⟨w.heap.size, 0, none⟩ = some (.slice pc names.length cc) := by subst hW0; go_simp
  have k1 : W0.cell? ⟨w.heap.size, 1, none⟩ = some (.slice pr L.length cr) := by subst hW0; go_simp
  have k2 : W0.cell? ⟨w.heap.size, 2, none⟩ = some (.int .i64 cnt) := by subst hW0; go_simp
  have lt0 : w.heap.size < W0.heap.size := by subst hW0; go_simp
  have HX0 := Lib.hid hx0
  have K0 := Lib.hid k0
  have K1 := Lib.hid k1
  have K2 := Lib.hid k2
  clear hW0 hx0 k0 k1 k2
  go_loopw [3] (fun x wr => ∃ q : Nat, q ≤ names.length ∧ x = .int .i64 q ∧ Below W0.heap.size W0 wr ∧ Hid (∀ (j : Nat) y, j < q → names[j]? = some y → (!y.isEmpty && nameOk y) = true) ∧ Hid (0 < q → cnt = 0)) (fun x _ => names.length - (intOf x).toNat)
  case atStart => exact ⟨0, Nat.zero_le _, rfl, Below.refl _ _, Lib.hid fun j y hj => by omega, Lib.hid fun h => by omega⟩
  case round =>
    obtain ⟨q, hq, rfl, hbw, HN, HQ⟩ := hrel
    have HB := Lib.hid hbw
    have m0 := Xk.ext_cell hbw K0.out
    have m1 := Xk.ext_cell hbw K1.out
    have m2 := Xk.ext_cell hbw K2.out
    have hsz := hbw.size
    have lw : w.heap.size < wr.heap.size := by omega
    clear hbw
    by_cases hlt : q < names.length
    · have hx : names[q]? = some (names[q]'hlt) := List.getElem?_eq_getElem _
      generalize names[q]'hlt = x at hx
      have HX := Lib.hid hx
      obtain ⟨b, off, rfl, d1⟩ := HC.out q _ hx
      have d1 := Xk.ext_cell (Xk.Ext.trans HX0.out HB.out) d1
      have l1 := World.block_lt_of_cell? _ _ d1
      have hxl := HM.out x (List.mem_of_getElem? hx)
      unfold maxLen at hxl
      clear hx
      have hqb : (q : Int) < (names.length : Int) := by omega
      by_cases hxe : x = []
      · subst hxe
        have Hf : Hid (F = false) := Lib.hid (by rw [HF.out, P25.all_false HX.out (by simp)]; rfl)
        go_wp2
        go_ret
        exact ⟨by rw [Hf.out]; rfl, Xk.Ext.trans HX0.out HB.out⟩
      · have hxne : (x == []) = false := by simpa using hxe
        have hxn2 : x.isEmpty = false := by simpa using hxe
        by_cases hcz : cnt = 0
        · have hcb : (cnt == 0) = true := by simpa using hcz
          have HCz := Lib.hid hcz
          clear hcz
          go_wp2
          clear m0 m1 m2 hsz lw d1 l1
          go_loopw [4] (fun y wr2 => ∃ k : Nat, k ≤ x.length ∧ y = .int .i64 k ∧ Below W0.heap.size W0 wr2 ∧ Hid (∀ (j : Nat) c, j < k → x[j]? = some c → nameByte c = true)) (fun y _ => x.length - (intOf y).toNat)
          case atStart => exact ⟨0, Nat.zero_le _, rfl, HB.out, Lib.hid fun j y hj => by omega⟩
          case round =>
            clear HB
            obtain ⟨k, hk, rfl, hbw, HNk⟩ := hrel
            have HB := Lib.hid hbw
            have m0 := Xk.ext_cell hbw K0.out
            have hsz := hbw.size
            have lw : w.heap.size < wr.heap.size := by omega
            obtain ⟨b', off', e', d1⟩ := HC.out q _ HX.out
            cases e'
            have d1 := Xk.ext_cell (Xk.Ext.trans HX0.out hbw) d1
            have l1 := World.block_lt_of_cell? _ _ d1
            clear hbw
            by_cases hkl : k < x.length
            · have hxk : x[k]? = some (x[k]'hkl) := List.getElem?_eq_getElem _
              have HXk := Lib.hid hxk
              have hkb : (k : Int) < (x.length : Int) := by omega
              have hbyte : ∀ h, (⟨x.toArray⟩ : ByteArray)[k]'h = x[k]'hkl := fun h => by
                show x.toArray[k]'h = _
                simp
              generalize x[k]'hkl = c at hxk HXk hbyte
              cases hcb2 : nameByte c
              · have Hf : Hid (F = false) := Lib.hid (by
                  have h1 : nameOk x = false := P25.all_false hxk hcb2
                  rw [HF.out, P25.all_false HX.out (by rw [h1, Bool.and_false])]; rfl)
                have hcs := nameByte_false hcb2
                clear hxk hcb2
                rcases hcs with h1 | ⟨h1, h2⟩ | ⟨h1, h2, h3⟩ | ⟨h1, h2, h3, h4⟩ | ⟨h1, h2, h3, h4, h5⟩ | ⟨h1, h2, h3, h4, h5, h6⟩
                all_goals
                  go_wp2
                  go_ret
                  exact ⟨by rw [Hf.out]; rfl, Xk.Ext.trans HX0.out HB.out⟩
              · obtain ⟨h1, h2, h3, h4, h5, h6⟩ := nameByte_true hcb2
                have HCb := Lib.hid hcb2
                clear hxk hcb2
                go_wp2
                go_roundw
                case rel => exact ⟨k + 1, by omega, by go_num, HB.out, Lib.hid fun j y hj hy => by
                  by_cases hjk : j = k
                  · subst hjk; rw [HXk.out] at hy; cases hy; exact HCb.out
                  · exact HNk.out j y (by omega) hy⟩
                case measure => simp [intOf]; omega
            · have hok : (!x.isEmpty && nameOk x) = true := by
                rw [hxn2]
                exact P25.all_true fun j y hy => HNk.out j y (by have := (List.getElem?_eq_some_iff.1 hy).1; omega) hy
              have HOk := Lib.hid hok
              clear hok
              go_wp2
              go_roundw
              case rel => exact ⟨q + 1, by omega, by go_num, HB.out, Lib.hid fun j y hj hy => by
                by_cases hjq : j = q
                · subst hjq; rw [HX.out] at hy; cases hy; exact HOk.out
                · exact HN.out j y (by omega) hy, Lib.hid fun _ => HCz.out⟩
              case measure => simp [intOf]; omega
        · have hcb : (cnt == 0) = false := by simpa using hcz
          have Hf : Hid (F = false) := Lib.hid (by rw [HF.out, decide_eq_false hcz]; simp)
          go_wp2
          go_ret
          exact ⟨by rw [Hf.out]; rfl, Xk.Ext.trans HX0.out HB.out⟩
    · have hnall : (names.all fun x => !x.isEmpty && nameOk x) = true := P25.all_true fun j y hy => HN.out j y (by have := (List.getElem?_eq_some_iff.1 hy).1; omega) hy
      have hcz : cnt = 0 := HQ.out (by omega)
      have HF2 : Hid (F = L.all (rowOk names.length)) := Lib.hid (by rw [HF.out, hnall, hcz]; simp)
      have hqn : ¬ (q : Int) < (names.length : Int) := by omega
      clear hnall hcz HN HQ HF
      go_wp2
      clear m0 m1 m2 hsz lw
      go_loopw [6] (fun y wr2 => ∃ r : Nat, r ≤ L.length ∧ y = .int .i64 r ∧ Below W0.heap.size W0 wr2 ∧ Hid (∀ (j : Nat) l, j < r → L[j]? = some l → rowOk names.length l = true)) (fun y _ => L.length - (intOf y).toNat)
      case atStart => exact ⟨0, Nat.zero_le _, rfl, HB.out, Lib.hid fun j y hj => by omega⟩
      case round =>
        clear HB
        obtain ⟨r, hrL, rfl, hbw, HN⟩ := hrel
        have HB := Lib.hid hbw
        have m0 := Xk.ext_cell hbw K0.out
        have m1 := Xk.ext_cell hbw K1.out
        have hsz := hbw.size
        have lw : w.heap.size < wr.heap.size := by omega
        by_cases hlr : r < L.length
        · have hx : L[r]? = some (L[r]'hlr) := List.getElem?_eq_getElem _
          generalize L[r]'hlr = l at hx
          have HX := Lib.hid hx
          have hll := HL.out l (List.mem_of_getElem? hx)
          unfold maxLen at hll
          obtain ⟨b, off, u, rfl, d1, hrow⟩ := HR.out r _ hx
          obtain ⟨pa, ca, rfl, hrow'⟩ := hrow
          have D1 := Lib.hid (Xk.ext_cell HX0.out d1)
          have d1 := Xk.ext_cell (Xk.Ext.trans HX0.out hbw) d1
          have l1 := World.block_lt_of_cell? _ _ d1
          have HROW := Lib.hid hrow'
          have hrb : (r : Int) < (L.length : Int) := by omega
          clear hbw hx hrow'
          by_cases hln : l.length = names.length
          · have hlnb : ((l.length : Int) == (names.length : Int)) = true := beq_iff_eq.2 (by omega)
            have hlnn : ¬ (l.length : Int) ≠ (names.length : Int) := by omega
            go_wp2
            refine Xk.wp_region_rel' 9 [] trivial (by kernel_rfl) (by kernel_rfl) ?_
            simp only [List.take_succ_cons, List.take_zero, List.drop_succ_cons, List.drop_zero]
            repeat (first
              | (refine Xk.rel_det (Xk.wanted_none (by rfl)) (by rfl) (fun K hK => ?_); apply Exists.intro; refine ⟨fun p hp => ?_, ?_⟩; (go_simp; first | exact ⟨rfl, rfl⟩ | ((try refine ⟨by kernel_rfl, ?_⟩); (fail))); (go_simp; refine hK _ ?_; clear hK K))
              | (refine Xk.rel_skip (by rfl) (fun K hK => ?_); go_simp; refine hK _ ?_; clear hK K)
              | (refine Xk.rel_det (by rfl) (by rfl) (fun K hK => ?_); apply Exists.intro; refine ⟨fun p hp => ?_, ?_⟩; (go_simp; first | exact ⟨rfl, rfl⟩ | ((try refine ⟨by kernel_rfl, ?_⟩); (fail))); (go_simp; refine hK _ ?_; clear hK K)))
            refine Xk.rel_nil (fun p _ => ?_)
            go_wp2
            clear m0 m1 hsz lw d1 l1
            go_loopw [7] (fun y wr2 => ∃ k : Nat, k ≤ l.length ∧ y = .int .i64 k ∧ Below W0.heap.size W0 wr2 ∧ Hid (∀ (j : Nat) x, j < k → l[j]? = some x → (isX x && textOk x) = true)) (fun y _ => l.length - (intOf y).toNat)
            case atStart => (have hsz0 := HB.out.size; exact ⟨0, Nat.zero_le _, rfl, (by repeat (first | with_reducible exact HB.out | with_reducible exact Below.refl _ _ | ((with_reducible refine Below.setCell ?_ ?_ _); rotate_left; exact (by (try simp only [World.size_alloc, Xk.exw_size, World.size_setCell, World.size_drew, World.heap_drewN]); omega)) | ((with_reducible refine Below.alloc ?_ ?_ _); rotate_left; exact (by (try simp only [World.size_alloc, Xk.exw_size, World.size_setCell, World.size_drew, World.heap_drewN]); omega)) | ((with_reducible refine Xk.below_exw ?_ ?_ _); rotate_left; exact (by (try simp only [World.size_alloc, Xk.exw_size, World.size_setCell, World.size_drew, World.heap_drewN]); omega)) | (with_reducible refine Below.drew ?_))), Lib.hid fun j y hj => by omega⟩)
            case round =>
              clear HB
              obtain ⟨k, hk, rfl, hbw, HNk⟩ := hrel
              have HB := Lib.hid hbw
              have m1 := Xk.ext_cell hbw K1.out
              have hsz := hbw.size
              have lw : w.heap.size < wr.heap.size := by omega
              have d1 := Xk.ext_cell hbw D1.out
              have l1 := World.block_lt_of_cell? _ _ d1
              by_cases hkl : k < l.length
              · have hxk : l[k]? = some (l[k]'hkl) := List.getElem?_eq_getElem _
                generalize l[k]'hkl = x at hxk
                have HXk := Lib.hid hxk
                have hkb : (k : Int) < (l.length : Int) := by omega
                obtain ⟨b4, o4, rfl, g1, g2, g3, g5⟩ := HROW.out k x hxk
                have hxw := Xk.Ext.trans HX0.out hbw
                have g1 := Xk.ext_cell hxw g1
                have g2 := Xk.ext_cell hxw g2
                have g3 := Xk.ext_cell hxw g3
                have l4 := World.block_lt_of_cell? _ _ g1
                have hI := fun W => refIs_any x.k x.i x.s W g5
                rw [show P6.isV x.k x.i x.s.data.toList = isX x from rfl] at hI
                have Hxs := Lib.hid g5
                clear hbw hxk hxw g5
                cases hix : isX x
                · rw [hix] at hI
                  have HI := Lib.hid hI
                  have Hf : Hid (F = false) := Lib.hid (by
                    have h1 : rowOk names.length l = false := by
                      unfold rowOk
                      rw [P25.all_false HXk.out (by rw [hix]; rfl), Bool.and_false]
                    rw [HF2.out, P25.all_false HX.out h1])
                  clear hI hix
                  go_wp2_with (first | (go_at_call 27; (with_reducible refine (HI.out _).mono ?_); rintro e w' ⟨rfl, hb⟩; obtain ⟨p, rfl⟩ := Xk.exw_of hb; clear hb))
                  go_ret
                  exact ⟨by rw [Hf.out]; rfl, Xk.Ext.trans HX0.out (by repeat (first | with_reducible exact HB.out | with_reducible exact Below.refl _ _ | ((with_reducible refine Below.setCell ?_ ?_ _); rotate_left; exact (by (try simp only [World.size_alloc, Xk.exw_size, World.size_setCell, World.size_drew, World.heap_drewN]); omega)) | ((with_reducible refine Below.alloc ?_ ?_ _); rotate_left; exact (by (try simp only [World.size_alloc, Xk.exw_size, World.size_setCell, World.size_drew, World.heap_drewN]); omega)) | ((with_reducible refine Xk.below_exw ?_ ?_ _); rotate_left; exact (by (try simp only [World.size_alloc, Xk.exw_size, World.size_setCell, World.size_drew, World.heap_drewN]); omega)) | (with_reducible refine Below.drew ?_)))⟩
                · rw [hix] at hI
                  have HI := Lib.hid hI
                  have HIx := Lib.hid hix
                  clear hI hix
                  go_wp2_with (first | (go_at_call 27; (with_reducible refine (HI.out _).mono ?_); rintro e w' ⟨rfl, hb⟩; obtain ⟨p, rfl⟩ := Xk.exw_of hb; clear hb))
                  generalize hW1 : Xk.exw _ _ = W1
                  have hx1 : Xk.Ext wr W1 := by subst hW1; exact (by repeat (first | with_reducible exact Below.refl _ _ | ((with_reducible refine Below.setCell ?_ ?_ _); rotate_left; exact (by (try simp only [World.size_alloc, Xk.exw_size, World.size_setCell, World.size_drew, World.heap_drewN]); omega)) | ((with_reducible refine Below.alloc ?_ ?_ _); rotate_left; exact (by (try simp only [World.size_alloc, Xk.exw_size, World.size_setCell, World.size_drew, World.heap_drewN]); omega)) | ((with_reducible refine Xk.below_exw ?_ ?_ _); rotate_left; exact (by (try simp only [World.size_alloc, Xk.exw_size, World.size_setCell, World.size_drew, World.heap_drewN]); omega)) | (with_reducible refine Below.drew ?_)))
                  have q2 : W1.cell? ⟨wr.heap.size, 2, none⟩ = some (.string x.s) := by subst hW1; go_simp
                  have HB1 := Lib.hid (Xk.Ext.trans HB.out hx1)
                  have Q2 := Lib.hid q2
                  have lt1 : wr.heap.size < W1.heap.size := World.block_lt_of_cell? _ _ q2
                  clear hW1 hx1 q2
                  obtain ⟨xk, xi, ⟨xs⟩⟩ := x
                  obtain ⟨s, rfl⟩ : ∃ s : List UInt8, xs = s.toArray := ⟨xs.toList, by simp⟩
                  have hsl : s.length ≤ 9223372036854775807 := by have := Hxs.out; unfold maxLen at this; simpa [ByteArray.size] using this
                  dsimp only at g1 g2 g3 Q2 HXk HIx
                  clear m1 hsz lw d1 l1 g1 g2 g3 l4 Hxs
                  obtain ⟨W2, rfl⟩ : ∃ W2, W2 = wr := ⟨wr, rfl⟩
                  go_loopw [9] (fun y wr2 => ∃ i : Nat, i ≤ s.length ∧ y = .int .i64 i ∧ Below W1.heap.size W1 wr2 ∧ Hid (∀ (j : Nat) c, j < i → s[j]? = some c → textByte c = true)) (fun y _ => s.length - (intOf y).toNat)
                  case atStart => exact ⟨0, Nat.zero_le _, rfl, Below.refl _ _, Lib.hid fun j y hj => by omega⟩
                  case round =>
                    obtain ⟨i, hi, rfl, hbw, HNi⟩ := hrel
                    have HB2 := Lib.hid (Xk.Ext.trans HB1.out hbw)
                    have HBi := Lib.hid hbw
                    have q2 := Xk.ext_cell hbw Q2.out
                    have lt2 := World.block_lt_of_cell? _ _ q2
                    clear hbw
                    by_cases hil : i < s.length
                    · have hxi : s[i]? = some (s[i]'hil) := List.getElem?_eq_getElem _
                      have HXi := Lib.hid hxi
                      have hib : (i : Int) < (s.length : Int) := by omega
                      have hbyte : ∀ h, (⟨s.toArray⟩ : ByteArray)[i]'h = s[i]'hil := fun h => by
                        show s.toArray[i]'h = _
                        simp
                      generalize s[i]'hil = c at hxi HXi hbyte
                      cases hcb2 : textByte c
                      · have Hf : Hid (F = false) := Lib.hid (by
                          have h0 : textOk ⟨xk, xi, ⟨s.toArray⟩⟩ = false := P25.all_false (l := s) (p := textByte) hxi hcb2
                          have h1 : rowOk names.length l = false := by
                            unfold rowOk
                            rw [P25.all_false HXk.out (by rw [h0, Bool.and_false]), Bool.and_false]
                          rw [HF2.out, P25.all_false HX.out h1])
                        have hcs := textByte_false hcb2
                        clear hxi hcb2
                        rcases hcs with h1 | ⟨h1, h2⟩
                        all_goals
                          go_wp2
                          go_ret
                          exact ⟨by rw [Hf.out]; rfl, Xk.Ext.trans HX0.out HB2.out⟩
                      · obtain ⟨h1, h2⟩ := textByte_true hcb2
                        have HCb := Lib.hid hcb2
                        clear hxi hcb2
                        go_wp2
                        go_roundw
                        case rel => exact ⟨i + 1, by omega, by go_num, HBi.out, Lib.hid fun j y hj hy => by
                          by_cases hjk : j = i
                          · subst hjk; rw [HXi.out] at hy; cases hy; exact HCb.out
                          · exact HNi.out j y (by omega) hy⟩
                        case measure => simp [intOf]; omega
                    · have hok : (isX ⟨xk, xi, ⟨s.toArray⟩⟩ && textOk ⟨xk, xi, ⟨s.toArray⟩⟩) = true := by
                        rw [HIx.out, Bool.true_and]
                        exact P25.all_true (l := s) (p := textByte) fun j y hy => HNi.out j y (by have := (List.getElem?_eq_some_iff.1 hy).1; omega) hy
                      have HOk := Lib.hid hok
                      clear hok
                      go_wp2
                      go_roundw
                      case rel => exact ⟨k + 1, by omega, by go_num, HB2.out, Lib.hid fun j y hj hy => by
                        by_cases hjq : j = k
                        · subst hjq; rw [HXk.out] at hy; cases hy; exact HOk.out
                        · exact HNk.out j y (by omega) hy⟩
                      case measure => simp [intOf]; omega
              · have hok : rowOk names.length l = true := by
                  unfold rowOk
                  rw [decide_eq_true hln, Bool.true_and]
                  exact P25.all_true fun j y hy => HNk.out j y (by have := (List.getElem?_eq_some_iff.1 hy).1; omega) hy
                have HOk := Lib.hid hok
                clear hok hbw
                go_wp2
                go_roundw
                case rel => exact ⟨r + 1, by omega, by go_num, HB.out, Lib.hid fun j y hj hy => by
                  by_cases hjq : j = r
                  · subst hjq; rw [HX.out] at hy; cases hy; exact HOk.out
                  · exact HN.out j y (by omega) hy⟩
                case measure => simp [intOf]; omega
          · have hlnb : ((l.length : Int) == (names.length : Int)) = false := beq_eq_false_iff_ne.2 (by omega)
            have hlnn : (l.length : Int) ≠ (names.length : Int) := by omega
            have Hf : Hid (F = false) := Lib.hid (by rw [HF2.out, P25.all_false HX.out (by simp [rowOk, hln])])
            go_wp2
            refine Xk.wp_region_rel' 9 [] trivial (by kernel_rfl) (by kernel_rfl) ?_
            simp only [List.take_succ_cons, List.take_zero, List.drop_succ_cons, List.drop_zero]
            repeat (first
              | (refine Xk.rel_det (Xk.wanted_none (by rfl)) (by rfl) (fun K hK => ?_); apply Exists.intro; refine ⟨fun p hp => ?_, ?_⟩; (go_simp; first | exact ⟨rfl, rfl⟩ | ((try refine ⟨by kernel_rfl, ?_⟩); (fail))); (go_simp; refine hK _ ?_; clear hK K))
              | (refine Xk.rel_skip (by rfl) (fun K hK => ?_); go_simp; refine hK _ ?_; clear hK K)
              | (refine Xk.rel_det (by rfl) (by rfl) (fun K hK => ?_); apply Exists.intro; refine ⟨fun p hp => ?_, ?_⟩; (go_simp; first | exact ⟨rfl, rfl⟩ | ((try refine ⟨by kernel_rfl, ?_⟩); (fail))); (go_simp; refine hK _ ?_; clear hK K)))
            refine Xk.rel_nil (fun p _ => ?_)
            go_wp2
            go_ret
            exact ⟨by rw [Hf.out]; rfl, Xk.Ext.trans HX0.out (by repeat (first | with_reducible exact HB.out | with_reducible exact Below.refl _ _ | ((with_reducible refine Below.setCell ?_ ?_ _); rotate_left; exact (by (try simp only [World.size_alloc, Xk.exw_size, World.size_setCell, World.size_drew, World.heap_drewN]); omega)) | ((with_reducible refine Below.alloc ?_ ?_ _); rotate_left; exact (by (try simp only [World.size_alloc, Xk.exw_size, World.size_setCell, World.size_drew, World.heap_drewN]); omega)) | ((with_reducible refine Xk.below_exw ?_ ?_ _); rotate_left; exact (by (try simp only [World.size_alloc, Xk.exw_size, World.size_setCell, World.size_drew, World.heap_drewN]); omega)) | (with_reducible refine Below.drew ?_)))⟩
        · have hall : F = true := by rw [HF2.out]; exact P25.all_true fun j y hy => HN.out j y (by have := (List.getElem?_eq_some_iff.1 hy).1; omega) hy
          have Hf := Lib.hid hall
          clear hall hbw
          go_wp2
          go_ret
          exact ⟨by rw [Hf.out]; rfl, Xk.Ext.trans HX0.out HB.out⟩
end Go.Proofs.YtmoippbmnanajaaGreatDoor
