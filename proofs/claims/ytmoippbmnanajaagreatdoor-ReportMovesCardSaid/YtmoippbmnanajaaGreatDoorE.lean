/- Walks: the reference's Is, may, Compare, Test, Truth. -/
import Derived.Test.YtmoippbmnanajaaGreatDoorD
set_option linter.unusedSimpArgs false
set_option linter.unusedVariables false
namespace Go.Proofs.YtmoippbmnanajaaGreatDoor
open Go.RowKit

theorem byte_zero (c : UInt8) : ((c.toNat : Int) == 0) = (c == 0) := by
  rw [Bool.eq_iff_iff]; simp only [beq_iff_eq]
  constructor
  · intro h; exact UInt8.toNat_inj.1 (by simpa using h)
  · intro h; subst h; rfl
theorem take_contains (l : List UInt8) (k : Nat) (h : k < l.length) (c : UInt8) : (l.take (k + 1)).contains c = ((l.take k).contains c || l[k] == c) := by
  rw [List.take_succ_eq_append_getElem h, List.contains_append]
  congr 1
  rw [Bool.eq_iff_iff]
  simp only [List.contains_cons, List.contains_nil, Bool.or_false, beq_iff_eq]
  exact eq_comm
theorem is3 (i : Int) (l : List UInt8) : P6.isV 3 i l = (i == 0 && decide (l.length ≤ 40) && !l.contains 0) := rfl
theorem contains_at (l : List UInt8) (k : Nat) (h : k < l.length) (c : UInt8) (e : l[k] = c) : l.contains c = true := by
  rw [List.contains_eq_mem, decide_eq_true_eq, ← e]; exact List.getElem_mem h

set_option maxRecDepth 100000 in
set_option maxHeartbeats 2000000 in
theorem refIs_any (k i : Int) (s : ByteArray) (w : World) (hs : s.size ≤ maxLen) :
    Calls Tryz.prog 27 #[vv k i s] w fun e w' => e = .returned (.bool (P6.isV k i s.data.toList)) ∧ Below w.heap.size w w' := by
  unfold maxLen at hs
  by_cases h0 : k = 0
  · subst h0
    go_enter Tryz.func27, Tryz.ntmps27
    go_wp2
    all_goals
      go_ret
      refine ⟨retB ?_, (by repeat (first | with_reducible exact Below.refl _ _ | ((with_reducible refine Below.setCell ?_ ?_ _); rotate_left; exact (by (try simp only [World.size_alloc, Xk.exw_size, World.size_setCell, World.size_drew, World.heap_drewN]); omega)) | ((with_reducible refine Below.alloc ?_ ?_ _); rotate_left; exact (by (try simp only [World.size_alloc, Xk.exw_size, World.size_setCell, World.size_drew, World.heap_drewN]); omega)) | ((with_reducible refine Xk.below_exw ?_ ?_ _); rotate_left; exact (by (try simp only [World.size_alloc, Xk.exw_size, World.size_setCell, World.size_drew, World.heap_drewN]); omega)) | (with_reducible refine Below.drew ?_)))⟩
      go_light
      simp_all [P6.isV, ByteArray.toList_eq]
  by_cases h1 : k = 1
  · subst h1
    go_enter Tryz.func27, Tryz.ntmps27
    go_wp2
    all_goals
      go_ret
      refine ⟨retB ?_, (by repeat (first | with_reducible exact Below.refl _ _ | ((with_reducible refine Below.setCell ?_ ?_ _); rotate_left; exact (by (try simp only [World.size_alloc, Xk.exw_size, World.size_setCell, World.size_drew, World.heap_drewN]); omega)) | ((with_reducible refine Below.alloc ?_ ?_ _); rotate_left; exact (by (try simp only [World.size_alloc, Xk.exw_size, World.size_setCell, World.size_drew, World.heap_drewN]); omega)) | ((with_reducible refine Xk.below_exw ?_ ?_ _); rotate_left; exact (by (try simp only [World.size_alloc, Xk.exw_size, World.size_setCell, World.size_drew, World.heap_drewN]); omega)) | (with_reducible refine Below.drew ?_)))⟩
      go_light
      simp_all [P6.isV, ByteArray.toList_eq]
  by_cases h2 : k = 2
  · subst h2
    go_enter Tryz.func27, Tryz.ntmps27
    go_wp2
    all_goals
      go_ret
      refine ⟨retB ?_, (by repeat (first | with_reducible exact Below.refl _ _ | ((with_reducible refine Below.setCell ?_ ?_ _); rotate_left; exact (by (try simp only [World.size_alloc, Xk.exw_size, World.size_setCell, World.size_drew, World.heap_drewN]); omega)) | ((with_reducible refine Below.alloc ?_ ?_ _); rotate_left; exact (by (try simp only [World.size_alloc, Xk.exw_size, World.size_setCell, World.size_drew, World.heap_drewN]); omega)) | ((with_reducible refine Xk.below_exw ?_ ?_ _); rotate_left; exact (by (try simp only [World.size_alloc, Xk.exw_size, World.size_setCell, World.size_drew, World.heap_drewN]); omega)) | (with_reducible refine Below.drew ?_)))⟩
      go_light
      simp_all [P6.isV, ByteArray.toList_eq]
  by_cases h3 : k = 3
  · subst h3
    clear h0 h1 h2
    go_enter Tryz.func27, Tryz.ntmps27
    go_wp2
    go_loop [3] (fun x => ∃ q : Nat, q ≤ s.size ∧ x = .int .i64 q ∧ (s.data.toList.take q).contains 0 = false) (fun x => s.size - (intOf x).toNat)
    case atStart => exact ⟨0, Nat.zero_le _, rfl, by simp⟩
    case round =>
      obtain ⟨q, hq, rfl, hz⟩ := hrel
      have Hz := Lib.hid hz
      clear hz
      by_cases hlt : q < s.size
      · have hl : q < s.data.toList.length := hlt
        have ht := take_contains s.data.toList q hl 0
        have Ht := Lib.hid ht
        clear ht
        by_cases hc : s[q] = 0
        · have hb : ((s[q].toNat : Int) == 0) = true := by rw [byte_zero]; simpa using hc
          have Hc := Lib.hid (contains_at s.data.toList q hl 0 hc)
          clear hc
          go_wp2
          go_ret
          refine ⟨retB ?_, (by repeat (first | with_reducible exact Below.refl _ _ | ((with_reducible refine Below.setCell ?_ ?_ _); rotate_left; exact (by (try simp only [World.size_alloc, Xk.exw_size, World.size_setCell, World.size_drew, World.heap_drewN]); omega)) | ((with_reducible refine Below.alloc ?_ ?_ _); rotate_left; exact (by (try simp only [World.size_alloc, Xk.exw_size, World.size_setCell, World.size_drew, World.heap_drewN]); omega)) | ((with_reducible refine Xk.below_exw ?_ ?_ _); rotate_left; exact (by (try simp only [World.size_alloc, Xk.exw_size, World.size_setCell, World.size_drew, World.heap_drewN]); omega)) | (with_reducible refine Below.drew ?_)))⟩
          have := Hc.out
          rw [is3, this]; simp
        · have hb : ((s[q].toNat : Int) == 0) = false := by rw [byte_zero]; simpa using hc
          have Hc : Hid (s.data.toList[q] ≠ 0) := hc
          clear hc
          go_wp2
          go_round
          case rel => exact ⟨q + 1, by omega, by go_num, by rw [Ht.out, Hz.out]; simpa using Hc.out⟩
          case measure => simp [intOf]; omega
      · have Hc : Hid (s.data.toList.contains 0 = false) := by
          have h := Hz.out
          rwa [List.take_of_length_le (by show s.data.toList.length ≤ q; exact Nat.le_of_not_lt hlt)] at h
        go_wp2
        all_goals
          go_ret
          refine ⟨retB ?_, (by repeat (first | with_reducible exact Below.refl _ _ | ((with_reducible refine Below.setCell ?_ ?_ _); rotate_left; exact (by (try simp only [World.size_alloc, Xk.exw_size, World.size_setCell, World.size_drew, World.heap_drewN]); omega)) | ((with_reducible refine Below.alloc ?_ ?_ _); rotate_left; exact (by (try simp only [World.size_alloc, Xk.exw_size, World.size_setCell, World.size_drew, World.heap_drewN]); omega)) | ((with_reducible refine Xk.below_exw ?_ ?_ _); rotate_left; exact (by (try simp only [World.size_alloc, Xk.exw_size, World.size_setCell, World.size_drew, World.heap_drewN]); omega)) | (with_reducible refine Below.drew ?_)))⟩
          have hc := Hc.out
          have hz : s.data.toList.length = s.size := rfl
          go_light
          rw [is3, hc, hz]
          clear Hz Hc hc
          simp_all
          try omega
  · have b0 : (k == 0) = false := by simpa using h0
    have b1 : (k == 1) = false := by simpa using h1
    have b2 : (k == 2) = false := by simpa using h2
    have b3 : (k == 3) = false := by simpa using h3
    go_enter Tryz.func27, Tryz.ntmps27
    go_wp2
    go_ret
    exact ⟨retB (by simp [P6.isV, h0, h1, h2, h3]), (by repeat (first | with_reducible exact Below.refl _ _ | ((with_reducible refine Below.setCell ?_ ?_ _); rotate_left; exact (by (try simp only [World.size_alloc, Xk.exw_size, World.size_setCell, World.size_drew, World.heap_drewN]); omega)) | ((with_reducible refine Below.alloc ?_ ?_ _); rotate_left; exact (by (try simp only [World.size_alloc, Xk.exw_size, World.size_setCell, World.size_drew, World.heap_drewN]); omega)) | ((with_reducible refine Xk.below_exw ?_ ?_ _); rotate_left; exact (by (try simp only [World.size_alloc, Xk.exw_size, World.size_setCell, World.size_drew, World.heap_drewN]); omega)) | (with_reducible refine Below.drew ?_)))⟩
theorem isV_right (k i : Int) (s : ByteArray) : P6.isV (rk k i s) (ri k i s) (rs k i s).data.toList = true := by
  cases h : P6.isV k i s.data.toList
  · have e1 : rk k i s = 0 := by simp [rk, h]
    have e2 : ri k i s = 0 := by simp [ri, h]
    have e3 : rs k i s = ⟨#[]⟩ := by simp [rs, h]
    rw [e1, e2, e3]; rfl
  · have e1 : rk k i s = k := by simp [rk, h]
    have e2 : ri k i s = i := by simp [ri, h]
    have e3 : rs k i s = s := by simp [rs, h]
    rw [e1, e2, e3]; exact h

/-- The reference's way of comparing comes to the same. -/
theorem cmp_ref {a b a' b' : Int} {c c' : List UInt8} (h : P6.isV a b c = true) (h' : P6.isV a' b' c' = true) :
    P6.orInt [P6.cmpInt a a', P6.cmpInt b b', P6.cmpStr c c'] =
      if (a < a' ∨ (a = a' ∧ (b < b' ∨ Op.bytesLess c c' = true))) then -1 else if a = a' ∧ b = b' ∧ c = c' then 0 else 1 := by
  by_cases h1 : a < a'
  · simp [P6.orInt, P6.cmpInt, h1]
  by_cases h2 : a' < a
  · have : a ≠ a' := by omega
    simp [P6.orInt, P6.cmpInt, h1, h2, this]
  have ha : a = a' := by omega
  subst ha
  have hv : c = [] ∧ c' = [] ∨ b = b' := by
    unfold P6.isV at h h'
    by_cases k0 : a = 0
    · rw [if_pos k0] at h h'; simp at h h'; exact .inl ⟨h.2, h'.2⟩
    rw [if_neg k0] at h h'
    by_cases k1 : a = 1
    · rw [if_pos k1] at h h'; simp at h h'; exact .inl ⟨h.2, h'.2⟩
    rw [if_neg k1] at h h'
    by_cases k2 : a = 2
    · rw [if_pos k2] at h h'; simp at h h'; exact .inl ⟨h, h'⟩
    rw [if_neg k2] at h h'
    by_cases k3 : a = 3
    · rw [if_pos k3] at h h'; simp at h h'; exact .inr (by omega)
    · rw [if_neg k3] at h; cases h
  rcases hv with ⟨rfl, rfl⟩ | rfl
  · by_cases h3 : b < b'
    · simp [P6.orInt, P6.cmpInt, h3]
    by_cases h4 : b' < b
    · have : b ≠ b' := by omega
      simp [P6.orInt, P6.cmpInt, h3, h4, this, Op.bytesLess]
    · have hb : b = b' := by omega
      subst hb
      simp [P6.orInt, P6.cmpInt, P6.cmpStr, Op.bytesLess]
  · cases h3 : Op.bytesLess c c'
    · by_cases h4 : c = c'
      · subst h4; simp [P6.orInt, P6.cmpInt, P6.cmpStr, h3]
      · simp [P6.orInt, P6.cmpInt, P6.cmpStr, h3, h4]
    · simp [P6.orInt, P6.cmpInt, P6.cmpStr, h3]

end Go.Proofs.YtmoippbmnanajaaGreatDoor
