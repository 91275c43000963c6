/- Walks: the reference's signs. -/
import Derived.Test.YteipafoiogkdoaaDoorLY
set_option linter.unusedSimpArgs false
set_option linter.unusedVariables false
namespace P11
def ones : List UInt8 := [40, 41, 44, 46, 42, 61, 60, 62, 43, 45, 47, 37, 59]
def two (c d : UInt8) : Bool := (c == 60 && d == 62) || (c == 60 && d == 61) || (c == 62 && d == 61) || (c == 124 && d == 124)
theorem ones_find (c : UInt8) (t : List UInt8) : (ones.map fun x => [x]).find? (fun x => x.isPrefixOf (c :: t)) = if c ∈ ones then some [c] else none := by
  unfold ones
  by_cases h : c ∈ ([40, 41, 44, 46, 42, 61, 60, 62, 43, 45, 47, 37, 59] : List UInt8)
  · rw [if_pos h]
    simp only [List.mem_cons, List.not_mem_nil, or_false] at h
    rcases h with rfl | rfl | rfl | rfl | rfl | rfl | rfl | rfl | rfl | rfl | rfl | rfl | rfl <;> simp [List.find?, List.isPrefixOf]
  · rw [if_neg h, List.find?_eq_none]
    intro x hx
    obtain ⟨y, hy, rfl⟩ := List.mem_map.1 hx
    simp only [List.isPrefixOf, Bool.and_true, beq_iff_eq]
    intro e; subst e; exact h hy
theorem signOf_one (c : UInt8) : signOf [c] = if c ∈ ones then some [c] else none := by
  rw [← ones_find c []]
  unfold signOf signs ones
  simp [List.find?, List.isPrefixOf]
theorem signOf_two {c d : UInt8} (r : List UInt8) (h : two c d = true) : signOf (c :: d :: r) = some [c, d] := by
  simp only [two, Bool.or_eq_true, Bool.and_eq_true, beq_iff_eq] at h
  rcases h with ((⟨rfl, rfl⟩ | ⟨rfl, rfl⟩) | ⟨rfl, rfl⟩) | ⟨rfl, rfl⟩ <;> simp [signOf, signs, List.find?, List.isPrefixOf]
theorem signOf_not {c d : UInt8} (r : List UInt8) (h : two c d = false) : signOf (c :: d :: r) = if c ∈ ones then some [c] else none := by
  rw [← ones_find c (d :: r)]
  simp only [two, Bool.or_eq_false_iff, Bool.and_eq_false_iff, beq_eq_false_iff_ne] at h
  obtain ⟨⟨⟨h1, h2⟩, h3⟩, h4⟩ := h
  have p : ∀ x y : UInt8, (c ≠ x ∨ d ≠ y) → ¬ ([x, y].isPrefixOf (c :: d :: r) = true) := fun x y h => by
    simp only [List.isPrefixOf, Bool.and_true, Bool.and_eq_true, beq_iff_eq]
    rintro ⟨rfl, rfl⟩
    rcases h with h | h <;> exact h rfl
  unfold signOf signs ones
  rw [List.find?_cons_of_neg (p := fun x : List UInt8 => x.isPrefixOf (c :: d :: r)) (p 60 62 h1), List.find?_cons_of_neg (p := fun x : List UInt8 => x.isPrefixOf (c :: d :: r)) (p 60 61 h2), List.find?_cons_of_neg (p := fun x : List UInt8 => x.isPrefixOf (c :: d :: r)) (p 62 61 h3), List.find?_cons_of_neg (p := fun x : List UInt8 => x.isPrefixOf (c :: d :: r)) (p 124 124 h4)]
  rfl
end P11
namespace Go.Proofs.YteipafoiogkdoaaDoor
open Go.RowKit Go.Maps
theorem ext_two (s : ByteArray) (a : Nat) (h : a + 1 < s.size) : (s.extract a (a + 2)).toList = [s[a], s[a + 1]] := by
  rw [Lib.toList_data, Lib.extract_data, drop_at s a (by omega), drop_at s (a + 1) h, show a + 2 - a = 2 by omega]; rfl
theorem ext_one (s : ByteArray) (a : Nat) (h : a < s.size) : s.extract a (a + 1) = ⟨[s[a]].toArray⟩ := by
  apply bytes_eq
  rw [Lib.extract_data, drop_at s a h, show a + 1 - a = 1 by omega]; rfl
theorem ext_two' (s : ByteArray) (a : Nat) (h : a + 1 < s.size) : s.extract a (a + 2) = ⟨[s[a], s[a + 1]].toArray⟩ := by
  apply bytes_eq
  rw [Lib.extract_data, drop_at s a (by omega), drop_at s (a + 1) h, show a + 2 - a = 2 by omega]; rfl
theorem ret_str {a b : ByteArray} (h : a = b) : Ending.returned (.string a) = .returned (.string b) := by rw [h]
set_option maxRecDepth 100000 in
set_option maxHeartbeats 4000000 in
theorem refSign_two (s : ByteArray) (a : Nat) (ha : a + 1 < s.size) (hs : s.size ≤ 1000000) (h2 : P11.two s[a] s[a + 1] = true) (w : World) :
    Calls Tryd.prog 33 #[.string s, .int .i64 a] w fun e w' => e = .returned (.string ⟨[s[a], s[a + 1]].toArray⟩) ∧ w = w' := by
  have a2 : (a : Int) + 1 < (s.size : Int) := by omega
  have hx := ext_two s a ha
  have hy := ext_two' s a ha
  have HY := Lib.hid hy
  clear hy
  simp only [P11.two, Bool.or_eq_true, Bool.and_eq_true, beq_iff_eq] at h2
  rcases h2 with ((⟨e1, e2⟩ | ⟨e1, e2⟩) | ⟨e1, e2⟩) | ⟨e1, e2⟩
  all_goals
    rw [e1, e2] at hx HY
    rw [e1, e2]
    clear e1 e2
    go_enter Tryd.func33, Tryd.ntmps33
    go_wp2
    go_ret
    exact ⟨ret_str HY.out, rfl⟩
def oneR (c : UInt8) : ByteArray := if c ∈ P11.ones then ⟨[c].toArray⟩ else ⟨#[]⟩
set_option maxRecDepth 100000 in
set_option maxHeartbeats 8000000 in
theorem refSign_one (s : ByteArray) (a : Nat) (ha : a < s.size) (hs : s.size ≤ 1000000) (h2 : ∀ h : a + 1 < s.size, P11.two s[a] s[a + 1] = false) (w : World) :
    Calls Tryd.prog 33 #[.string s, .int .i64 a] w fun e w' => e = .returned (.string (oneR s[a])) ∧ w = w' := by
  have hy := ext_one s a ha
  have c8 : (s[a].toNat : Int) < 256 := by have := s[a].toNat_lt; omega
  by_cases hm : s[a] ∈ P11.ones
  · have HR : Hid (oneR s[a] = s.extract a (a + 1)) := Lib.hid (by rw [oneR, if_pos hm, hy])
    clear hy
    unfold P11.ones at hm
    simp only [List.mem_cons, List.not_mem_nil, or_false] at hm
    by_cases ha2 : a + 1 < s.size
    · have a2 : (a : Int) + 1 < (s.size : Int) := by omega
      have hx := ext_two s a ha2
      have h3 := h2 ha2
      simp only [P11.two, Bool.or_eq_false_iff, Bool.and_eq_false_iff, beq_eq_false_iff_ne] at h3
      have p : ∀ x y : UInt8, (s[a] ≠ x ∨ s[a + 1] ≠ y) → ¬ (s.extract a (a + 2)).toList = [x, y] ∧ ((s.extract a (a + 2)).toList == [x, y]) = false := fun x y h => by
        have : ¬ (s.extract a (a + 2)).toList = [x, y] := by
          rw [hx]; intro e; simp only [List.cons.injEq, and_true] at e
          rcases h with h | h
          · exact h e.1
          · exact h e.2
        exact ⟨this, by simpa using this⟩
      obtain ⟨p1, q1⟩ := p 60 62 h3.1.1.1
      obtain ⟨p2, q2⟩ := p 60 61 h3.1.1.2
      obtain ⟨p3, q3⟩ := p 62 61 h3.1.2
      obtain ⟨p4, q4⟩ := p 124 124 h3.2
      clear h3 p hx h2
      rcases hm with hc | hc | hc | hc | hc | hc | hc | hc | hc | hc | hc | hc | hc
      all_goals
        have hv : (s[a].toNat : Int) = _ := congrArg (fun c : UInt8 => (c.toNat : Int)) hc
        clear hc
        go_enter Tryd.func33, Tryd.ntmps33
        go_wp2
        go_ret
        exact ⟨by rw [HR.out]; rfl, rfl⟩
    · have a2 : ¬ (a : Int) + 1 < (s.size : Int) := by omega
      have a3 : (a : Int) + 1 ≤ (s.size : Int) := by omega
      clear h2
      rcases hm with hc | hc | hc | hc | hc | hc | hc | hc | hc | hc | hc | hc | hc
      all_goals
        have hv : (s[a].toNat : Int) = _ := congrArg (fun c : UInt8 => (c.toNat : Int)) hc
        clear hc
        go_enter Tryd.func33, Tryd.ntmps33
        go_wp2
        go_ret
        exact ⟨by rw [HR.out]; rfl, rfl⟩
  · have HR : Hid (oneR s[a] = ⟨#[]⟩) := Lib.hid (by rw [oneR, if_neg hm])
    clear hy
    have n40 : ((s[a].toNat : Int) == 40) = false := ne_byte (d := 40) (fun e => hm (by rw [e]; decide)) 40 rfl
    have n41 : ((s[a].toNat : Int) == 41) = false := ne_byte (d := 41) (fun e => hm (by rw [e]; decide)) 41 rfl
    have n44 : ((s[a].toNat : Int) == 44) = false := ne_byte (d := 44) (fun e => hm (by rw [e]; decide)) 44 rfl
    have n46 : ((s[a].toNat : Int) == 46) = false := ne_byte (d := 46) (fun e => hm (by rw [e]; decide)) 46 rfl
    have n42 : ((s[a].toNat : Int) == 42) = false := ne_byte (d := 42) (fun e => hm (by rw [e]; decide)) 42 rfl
    have n61 : ((s[a].toNat : Int) == 61) = false := ne_byte (d := 61) (fun e => hm (by rw [e]; decide)) 61 rfl
    have n60 : ((s[a].toNat : Int) == 60) = false := ne_byte (d := 60) (fun e => hm (by rw [e]; decide)) 60 rfl
    have n62 : ((s[a].toNat : Int) == 62) = false := ne_byte (d := 62) (fun e => hm (by rw [e]; decide)) 62 rfl
    have n43 : ((s[a].toNat : Int) == 43) = false := ne_byte (d := 43) (fun e => hm (by rw [e]; decide)) 43 rfl
    have n45 : ((s[a].toNat : Int) == 45) = false := ne_byte (d := 45) (fun e => hm (by rw [e]; decide)) 45 rfl
    have n47 : ((s[a].toNat : Int) == 47) = false := ne_byte (d := 47) (fun e => hm (by rw [e]; decide)) 47 rfl
    have n37 : ((s[a].toNat : Int) == 37) = false := ne_byte (d := 37) (fun e => hm (by rw [e]; decide)) 37 rfl
    have n59 : ((s[a].toNat : Int) == 59) = false := ne_byte (d := 59) (fun e => hm (by rw [e]; decide)) 59 rfl
    clear hm
    by_cases ha2 : a + 1 < s.size
    · have a2 : (a : Int) + 1 < (s.size : Int) := by omega
      have hx := ext_two s a ha2
      have h3 := h2 ha2
      simp only [P11.two, Bool.or_eq_false_iff, Bool.and_eq_false_iff, beq_eq_false_iff_ne] at h3
      have p : ∀ x y : UInt8, (s[a] ≠ x ∨ s[a + 1] ≠ y) → ¬ (s.extract a (a + 2)).toList = [x, y] ∧ ((s.extract a (a + 2)).toList == [x, y]) = false := fun x y h => by
        have : ¬ (s.extract a (a + 2)).toList = [x, y] := by
          rw [hx]; intro e; simp only [List.cons.injEq, and_true] at e
          rcases h with h | h
          · exact h e.1
          · exact h e.2
        exact ⟨this, by simpa using this⟩
      obtain ⟨p1, q1⟩ := p 60 62 h3.1.1.1
      obtain ⟨p2, q2⟩ := p 60 61 h3.1.1.2
      obtain ⟨p3, q3⟩ := p 62 61 h3.1.2
      obtain ⟨p4, q4⟩ := p 124 124 h3.2
      clear h3 p hx h2
      go_enter Tryd.func33, Tryd.ntmps33
      go_wp2
      go_ret
      exact ⟨by rw [HR.out]; rfl, rfl⟩
    · have a2 : ¬ (a : Int) + 1 < (s.size : Int) := by omega
      clear h2
      go_enter Tryd.func33, Tryd.ntmps33
      go_wp2
      go_ret
      exact ⟨by rw [HR.out]; rfl, rfl⟩
end Go.Proofs.YteipafoiogkdoaaDoor
