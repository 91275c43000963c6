/- Plain laws: comparing values is an order; no two values have one print. -/
import Derived.Test.YtmoippbmnanajaaGreatDoorP7
set_option linter.unusedSimpArgs false
set_option linter.unusedVariables false
namespace P6
open Go.Op (bytesLess)
open Go.Lib
/-- Three compared, the first that differs decides. -/
def cmp3 (a b : Int) (c : List UInt8) (a' b' : Int) (c' : List UInt8) : Int := orInt [cmpInt a a', cmpInt b b', cmpStr c c']
def lt3 (a b : Int) (c : List UInt8) (a' b' : Int) (c' : List UInt8) : Prop := a < a' ∨ a = a' ∧ (b < b' ∨ b = b' ∧ bytesLess c c' = true)
theorem cmp3_key (a b : Int) (c : List UInt8) (a' b' : Int) (c' : List UInt8) :
    (lt3 a b c a' b' c' ∧ cmp3 a b c a' b' c' = -1) ∨ ((a = a' ∧ b = b' ∧ c = c') ∧ cmp3 a b c a' b' c' = 0) ∨ (lt3 a' b' c' a b c ∧ cmp3 a b c a' b' c' = 1) := by
  unfold cmp3 lt3
  by_cases h1 : a < a'
  · exact .inl ⟨.inl h1, by simp [orInt, cmpInt, h1]⟩
  by_cases h2 : a' < a
  · exact .inr (.inr ⟨.inl h2, by simp [orInt, cmpInt, h1, h2]⟩)
  obtain rfl : a = a' := by omega
  by_cases h3 : b < b'
  · exact .inl ⟨.inr ⟨rfl, .inl h3⟩, by simp [orInt, cmpInt, h3]⟩
  by_cases h4 : b' < b
  · exact .inr (.inr ⟨.inr ⟨rfl, .inl h4⟩, by simp [orInt, cmpInt, h3, h4]⟩)
  obtain rfl : b = b' := by omega
  cases h5 : bytesLess c c'
  · by_cases h6 : c = c'
    · subst h6; exact .inr (.inl ⟨⟨rfl, rfl, rfl⟩, by simp [orInt, cmpInt, cmpStr, h5]⟩)
    · have h7 : bytesLess c' c = true := by
        cases h : bytesLess c' c
        · exact absurd (less_conn c c' h5 h) h6
        · rfl
      exact .inr (.inr ⟨.inr ⟨rfl, .inr ⟨rfl, h7⟩⟩, by simp [orInt, cmpInt, cmpStr, h5, h6]⟩)
  · exact .inl ⟨.inr ⟨rfl, .inr ⟨rfl, rfl⟩⟩, by simp [orInt, cmpInt, cmpStr, h5]⟩
theorem lt3_irrefl (a b : Int) (c : List UInt8) : ¬ lt3 a b c a b c := by
  rintro (h | ⟨_, h | ⟨_, h⟩⟩)
  · omega
  · omega
  · rw [less_irrefl] at h; cases h
theorem lt3_trans {a b : Int} {c : List UInt8} {a' b' : Int} {c' : List UInt8} {a'' b'' : Int} {c'' : List UInt8} (h : lt3 a b c a' b' c') (g : lt3 a' b' c' a'' b'' c'') : lt3 a b c a'' b'' c'' := by
  rcases h with h | ⟨rfl, h | ⟨rfl, h⟩⟩ <;> rcases g with g | ⟨rfl, g | ⟨rfl, g⟩⟩
  · exact .inl (by omega)
  · exact .inl (by omega)
  · exact .inl (by omega)
  · exact .inl (by omega)
  · exact .inr ⟨rfl, .inl (by omega)⟩
  · exact .inr ⟨rfl, .inl (by omega)⟩
  · exact .inl (by omega)
  · exact .inr ⟨rfl, .inl (by omega)⟩
  · exact .inr ⟨rfl, .inr ⟨rfl, less_trans _ _ _ h g⟩⟩
theorem lt3_asymm {a b : Int} {c : List UInt8} {a' b' : Int} {c' : List UInt8} (h : lt3 a b c a' b' c') (g : lt3 a' b' c' a b c) : False := lt3_irrefl _ _ _ (lt3_trans h g)
theorem cmp3_anti (a b : Int) (c : List UInt8) (a' b' : Int) (c' : List UInt8) : cmp3 a' b' c' a b c = - cmp3 a b c a' b' c' := by
  rcases cmp3_key a b c a' b' c' with ⟨h, e⟩ | ⟨⟨rfl, rfl, rfl⟩, e⟩ | ⟨h, e⟩
  · rcases cmp3_key a' b' c' a b c with ⟨g, f⟩ | ⟨⟨rfl, rfl, rfl⟩, f⟩ | ⟨g, f⟩
    · exact (lt3_asymm h g).elim
    · exact (lt3_irrefl _ _ _ h).elim
    · rw [e, f]; rfl
  · rw [e]; rfl
  · rcases cmp3_key a' b' c' a b c with ⟨g, f⟩ | ⟨⟨rfl, rfl, rfl⟩, f⟩ | ⟨g, f⟩
    · rw [e, f]
    · exact (lt3_irrefl _ _ _ h).elim
    · exact (lt3_asymm h g).elim
theorem cmp3_le_trans {a b : Int} {c : List UInt8} {a' b' : Int} {c' : List UInt8} {a'' b'' : Int} {c'' : List UInt8} (h : cmp3 a b c a' b' c' ≤ 0) (g : cmp3 a' b' c' a'' b'' c'' ≤ 0) : cmp3 a b c a'' b'' c'' ≤ 0 := by
  rcases cmp3_key a b c a' b' c' with ⟨h1, e⟩ | ⟨⟨rfl, rfl, rfl⟩, e⟩ | ⟨h1, e⟩
  · rcases cmp3_key a' b' c' a'' b'' c'' with ⟨g1, f⟩ | ⟨⟨rfl, rfl, rfl⟩, f⟩ | ⟨g1, f⟩
    · rcases cmp3_key a b c a'' b'' c'' with ⟨k1, j⟩ | ⟨⟨rfl, rfl, rfl⟩, j⟩ | ⟨k1, j⟩
      · omega
      · omega
      · exact (lt3_irrefl _ _ _ (lt3_trans (lt3_trans h1 g1) k1)).elim
    · exact h
    · omega
  · exact g
  · omega
theorem cmp3_range (a b : Int) (c : List UInt8) (a' b' : Int) (c' : List UInt8) : -1 ≤ cmp3 a b c a' b' c' ∧ cmp3 a b c a' b' c' ≤ 1 := by
  rcases cmp3_key a b c a' b' c' with ⟨_, e⟩ | ⟨_, e⟩ | ⟨_, e⟩ <;> omega
theorem cmp3_zero {a b : Int} {c : List UInt8} {a' b' : Int} {c' : List UInt8} (h : cmp3 a b c a' b' c' = 0) : a = a' ∧ b = b' ∧ c = c' := by
  rcases cmp3_key a b c a' b' c' with ⟨_, e⟩ | ⟨h1, _⟩ | ⟨_, e⟩
  · omega
  · exact h1
  · omega
theorem cmp3_same (a b : Int) (c : List UInt8) : cmp3 a b c a b c = 0 := by
  rcases cmp3_key a b c a b c with ⟨h, _⟩ | ⟨_, e⟩ | ⟨h, _⟩
  · exact (lt3_irrefl _ _ _ h).elim
  · exact e
  · exact (lt3_irrefl _ _ _ h).elim

/-! ### prints -/
theorem dbl_inj : ∀ s t : List UInt8, dbl s = dbl t → s = t
  | [], [], _ => rfl
  | [], d :: t, h => by rw [dbl, dbl] at h; split at h <;> cases h
  | c :: s, [], h => by rw [dbl, dbl] at h; split at h <;> cases h
  | c :: s, d :: t, h => by
    rw [dbl, dbl] at h
    by_cases h1 : c = 39 <;> by_cases h2 : d = 39
    · rw [if_pos h1, if_pos h2] at h
      simp only [List.cons.injEq, true_and] at h
      rw [h1, h2, dbl_inj s t h]
    · rw [if_pos h1, if_neg h2] at h
      simp only [List.cons.injEq] at h
      exact absurd h.1.symm h2
    · rw [if_neg h1, if_pos h2] at h
      simp only [List.cons.injEq] at h
      exact absurd h.1 h1
    · rw [if_neg h1, if_neg h2] at h
      simp only [List.cons.injEq] at h
      rw [h.1, dbl_inj s t h.2]
def numOf (l : List UInt8) : Nat := l.foldl (fun a c => 10 * a + (c.toNat - 48)) 0
theorem numOf_dec (u : Nat) : numOf (decDigits u) = u := by
  induction u using Nat.strongRecOn with
  | _ u ih =>
    rw [decDigits]
    split
    · rename_i h
      have : (UInt8.ofNat (48 + u)).toNat = 48 + u := by simp; omega
      simp only [numOf, List.foldl_cons, List.foldl_nil, this]; omega
    · rename_i h
      have : (UInt8.ofNat (48 + u % 10)).toNat = 48 + u % 10 := by simp; omega
      have e := ih (u / 10) (by omega)
      unfold numOf at e ⊢
      rw [List.foldl_append, e]
      simp only [List.foldl_cons, List.foldl_nil, this]
      omega
theorem dec_head (u : Nat) : ∃ c l, decDigits u = c :: l ∧ 48 ≤ c.toNat ∧ c.toNat ≤ 57 := by
  induction u using Nat.strongRecOn with
  | _ u ih =>
    rw [decDigits]
    split
    · rename_i h
      have : (UInt8.ofNat (48 + u)).toNat = 48 + u := by simp; omega
      exact ⟨_, [], rfl, by omega, by omega⟩
    · rename_i h
      obtain ⟨c, l, e, h1, h2⟩ := ih (u / 10) (by omega)
      exact ⟨c, l ++ [UInt8.ofNat (48 + u % 10)], by rw [e]; rfl, h1, h2⟩
theorem itoa_inj {n m : Int} (h : itoa n = itoa m) : n = m := by
  unfold itoa at h
  obtain ⟨c, l, e, h1, h2⟩ := dec_head n.toNat
  obtain ⟨c', l', e', h1', h2'⟩ := dec_head m.toNat
  by_cases hn : n < 0 <;> by_cases hm : m < 0
  · rw [if_pos hn, if_pos hm] at h
    have := congrArg numOf (List.cons.inj h).2
    rw [numOf_dec, numOf_dec] at this; omega
  · rw [if_pos hn, if_neg hm, e'] at h
    have := (List.cons.inj h).1
    rw [← this] at h1'; exact absurd h1' (by decide)
  · rw [if_neg hn, if_pos hm, e] at h
    have := (List.cons.inj h).1
    rw [this] at h1; exact absurd h1 (by decide)
  · rw [if_neg hn, if_neg hm] at h
    have := congrArg numOf h
    rw [numOf_dec, numOf_dec] at this; omega
theorem itoa_head (n : Int) : ∃ c l, itoa n = c :: l ∧ (c.toNat = 45 ∨ 48 ≤ c.toNat ∧ c.toNat ≤ 57) := by
  unfold itoa
  split
  · exact ⟨45, _, rfl, .inl rfl⟩
  · obtain ⟨c, l, e, h1, h2⟩ := dec_head n.toNat
    exact ⟨c, l, e, .inr ⟨h1, h2⟩⟩
theorem isV_kind {k i : Int} {s : List UInt8} (h : isV k i s = true) : (k = 0 ∧ i = 0 ∧ s = []) ∨ (k = 1 ∧ (i = 0 ∨ i = 1) ∧ s = []) ∨ (k = 2 ∧ s = []) ∨ (k = 3 ∧ i = 0) := by
  unfold isV at h
  by_cases k0 : k = 0
  · rw [if_pos k0] at h; simp at h; exact .inl ⟨k0, h⟩
  rw [if_neg k0] at h
  by_cases k1 : k = 1
  · rw [if_pos k1] at h; simp at h; exact .inr (.inl ⟨k1, h⟩)
  rw [if_neg k1] at h
  by_cases k2 : k = 2
  · rw [if_pos k2] at h; simp at h; exact .inr (.inr (.inl ⟨k2, h⟩))
  rw [if_neg k2] at h
  by_cases k3 : k = 3
  · rw [if_pos k3] at h; simp at h; exact .inr (.inr (.inr ⟨k3, h.1.1⟩))
  · rw [if_neg k3] at h; cases h
/-- The print's first byte tells the kind. -/
def headOf (l : List UInt8) : Nat := (l.head?.map UInt8.toNat).getD 0
theorem print_inj {k i : Int} {s : List UInt8} {k' i' : Int} {s' : List UInt8} (h : isV k i s = true) (h' : isV k' i' s' = true) (e : printV k i s = printV k' i' s') : k = k' ∧ i = i' ∧ s = s' := by
  unfold printV at e
  rw [if_pos h, if_pos h'] at e
  obtain ⟨c, l, ei, hc⟩ := itoa_head i
  obtain ⟨c', l', ei', hc'⟩ := itoa_head i'
  have hh := congrArg headOf e
  rcases isV_kind h with ⟨rfl, rfl, rfl⟩ | ⟨rfl, rfl | rfl, rfl⟩ | ⟨rfl, rfl⟩ | ⟨rfl, rfl⟩ <;> rcases isV_kind h' with ⟨rfl, rfl, rfl⟩ | ⟨rfl, rfl | rfl, rfl⟩ | ⟨rfl, rfl⟩ | ⟨rfl, rfl⟩
  all_goals first
    | exact ⟨rfl, rfl, rfl⟩
    | (simp [headOf, quote] at hh; done)
    | (simp [headOf, quote, ei, ei'] at hh; omega)
    | skip
  · have e2 : itoa i = itoa i' := by simpa using e
    exact ⟨rfl, itoa_inj e2, rfl⟩
  · have e2 : dbl s ++ [39] = dbl s' ++ [39] := by simpa [quote] using e
    exact ⟨rfl, rfl, dbl_inj _ _ (List.append_cancel_right e2)⟩
end P6
