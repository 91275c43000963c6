/- An answer comes back from its table: the plain law. No program in sight. An answer comes back from its table: lines, cells, values. No program in sight. An answer comes back from its table, whole: the plain law. No program in sight. -/
import Derived.Test.YtmoippbmnanajaaGreatDoorRH
import Derived.Lib.AtoiAllCases
import Derived.Lib.ParseIntBTie
import Derived.Test.YtmoippbmnanajaaGreatDoorRT
set_option linter.unusedSimpArgs false
set_option linter.unusedVariables false
namespace P25
open Go.Lib
/-! ### Numbers -/
theorem parseUint_app : ∀ (l r : List UInt8) (a v : Nat), parseUint10 a l = .ok v → parseUint10 a (l ++ r) = parseUint10 v r
  | [], r, a, v, h => by simp only [parseUint10] at h; injection h with h; subst h; rfl
  | c :: l, r, a, v, h => by
    rw [List.cons_append]
    simp only [parseUint10] at h ⊢
    split at h
    · rename_i h1
      rw [if_pos h1]
      split at h
      · cases h
      · rename_i h2
        rw [if_neg h2]
        split at h
        · cases h
        · rename_i h3
          rw [if_neg h3]
          exact parseUint_app l r _ v h
    · cases h
theorem digit_nat {d : Nat} (h : d < 10) : (UInt8.ofNat (48 + d)).toNat = 48 + d := by
  rw [show (UInt8.ofNat (48 + d)).toNat = (48 + d) % 256 from UInt8.toNat_ofNat']; omega
theorem parse_digits : ∀ (u : Nat), u < 18446744073709551616 → parseUint10 0 (decDigits u) = .ok u := by
  intro u
  induction u using Nat.strongRecOn with
  | _ u ih =>
    intro hu
    rw [decDigits]
    split
    · rename_i h
      have hd := digit_nat h
      simp only [parseUint10, hd]
      rw [if_pos ⟨by omega, by omega⟩, if_neg (by omega), if_neg (by omega)]
      congr 1; omega
    · rename_i h
      rw [parseUint_app _ _ _ _ (ih (u / 10) (by omega) (by omega))]
      have hd := digit_nat (d := u % 10) (by omega)
      simp only [parseUint10, hd]
      rw [if_pos ⟨by omega, by omega⟩, if_neg (by omega), if_neg (by omega)]
      congr 1; omega
theorem digits_mem : ∀ (u : Nat), decDigits u ≠ [] ∧ ∀ b ∈ decDigits u, 48 ≤ b.toNat ∧ b.toNat ≤ 57 := by
  intro u
  induction u using Nat.strongRecOn with
  | _ u ih =>
    rw [decDigits]
    split
    · rename_i h
      refine ⟨by simp, fun b hb => ?_⟩
      simp only [List.mem_cons, List.not_mem_nil, or_false] at hb
      subst hb
      rw [digit_nat h]; omega
    · rename_i h
      refine ⟨by simp, fun b hb => ?_⟩
      rcases List.mem_append.1 hb with hb | hb
      · exact (ih (u / 10) (by omega)).2 b hb
      · simp only [List.mem_cons, List.not_mem_nil, or_false] at hb
        subst hb
        rw [digit_nat (d := u % 10) (by omega)]; omega
/-- A number's print: its bytes; its first one. -/
theorem itoa_mem (n : Int) : itoa n ≠ [] ∧ ∀ b ∈ itoa n, b = 45 ∨ (48 ≤ b.toNat ∧ b.toNat ≤ 57) := by
  unfold itoa
  split
  · refine ⟨by simp, fun b hb => ?_⟩
    rcases List.mem_cons.1 hb with h | h
    · exact .inl h
    · exact .inr ((digits_mem _).2 b h)
  · exact ⟨(digits_mem _).1, fun b hb => .inr ((digits_mem _).2 b hb)⟩
theorem atoi_itoa (n : Int) (h0 : -9223372036854775808 ≤ n) (h1 : n ≤ 9223372036854775807) : atoiAll (itoa n) = .ok n := by
  unfold itoa
  split
  · rename_i h
    rw [atoiAll_minus]
    have hm : parseMag (decDigits n.natAbs) = .ok n.natAbs := by
      unfold parseMag
      rw [if_neg (digits_mem _).1, parse_digits _ (by omega)]
    rw [hm]
    simp only [signed]
    rw [if_neg (by omega)]
    congr 1; omega
  · rename_i h
    have hm : parseMag (decDigits n.toNat) = .ok n.toNat := by
      unfold parseMag
      rw [if_neg (digits_mem _).1, parse_digits _ (by omega)]
    obtain ⟨hne, hmem⟩ := digits_mem n.toNat
    match hd : decDigits n.toNat, hne with
    | c :: r, _ =>
      have hc := hmem c (by rw [hd]; exact List.mem_cons_self ..)
      rw [atoiAll_plain c r (by omega) (by omega), ← hd, hm]
      simp only [signless]
      rw [if_neg (by omega)]
      congr 1; omega
/-! ### Doubled quotes -/
theorem index_cons2 (a b c : UInt8) (l : List UInt8) (h : c ≠ a) : index (c :: l) [a, b] = if index l [a, b] = -1 then -1 else index l [a, b] + 1 := by
  rw [index]
  have : ([a, b] : List UInt8).isPrefixOf (c :: l) = false := by simp [List.isPrefixOf]; exact fun e => absurd e.symm h
  simp [this]
theorem undbl : ∀ s : List UInt8, replaceK [39, 39] [39] (count (P6.dbl s) [39, 39]) (P6.dbl s) = s
  | [] => by
    have : index (P6.dbl []) [39, 39] = -1 := by rfl
    rw [count_miss this]; rfl
  | c :: l => by
    have ih := undbl l
    by_cases hc : c = 39
    · subst hc
      have e : P6.dbl (39 :: l) = 39 :: 39 :: P6.dbl l := by rw [P6.dbl, if_pos rfl]
      have hi : index (39 :: 39 :: P6.dbl l) [39, 39] = ((0 : Nat) : Int) := by rw [index]; simp [List.isPrefixOf]
      rw [e, count_hit (i := 0) (by simp) hi, Nat.add_comm 1, replaceK_hit _ _ _ _ 0 hi]
      simpa using ih
    · have e : P6.dbl (c :: l) = c :: P6.dbl l := by rw [P6.dbl, if_neg hc]
      rw [e]
      have hi := index_cons2 39 39 c (P6.dbl l) hc
      by_cases hm : index (P6.dbl l) [39, 39] = -1
      · rw [if_pos hm] at hi
        rw [count_miss hi, replaceK]
        rw [count_miss hm, replaceK] at ih
        rw [ih]
      · rw [if_neg hm] at hi
        have hge := index_ge (P6.dbl l) [39, 39]
        obtain ⟨i, hl⟩ := Int.eq_ofNat_of_zero_le (show 0 ≤ index (P6.dbl l) [39, 39] by omega)
        have hi' : index (c :: P6.dbl l) [39, 39] = ((i + 1 : Nat) : Int) := by rw [hi, hl]; rfl
        rw [count_hit (i := i + 1) (by simp) hi', Nat.add_comm 1, replaceK_hit _ _ _ _ _ hi']
        rw [count_hit (i := i) (by simp) hl, Nat.add_comm 1, replaceK_hit _ _ _ _ _ hl] at ih
        have e2 : i + 1 + ([39, 39] : List UInt8).length = (i + ([39, 39] : List UInt8).length) + 1 := by simp
        rw [e2, List.take_succ_cons, List.drop_succ_cons, List.cons_append, List.cons_append, ih]
theorem replaceAll_undbl (s : List UInt8) : replaceAll (P6.dbl s) [39, 39] [39] = s := by
  unfold replaceAll replace replaceNum
  simp only [show (([39, 39] : List UInt8) == [39]) = false from rfl]
  simpa using undbl s
/-! ### Cutting at a separator -/
/-- Pieces that hold no separator, nor with one behind them an earlier one. -/
def cutOk (sep x : List UInt8) : Prop := ∀ r, index (x ++ (sep ++ r)) sep = x.length
theorem split_flat (sep : List UInt8) (hs : sep ≠ []) (last : List UInt8) (hl : index last sep = -1) : ∀ l : List (List UInt8), (∀ x ∈ l, cutOk sep x) → split ((l.map (· ++ sep)).flatten ++ last) sep = l ++ [last]
  | [], _ => by
    simp only [List.map_nil, List.flatten_nil, List.nil_append]
    unfold split
    rw [count_miss hl]; rfl
  | x :: l, h => by
    have ih := split_flat sep hs last hl l fun y hy => h y (List.mem_cons_of_mem _ hy)
    have hx := h x (List.mem_cons_self ..) ((l.map (· ++ sep)).flatten ++ last)
    have e : ((x :: l).map (· ++ sep)).flatten ++ last = x ++ (sep ++ ((l.map (· ++ sep)).flatten ++ last)) := by simp
    rw [e]
    generalize (l.map (· ++ sep)).flatten ++ last = t at ih hx
    have hd : (x ++ (sep ++ t)).drop (x.length + sep.length) = t := by rw [← List.append_assoc, List.drop_left' (by simp)]
    unfold split at ih ⊢
    rw [count_hit hs hx, hd, Nat.add_comm 1, splitK, if_neg (by rw [hx]; simp), hx]
    simp only [Int.toNat_natCast, Nat.add_zero]
    rw [List.take_left, hd, ih]; rfl
theorem join_flat (sep : List UInt8) : ∀ (l : List (List UInt8)) (x : List UInt8), join (l ++ [x]) sep = (l.map (· ++ sep)).flatten ++ x
  | [], x => by rw [List.nil_append, join_one]; rfl
  | y :: l, x => by
    have ih := join_flat sep l x
    cases l with
    | nil => rw [show [y] ++ [x] = [y, x] from rfl, join_cons]; simp [joinTail]
    | cons z l =>
      rw [List.cons_append, join_cons]
      rw [List.cons_append, join_cons] at ih
      show y ++ joinTail sep (z :: (l ++ [x])) = _
      rw [show joinTail sep (z :: (l ++ [x])) = sep ++ (z ++ joinTail sep (l ++ [x])) by simp [joinTail], ih]
      simp
theorem split_join (sep : List UInt8) (hs : sep ≠ []) (l : List (List UInt8)) (hl : l ≠ []) (h1 : ∀ x ∈ l, cutOk sep x) (h2 : ∀ x ∈ l, index x sep = -1) : split (join l sep) sep = l := by
  rcases List.eq_nil_or_concat l with rfl | ⟨u, x, rfl⟩
  · exact absurd rfl hl
  · rw [List.concat_eq_append] at *
    rw [join_flat, split_flat sep hs x (h2 x (by simp)) u fun y hy => h1 y (by simp [hy])]
theorem line_ok : ∀ x : List UInt8, (∀ b ∈ x, b ≠ 10) → cutOk [10] x ∧ index x [10] = -1
  | [], _ => ⟨fun r => by rw [List.nil_append, List.singleton_append, index_one, if_pos rfl]; rfl, rfl⟩
  | b :: x, h => by
    obtain ⟨h1, h2⟩ := line_ok x fun c hc => h c (List.mem_cons_of_mem _ hc)
    have hb := h b (List.mem_cons_self ..)
    refine ⟨fun r => ?_, ?_⟩
    · rw [List.cons_append, index_one, if_neg hb, h1 r, if_neg (by omega)]
      simp
    · rw [index_one, if_neg hb, h2, if_pos rfl]
theorem rule_ok : ∀ n : Nat, cutOk cross (List.replicate n 45) ∧ index (List.replicate n 45) cross = -1
  | 0 => ⟨fun r => by rw [List.replicate_zero, List.nil_append]; unfold cross; rw [List.cons_append, index]; simp [List.isPrefixOf], rfl⟩
  | n + 1 => by
    obtain ⟨h1, h2⟩ := rule_ok n
    have hp : ∀ t : List UInt8, (∀ c, t.head? = some c → c ≠ 43) → index (45 :: t) cross = if index t cross = -1 then -1 else index t cross + 1 := fun t ht => by
      rw [index]
      have : cross.isPrefixOf (45 :: t) = false := by
        cases t with
        | nil => rfl
        | cons c t =>
          have hc := ht c rfl
          simp [cross, List.isPrefixOf]
          exact fun e => absurd e.symm hc
      simp [this]
    refine ⟨fun r => ?_, ?_⟩
    · rw [List.replicate_succ, List.cons_append, hp, h1 r, if_neg (by omega)]
      · simp
      · intro c hc
        cases n with
        | zero => simp [cross] at hc; subst hc; decide
        | succ n => rw [List.replicate_succ] at hc; simp at hc; subst hc; decide
    · rw [List.replicate_succ, hp, h2, if_pos rfl]
      intro c hc
      cases n with
      | zero => simp at hc
      | succ n => rw [List.replicate_succ] at hc; simp at hc; subst hc; decide
end P25
namespace P25
open Go.Lib
/-! ### Blanks at an end -/
theorem trimRight_app (a j : List UInt8) (h : ∃ x ∈ j, x ≠ 32) : trimRightB (a ++ j) 32 = a ++ trimRightB j 32 ∧ trimRightB j 32 ≠ [] := by
  have hr : ∃ x ∈ j.reverse, x ≠ 32 := by obtain ⟨x, hx, hn⟩ := h; exact ⟨x, by simpa using hx, hn⟩
  unfold trimRightB
  rw [List.reverse_append]
  generalize j.reverse = k at hr
  have hk : ∀ k : List UInt8, (∃ x ∈ k, x ≠ 32) → (k ++ a.reverse).dropWhile (· == 32) = k.dropWhile (· == 32) ++ a.reverse ∧ k.dropWhile (· == 32) ≠ [] := by
    intro k
    induction k with
    | nil => rintro ⟨x, hx, -⟩; cases hx
    | cons c k ih =>
      intro hc
      by_cases hc32 : c = 32
      · subst hc32
        obtain ⟨x, hx, hn⟩ := hc
        rcases List.mem_cons.1 hx with rfl | hx
        · exact absurd rfl hn
        · simpa using ih ⟨x, hx, hn⟩
      · have : (c == 32) = false := by simpa using hc32
        simp [this]
  obtain ⟨h1, h2⟩ := hk k hr
  rw [h1]
  exact ⟨by simp, by simpa using h2⟩
/-- A text that ends, and begins, with no blank. -/
structure Firm (t : List UInt8) : Prop where
  first : ∃ c r, t = c :: r ∧ c ≠ 32
  last : ∃ u d, t = u ++ [d] ∧ d ≠ 32
theorem Firm.trim {t : List UInt8} (h : Firm t) (b : Nat) : trimRightB (t ++ List.replicate b 32) 32 = t := by
  obtain ⟨u, d, rfl, hd⟩ := h.last
  unfold trimRightB
  rw [List.reverse_append, List.reverse_replicate]
  have : ∀ b : Nat, (List.replicate b (32 : UInt8) ++ (u ++ [d]).reverse).dropWhile (· == 32) = (u ++ [d]).reverse := by
    intro b
    induction b with
    | zero => simp [hd]
    | succ b ih => rw [List.replicate_succ]; simpa using ih
  rw [this]; simp
theorem Firm.left {t : List UInt8} (h : Firm t) (a : Nat) (r : List UInt8) : trimLeftB (List.replicate a 32 ++ (t ++ r)) 32 = t ++ r := by
  obtain ⟨c, k, rfl, hc⟩ := h.first
  unfold trimLeftB
  induction a with
  | zero => simp [hc]
  | succ a ih => rw [List.replicate_succ]; simpa using ih
/-- A text with blanks around it. -/
def spaced (t s : List UInt8) : Prop := ∃ a b, s = List.replicate a 32 ++ (t ++ List.replicate b 32)
theorem Firm.both {t s : List UInt8} (h : Firm t) (hs : spaced t s) : trimB s 32 = t := by
  obtain ⟨a, b, rfl⟩ := hs
  unfold trimB
  rw [← List.append_assoc]
  have h2 : Firm (List.replicate a 32 ++ t) ∨ True := .inr trivial
  obtain ⟨u, d, e, hd⟩ := h.last
  have h3 : trimRightB ((List.replicate a 32 ++ t) ++ List.replicate b 32) 32 = List.replicate a 32 ++ t := by
    unfold trimRightB
    rw [List.reverse_append, List.reverse_replicate, e]
    have : ∀ b : Nat, (List.replicate b (32 : UInt8) ++ (List.replicate a 32 ++ (u ++ [d])).reverse).dropWhile (· == 32) = (List.replicate a 32 ++ (u ++ [d])).reverse := by
      intro b
      induction b with
      | zero => simp [hd]
      | succ b ih => rw [List.replicate_succ]; simpa using ih
    rw [this, List.reverse_reverse]
  rw [h3]
  have := h.left a []
  simpa using this
theorem Firm.ne {t : List UInt8} (h : Firm t) : t ≠ [] := by obtain ⟨c, r, rfl, -⟩ := h.first; simp
theorem pad_spaced (c : Nat × Bool) (t : List UInt8) : spaced t (pad c t) := by
  unfold pad
  split
  · exact ⟨c.1 - t.length, 0, by simp⟩
  · exact ⟨0, c.1 - t.length, by simp⟩
theorem pad_trim (c : Nat × Bool) {t : List UInt8} (h : Firm t) (hl : t.length ≤ c.1) : spaced t (trimRightB (pad c t) 32) ∧ (trimRightB (pad c t) 32).length ≤ c.1 := by
  unfold pad
  obtain ⟨u, d, e, hd⟩ := h.last
  split
  · rw [(trimRight_app _ t ⟨d, by rw [e]; simp, hd⟩).1]
    have h0 := h.trim 0
    simp only [List.replicate_zero, List.append_nil] at h0
    rw [h0]
    exact ⟨⟨c.1 - t.length, 0, by simp⟩, by simp; omega⟩
  · rw [h.trim]
    exact ⟨⟨0, 0, by simp⟩, hl⟩
/-! ### A line, cut again -/
theorem rest_ok (k : Nat) (s : List UInt8) : rest k ((if k = 0 then [] else bar) ++ s) = some s := by
  unfold rest
  split
  · simp
  · rw [if_pos (by simp [hasPrefix, bar, List.isPrefixOf])]
    simp [bar]
theorem cut_line : ∀ (cs : List (Nat × Bool)) (l : List (List UInt8)) (k : Nat), cs.length = l.length → (∀ (i : Nat) (c : Nat × Bool) (t : List UInt8), cs[i]? = some c → l[i]? = some t → t.length ≤ c.1 ∧ Firm t) → l ≠ [] →
    ∃ C, cut k ((if k = 0 then [] else bar) ++ trimRightB (join (pads cs l) bar) 32) (cs.map Prod.fst) = some C ∧ C.length = l.length ∧ ∀ (i : Nat) (s t : List UInt8), C[i]? = some s → l[i]? = some t → spaced t s
  | [], [], _, _, _, hne => absurd rfl hne
  | [], _ :: _, _, h, _, _ => by simp at h
  | _ :: _, [], _, h, _, _ => by simp at h
  | [c], [t], k, _, h, _ => by
    obtain ⟨hl, hf⟩ := h 0 c t rfl rfl
    obtain ⟨h1, h2⟩ := pad_trim c hf hl
    have e : join (pads [c] [t]) bar = pad c t := by simp [pads, join_one]
    rw [e]
    refine ⟨[trimRightB (pad c t) 32], ?_, rfl, fun i s t' hs ht => ?_⟩
    · rw [List.map_cons, List.map_nil, cut, rest_ok]
      simp only
      rw [List.take_of_length_le h2, List.drop_eq_nil_of_le h2, cut, if_pos rfl]
      rfl
    · match i with
      | 0 => simp at hs ht; subst hs; subst ht; exact h1
      | i + 1 => simp at hs
  | c :: c2 :: cs, t :: t2 :: l, k, hlen, h, _ => by
    obtain ⟨hl, hf⟩ := h 0 c t rfl rfl
    obtain ⟨C, hC, hCl, hCs⟩ := cut_line (c2 :: cs) (t2 :: l) (k + 1) (by simpa using hlen) (fun i c' t' h1 h2 => h (i + 1) c' t' (by simpa using h1) (by simpa using h2)) (by simp)
    have e : join (pads (c :: c2 :: cs) (t :: t2 :: l)) bar = pad c t ++ (bar ++ join (pads (c2 :: cs) (t2 :: l)) bar) := by
      simp only [pads, List.zipWith_cons_cons, join_cons, joinTail, List.map_cons, List.flatten_cons]
      simp
    have hsome : ∃ x ∈ bar ++ join (pads (c2 :: cs) (t2 :: l)) bar, x ≠ 32 := ⟨124, by simp [bar], by decide⟩
    have hsome2 : ∃ x ∈ join (pads (c2 :: cs) (t2 :: l)) bar, x ≠ 32 := by
      obtain ⟨hl2, hf2⟩ := h 1 c2 t2 rfl rfl
      obtain ⟨d, r, e2, hd⟩ := hf2.first
      refine ⟨d, ?_, hd⟩
      have hm : d ∈ pad c2 t2 := by
        obtain ⟨a, b, e3⟩ := pad_spaced c2 t2
        rw [e3, e2]; simp
      cases l with
      | nil =>
        cases cs with
        | nil => simp [pads, join_one]; exact hm
        | cons _ _ => simp at hlen
      | cons _ _ =>
        cases cs with
        | nil => simp at hlen
        | cons _ _ => simp only [pads, List.zipWith_cons_cons, join_cons]; exact List.mem_append_left _ hm
    rw [e, ← List.append_assoc, (trimRight_app (pad c t ++ bar) _ hsome2).1]
    have hpl := pad_length c t hl
    refine ⟨pad c t :: C, ?_, by simpa using hCl, fun i s t' hs ht => ?_⟩
    · rw [List.map_cons, cut, rest_ok]
      simp only
      rw [List.append_assoc, List.take_append_of_le_length (by omega), List.take_of_length_le (by omega), ← hpl, List.drop_left]
      rw [if_neg (by omega)] at hC
      rw [hC]; rfl
    · match i with
      | 0 => simp at hs ht; subst hs; subst ht; exact pad_spaced c t
      | i + 1 => exact hCs i s t' (by simpa using hs) (by simpa using ht)
/-! ### What stands in a cell -/
theorem blank_no {t s : List UInt8} (h : Firm t) (hs : spaced t s) : blank s = false := by
  unfold blank
  rw [h.both hs]
  simpa using h.ne
theorem dropBlank_keep {l : List (List UInt8)} (h : ∀ s ∈ l, blank s = false) : dropBlank l = l := by
  unfold dropBlank
  cases hr : l.reverse with
  | nil => simp at hr; subst hr; rfl
  | cons x r =>
    have hx : blank x = false := h x (by have : x ∈ l.reverse := by rw [hr]; exact List.mem_cons_self ..
                                         simpa using this)
    rw [List.dropWhile_cons_of_neg (by simp [hx]), ← hr, List.reverse_reverse]
theorem lastIdx_blanks (t : List UInt8) (b : Nat) : lastIndexByte ⟨(t ++ [39] ++ List.replicate b 32).toArray⟩ 39 = t.length := by
  have hat : ∀ j, j < t.length + 1 + b → ((⟨(t ++ [39] ++ List.replicate b 32).toArray⟩ : ByteArray).data[j]!) = (t ++ [39] ++ List.replicate b 32).getD j 0 := fun j hj => by
    simp [List.getD_eq_getElem?_getD]
    rfl
  rcases lastIndexByte_spec ⟨(t ++ [39] ++ List.replicate b 32).toArray⟩ 39 with ⟨-, hn⟩ | ⟨i, hi, e, hc, hn⟩
  · exfalso
    have hsz : (⟨(t ++ [39] ++ List.replicate b 32).toArray⟩ : ByteArray).size = t.length + 1 + b := by simp [ByteArray.size]; omega
    have := hn t.length (by omega)
    rw [hat t.length (by omega)] at this
    apply this
    simp
  · have hsz : (⟨(t ++ [39] ++ List.replicate b 32).toArray⟩ : ByteArray).size = t.length + 1 + b := by simp [ByteArray.size]; omega
    rw [e]
    rw [hsz] at hi hn
    rcases Nat.lt_trichotomy i t.length with h | h | h
    · exfalso
      apply hn t.length h (by omega)
      rw [hat _ (by omega)]
      simp
    · rw [h]
    · exfalso
      rw [hat i (by omega)] at hc
      have : (t ++ [39] ++ List.replicate b 32).getD i 0 = 32 := by
        rw [List.getD_eq_getElem?_getD, List.getElem?_append_right (by simp; omega), List.getElem?_replicate, if_pos (by simp; omega)]; rfl
      rw [this] at hc
      revert hc; decide
theorem inner_ok {t s : List UInt8} (h : Firm t) (hs : spaced t s) (hq : ∀ r, t = 39 :: r → ∃ u, t = u ++ [39]) : inner s = t := by
  have hb := h.both hs
  obtain ⟨a, b, rfl⟩ := hs
  unfold inner
  rw [h.left]
  split
  · rename_i hp
    obtain ⟨c, r, e, -⟩ := h.first
    have hc : c = 39 := by
      rw [e] at hp
      simp [hasPrefix, List.isPrefixOf] at hp
      exact hp.symm
    obtain ⟨u, eu⟩ := hq r (by rw [e, hc])
    rw [eu, lastIdx_blanks]
    rw [show (((u.length : Nat) : Int) + 1).toNat = (u ++ [39]).length by simp, List.take_left]
  · exact hb
end P25
namespace P25
open Go.Lib
theorem index_absent (sub : List UInt8) (c : UInt8) (hc : c ∈ sub) : ∀ s : List UInt8, (∀ b ∈ s, b ≠ c) → index s sub = -1
  | [], _ => by
    rw [index]
    cases sub with
    | nil => cases hc
    | cons _ _ => rfl
  | b :: l, h => by
    rw [index]
    have hp : sub.isPrefixOf (b :: l) = false := by
      rw [Bool.eq_false_iff]
      intro e
      exact h c ((List.isPrefixOf_iff_prefix.1 e).subset hc) rfl
    simp [hp, index_absent sub c hc l fun x hx => h x (List.mem_cons_of_mem _ hx)]
theorem contains_absent (s sub : List UInt8) (c : UInt8) (hc : c ∈ sub) (h : ∀ b ∈ s, b ≠ c) : contains s sub = false := by
  unfold contains
  rw [index_absent sub c hc s h]; rfl
theorem clean_same {s : List UInt8} (h : ∀ b ∈ s, b ≠ 10) : clean s = s := by
  unfold clean
  conv => rhs; rw [← List.map_id s]
  exact List.map_congr_left fun b hb => by rw [if_neg (h b hb)]; rfl
theorem clean_ten (s : List UInt8) : ∀ b ∈ clean s, b ≠ 10 := by
  intro b hb
  obtain ⟨c, -, rfl⟩ := List.mem_map.1 hb
  split
  · decide
  · assumption
theorem mem_trim {l : List UInt8} {b : UInt8} (h : b ∈ trimRightB l 32) : b ∈ l := by
  unfold trimRightB at h
  rw [List.mem_reverse] at h
  have := (List.dropWhile_sublist (· == (32 : UInt8))).subset h
  simpa using this
theorem mem_join {sep : List UInt8} {b : UInt8} : ∀ {l : List (List UInt8)}, b ∈ join l sep → (∃ x ∈ l, b ∈ x) ∨ b ∈ sep
  | [], h => by rw [join_nil] at h; cases h
  | x :: l, h => by
    rw [join_cons] at h
    rcases List.mem_append.1 h with h | h
    · exact .inl ⟨x, List.mem_cons_self .., h⟩
    · unfold joinTail at h
      obtain ⟨y, hy, hb⟩ := List.mem_flatten.1 h
      obtain ⟨z, hz, rfl⟩ := List.mem_map.1 hy
      rcases List.mem_append.1 hb with hb | hb
      · exact .inr hb
      · exact .inl ⟨z, List.mem_cons_of_mem _ hz, hb⟩
theorem mem_pad {c : Nat × Bool} {t : List UInt8} {b : UInt8} (h : b ∈ pad c t) : b = 32 ∨ b ∈ t := by
  unfold pad at h
  split at h
  · rcases List.mem_append.1 h with h | h
    · exact .inl (List.eq_of_mem_replicate h)
    · exact .inr h
  · rcases List.mem_append.1 h with h | h
    · exact .inr h
    · exact .inl (List.eq_of_mem_replicate h)
theorem line_ten (cs : List (Nat × Bool)) (l : List (List UInt8)) (h : ∀ t ∈ l, ∀ b ∈ t, b ≠ 10) : ∀ b ∈ trimRightB (join (pads cs l) bar) 32, b ≠ 10 := by
  intro b hb
  rcases mem_join (mem_trim hb) with ⟨x, hx, hb⟩ | hb
  · obtain ⟨i, hi⟩ := List.mem_iff_getElem?.1 hx
    unfold pads at hi
    rw [List.getElem?_zipWith_eq_some] at hi
    obtain ⟨c, t, -, h2, rfl⟩ := hi
    rcases mem_pad hb with rfl | hb
    · decide
    · exact h t (List.mem_of_getElem? h2) b hb
  · simp only [bar, List.mem_cons, List.not_mem_nil, or_false] at hb
    rcases hb with rfl | rfl | rfl <;> decide
theorem rule_ten (cs : List (Nat × Bool)) : ∀ b ∈ join (rules cs) cross, b ≠ 10 := by
  intro b hb
  rcases mem_join hb with ⟨x, hx, hb⟩ | hb
  · obtain ⟨c, -, rfl⟩ := List.mem_map.1 hx
    rw [List.eq_of_mem_replicate hb]; decide
  · simp only [cross, List.mem_cons, List.not_mem_nil, or_false] at hb
    rcases hb with rfl | rfl | rfl <;> decide
theorem name_wide (names : List (List UInt8)) (rows : List (List Cell)) (i : Nat) (c : Nat × Bool) (t : List UInt8) (h1 : (cols names rows)[i]? = some c) (h2 : (names.map clean)[i]? = some t) : t.length ≤ c.1 := by
  have hi : i < names.length := by have := (List.getElem?_eq_some_iff.1 h1).1; rwa [cols_length] at this
  rw [cols_at _ _ _ hi] at h1
  cases h1
  simp [hi] at h2
  rw [← h2, clean_length, show names.getD i [] = names[i] by simp [hi]]
  exact col_name _ _ _
theorem text_wide (names : List (List UInt8)) (rows : List (List Cell)) (r : List Cell) (hr : r ∈ rows) (i : Nat) (c : Nat × Bool) (t : List UInt8) (h1 : (cols names rows)[i]? = some c) (h2 : (cells r names.length)[i]? = some t) : t.length ≤ c.1 := by
  have hi : i < names.length := by have := (List.getElem?_eq_some_iff.1 h1).1; rwa [cols_length] at this
  rw [cols_at _ _ _ hi] at h1
  cases h1
  rw [cells_at _ _ _ hi] at h2
  cases h2
  exact col_text _ _ _ _ hr
theorem dbl_mem {b : UInt8} : ∀ {s : List UInt8}, b ∈ P6.dbl s → b = 39 ∨ b ∈ s
  | [], h => by simp [P6.dbl] at h
  | c :: s, h => by
    rw [P6.dbl] at h
    split at h
    · rename_i hc
      rcases List.mem_cons.1 h with h | h
      · exact .inl h
      · rcases List.mem_cons.1 h with h | h
        · exact .inl h
        · rcases dbl_mem h with h | h
          · exact .inl h
          · exact .inr (List.mem_cons_of_mem _ h)
    · rcases List.mem_cons.1 h with h | h
      · exact .inr (by rw [h]; exact List.mem_cons_self ..)
      · rcases dbl_mem h with h | h
        · exact .inl h
        · exact .inr (List.mem_cons_of_mem _ h)
end P25
namespace Go.Proofs.YtmoippbmnanajaaGreatDoor
open Go.RowKit Go.Lib
theorem x_cases {x : V} (h : isX x = true) : x = ⟨0, 0, ⟨#[]⟩⟩ ∨ x = ⟨1, 0, ⟨#[]⟩⟩ ∨ x = ⟨1, 1, ⟨#[]⟩⟩ ∨ (∃ n, x = ⟨2, n, ⟨#[]⟩⟩) ∨ (∃ s : List UInt8, x = ⟨3, 0, ⟨s.toArray⟩⟩) := by
  obtain ⟨k, i, ⟨s⟩⟩ := x
  unfold isX P6.isV at h
  dsimp only at h
  have hs : ∀ s : Array UInt8, s.toList = [] → s = #[] := fun s e => Array.ext' e
  split at h
  · rename_i hk
    simp only [Bool.and_eq_true, beq_iff_eq] at h
    rw [hk, h.1, hs s h.2]; exact .inl rfl
  · split at h
    · rename_i hk
      simp only [Bool.and_eq_true, Bool.or_eq_true, beq_iff_eq] at h
      rw [hk, hs s h.2]
      rcases h.1 with e | e
      · rw [e]; exact .inr (.inl rfl)
      · rw [e]; exact .inr (.inr (.inl rfl))
    · split at h
      · rename_i hk
        simp only [beq_iff_eq] at h
        rw [hk, hs s h]; exact .inr (.inr (.inr (.inl ⟨i, rfl⟩)))
      · split at h
        · rename_i hk
          simp only [Bool.and_eq_true, beq_iff_eq] at h
          rw [hk, h.1.1]; exact .inr (.inr (.inr (.inr ⟨s.toList, by simp⟩)))
        · cases h
theorem print_int (n : Int) : printX ⟨2, n, ⟨#[]⟩⟩ = itoa n := by simp [printX, P6.printV, P6.isV]
theorem print_text {s : List UInt8} (h : isX ⟨3, 0, ⟨s.toArray⟩⟩ = true) : printX ⟨3, 0, ⟨s.toArray⟩⟩ = P6.quote s := by
  unfold isX at h
  unfold printX P6.printV
  rw [if_pos h]
  simp
theorem firm_of {t : List UInt8} (h0 : t ≠ []) (h : ∀ b ∈ t, b ≠ 32) : P25.Firm t where
  first := by
    match t, h0 with
    | c :: r, _ => exact ⟨c, r, rfl, h c (List.mem_cons_self ..)⟩
  last := by
    rcases List.eq_nil_or_concat t with rfl | ⟨u, d, rfl⟩
    · exact absurd rfl h0
    · exact ⟨u, d, by simp, h d (by simp)⟩
theorem itoa_not {n : Int} {c : UInt8} (h1 : c ≠ 45) (h2 : ¬ (48 ≤ c.toNat ∧ c.toNat ≤ 57)) : ∀ b ∈ itoa n, b ≠ c := by
  rintro b hb rfl
  rcases (P25.itoa_mem n).2 b hb with h | h
  · exact h1 h
  · exact h2 h
theorem print_firm {x : V} (h : isX x = true) : P25.Firm (printX x) ∧ ∀ r, printX x = 39 :: r → ∃ u, printX x = u ++ [39] := by
  rcases x_cases h with rfl | rfl | rfl | ⟨n, rfl⟩ | ⟨s, rfl⟩
  · exact ⟨firm_of (t := [78, 85, 76, 76]) (by decide) (by decide), fun r e => by cases e⟩
  · exact ⟨firm_of (t := [70, 65, 76, 83, 69]) (by decide) (by decide), fun r e => by cases e⟩
  · exact ⟨firm_of (t := [84, 82, 85, 69]) (by decide) (by decide), fun r e => by cases e⟩
  · rw [print_int]
    exact ⟨firm_of (P25.itoa_mem n).1 (itoa_not (by decide) (by decide)), fun r e => absurd rfl (itoa_not (n := n) (c := 39) (by decide) (by decide) 39 (by rw [e]; exact List.mem_cons_self ..))⟩
  · rw [print_text h]
    exact ⟨⟨⟨39, _, rfl, by decide⟩, ⟨39 :: P6.dbl s, 39, rfl, by decide⟩⟩, fun r _ => ⟨39 :: P6.dbl s, rfl⟩⟩
theorem cand_print {x : V} (h : isX x = true) (hi : -9223372036854775808 ≤ x.i ∧ x.i ≤ 9223372036854775807) : cand (printX x) = some x := by
  rcases x_cases h with rfl | rfl | rfl | ⟨n, rfl⟩ | ⟨s, rfl⟩
  · rfl
  · rfl
  · rfl
  · rw [print_int]
    unfold cand
    have no : ∀ (c : UInt8) (r : List UInt8), c ≠ 45 → ¬ (48 ≤ c.toNat ∧ c.toNat ≤ 57) → itoa n ≠ c :: r := fun c r h1 h2 e => itoa_not h1 h2 c (by rw [e]; exact List.mem_cons_self ..) rfl
    rw [if_neg (no _ _ (by decide) (by decide)), if_neg (no _ _ (by decide) (by decide)), if_neg (no _ _ (by decide) (by decide))]
    have hp : hasPrefix (itoa n) [39] = false := by
      cases hd : itoa n with
      | nil => rfl
      | cons c r =>
        have hc : c ≠ 39 := fun e => no 39 r (by decide) (by decide) (by rw [hd, e])
        simp [hasPrefix, List.isPrefixOf]
        exact fun e => hc e.symm
    rw [if_neg (by rw [hp]; decide), parseIntB_64, P25.atoi_itoa n hi.1 hi.2]
  · rw [print_text h]
    unfold cand P6.quote
    rw [if_neg (fun e => by cases e), if_neg (fun e => by cases e), if_neg (fun e => by cases e), if_pos (by simp [hasPrefix, List.isPrefixOf])]
    rw [if_neg (by simp)]
    have e : (((39 : UInt8) :: (P6.dbl s ++ [39])).drop 1).take ((39 :: (P6.dbl s ++ [39])).length - 2) = P6.dbl s := by
      rw [List.drop_succ_cons, List.drop_zero, show ((39 : UInt8) :: (P6.dbl s ++ [39])).length - 2 = (P6.dbl s).length by simp, List.take_left]
    rw [e, P25.replaceAll_undbl]
theorem lit_print {x : V} (h : isX x = true) (hi : -9223372036854775808 ≤ x.i ∧ x.i ≤ 9223372036854775807) : lit (printX x) = some x := by
  unfold lit
  rw [cand_print h hi]
  simp only
  rw [if_pos ⟨h, trivial⟩]
/-- A text without what looks like a table's lines. -/
def textOk (x : V) : Bool := x.s.data.toList.all fun c => !(c == 10) && !(c == 124)
theorem print_ten {x : V} (h : isX x = true) (ht : textOk x = true) : ∀ b ∈ printX x, b ≠ 10 := by
  rcases x_cases h with rfl | rfl | rfl | ⟨n, rfl⟩ | ⟨s, rfl⟩
  · exact (by decide : ∀ b ∈ ([78, 85, 76, 76] : List UInt8), b ≠ 10)
  · exact (by decide : ∀ b ∈ ([70, 65, 76, 83, 69] : List UInt8), b ≠ 10)
  · exact (by decide : ∀ b ∈ ([84, 82, 85, 69] : List UInt8), b ≠ 10)
  · rw [print_int]; exact itoa_not (by decide) (by decide)
  · rw [print_text h]
    intro b hb
    unfold P6.quote at hb
    rcases List.mem_cons.1 hb with rfl | hb
    · decide
    · rcases List.mem_append.1 hb with hb | hb
      · rcases P25.dbl_mem hb with rfl | hb
        · decide
        · unfold textOk at ht
          rw [List.all_eq_true] at ht
          have := ht b hb
          simp only [Bool.and_eq_true, Bool.not_eq_true', beq_eq_false_iff_ne] at this
          exact this.1
      · simp only [List.mem_cons, List.not_mem_nil, or_false] at hb
        subst hb; decide
theorem valsB_ok : ∀ (C : List (List UInt8)) (l : List V), C.length = l.length → (∀ (i : Nat) (s : List UInt8) (x : V), C[i]? = some s → l[i]? = some x → P25.spaced (printX x) s) → (∀ x ∈ l, isX x = true) → IOk l → vals C = some l
  | [], [], _, _, _, _ => rfl
  | [], _ :: _, h, _, _, _ => by simp at h
  | _ :: _, [], h, _, _, _ => by simp at h
  | s :: C, x :: l, h, hs, hx, hi => by
    have hxx := hx x (List.mem_cons_self ..)
    obtain ⟨f1, f2⟩ := print_firm hxx
    rw [vals, P25.inner_ok f1 (hs 0 s x rfl rfl) f2, lit_print hxx (hi x (List.mem_cons_self ..)),
      valsB_ok C l (by simpa using h) (fun i s' x' h1 h2 => hs (i + 1) s' x' (by simpa using h1) (by simpa using h2)) (fun y hy => hx y (List.mem_cons_of_mem _ hy)) (fun y hy => hi y (List.mem_cons_of_mem _ hy))]
    rfl
theorem rowInB_ok (C : List (List UInt8)) (l : List V) (h : C.length = l.length) (hs : ∀ (i : Nat) (s : List UInt8) (x : V), C[i]? = some s → l[i]? = some x → P25.spaced (printX x) s) (hx : ∀ x ∈ l, isX x = true) (hi : IOk l) : rowIn C = some l := by
  unfold rowIn
  rw [P25.dropBlank_keep, valsB_ok C l h hs hx hi]
  intro s hm
  obtain ⟨i, hi'⟩ := List.mem_iff_getElem?.1 hm
  have hlt : i < l.length := by have := (List.getElem?_eq_some_iff.1 hi').1; omega
  exact P25.blank_no (print_firm (hx _ (List.getElem_mem hlt))).1 (hs i s _ hi' (List.getElem?_eq_getElem hlt))
/-- May an answer come back from its table? -/
def nameByte (c : UInt8) : Bool := decide (32 < c.toNat) && !decide (c.toNat = 124) && !decide (c.toNat = 45) && !decide (c.toNat = 43) && !decide (c.toNat = 39) && decide (c.toNat ≤ 126)
def nameOk (x : List UInt8) : Bool := x.all nameByte
def rowOk (n : Nat) (r : List V) : Bool := decide (r.length = n) && r.all fun x => isX x && textOk x
def fitA (a : Ans) : Bool := if a.names = [] then a.rows.isEmpty else (a.names.all fun x => !x.isEmpty && nameOk x) && decide (a.n = 0) && a.rows.all (rowOk a.names.length)
/-- The lines of a table. -/
def tline (cs : List (Nat × Bool)) (l : List (List UInt8)) : List UInt8 := trimRightB (join (P25.pads cs l) P25.bar) 32
theorem table_lines (cs : List (Nat × Bool)) (names : List (List UInt8)) (rows : List (List P25.Cell)) (hr : ∀ r ∈ rows, ∀ c ∈ r, ∀ b ∈ c.2, b ≠ 10) :
    linesOf (P25.tableOf cs names rows) = tline cs (names.map P25.clean) :: join (P25.rules cs) P25.cross :: (rows.map fun r => tline cs (P25.cells r names.length)) ++ [[]] := by
  have e : P25.tableOf cs names rows = ((tline cs (names.map P25.clean) :: join (P25.rules cs) P25.cross :: (rows.map fun r => tline cs (P25.cells r names.length))).map (· ++ [10])).flatten ++ [] := by
    unfold P25.tableOf P25.lines P25.line tline
    simp [List.map_map, Function.comp_def]
  unfold linesOf
  rw [e, P25.split_flat [10] (by decide) [] rfl]
  intro x hx
  apply (P25.line_ok x _).1
  rcases List.mem_cons.1 hx with rfl | hx
  · exact P25.line_ten _ _ fun t ht => by obtain ⟨y, -, rfl⟩ := List.mem_map.1 ht; exact P25.clean_ten y
  · rcases List.mem_cons.1 hx with rfl | hx
    · exact P25.rule_ten _
    · obtain ⟨r, hrm, rfl⟩ := List.mem_map.1 hx
      refine P25.line_ten _ _ fun t ht => ?_
      obtain ⟨j, -, rfl⟩ := List.mem_map.1 ht
      unfold P25.text
      split
      · rename_i c hc
        exact hr r hrm c (List.mem_of_getElem? hc)
      · intro b hb; cases hb
theorem rowOf_ten (rows : List (List V)) : ∀ r ∈ rows.map rowOf, ∀ c ∈ r, ∀ b ∈ c.2, b ≠ 10 := by
  intro r hr c hc
  obtain ⟨l, -, rfl⟩ := List.mem_map.1 hr
  obtain ⟨x, -, rfl⟩ := List.mem_map.1 hc
  exact P25.clean_ten _
theorem widths_rules (cs : List (Nat × Bool)) (h : cs ≠ []) : widths (join (P25.rules cs) P25.cross) = cs.map Prod.fst := by
  unfold widths
  rw [P25.split_join P25.cross (by decide) _ (by simpa [P25.rules] using h)]
  · simp [P25.rules, Function.comp_def]
  · intro x hx
    obtain ⟨c, -, rfl⟩ := List.mem_map.1 hx
    exact (P25.rule_ok _).1
  · intro x hx
    obtain ⟨c, -, rfl⟩ := List.mem_map.1 hx
    exact (P25.rule_ok _).2
theorem name_firm {x : List UInt8} (h : (!x.isEmpty && nameOk x) = true) : P25.Firm x ∧ P25.clean x = x ∧ ∀ b ∈ x, b ≠ 32 := by
  simp only [Bool.and_eq_true, Bool.not_eq_true', List.isEmpty_eq_false_iff, nameOk, nameByte, List.all_eq_true, decide_eq_true_eq] at h
  have h32 : ∀ b ∈ x, b ≠ 32 := fun b hb e => by
    have := (h.2 b hb).1.1.1.1.1
    subst e
    revert this; decide
  have h10 : ∀ b ∈ x, b ≠ 10 := fun b hb e => by
    have := (h.2 b hb).1.1.1.1.1
    subst e
    revert this; decide
  exact ⟨firm_of h.1 h32, P25.clean_same h10, h32⟩
theorem row_parts {n : Nat} {r : List V} (h : rowOk n r = true) : r.length = n ∧ ∀ x ∈ r, isX x = true ∧ textOk x = true := by
  simp only [rowOk, Bool.and_eq_true, decide_eq_true_eq, List.all_eq_true] at h
  exact h
/-- A row's line, read again. -/
theorem row_back (names : List (List UInt8)) (rows : List (List P25.Cell)) (l : List V) (hn : names ≠ []) (hm : rowOf l ∈ rows) (h : rowOk names.length l = true) (hi : IOk l) :
    ∃ C, P25.cut 0 (tline (P25.cols names rows) (P25.cells (rowOf l) names.length)) ((P25.cols names rows).map Prod.fst) = some C ∧ rowIn C = some l := by
  obtain ⟨hl, hx⟩ := row_parts h
  have hat : ∀ (i : Nat) (x : V) (t : List UInt8), l[i]? = some x → (P25.cells (rowOf l) names.length)[i]? = some t → t = printX x := fun i x t h1 h2 => by
    have hil : i < l.length := (List.getElem?_eq_some_iff.1 h1).1
    rw [P25.cells_at _ _ _ (by omega)] at h2
    cases h2
    have hxx := hx x (List.mem_of_getElem? h1)
    rw [P25.text_some (c := cellOf x) (by simp [rowOf, h1])]
    exact P25.clean_same (print_ten hxx.1 hxx.2)
  obtain ⟨C, h1, h2, h3⟩ := P25.cut_line (P25.cols names rows) (P25.cells (rowOf l) names.length) 0 (by rw [P25.cols_length, P25.cells_length]) (fun i c t hc ht => by
    refine ⟨P25.text_wide names rows _ hm i c t hc ht, ?_⟩
    have hil : i < l.length := by have := (List.getElem?_eq_some_iff.1 ht).1; rw [P25.cells_length] at this; omega
    rw [hat i l[i] t (List.getElem?_eq_getElem hil) ht]
    exact (print_firm (hx _ (List.getElem_mem hil)).1).1) (fun e => hn (by have := congrArg List.length e; rw [P25.cells_length] at this; exact List.eq_nil_of_length_eq_zero this))
  rw [if_pos rfl, List.nil_append] at h1
  refine ⟨C, h1, rowInB_ok C l (by rw [h2, P25.cells_length, hl]) (fun i s x hs hxi => ?_) (fun x hx' => (hx x hx').1) hi⟩
  have hil : i < l.length := (List.getElem?_eq_some_iff.1 hxi).1
  have ht : (P25.cells (rowOf l) names.length)[i]? = some (P25.text (rowOf l) i) := P25.cells_at _ _ _ (by omega)
  have := h3 i s _ hs ht
  rwa [hat i x _ hxi ht] at this
theorem rows_back (names : List (List UInt8)) (rows : List (List P25.Cell)) (hn : names ≠ []) : ∀ L : List (List V), (∀ l ∈ L, rowOf l ∈ rows ∧ rowOk names.length l = true ∧ IOk l) →
    rowsIn ((P25.cols names rows).map Prod.fst) (L.map fun l => tline (P25.cols names rows) (P25.cells (rowOf l) names.length)) = some L
  | [], _ => rfl
  | l :: L, h => by
    obtain ⟨h1, h2, h3⟩ := h l (List.mem_cons_self ..)
    obtain ⟨C, hc, hr⟩ := row_back names rows l hn h1 h2 h3
    rw [List.map_cons, rowsIn, hc]
    simp only
    rw [hr]
    simp only
    rw [rows_back names rows hn L fun l' hl' => h l' (List.mem_cons_of_mem _ hl')]
    rfl
/-- AN ANSWER THAT FITS COMES BACK FROM ITS TABLE. -/
theorem fit_back (a : Ans) (h : fitA a = true) (hi : ∀ l ∈ a.rows, IOk l) (h0 : -9223372036854775808 ≤ a.n) (h1 : a.n ≤ 9223372036854775807) : parse (tableA a) = some a := by
  have hg : guess (tableA a) = some a ∧ (a.names.any fun x => contains x [32]) = false ∧ (a.rows.any fun r => r.any partX) = false := by
    obtain ⟨names, rows, n⟩ := a
    unfold fitA at h
    dsimp only at h hi h0 h1 ⊢
    by_cases hn : names = []
    · subst hn
      rw [if_pos rfl, List.isEmpty_iff] at h
      subst h
      refine ⟨?_, rfl, rfl⟩
      have hl : linesOf (tableA ⟨[], [], n⟩) = [itoa n, []] := by
        have := P25.split_flat [10] (by decide) [] rfl [itoa n] fun x hx => by
          simp only [List.mem_cons, List.not_mem_nil, or_false] at hx
          subst hx
          exact (P25.line_ok _ (itoa_not (by decide) (by decide))).1
        simpa [linesOf, tableA, P25.table] using this
      unfold guess
      rw [hl, if_pos (show [itoa n, []].length = 2 from rfl), List.getD_cons_zero, P25.atoi_itoa n h0 h1]
    · rw [if_neg hn] at h
      simp only [Bool.and_eq_true, decide_eq_true_eq] at h
      obtain ⟨⟨hnm, rfl⟩, hrw⟩ := h
      rw [List.all_eq_true] at hnm hrw
      have hcs : P25.cols names (rows.map rowOf) ≠ [] := fun e => hn (by have := congrArg List.length e; rw [P25.cols_length] at this; exact List.eq_nil_of_length_eq_zero this)
      have hl := table_lines (P25.cols names (rows.map rowOf)) names (rows.map rowOf) (rowOf_ten rows)
      have ht : tableA ⟨names, rows, 0⟩ = P25.tableOf (P25.cols names (rows.map rowOf)) names (rows.map rowOf) := by unfold tableA P25.table; rw [if_neg hn]
      refine ⟨?_, ?_, ?_⟩
      · unfold guess
        rw [ht, hl]
        rw [if_neg (by simp), if_neg (by simp)]
        simp only [List.cons_append, List.getD_cons_zero, List.getD_cons_succ]
        rw [widths_rules _ hcs]
        obtain ⟨C, c1, c2, c3⟩ := P25.cut_line (P25.cols names (rows.map rowOf)) (names.map P25.clean) 0 (by rw [P25.cols_length, List.length_map]) (fun i c t hc ht => by
          refine ⟨P25.name_wide names _ i c t hc ht, ?_⟩
          rw [List.getElem?_map, Option.map_eq_some_iff] at ht
          obtain ⟨x, hx, rfl⟩ := ht
          obtain ⟨f1, f2, -⟩ := name_firm (hnm x (List.mem_of_getElem? hx))
          rw [f2]; exact f1) (by simpa using hn)
        rw [if_pos rfl, List.nil_append] at c1
        rw [show tline (P25.cols names (rows.map rowOf)) (names.map P25.clean) = trimRightB (join (P25.pads (P25.cols names (rows.map rowOf)) (names.map P25.clean)) P25.bar) 32 from rfl, c1]
        simp only
        have hdrop : (((tline (P25.cols names (rows.map rowOf)) (names.map P25.clean)) :: join (P25.rules (P25.cols names (rows.map rowOf))) P25.cross :: ((rows.map rowOf).map (fun r => tline (P25.cols names (rows.map rowOf)) (P25.cells r names.length)) ++ [[]])).drop 2).take (((tline (P25.cols names (rows.map rowOf)) (names.map P25.clean)) :: join (P25.rules (P25.cols names (rows.map rowOf))) P25.cross :: ((rows.map rowOf).map (fun r => tline (P25.cols names (rows.map rowOf)) (P25.cells r names.length)) ++ [[]])).length - 3) =
            rows.map fun l => tline (P25.cols names (rows.map rowOf)) (P25.cells (rowOf l) names.length) := by
          rw [List.drop_succ_cons, List.drop_succ_cons, List.drop_zero, List.map_map]
          rw [List.take_append_of_le_length (by simp), List.take_of_length_le (by simp)]
          rfl
        have hrows := rows_back names (rows.map rowOf) hn rows fun l hl => ⟨List.mem_map_of_mem hl, hrw l hl, hi l hl⟩
        rw [← hdrop] at hrows
        unfold tline at hrows ⊢
        rw [hrows]
        simp only [Option.some.injEq, Ans.mk.injEq, and_true]
        apply List.ext_getElem?
        intro i
        rw [List.getElem?_map]
        by_cases hil : i < names.length
        · have hC : i < C.length := by rw [c2, List.length_map]; exact hil
          rw [List.getElem?_eq_getElem hC, List.getElem?_eq_getElem hil]
          obtain ⟨f1, f2, -⟩ := name_firm (hnm names[i] (List.getElem_mem hil))
          have := c3 i _ (P25.clean names[i]) (List.getElem?_eq_getElem hC) (by rw [List.getElem?_map, List.getElem?_eq_getElem hil]; rfl)
          rw [f2] at this
          simp only [Option.map_some, Option.some.injEq]
          exact f1.both this
        · rw [List.getElem?_eq_none (by rw [c2, List.length_map]; omega), List.getElem?_eq_none (by omega)]; rfl
      · rw [List.any_eq_false]
        intro x hx
        rw [P25.contains_absent x [32] 32 (by decide) (name_firm (hnm x hx)).2.2]
        decide
      · rw [List.any_eq_false]
        intro r hr
        rw [Bool.not_eq_true, List.any_eq_false]
        intro x hx
        have htx := ((row_parts (hrw r hr)).2 x hx).2
        unfold textOk at htx
        rw [List.all_eq_true] at htx
        simp only [Bool.and_eq_true, Bool.not_eq_true', beq_eq_false_iff_ne] at htx
        unfold partX
        rw [P25.contains_absent _ P25.bar 124 (by decide) (fun b hb => (htx b hb).2), P25.contains_absent _ [10] 10 (by decide) (fun b hb => (htx b hb).1)]
        decide
  unfold parse
  rw [hg.1]
  simp only
  rw [if_pos ⟨trivial, hg.2.1, hg.2.2⟩]
end Go.Proofs.YtmoippbmnanajaaGreatDoor
