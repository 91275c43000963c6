/- Walks: the lexer: from label 0 on: numbers, words. -/
import Derived.Test.YteipafoiogkdoaaDoorLG
set_option linter.unusedSimpArgs false
set_option linter.unusedVariables false
namespace P11
theorem numOf_eq : ∀ (l : List UInt8) (d : UInt8), numOf (l ++ [d]) = l.dropWhile (· == 48) ++ [d]
  | [], d => rfl
  | [c], d => by
    rw [List.cons_append, List.nil_append, numOf, List.dropWhile]
    by_cases h : c = 48
    · subst h; rfl
    · rw [if_neg h]
      have : (c == 48) = false := by simpa using h
      simp [this]
  | c :: e :: l, d => by
    have ih := numOf_eq (e :: l) d
    rw [List.cons_append, List.cons_append, numOf]
    rw [List.cons_append] at ih
    by_cases h : c = 48
    · subst h; rw [if_pos rfl, ih]; rfl
    · rw [if_neg h]
      have : (c == 48) = false := by simpa using h
      rw [List.dropWhile, this]; rfl
theorem step_digit {c : UInt8} {t : List UInt8} (h : digit c = true) : step (c :: t) = .inl (((c :: t).takeWhile digit).length, some (3, numOf ((c :: t).takeWhile digit))) := by
  have hf := digit_first c h
  simp only [Bool.and_eq_true, Bool.not_eq_true', bne_iff_ne] at hf
  obtain ⟨⟨⟨h1, h2⟩, h3⟩, h4⟩ := hf
  rw [step, if_neg (by rw [h1]; decide), if_neg (by simp [List.isPrefixOf]; exact fun h => absurd h.symm h2), if_neg h3, if_neg (by rw [h4]; decide), if_pos h]
theorem step_letter {c : UInt8} {t : List UInt8} (h : letter c = true) : step (c :: t) = .inl (((c :: t).takeWhile alnum).length, some (wordOf ((c :: t).takeWhile alnum))) := by
  have hf := letter_first c h
  simp only [Bool.and_eq_true, Bool.not_eq_true', bne_iff_ne] at hf
  obtain ⟨⟨h1, h2⟩, h3⟩ := hf
  rw [step, if_neg (by rw [h1]; decide), if_neg (by simp [List.isPrefixOf]; exact fun h => absurd h.symm h2), if_neg h3, if_pos h]
  rfl
theorem numOf_take (l : List UInt8) (d : Nat) (h : d < l.length) : numOf (l.take (d + 1)) = (l.take d).dropWhile (· == 48) ++ (l.drop d).take 1 := by
  rw [List.take_succ_eq_append_getElem h, numOf_eq, List.drop_eq_getElem_cons h, List.take_succ_cons, List.take_zero]
/-- What a run is: the bytes up to its end. -/
theorem run_take (p : UInt8 → Bool) (l : List UInt8) (a : Nat) : ((l.drop a).takeWhile p) = (l.drop a).take ((l.drop a).takeWhile p).length := by
  have := List.takeWhile_prefix (l := l.drop a) p
  exact (List.prefix_iff_eq_take.1 this)
end P11
namespace Go.Proofs.YteipafoiogkdoaaDoor
open Go.RowKit Go.Maps
set_option maxRecDepth 100000 in
set_option maxHeartbeats 1000000 in
theorem pass_digit {w0 : World} {s : ByteArray} {bs B ba n : Nat} {act : Act} {w : World} (W : World) (p : Regrown) (a : Nat) (v : Value) (acc : List P11.Tok) (hw : w = Xk.exw W p) (hW : LW w0 s bs B ba W a) (hs : s.size ≤ 4096)
    (hn : n = 2 * (s.size - a) + 1) (hacc : acc.length ≤ a) (hF : Fr s bs B ba v act) (hrow : (Xk.exw W p).ownsRow W.heap.size 31 3 v acc.length (tokCells acc)) (hT : P11.toks s.data.toList 0 = P11.after acc (P11.toks (s.data.toList.drop a) a)) (hlt : a < s.size) (hc : P11.digit s[a] = true) : Pass w0 s bs B ba n 0 act w := by
  have hf := P11.digit_first s[a] hc
  simp only [Bool.and_eq_true, Bool.not_eq_true', bne_iff_ne] at hf
  obtain ⟨⟨⟨hb, hf2⟩, hf3⟩, hf4⟩ := hf
  have nb : ((s[a].toNat : Int) == 32) = false ∧ ((s[a].toNat : Int) == 9) = false ∧ ((s[a].toNat : Int) == 10) = false ∧ ((s[a].toNat : Int) == 13) = false := not_blank hb
  obtain ⟨nb1, nb2, nb3, nb4⟩ := nb
  have hd := drop_at s a hlt
  have hp : ([45, 45] : List UInt8).isPrefixOf (s.data.toList.drop a) = false := by rw [hd]; simp [List.isPrefixOf]; exact fun h => absurd h.symm hf2
  have hpre := fun w => pre_any s ⟨#[45, 45]⟩ a w
  rw [show (⟨#[45, 45]⟩ : ByteArray).data.toList = [45, 45] from rfl, hp] at hpre
  have HX := Lib.hid hpre
  have h39 : ((s[a].toNat : Int) == 39) = false := ne_byte hf3 39 rfl
  have hL := fun w => letter_any s[a] w
  rw [hf4] at hL
  have HL := Lib.hid hL
  have hD := fun w => digit_any s[a] w
  rw [hc] at hD
  have HD := Lib.hid hD
  have hrun := fun w => run_digit s a (by omega) (by omega) w
  have hlen : 0 < ((s.data.toList.drop a).takeWhile P11.digit).length ∧ a + ((s.data.toList.drop a).takeWhile P11.digit).length ≤ s.size := by
    constructor
    · rw [hd, List.takeWhile, hc]; simp
    · have := (List.takeWhile_prefix (l := s.data.toList.drop a) P11.digit).length_le
      simp at this ⊢; omega
  have hT' : P11.toks s.data.toList 0 = P11.after (acc ++ [⟨3, P11.numOf ((s.data.toList.drop a).takeWhile P11.digit), a⟩]) (P11.toks (s.data.toList.drop (a + ((s.data.toList.drop a).takeWhile P11.digit).length)) (a + ((s.data.toList.drop a).takeWhile P11.digit).length)) := by
    have e := P11.step_digit (t := s.data.toList.drop (a + 1)) hc
    rw [← hd] at e
    rw [hT]
    conv => lhs; rw [hd]
    rw [hd] at e
    rw [P11.after_some e, ← hd, List.drop_drop]
  have hw2 := P11.run_take P11.digit s.data.toList a
  generalize hk : ((s.data.toList.drop a).takeWhile P11.digit).length = k at *
  obtain ⟨d, rfl⟩ : ∃ d, k = d + 1 := ⟨k - 1, by omega⟩
  have hnum : P11.numOf ((s.data.toList.drop a).takeWhile P11.digit) = ((s.data.toList.drop a).take d).dropWhile (· == 48) ++ (s.data.toList.drop (a + d)).take 1 := by
    rw [hw2, P11.numOf_take _ _ (by simp; omega), List.drop_drop]
  rw [hnum, show a + (d + 1) = a + d + 1 by omega] at hT'
  rw [show a + (d + 1) = a + d + 1 by omega] at hlen hrun
  have hdq : d = a + d - a := by omega
  rw [hdq] at hT'
  rw [show a + (a + d - a) = a + d by omega] at hT'
  clear hdq hnum hw2 hk hd hpre hL hD hp hf2 hf3 hf4 hb hc
  obtain ⟨-, hlen⟩ := hlen
  have haq : a ≤ a + d := by omega
  generalize a + d = q at *
  have hT1 := fun w => (Tryd.strings_TrimLeft_one (s.extract a q) 48 (by decide) w).mono (R' := fun e w' => e = .returned (.string ⟨(Lib.trimLeftB (s.extract a q).data.toList 48).toArray⟩) ∧ w = w') fun e w' h => ⟨h.1, h.2.symm⟩
  have e1 : (s.extract a q).data.toList = (s.data.toList.drop a).take (q - a) := Lib.extract_data s a q
  rw [e1] at hT1
  generalize ht : Lib.trimLeftB ((s.data.toList.drop a).take (q - a)) 48 = t at hT1
  have hcat := cat_list t s q (q + 1)
  rw [show q + 1 - q = 1 by omega] at hcat
  have htl : t.length ≤ q := by
    rw [← ht]
    have h1 := (List.dropWhile_suffix (l := (s.data.toList.drop a).take (q - a)) (· == 48)).length_le
    have h2 := List.length_take_le (q - a) (s.data.toList.drop a)
    show (List.dropWhile _ _).length ≤ q
    omega
  have hT2 : P11.toks s.data.toList 0 = P11.after (acc ++ [⟨3, t ++ (s.data.toList.drop q).take 1, a⟩]) (P11.toks (s.data.toList.drop (q + 1)) (q + 1)) := by
    rw [← ht]; exact hT'
  have HT' := Lib.hid hT2
  have HC := Lib.hid hcat
  have HRun := Lib.hid hrun
  have HTr := Lib.hid hT1
  clear hT' hT2 hcat hrun hT1 ht e1
  obtain ⟨i0, hi, hz0, hz1, hz2⟩ := info_parts Tryd.infoTok
  have Hi := Lib.hid hi
  have Hz0 := Lib.hid hz0
  have Hz1 := Lib.hid hz1
  have Hz2 := Lib.hid hz2
  clear hi hz0 hz1 hz2
  subst hw
  unfold Fr at hF
  obtain ⟨f, rfl⟩ := hF
  unfold Pass
  generalize hQ : bodyPost Tryd.prog Tryd.f8 (LexPost s w0) = Q
  have HQ := Lib.hid hQ
  clear hQ
  generalize hJL : (fun (l' : Nat) (a' : Act) (w' : World) => ∃ m, m < n ∧ JL w0 s bs B ba m l' a' w') = J
  have HJ := Lib.hid hJL
  clear hJL
  unfold scopeCode Tryd.f8
  simp only [findLabel]
  refine ⟨_, rfl, ?_⟩
  have cs := hW.cs
  have ca := hW.ca
  have fa := hW.fa
  have ls := hW.ls
  have la := hW.la
  have HW := Lib.hid hW
  have HN := Lib.hid hn
  have HR := Lib.hid hrow
  have HT := Lib.hid hT
  clear hW hn hrow hT
  have hb8 : (s[a].toNat : Int) < 256 := by have := s[a].toNat_lt; omega
  go_wp2_with (first | (go_at_call 16; (with_reducible refine (HX.out _).mono ?_); rintro e w' ⟨rfl, rfl⟩) | (go_at_call 17; (with_reducible refine (HL.out _).mono ?_); rintro e w' ⟨rfl, rfl⟩) | (go_at_call 20; (with_reducible refine (HD.out _).mono ?_); rintro e w' ⟨rfl, rfl⟩) | (go_at_call 18; (with_reducible refine (HRun.out _).mono ?_); rintro e w' ⟨rfl, rfl⟩))
  have q1 : IntKind.i64.wrap (q : Int) = (q : Int) := IntWalk.i64_in _ (by omega)
  have q2 : (a : Int) ≤ (q : Int) := by omega
  have q3 : (q : Int) + 1 ≤ (s.size : Int) := by omega
  have q4 : (q : Int) ≤ (s.size : Int) := by omega
  have q5 : ((q : Int) + 1).toNat = q + 1 := by omega
  have q6 : (q : Int) ≤ (q : Int) + 1 := by omega
  have q7 : ¬ 9223372036854775807 < t.length + 1 := by omega
  refine Xk.wp_region_rel' 13 [] trivial (by kernel_rfl) (by kernel_rfl) ?_
  simp only [List.take_succ_cons, List.take_zero, List.drop_succ_cons, List.drop_zero]
  repeat (first
    | (refine Xk.rel_det (Xk.wanted_none (by rfl)) (by rfl) (fun K hK => ?_); apply Exists.intro; refine ⟨fun p hp => ?_, ?_⟩; (go_simp; first | exact ⟨rfl, rfl⟩ | ((try refine ⟨by kernel_rfl, ?_⟩); (first | (go_at_call 22; ((with_reducible refine (HTr.out _).mono ?_); exact fun e w' h => ⟨h.1, by rw [← h.2]; exact Below.refl _ _⟩))))); (go_simp; refine hK _ ?_; clear hK K))
    | (refine Xk.rel_skip (by rfl) (fun K hK => ?_); go_simp; refine hK _ ?_; clear hK K)
    | (refine Xk.rel_det (by rfl) (by rfl) (fun K hK => ?_); apply Exists.intro; refine ⟨fun p hp => ?_, ?_⟩; (go_simp; first | exact ⟨rfl, rfl⟩ | ((try refine ⟨by kernel_rfl, ?_⟩); (first | (go_at_call 22; ((with_reducible refine (HTr.out _).mono ?_); exact fun e w' h => ⟨h.1, by rw [← h.2]; exact Below.refl _ _⟩))))); (go_simp; refine hK _ ?_; clear hK K)))
  refine Xk.rel_nil (fun p _ => ?_)
  clear q1 q5 q7
  go_wp2_with (first | (at_builtin; refine Xk.wpList_own (w0 := W) rfl _ _ 26 rfl 31 i0 _ 3 32 Tryd.underlying26 Hi.out Hz0.out Hz1.out Hz2.out rfl (by decide) v acc.length (tokCells acc) rfl (by repeat (first | with_reducible exact HR.out | with_reducible refine Xk.own_alloc ?_ _ | with_reducible refine Xk.own_drew ?_ | with_reducible exact Xk.own_d HR.out | with_reducible refine Xk.own_more (d := 0) ?_)) _ 0 1 1 [.int .i64 3, .string (⟨t.toArray⟩ ++ s.extract q (q + 1)), .int .i64 a] rfl rfl (Xk.cells3 (by simp)) (by intro u hu; simp only [List.mem_cons, List.not_mem_nil, or_false] at hu; rcases hu with rfl | rfl | rfl <;> rfl) (by omega) (by repeat (first | with_reducible exact Below.refl _ _ | ((with_reducible refine Below.setCell ?_ ?_ _); rotate_left; exact (by (try simp only [World.size_alloc, Xk.exw_size, World.size_setCell, World.size_drew, World.heap_drewN]); omega)) | ((with_reducible refine Below.alloc ?_ ?_ _); rotate_left; exact (by (try simp only [World.size_alloc, Xk.exw_size, World.size_setCell, World.size_drew, World.heap_drewN]); omega)) | ((with_reducible refine Xk.below_exw ?_ ?_ _); rotate_left; exact (by (try simp only [World.size_alloc, Xk.exw_size, World.size_setCell, World.size_drew, World.heap_drewN]); omega)) | (with_reducible refine Below.drew ?_))) ?_; intro v' p' ho'; have Ho := Lib.hid ho'; clear ho'))
  go_step3
  simp only [Exit.inBlock, Exit.then, Xk.jumps_goto, ↓reduceIte]
  rw [← HJ.out]
  have ho : (Xk.exw W p').ownsRow W.heap.size 31 3 v' (acc ++ [(⟨3, t ++ (s.data.toList.drop q).take 1, a⟩ : P11.Tok)]).length (tokCells (acc ++ [(⟨3, t ++ (s.data.toList.drop q).take 1, a⟩ : P11.Tok)])) := by
    rw [tokCells_snoc, List.length_append]
    have := Ho.out
    rw [HC.out] at this
    exact this
  exact goto0 HW.out (q + 1) (by rw [HN.out]; omega) (by omega) (by omega) rfl (by rw [List.length_append, List.length_singleton]; omega) (Fr.of (by kernel_rfl)) ho HT'.out
end Go.Proofs.YteipafoiogkdoaaDoor
