/- Walks: the reference's lexer. -/
import Derived.Test.YtlpcdpkgnfdpeaaGreatDoorSD
set_option linter.unusedSimpArgs false
set_option linter.unusedVariables false
set_option maxRecDepth 100000
set_option maxHeartbeats 80000000
namespace P11
theorem lo_up (c : UInt8) : Go.Lib.lowerB (Go.Lib.upperB c) = Go.Lib.lowerB c := by simpa using u8_all (p := fun c => Go.Lib.lowerB (Go.Lib.upperB c) == Go.Lib.lowerB c) (by decide +kernel) c
theorem numOf_zero {l : List UInt8} {z k : Nat} (h1 : z + 1 < k) (h2 : k ≤ l.length) (h : l.getD z 0 = 48) : numOf ((l.drop z).take (k - z)) = numOf ((l.drop (z + 1)).take (k - (z + 1))) := by
 have e1 : l.drop z = 48 :: l.drop (z + 1) := by
  rw [List.drop_eq_getElem_cons (show z < l.length by omega)]
  rw [List.getD_eq_getElem?_getD, List.getElem?_eq_getElem (show z < l.length by omega)] at h
  congr 1
 have e2 : l.drop (z + 1) = l[z + 1]'(by omega) :: l.drop (z + 1 + 1) := List.drop_eq_getElem_cons (by omega)
 obtain ⟨m, hm⟩ : ∃ m, k - z = m + 2 := ⟨k - z - 2, by omega⟩
 rw [e1, hm, List.take_succ_cons, e2, List.take_succ_cons, numOf, if_pos rfl, show k - (z + 1) = m + 1 by omega, List.take_succ_cons]
theorem numOf_stop {l : List UInt8} {z k : Nat} (h1 : z < k) (h2 : k ≤ l.length) (h : ¬ (z + 1 < k ∧ l.getD z 0 = 48)) : numOf ((l.drop z).take (k - z)) = (l.drop z).take (k - z) := by
 have e1 : l.drop z = l[z]'(by omega) :: l.drop (z + 1) := List.drop_eq_getElem_cons (by omega)
 obtain ⟨m, hm⟩ : ∃ m, k - z = m + 1 := ⟨k - z - 1, by omega⟩
 rw [e1, hm, List.take_succ_cons]
 cases m with
 | zero => simp [numOf]
 | succ m =>
  have e2 : l.drop (z + 1) = l[z + 1]'(by omega) :: l.drop (z + 1 + 1) := List.drop_eq_getElem_cons (by omega)
  have hne : ¬ l[z]'(by omega) = 48 := fun e => h ⟨by omega, by rw [List.getD_eq_getElem?_getD, List.getElem?_eq_getElem (show z < l.length by omega)]; exact e⟩
  rw [e2, List.take_succ_cons, numOf, if_neg hne]
end P11
namespace Go.Proofs.YtlpcdpkgnfdpeaaGreatDoor
open Go.RowKit Go.Maps
theorem getD_at (s : ByteArray) (k : Nat) (h : k < s.size) : s.data.toList.getD k 0 = s[k] := by rw [List.getD_eq_getElem?_getD, List.getElem?_eq_getElem (show k < s.data.toList.length from h)]; rfl
theorem run_more {p : UInt8 → Bool} {l : List UInt8} {a k : Nat} (H3 : ∀ j (h : j < l.length), a ≤ j → j < k → p l[j] = true) (h : ∀ h : k < l.length, p l[k] = true) : ∀ j (h : j < l.length), a ≤ j → j < k + 1 → p l[j] = true := fun j hj h5 h6 => by
 by_cases hjk : j = k
 ·subst hjk; exact h hj
 ·exact H3 j hj h5 (by omega)
theorem end_not {p : UInt8 → Bool} {s : ByteArray} {k : Nat} (hk : ¬ (k < s.size ∧ p (s.data.toList.getD k 0) = true)) (h : k < s.data.toList.length) : p s.data.toList[k] = false := by
 cases e : p s.data.toList[k]
 ·rfl
 ·exact absurd ⟨h, (congrArg p (getD_at s k h)).trans e⟩ hk
def casedL (cap : Bool) (l : List UInt8) : List UInt8 := l.map (caseB cap)
theorem casedL_length (cap : Bool) (l : List UInt8) : (casedL cap l).length = l.length := by simp [casedL]
theorem wordOf_true {u : List UInt8} (h : wordB (casedL true u) = true) : P11.wordOf u = (2, casedL true u) := by
 unfold P11.wordOf
 rw [show u.map Lib.upperB = casedL true u from rfl, if_pos (show P11.words.contains (casedL true u) = true from h)]
theorem wordOf_false {u : List UInt8} (h : wordB (casedL true u) = false) : P11.wordOf u = (1, casedL false (casedL true u)) := by
 unfold P11.wordOf
 rw [show u.map Lib.upperB = casedL true u from rfl, if_neg (show ¬ P11.words.contains (casedL true u) = true from by rw [show P11.words.contains (casedL true u) = false from h]; decide)]
 congr 1
 simp only [casedL, List.map_map]
 exact List.map_congr_left fun c _ => (P11.lo_up c).symm
structure RefW (s : ByteArray) (w : World) (a : Nat) (v : Value) (acc : List P11.Tok) (wr : World) : Prop where
 below : Below w.heap.size w wr
 own : wr.ownsRow w.heap.size 82 3 v acc.length (tokCells acc)
 toks : P11.toks s.data.toList 0 = P11.after acc (P11.toks (s.data.toList.drop a) a)
 la : acc.length ≤ a
theorem RefW.skip {s : ByteArray} {w wr : World} {a n : Nat} {v : Value} {acc : List P11.Tok} {c : UInt8} {t : List UInt8} (h : RefW s w a v acc wr) (hd : s.data.toList.drop a = c :: t) (hs : P11.step (c :: t) = .inl (n, none)) : RefW s w (a + n) v acc wr where
 below := h.below
 own := h.own
 toks := by rw [h.toks, hd, P11.after_none hs, ← hd, List.drop_drop]
 la := by have := h.la; omega
theorem RefW.tok {s : ByteArray} {w wr : World} {p' : Regrown} {a n : Nat} {v v' : Value} {acc : List P11.Tok} {c : UInt8} {t : List UInt8} {k : Int} {u : List UInt8} (h : RefW s w a v acc wr) (hd : s.data.toList.drop a = c :: t) (hs : P11.step (c :: t) = .inl (n, some (k, u)))
  (ho : (Xk.exw w p').ownsRow w.heap.size 82 3 v' (acc.length + 1) (tokCells acc ++ [.int .i64 k, .string ⟨u.toArray⟩, .int .i64 a])) : RefW s w (a + n) v' (acc ++ [⟨k, u, a⟩]) (Xk.exw w p') where
 below := Xk.ext_exw w p'
 own := by rw [tokCells_snoc, List.length_append]; exact ho
 toks := by rw [h.toks, hd, P11.after_some hs, ← hd, List.drop_drop]
 la := by
  have := h.la
  have := (P11.step_pos hs).1
  rw [List.length_append, List.length_singleton]; dsimp only at this; omega
theorem RefW.err {s : ByteArray} {w wr : World} {a n : Nat} {v : Value} {acc : List P11.Tok} {c : UInt8} {t : List UInt8} {k : Int} (h : RefW s w a v acc wr) (hz : s.size ≤ 4096) (hd : s.data.toList.drop a = c :: t) (hs : P11.step (c :: t) = .inr (n, k)) :
  P11.lexed s.data.toList = .inr (a + n, k) := by
 rw [P11.lexed, if_neg (by show ¬ 4096 < s.size; omega), h.toks, hd, P11.after_err hs]
theorem refTokens_at (s : ByteArray) (w : World) : Calls Tryz.prog 30 #[.string s] w (LexPostR s w) := by
 generalize hQ : LexPostR s w = R
 have HQ := Lib.hid hQ
 clear hQ
 by_cases hs : 4096 < s.size
 ·have s1 : (4096 : Int) < (s.size : Int) := by omega
  go_enter Tryz.func30, Tryz.ntmps30
  go_wp2
  go_ret3
  rw [← HQ.out]
  exact ⟨Below.refl _ _, .inr ⟨0, 110, by rw [P11.lexed, if_pos (show 4096 < s.data.toList.length from hs)], rfl⟩⟩
 have s1 : ¬ (4096 : Int) < (s.size : Int) := by omega
 obtain ⟨i0, hi, hz0, hz1, hz2⟩ := info_parts Tryz.infoTok
 have Hi := Lib.hid hi
 have Hz0 := Lib.hid hz0
 have Hz1 := Lib.hid hz1
 have Hz2 := Lib.hid hz2
 clear hi hz0 hz1 hz2
 go_enter Tryz.func30, Tryz.ntmps30
 go_wp2
 go_loopw [5, 6] (fun v x wr => ∃ (a : Nat) (acc : List P11.Tok), a ≤ s.size ∧ x = .int .i64 a ∧ RefW s w a v acc wr) (fun _ x _ => s.size - (intOf x).toNat)
 case atStart => exact ⟨0, [], Nat.zero_le _, rfl, ⟨Below.refl _ _, World.ownsRow_nil _ _ _ _, by rw [P11.after_nil]; rfl, Nat.le_refl _⟩⟩
 case round =>
  obtain ⟨a, acc, ha, rfl, hW⟩ := hrel
  obtain ⟨p, rfl⟩ := Xk.exw_of hW.below
  have hla := hW.la
  have HW := Lib.hid hW
  have HR := Lib.hid hW.own
  clear hW
  by_cases hlt : a < s.size
  ·have hd := drop_at s a hlt
   have hb8 : (s[a].toNat : Int) < 256 := by have := s[a].toNat_lt; omega
   have HD := Lib.hid hd
   cases hb : P11.blank s[a]
   ·have nb : ((s[a].toNat : Int) == 32) = false ∧ ((s[a].toNat : Int) == 9) = false ∧ ((s[a].toNat : Int) == 10) = false ∧ ((s[a].toNat : Int) == 13) = false := not_blank hb
    obtain ⟨nb1, nb2, nb3, nb4⟩ := nb
    cases hp : ([45, 45] : List UInt8).isPrefixOf (s.data.toList.drop a)
    ·by_cases hq : s[a] = 39
     ·as_aux_lemma =>
       have f1 : ((s[a].toNat : Int) == 45) = false := ne_byte (d := 45) (by rw [hq]; decide) 45 rfl
       have f3 : ((s[a].toNat : Int) == 39) = true := eq_byte hq 39 rfl
       have hL := fun w => refLetter_any s[a] w
       rw [show P11.letter s[a] = false by rw [hq]; decide] at hL
       have HL := Lib.hid hL
       have hDg := fun w => refDigit_any s[a] w
       rw [show P11.digit s[a] = false by rw [hq]; decide] at hDg
       have HDg := Lib.hid hDg
       have hdr := hd
       rw [hq] at hdr
       obtain ⟨t, ht, hst⟩ := P11.step_text (r := s.data.toList.drop a) (by rw [hdr]; simp [List.isPrefixOf])
       obtain rfl : s.data.toList.drop (a + 1) = t := by rw [hdr] at ht; exact (List.cons.inj ht).2
       have htx := fun w => refText_any s a hlt hq (by omega) w
       cases hx : P11.textOf (s.data.toList.drop (a + 1)) with
       | none =>
        rw [hx] at hst
        have herr := HW.out.err (Nat.le_of_not_lt hs) ht hst
        rw [show refTextR s.data.toList a = .tuple #[.string ⟨#[]⟩, .int .i64 0, .int .i64 a, .int .i64 112] by unfold refTextR; rw [hx]] at htx
        have HErr := Lib.hid herr
        have HTx := Lib.hid htx
        clear hL hDg htx herr hx hst ht hdr hd hq hp hb
        go_wp2_with (first | (go_at_call 70; (with_reducible refine (HL.out _).mono ?_); rintro e w' ⟨rfl, rfl⟩) | (go_at_call 71; (with_reducible refine (HDg.out _).mono ?_); rintro e w' ⟨rfl, rfl⟩) | (go_at_call 74; with_reducible refine Xk.cl (HTx.out _) fun p => ?_))
        rw [← HQ.out]
        go_ret3
        exact ⟨Xk.xt, .inr ⟨a, 112, HErr.out, rfl⟩⟩
       | some x =>
        obtain ⟨u, k⟩ := x
        rw [hx] at hst
        dsimp only at hst
        have hk := P11.textOf_pos _ _ (Nat.le_refl _) (u, k) hx
        dsimp only at hk
        have hk2 : a + 1 + k ≤ s.size := by simp at hk; omega
        cases hct : (((39 : UInt8) :: s.data.toList.drop (a + 1)).take (k + 1)).contains 0
        ·rw [hct] at hst
         have htok := fun p' v' ho => HW.out.tok (p' := p') (v' := v') ht hst ho
         rw [show refTextR s.data.toList a = .tuple #[.string ⟨u.toArray⟩, .int .i64 ((a + 1 + k : Nat) : Int), .int .i64 0, .int .i64 0] by
          unfold refTextR; rw [hx, ht]; dsimp only; rw [hct]; rfl] at htx
         have HTok := Lib.hid htok
         have HTx := Lib.hid htx
         clear hL hDg htx htok hx hst ht hdr hd hq hp hb hct
         rw [show a + (k + 1) = a + 1 + k by omega] at HTok
         have haq : a < a + 1 + k := by omega
         generalize a + 1 + k = q at *
         go_wp2_with (first | (go_at_call 70; (with_reducible refine (HL.out _).mono ?_); rintro e w' ⟨rfl, rfl⟩) | (go_at_call 71; (with_reducible refine (HDg.out _).mono ?_); rintro e w' ⟨rfl, rfl⟩) | (go_at_call 74; with_reducible refine Xk.cl (HTx.out _) fun p => ?_) | (at_builtin; refine Xk.wpList_own (w0 := w) rfl _ _ 74 rfl 82 i0 _ 3 32 Tryz.underlying74 Hi.out Hz0.out Hz1.out Hz2.out rfl (by decide) u5 acc.length (tokCells acc) rfl (Xs.ow HR.out) _ 0 1 1 [.int .i64 4, .string ⟨u.toArray⟩, .int .i64 a] rfl rfl (Xk.cells3 (by simp)) Xs.m3 (by omega) Xk.xt ?_; intro v' p' ho'; have Ho := Lib.hid ho'; clear ho'))
         go_roundw
         case rel => exact ⟨q, _, hk2, rfl, HTok.out _ _ Ho.out⟩
         case measure => simp [intOf]; omega
        ·rw [hct] at hst
         have herr := HW.out.err (Nat.le_of_not_lt hs) ht hst
         rw [show refTextR s.data.toList a = .tuple #[.string ⟨#[]⟩, .int .i64 0, .int .i64 ((a + (((39 : UInt8) :: s.data.toList.drop (a + 1)).take (k + 1)).idxOf 0 : Nat) : Int), .int .i64 111] by
          unfold refTextR; rw [hx, ht]; dsimp only; rw [hct]; rfl] at htx
         generalize a + (((39 : UInt8) :: s.data.toList.drop (a + 1)).take (k + 1)).idxOf 0 = j at *
         have HErr := Lib.hid herr
         have HTx := Lib.hid htx
         clear hL hDg htx herr hx hst ht hdr hd hq hp hb hct
         go_wp2_with (first | (go_at_call 70; (with_reducible refine (HL.out _).mono ?_); rintro e w' ⟨rfl, rfl⟩) | (go_at_call 71; (with_reducible refine (HDg.out _).mono ?_); rintro e w' ⟨rfl, rfl⟩) | (go_at_call 74; with_reducible refine Xk.cl (HTx.out _) fun p => ?_))
         rw [← HQ.out]
         go_ret3
         exact ⟨Xk.xt, .inr ⟨j, 111, HErr.out, rfl⟩⟩
     ·have f39 : ((s[a].toNat : Int) == 39) = false := ne_byte hq 39 rfl
      have hL := fun w => refLetter_any s[a] w
      have hDg := fun w => refDigit_any s[a] w
      cases hl : P11.letter s[a]
      ·rw [hl] at hL
       have HL := Lib.hid hL
       clear hL
       cases hdg : P11.digit s[a]
       ·as_aux_lemma =>
         rw [hdg] at hDg
         have HDg := Lib.hid hDg
         clear hDg
         have hst := step_plain (t := s.data.toList.drop (a + 1)) hb (by rw [← hd]; exact hp) hq hl hdg
         have dash : ((s[a].toNat : Int) == 45) = false ∨ (∃ h : a + 1 < s.size, ((s[a].toNat : Int) == 45) = true ∧ ((s[a + 1].toNat : Int) == 45) = false) ∨ (((s[a].toNat : Int) == 45) = true ∧ ¬ a + 1 < s.size) := by
          by_cases h45 : s[a] = 45
          ·by_cases ha2 : a + 1 < s.size
           ·refine .inr (.inl ⟨ha2, eq_byte h45 45 rfl, ne_byte (d := 45) (fun e => ?_) 45 rfl⟩)
            rw [hd, drop_at s (a + 1) ha2, h45, e] at hp
            simp [List.isPrefixOf] at hp
           ·exact .inr (.inr ⟨eq_byte h45 45 rfl, ha2⟩)
          ·exact .inl (ne_byte h45 45 rfl)
         by_cases htw : ∃ h : a + 1 < s.size, P11.two s[a] s[a + 1] = true
         ·obtain ⟨ha2, htw⟩ := htw
          have hSg := fun w => refSign_two s a ha2 (by omega) htw w
          rw [show P11.signOf (s[a] :: s.data.toList.drop (a + 1)) = some [s[a], s[a + 1]] by rw [drop_at s (a + 1) ha2]; exact P11.signOf_two _ htw] at hst
          have htok := fun p' v' ho => HW.out.tok (p' := p') (v' := v') hd hst ho
          have HSg := Lib.hid hSg
          have HTok := Lib.hid htok
          have f8 : (s[a + 1].toNat : Int) < 256 := by have := s[a + 1].toNat_lt; omega
          have f3 : (a : Int) + 1 < (s.size : Int) := by omega
          clear hSg htok hst htw hd hp hq hb hl hdg
          generalize hcd : [s[a], s[a + 1]] = u at *
          have hu : u.length = 2 := by rw [← hcd]; rfl
          have hune : ¬ u = [] := by rw [← hcd]; simp
          have hue : u.isEmpty = false := by rw [← hcd]; rfl
          clear hcd
          rcases dash with f1 | ⟨f4, f1, f2⟩ | ⟨f1, f4⟩
          rotate_left 2
          ·omega
          all_goals
           go_wp2_with (first | (go_at_call 70; (with_reducible refine (HL.out _).mono ?_); rintro e w' ⟨rfl, rfl⟩) | (go_at_call 71; (with_reducible refine (HDg.out _).mono ?_); rintro e w' ⟨rfl, rfl⟩) | (go_at_call 75; (with_reducible refine (HSg.out _).mono ?_); rintro e w' ⟨rfl, rfl⟩) | (at_builtin; refine Xk.wpList_own (w0 := w) rfl _ _ 74 rfl 82 i0 _ 3 32 Tryz.underlying74 Hi.out Hz0.out Hz1.out Hz2.out rfl (by decide) u5 acc.length (tokCells acc) rfl (Xs.ow HR.out) _ 0 1 1 [.int .i64 5, .string ⟨u.toArray⟩, .int .i64 a] rfl rfl (Xk.cells3 (by simp)) Xs.m3 (by omega) Xk.xt ?_; intro v' p' ho'; have Ho := Lib.hid ho'; clear ho'))
           go_roundw
           case rel => exact ⟨a + 2, _, by omega, by go_num, by have h := HTok.out _ _ Ho.out; rw [hu] at h; exact h⟩
           case measure => simp [intOf]; omega
         ·have hno : ∀ h : a + 1 < s.size, P11.two s[a] s[a + 1] = false := fun h => by
           cases e : P11.two s[a] s[a + 1]
           ·rfl
           ·exact absurd ⟨h, e⟩ htw
          have hSg := fun w => refSign_one s a hlt (by omega) hno w
          have hso : P11.signOf (s[a] :: s.data.toList.drop (a + 1)) = if s[a] ∈ P11.ones then some [s[a]] else none := by
           by_cases ha2 : a + 1 < s.size
           ·rw [drop_at s (a + 1) ha2]; exact P11.signOf_not _ (hno ha2)
           ·rw [List.drop_of_length_le (show s.data.toList.length ≤ a + 1 from by show s.size ≤ a + 1; omega)]; exact P11.signOf_one _
          rw [hso] at hst
          by_cases hon : s[a] ∈ P11.ones
          ·rw [if_pos hon] at hst
           have htok := fun p' v' ho => HW.out.tok (p' := p') (v' := v') hd hst ho
           rw [show oneR s[a] = ⟨[s[a]].toArray⟩ from if_pos hon] at hSg
           have HSg := Lib.hid hSg
           have HTok := Lib.hid htok
           clear hSg htok hst htw hd hp hq hb hl hdg hso hon hno
           generalize hcd : [s[a]] = u at *
           have hu : u.length = 1 := by rw [← hcd]; rfl
           have hune : ¬ u = [] := by rw [← hcd]; simp
           have hue : u.isEmpty = false := by rw [← hcd]; rfl
           clear hcd
           rcases dash with f1 | ⟨f4, f1, f2⟩ | ⟨f1, f4⟩
           case' inr.inl =>
            have f8 : (s[a + 1].toNat : Int) < 256 := by have := s[a + 1].toNat_lt; omega
            have f3 : (a : Int) + 1 < (s.size : Int) := by omega
           case' inr.inr => have f3 : ¬ (a : Int) + 1 < (s.size : Int) := by omega
           all_goals
            go_wp2_with (first | (go_at_call 70; (with_reducible refine (HL.out _).mono ?_); rintro e w' ⟨rfl, rfl⟩) | (go_at_call 71; (with_reducible refine (HDg.out _).mono ?_); rintro e w' ⟨rfl, rfl⟩) | (go_at_call 75; (with_reducible refine (HSg.out _).mono ?_); rintro e w' ⟨rfl, rfl⟩) | (at_builtin; refine Xk.wpList_own (w0 := w) rfl _ _ 74 rfl 82 i0 _ 3 32 Tryz.underlying74 Hi.out Hz0.out Hz1.out Hz2.out rfl (by decide) u5 acc.length (tokCells acc) rfl (Xs.ow HR.out) _ 0 1 1 [.int .i64 5, .string ⟨u.toArray⟩, .int .i64 a] rfl rfl (Xk.cells3 (by simp)) Xs.m3 (by omega) Xk.xt ?_; intro v' p' ho'; have Ho := Lib.hid ho'; clear ho'))
            go_roundw
            case rel => exact ⟨a + 1, _, by omega, by go_num, by have h := HTok.out _ _ Ho.out; rw [hu] at h; exact h⟩
            case measure => simp [intOf]; omega
          ·rw [if_neg hon] at hst
           have herr := HW.out.err (Nat.le_of_not_lt hs) hd hst
           rw [show oneR s[a] = ⟨#[]⟩ from if_neg hon] at hSg
           have HSg := Lib.hid hSg
           have HErr := Lib.hid herr
           have h45n : ((s[a].toNat : Int) == 45) = false := ne_byte (d := 45) (fun e => hon (by rw [e]; decide)) 45 rfl
           clear hSg herr hst htw hd hp hq hb hl hdg hso hon hno dash
           go_wp2_with (first | (go_at_call 70; (with_reducible refine (HL.out _).mono ?_); rintro e w' ⟨rfl, rfl⟩) | (go_at_call 71; (with_reducible refine (HDg.out _).mono ?_); rintro e w' ⟨rfl, rfl⟩) | (go_at_call 75; (with_reducible refine (HSg.out _).mono ?_); rintro e w' ⟨rfl, rfl⟩))
           rw [← HQ.out]
           go_ret3
           exact ⟨Xk.xt, .inr ⟨a, 111, HErr.out, rfl⟩⟩
       ·as_aux_lemma =>
         have f1 : ((s[a].toNat : Int) == 45) = false := ne_byte (d := 45) (fun e => by rw [e] at hdg; revert hdg; decide) 45 rfl
         rw [hdg] at hDg
         have HDg := Lib.hid hDg
         clear hDg
         have hst := P11.step_digit (t := s.data.toList.drop (a + 1)) hdg
         have htok := fun p' v' ho => HW.out.tok (p' := p') (v' := v') hd hst ho
         rw [← hd] at htok
         have hpos : 0 < ((s.data.toList.drop a).takeWhile P11.digit).length := by rw [hd, List.takeWhile, hdg]; simp
         have hw2 := P11.run_take P11.digit s.data.toList a
         have HTok := Lib.hid htok
         have HW2 := Lib.hid hw2
         have HPos := Lib.hid hpos
         clear htok hst hd hp hq hb hl hw2 hpos
         go_wp2_with (first | (go_at_call 70; (with_reducible refine (HL.out _).mono ?_); rintro e w' ⟨rfl, rfl⟩) | (go_at_call 71; (with_reducible refine (HDg.out _).mono ?_); rintro e w' ⟨rfl, rfl⟩))
         go_loop [6] (fun x => ∃ k : Nat, a ≤ k ∧ k ≤ s.size ∧ x = .int .i64 k ∧ Hid (∀ j (h : j < s.data.toList.length), a ≤ j → j < k → P11.digit s.data.toList[j] = true)) (fun x => s.size - (intOf x).toNat)
         case atStart => exact ⟨a, Nat.le_refl _, by omega, rfl, Lib.hid fun j h h1 h2 => by omega⟩
         case round =>
          obtain ⟨k, k1, k2, rfl, H3⟩ := hrel
          by_cases hk : k < s.size ∧ P11.digit (s.data.toList.getD k 0) = true
          ·obtain ⟨hk, hk2⟩ := hk
           have hgd : s.data.toList.getD k 0 = s[k] := getD_at s k hk
           rw [hgd] at hk2
           have g8 : (s[k].toNat : Int) < 256 := by have := s[k].toNat_lt; omega
           have hdk := fun w => refDigit_any s[k] w
           rw [hk2] at hdk
           have HDk := Lib.hid hdk
           have HK2 := Lib.hid hk2
           clear hdk hk2 hgd
           go_wp2_with (go_at_call 71; (with_reducible refine (HDk.out _).mono ?_); rintro e w' ⟨rfl, rfl⟩)
           go_round
           case rel => exact ⟨k + 1, by omega, by omega, by go_num, Lib.hid (run_more H3.out fun _ => HK2.out)⟩
           case measure => simp [intOf]; omega
          ·have hend := run_end P11.digit _ _ _ k1 k2 H3.out (end_not hk)
           have HE := Lib.hid hend
           have hak : a < k := by have := HE.out; have := HPos.out; omega
           by_cases hks : k < s.size
           case' pos =>
            have hk2 : P11.digit s[k] = false := end_not hk hks
            have g8 : (s[k].toNat : Int) < 256 := by have := s[k].toNat_lt; omega
            have hdk := fun w => refDigit_any s[k] w
            rw [hk2] at hdk
            have HDk := Lib.hid hdk
            clear hdk hk2 hend hk
            go_wp2_with (go_at_call 71; (with_reducible refine (HDk.out _).mono ?_); rintro e w' ⟨rfl, rfl⟩)
           case' neg =>
            clear hend hk
            go_wp2
           all_goals
            go_loop [10] (fun x => ∃ z : Nat, a ≤ z ∧ z < k ∧ x = .int .i64 z ∧ Hid (P11.numOf ((s.data.toList.drop a).take (k - a)) = P11.numOf ((s.data.toList.drop z).take (k - z)))) (fun x => k - (intOf x).toNat)
            case atStart => exact ⟨a, Nat.le_refl _, hak, rfl, Lib.hid rfl⟩
            case round =>
             obtain ⟨z, z1, z2, rfl, HN⟩ := hrel
             have hzs : z < s.size := by omega
             have hgz : s.data.toList.getD z 0 = s[z] := getD_at s z hzs
             have gz8 : (s[z].toNat : Int) < 256 := by have := s[z].toNat_lt; omega
             by_cases hzz : z + 1 < k ∧ s.data.toList.getD z 0 = 48
             ·have hn := P11.numOf_zero hzz.1 k2 hzz.2
              have HN2 := Lib.hid (HN.out.trans hn)
              obtain ⟨z3, z4⟩ := hzz
              rw [hgz] at z4
              have z5 : ((s[z].toNat : Int) == 48) = true := eq_byte z4 48 rfl
              have z6 : (z : Int) + 1 < (k : Int) := by omega
              clear hn z4 hgz
              go_wp2
              go_round
              case rel => exact ⟨z + 1, by omega, z3, by go_num, HN2⟩
              case measure => simp [intOf]; omega
             ·have hn := P11.numOf_stop z2 k2 hzz
              have hstr : s.extract z k = ⟨(P11.numOf ((s.data.toList.drop a).takeWhile P11.digit)).toArray⟩ := by
               apply bytes_eq
               rw [HW2.out, show ((s.data.toList.drop a).takeWhile P11.digit).length = k - a by have := HE.out; omega, HN.out, hn, Lib.extract_data]
              have HS := Lib.hid hstr
              have z7 : (z : Int) ≤ (k : Int) := by omega
              have z8 : (k : Int) ≤ (s.size : Int) := by omega
              clear hn hstr
              by_cases z3 : z + 1 < k
              case' pos =>
               have z6 : (z : Int) + 1 < (k : Int) := by omega
               have z5 : ((s[z].toNat : Int) == 48) = false := ne_byte (d := 48) (fun e => hzz ⟨z3, by rw [hgz]; exact e⟩) 48 rfl
              case' neg => have z6 : ¬ (z : Int) + 1 < (k : Int) := by omega
              all_goals
               clear hzz hgz
               go_wp2_with (at_builtin; refine Xk.wpList_own (w0 := w) rfl _ _ 74 rfl 82 i0 _ 3 32 Tryz.underlying74 Hi.out Hz0.out Hz1.out Hz2.out rfl (by decide) u5 acc.length (tokCells acc) rfl (Xs.ow HR.out) _ 0 1 1 [.int .i64 3, .string (s.extract z k), .int .i64 a] rfl rfl (Xk.cells3 (by simp)) Xs.m3 (by omega) Xk.xt ?_; intro v' p' ho'; have Ho := Lib.hid ho'; clear ho')
               go_roundw
               case rel => exact ⟨k, _, k2, rfl, by
                have h := Ho.out
                rw [HS.out] at h
                have h2 := HTok.out _ _ h
                rw [← HE.out] at h2
                exact h2⟩
               case measure => simp [intOf]; omega
      ·as_aux_lemma =>
        rw [hl] at hL
        have HL := Lib.hid hL
        have f1 : ((s[a].toNat : Int) == 45) = false := ne_byte (d := 45) (fun e => by rw [e] at hl; revert hl; decide) 45 rfl
        have hst := P11.step_letter (t := s.data.toList.drop (a + 1)) hl
        have htok : ∀ (k : Int) (u : List UInt8), P11.wordOf ((s.data.toList.drop a).takeWhile P11.alnum) = (k, u) → ∀ (p' : Regrown) (v' : Value), (Xk.exw w p').ownsRow w.heap.size 82 3 v' (acc.length + 1) (tokCells acc ++ [.int .i64 k, .string ⟨u.toArray⟩, .int .i64 a]) → RefW s w (a + ((s.data.toList.drop a).takeWhile P11.alnum).length) v' (acc ++ [⟨k, u, a⟩]) (Xk.exw w p') :=
         fun k u hk p' v' ho => HW.out.tok hd (hst.trans (by rw [← hd, hk])) ho
        have hpos : 0 < ((s.data.toList.drop a).takeWhile P11.alnum).length := by rw [hd, List.takeWhile, P11.letter_alnum hl]; simp
        have hw2 := P11.run_take P11.alnum s.data.toList a
        have HTok := Lib.hid htok
        have HW2 := Lib.hid hw2
        have HPos := Lib.hid hpos
        clear hL htok hst hd hp hq hb hl hw2 hpos hDg
        generalize hu : (s.data.toList.drop a).takeWhile P11.alnum = u at *
        have HU := Lib.hid hu
        clear hu
        go_wp2_with (go_at_call 70; (with_reducible refine (HL.out _).mono ?_); rintro e w' ⟨rfl, rfl⟩)
        go_loop [6] (fun x => ∃ k : Nat, a ≤ k ∧ k ≤ s.size ∧ x = .int .i64 k ∧ Hid (∀ j (h : j < s.data.toList.length), a ≤ j → j < k → P11.alnum s.data.toList[j] = true)) (fun x => s.size - (intOf x).toNat)
        case atStart => exact ⟨a, Nat.le_refl _, by omega, rfl, Lib.hid fun j h h1 h2 => by omega⟩
        case round =>
         obtain ⟨k, k1, k2, rfl, H3⟩ := hrel
         by_cases hk : k < s.size ∧ P11.alnum (s.data.toList.getD k 0) = true
         ·obtain ⟨hk, hk2⟩ := hk
          have hgd : s.data.toList.getD k 0 = s[k] := getD_at s k hk
          rw [hgd] at hk2
          have g8 : (s[k].toNat : Int) < 256 := by have := s[k].toNat_lt; omega
          have hlk := fun w => refLetter_any s[k] w
          have hdk := fun w => refDigit_any s[k] w
          have HK2 := Lib.hid hk2
          cases e1 : P11.letter s[k]
          case' false => rw [show P11.digit s[k] = true by unfold P11.alnum at hk2; rw [e1] at hk2; simpa using hk2] at hdk
          all_goals
           rw [e1] at hlk
           have HLk := Lib.hid hlk
           have HDk := Lib.hid hdk
           clear hlk hdk hk2 hgd e1
           go_wp2_with (first | (go_at_call 70; (with_reducible refine (HLk.out _).mono ?_); rintro e w' ⟨rfl, rfl⟩) | (go_at_call 71; (with_reducible refine (HDk.out _).mono ?_); rintro e w' ⟨rfl, rfl⟩))
           go_round
           case rel => exact ⟨k + 1, by omega, by omega, by go_num, Lib.hid (run_more H3.out fun _ => HK2.out)⟩
           case measure => simp [intOf]; omega
         ·have hend := run_end P11.alnum _ _ _ k1 k2 H3.out (end_not hk)
          rw [HU.out] at hend
          have hak : a < k := by have := HPos.out; omega
          have hex : (s.extract a k).data.toList = u := by rw [HW2.out, show u.length = k - a by omega, Lib.extract_data]
          have hus : u.length ≤ 4096 := by omega
          have hC : ∀ w, Calls Tryz.prog 72 #[.string (s.extract a k), .bool true] w fun e w' => e = .returned (.string ⟨(casedL true u).toArray⟩) ∧ Below w.heap.size w w' := fun w => by
           have h := cased_any (s.extract a k) true (by show (s.extract a k).data.toList.length ≤ 1000000; rw [hex]; omega) w
           rw [hex] at h; exact h
          have hI := fun w => isWord_any (casedL true u) w
          have hC2 : ∀ w, Calls Tryz.prog 72 #[.string ⟨(casedL true u).toArray⟩, .bool false] w fun e w' => e = .returned (.string ⟨(casedL false (casedL true u)).toArray⟩) ∧ Below w.heap.size w w' := fun w =>
           cased_any ⟨(casedL true u).toArray⟩ false (by show (casedL true u).length ≤ 1000000; rw [casedL_length]; omega) w
          have HE := Lib.hid hend
          have HC := Lib.hid hC
          have HC2 := Lib.hid hC2
          have z7 : (a : Int) ≤ (k : Int) := by omega
          have z8 : (k : Int) ≤ (s.size : Int) := by omega
          have HI0 := Lib.hid hI
          clear hC hC2 hend hex hI
          by_cases hks : k < s.size
          case' pos =>
           have hk2 : P11.letter s[k] = false ∧ P11.digit s[k] = false := by
            have : P11.alnum s[k] = false := end_not hk hks
            unfold P11.alnum at this
            simpa using this
           have g8 : (s[k].toNat : Int) < 256 := by have := s[k].toNat_lt; omega
           have hlk := fun w => refLetter_any s[k] w
           have hdk := fun w => refDigit_any s[k] w
           rw [hk2.1] at hlk
           rw [hk2.2] at hdk
           have HLk := Lib.hid hlk
           have HDk := Lib.hid hdk
           clear hlk hdk hk2 hk
           go_wp2_with (first | (go_at_call 70; (with_reducible refine (HLk.out _).mono ?_); rintro e w' ⟨rfl, rfl⟩) | (go_at_call 71; (with_reducible refine (HDk.out _).mono ?_); rintro e w' ⟨rfl, rfl⟩))
          case' neg =>
           clear hk
           go_wp2_with fail
          all_goals
           have hI := HI0.out
           cases hwb : wordB (casedL true u)
           ·rw [hwb] at hI
            have HT2 := Lib.hid (HTok.out _ _ (wordOf_false hwb))
            have HI := Lib.hid hI
            clear hI HI0 hwb
            generalize casedL false (casedL true u) = cv at *
            generalize casedL true u = cu at *
            go_wp2_with (first | (go_at_call 72; with_reducible refine Xk.cl (HC.out _) fun p => ?_) | (go_at_call 73; with_reducible refine Xk.cl (HI.out _) fun p => ?_) | (go_at_call 72; with_reducible refine Xk.cl (HC2.out _) fun p => ?_) | (at_builtin; refine Xk.wpList_own (w0 := w) rfl _ _ 74 rfl 82 i0 _ 3 32 Tryz.underlying74 Hi.out Hz0.out Hz1.out Hz2.out rfl (by decide) u5 acc.length (tokCells acc) rfl (Xs.ow HR.out) _ 0 1 1 [.int .i64 1, .string ⟨cv.toArray⟩, .int .i64 a] rfl rfl (Xk.cells3 (by simp)) Xs.m3 (by omega) Xk.xt ?_; intro v' p' ho'; have Ho := Lib.hid ho'; clear ho'))
            go_roundw
            case rel => exact ⟨k, _, k2, rfl, by
             have h := HT2.out _ _ Ho.out
             rw [← HE.out] at h
             exact h⟩
            case measure => simp [intOf]; omega
           ·rw [hwb] at hI
            have HT2 := Lib.hid (HTok.out _ _ (wordOf_true hwb))
            have HI := Lib.hid hI
            clear hI HI0 hwb HC2
            generalize casedL true u = cu at *
            go_wp2_with (first | (go_at_call 72; with_reducible refine Xk.cl (HC.out _) fun p => ?_) | (go_at_call 73; with_reducible refine Xk.cl (HI.out _) fun p => ?_) | (at_builtin; refine Xk.wpList_own (w0 := w) rfl _ _ 74 rfl 82 i0 _ 3 32 Tryz.underlying74 Hi.out Hz0.out Hz1.out Hz2.out rfl (by decide) u5 acc.length (tokCells acc) rfl (Xs.ow HR.out) _ 0 1 1 [.int .i64 2, .string ⟨cu.toArray⟩, .int .i64 a] rfl rfl (Xk.cells3 (by simp)) Xs.m3 (by omega) Xk.xt ?_; intro v' p' ho'; have Ho := Lib.hid ho'; clear ho'))
            go_roundw
            case rel => exact ⟨k, _, k2, rfl, by
             have h := HT2.out _ _ Ho.out
             rw [← HE.out] at h
             exact h⟩
            case measure => simp [intOf]; omega
    ·as_aux_lemma =>
      obtain ⟨c, t, he, hst, hpos⟩ := P11.step_note hp
      have hsk := HW.out.skip he hst
      rw [← he] at hsk hpos
      have h45 : s[a] = 45 ∧ ∃ h : a + 1 < s.size, s[a + 1] = 45 := by
       rw [hd] at hp
       by_cases ha2 : a + 1 < s.size
       ·rw [drop_at s (a + 1) ha2] at hp
        simp [List.isPrefixOf] at hp
        exact ⟨hp.1.symm, ha2, hp.2.symm⟩
       ·rw [List.drop_of_length_le (show s.data.toList.length ≤ a + 1 from by show s.size ≤ a + 1; omega)] at hp
        simp [List.isPrefixOf] at hp
      obtain ⟨e1, ha2, e2⟩ := h45
      have f1 : ((s[a].toNat : Int) == 45) = true := eq_byte e1 45 rfl
      have f2 : ((s[a + 1].toNat : Int) == 45) = true := eq_byte e2 45 rfl
      have f3 : (a : Int) + 1 < (s.size : Int) := by omega
      have f8 : (s[a + 1].toNat : Int) < 256 := by have := s[a + 1].toNat_lt; omega
      have HSK := Lib.hid hsk
      clear e1 e2 hsk hp hd hst he hb
      go_wp2
      go_loop [6] (fun x => ∃ k : Nat, a ≤ k ∧ k ≤ s.size ∧ x = .int .i64 k ∧ Hid (∀ j (h : j < s.data.toList.length), a ≤ j → j < k → (s.data.toList[j] != 10) = true)) (fun x => s.size - (intOf x).toNat)
      case atStart => exact ⟨a, Nat.le_refl _, by omega, rfl, Lib.hid fun j h h1 h2 => by omega⟩
      case round =>
       obtain ⟨k, k1, k2, rfl, H3⟩ := hrel
       by_cases hk : k < s.size
       case' pos =>
        have g8 : (s[k].toNat : Int) < 256 := by have := s[k].toNat_lt; omega
        by_cases hc : s[k] = 10
        case neg =>
         have g1 : ((s[k].toNat : Int) != 10) = true := by rw [bne, ne_byte hc 10 rfl]; rfl
         have HC := Lib.hid hc
         clear hc
         go_wp2
         go_round
         case rel => exact ⟨k + 1, by omega, by omega, by go_num, Lib.hid (run_more (p := (· != 10)) H3.out fun _ => by show (s[k] != 10) = true; rw [bne_iff_ne]; exact HC.out)⟩
         case measure => simp [intOf]; omega
        have g1 : ((s[k].toNat : Int) != 10) = false := by rw [bne, eq_byte hc 10 rfl]; rfl
        have hend := run_end (· != 10) _ _ _ k1 k2 H3.out (fun h => by show (s[k] != 10) = false; rw [hc]; rfl)
        clear hc
       case' neg => have hend := run_end (· != 10) _ _ _ k1 k2 H3.out (fun h => absurd h hk)
       all_goals
        have HE := Lib.hid hend
        clear hend
        go_wp2
        go_roundw
        case rel => exact ⟨k, acc, k2, rfl, by
         have e := HE.out
         have h := HSK.out
         rw [show a + P11.lineLen (s.data.toList.drop a) = k from e.symm] at h
         exact h⟩
        case measure =>
         have e := HE.out
         have h : 0 < P11.lineLen (s.data.toList.drop a) := hpos
         unfold P11.lineLen at h
         simp [intOf]; omega
   ·as_aux_lemma =>
     have hsk := HW.out.skip hd (by rw [P11.step, if_pos hb] : P11.step _ = .inl (1, none))
     have HSK := Lib.hid hsk
     have hc : s[a] = 32 ∨ s[a] = 9 ∨ s[a] = 10 ∨ s[a] = 13 := by simpa [P11.blank, or_assoc] using hb
     clear hb hsk hd
     rcases hc with hc | hc | hc | hc
     all_goals
      have hv : (s[a].toNat : Int) = _ := congrArg (fun c : UInt8 => (c.toNat : Int)) hc
      clear hc
      go_wp2
      go_roundw
      case rel => exact ⟨a + 1, acc, by omega, by go_num, HSK.out⟩
      case measure => simp [intOf]; omega
  ·as_aux_lemma =>
    have hL : P11.lexed s.data.toList = .inl (acc ++ [⟨0, [], s.size⟩]) := by
     rw [P11.lexed, if_neg (by show ¬ 4096 < s.size; omega), HW.out.toks, List.drop_of_length_le (by show s.size ≤ a; omega), P11.toks_nil, show a = s.size by omega]; rfl
    have HL := Lib.hid hL
    clear hL
    go_wp2_with (at_builtin; refine Xk.wpList_own (w0 := w) rfl _ _ 74 rfl 82 i0 _ 3 32 Tryz.underlying74 Hi.out Hz0.out Hz1.out Hz2.out rfl (by decide) u5 acc.length (tokCells acc) rfl (Xs.ow HR.out) _ 0 1 1 [.int .i64 0, .string ⟨#[]⟩, .int .i64 s.size] rfl rfl (Xk.cells3 (by simp)) Xs.m3 (by omega) Xk.xt ?_; intro v' p' ho'; have Ho := Lib.hid ho'; clear ho')
    rw [← HQ.out]
    go_ret3
    have ho : (Xk.exw w p').ownsRow w.heap.size 82 3 v' (acc ++ [(⟨0, [], s.size⟩ : P11.Tok)]).length (tokCells (acc ++ [(⟨0, [], s.size⟩ : P11.Tok)])) := by
     rw [tokCells_snoc, List.length_append]; exact Ho.out
    exact ⟨Xk.ext_exw w p', .inl ⟨_, _, HL.out, rfl, own_toks ho, own_at ho⟩⟩
end Go.Proofs.YtlpcdpkgnfdpeaaGreatDoor
