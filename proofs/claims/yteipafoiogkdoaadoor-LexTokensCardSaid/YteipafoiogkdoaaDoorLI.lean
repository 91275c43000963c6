/- Walks: the lexer: from label 0 on: words. -/
import Derived.Test.YteipafoiogkdoaaDoorLH
set_option linter.unusedSimpArgs false
set_option linter.unusedVariables false
namespace P11
theorem after_some' {c : UInt8} {t : List UInt8} {n : Nat} {p : Nat} {x : Int × List UInt8} {acc : List Tok} (h : step (c :: t) = .inl (n, some x)) : after acc (toks (c :: t) p) = after (acc ++ [⟨x.1, x.2, p⟩]) (toks ((c :: t).drop n) (p + n)) := after_some (k := x.1) (u := x.2) h
end P11
namespace Go.Proofs.YteipafoiogkdoaaDoor
open Go.RowKit Go.Maps
/-- v is a slice of one token. -/
def Tok3 (k : Int) (t : ByteArray) (a : Int) (v : Value) (w : World) : Prop :=
  ∃ b, v = .slice (some ⟨b, 0, none⟩) 1 1 ∧ ∀ (j : Nat) u, [Value.int .i64 k, .string t, .int .i64 a][j]? = some u → w.cell? ⟨b, 0 + j, none⟩ = some u
theorem Tok3.ext {k : Int} {t : ByteArray} {a : Int} (v : Value) (w w' : World) (hx : Xk.Ext w w') (h : Tok3 k t a v w) : Tok3 k t a v w' := by
  obtain ⟨b, hv, hc⟩ := h
  exact ⟨b, hv, fun j u hj => Xk.ext_cell hx (hc j u hj)⟩
set_option maxRecDepth 100000 in
set_option maxHeartbeats 1000000 in
theorem pass_letter {w0 : World} {s : ByteArray} {bs B ba n : Nat} {act : Act} {w : World} (W : World) (p : Regrown) (a : Nat) (v : Value) (acc : List P11.Tok) (hw : w = Xk.exw W p) (hW : LW w0 s bs B ba W a) (hs : s.size ≤ 4096)
    (hn : n = 2 * (s.size - a) + 1) (hacc : acc.length ≤ a) (hF : Fr s bs B ba v act) (hrow : (Xk.exw W p).ownsRow W.heap.size 31 3 v acc.length (tokCells acc)) (hT : P11.toks s.data.toList 0 = P11.after acc (P11.toks (s.data.toList.drop a) a)) (hlt : a < s.size) (hc : P11.letter s[a] = true) : Pass w0 s bs B ba n 0 act w := by
  have hf := P11.letter_first s[a] hc
  simp only [Bool.and_eq_true, Bool.not_eq_true', bne_iff_ne] at hf
  obtain ⟨⟨hb, hf2⟩, hf3⟩ := hf
  have nb : ((s[a].toNat : Int) == 32) = false ∧ ((s[a].toNat : Int) == 9) = false ∧ ((s[a].toNat : Int) == 10) = false ∧ ((s[a].toNat : Int) == 13) = false := not_blank hb
  obtain ⟨nb1, nb2, nb3, nb4⟩ := nb
  have hd := drop_at s a hlt
  have hp : ([45, 45] : List UInt8).isPrefixOf (s.data.toList.drop a) = false := by rw [hd]; simp [List.isPrefixOf]; exact fun h => absurd h.symm hf2
  have hpre := fun w => pre_any s ⟨#[45, 45]⟩ a w
  rw [show (⟨#[45, 45]⟩ : ByteArray).data.toList = [45, 45] from rfl, hp] at hpre
  have HX := Lib.hid hpre
  have h39 : ((s[a].toNat : Int) == 39) = false := ne_byte hf3 39 rfl
  have hL := fun w => letter_any s[a] w
  rw [hc] at hL
  have HL := Lib.hid hL
  have hrun := fun w => run_alnum s a (by omega) (by omega) w
  have hlen : 0 < ((s.data.toList.drop a).takeWhile P11.alnum).length ∧ a + ((s.data.toList.drop a).takeWhile P11.alnum).length ≤ s.size := by
    constructor
    · rw [hd, List.takeWhile, P11.letter_alnum hc]; simp
    · have := (List.takeWhile_prefix (l := s.data.toList.drop a) P11.alnum).length_le
      simp at this ⊢; omega
  have hT' : P11.toks s.data.toList 0 = P11.after (acc ++ [⟨(P11.wordOf ((s.data.toList.drop a).takeWhile P11.alnum)).1, (P11.wordOf ((s.data.toList.drop a).takeWhile P11.alnum)).2, a⟩]) (P11.toks (s.data.toList.drop (a + ((s.data.toList.drop a).takeWhile P11.alnum).length)) (a + ((s.data.toList.drop a).takeWhile P11.alnum).length)) := by
    have e := P11.step_letter (t := s.data.toList.drop (a + 1)) hc
    rw [hT]
    conv => lhs; rw [hd]
    rw [P11.after_some' e, ← hd, List.drop_drop]
  have hw2 := P11.run_take P11.alnum s.data.toList a
  have hall := P11.takeWhile_all P11.alnum (s.data.toList.drop a)
  have hex : ∀ k, a + k ≤ s.size → (s.extract a (a + k)).data.toList = (s.data.toList.drop a).take k := fun k hk => by
    rw [Lib.extract_data, show a + k - a = k by omega]
  generalize hk : (s.data.toList.drop a).takeWhile P11.alnum = u at *
  obtain ⟨hl1, hl2⟩ := hlen
  have hex := hex _ hl2
  rw [← hw2] at hex
  generalize hq : a + u.length = q at *
  have haq : a < q := by omega
  have hww := fun r => word_any (s.extract a q) a B (Xk.exw W r) (hW.words.ext (Xk.ext_exw W r)) (by simp; omega) (by rw [hex]; exact hall)
  rw [hex] at hww
  generalize P11.wordOf u = x at *
  obtain ⟨k, t⟩ := x
  dsimp only at hww hT'
  have HT' := Lib.hid hT'
  have HRun := Lib.hid hrun
  have HWw := Lib.hid hww
  clear hT' hrun hww hex hw2 hall hk hl1 hq hd hpre hL hp hf2 hf3 hb hc
  obtain ⟨i0, hi, hz0, hz1, hz2⟩ := info_parts Tryd.infoTok
  have Hi := Lib.hid hi
  have Hz0 := Lib.hid hz0
  have Hz1 := Lib.hid hz1
  have Hz2 := Lib.hid hz2
  clear hi hz0 hz1 hz2
  subst hw
  unfold Fr at hF
  obtain ⟨f, rfl⟩ := hF
  unfold Pass
  generalize hQ : bodyPost Tryd.prog Tryd.f8 (LexPost s w0) = Q
  have HQ := Lib.hid hQ
  clear hQ
  generalize hJL : (fun (l' : Nat) (a' : Act) (w' : World) => ∃ m, m < n ∧ JL w0 s bs B ba m l' a' w') = J
  have HJ := Lib.hid hJL
  clear hJL
  unfold scopeCode Tryd.f8
  simp only [findLabel]
  refine ⟨_, rfl, ?_⟩
  have cs := hW.cs
  have ca := hW.ca
  have fa := hW.fa
  have ls := hW.ls
  have la := hW.la
  have HW := Lib.hid hW
  have HN := Lib.hid hn
  have HR := Lib.hid hrow
  have HT := Lib.hid hT
  clear hW hn hrow hT
  have hb8 : (s[a].toNat : Int) < 256 := by have := s[a].toNat_lt; omega
  go_wp2_with (first | (go_at_call 16; (with_reducible refine (HX.out _).mono ?_); rintro e w' ⟨rfl, rfl⟩) | (go_at_call 17; (with_reducible refine (HL.out _).mono ?_); rintro e w' ⟨rfl, rfl⟩) | (go_at_call 18; (with_reducible refine (HRun.out _).mono ?_); rintro e w' ⟨rfl, rfl⟩))
  have q2 : (a : Int) ≤ (q : Int) := by omega
  have q3 : (q : Int) ≤ (s.size : Int) := by omega
  have q4 : (a : Int) ≤ (s.size : Int) := by omega
  refine Xk.wp_region_rel' 9 [(8, Tok3 k ⟨t.toArray⟩ a)] ⟨fun v w w' => Tok3.ext v w w', trivial⟩ (by kernel_rfl) (by kernel_rfl) ?_
  simp only [List.take_succ_cons, List.take_zero, List.drop_succ_cons, List.drop_zero]
  repeat (first
    | (refine Xk.rel_det (Xk.wanted_none (by rfl)) (by rfl) (fun K hK => ?_); apply Exists.intro; refine ⟨fun p hp => ?_, ?_⟩; (go_simp; first | exact ⟨rfl, rfl⟩ | ((try refine ⟨by kernel_rfl, ?_⟩); (first | (go_at_call 21; ((with_reducible refine (HWw.out _).mono ?_); exact fun e w' h => h))))); (go_simp; refine hK _ ?_; clear hK K))
    | (refine Xk.rel_skip (by rfl) (fun K hK => ?_); go_simp; refine hK _ ?_; clear hK K)
    | (refine Xk.rel_det (by rfl) (by rfl) (fun K hK => ?_); apply Exists.intro; refine ⟨fun p hp => ?_, ?_⟩; (go_simp; first | exact ⟨rfl, rfl⟩ | ((try refine ⟨by kernel_rfl, ?_⟩); (first | (go_at_call 21; ((with_reducible refine (HWw.out _).mono ?_); exact fun e w' h => h))))); (go_simp; refine hK _ ?_; clear hK K)))
  refine Xk.rel_make (by rfl) (by rfl) (fun p hp => ?_) (fun x K hK => ?_)
  · go_simp
    exact ⟨(Below.refl _ _).alloc (Nat.le_refl _) _, _, rfl, Xk.cells3 (by simp)⟩
  go_simp
  refine hK _ ?_
  clear hK K
  refine Xk.rel_nil (fun p hp => ?_)
  obtain ⟨b, rfl, hc⟩ : Tok3 k ⟨t.toArray⟩ a x _ := hp.1
  clear hp
  rw [Xk.exw_drew, Xk.exw_exw] at hc ⊢
  have HC := Lib.hid hc
  clear hc
  go_wp2_with (first | (at_builtin; refine Xk.wpList_own (w0 := W) rfl _ _ 26 rfl 31 i0 _ 3 32 Tryd.underlying26 Hi.out Hz0.out Hz1.out Hz2.out rfl (by decide) v acc.length (tokCells acc) rfl (by repeat (first | with_reducible exact HR.out | with_reducible refine Xk.own_alloc ?_ _ | with_reducible refine Xk.own_drew ?_ | with_reducible exact Xk.own_d HR.out | with_reducible refine Xk.own_more (d := 0) ?_)) _ 0 1 1 [.int .i64 k, .string ⟨t.toArray⟩, .int .i64 a] rfl rfl HC.out (by intro u hu; simp only [List.mem_cons, List.not_mem_nil, or_false] at hu; rcases hu with rfl | rfl | rfl <;> rfl) (by omega) (by repeat (first | with_reducible exact Below.refl _ _ | ((with_reducible refine Below.setCell ?_ ?_ _); rotate_left; exact (by (try simp only [World.size_alloc, Xk.exw_size, World.size_setCell, World.size_drew, World.heap_drewN]); omega)) | ((with_reducible refine Below.alloc ?_ ?_ _); rotate_left; exact (by (try simp only [World.size_alloc, Xk.exw_size, World.size_setCell, World.size_drew, World.heap_drewN]); omega)) | ((with_reducible refine Xk.below_exw ?_ ?_ _); rotate_left; exact (by (try simp only [World.size_alloc, Xk.exw_size, World.size_setCell, World.size_drew, World.heap_drewN]); omega)) | (with_reducible refine Below.drew ?_))) ?_; intro v' p' ho'; have Ho := Lib.hid ho'; clear ho'))
  go_step3
  simp only [Exit.inBlock, Exit.then, Xk.jumps_goto, ↓reduceIte]
  rw [← HJ.out]
  have ho : (Xk.exw W p').ownsRow W.heap.size 31 3 v' (acc ++ [(⟨k, t, a⟩ : P11.Tok)]).length (tokCells (acc ++ [(⟨k, t, a⟩ : P11.Tok)])) := by
    rw [tokCells_snoc, List.length_append]
    exact Ho.out
  exact goto0 HW.out q (by rw [HN.out]; omega) (by omega) (by omega) rfl (by rw [List.length_append, List.length_singleton]; omega) (Fr.of (by kernel_rfl)) ho HT'.out
end Go.Proofs.YteipafoiogkdoaaDoor
