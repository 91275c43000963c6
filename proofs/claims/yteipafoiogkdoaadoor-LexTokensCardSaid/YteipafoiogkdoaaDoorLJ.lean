/- Walks: the lexer: from label 0 on: signs, and bytes that may not be there. -/
import Derived.Test.YteipafoiogkdoaaDoorLI
set_option linter.unusedSimpArgs false
set_option linter.unusedVariables false
namespace Go.Xk
theorem facts_head {m i : Nat} {φ : World → Prop} {r : Facts} {w : World} (h : factsAnc m ((i, φ) :: r) w) (hm : m.testBit i = true) : φ w := by
  unfold factsAnc at h
  rw [if_pos hm] at h
  exact h.1
end Go.Xk
namespace Go.Proofs.YteipafoiogkdoaaDoor
open Go.RowKit Go.Maps
theorem step_plain {c : UInt8} {t : List UInt8} (hb : P11.blank c = false) (hp : ([45, 45] : List UInt8).isPrefixOf (c :: t) = false) (hq : c ≠ 39) (hl : P11.letter c = false) (hd : P11.digit c = false) :
    P11.step (c :: t) = match P11.signOf (c :: t) with | none => .inr (0, 111) | some x => .inl (x.length, some (5, x)) := by
  rw [P11.step, if_neg (by rw [hb]; decide), if_neg (by rw [hp]; decide), if_neg hq, if_neg (by rw [hl]; decide), if_neg (by rw [hd]; decide)]
  rfl
set_option maxRecDepth 100000 in
set_option maxHeartbeats 1000000 in
theorem pass_bad {w0 : World} {s : ByteArray} {bs B ba n : Nat} {act : Act} {w : World} (W : World) (p : Regrown) (a : Nat) (v : Value) (acc : List P11.Tok) (hw : w = Xk.exw W p) (hW : LW w0 s bs B ba W a) (hs : s.size ≤ 4096)
    (hn : n = 2 * (s.size - a) + 1) (hacc : acc.length ≤ a) (hF : Fr s bs B ba v act) (hrow : (Xk.exw W p).ownsRow W.heap.size 31 3 v acc.length (tokCells acc)) (hT : P11.toks s.data.toList 0 = P11.after acc (P11.toks (s.data.toList.drop a) a)) (hlt : a < s.size) (hb : P11.blank s[a] = false) (hp : ([45, 45] : List UInt8).isPrefixOf (s.data.toList.drop a) = false) (hq : s[a] ≠ 39) (hl : P11.letter s[a] = false) (hdg : P11.digit s[a] = false)
    (hg : P11.signOf (s.data.toList.drop a) = none) : Pass w0 s bs B ba n 0 act w := by
  have nb : ((s[a].toNat : Int) == 32) = false ∧ ((s[a].toNat : Int) == 9) = false ∧ ((s[a].toNat : Int) == 10) = false ∧ ((s[a].toNat : Int) == 13) = false := not_blank hb
  obtain ⟨nb1, nb2, nb3, nb4⟩ := nb
  have hd := drop_at s a hlt
  have hL : P11.lexed s.data.toList = .inr (a, 111) := by
    have hS := step_plain (t := s.data.toList.drop (a + 1)) hb (by rw [← hd]; exact hp) hq hl hdg
    rw [← hd, hg] at hS
    rw [P11.lexed, if_neg (by show ¬ 4096 < s.size; omega), hT, hd]
    rw [hd] at hS
    rw [P11.after_err hS]; rfl
  have HL' := Lib.hid hL
  have hpre := fun w => pre_any s ⟨#[45, 45]⟩ a w
  rw [show (⟨#[45, 45]⟩ : ByteArray).data.toList = [45, 45] from rfl, hp] at hpre
  have HX := Lib.hid hpre
  have h39 : ((s[a].toNat : Int) == 39) = false := ne_byte hq 39 rfl
  have hLt := fun w => letter_any s[a] w
  rw [hl] at hLt
  have HL := Lib.hid hLt
  have hD := fun w => digit_any s[a] w
  rw [hdg] at hD
  have HD := Lib.hid hD
  have hI := fun q v hv => indexFunc_any s a v P11.signs bs ba (Xk.exw W q) hv (by decide) (by rw [Xk.exw_cell _ _ _ _ hW.ls]; exact hW.cs) (by rw [Xk.exw_cell _ _ _ _ hW.la]; exact hW.ca) (by omega) (by omega)
  have hfs : firstSign (signAt s a) P11.signs = -1 := by
    rcases firstSign_find (p := signAt s a) P11.signs with ⟨h1, h2⟩ | ⟨q, x, h1, h2, h3⟩
    · exact h1
    · have : P11.signOf (s.data.toList.drop a) = some x := h3
      rw [hg] at this; cases this
  rw [hfs] at hI
  have HI := Lib.hid hI
  clear hI hfs hD hLt hpre hL hd hb hp hq hl hdg hg
  subst hw
  unfold Fr at hF
  obtain ⟨f, rfl⟩ := hF
  unfold Pass
  generalize hQ : bodyPost Tryd.prog Tryd.f8 (LexPost s w0) = Q
  have HQ := Lib.hid hQ
  clear hQ
  generalize hJL : (fun (l' : Nat) (a' : Act) (w' : World) => ∃ m, m < n ∧ JL w0 s bs B ba m l' a' w') = J
  have HJ := Lib.hid hJL
  clear hJL
  unfold scopeCode Tryd.f8
  simp only [findLabel]
  refine ⟨_, rfl, ?_⟩
  have cs := hW.cs
  have ca := hW.ca
  have fa := hW.fa
  have ls := hW.ls
  have la := hW.la
  have HW := Lib.hid hW
  have HN := Lib.hid hn
  have HR := Lib.hid hrow
  have HT := Lib.hid hT
  clear hW hn hrow hT
  have hb8 : (s[a].toNat : Int) < 256 := by have := s[a].toNat_lt; omega
  go_wp2_with (first | (go_at_call 16; (with_reducible refine (HX.out _).mono ?_); rintro e w' ⟨rfl, rfl⟩) | (go_at_call 17; (with_reducible refine (HL.out _).mono ?_); rintro e w' ⟨rfl, rfl⟩) | (go_at_call 20; (with_reducible refine (HD.out _).mono ?_); rintro e w' ⟨rfl, rfl⟩) | (go_at_call 24; (with_reducible refine (signs_any _).mono ?_); rintro e w' ⟨x, rfl, hx, hb⟩; obtain ⟨p, rfl⟩ := Xk.exw_of hb; clear hb; (try rw [Xk.exw_exw] at hx); have HS := Lib.hid hx; clear hx) | (go_at_call 23; (with_reducible refine (HI.out _ _ HS.out).mono ?_); rintro e w' ⟨rfl, rfl⟩))
  refine Xk.wp_region_rel' 4 [] trivial (by kernel_rfl) (by kernel_rfl) ?_
  simp only [List.take_succ_cons, List.take_zero, List.drop_succ_cons, List.drop_zero]
  repeat (first
    | (refine Xk.rel_det (Xk.wanted_none (by rfl)) (by rfl) (fun K hK => ?_); apply Exists.intro; refine ⟨fun p hp => ?_, ?_⟩; (go_simp; first | exact ⟨rfl, rfl⟩ | ((try refine ⟨by kernel_rfl, ?_⟩); (fail))); (go_simp; refine hK _ ?_; clear hK K))
    | (refine Xk.rel_skip (by rfl) (fun K hK => ?_); go_simp; refine hK _ ?_; clear hK K)
    | (refine Xk.rel_det (by rfl) (by rfl) (fun K hK => ?_); apply Exists.intro; refine ⟨fun p hp => ?_, ?_⟩; (go_simp; first | exact ⟨rfl, rfl⟩ | ((try refine ⟨by kernel_rfl, ?_⟩); (fail))); (go_simp; refine hK _ ?_; clear hK K)))
  refine Xk.rel_nil (fun p _ => ?_)
  go_wp2
  rw [← HQ.out]
  go_ret3
  exact ⟨HW.out.below.trans ((Below.refl _ _).trans (by first | exact (Xk.ext_exw W _).mono HW.out.below.size | (rw [Xk.exw_drew, Xk.exw_exw]; exact (Xk.ext_exw W _).mono HW.out.below.size))), .inr ⟨a, 111, HL'.out, rfl⟩⟩
/-- Where an element lies. -/
def ptrAt (v : Value) (i : Nat) : Value := match v with
  | .slice (some ⟨b, off, _⟩) _ _ => .pointer (some ⟨b, off + i, none⟩)
  | _ => undef
@[go_sem] theorem ptrAt_slice (b off len cap i : Nat) : ptrAt (.slice (some ⟨b, off, none⟩) len cap) i = .pointer (some ⟨b, off + i, none⟩) := rfl
theorem strs_ext {l : List (List UInt8)} (v : Value) (w w' : World) (hx : Xk.Ext w w') (h : StrsAt w v l) : StrsAt w' v l := h.ext hx
set_option maxRecDepth 100000 in
set_option maxHeartbeats 2000000 in
theorem pass_sign {w0 : World} {s : ByteArray} {bs B ba n : Nat} {act : Act} {w : World} (W : World) (p : Regrown) (a : Nat) (v : Value) (acc : List P11.Tok) (hw : w = Xk.exw W p) (hW : LW w0 s bs B ba W a) (hs : s.size ≤ 4096)
    (hn : n = 2 * (s.size - a) + 1) (hacc : acc.length ≤ a) (hF : Fr s bs B ba v act) (hrow : (Xk.exw W p).ownsRow W.heap.size 31 3 v acc.length (tokCells acc)) (hT : P11.toks s.data.toList 0 = P11.after acc (P11.toks (s.data.toList.drop a) a)) (hlt : a < s.size) (hb : P11.blank s[a] = false) (hp : ([45, 45] : List UInt8).isPrefixOf (s.data.toList.drop a) = false) (hq : s[a] ≠ 39) (hl : P11.letter s[a] = false) (hdg : P11.digit s[a] = false)
    {y : List UInt8} (hg : P11.signOf (s.data.toList.drop a) = some y) : Pass w0 s bs B ba n 0 act w := by
  have nb : ((s[a].toNat : Int) == 32) = false ∧ ((s[a].toNat : Int) == 9) = false ∧ ((s[a].toNat : Int) == 10) = false ∧ ((s[a].toNat : Int) == 13) = false := not_blank hb
  obtain ⟨nb1, nb2, nb3, nb4⟩ := nb
  have hd := drop_at s a hlt
  have hpos := P11.signOf_pre hg
  have hlen : a + y.length ≤ s.size := by
    have := (List.isPrefixOf_iff_prefix.1 hpos.2).length_le
    simp at this; omega
  have hT' : P11.toks s.data.toList 0 = P11.after (acc ++ [⟨5, y, a⟩]) (P11.toks (s.data.toList.drop (a + y.length)) (a + y.length)) := by
    have hS := step_plain (t := s.data.toList.drop (a + 1)) hb (by rw [← hd]; exact hp) hq hl hdg
    rw [← hd, hg] at hS
    rw [hT]
    conv => lhs; rw [hd]
    rw [hd] at hS
    rw [P11.after_some hS, ← hd, List.drop_drop]
  have HT' := Lib.hid hT'
  have hpre := fun w => pre_any s ⟨#[45, 45]⟩ a w
  rw [show (⟨#[45, 45]⟩ : ByteArray).data.toList = [45, 45] from rfl, hp] at hpre
  have HX := Lib.hid hpre
  have h39 : ((s[a].toNat : Int) == 39) = false := ne_byte hq 39 rfl
  have hLt := fun w => letter_any s[a] w
  rw [hl] at hLt
  have HL := Lib.hid hLt
  have hD := fun w => digit_any s[a] w
  rw [hdg] at hD
  have HD := Lib.hid hD
  have hI := fun q v hv => indexFunc_any s a v P11.signs bs ba (Xk.exw W q) hv (by decide) (by rw [Xk.exw_cell _ _ _ _ hW.ls]; exact hW.cs) (by rw [Xk.exw_cell _ _ _ _ hW.la]; exact hW.ca) (by omega) (by omega)
  obtain ⟨i, hi, hy⟩ : ∃ i : Nat, firstSign (signAt s a) P11.signs = i ∧ P11.signs[i]? = some y := by
    rcases firstSign_find (p := signAt s a) P11.signs with ⟨h1, h2⟩ | ⟨q, x, h1, h2, h3⟩
    · have : P11.signOf (s.data.toList.drop a) = none := h2
      rw [hg] at this; cases this
    · have : P11.signOf (s.data.toList.drop a) = some x := h3
      rw [hg] at this; cases this
      exact ⟨q, h1, h2⟩
  rw [hi] at hI
  have HI := Lib.hid hI
  have HY := Lib.hid hy
  have hi17 : i < 17 := (List.getElem?_eq_some_iff.1 hy).1
  have hy0 := hpos.1
  clear hI hi hD hLt hpre hT' hd hb hp hq hl hdg hg hy hpos
  obtain ⟨i0, hi, hz0, hz1, hz2⟩ := info_parts Tryd.infoTok
  have Hi := Lib.hid hi
  have Hz0 := Lib.hid hz0
  have Hz1 := Lib.hid hz1
  have Hz2 := Lib.hid hz2
  clear hi hz0 hz1 hz2
  subst hw
  unfold Fr at hF
  obtain ⟨f, rfl⟩ := hF
  unfold Pass
  generalize hQ : bodyPost Tryd.prog Tryd.f8 (LexPost s w0) = Q
  have HQ := Lib.hid hQ
  clear hQ
  generalize hJL : (fun (l' : Nat) (a' : Act) (w' : World) => ∃ m, m < n ∧ JL w0 s bs B ba m l' a' w') = J
  have HJ := Lib.hid hJL
  clear hJL
  unfold scopeCode Tryd.f8
  simp only [findLabel]
  refine ⟨_, rfl, ?_⟩
  have cs := hW.cs
  have ca := hW.ca
  have fa := hW.fa
  have ls := hW.ls
  have la := hW.la
  have HW := Lib.hid hW
  have HN := Lib.hid hn
  have HR := Lib.hid hrow
  have HT := Lib.hid hT
  clear hW hn hrow hT
  have hb8 : (s[a].toNat : Int) < 256 := by have := s[a].toNat_lt; omega
  go_wp2_with (first | (go_at_call 16; (with_reducible refine (HX.out _).mono ?_); rintro e w' ⟨rfl, rfl⟩) | (go_at_call 17; (with_reducible refine (HL.out _).mono ?_); rintro e w' ⟨rfl, rfl⟩) | (go_at_call 20; (with_reducible refine (HD.out _).mono ?_); rintro e w' ⟨rfl, rfl⟩) | (go_at_call 24; (with_reducible refine (signs_any _).mono ?_); rintro e w' ⟨x, rfl, hx, hb⟩; obtain ⟨p, rfl⟩ := Xk.exw_of hb; clear hb; (try rw [Xk.exw_exw] at hx); have HS := Lib.hid hx; clear hx) | (go_at_call 23; (with_reducible refine (HI.out _ _ HS.out).mono ?_); rintro e w' ⟨rfl, rfl⟩))
  have i1 : (i : Int) < 17 := by omega
  clear HI HS
  refine Xk.wp_region_rel' 8 [(1, fun v w => StrsAt w v P11.signs), (7, Tok3 5 ⟨y.toArray⟩ a)] ⟨fun v w w' hx h => h.ext hx, fun v w w' => Tok3.ext v w w', trivial⟩ (by kernel_rfl) (by kernel_rfl) ?_
  simp only [List.take_succ_cons, List.take_zero, List.drop_succ_cons, List.drop_zero]
  (first
    | (refine Xk.rel_det (Xk.wanted_none (by rfl)) (by rfl) (fun K hK => ?_); apply Exists.intro; refine ⟨fun p hp => ?_, ?_⟩; (go_simp; first | exact ⟨rfl, rfl⟩ | ((try refine ⟨by kernel_rfl, ?_⟩); (fail))); (go_simp; refine hK _ ?_; clear hK K))
    | (refine Xk.rel_skip (by rfl) (fun K hK => ?_); go_simp; refine hK _ ?_; clear hK K)
    | (refine Xk.rel_det (by rfl) (by rfl) (fun K hK => ?_); apply Exists.intro; refine ⟨fun p hp => ?_, ?_⟩; (go_simp; first | exact ⟨rfl, rfl⟩ | ((try refine ⟨by kernel_rfl, ?_⟩); (fail))); (go_simp; refine hK _ ?_; clear hK K)))
  refine Xk.rel_make (by rfl) (by rfl) (fun p hp => ?_) (fun x K hK => ?_)
  · go_simp
    go_at_call 24
    exact (signs_any _).mono fun e w' ⟨v, he, hs, hb⟩ => ⟨v, he, hb, hs⟩
  go_simp
  refine hK _ ?_
  clear hK K
  (first
    | (refine Xk.rel_det (Xk.wanted_none (by rfl)) (by rfl) (fun K hK => ?_); apply Exists.intro; refine ⟨fun p hp => ?_, ?_⟩; (go_simp; first | exact ⟨rfl, rfl⟩ | ((try refine ⟨by kernel_rfl, ?_⟩); (fail))); (go_simp; refine hK _ ?_; clear hK K))
    | (refine Xk.rel_skip (by rfl) (fun K hK => ?_); go_simp; refine hK _ ?_; clear hK K)
    | (refine Xk.rel_det (by rfl) (by rfl) (fun K hK => ?_); apply Exists.intro; refine ⟨fun p hp => ?_, ?_⟩; (go_simp; first | exact ⟨rfl, rfl⟩ | ((try refine ⟨by kernel_rfl, ?_⟩); (fail))); (go_simp; refine hK _ ?_; clear hK K)))
  refine Xk.rel_det (Xk.wanted_none (by rfl)) (by rfl) (fun K hK => ⟨ptrAt x i, fun p hp => ?_, ?_⟩)
  · obtain ⟨b, off, cap, rfl, hc⟩ : StrsAt _ x P11.signs := Xk.facts_head hp (by kernel_rfl)
    clear hp hK
    have h17 : P11.signs.length = 17 := rfl
    rw [h17]
    go_simp
    exact ⟨rfl, rfl⟩
  go_simp
  refine hK _ ?_
  clear hK K
  refine Xk.rel_det (Xk.wanted_none (by rfl)) (by rfl) (fun K hK => ⟨.string ⟨y.toArray⟩, fun p hp => ?_, ?_⟩)
  · obtain ⟨b, off, cap, rfl, hc⟩ : StrsAt _ x P11.signs := Xk.facts_head hp (by kernel_rfl)
    clear hp hK
    have hcy := hc i y HY.out
    simp only [Xk.exw_drew, Xk.exw_exw, Array.append_assoc] at hcy
    go_simp
    exact ⟨rfl, rfl⟩
  go_simp
  refine hK _ ?_
  clear hK K
  (first
    | (refine Xk.rel_det (Xk.wanted_none (by rfl)) (by rfl) (fun K hK => ?_); apply Exists.intro; refine ⟨fun p hp => ?_, ?_⟩; (go_simp; first | exact ⟨rfl, rfl⟩ | ((try refine ⟨by kernel_rfl, ?_⟩); (fail))); (go_simp; refine hK _ ?_; clear hK K))
    | (refine Xk.rel_skip (by rfl) (fun K hK => ?_); go_simp; refine hK _ ?_; clear hK K)
    | (refine Xk.rel_det (by rfl) (by rfl) (fun K hK => ?_); apply Exists.intro; refine ⟨fun p hp => ?_, ?_⟩; (go_simp; first | exact ⟨rfl, rfl⟩ | ((try refine ⟨by kernel_rfl, ?_⟩); (fail))); (go_simp; refine hK _ ?_; clear hK K)))
  (first
    | (refine Xk.rel_det (Xk.wanted_none (by rfl)) (by rfl) (fun K hK => ?_); apply Exists.intro; refine ⟨fun p hp => ?_, ?_⟩; (go_simp; first | exact ⟨rfl, rfl⟩ | ((try refine ⟨by kernel_rfl, ?_⟩); (fail))); (go_simp; refine hK _ ?_; clear hK K))
    | (refine Xk.rel_skip (by rfl) (fun K hK => ?_); go_simp; refine hK _ ?_; clear hK K)
    | (refine Xk.rel_det (by rfl) (by rfl) (fun K hK => ?_); apply Exists.intro; refine ⟨fun p hp => ?_, ?_⟩; (go_simp; first | exact ⟨rfl, rfl⟩ | ((try refine ⟨by kernel_rfl, ?_⟩); (fail))); (go_simp; refine hK _ ?_; clear hK K)))
  refine Xk.rel_make (by rfl) (by rfl) (fun p hp => ?_) (fun z K hK => ?_)
  · go_simp
    exact ⟨(Below.refl _ _).alloc (Nat.le_refl _) _, _, rfl, Xk.cells3 (by simp)⟩
  go_simp
  refine hK _ ?_
  clear hK K
  refine Xk.rel_nil (fun p hp => ?_)
  obtain ⟨b, rfl, hc⟩ : Tok3 5 ⟨y.toArray⟩ a z _ := hp.1
  clear hp
  rw [Xk.exw_drew, Xk.exw_exw] at hc ⊢
  have HC := Lib.hid hc
  clear hc
  go_wp2_with (first | (at_builtin; refine Xk.wpList_own (w0 := W) rfl _ _ 26 rfl 31 i0 _ 3 32 Tryd.underlying26 Hi.out Hz0.out Hz1.out Hz2.out rfl (by decide) v acc.length (tokCells acc) rfl (by repeat (first | with_reducible exact HR.out | with_reducible refine Xk.own_alloc ?_ _ | with_reducible refine Xk.own_drew ?_ | with_reducible exact Xk.own_d HR.out | with_reducible refine Xk.own_more (d := 0) ?_)) _ 0 1 1 [.int .i64 5, .string ⟨y.toArray⟩, .int .i64 a] rfl rfl HC.out (by intro u hu; simp only [List.mem_cons, List.not_mem_nil, or_false] at hu; rcases hu with rfl | rfl | rfl <;> rfl) (by omega) (by repeat (first | with_reducible exact Below.refl _ _ | ((with_reducible refine Below.setCell ?_ ?_ _); rotate_left; exact (by (try simp only [World.size_alloc, Xk.exw_size, World.size_setCell, World.size_drew, World.heap_drewN]); omega)) | ((with_reducible refine Below.alloc ?_ ?_ _); rotate_left; exact (by (try simp only [World.size_alloc, Xk.exw_size, World.size_setCell, World.size_drew, World.heap_drewN]); omega)) | ((with_reducible refine Xk.below_exw ?_ ?_ _); rotate_left; exact (by (try simp only [World.size_alloc, Xk.exw_size, World.size_setCell, World.size_drew, World.heap_drewN]); omega)) | (with_reducible refine Below.drew ?_))) ?_; intro v' p' ho'; have Ho := Lib.hid ho'; clear ho'))
  have j1 : IntKind.i64.wrap ((a : Int) + (y.length : Int)) = (a : Int) + (y.length : Int) := IntWalk.i64_in _ (by omega)
  refine Xk.wp_region_rel' 7 [(1, fun v w => StrsAt w v P11.signs)] ⟨fun v w w' hx h => h.ext hx, trivial⟩ (by kernel_rfl) (by kernel_rfl) ?_
  simp only [List.take_succ_cons, List.take_zero, List.drop_succ_cons, List.drop_zero]
  (first
    | (refine Xk.rel_det (Xk.wanted_none (by rfl)) (by rfl) (fun K hK => ?_); apply Exists.intro; refine ⟨fun p hp => ?_, ?_⟩; (go_simp; first | exact ⟨rfl, rfl⟩ | ((try refine ⟨by kernel_rfl, ?_⟩); (fail))); (go_simp; refine hK _ ?_; clear hK K))
    | (refine Xk.rel_skip (by rfl) (fun K hK => ?_); go_simp; refine hK _ ?_; clear hK K)
    | (refine Xk.rel_det (by rfl) (by rfl) (fun K hK => ?_); apply Exists.intro; refine ⟨fun p hp => ?_, ?_⟩; (go_simp; first | exact ⟨rfl, rfl⟩ | ((try refine ⟨by kernel_rfl, ?_⟩); (fail))); (go_simp; refine hK _ ?_; clear hK K)))
  refine Xk.rel_make (by rfl) (by rfl) (fun p hp => ?_) (fun x K hK => ?_)
  · go_simp
    go_at_call 24
    exact (signs_any _).mono fun e w' ⟨v, he, hs, hb⟩ => ⟨v, he, hb, hs⟩
  go_simp
  refine hK _ ?_
  clear hK K
  (first
    | (refine Xk.rel_det (Xk.wanted_none (by rfl)) (by rfl) (fun K hK => ?_); apply Exists.intro; refine ⟨fun p hp => ?_, ?_⟩; (go_simp; first | exact ⟨rfl, rfl⟩ | ((try refine ⟨by kernel_rfl, ?_⟩); (fail))); (go_simp; refine hK _ ?_; clear hK K))
    | (refine Xk.rel_skip (by rfl) (fun K hK => ?_); go_simp; refine hK _ ?_; clear hK K)
    | (refine Xk.rel_det (by rfl) (by rfl) (fun K hK => ?_); apply Exists.intro; refine ⟨fun p hp => ?_, ?_⟩; (go_simp; first | exact ⟨rfl, rfl⟩ | ((try refine ⟨by kernel_rfl, ?_⟩); (fail))); (go_simp; refine hK _ ?_; clear hK K)))
  refine Xk.rel_det (Xk.wanted_none (by rfl)) (by rfl) (fun K hK => ⟨ptrAt x i, fun p hp => ?_, ?_⟩)
  · obtain ⟨b, off, cap, rfl, hc⟩ : StrsAt _ x P11.signs := Xk.facts_head hp (by kernel_rfl)
    clear hp hK
    have h17 : P11.signs.length = 17 := rfl
    rw [h17]
    go_simp
    exact ⟨rfl, rfl⟩
  go_simp
  refine hK _ ?_
  clear hK K
  refine Xk.rel_det (Xk.wanted_none (by rfl)) (by rfl) (fun K hK => ⟨.string ⟨y.toArray⟩, fun p hp => ?_, ?_⟩)
  · obtain ⟨b, off, cap, rfl, hc⟩ : StrsAt _ x P11.signs := Xk.facts_head hp (by kernel_rfl)
    clear hp hK
    have hcy := hc i y HY.out
    simp only [Xk.exw_drew, Xk.exw_exw, Array.append_assoc] at hcy
    go_simp
    exact ⟨rfl, rfl⟩
  go_simp
  refine hK _ ?_
  clear hK K
  (first
    | (refine Xk.rel_det (Xk.wanted_none (by rfl)) (by rfl) (fun K hK => ?_); apply Exists.intro; refine ⟨fun p hp => ?_, ?_⟩; (go_simp; first | exact ⟨rfl, rfl⟩ | ((try refine ⟨by kernel_rfl, ?_⟩); (fail))); (go_simp; refine hK _ ?_; clear hK K))
    | (refine Xk.rel_skip (by rfl) (fun K hK => ?_); go_simp; refine hK _ ?_; clear hK K)
    | (refine Xk.rel_det (by rfl) (by rfl) (fun K hK => ?_); apply Exists.intro; refine ⟨fun p hp => ?_, ?_⟩; (go_simp; first | exact ⟨rfl, rfl⟩ | ((try refine ⟨by kernel_rfl, ?_⟩); (fail))); (go_simp; refine hK _ ?_; clear hK K)))
  (first
    | (refine Xk.rel_det (Xk.wanted_none (by rfl)) (by rfl) (fun K hK => ?_); apply Exists.intro; refine ⟨fun p hp => ?_, ?_⟩; (go_simp; first | exact ⟨rfl, rfl⟩ | ((try refine ⟨by kernel_rfl, ?_⟩); (fail))); (go_simp; refine hK _ ?_; clear hK K))
    | (refine Xk.rel_skip (by rfl) (fun K hK => ?_); go_simp; refine hK _ ?_; clear hK K)
    | (refine Xk.rel_det (by rfl) (by rfl) (fun K hK => ?_); apply Exists.intro; refine ⟨fun p hp => ?_, ?_⟩; (go_simp; first | exact ⟨rfl, rfl⟩ | ((try refine ⟨by kernel_rfl, ?_⟩); (fail))); (go_simp; refine hK _ ?_; clear hK K)))
  refine Xk.rel_nil (fun p hp => ?_)
  clear hp j1
  go_wp2
  go_step3
  simp only [Exit.inBlock, Exit.then, Xk.jumps_goto, ↓reduceIte]
  rw [← HJ.out]
  have ho : (Xk.exw W p').ownsRow W.heap.size 31 3 v' (acc ++ [(⟨5, y, a⟩ : P11.Tok)]).length (tokCells (acc ++ [(⟨5, y, a⟩ : P11.Tok)])) := by
    rw [tokCells_snoc, List.length_append]
    exact Ho.out
  exact goto0 HW.out (a + y.length) (by rw [HN.out]; omega) (by omega) hlen rfl (by rw [List.length_append, List.length_singleton]; omega) (Fr.of (by kernel_rfl)) (by first | exact Xk.own_more (d := 0) (Xk.own_d ho) | exact ho) HT'.out
end Go.Proofs.YteipafoiogkdoaaDoor
