/- Walks: the lexer: from label 0 on: notes, texts, the end. -/
import Derived.Test.YteipafoiogkdoaaDoorLF
set_option linter.unusedSimpArgs false
set_option linter.unusedVariables false
namespace Go.Proofs.YteipafoiogkdoaaDoor
open Go.RowKit Go.Maps
theorem ne_byte {c d : UInt8} (h : c ≠ d) (n : Int) (hn : n = d.toNat) : ((c.toNat : Int) == n) = false := by
  rw [beq_eq_false_iff_ne]; intro e; exact h (UInt8.toNat_inj.1 (by omega))
theorem eq_byte {c d : UInt8} (h : c = d) (n : Int) (hn : n = d.toNat) : ((c.toNat : Int) == n) = true := by
  rw [beq_iff_eq, h, hn]
theorem not_blank {c : UInt8} (h : P11.blank c = false) : ((c.toNat : Int) == 32) = false ∧ ((c.toNat : Int) == 9) = false ∧ ((c.toNat : Int) == 10) = false ∧ ((c.toNat : Int) == 13) = false := by
  simp only [P11.blank, Bool.or_eq_false_iff, beq_eq_false_iff_ne] at h
  exact ⟨ne_byte h.1.1.1 32 rfl, ne_byte h.1.1.2 9 rfl, ne_byte h.1.2 10 rfl, ne_byte h.2 13 rfl⟩
theorem gotoN {w0 : World} {s : ByteArray} {bs B ba n : Nat} {act : Act} {w : World} {W : World} {p : Regrown} {a : Nat} {v : Value} {acc : List P11.Tok} (hW : LW w0 s bs B ba W a) (hn : n = 2 * (s.size - a) + 1) (ha : a ≤ s.size) (hw : w = Xk.exw W p)
    (hacc : acc.length ≤ a) (hF : Fr s bs B ba v act) (hrow : (Xk.exw W p).ownsRow W.heap.size 31 3 v acc.length (tokCells acc)) (hT : P11.toks s.data.toList 0 = P11.after acc (P11.toks (s.data.toList.drop a) a)) {what : List UInt8} (hp : what.isPrefixOf (s.data.toList.drop a) = true) {l : Nat} (hl : (l = 1 ∧ what = [45, 45]) ∨ (l = 2 ∧ what = [39])) : ∃ m, m < n ∧ JL w0 s bs B ba m l act w := by
  have h : JN w0 s bs B ba what (2 * (s.size - a)) act w := ⟨_, p, a, v, acc, hw, hW, ha, rfl, hacc, hF, hrow, hT, hp⟩
  refine ⟨2 * (s.size - a), by omega, ?_⟩
  rcases hl with ⟨rfl, rfl⟩ | ⟨rfl, rfl⟩
  · exact .inr (.inl ⟨rfl, h⟩)
  · exact .inr (.inr ⟨rfl, h⟩)
set_option maxRecDepth 100000 in
set_option maxHeartbeats 400000 in
theorem pass_note {w0 : World} {s : ByteArray} {bs B ba n : Nat} {act : Act} {w : World} (W : World) (p : Regrown) (a : Nat) (v : Value) (acc : List P11.Tok) (hw : w = Xk.exw W p) (hW : LW w0 s bs B ba W a) (hs : s.size ≤ 4096)
    (hn : n = 2 * (s.size - a) + 1) (hacc : acc.length ≤ a) (hF : Fr s bs B ba v act) (hrow : (Xk.exw W p).ownsRow W.heap.size 31 3 v acc.length (tokCells acc)) (hT : P11.toks s.data.toList 0 = P11.after acc (P11.toks (s.data.toList.drop a) a)) (hlt : a < s.size) (hb : P11.blank s[a] = false) (hp : ([45, 45] : List UInt8).isPrefixOf (s.data.toList.drop a) = true) : Pass w0 s bs B ba n 0 act w := by
  have nb : ((s[a].toNat : Int) == 32) = false ∧ ((s[a].toNat : Int) == 9) = false ∧ ((s[a].toNat : Int) == 10) = false ∧ ((s[a].toNat : Int) == 13) = false := not_blank hb
  obtain ⟨nb1, nb2, nb3, nb4⟩ := nb
  have hpre := fun w => pre_any s ⟨#[45, 45]⟩ a w
  rw [show (⟨#[45, 45]⟩ : ByteArray).data.toList = [45, 45] from rfl, hp] at hpre
  have HP := Lib.hid hp
  have HX := Lib.hid hpre
  clear hp hpre hb
  subst hw
  unfold Fr at hF
  obtain ⟨f, rfl⟩ := hF
  unfold Pass
  generalize hQ : bodyPost Tryd.prog Tryd.f8 (LexPost s w0) = Q
  have HQ := Lib.hid hQ
  clear hQ
  generalize hJL : (fun (l' : Nat) (a' : Act) (w' : World) => ∃ m, m < n ∧ JL w0 s bs B ba m l' a' w') = J
  have HJ := Lib.hid hJL
  clear hJL
  unfold scopeCode Tryd.f8
  simp only [findLabel]
  refine ⟨_, rfl, ?_⟩
  have cs := hW.cs
  have ca := hW.ca
  have fa := hW.fa
  have ls := hW.ls
  have la := hW.la
  have HW := Lib.hid hW
  have HN := Lib.hid hn
  have HR := Lib.hid hrow
  have HT := Lib.hid hT
  clear hW hn hrow hT
  have hb8 : (s[a].toNat : Int) < 256 := by have := s[a].toNat_lt; omega
  go_wp2_with (go_at_call 16; (with_reducible refine (HX.out _).mono ?_); rintro e w' ⟨rfl, rfl⟩)
  go_step3
  simp only [Exit.inBlock, Exit.then, Xk.jumps_goto, ↓reduceIte]
  rw [← HJ.out]
  exact gotoN HW.out HN.out (by omega) rfl hacc (Fr.of (by kernel_rfl)) HR.out HT.out HP.out (.inl ⟨rfl, rfl⟩)
set_option maxRecDepth 100000 in
set_option maxHeartbeats 400000 in
theorem pass_text {w0 : World} {s : ByteArray} {bs B ba n : Nat} {act : Act} {w : World} (W : World) (p : Regrown) (a : Nat) (v : Value) (acc : List P11.Tok) (hw : w = Xk.exw W p) (hW : LW w0 s bs B ba W a) (hs : s.size ≤ 4096)
    (hn : n = 2 * (s.size - a) + 1) (hacc : acc.length ≤ a) (hF : Fr s bs B ba v act) (hrow : (Xk.exw W p).ownsRow W.heap.size 31 3 v acc.length (tokCells acc)) (hT : P11.toks s.data.toList 0 = P11.after acc (P11.toks (s.data.toList.drop a) a)) (hlt : a < s.size) (hc : s[a] = 39) : Pass w0 s bs B ba n 0 act w := by
  have hb : P11.blank s[a] = false := by rw [hc]; decide
  have nb : ((s[a].toNat : Int) == 32) = false ∧ ((s[a].toNat : Int) == 9) = false ∧ ((s[a].toNat : Int) == 10) = false ∧ ((s[a].toNat : Int) == 13) = false := not_blank hb
  obtain ⟨nb1, nb2, nb3, nb4⟩ := nb
  have hd : s.data.toList.drop a = 39 :: s.data.toList.drop (a + 1) := by rw [drop_at s a hlt, hc]
  have hp : ([45, 45] : List UInt8).isPrefixOf (s.data.toList.drop a) = false := by rw [hd]; simp [List.isPrefixOf]
  have hq : ([39] : List UInt8).isPrefixOf (s.data.toList.drop a) = true := by rw [hd]; simp [List.isPrefixOf]
  have hpre := fun w => pre_any s ⟨#[45, 45]⟩ a w
  rw [show (⟨#[45, 45]⟩ : ByteArray).data.toList = [45, 45] from rfl, hp] at hpre
  have HP := Lib.hid hq
  have HX := Lib.hid hpre
  have h39 : ((s[a].toNat : Int) == 39) = true := eq_byte hc 39 rfl
  clear hp hq hpre hb hd hc
  subst hw
  unfold Fr at hF
  obtain ⟨f, rfl⟩ := hF
  unfold Pass
  generalize hQ : bodyPost Tryd.prog Tryd.f8 (LexPost s w0) = Q
  have HQ := Lib.hid hQ
  clear hQ
  generalize hJL : (fun (l' : Nat) (a' : Act) (w' : World) => ∃ m, m < n ∧ JL w0 s bs B ba m l' a' w') = J
  have HJ := Lib.hid hJL
  clear hJL
  unfold scopeCode Tryd.f8
  simp only [findLabel]
  refine ⟨_, rfl, ?_⟩
  have cs := hW.cs
  have ca := hW.ca
  have fa := hW.fa
  have ls := hW.ls
  have la := hW.la
  have HW := Lib.hid hW
  have HN := Lib.hid hn
  have HR := Lib.hid hrow
  have HT := Lib.hid hT
  clear hW hn hrow hT
  have hb8 : (s[a].toNat : Int) < 256 := by have := s[a].toNat_lt; omega
  go_wp2_with (go_at_call 16; (with_reducible refine (HX.out _).mono ?_); rintro e w' ⟨rfl, rfl⟩)
  go_step3
  simp only [Exit.inBlock, Exit.then, Xk.jumps_goto, ↓reduceIte]
  rw [← HJ.out]
  exact gotoN HW.out HN.out (by omega) rfl hacc (Fr.of (by kernel_rfl)) HR.out HT.out HP.out (.inr ⟨rfl, rfl⟩)
theorem own_toks {W : World} {base : Nat} {v : Value} {l : List P11.Tok} (h : W.ownsRow base 31 3 v l.length (tokCells l)) : ToksAt W v l := by
  obtain ⟨h1, h2⟩ := h
  rcases h2 with ⟨rfl, h0⟩ | ⟨g, cap, cur, rfl, hg, hb, hn, hcap, hcs, hx⟩
  · obtain rfl : l = [] := List.length_eq_zero_iff.1 h0
    exact ⟨none, 0, rfl, fun j t hj => by simp at hj⟩
  · refine ⟨some ⟨g, 0, none⟩, cap, rfl, fun j t hj => ?_⟩
    have hjl : j < l.length := (List.getElem?_eq_some_iff.1 hj).1
    obtain ⟨e1, e2, e3⟩ := tokCells_at l j t hj
    have cell : ∀ (k : Nat) u, (tokCells l)[k]? = some u → W.cell? ⟨g, 0 + k, none⟩ = some u := fun k u hk => by
      have hk' : k < l.length * 3 := by rw [← h1]; exact (List.getElem?_eq_some_iff.1 hk).1
      rw [← hx, List.getElem?_take, if_pos hk'] at hk
      simp only [World.cell?, hb, Nat.zero_add, Option.isSome_none, Bool.false_eq_true, if_false]
      simpa using hk
    exact ⟨g, 0, rfl, cell _ _ e1, cell _ _ e2, cell _ _ e3⟩
set_option maxRecDepth 100000 in
set_option maxHeartbeats 400000 in
theorem pass_end {w0 : World} {s : ByteArray} {bs B ba n : Nat} {act : Act} {w : World} (W : World) (p : Regrown) (a : Nat) (v : Value) (acc : List P11.Tok) (hw : w = Xk.exw W p) (hW : LW w0 s bs B ba W a) (hs : s.size ≤ 4096)
    (hn : n = 2 * (s.size - a) + 1) (hacc : acc.length ≤ a) (hF : Fr s bs B ba v act) (hrow : (Xk.exw W p).ownsRow W.heap.size 31 3 v acc.length (tokCells acc)) (hT : P11.toks s.data.toList 0 = P11.after acc (P11.toks (s.data.toList.drop a) a)) (hge : a = s.size) : Pass w0 s bs B ba n 0 act w := by
  have hL : P11.lexed s.data.toList = .inl (acc ++ [⟨0, [], s.size⟩]) := by
    rw [P11.lexed, if_neg (by show ¬ 4096 < s.size; omega), hT, List.drop_of_length_le (by show s.size ≤ a; omega), P11.toks_nil, hge]; rfl
  have HL := Lib.hid hL
  clear hL
  obtain ⟨i0, hi, hz0, hz1, hz2⟩ := info_parts Tryd.infoTok
  have Hi := Lib.hid hi
  have Hz0 := Lib.hid hz0
  have Hz1 := Lib.hid hz1
  have Hz2 := Lib.hid hz2
  clear hi hz0 hz1 hz2
  subst hw
  unfold Fr at hF
  obtain ⟨f, rfl⟩ := hF
  unfold Pass
  generalize hQ : bodyPost Tryd.prog Tryd.f8 (LexPost s w0) = Q
  have HQ := Lib.hid hQ
  clear hQ
  generalize hJL : (fun (l' : Nat) (a' : Act) (w' : World) => ∃ m, m < n ∧ JL w0 s bs B ba m l' a' w') = J
  have HJ := Lib.hid hJL
  clear hJL
  unfold scopeCode Tryd.f8
  simp only [findLabel]
  refine ⟨_, rfl, ?_⟩
  have cs := hW.cs
  have ca := hW.ca
  have fa := hW.fa
  have ls := hW.ls
  have la := hW.la
  have HW := Lib.hid hW
  have HN := Lib.hid hn
  have HR := Lib.hid hrow
  have HT := Lib.hid hT
  clear hW hn hrow hT
  have hge1 : (s.size : Int) ≤ (a : Int) := by omega
  have hge2 : ¬ a < s.size := by omega
  have hge3 : a ≤ s.size := by omega
  clear hge
  go_wp2_with (first | (at_builtin; refine Xk.wpList_own (w0 := W) rfl _ _ 26 rfl 31 i0 _ 3 32 Tryd.underlying26 Hi.out Hz0.out Hz1.out Hz2.out rfl (by decide) v acc.length (tokCells acc) rfl (by repeat (first | with_reducible exact HR.out | with_reducible refine Xk.own_alloc ?_ _ | with_reducible refine Xk.own_drew ?_ | with_reducible exact Xk.own_d HR.out | with_reducible refine Xk.own_more (d := 0) ?_)) _ 0 1 1 [.int .i64 0, .string ⟨#[]⟩, .int .i64 s.size] rfl rfl (Xk.cells3 (by simp)) (by intro u hu; simp only [List.mem_cons, List.not_mem_nil, or_false] at hu; rcases hu with rfl | rfl | rfl <;> rfl) (by omega) (by repeat (first | with_reducible exact Below.refl _ _ | ((with_reducible refine Below.setCell ?_ ?_ _); rotate_left; exact (by (try simp only [World.size_alloc, Xk.exw_size, World.size_setCell, World.size_drew, World.heap_drewN]); omega)) | ((with_reducible refine Below.alloc ?_ ?_ _); rotate_left; exact (by (try simp only [World.size_alloc, Xk.exw_size, World.size_setCell, World.size_drew, World.heap_drewN]); omega)) | ((with_reducible refine Xk.below_exw ?_ ?_ _); rotate_left; exact (by (try simp only [World.size_alloc, Xk.exw_size, World.size_setCell, World.size_drew, World.heap_drewN]); omega)) | (with_reducible refine Below.drew ?_))) ?_; intro v' p' ho'; have Ho := Lib.hid ho'; clear ho'))
  rw [← HQ.out]
  go_ret3
  have ho : (Xk.exw W p').ownsRow W.heap.size 31 3 v' (acc ++ [(⟨0, [], s.size⟩ : P11.Tok)]).length (tokCells (acc ++ [(⟨0, [], s.size⟩ : P11.Tok)])) := by
    rw [tokCells_snoc, List.length_append]; exact Ho.out
  exact ⟨HW.out.below.trans ((Xk.ext_exw W p').mono HW.out.below.size), .inl ⟨_, _, HL.out, rfl, own_toks ho⟩⟩
end Go.Proofs.YteipafoiogkdoaaDoor
