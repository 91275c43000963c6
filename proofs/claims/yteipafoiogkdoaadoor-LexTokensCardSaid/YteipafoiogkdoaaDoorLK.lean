/- Walks: the lexer: from labels 1 and 2 on: notes and texts. -/
import Derived.Test.YteipafoiogkdoaaDoorLJ
set_option linter.unusedSimpArgs false
set_option linter.unusedVariables false
namespace P11
theorem takeWhile_len (d : UInt8) : ∀ (l : List UInt8), d ∉ l → (l.takeWhile (· != d)).length = l.length
  | [], _ => rfl
  | c :: l, h => by
    have hc : (c != d) = true := by rw [bne_iff_ne]; intro e; exact h (by rw [e]; exact List.mem_cons_self ..)
    rw [List.takeWhile, hc, List.length_cons, List.length_cons, takeWhile_len d l (fun m => h (List.mem_cons_of_mem _ m))]
theorem takeWhile_at (d : UInt8) : ∀ (l : List UInt8) (n : Nat), d ∉ l.take n → l.drop n = d :: l.drop (n + 1) → (l.takeWhile (· != d)).length = n
  | [], n, _, h => by simp at h
  | c :: l, 0, _, h => by
    simp at h; subst h; simp [List.takeWhile]
  | c :: l, n + 1, h, h' => by
    rw [List.take_succ_cons] at h
    have hc : (c != d) = true := by rw [bne_iff_ne]; intro e; exact h (by rw [e]; exact List.mem_cons_self ..)
    rw [List.takeWhile, hc, List.length_cons, takeWhile_at d l n (fun m => h (List.mem_cons_of_mem _ m)) (by simpa using h')]
theorem step_note {r : List UInt8} (h : ([45, 45] : List UInt8).isPrefixOf r = true) : ∃ c t, r = c :: t ∧ step (c :: t) = .inl (lineLen (c :: t), none) ∧ 0 < lineLen (c :: t) := by
  cases r with
  | nil => simp [List.isPrefixOf] at h
  | cons c t =>
    have hc : c = 45 := by simp [List.isPrefixOf] at h; exact h.1.symm
    refine ⟨c, t, rfl, ?_, ?_⟩
    · rw [step, if_neg (by rw [hc]; decide), if_pos h]
    · unfold lineLen; subst hc; simp [List.takeWhile]
theorem step_text {r : List UInt8} (h : ([39] : List UInt8).isPrefixOf r = true) : ∃ t, r = 39 :: t ∧ step (39 :: t) = match textOf t with
      | none => .inr (0, 112)
      | some x => if ((39 :: t).take (x.2 + 1)).contains 0 then .inr (((39 :: t).take (x.2 + 1)).idxOf 0, 111) else .inl (x.2 + 1, some (4, x.1)) := by
  cases r with
  | nil => simp [List.isPrefixOf] at h
  | cons c t =>
    have hc : c = 39 := by simp [List.isPrefixOf] at h; exact h.symm
    subst hc
    exact ⟨t, rfl, by rw [step, if_neg (by decide), if_neg (by simp [List.isPrefixOf]), if_pos rfl]; rfl⟩
theorem idx_at (d : UInt8) : ∀ (l : List UInt8) (n : Nat), d ∉ l.take n → l.drop n = d :: l.drop (n + 1) → l.idxOf d = n
  | [], n, _, h => by simp at h
  | c :: l, 0, _, h => by
    simp at h; subst h; simp
  | c :: l, n + 1, h, h' => by
    rw [List.take_succ_cons] at h
    have hc : c ≠ d := by intro e; exact h (by rw [e]; exact List.mem_cons_self ..)
    have e := idx_at d l n (fun m => h (List.mem_cons_of_mem _ m)) (by simpa using h')
    have hb : (c == d) = false := by simpa using hc
    simp [List.idxOf_cons, hb, e]
end P11
namespace Go.Proofs.YteipafoiogkdoaaDoor
open Go.RowKit Go.Maps
theorem ix_ext (s : ByteArray) (a b : Nat) (c : UInt8) (k v : Int) (hk : k.toNat.toUInt8 = c) (h : Lib.indexByte ((s.data.toList.drop a).take (b - a)) c = v) (w : World) :
    Calls Tryd.prog 26 #[.string (s.extract a b), .int .u8 k] w fun e w' => e = .returned (.int .i64 v) ∧ w = w' := by
  refine (Tryd.strings_IndexByte _ _ _).mono ?_
  rintro e w' ⟨rfl, rfl⟩
  refine ⟨?_, rfl⟩
  rw [Lib.extract_data, ← h, hk]
set_option maxRecDepth 100000 in
set_option maxHeartbeats 1000000 in
theorem pass1 {w0 : World} {s : ByteArray} {bs B ba n : Nat} {act : Act} {w : World} (W : World) (p : Regrown) (a : Nat) (v : Value) (acc : List P11.Tok) (hw : w = Xk.exw W p) (hW : LW w0 s bs B ba W a) (hs : s.size ≤ 4096)
    (hn : n = 2 * (s.size - a)) (hacc : acc.length ≤ a) (hF : Fr s bs B ba v act) (hrow : (Xk.exw W p).ownsRow W.heap.size 31 3 v acc.length (tokCells acc)) (hT : P11.toks s.data.toList 0 = P11.after acc (P11.toks (s.data.toList.drop a) a)) (ha : a ≤ s.size) (hp : ([45, 45] : List UInt8).isPrefixOf (s.data.toList.drop a) = true) : Pass w0 s bs B ba n 1 act w := by
  obtain ⟨c, t, hd, hstep, hpos⟩ := P11.step_note hp
  have hT' : P11.toks s.data.toList 0 = P11.after acc (P11.toks (s.data.toList.drop (a + P11.lineLen (s.data.toList.drop a))) (a + P11.lineLen (s.data.toList.drop a))) := by
    rw [hT]
    conv => lhs; rw [hd]
    rw [P11.after_none hstep, ← hd, List.drop_drop]
  rw [← hd] at hpos
  have hlt : a < s.size := by
    have := congrArg List.length hd
    simp at this; omega
  rcases P11.index_cases 10 (s.data.toList.drop a) with ⟨e1, e2⟩ | ⟨k, e1, e2, e3, e4⟩
  · have HX := Lib.hid (fun w => ix_any s a 10 10 _ rfl e1 w)
    have hl : P11.lineLen (s.data.toList.drop a) = s.size - a := by
      unfold P11.lineLen; rw [P11.takeWhile_len 10 _ e2]; simp
    rw [hl, show a + (s.size - a) = s.size by omega] at hT'
    have HT' := Lib.hid hT'
    clear hT' hl e1 e2 hd hstep hpos hp
    subst hw
    unfold Fr at hF
    obtain ⟨f, rfl⟩ := hF
    unfold Pass
    generalize hQ : bodyPost Tryd.prog Tryd.f8 (LexPost s w0) = Q
    have HQ := Lib.hid hQ
    clear hQ
    generalize hJL : (fun (l' : Nat) (a' : Act) (w' : World) => ∃ m, m < n ∧ JL w0 s bs B ba m l' a' w') = J
    have HJ := Lib.hid hJL
    clear hJL
    unfold scopeCode Tryd.f8
    simp only [findLabel]
    refine ⟨_, rfl, ?_⟩
    have cs := hW.cs
    have ca := hW.ca
    have fa := hW.fa
    have ls := hW.ls
    have la := hW.la
    have HW := Lib.hid hW
    have HN := Lib.hid hn
    have HR := Lib.hid hrow
    have HT := Lib.hid hT
    clear hW hn hrow hT
    have hz : (a : Int) + ((s.size : Int) - (a : Int)) = (s.size : Int) := by omega
    go_wp2_with (go_at_call 26; (with_reducible refine (HX.out _).mono ?_); rintro e w' ⟨rfl, rfl⟩)
    go_step3
    simp only [Exit.inBlock, Exit.then, Xk.jumps_goto, ↓reduceIte]
    rw [← HJ.out]
    exact goto0 HW.out s.size (by rw [HN.out]; omega) hlt (Nat.le_refl _) (by rfl) (by omega) (Fr.of (by kernel_rfl)) HR.out HT'.out
  · have HX := Lib.hid (fun w => ix_any s a 10 10 _ rfl e1 w)
    have hl : P11.lineLen (s.data.toList.drop a) = k := P11.takeWhile_at 10 _ k e3 e4
    rw [hl] at hT' hpos
    have hk : a + k < s.size := by simp at e2; omega
    have HT' := Lib.hid hT'
    clear hT' hl e1 e2 e3 e4 hd hstep hp
    subst hw
    unfold Fr at hF
    obtain ⟨f, rfl⟩ := hF
    unfold Pass
    generalize hQ : bodyPost Tryd.prog Tryd.f8 (LexPost s w0) = Q
    have HQ := Lib.hid hQ
    clear hQ
    generalize hJL : (fun (l' : Nat) (a' : Act) (w' : World) => ∃ m, m < n ∧ JL w0 s bs B ba m l' a' w') = J
    have HJ := Lib.hid hJL
    clear hJL
    unfold scopeCode Tryd.f8
    simp only [findLabel]
    refine ⟨_, rfl, ?_⟩
    have cs := hW.cs
    have ca := hW.ca
    have fa := hW.fa
    have ls := hW.ls
    have la := hW.la
    have HW := Lib.hid hW
    have HN := Lib.hid hn
    have HR := Lib.hid hrow
    have HT := Lib.hid hT
    clear hW hn hrow hT
    go_wp2_with (go_at_call 26; (with_reducible refine (HX.out _).mono ?_); rintro e w' ⟨rfl, rfl⟩)
    go_step3
    simp only [Exit.inBlock, Exit.then, Xk.jumps_goto, ↓reduceIte]
    rw [← HJ.out]
    exact goto0 HW.out (a + k) (by rw [HN.out]; omega) (by omega) (by omega) rfl (by omega) (Fr.of (by kernel_rfl)) HR.out HT'.out
theorem textR_none (a : Nat) : textR a none = .tuple #[.int .i64 0, .string ⟨#[]⟩, .bool false] := rfl
theorem textR_some (a : Nat) (t : List UInt8) (n : Nat) : textR a (some (t, n)) = .tuple #[.int .i64 ((a + 1 + n : Nat) : Int), .string ⟨t.toArray⟩, .bool true] := rfl
set_option maxRecDepth 100000 in
set_option maxHeartbeats 1000000 in
theorem pass2 {w0 : World} {s : ByteArray} {bs B ba n : Nat} {act : Act} {w : World} (W : World) (p : Regrown) (a : Nat) (v : Value) (acc : List P11.Tok) (hw : w = Xk.exw W p) (hW : LW w0 s bs B ba W a) (hs : s.size ≤ 4096)
    (hn : n = 2 * (s.size - a)) (hacc : acc.length ≤ a) (hF : Fr s bs B ba v act) (hrow : (Xk.exw W p).ownsRow W.heap.size 31 3 v acc.length (tokCells acc)) (hT : P11.toks s.data.toList 0 = P11.after acc (P11.toks (s.data.toList.drop a) a)) (ha : a ≤ s.size) (hp : ([39] : List UInt8).isPrefixOf (s.data.toList.drop a) = true) : Pass w0 s bs B ba n 2 act w := by
  obtain ⟨t, hd, hstep⟩ := P11.step_text hp
  have hlt : a < s.size := by
    have := congrArg List.length hd
    simp at this; omega
  have ht : s.data.toList.drop (a + 1) = t := by
    have := drop_at s a hlt
    rw [hd] at this
    exact (List.cons.inj this).2.symm
  have htx := fun w => text_any s a hlt (by omega) w
  rw [ht] at htx
  cases hx : P11.textOf t with
  | none =>
    rw [hx] at hstep htx
    have hL : P11.lexed s.data.toList = .inr (a, 112) := by
      rw [P11.lexed, if_neg (by show ¬ 4096 < s.size; omega), hT, hd, P11.after_err hstep]; rfl
    rw [textR_none] at htx
    have HL := Lib.hid hL
    have HX := Lib.hid htx
    clear hL htx hstep hx hd ht hp
    subst hw
    unfold Fr at hF
    obtain ⟨f, rfl⟩ := hF
    unfold Pass
    generalize hQ : bodyPost Tryd.prog Tryd.f8 (LexPost s w0) = Q
    have HQ := Lib.hid hQ
    clear hQ
    generalize hJL : (fun (l' : Nat) (a' : Act) (w' : World) => ∃ m, m < n ∧ JL w0 s bs B ba m l' a' w') = J
    have HJ := Lib.hid hJL
    clear hJL
    unfold scopeCode Tryd.f8
    simp only [findLabel]
    refine ⟨_, rfl, ?_⟩
    have cs := hW.cs
    have ca := hW.ca
    have fa := hW.fa
    have ls := hW.ls
    have la := hW.la
    have HW := Lib.hid hW
    have HN := Lib.hid hn
    have HR := Lib.hid hrow
    have HT := Lib.hid hT
    clear hW hn hrow hT
    go_wp2_with (go_at_call 27; (with_reducible refine (HX.out _).mono ?_); rintro e w' ⟨rfl, rfl⟩)
    refine Xk.wp_region_rel' 4 [] trivial (by kernel_rfl) (by kernel_rfl) ?_
    simp only [List.take_succ_cons, List.take_zero, List.drop_succ_cons, List.drop_zero]
    repeat (first
      | (refine Xk.rel_det (Xk.wanted_none (by rfl)) (by rfl) (fun K hK => ?_); apply Exists.intro; refine ⟨fun p hp => ?_, ?_⟩; (go_simp; first | exact ⟨rfl, rfl⟩ | ((try refine ⟨by kernel_rfl, ?_⟩); (fail))); (go_simp; refine hK _ ?_; clear hK K))
      | (refine Xk.rel_skip (by rfl) (fun K hK => ?_); go_simp; refine hK _ ?_; clear hK K)
      | (refine Xk.rel_det (by rfl) (by rfl) (fun K hK => ?_); apply Exists.intro; refine ⟨fun p hp => ?_, ?_⟩; (go_simp; first | exact ⟨rfl, rfl⟩ | ((try refine ⟨by kernel_rfl, ?_⟩); (fail))); (go_simp; refine hK _ ?_; clear hK K)))
    refine Xk.rel_nil (fun p _ => ?_)
    go_wp2
    rw [← HQ.out]
    go_ret3
    exact ⟨HW.out.below.trans ((Below.refl _ _).trans (by first | exact (Xk.ext_exw W _).mono HW.out.below.size | (rw [Xk.exw_drew, Xk.exw_exw]; exact (Xk.ext_exw W _).mono HW.out.below.size))), .inr ⟨a, 112, HL.out, rfl⟩⟩
  | some x =>
    obtain ⟨u, k⟩ := x
    rw [hx, textR_some] at htx
    rw [hx] at hstep
    dsimp only at hstep
    have hk := P11.textOf_pos _ t (Nat.le_refl _) (u, k) hx
    dsimp only at hk
    have hk2 : a + 1 + k ≤ s.size := by rw [← ht] at hk; simp at hk; omega
    have hq : (s.data.toList.drop a).take (a + 1 + k - a) = (39 :: t).take (k + 1) := by rw [hd]; congr 1; omega
    rcases P11.index_cases 0 ((39 :: t).take (k + 1)) with ⟨e1, e2⟩ | ⟨j, e1, e2, e3, e4⟩
    · have HI := Lib.hid (fun w => ix_ext s a (a + 1 + k) 0 0 (-1) rfl (by rw [hq]; exact e1) w)
      rw [if_neg (by simpa using e2)] at hstep
      have hT' : P11.toks s.data.toList 0 = P11.after (acc ++ [⟨4, u, a⟩]) (P11.toks (s.data.toList.drop (a + 1 + k)) (a + 1 + k)) := by
        rw [hT, hd, P11.after_some hstep, ← hd, List.drop_drop, show a + (k + 1) = a + 1 + k by omega]
      have HT' := Lib.hid hT'
      have HX := Lib.hid htx
      clear hT' htx hstep hx hd ht hp hq e1 e2
      have haq : a < a + 1 + k := by omega
      generalize a + 1 + k = q at *
      obtain ⟨i0, hi, hz0, hz1, hz2⟩ := info_parts Tryd.infoTok
      have Hi := Lib.hid hi
      have Hz0 := Lib.hid hz0
      have Hz1 := Lib.hid hz1
      have Hz2 := Lib.hid hz2
      clear hi hz0 hz1 hz2
      subst hw
      unfold Fr at hF
      obtain ⟨f, rfl⟩ := hF
      unfold Pass
      generalize hQ : bodyPost Tryd.prog Tryd.f8 (LexPost s w0) = Q
      have HQ := Lib.hid hQ
      clear hQ
      generalize hJL : (fun (l' : Nat) (a' : Act) (w' : World) => ∃ m, m < n ∧ JL w0 s bs B ba m l' a' w') = J
      have HJ := Lib.hid hJL
      clear hJL
      unfold scopeCode Tryd.f8
      simp only [findLabel]
      refine ⟨_, rfl, ?_⟩
      have cs := hW.cs
      have ca := hW.ca
      have fa := hW.fa
      have ls := hW.ls
      have la := hW.la
      have HW := Lib.hid hW
      have HN := Lib.hid hn
      have HR := Lib.hid hrow
      have HT := Lib.hid hT
      clear hW hn hrow hT
      have q2 : (a : Int) ≤ (q : Int) := by omega
      have q3 : (q : Int) ≤ (s.size : Int) := by omega
      have q4 : (a : Int) ≤ (s.size : Int) := by omega
      go_wp2_with (first | (go_at_call 27; (with_reducible refine (HX.out _).mono ?_); rintro e w' ⟨rfl, rfl⟩) | (go_at_call 26; (with_reducible refine (HI.out _).mono ?_); rintro e w' ⟨rfl, rfl⟩) | (at_builtin; refine Xk.wpList_own (w0 := W) rfl _ _ 26 rfl 31 i0 _ 3 32 Tryd.underlying26 Hi.out Hz0.out Hz1.out Hz2.out rfl (by decide) v acc.length (tokCells acc) rfl (by repeat (first | with_reducible exact HR.out | with_reducible refine Xk.own_alloc ?_ _ | with_reducible refine Xk.own_drew ?_ | with_reducible exact Xk.own_d HR.out | with_reducible refine Xk.own_more (d := 0) ?_)) _ 0 1 1 [.int .i64 4, .string ⟨u.toArray⟩, .int .i64 a] rfl rfl (Xk.cells3 (by simp)) (by intro u hu; simp only [List.mem_cons, List.not_mem_nil, or_false] at hu; rcases hu with rfl | rfl | rfl <;> rfl) (by omega) (by repeat (first | with_reducible exact Below.refl _ _ | ((with_reducible refine Below.setCell ?_ ?_ _); rotate_left; exact (by (try simp only [World.size_alloc, Xk.exw_size, World.size_setCell, World.size_drew, World.heap_drewN]); omega)) | ((with_reducible refine Below.alloc ?_ ?_ _); rotate_left; exact (by (try simp only [World.size_alloc, Xk.exw_size, World.size_setCell, World.size_drew, World.heap_drewN]); omega)) | ((with_reducible refine Xk.below_exw ?_ ?_ _); rotate_left; exact (by (try simp only [World.size_alloc, Xk.exw_size, World.size_setCell, World.size_drew, World.heap_drewN]); omega)) | (with_reducible refine Below.drew ?_))) ?_; intro v' p' ho'; have Ho := Lib.hid ho'; clear ho'))
      go_step3
      simp only [Exit.inBlock, Exit.then, Xk.jumps_goto, ↓reduceIte]
      rw [← HJ.out]
      have ho : (Xk.exw W p').ownsRow W.heap.size 31 3 v' (acc ++ [(⟨4, u, a⟩ : P11.Tok)]).length (tokCells (acc ++ [(⟨4, u, a⟩ : P11.Tok)])) := by
        rw [tokCells_snoc, List.length_append]
        exact Ho.out
      exact goto0 HW.out q (by rw [HN.out]; omega) haq hk2 rfl (by rw [List.length_append, List.length_singleton]; omega) (Fr.of (by kernel_rfl)) ho HT'.out
    · have HI := Lib.hid (fun w => ix_ext s a (a + 1 + k) 0 0 j rfl (by rw [hq]; exact e1) w)
      have hj : j ≤ k := by simp at e2; omega
      have hc : ((39 :: t).take (k + 1)).contains 0 = true := by
        have : (0 : UInt8) ∈ ((39 :: t).take (k + 1)).drop j := by rw [e4]; exact List.mem_cons_self ..
        simpa using List.mem_of_mem_drop this
      rw [if_pos hc, P11.idx_at 0 _ j e3 e4] at hstep
      have hL : P11.lexed s.data.toList = .inr (a + j, 111) := by
        rw [P11.lexed, if_neg (by show ¬ 4096 < s.size; omega), hT, hd, P11.after_err hstep]
      have HL := Lib.hid hL
      have HX := Lib.hid htx
      clear hL htx hstep hx hd ht hp hq e1 e2 e3 e4 hc
      have haq : a + j < a + 1 + k := by omega
      generalize a + 1 + k = q at *
      subst hw
      unfold Fr at hF
      obtain ⟨f, rfl⟩ := hF
      unfold Pass
      generalize hQ : bodyPost Tryd.prog Tryd.f8 (LexPost s w0) = Q
      have HQ := Lib.hid hQ
      clear hQ
      generalize hJL : (fun (l' : Nat) (a' : Act) (w' : World) => ∃ m, m < n ∧ JL w0 s bs B ba m l' a' w') = J
      have HJ := Lib.hid hJL
      clear hJL
      unfold scopeCode Tryd.f8
      simp only [findLabel]
      refine ⟨_, rfl, ?_⟩
      have cs := hW.cs
      have ca := hW.ca
      have fa := hW.fa
      have ls := hW.ls
      have la := hW.la
      have HW := Lib.hid hW
      have HN := Lib.hid hn
      have HR := Lib.hid hrow
      have HT := Lib.hid hT
      clear hW hn hrow hT
      have q2 : (a : Int) ≤ (q : Int) := by omega
      have q3 : (q : Int) ≤ (s.size : Int) := by omega
      have q4 : (a : Int) ≤ (s.size : Int) := by omega
      go_wp2_with (first | (go_at_call 27; (with_reducible refine (HX.out _).mono ?_); rintro e w' ⟨rfl, rfl⟩) | (go_at_call 26; (with_reducible refine (HI.out _).mono ?_); rintro e w' ⟨rfl, rfl⟩))
      have q5 : IntKind.i64.wrap ((a : Int) + (j : Int)) = (a : Int) + (j : Int) := IntWalk.i64_in _ (by omega)
      refine Xk.wp_region_rel' 6 [] trivial (by kernel_rfl) (by kernel_rfl) ?_
      simp only [List.take_succ_cons, List.take_zero, List.drop_succ_cons, List.drop_zero]
      repeat (first
        | (refine Xk.rel_det (Xk.wanted_none (by rfl)) (by rfl) (fun K hK => ?_); apply Exists.intro; refine ⟨fun p hp => ?_, ?_⟩; (go_simp; first | exact ⟨rfl, rfl⟩ | ((try refine ⟨by kernel_rfl, ?_⟩); (fail))); (go_simp; refine hK _ ?_; clear hK K))
        | (refine Xk.rel_skip (by rfl) (fun K hK => ?_); go_simp; refine hK _ ?_; clear hK K)
        | (refine Xk.rel_det (by rfl) (by rfl) (fun K hK => ?_); apply Exists.intro; refine ⟨fun p hp => ?_, ?_⟩; (go_simp; first | exact ⟨rfl, rfl⟩ | ((try refine ⟨by kernel_rfl, ?_⟩); (fail))); (go_simp; refine hK _ ?_; clear hK K)))
      refine Xk.rel_nil (fun p _ => ?_)
      go_wp2
      rw [← HQ.out]
      go_ret3
      exact ⟨HW.out.below.trans ((Below.refl _ _).trans (by first | exact (Xk.ext_exw W _).mono HW.out.below.size | (rw [Xk.exw_drew, Xk.exw_exw]; exact (Xk.ext_exw W _).mono HW.out.below.size))), .inr ⟨a + j, 111, HL.out, rfl⟩⟩
end Go.Proofs.YteipafoiogkdoaaDoor
