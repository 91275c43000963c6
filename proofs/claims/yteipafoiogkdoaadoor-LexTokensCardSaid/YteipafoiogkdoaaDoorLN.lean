/- Walks: the lexer, whole. -/
import Derived.Test.YteipafoiogkdoaaDoorLK
set_option linter.unusedSimpArgs false
set_option linter.unusedVariables false
namespace Go.Proofs.YteipafoiogkdoaaDoor
open Go.RowKit Go.Maps
theorem jumps_mono {J J' : Nat → Act → World → Prop} {Q : Exit → Act → World → Prop} (h : ∀ l a w, J l a w → J' l a w) {e : Exit} {a : Act} {w : World} (hq : Xk.jumps J Q e a w) : Xk.jumps J' Q e a w := by
  cases e <;> first | exact h _ _ _ hq | exact hq
/-- The world of the loop that lays the key words. -/
structure LoopW (s : ByteArray) (w0 : World) (bw k : Nat) (wr : World) : Prop where
  below : Below w0.heap.size w0 wr
  words : WordsAt wr (w0.heap.size + 1) k
  cs : wr.cell? ⟨w0.heap.size, 0, none⟩ = some (.string s)
  cw : ∀ (j : Nat) (x : List UInt8), P11.words[j]? = some x → wr.cell? ⟨bw, j, none⟩ = some (.string ⟨x.toArray⟩)
  lw : bw < wr.heap.size
  ls : w0.heap.size + 1 < wr.heap.size
  nb : bw ≠ w0.heap.size + 1
theorem LoopW.grown {s : ByteArray} {w0 wr wr' : World} {bw k k' : Nat} (h : LoopW s w0 bw k wr) (hg : wr.grownBy wr' (some (w0.heap.size + 1))) (hw : WordsAt wr' (w0.heap.size + 1) k') : LoopW s w0 bw k' wr' where
  below := h.below.grown hg h.below.size (fun j hj => by cases hj; omega)
  words := hw
  cs := by rw [← h.cs]; exact World.cell?_of_block (hg.block _ (by have := h.ls; dsimp only; omega) (by simp))
  cw := fun j x hj => by rw [← h.cw j x hj]; exact World.cell?_of_block (hg.block _ h.lw (by simpa using h.nb))
  lw := Nat.lt_of_lt_of_le h.lw hg.size
  ls := Nat.lt_of_lt_of_le h.ls hg.size
  nb := h.nb
theorem LW.start {s : ByteArray} {w0 wr : World} {bw : Nat} (h : LoopW s w0 bw 43 wr) : LW w0 s w0.heap.size (w0.heap.size + 1) wr.heap.size (wr.alloc (.cells #[.int .i64 0] 3)) 0 where
  below := h.below.alloc h.below.size _
  cs := by rw [World.cell?_alloc_lt (h := by have := h.ls; dsimp only; omega)]; exact h.cs
  ca := by rw [World.cell?_alloc_mark]; rfl
  fa := by simp
  words := h.words.ext ((Below.refl _ _).alloc (Nat.le_refl _) _)
  ls := by have := h.ls; simp; omega
  la := by simp
  ha := h.below.size
  ne := by have := h.ls; omega
  nB := by have := h.ls; omega
theorem exw_self (w : World) : Xk.exw w ⟨w.drawn, #[]⟩ = w := by
  simp [Xk.exw, Go.Sort.grow, redrawn]
theorem JL.start {w0 : World} {s : ByteArray} {bs B ba : Nat} {W : World} {act : Act} (hW : LW w0 s bs B ba W 0) (hF : Fr s bs B ba (.slice none 0 0) act) : JL w0 s bs B ba (2 * s.size + 1) 0 act W :=
  .inl ⟨rfl, W, ⟨W.drawn, #[]⟩, 0, .slice none 0 0, [], (exw_self W).symm, hW, Nat.zero_le _, rfl, Nat.le_refl _, hF, World.ownsRow_nil _ _ _ _, by rw [P11.after_nil]; rfl⟩
theorem pass_all {w0 : World} {s : ByteArray} {bs B ba n l : Nat} {act : Act} {w : World} (hJ : JL w0 s bs B ba n l act w) (hs : s.size ≤ 4096) : Pass w0 s bs B ba n l act w := by
  rcases hJ with ⟨rfl, W, p, a, v, acc, hw, hW, ha, hn, hacc, hF, hrow, hT⟩ | ⟨rfl, W, p, a, v, acc, hw, hW, ha, hn, hacc, hF, hrow, hT, hp⟩ | ⟨rfl, W, p, a, v, acc, hw, hW, ha, hn, hacc, hF, hrow, hT, hp⟩
  · by_cases hlt : a < s.size
    · cases hb : P11.blank s[a]
      · cases hp : ([45, 45] : List UInt8).isPrefixOf (s.data.toList.drop a)
        · by_cases hq : s[a] = 39
          · exact pass_text W p a v acc hw hW hs hn hacc hF hrow hT hlt hq
          · cases hl : P11.letter s[a]
            · cases hd : P11.digit s[a]
              · cases hg : P11.signOf (s.data.toList.drop a) with
                | none => exact pass_bad W p a v acc hw hW hs hn hacc hF hrow hT hlt hb hp hq hl hd hg
                | some y => exact pass_sign W p a v acc hw hW hs hn hacc hF hrow hT hlt hb hp hq hl hd hg
              · exact pass_digit W p a v acc hw hW hs hn hacc hF hrow hT hlt hd
            · exact pass_letter W p a v acc hw hW hs hn hacc hF hrow hT hlt hl
        · exact pass_note W p a v acc hw hW hs hn hacc hF hrow hT hlt hb hp
      · exact pass_blank W p a v acc hw hW hs hn hacc hF hrow hT hlt hb
    · exact pass_end W p a v acc hw hW hs hn hacc hF hrow hT (by omega)
  · exact pass1 W p a v acc hw hW hs hn hacc hF hrow hT ha hp
  · exact pass2 W p a v acc hw hW hs hn hacc hF hrow hT ha hp
set_option maxRecDepth 100000 in
set_option maxHeartbeats 2000000 in
theorem words_at (w : World) : Calls Tryd.prog 12 #[] w fun e w' => e = .returned (.slice (some ⟨w.heap.size, 0, none⟩) 43 43) ∧ (∀ (j : Nat) (x : List UInt8), P11.words[j]? = some x → w'.cell? ⟨w.heap.size, j, none⟩ = some (.string ⟨x.toArray⟩)) ∧ Below w.heap.size w w' ∧ w.heap.size < w'.heap.size := by
  go_enter Tryd.func12, Tryd.ntmps12
  go_wp2
  go_ret
  refine ⟨rfl, fun j x hj => ?_, (by repeat (first | with_reducible exact Below.refl _ _ | ((with_reducible refine Below.setCell ?_ ?_ _); rotate_left; exact (by (try simp only [World.size_alloc, Xk.exw_size, World.size_setCell, World.size_drew, World.heap_drewN]); omega)) | ((with_reducible refine Below.alloc ?_ ?_ _); rotate_left; exact (by (try simp only [World.size_alloc, Xk.exw_size, World.size_setCell, World.size_drew, World.heap_drewN]); omega)) | ((with_reducible refine Xk.below_exw ?_ ?_ _); rotate_left; exact (by (try simp only [World.size_alloc, Xk.exw_size, World.size_setCell, World.size_drew, World.heap_drewN]); omega)) | (with_reducible refine Below.drew ?_))), by simp⟩
  rw [World.cell?_alloc_mark]
  have hC : ∀ C : Array Value, C.toList = P11.words.map (fun x => Value.string ⟨x.toArray⟩) → C[j]? = some (.string ⟨x.toArray⟩) := fun C hC => by
    rw [← Array.getElem?_toList, hC, List.getElem?_map, hj]; rfl
  exact hC _ (by kernel_rfl)
theorem setW_succ (k : Nat) (x : List UInt8) (h : P11.words[k]? = some x) : P11.setW (k + 1) = (P11.setW k).put (.string x) (.agg []) := by
  obtain ⟨hk, rfl⟩ := List.getElem?_eq_some_iff.1 h
  unfold P11.setW
  rw [List.take_succ_eq_append_getElem hk, List.map_append, List.map_cons, List.map_nil, setOf_snoc]
theorem words_size (x : List UInt8) (k : Nat) (h : P11.words[k]? = some x) : x.length ≤ 100 := by
  have : P11.words.all (fun x => decide (x.length ≤ 100)) = true := by decide
  simpa using List.all_eq_true.1 this x (List.mem_of_getElem? h)
set_option maxRecDepth 100000 in
set_option maxHeartbeats 4000000 in
theorem tokens_any (s : ByteArray) (w : World) : Calls Tryd.prog 8 #[.string s] w (LexPost s w) := by
  have hmm := @run_makeMap Tryd.prog
  generalize hQ : LexPost s w = R
  have HQ := Lib.hid hQ
  clear hQ
  go_enter Tryd.func8, Tryd.ntmps8
  go_wp2
  refine Xk.wp_scope_labels (fun n l a w' => s.size ≤ 4096 ∧ ∃ bs B ba, JL w s bs B ba n l a w') ?_ ?_
  · go_wp2_with (go_at_call 12; (with_reducible refine (words_at _).mono ?_); rintro e w' ⟨rfl, hc, hb, hz⟩; obtain ⟨p, rfl⟩ := Xk.exw_of hb; clear hb; have HC := Lib.hid hc; have HZ := Lib.hid hz; clear hc hz)
    go_loopw [7, 18] (fun _ x wr => ∃ k : Nat, k ≤ 43 ∧ x = .int .i64 k ∧ LoopW s w (w.heap.size + 2) k wr) (fun _ x _ => 43 - (intOf x).toNat)
    case atStart =>
      refine ⟨0, by omega, rfl, ⟨(by repeat (first | with_reducible exact Below.refl _ _ | ((with_reducible refine Below.setCell ?_ ?_ _); rotate_left; exact (by (try simp only [World.size_alloc, Xk.exw_size, World.size_setCell, World.size_drew, World.heap_drewN]); omega)) | ((with_reducible refine Below.alloc ?_ ?_ _); rotate_left; exact (by (try simp only [World.size_alloc, Xk.exw_size, World.size_setCell, World.size_drew, World.heap_drewN]); omega)) | ((with_reducible refine Xk.below_exw ?_ ?_ _); rotate_left; exact (by (try simp only [World.size_alloc, Xk.exw_size, World.size_setCell, World.size_drew, World.heap_drewN]); omega)) | (with_reducible refine Below.drew ?_))), ?_, ?_, ?_, ?_, ?_, by omega⟩⟩
      · refine WordsAt.ext ?_ (Xk.ext_exw _ _)
        have h := World.ownsMap_made (w.alloc (.cells #[.string s] 9)) Tryd.prog 9 (unitElem (H := Unit))
        rw [World.size_alloc] at h
        exact h
      · go_simp
      · intro j x hj
        have := HC.out j x hj
        simpa using this
      · have := HZ.out
        simp at this ⊢
        omega
      · simp; omega
    case round =>
      obtain ⟨k, hk, rfl, hL⟩ := hrel
      by_cases hlt : k < 43
      · have hx : P11.words[k]? = some (P11.words[k]'hlt) := List.getElem?_eq_getElem _
        have c1 := hL.cw k _ hx
        have hsz := words_size _ k hx
        have hkey := WideMaps.keyOf_string_mk Tryd.underlying9 (s := ⟨(P11.words[k]'hlt).toArray⟩) (by show (P11.words[k]'hlt).toArray.size ≤ maxLen; rw [List.size_toArray]; unfold maxLen; omega)
        have hset := setW_succ k _ hx
        generalize P11.words[k]'hlt = x at *
        have hown := hL.words
        have HO := Lib.hid hown
        have HL := Lib.hid hL
        have HK := Lib.hid hkey
        have HS := Lib.hid hset
        clear hL hkey hset hown hx
        have k1 : (k : Int) < 43 := by omega
        go_wp2_with (at_mapUpdate; refine wpList_mapUpdate_own _ rfl _ _ _ 42 rfl 9 43 keyLaw Tryd.underlying42 (unitElem (H := Unit)) (w.heap.size + 1) k _ rfl HO.out (by unfold maxLen; omega) _ _ _ rfl rfl HK.out _ [] unitElem_mk ?_; intro w1 hown1 hgrow1; have HO1 := Lib.hid hown1; have HG1 := Lib.hid hgrow1; clear hown1 hgrow1)
        go_roundw
        case rel => exact ⟨k + 1, by omega, by go_num, HL.out.grown HG1.out (by unfold WordsAt; rw [HS.out]; exact HO1.out)⟩
        case measure => simp [intOf]; omega
      · obtain rfl : k = 43 := by omega
        clear hk hlt
        by_cases hs : 4096 < s.size
        · have c1 := hL.cs
          have l1 := hL.ls
          have l0 : w.heap.size < wr.heap.size := by omega
          have HL := Lib.hid hL
          clear hL
          have s1 : (4096 : Int) < (s.size : Int) := by omega
          go_wp2
          go_ret3
          rw [← HQ.out]
          exact ⟨HL.out.below.alloc HL.out.below.size _, .inr ⟨0, 110, by rw [P11.lexed, if_pos (show 4096 < s.data.toList.length from hs)], rfl⟩⟩
        · have c1 := hL.cs
          have l1 := hL.ls
          have l0 : w.heap.size < wr.heap.size := by omega
          have HL := Lib.hid hL
          clear hL
          have s1 : ¬ (4096 : Int) < (s.size : Int) := by omega
          go_wp2
          go_step3
          simp only [Exit.then]
          rename_i hK
          refine hK _ _ ?_
          clear hK
          have hW : LW w s w.heap.size (w.heap.size + 1) wr.heap.size (wr.alloc (.cells #[.int .i64 0] 3)) 0 := LW.start HL.out
          obtain ⟨rest, h1, h2⟩ := pass_all (JL.start hW (Fr.of (by kernel_rfl))) (Nat.le_of_not_lt hs)
          have e := h1.symm.trans (rfl : findLabel scopeCode 0 = some (Code.skip.seq _))
          injection e with e
          injection e with _ e
          rw [e] at h2
          have h3 := wp_mono h2 (fun e a w h => jumps_mono (J' := fun l a' w' => ∃ n, s.size ≤ 4096 ∧ ∃ bs B ba, JL _ s bs B ba n l a' w') (fun l a w ⟨m, hm, hj⟩ => ⟨m, Nat.le_of_not_lt hs, _, _, _, hj⟩) h)
          rw [HQ.out] at h3
          exact h3
  · rintro n l a w' ⟨hs, bs, B, ba, hJ⟩
    obtain ⟨rest, h1, h2⟩ := pass_all hJ hs
    refine ⟨_, h1, ?_⟩
    refine wp_seq (wp_skip ?_)
    have h3 := wp_mono h2 (fun e a w h => jumps_mono (J' := fun l a' w' => ∃ m, m < n ∧ s.size ≤ 4096 ∧ ∃ bs B ba, JL _ s bs B ba m l a' w') (fun l a w ⟨m, hm, hj⟩ => ⟨m, hm, hs, bs, B, ba, hj⟩) h)
    rw [HQ.out] at h3
    exact h3
end Go.Proofs.YteipafoiogkdoaaDoor
