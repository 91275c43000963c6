/- The walk of the statement LexTokens. -/
import Derived.Test.YteipafoiogkdoaaDoorMA
import Derived.Test.YteipafoiogkdoaaDoorMB
import Derived.Test.YteipafoiogkdoaaDoorPO
set_option linter.unusedSimpArgs false
set_option linter.unusedVariables false
namespace Go.Proofs.YteipafoiogkdoaaDoor
open Go.RowKit Go.Maps
theorem ext_step (w : World) (P q R : Regrown) (h : R.os = P.os ++ q.os) : Xk.Ext (Xk.exw w P) (Xk.exw w R) := by
  have e : Xk.exw w R = Xk.exw (Xk.exw w P) ⟨R.d, q.os⟩ := by rw [Xk.exw_exw]; cases R; dsimp only at h; rw [h]
  rw [e]; exact Xk.ext_exw _ _
theorem lexTok_v (s : ByteArray) (l : List P11.Tok) (h : P11.lexed s.data.toList = .inl l) (w : World) :
    Calls Tryd.prog 8 #[.string s] w fun e w' => ∃ v, e = .returned (.tuple #[v, .int .i64 0, .int .i64 0]) ∧ ToksAt w' v l ∧ Below w.heap.size w w' := by
  refine (tokens_any s w).mono ?_
  rintro e w' ⟨hb, ⟨l', v, h1, rfl, hv⟩ | ⟨a, k, h1, -⟩⟩
  · rw [h] at h1; cases h1; exact ⟨v, rfl, hv, hb⟩
  · rw [h] at h1; cases h1
theorem refTok_v (s : ByteArray) (l : List P11.Tok) (h : P11.lexed s.data.toList = .inl l) (w : World) :
    Calls Tryd.prog 9 #[.string s] w fun e w' => ∃ v, e = .returned (.tuple #[v, .int .i64 0, .int .i64 0]) ∧ ToksAt w' v l ∧ Below w.heap.size w w' := by
  refine (refTokens_any s w).mono ?_
  rintro e w' ⟨hb, ⟨l', v, h1, rfl, hv⟩ | ⟨a, k, h1, -⟩⟩
  · rw [h] at h1; cases h1; exact ⟨v, rfl, hv, hb⟩
  · rw [h] at h1; cases h1
theorem refTok_err (s : ByteArray) (a : Nat) (k : Int) (h : P11.lexed s.data.toList = .inr (a, k)) (w : World) :
    Calls Tryd.prog 9 #[.string s] w fun e w' => e = .returned (.tuple #[.slice none 0 0, .int .i64 a, .int .i64 k]) ∧ Below w.heap.size w w' := by
  refine (refTokens_any s w).mono ?_
  rintro e w' ⟨hb, ⟨l', v, h1, -⟩ | ⟨a', k', h1, rfl⟩⟩
  · rw [h] at h1; cases h1
  · rw [h] at h1; cases h1
    exact ⟨rfl, hb⟩
theorem ToksAt.nil (w : World) : ToksAt w (.slice none 0 0) [] := ⟨none, 0, rfl, fun j t hj => by simp at hj⟩
set_option maxRecDepth 100000 in
set_option maxHeartbeats 4000000 in
theorem lexTokens_walk (s : ByteArray) (w : World) (hE : EnvL w) (hs : s.size ≤ maxLen) :
    Calls Tryd.prog 4 #[.string s] w fun e w' => e = .returned (.bool true) ∧ Below w.heap.size w w' := by
  have HE := Lib.hid (fun W (hx : Xk.Ext w W) => hE.ext hx)
  clear hE
  unfold maxLen at hs
  by_cases hb1 : 6000 < s.size
  · have s1 : (6000 : Int) < (s.size : Int) := by omega
    go_enter Tryd.func4, Tryd.ntmps4
    go_wp2_with (go_at_call 7; (with_reducible refine (known11 _).mono ?_); rintro e w' ⟨rfl, hb⟩; obtain ⟨p, rfl⟩ := Xk.exw_of hb; clear hb)
    go_ret
    exact ⟨rfl, (by repeat (first | with_reducible exact Below.refl _ _ | ((with_reducible refine Below.setCell ?_ ?_ _); rotate_left; exact (by (try simp only [World.size_alloc, Xk.exw_size, World.size_setCell, World.size_drew, World.heap_drewN]); omega)) | ((with_reducible refine Below.alloc ?_ ?_ _); rotate_left; exact (by (try simp only [World.size_alloc, Xk.exw_size, World.size_setCell, World.size_drew, World.heap_drewN]); omega)) | ((with_reducible refine Xk.below_exw ?_ ?_ _); rotate_left; exact (by (try simp only [World.size_alloc, Xk.exw_size, World.size_setCell, World.size_drew, World.heap_drewN]); omega)) | (with_reducible refine Below.drew ?_)))⟩
  have s1 : ¬ (6000 : Int) < (s.size : Int) := by omega
  cases hl : P11.lexed s.data.toList with
  | inr x =>
    obtain ⟨a, k⟩ := x
    have H1 := Lib.hid (fun w => tokens_err s a k hl w)
    have H2 := Lib.hid (fun w => refTok_err s a k hl w)
    have H3 := Lib.hid (fun w => tokens_same (.slice none 0 0) (.slice none 0 0) [] (by simp) w (ToksAt.nil w) (ToksAt.nil w))
    have H4 := Lib.hid (fun w => lexQuote_any s (by omega) w)
    have H5 := Lib.hid (fun w => refQuote_any s (by omega) w)
    clear hl
    go_enter Tryd.func4, Tryd.ntmps4
    go_wp2_with (first | (go_at_call 7; (with_reducible refine (known11 _).mono ?_); rintro e w' ⟨rfl, hb⟩; obtain ⟨p, rfl⟩ := Xk.exw_of hb; clear hb) | (go_at_call 8; (with_reducible refine (H1.out _).mono ?_); rintro e w' ⟨rfl, hb⟩; obtain ⟨p, rfl⟩ := Xk.exw_of hb; clear hb) | (go_at_call 9; (with_reducible refine (H2.out _).mono ?_); rintro e w' ⟨rfl, hb⟩; obtain ⟨p, rfl⟩ := Xk.exw_of hb; clear hb) | (go_at_call 10; (with_reducible refine (H3.out _).mono ?_); rintro e w' ⟨rfl, hb⟩; obtain ⟨p, rfl⟩ := Xk.exw_of hb; clear hb) | (go_at_call 12; (with_reducible refine (words_any _).mono ?_); rintro e w' ⟨x, rfl, hx, hb⟩; obtain ⟨p, rfl⟩ := Xk.exw_of hb; clear hb; (try rw [Xk.exw_exw] at hx); have HV := Lib.hid hx; clear hx) | (go_at_call 13; (with_reducible refine (refWords_any _).mono ?_); rintro e w' ⟨x, rfl, hx, hb⟩; obtain ⟨p, rfl⟩ := Xk.exw_of hb; clear hb; (try rw [Xk.exw_exw] at hx); have HU := Lib.hid hx; clear hx) | (go_at_call 11; (with_reducible refine (texts_same _ _ P11.words (by decide) _ (HV.out.ext (ext_step _ _ p _ (by simp only [Array.append_assoc]))) (by have h := HU.out; simp only [Array.append_assoc] at h; exact h)).mono ?_); rintro e w' ⟨rfl, hb⟩; obtain ⟨p, rfl⟩ := Xk.exw_of hb; clear hb) | (go_at_call 14; (with_reducible refine (H4.out _ (HE.out _ (by repeat (first | with_reducible exact Below.refl _ _ | ((with_reducible refine Below.setCell ?_ ?_ _); rotate_left; exact (by (try simp only [World.size_alloc, Xk.exw_size, World.size_setCell, World.size_drew, World.heap_drewN]); omega)) | ((with_reducible refine Below.alloc ?_ ?_ _); rotate_left; exact (by (try simp only [World.size_alloc, Xk.exw_size, World.size_setCell, World.size_drew, World.heap_drewN]); omega)) | ((with_reducible refine Xk.below_exw ?_ ?_ _); rotate_left; exact (by (try simp only [World.size_alloc, Xk.exw_size, World.size_setCell, World.size_drew, World.heap_drewN]); omega)) | (with_reducible refine Below.drew ?_))))).mono ?_); rintro e w' ⟨rfl, hb⟩; obtain ⟨p, rfl⟩ := Xk.exw_of hb; clear hb) | (go_at_call 15; (with_reducible refine (H5.out _).mono ?_); rintro e w' ⟨rfl, hb⟩; obtain ⟨p, rfl⟩ := Xk.exw_of hb; clear hb))
    go_ret
    exact ⟨rfl, (by repeat (first | with_reducible exact Below.refl _ _ | ((with_reducible refine Below.setCell ?_ ?_ _); rotate_left; exact (by (try simp only [World.size_alloc, Xk.exw_size, World.size_setCell, World.size_drew, World.heap_drewN]); omega)) | ((with_reducible refine Below.alloc ?_ ?_ _); rotate_left; exact (by (try simp only [World.size_alloc, Xk.exw_size, World.size_setCell, World.size_drew, World.heap_drewN]); omega)) | ((with_reducible refine Xk.below_exw ?_ ?_ _); rotate_left; exact (by (try simp only [World.size_alloc, Xk.exw_size, World.size_setCell, World.size_drew, World.heap_drewN]); omega)) | (with_reducible refine Below.drew ?_)))⟩
  | inl l =>
    have hln : l.length ≤ 1000000 := by
      unfold P11.lexed at hl
      split at hl
      · cases hl
      · rename_i h
        have hbk := P11.toks_bulk _ _ 0 l (Nat.le_refl _) hl
        have := P11.bulk_length l
        omega
    have H1 := Lib.hid (fun w => lexTok_v s l hl w)
    have H2 := Lib.hid (fun w => refTok_v s l hl w)
    have H4 := Lib.hid (fun w => lexQuote_any s (by omega) w)
    have H5 := Lib.hid (fun w => refQuote_any s (by omega) w)
    clear hl
    go_enter Tryd.func4, Tryd.ntmps4
    go_wp2_with (first | (go_at_call 7; (with_reducible refine (known11 _).mono ?_); rintro e w' ⟨rfl, hb⟩; obtain ⟨p, rfl⟩ := Xk.exw_of hb; clear hb) | (go_at_call 8; (with_reducible refine (H1.out _).mono ?_); rintro e w' ⟨x, rfl, hx, hb⟩; obtain ⟨p, rfl⟩ := Xk.exw_of hb; clear hb; (try rw [Xk.exw_exw] at hx); have HA := Lib.hid hx; clear hx) | (go_at_call 9; (with_reducible refine (H2.out _).mono ?_); rintro e w' ⟨x, rfl, hx, hb⟩; obtain ⟨p, rfl⟩ := Xk.exw_of hb; clear hb; (try rw [Xk.exw_exw] at hx); have HB := Lib.hid hx; clear hx) | (go_at_call 10; (with_reducible refine (tokens_same _ _ l hln _ (HA.out.ext (ext_step _ _ p _ (by simp only [Array.append_assoc]))) (by have h := HB.out; simp only [Array.append_assoc] at h; exact h)).mono ?_); rintro e w' ⟨rfl, hb⟩; obtain ⟨p, rfl⟩ := Xk.exw_of hb; clear hb) | (go_at_call 12; (with_reducible refine (words_any _).mono ?_); rintro e w' ⟨x, rfl, hx, hb⟩; obtain ⟨p, rfl⟩ := Xk.exw_of hb; clear hb; (try rw [Xk.exw_exw] at hx); have HV := Lib.hid hx; clear hx) | (go_at_call 13; (with_reducible refine (refWords_any _).mono ?_); rintro e w' ⟨x, rfl, hx, hb⟩; obtain ⟨p, rfl⟩ := Xk.exw_of hb; clear hb; (try rw [Xk.exw_exw] at hx); have HU := Lib.hid hx; clear hx) | (go_at_call 11; (with_reducible refine (texts_same _ _ P11.words (by decide) _ (HV.out.ext (ext_step _ _ p _ (by simp only [Array.append_assoc]))) (by have h := HU.out; simp only [Array.append_assoc] at h; exact h)).mono ?_); rintro e w' ⟨rfl, hb⟩; obtain ⟨p, rfl⟩ := Xk.exw_of hb; clear hb) | (go_at_call 14; (with_reducible refine (H4.out _ (HE.out _ (by repeat (first | with_reducible exact Below.refl _ _ | ((with_reducible refine Below.setCell ?_ ?_ _); rotate_left; exact (by (try simp only [World.size_alloc, Xk.exw_size, World.size_setCell, World.size_drew, World.heap_drewN]); omega)) | ((with_reducible refine Below.alloc ?_ ?_ _); rotate_left; exact (by (try simp only [World.size_alloc, Xk.exw_size, World.size_setCell, World.size_drew, World.heap_drewN]); omega)) | ((with_reducible refine Xk.below_exw ?_ ?_ _); rotate_left; exact (by (try simp only [World.size_alloc, Xk.exw_size, World.size_setCell, World.size_drew, World.heap_drewN]); omega)) | (with_reducible refine Below.drew ?_))))).mono ?_); rintro e w' ⟨rfl, hb⟩; obtain ⟨p, rfl⟩ := Xk.exw_of hb; clear hb) | (go_at_call 15; (with_reducible refine (H5.out _).mono ?_); rintro e w' ⟨rfl, hb⟩; obtain ⟨p, rfl⟩ := Xk.exw_of hb; clear hb))
    go_ret
    exact ⟨rfl, (by repeat (first | with_reducible exact Below.refl _ _ | ((with_reducible refine Below.setCell ?_ ?_ _); rotate_left; exact (by (try simp only [World.size_alloc, Xk.exw_size, World.size_setCell, World.size_drew, World.heap_drewN]); omega)) | ((with_reducible refine Below.alloc ?_ ?_ _); rotate_left; exact (by (try simp only [World.size_alloc, Xk.exw_size, World.size_setCell, World.size_drew, World.heap_drewN]); omega)) | ((with_reducible refine Xk.below_exw ?_ ?_ _); rotate_left; exact (by (try simp only [World.size_alloc, Xk.exw_size, World.size_setCell, World.size_drew, World.heap_drewN]); omega)) | (with_reducible refine Below.drew ?_)))⟩
end Go.Proofs.YteipafoiogkdoaaDoor
