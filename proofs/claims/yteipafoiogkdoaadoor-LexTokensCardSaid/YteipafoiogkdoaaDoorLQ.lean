/- Walks: the lexer as its callers meet it; quotes; what is known. -/
import Derived.Test.YteipafoiogkdoaaDoorLN
set_option linter.unusedSimpArgs false
set_option linter.unusedVariables false
namespace Go.Proofs.YteipafoiogkdoaaDoor
open Go.RowKit Go.Maps
/-- The row of tokens at a place reads as l. -/
def TokRow (b off : Nat) (l : List P11.Tok) (w : World) : Prop :=
  b < w.heap.size ∧ ∀ (j : Nat) (t : P11.Tok), l[j]? = some t →
    w.cell? ⟨b, off + j * 3, none⟩ = some (.int .i64 t.kind) ∧ w.cell? ⟨b, off + j * 3 + 1, none⟩ = some (.string ⟨t.text.toArray⟩) ∧ w.cell? ⟨b, off + j * 3 + 2, none⟩ = some (.int .i64 t.pos)
theorem TokRow.ext {b off : Nat} {l : List P11.Tok} {w w' : World} (h : TokRow b off l w) (hx : Xk.Ext w w') : TokRow b off l w' :=
  ⟨Nat.lt_of_lt_of_le h.1 hx.size, fun j t hj => by
    obtain ⟨h1, h2, h3⟩ := h.2 j t hj
    exact ⟨Xk.ext_cell hx h1, Xk.ext_cell hx h2, Xk.ext_cell hx h3⟩⟩
theorem lexed_ne {s : List UInt8} {l : List P11.Tok} (h : P11.lexed s = .inl l) : l ≠ [] := by
  unfold P11.lexed at h
  split at h
  · cases h
  · obtain ⟨l', rfl, -⟩ := P11.toks_form _ s 0 l (Nat.le_refl _) h
    simp
theorem tokens_ok (s : ByteArray) (l : List P11.Tok) (h : P11.lexed s.data.toList = .inl l) (w : World) :
    Calls Tryd.prog 8 #[.string s] w fun e w' => ∃ b off cap, e = .returned (.tuple #[.slice (some ⟨b, off, none⟩) l.length cap, .int .i64 0, .int .i64 0]) ∧ TokRow b off l w' ∧ Below w.heap.size w w' := by
  refine (tokens_any s w).mono ?_
  rintro e w' ⟨hb, ⟨l', v, h1, rfl, pa, cap, rfl, hc⟩ | ⟨a, k, h1, -⟩⟩
  · rw [h] at h1
    cases h1
    have hne := lexed_ne h
    have h0 : l[0]? = some (l[0]'(List.length_pos_iff.2 hne)) := List.getElem?_eq_getElem _
    obtain ⟨b, off, rfl, c1, -⟩ := hc 0 _ h0
    refine ⟨b, off, cap, rfl, ⟨World.block_lt_of_cell? w' _ c1, fun j t hj => ?_⟩, hb⟩
    obtain ⟨b', off', e, h2, h3, h4⟩ := hc j t hj
    cases e
    exact ⟨h2, h3, h4⟩
  · rw [h] at h1; cases h1
theorem tokens_err (s : ByteArray) (a : Nat) (k : Int) (h : P11.lexed s.data.toList = .inr (a, k)) (w : World) :
    Calls Tryd.prog 8 #[.string s] w fun e w' => e = .returned (.tuple #[.slice none 0 0, .int .i64 a, .int .i64 k]) ∧ Below w.heap.size w w' := by
  refine (tokens_any s w).mono ?_
  rintro e w' ⟨hb, ⟨l', v, h1, -⟩ | ⟨a', k', h1, rfl⟩⟩
  · rw [h] at h1; cases h1
  · rw [h] at h1; cases h1
    exact ⟨rfl, hb⟩
/-- What the walks want of the variables. -/
def EnvL (w : World) : Prop := ∃ m : Int, w.cell? ⟨0, 0, none⟩ = some (.int .i64 m)
theorem EnvL.ext {w w' : World} (h : EnvL w) (hx : Xk.Ext w w') : EnvL w' := by
  obtain ⟨m, hm⟩ := h; exact ⟨m, Xk.ext_cell hx hm⟩
theorem replace_any (s : ByteArray) (hs : s.size ≤ 1000000) (w : World) (hE : EnvL w) :
    Calls Tryd.prog 34 #[.string s, .string ⟨#[39]⟩, .string ⟨#[39, 39]⟩] w fun e w' => e = .returned (.string ⟨(P6.dbl s.data.toList).toArray⟩) ∧ Below w.heap.size w w' := by
  obtain ⟨m, hm⟩ := hE
  have hc := Lib.countB_mul_le ⟨#[39]⟩ (by decide) s.size s (Nat.le_refl _)
  have h1 : (⟨#[39]⟩ : ByteArray).size = 1 := rfl
  have h2 : (⟨#[39, 39]⟩ : ByteArray).size = 2 := rfl
  rw [h1] at hc
  have := Tryd.strings_ReplaceAll s ⟨#[39]⟩ ⟨#[39, 39]⟩ m w (by omega) hm (by rw [h1]; omega) (by rw [h2]; omega)
  have e : Lib.replaceAll s.data.toList [39] [39, 39] = P6.dbl s.data.toList := P6.replaceAll_dbl _
  rwa [show Lib.replaceAll s.data.toList (⟨#[39]⟩ : ByteArray).data.toList (⟨#[39, 39]⟩ : ByteArray).data.toList = P6.dbl s.data.toList from e] at this
theorem bytes_eq {x y : ByteArray} (h : x.data.toList = y.data.toList) : x = y := by
  obtain ⟨x⟩ := x
  obtain ⟨y⟩ := y
  simp at h; rw [h]
set_option maxRecDepth 100000 in
set_option maxHeartbeats 2000000 in
theorem lexQuote_any (s : ByteArray) (hs : s.size ≤ 1000000) (w : World) (hE : EnvL w) :
    Calls Tryd.prog 14 #[.string s] w fun e w' => e = .returned (.string ⟨(P6.quote s.data.toList).toArray⟩) ∧ Below w.heap.size w w' := by
  have HR := Lib.hid (replace_any s hs w hE)
  have hl := P6.dbl_length s.data.toList
  have hl2 : (P6.dbl s.data.toList).length ≤ 2000000 := by
    have : s.data.toList.length = s.size := rfl
    omega
  have hq : (⟨#[39]⟩ ++ ⟨(P6.dbl s.data.toList).toArray⟩ ++ ⟨#[39]⟩ : ByteArray) = ⟨(P6.quote s.data.toList).toArray⟩ := by
    apply bytes_eq
    simp [P6.quote]
  have HQ := Lib.hid hq
  clear hq hl hE
  go_enter Tryd.func14, Tryd.ntmps14
  go_wp2_with (go_at_call 34; (with_reducible refine (HR.out).mono ?_); rintro e w' ⟨rfl, hb⟩; obtain ⟨p, rfl⟩ := Xk.exw_of hb; clear hb)
  go_ret
  exact ⟨congrArg (fun s => Ending.returned (.string s)) HQ.out, (by repeat (first | with_reducible exact Below.refl _ _ | ((with_reducible refine Below.setCell ?_ ?_ _); rotate_left; exact (by (try simp only [World.size_alloc, Xk.exw_size, World.size_setCell, World.size_drew, World.heap_drewN]); omega)) | ((with_reducible refine Below.alloc ?_ ?_ _); rotate_left; exact (by (try simp only [World.size_alloc, Xk.exw_size, World.size_setCell, World.size_drew, World.heap_drewN]); omega)) | ((with_reducible refine Xk.below_exw ?_ ?_ _); rotate_left; exact (by (try simp only [World.size_alloc, Xk.exw_size, World.size_setCell, World.size_drew, World.heap_drewN]); omega)) | (with_reducible refine Below.drew ?_)))⟩
theorem known_ok : P11.lexed (⟨#[97, 60, 62, 39, 105, 116, 39, 39, 115, 39, 45, 45, 120]⟩ : ByteArray).data.toList = .inl [⟨1, [97], 0⟩, ⟨5, [60, 62], 1⟩, ⟨4, [105, 116, 39, 115], 3⟩, ⟨0, [], 13⟩] := by kernel_rfl
theorem known_err : P11.lexed (⟨#[97, 124, 98]⟩ : ByteArray).data.toList = .inr (1, 111) := by kernel_rfl
set_option maxRecDepth 100000 in
set_option maxHeartbeats 2000000 in
theorem known11 (w : World) : Calls Tryd.prog 7 #[] w fun e w' => e = .returned (.bool true) ∧ Below w.heap.size w w' := by
  have h1 := fun w => tokens_ok _ _ known_ok w
  have h2 := fun w => tokens_err _ _ _ known_err w
  have H1 := Lib.hid h1
  have H2 := Lib.hid h2
  clear h1 h2
  go_enter Tryd.func7, Tryd.ntmps7
  go_wp2_with fail
  (with_reducible refine (H1.out _).mono ?_)
  rintro e w' ⟨b, off, cap, rfl, ⟨hlt, hc⟩, hb⟩
  obtain ⟨p, rfl⟩ := Xk.exw_of hb
  obtain ⟨-, c1, -⟩ := hc 1 _ rfl
  obtain ⟨-, c2, -⟩ := hc 2 _ rfl
  obtain ⟨c3, -, -⟩ := hc 3 _ rfl
  clear hb hc
  go_wp2_with fail
  (with_reducible refine (H2.out _).mono ?_)
  rintro e w' ⟨rfl, hb⟩
  have d1 := Xk.ext_cell hb c1
  have d2 := Xk.ext_cell hb c2
  have d3 := Xk.ext_cell hb c3
  have hB := Lib.hid hb
  clear hb c1 c2 c3
  go_wp2
  go_ret
  exact ⟨rfl, (Xk.ext_exw w p).trans (hB.out.mono (by simp))⟩
end Go.Proofs.YteipafoiogkdoaaDoor
