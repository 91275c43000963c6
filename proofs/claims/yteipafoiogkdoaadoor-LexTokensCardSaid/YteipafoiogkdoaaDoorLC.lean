/- Walks: the lexer's key words and signs. -/
import Derived.Test.YteipafoiogkdoaaDoorLB
import Derived.Maps.OwnSet
import Derived.Maps.Views
set_option linter.unusedSimpArgs false
set_option linter.unusedVariables false
namespace Go.Proofs.YteipafoiogkdoaaDoor
open Go.RowKit Go.Maps

/-- v is a slice of strings that reads as l in w. -/
def StrsAt (w : World) (v : Value) (l : List (List UInt8)) : Prop :=
  ∃ b off cap, v = .slice (some ⟨b, off, none⟩) l.length cap ∧ ∀ (j : Nat) (x : List UInt8), l[j]? = some x → w.cell? ⟨b, off + j, none⟩ = some (.string ⟨x.toArray⟩)
theorem StrsAt.ext {w w' : World} {v : Value} {l : List (List UInt8)} (h : StrsAt w v l) (hx : Xk.Ext w w') : StrsAt w' v l := by
  obtain ⟨b, off, cap, hv, hl⟩ := h
  exact ⟨b, off, cap, hv, fun j x hj => Xk.ext_cell hx (hl j x hj)⟩
theorem StrsAt.new (w : World) (l : List (List UInt8)) (C : Array Value) (t : TypeId) (n : Nat) (hn : l.length = n) (h : C.toList = l.map fun x => Value.string ⟨x.toArray⟩) : StrsAt (w.alloc (.cells C t)) (.slice (some ⟨w.heap.size, 0, none⟩) n n) l := by
  refine ⟨w.heap.size, 0, n, by rw [hn], fun j x hj => ?_⟩
  rw [World.cell?_alloc_mark]
  simp only [Nat.zero_add]
  rw [← Array.getElem?_toList, h, List.getElem?_map, hj]; rfl

set_option maxRecDepth 100000 in
set_option maxHeartbeats 2000000 in
theorem words_any (w : World) : Calls Tryd.prog 12 #[] w fun e w' => ∃ v, e = .returned v ∧ StrsAt w' v P11.words ∧ Below w.heap.size w w' := by
  go_enter Tryd.func12, Tryd.ntmps12
  go_wp2
  go_ret
  exact ⟨_, rfl, StrsAt.new w P11.words _ _ 43 (by kernel_rfl) (by kernel_rfl), (by repeat (first | with_reducible exact Below.refl _ _ | ((with_reducible refine Below.setCell ?_ ?_ _); rotate_left; exact (by (try simp only [World.size_alloc, Xk.exw_size, World.size_setCell, World.size_drew, World.heap_drewN]); omega)) | ((with_reducible refine Below.alloc ?_ ?_ _); rotate_left; exact (by (try simp only [World.size_alloc, Xk.exw_size, World.size_setCell, World.size_drew, World.heap_drewN]); omega)) | ((with_reducible refine Xk.below_exw ?_ ?_ _); rotate_left; exact (by (try simp only [World.size_alloc, Xk.exw_size, World.size_setCell, World.size_drew, World.heap_drewN]); omega)) | (with_reducible refine Below.drew ?_)))⟩
set_option maxRecDepth 100000 in
set_option maxHeartbeats 2000000 in
theorem signs_any (w : World) : Calls Tryd.prog 24 #[] w fun e w' => ∃ v, e = .returned v ∧ StrsAt w' v P11.signs ∧ Below w.heap.size w w' := by
  go_enter Tryd.func24, Tryd.ntmps24
  go_wp2
  go_ret
  exact ⟨_, rfl, StrsAt.new w P11.signs _ _ 17 (by kernel_rfl) (by kernel_rfl), (by repeat (first | with_reducible exact Below.refl _ _ | ((with_reducible refine Below.setCell ?_ ?_ _); rotate_left; exact (by (try simp only [World.size_alloc, Xk.exw_size, World.size_setCell, World.size_drew, World.heap_drewN]); omega)) | ((with_reducible refine Below.alloc ?_ ?_ _); rotate_left; exact (by (try simp only [World.size_alloc, Xk.exw_size, World.size_setCell, World.size_drew, World.heap_drewN]); omega)) | ((with_reducible refine Xk.below_exw ?_ ?_ _); rotate_left; exact (by (try simp only [World.size_alloc, Xk.exw_size, World.size_setCell, World.size_drew, World.heap_drewN]); omega)) | (with_reducible refine Below.drew ?_)))⟩
theorem pre_any (s p : ByteArray) (a : Nat) (w : World) : Calls Tryd.prog 16 #[.string (s.extract a s.size), .string p] w fun e w' => e = .returned (.bool (p.data.toList.isPrefixOf (s.data.toList.drop a))) ∧ w = w' := by
  refine (Tryd.strings_HasPrefix _ _ _).mono ?_
  rintro e w' ⟨rfl, rfl⟩
  refine ⟨?_, rfl⟩
  rw [Lib.hasPrefix, Lib.extract_to_end]
def signAt (s : ByteArray) (a : Nat) (x : List UInt8) : Bool := x.isPrefixOf (s.data.toList.drop a)
set_option maxRecDepth 100000 in
set_option maxHeartbeats 2000000 in
theorem closure_any (s : ByteArray) (a : Nat) (x : List UInt8) (bs ba : Nat) (w : World) (cs : w.cell? ⟨bs, 0, none⟩ = some (.string s)) (ca : w.cell? ⟨ba, 0, none⟩ = some (.int .i64 a)) (ha : a ≤ s.size) (hs : s.size ≤ 1000000) :
    Calls Tryd.prog 25 #[.string ⟨x.toArray⟩, .pointer (some ⟨bs, 0, none⟩), .pointer (some ⟨ba, 0, none⟩)] w fun e w' => e = .returned (.bool (signAt s a x)) ∧ w = w' := by
  have HP := Lib.hid (fun w => pre_any s ⟨x.toArray⟩ a w)
  go_enter Tryd.func25, Tryd.ntmps25
  go_wp2_with (go_at_call 16; (with_reducible refine (HP.out _).mono ?_); rintro e w' ⟨rfl, rfl⟩)
  go_ret
  exact ⟨rfl, rfl⟩
/-- The first sign that stands there. -/
def firstSign (p : List UInt8 → Bool) : List (List UInt8) → Int
  | [] => -1
  | x :: l => if p x then 0 else if firstSign p l = -1 then -1 else firstSign p l + 1
theorem firstSign_hit {p : List UInt8 → Bool} : ∀ {l : List (List UInt8)} {q : Nat} {x : List UInt8}, l[q]? = some x → p x = true → (∀ j y, j < q → l[j]? = some y → p y = false) → firstSign p l = q
  | [], _, _, h, _, _ => by simp at h
  | y :: l, 0, x, h, hp, _ => by
    simp at h; subst h; rw [firstSign, if_pos hp]; rfl
  | y :: l, q + 1, x, h, hp, hn => by
    have := firstSign_hit (l := l) (q := q) (by simpa using h) hp (fun j z hj hz => hn (j + 1) z (by omega) (by simpa using hz))
    rw [firstSign, if_neg (by rw [hn 0 y (by omega) rfl]; decide), if_neg (by omega), this]; rfl
theorem firstSign_none {p : List UInt8 → Bool} : ∀ {l : List (List UInt8)}, (∀ (j : Nat) y, l[j]? = some y → p y = false) → firstSign p l = -1
  | [], _ => rfl
  | y :: l, hn => by
    have := firstSign_none (l := l) (fun j z hz => hn (j + 1) z (by simpa using hz))
    rw [firstSign, if_neg (by rw [hn 0 y rfl]; decide), if_pos this]
theorem firstSign_find {p : List UInt8 → Bool} : ∀ l : List (List UInt8), (firstSign p l = -1 ∧ l.find? p = none) ∨ ∃ (q : Nat) (x : List UInt8), firstSign p l = q ∧ l[q]? = some x ∧ l.find? p = some x
  | [] => .inl ⟨rfl, rfl⟩
  | y :: l => by
    rw [firstSign, List.find?]
    cases hp : p y
    · rw [if_neg (by decide)]
      rcases firstSign_find (p := p) l with ⟨h1, h2⟩ | ⟨q, x, h1, h2, h3⟩
      · exact .inl ⟨by rw [if_pos h1], h2⟩
      · exact .inr ⟨q + 1, x, by rw [if_neg (by omega), h1]; rfl, by simpa using h2, h3⟩
    · exact .inr ⟨0, y, by rw [if_pos rfl]; rfl, rfl, rfl⟩
set_option maxRecDepth 100000 in
set_option maxHeartbeats 4000000 in
theorem indexFunc_any (s : ByteArray) (a : Nat) (v : Value) (l : List (List UInt8)) (bs ba : Nat) (w : World) (hv : StrsAt w v l) (hl : l.length ≤ 1000) (cs : w.cell? ⟨bs, 0, none⟩ = some (.string s)) (ca : w.cell? ⟨ba, 0, none⟩ = some (.int .i64 a)) (ha : a ≤ s.size) (hs : s.size ≤ 1000000) :
    Calls Tryd.prog 23 #[v, .func (.func 25) #[] #[.pointer (some ⟨bs, 0, none⟩), .pointer (some ⟨ba, 0, none⟩)]] w fun e w' => e = .returned (.int .i64 (firstSign (signAt s a) l)) ∧ w = w' := by
  obtain ⟨b, off, cap, rfl, hc⟩ := hv
  have HC := Lib.hid hc
  have HK := Lib.hid (fun x => closure_any s a x bs ba w cs ca ha hs)
  clear hc cs ca ha hs
  go_enter Tryd.func23, Tryd.ntmps23
  go_wp2
  go_loop [5, 8] (fun _ x => ∃ q : Nat, q ≤ l.length ∧ x = .int .i64 q ∧ Hid (∀ (j : Nat) y, j < q → l[j]? = some y → signAt s a y = false)) (fun _ x => l.length - (intOf x).toNat)
  case atStart => exact ⟨0, Nat.zero_le _, rfl, Lib.hid fun j y hj => by omega⟩
  case round =>
    obtain ⟨q, hq, rfl, HN⟩ := hrel
    by_cases hlt : q < l.length
    · have hx : l[q]? = some (l[q]'hlt) := List.getElem?_eq_getElem _
      have HX := Lib.hid hx
      have c1 := HC.out q _ hx
      have hk := HK.out (l[q]'hlt)
      clear hx
      generalize l[q]'hlt = x at *
      cases hp : signAt s a x
      · rw [hp] at hk
        have Hk := Lib.hid hk
        have HP := Lib.hid hp
        clear hk hp
        go_wp2_with (go_at_call 25; (with_reducible refine (Hk.out).mono ?_); rintro e w' ⟨rfl, rfl⟩)
        go_round
        case rel => exact ⟨q + 1, by omega, by go_num, Lib.hid fun j y hj hy => by
          by_cases hjq : j = q
          · subst hjq; rw [HX.out] at hy; cases hy; exact HP.out
          · exact HN.out j y (by omega) hy⟩
        case measure => simp [intOf]; omega
      · rw [hp] at hk
        have Hk := Lib.hid hk
        have HP := Lib.hid hp
        clear hk hp
        go_wp2_with (go_at_call 25; (with_reducible refine (Hk.out).mono ?_); rintro e w' ⟨rfl, rfl⟩)
        go_ret
        exact ⟨congrArg (fun n : Int => Ending.returned (.int .i64 n)) (firstSign_hit HX.out HP.out HN.out).symm, rfl⟩
    · go_wp2
      go_ret
      exact ⟨congrArg (fun n : Int => Ending.returned (.int .i64 n)) (firstSign_none fun j y hy => HN.out j y (by have := (List.getElem?_eq_some_iff.1 hy).1; omega) hy).symm, rfl⟩
end Go.Proofs.YteipafoiogkdoaaDoor
