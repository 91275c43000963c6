/- Walks: what report.Parse looks for. -/
import Derived.Test.YtmoippbmnanajaaGreatDoorRT
set_option linter.unusedSimpArgs false
set_option linter.unusedVariables false
namespace P25
/-- The place of the first that p holds of, or -1. -/
def findI {α : Type} (p : α → Bool) : List α → Int
  | [] => -1
  | y :: l => if p y then 0 else if findI p l = -1 then -1 else findI p l + 1
theorem findI_hit {α : Type} {p : α → Bool} : ∀ {l : List α} {q : Nat} {x : α}, l[q]? = some x → p x = true → (∀ (j : Nat) y, j < q → l[j]? = some y → p y = false) → findI p l = q
  | [], q, x, h, _, _ => by simp at h
  | y :: l, 0, x, h, hp, _ => by
    simp at h; subst h
    rw [findI, if_pos hp]; rfl
  | y :: l, q + 1, x, h, hp, hn => by
    have := findI_hit (l := l) (q := q) (by simpa using h) hp (fun j z hj hz => hn (j + 1) z (by omega) (by simpa using hz))
    rw [findI, if_neg (by rw [hn 0 y (by omega) rfl]; decide), if_neg (by omega), this]; rfl
theorem findI_none {α : Type} {p : α → Bool} : ∀ {l : List α}, (∀ (j : Nat) y, l[j]? = some y → p y = false) → findI p l = -1
  | [], _ => rfl
  | y :: l, hn => by
    have := findI_none (l := l) (fun j z hz => hn (j + 1) z (by simpa using hz))
    rw [findI, if_neg (by rw [hn 0 y rfl]; decide), if_pos this]
theorem findI_any {α : Type} (p : α → Bool) : ∀ l : List α, (findI p l = -1 ∧ l.any p = false) ∨ ∃ q : Nat, findI p l = q ∧ q < l.length ∧ l.any p = true
  | [] => .inl ⟨rfl, rfl⟩
  | y :: l => by
    rw [findI, List.any_cons]
    cases hp : p y
    · rw [if_neg (by decide)]
      rcases findI_any p l with ⟨h1, h2⟩ | ⟨q, h1, h2, h3⟩
      · exact .inl ⟨by rw [if_pos h1], by simpa using h2⟩
      · exact .inr ⟨q + 1, by rw [if_neg (by omega), h1]; rfl, by simp; omega, by simp [h3]⟩
    · exact .inr ⟨0, by rw [if_pos rfl]; rfl, by simp, rfl⟩
theorem findI_dec {α : Type} (p : α → Bool) (l : List α) : decide (findI p l ≥ 0) = l.any p := by
  rcases findI_any p l with ⟨h1, h2⟩ | ⟨q, h1, -, h2⟩
  · rw [h1, h2]; rfl
  · rw [h1, h2]; simp
end P25
namespace Go.Proofs.YtmoippbmnanajaaGreatDoor
open Go.RowKit
theorem contains_any (s sub : ByteArray) (w : World) (hE : Env w) (hs : s.size ≤ 4000000000) :
    Calls Tryz.prog 34 #[.string s, .string sub] w fun e w' => e = .returned (.bool (Lib.contains s.data.toList sub.data.toList)) ∧ w = w' := by
  obtain ⟨m, hm⟩ := hE.max
  exact (Tryz.strings_Contains s sub m w (by omega) hm).mono fun e w' ⟨h1, h2⟩ => ⟨h1, h2.symm⟩
set_option maxRecDepth 100000 in
theorem parse1_any (x : List UInt8) (w : World) (hE : Env w) (hs : x.length ≤ 4000000000) :
    Calls Tryz.prog 33 #[.string ⟨x.toArray⟩] w fun e w' => e = .returned (.bool (Lib.contains x [32])) ∧ Below w.heap.size w w' := by
  have HC := Lib.hid (contains_any ⟨x.toArray⟩ ⟨#[32]⟩ w hE (by show x.length ≤ _; omega))
  clear hE
  go_enter Tryz.func33, Tryz.ntmps33
  go_wp2_with (first | (go_at_call 34; (with_reducible refine (HC.out).mono ?_); rintro e w' ⟨rfl, rfl⟩))
  go_ret
  exact ⟨rfl, Below.refl _ _⟩
set_option maxRecDepth 100000 in
theorem parts1_any (x : V) (w : World) (hE : Env w) (hs : x.s.size ≤ 4000000000) :
    Calls Tryz.prog 67 #[.agg #[.int .i64 x.k, .int .i64 x.i, .string x.s]] w fun e w' => e = .returned (.bool (partX x)) ∧ Below w.heap.size w w' := by
  have HC := Lib.hid fun W (h : Xk.Ext w W) => contains_any x.s ⟨#[32, 124, 32]⟩ W (hE.ext h) hs
  have HD := Lib.hid fun W (h : Xk.Ext w W) => contains_any x.s ⟨#[10]⟩ W (hE.ext h) hs
  have HP : Hid (partX x = (Lib.contains x.s.data.toList [32, 124, 32] || Lib.contains x.s.data.toList [10])) := Lib.hid rfl
  clear hE
  cases hc : Lib.contains x.s.data.toList [32, 124, 32]
  all_goals
    (have HC0 : Hid _ := Lib.hid hc
     clear hc
     go_enter Tryz.func67, Tryz.ntmps67
     go_wp2_with (first | (go_at_call 34; (first | (with_reducible refine (HC.out _ (ext_alloc _ _)).mono ?_) | (with_reducible refine (HD.out _ (ext_alloc _ _)).mono ?_)); rintro e w' ⟨rfl, rfl⟩; (try simp only [HC0.out])))
     go_ret
     exact ⟨by rw [HP.out, HC0.out]; rfl, (by repeat (first | with_reducible exact Below.refl _ _ | ((with_reducible refine Below.setCell ?_ ?_ _); rotate_left; exact (by (try simp only [World.size_alloc, Xk.exw_size, World.size_setCell, World.size_drew, World.heap_drewN]); omega)) | ((with_reducible refine Below.alloc ?_ ?_ _); rotate_left; exact (by (try simp only [World.size_alloc, Xk.exw_size, World.size_setCell, World.size_drew, World.heap_drewN]); omega)) | ((with_reducible refine Xk.below_exw ?_ ?_ _); rotate_left; exact (by (try simp only [World.size_alloc, Xk.exw_size, World.size_setCell, World.size_drew, World.heap_drewN]); omega)) | (with_reducible refine Below.drew ?_)))⟩)
set_option maxRecDepth 100000 in
set_option maxHeartbeats 4000000 in
theorem find_texts (v : Value) (l : List (List UInt8)) (w : World) (hE : Env w) (hv : StrsAt w v l) (hl : l.length ≤ 1000000) (hm : ∀ x ∈ l, x.length ≤ 4000000000) :
    Calls Tryz.prog 32 #[v, .func (.func 33) #[] #[]] w fun e w' => e = .returned (.bool (l.any fun x => Lib.contains x [32])) ∧ Below w.heap.size w w' := by
  obtain ⟨pa, cap, rfl, hc⟩ := hv.parts
  have HIX : Hid (Calls Tryz.prog 63 #[.slice pa l.length cap, .func (.func 33) #[] #[]] w fun e w' => e = .returned (.int .i64 (P25.findI (fun x => Lib.contains x [32]) l)) ∧ Below w.heap.size w w') := Lib.hid (by
    have HC := Lib.hid hc
    have HK := Lib.hid fun W (h : Xk.Ext w W) x (hx : x ∈ l) => parse1_any x W (hE.ext h) (hm x hx)
    clear hc hE hv hm
    go_enter Tryz.func63, Tryz.ntmps63
    go_wp2
    go_loopw [5, 8] (fun _ x wr => ∃ q : Nat, q ≤ l.length ∧ x = .int .i64 q ∧ Below w.heap.size w wr ∧ Hid (∀ (j : Nat) y, j < q → l[j]? = some y → (fun x => Lib.contains x [32]) y = false)) (fun _ x _ => l.length - (intOf x).toNat)
    case atStart => exact ⟨0, Nat.zero_le _, rfl, Below.refl _ _, Lib.hid fun j y hj => by omega⟩
    case round =>
      obtain ⟨q, hq, rfl, hbw, HN⟩ := hrel
      by_cases hlt : q < l.length
      · have hx : l[q]? = some (l[q]'hlt) := List.getElem?_eq_getElem _
        have HX := Lib.hid hx
        (obtain ⟨b, off, rfl, d1⟩ := HC.out q _ hx; have d1 := Xk.ext_cell hbw d1; have l1 := World.block_lt_of_cell? _ _ d1)
        (have hk := HK.out wr hbw l[q] (List.getElem_mem _))
        have HB := Lib.hid hbw
        have hsz := hbw.size
        clear hx hbw
        generalize l[q]'hlt = x at *
        cases hp : Lib.contains x [32]
        · rw [hp] at hk
          have Hk := Lib.hid hk
          have HP := Lib.hid hp
          clear hk hp
          go_wp2_with (first | (go_at_call 33; (with_reducible refine (Hk.out).mono ?_); rintro e w' ⟨rfl, hb⟩; obtain ⟨p, rfl⟩ := Xk.exw_of hb; clear hb))
          go_roundw
          case rel => exact ⟨q + 1, by omega, by go_num, (by repeat (first | with_reducible exact HB.out | with_reducible exact Below.refl _ _ | ((with_reducible refine Below.setCell ?_ ?_ _); rotate_left; exact (by (try simp only [World.size_alloc, Xk.exw_size, World.size_setCell, World.size_drew, World.heap_drewN]); omega)) | ((with_reducible refine Below.alloc ?_ ?_ _); rotate_left; exact (by (try simp only [World.size_alloc, Xk.exw_size, World.size_setCell, World.size_drew, World.heap_drewN]); omega)) | ((with_reducible refine Xk.below_exw ?_ ?_ _); rotate_left; exact (by (try simp only [World.size_alloc, Xk.exw_size, World.size_setCell, World.size_drew, World.heap_drewN]); omega)) | (with_reducible refine Below.drew ?_))), Lib.hid fun j y hj hy => by
            by_cases hjq : j = q
            · subst hjq; rw [HX.out] at hy; cases hy; exact HP.out
            · exact HN.out j y (by omega) hy⟩
          case measure => simp [intOf]; omega
        · rw [hp] at hk
          have Hk := Lib.hid hk
          have HP := Lib.hid hp
          clear hk hp
          go_wp2_with (first | (go_at_call 33; (with_reducible refine (Hk.out).mono ?_); rintro e w' ⟨rfl, hb⟩; obtain ⟨p, rfl⟩ := Xk.exw_of hb; clear hb))
          go_ret
          exact ⟨congrArg (fun n : Int => Ending.returned (.int .i64 n)) (P25.findI_hit (p := (fun x => Lib.contains x [32])) HX.out HP.out HN.out).symm, (by repeat (first | with_reducible exact HB.out | with_reducible exact Below.refl _ _ | ((with_reducible refine Below.setCell ?_ ?_ _); rotate_left; exact (by (try simp only [World.size_alloc, Xk.exw_size, World.size_setCell, World.size_drew, World.heap_drewN]); omega)) | ((with_reducible refine Below.alloc ?_ ?_ _); rotate_left; exact (by (try simp only [World.size_alloc, Xk.exw_size, World.size_setCell, World.size_drew, World.heap_drewN]); omega)) | ((with_reducible refine Xk.below_exw ?_ ?_ _); rotate_left; exact (by (try simp only [World.size_alloc, Xk.exw_size, World.size_setCell, World.size_drew, World.heap_drewN]); omega)) | (with_reducible refine Below.drew ?_)))⟩
      · go_wp2
        go_ret
        exact ⟨congrArg (fun n : Int => Ending.returned (.int .i64 n)) (P25.findI_none (p := (fun x => Lib.contains x [32])) fun j y hy => HN.out j y (by have := (List.getElem?_eq_some_iff.1 hy).1; omega) hy).symm, hbw⟩)
  clear hc hE hv hm
  rw [← P25.findI_dec]
  generalize P25.findI (fun x => Lib.contains x [32]) l = n at HIX ⊢
  go_enter Tryz.func32, Tryz.ntmps32
  go_wp2_with (first | (go_at_call 63; (with_reducible refine (HIX.out).mono ?_); rintro e w' ⟨rfl, hb⟩; obtain ⟨p, rfl⟩ := Xk.exw_of hb; clear hb))
  go_ret
  exact ⟨rfl, (by repeat (first | with_reducible exact Below.refl _ _ | ((with_reducible refine Below.setCell ?_ ?_ _); rotate_left; exact (by (try simp only [World.size_alloc, Xk.exw_size, World.size_setCell, World.size_drew, World.heap_drewN]); omega)) | ((with_reducible refine Below.alloc ?_ ?_ _); rotate_left; exact (by (try simp only [World.size_alloc, Xk.exw_size, World.size_setCell, World.size_drew, World.heap_drewN]); omega)) | ((with_reducible refine Xk.below_exw ?_ ?_ _); rotate_left; exact (by (try simp only [World.size_alloc, Xk.exw_size, World.size_setCell, World.size_drew, World.heap_drewN]); omega)) | (with_reducible refine Below.drew ?_)))⟩
set_option maxRecDepth 100000 in
set_option maxHeartbeats 4000000 in
theorem find_values (v : Value) (l : List V) (w : World) (hE : Env w) (hv : RowAt w v l) (hl : l.length ≤ 1000000) (hm : ∀ x ∈ l, x.s.size ≤ 4000000000) :
    Calls Tryz.prog 66 #[v, .func (.func 67) #[] #[]] w fun e w' => e = .returned (.bool (l.any partX)) ∧ Below w.heap.size w w' := by
  obtain ⟨pa, cap, rfl, hc⟩ := hv
  have HIX : Hid (Calls Tryz.prog 96 #[.slice pa l.length cap, .func (.func 67) #[] #[]] w fun e w' => e = .returned (.int .i64 (P25.findI partX l)) ∧ Below w.heap.size w w') := Lib.hid (by
    have HC := Lib.hid hc
    have HK := Lib.hid fun W (h : Xk.Ext w W) x (hx : x ∈ l) => parts1_any x W (hE.ext h) (hm x hx)
    clear hc hE hm
    go_enter Tryz.func96, Tryz.ntmps96
    go_wp2
    go_loopw [5, 8] (fun _ x wr => ∃ q : Nat, q ≤ l.length ∧ x = .int .i64 q ∧ Below w.heap.size w wr ∧ Hid (∀ (j : Nat) y, j < q → l[j]? = some y → partX y = false)) (fun _ x _ => l.length - (intOf x).toNat)
    case atStart => exact ⟨0, Nat.zero_le _, rfl, Below.refl _ _, Lib.hid fun j y hj => by omega⟩
    case round =>
      obtain ⟨q, hq, rfl, hbw, HN⟩ := hrel
      by_cases hlt : q < l.length
      · have hx : l[q]? = some (l[q]'hlt) := List.getElem?_eq_getElem _
        have HX := Lib.hid hx
        (obtain ⟨b, off, rfl, a1, a2, a3, -⟩ := HC.out q _ hx; have lb := World.block_lt_of_cell? w _ a1; have lb' : b < wr.heap.size := Nat.lt_of_lt_of_le lb hbw.size; have b1 := Xk.ext_cell hbw a1; have b2 := Xk.ext_cell hbw a2; have b3 := Xk.ext_cell hbw a3; clear a1 a2 a3)
        (have hk := HK.out wr hbw l[q] (List.getElem_mem _))
        have HB := Lib.hid hbw
        have hsz := hbw.size
        clear hx hbw
        generalize l[q]'hlt = x at *
        cases hp : partX x
        · rw [hp] at hk
          have Hk := Lib.hid hk
          have HP := Lib.hid hp
          clear hk hp
          go_wp2_with (first | (go_at_call 67; (with_reducible refine (Hk.out).mono ?_); rintro e w' ⟨rfl, hb⟩; obtain ⟨p, rfl⟩ := Xk.exw_of hb; clear hb))
          go_roundw
          case rel => exact ⟨q + 1, by omega, by go_num, (by repeat (first | with_reducible exact HB.out | with_reducible exact Below.refl _ _ | ((with_reducible refine Below.setCell ?_ ?_ _); rotate_left; exact (by (try simp only [World.size_alloc, Xk.exw_size, World.size_setCell, World.size_drew, World.heap_drewN]); omega)) | ((with_reducible refine Below.alloc ?_ ?_ _); rotate_left; exact (by (try simp only [World.size_alloc, Xk.exw_size, World.size_setCell, World.size_drew, World.heap_drewN]); omega)) | ((with_reducible refine Xk.below_exw ?_ ?_ _); rotate_left; exact (by (try simp only [World.size_alloc, Xk.exw_size, World.size_setCell, World.size_drew, World.heap_drewN]); omega)) | (with_reducible refine Below.drew ?_))), Lib.hid fun j y hj hy => by
            by_cases hjq : j = q
            · subst hjq; rw [HX.out] at hy; cases hy; exact HP.out
            · exact HN.out j y (by omega) hy⟩
          case measure => simp [intOf]; omega
        · rw [hp] at hk
          have Hk := Lib.hid hk
          have HP := Lib.hid hp
          clear hk hp
          go_wp2_with (first | (go_at_call 67; (with_reducible refine (Hk.out).mono ?_); rintro e w' ⟨rfl, hb⟩; obtain ⟨p, rfl⟩ := Xk.exw_of hb; clear hb))
          go_ret
          exact ⟨congrArg (fun n : Int => Ending.returned (.int .i64 n)) (P25.findI_hit (p := partX) HX.out HP.out HN.out).symm, (by repeat (first | with_reducible exact HB.out | with_reducible exact Below.refl _ _ | ((with_reducible refine Below.setCell ?_ ?_ _); rotate_left; exact (by (try simp only [World.size_alloc, Xk.exw_size, World.size_setCell, World.size_drew, World.heap_drewN]); omega)) | ((with_reducible refine Below.alloc ?_ ?_ _); rotate_left; exact (by (try simp only [World.size_alloc, Xk.exw_size, World.size_setCell, World.size_drew, World.heap_drewN]); omega)) | ((with_reducible refine Xk.below_exw ?_ ?_ _); rotate_left; exact (by (try simp only [World.size_alloc, Xk.exw_size, World.size_setCell, World.size_drew, World.heap_drewN]); omega)) | (with_reducible refine Below.drew ?_)))⟩
      · go_wp2
        go_ret
        exact ⟨congrArg (fun n : Int => Ending.returned (.int .i64 n)) (P25.findI_none (p := partX) fun j y hy => HN.out j y (by have := (List.getElem?_eq_some_iff.1 hy).1; omega) hy).symm, hbw⟩)
  clear hc hE hm
  rw [← P25.findI_dec]
  generalize P25.findI partX l = n at HIX ⊢
  go_enter Tryz.func66, Tryz.ntmps66
  go_wp2_with (first | (go_at_call 96; (with_reducible refine (HIX.out).mono ?_); rintro e w' ⟨rfl, hb⟩; obtain ⟨p, rfl⟩ := Xk.exw_of hb; clear hb))
  go_ret
  exact ⟨rfl, (by repeat (first | with_reducible exact Below.refl _ _ | ((with_reducible refine Below.setCell ?_ ?_ _); rotate_left; exact (by (try simp only [World.size_alloc, Xk.exw_size, World.size_setCell, World.size_drew, World.heap_drewN]); omega)) | ((with_reducible refine Below.alloc ?_ ?_ _); rotate_left; exact (by (try simp only [World.size_alloc, Xk.exw_size, World.size_setCell, World.size_drew, World.heap_drewN]); omega)) | ((with_reducible refine Xk.below_exw ?_ ?_ _); rotate_left; exact (by (try simp only [World.size_alloc, Xk.exw_size, World.size_setCell, World.size_drew, World.heap_drewN]); omega)) | (with_reducible refine Below.drew ?_)))⟩
set_option maxRecDepth 100000 in
theorem parts_any (v : Value) (l : List V) (w : World) (hE : Env w) (hv : RowAt w v l) (hl : l.length ≤ 1000000) (hm : ∀ x ∈ l, x.s.size ≤ 4000000000) :
    Calls Tryz.prog 36 #[v] w fun e w' => e = .returned (.bool (l.any partX)) ∧ Below w.heap.size w w' := by
  have HF := Lib.hid (find_values v l w hE hv hl hm)
  clear hE hv hm
  go_enter Tryz.func36, Tryz.ntmps36
  go_wp2_with (first | (go_at_call 66; (with_reducible refine (HF.out).mono ?_); rintro e w' ⟨rfl, hb⟩; obtain ⟨p, rfl⟩ := Xk.exw_of hb; clear hb))
  go_ret
  exact ⟨rfl, (by repeat (first | with_reducible exact Below.refl _ _ | ((with_reducible refine Below.setCell ?_ ?_ _); rotate_left; exact (by (try simp only [World.size_alloc, Xk.exw_size, World.size_setCell, World.size_drew, World.heap_drewN]); omega)) | ((with_reducible refine Below.alloc ?_ ?_ _); rotate_left; exact (by (try simp only [World.size_alloc, Xk.exw_size, World.size_setCell, World.size_drew, World.heap_drewN]); omega)) | ((with_reducible refine Xk.below_exw ?_ ?_ _); rotate_left; exact (by (try simp only [World.size_alloc, Xk.exw_size, World.size_setCell, World.size_drew, World.heap_drewN]); omega)) | (with_reducible refine Below.drew ?_)))⟩
set_option maxRecDepth 100000 in
set_option maxHeartbeats 4000000 in
theorem find_rows (v : Value) (l : List (List V)) (w : World) (hE : Env w) (hv : RowsAt w v l) (hl : l.length ≤ 1000000) (hm : ∀ r ∈ l, r.length ≤ 1000000 ∧ ∀ x ∈ r, x.s.size ≤ 4000000000) :
    Calls Tryz.prog 35 #[v, .func (.func 36) #[] #[]] w fun e w' => e = .returned (.bool (l.any fun r => r.any partX)) ∧ Below w.heap.size w w' := by
  obtain ⟨pa, cap, rfl, hc⟩ := hv.parts
  have HIX : Hid (Calls Tryz.prog 65 #[.slice pa l.length cap, .func (.func 36) #[] #[]] w fun e w' => e = .returned (.int .i64 (P25.findI (fun r => r.any partX) l)) ∧ Below w.heap.size w w') := Lib.hid (by
    have HC := Lib.hid hc
    have HK := Lib.hid fun W (h : Xk.Ext w W) u x (hu : RowAt W u x) (hx : x ∈ l) => parts_any u x W (hE.ext h) hu (hm x hx).1 (hm x hx).2
    clear hc hE hv hm
    go_enter Tryz.func65, Tryz.ntmps65
    go_wp2
    go_loopw [5, 8] (fun _ x wr => ∃ q : Nat, q ≤ l.length ∧ x = .int .i64 q ∧ Below w.heap.size w wr ∧ Hid (∀ (j : Nat) y, j < q → l[j]? = some y → (fun r => r.any partX) y = false)) (fun _ x _ => l.length - (intOf x).toNat)
    case atStart => exact ⟨0, Nat.zero_le _, rfl, Below.refl _ _, Lib.hid fun j y hj => by omega⟩
    case round =>
      obtain ⟨q, hq, rfl, hbw, HN⟩ := hrel
      by_cases hlt : q < l.length
      · have hx : l[q]? = some (l[q]'hlt) := List.getElem?_eq_getElem _
        have HX := Lib.hid hx
        (obtain ⟨b, off, u, rfl, d1, hr⟩ := HC.out q _ hx; have d1 := Xk.ext_cell hbw d1; have l1 := World.block_lt_of_cell? _ _ d1; have hr := hr.ext hbw)
        (have hk := HK.out wr hbw u l[q] hr (List.getElem_mem _); clear hr)
        have HB := Lib.hid hbw
        have hsz := hbw.size
        clear hx hbw
        generalize l[q]'hlt = x at *
        cases hp : x.any partX
        · rw [hp] at hk
          have Hk := Lib.hid hk
          have HP := Lib.hid hp
          clear hk hp
          go_wp2_with (first | (go_at_call 36; (with_reducible refine (Hk.out).mono ?_); rintro e w' ⟨rfl, hb⟩; obtain ⟨p, rfl⟩ := Xk.exw_of hb; clear hb))
          go_roundw
          case rel => exact ⟨q + 1, by omega, by go_num, (by repeat (first | with_reducible exact HB.out | with_reducible exact Below.refl _ _ | ((with_reducible refine Below.setCell ?_ ?_ _); rotate_left; exact (by (try simp only [World.size_alloc, Xk.exw_size, World.size_setCell, World.size_drew, World.heap_drewN]); omega)) | ((with_reducible refine Below.alloc ?_ ?_ _); rotate_left; exact (by (try simp only [World.size_alloc, Xk.exw_size, World.size_setCell, World.size_drew, World.heap_drewN]); omega)) | ((with_reducible refine Xk.below_exw ?_ ?_ _); rotate_left; exact (by (try simp only [World.size_alloc, Xk.exw_size, World.size_setCell, World.size_drew, World.heap_drewN]); omega)) | (with_reducible refine Below.drew ?_))), Lib.hid fun j y hj hy => by
            by_cases hjq : j = q
            · subst hjq; rw [HX.out] at hy; cases hy; exact HP.out
            · exact HN.out j y (by omega) hy⟩
          case measure => simp [intOf]; omega
        · rw [hp] at hk
          have Hk := Lib.hid hk
          have HP := Lib.hid hp
          clear hk hp
          go_wp2_with (first | (go_at_call 36; (with_reducible refine (Hk.out).mono ?_); rintro e w' ⟨rfl, hb⟩; obtain ⟨p, rfl⟩ := Xk.exw_of hb; clear hb))
          go_ret
          exact ⟨congrArg (fun n : Int => Ending.returned (.int .i64 n)) (P25.findI_hit (p := (fun r => r.any partX)) HX.out HP.out HN.out).symm, (by repeat (first | with_reducible exact HB.out | with_reducible exact Below.refl _ _ | ((with_reducible refine Below.setCell ?_ ?_ _); rotate_left; exact (by (try simp only [World.size_alloc, Xk.exw_size, World.size_setCell, World.size_drew, World.heap_drewN]); omega)) | ((with_reducible refine Below.alloc ?_ ?_ _); rotate_left; exact (by (try simp only [World.size_alloc, Xk.exw_size, World.size_setCell, World.size_drew, World.heap_drewN]); omega)) | ((with_reducible refine Xk.below_exw ?_ ?_ _); rotate_left; exact (by (try simp only [World.size_alloc, Xk.exw_size, World.size_setCell, World.size_drew, World.heap_drewN]); omega)) | (with_reducible refine Below.drew ?_)))⟩
      · go_wp2
        go_ret
        exact ⟨congrArg (fun n : Int => Ending.returned (.int .i64 n)) (P25.findI_none (p := (fun r => r.any partX)) fun j y hy => HN.out j y (by have := (List.getElem?_eq_some_iff.1 hy).1; omega) hy).symm, hbw⟩)
  clear hc hE hv hm
  rw [← P25.findI_dec]
  generalize P25.findI (fun r => r.any partX) l = n at HIX ⊢
  go_enter Tryz.func35, Tryz.ntmps35
  go_wp2_with (first | (go_at_call 65; (with_reducible refine (HIX.out).mono ?_); rintro e w' ⟨rfl, hb⟩; obtain ⟨p, rfl⟩ := Xk.exw_of hb; clear hb))
  go_ret
  exact ⟨rfl, (by repeat (first | with_reducible exact Below.refl _ _ | ((with_reducible refine Below.setCell ?_ ?_ _); rotate_left; exact (by (try simp only [World.size_alloc, Xk.exw_size, World.size_setCell, World.size_drew, World.heap_drewN]); omega)) | ((with_reducible refine Below.alloc ?_ ?_ _); rotate_left; exact (by (try simp only [World.size_alloc, Xk.exw_size, World.size_setCell, World.size_drew, World.heap_drewN]); omega)) | ((with_reducible refine Xk.below_exw ?_ ?_ _); rotate_left; exact (by (try simp only [World.size_alloc, Xk.exw_size, World.size_setCell, World.size_drew, World.heap_drewN]); omega)) | (with_reducible refine Below.drew ?_)))⟩
end Go.Proofs.YtmoippbmnanajaaGreatDoor
