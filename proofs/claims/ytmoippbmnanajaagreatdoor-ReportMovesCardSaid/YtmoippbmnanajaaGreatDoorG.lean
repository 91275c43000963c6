/- Walks: Print and Digits. -/
import Derived.Test.YtmoippbmnanajaaGreatDoorF
import Derived.Test.YtmoippbmnanajaaGreatDoorP7
import Derived.Test.YtmoippbmnanajaaGreatDoorL
import Derived.WalkSmall
import Derived.Lib.ReplaceLaws
import Derived.Lib.ItoaLen
set_option linter.unusedSimpArgs false
set_option linter.unusedVariables false
namespace Go.Proofs.YtmoippbmnanajaaGreatDoor
open Go.RowKit

/-- What the walks ask of the library's own variables. -/
structure Env (w : World) : Prop where
  tab : Lib.TabIs Tryz.prog w "internal/strconv.uint64pow10" .u64 Lib.pow10Tab
  max : ∃ m, w.cell? ⟨0, 0, none⟩ = some (.int .i64 m)
theorem Tryz.g_pow : Tryz.prog.globalNamed "internal/strconv.uint64pow10" = some 1 := by kernel_rfl
theorem var_lt {P : Program} {w : World} {n : String} {g : Nat} {cs : Array Value} (hg : P.globalNamed n = some g) (h : w.var? P n = some cs) : g < w.heap.size := by
  unfold World.var? at h
  simp only [hg, Option.bind_some] at h
  rcases Nat.lt_or_ge g w.heap.size with h1 | h1
  · exact h1
  · rw [Array.getElem?_eq_none h1] at h; simp at h
theorem Env.ext {w w' : World} (h : Env w) (hx : Xk.Ext w w') : Env w' :=
  ⟨var?_below hx Tryz.g_pow (var_lt Tryz.g_pow h.tab) h.tab, let ⟨m, hm⟩ := h.max; ⟨m, Xk.ext_cell hx hm⟩⟩

theorem bytes_ext {a b : ByteArray} (h : a.data.toList = b.data.toList) : a = b := by
  obtain ⟨⟨x⟩⟩ := a; obtain ⟨⟨y⟩⟩ := b; simp only at h; rw [h]
theorem retS {a b : ByteArray} (h : a.data.toList = b.data.toList) : Ending.returned (.string a) = .returned (.string b) := by rw [bytes_ext h]

theorem format_any (n : Int) (h0 : -9223372036854775808 ≤ n) (h1 : n ≤ 9223372036854775807) (w : World) (hE : Env w) :
    Calls Tryz.prog 75 #[.int .i64 n, .int .i64 10] w fun e w' => e = .returned (.string ⟨(Lib.itoa n).toArray⟩) ∧ Below w.heap.size w w' :=
  (Tryz.strconv_FormatInt_10 n h0 h1 w hE.tab).mono fun e w' ⟨he, k, os, hw⟩ => ⟨he, by
    subst hw
    exact ⟨rfl, rfl, rfl, by simp, fun q hq => by rw [Go.Sort.heap_grow_old _ _ (by simpa using hq)]; rfl⟩⟩
theorem replace_any (s : ByteArray) (hs : s.size ≤ 1000000) (w : World) (hE : Env w) :
    Calls Tryz.prog 50 #[.string s, .string ⟨#[39]⟩, .string ⟨#[39, 39]⟩] w fun e w' => e = .returned (.string ⟨(P6.dbl s.data.toList).toArray⟩) ∧ Below w.heap.size w w' := by
  obtain ⟨m, hm⟩ := hE.max
  have hc := Lib.countB_mul_le ⟨#[39]⟩ (by decide) s.size s (Nat.le_refl _)
  have h1 : (⟨#[39]⟩ : ByteArray).size = 1 := rfl
  have h2 : (⟨#[39, 39]⟩ : ByteArray).size = 2 := rfl
  rw [h1] at hc
  have := Tryz.strings_ReplaceAll s ⟨#[39]⟩ ⟨#[39, 39]⟩ m w (by omega) hm (by rw [h1]; omega) (by rw [h2]; omega)
  have e : Lib.replaceAll s.data.toList [39] [39, 39] = P6.dbl s.data.toList := P6.replaceAll_dbl _
  rwa [show Lib.replaceAll s.data.toList (⟨#[39]⟩ : ByteArray).data.toList (⟨#[39, 39]⟩ : ByteArray).data.toList = P6.dbl s.data.toList from e] at this

set_option maxRecDepth 100000 in
set_option maxHeartbeats 2000000 in
theorem print_any (k i : Int) (s : ByteArray) (h0 : -9223372036854775808 ≤ i) (h1 : i ≤ 9223372036854775807) (w : World) (hE : Env w) :
    Calls Tryz.prog 48 #[vv k i s] w fun e w' => e = .returned (.string ⟨(P6.printV k i s.data.toList).toArray⟩) ∧ Below w.heap.size w w' := by
  have hI := is_any k i s
  cases hi : P6.isV k i s.data.toList
  · rw [hi] at hI
    have HI := Lib.hid hI
    have Hv : Hid (P6.printV k i s.data.toList = [63]) := by show _ = _; simp [P6.printV, hi]
    clear hi hI h0 h1
    go_enter Tryz.func48, Tryz.ntmps48
    go_wp2_with (go_at_call 49; (with_reducible refine (HI.out _).mono ?_); rintro e w' ⟨rfl, hb⟩; obtain ⟨p, rfl⟩ := Xk.exw_of hb; clear hb)
    go_ret
    exact ⟨by rw [Hv.out]; rfl, (by repeat (first | with_reducible exact Below.refl _ _ | ((with_reducible refine Below.setCell ?_ ?_ _); rotate_left; exact (by (try simp only [World.size_alloc, Xk.exw_size, World.size_setCell, World.size_drew, World.heap_drewN]); omega)) | ((with_reducible refine Below.alloc ?_ ?_ _); rotate_left; exact (by (try simp only [World.size_alloc, Xk.exw_size, World.size_setCell, World.size_drew, World.heap_drewN]); omega)) | ((with_reducible refine Xk.below_exw ?_ ?_ _); rotate_left; exact (by (try simp only [World.size_alloc, Xk.exw_size, World.size_setCell, World.size_drew, World.heap_drewN]); omega)) | (with_reducible refine Below.drew ?_)))⟩
  rw [hi] at hI
  have HI := Lib.hid hI
  clear hI
  by_cases k0 : k = 0
  · subst k0
    have Hv : Hid (P6.printV 0 i s.data.toList = [78, 85, 76, 76]) := by show _ = _; simp [P6.printV, hi]
    clear hi h0 h1
    go_enter Tryz.func48, Tryz.ntmps48
    go_wp2_with (go_at_call 49; (with_reducible refine (HI.out _).mono ?_); rintro e w' ⟨rfl, hb⟩; obtain ⟨p, rfl⟩ := Xk.exw_of hb; clear hb)
    go_ret
    exact ⟨by rw [Hv.out]; rfl, (by repeat (first | with_reducible exact Below.refl _ _ | ((with_reducible refine Below.setCell ?_ ?_ _); rotate_left; exact (by (try simp only [World.size_alloc, Xk.exw_size, World.size_setCell, World.size_drew, World.heap_drewN]); omega)) | ((with_reducible refine Below.alloc ?_ ?_ _); rotate_left; exact (by (try simp only [World.size_alloc, Xk.exw_size, World.size_setCell, World.size_drew, World.heap_drewN]); omega)) | ((with_reducible refine Xk.below_exw ?_ ?_ _); rotate_left; exact (by (try simp only [World.size_alloc, Xk.exw_size, World.size_setCell, World.size_drew, World.heap_drewN]); omega)) | (with_reducible refine Below.drew ?_)))⟩
  by_cases k1 : k = 1
  · subst k1
    have hi01 : i = 0 ∨ i = 1 := by
      rw [P6.isV, if_neg (by decide), if_pos rfl] at hi
      simp at hi; exact hi.1
    rcases hi01 with rfl | rfl
    · have Hv : Hid (P6.printV 1 0 s.data.toList = [70, 65, 76, 83, 69]) := by show _ = _; simp [P6.printV, hi]
      clear hi h0 h1 k0
      go_enter Tryz.func48, Tryz.ntmps48
      go_wp2_with (go_at_call 49; (with_reducible refine (HI.out _).mono ?_); rintro e w' ⟨rfl, hb⟩; obtain ⟨p, rfl⟩ := Xk.exw_of hb; clear hb)
      go_ret
      exact ⟨by rw [Hv.out]; rfl, (by repeat (first | with_reducible exact Below.refl _ _ | ((with_reducible refine Below.setCell ?_ ?_ _); rotate_left; exact (by (try simp only [World.size_alloc, Xk.exw_size, World.size_setCell, World.size_drew, World.heap_drewN]); omega)) | ((with_reducible refine Below.alloc ?_ ?_ _); rotate_left; exact (by (try simp only [World.size_alloc, Xk.exw_size, World.size_setCell, World.size_drew, World.heap_drewN]); omega)) | ((with_reducible refine Xk.below_exw ?_ ?_ _); rotate_left; exact (by (try simp only [World.size_alloc, Xk.exw_size, World.size_setCell, World.size_drew, World.heap_drewN]); omega)) | (with_reducible refine Below.drew ?_)))⟩
    · have Hv : Hid (P6.printV 1 1 s.data.toList = [84, 82, 85, 69]) := by show _ = _; simp [P6.printV, hi]
      clear hi h0 h1 k0
      go_enter Tryz.func48, Tryz.ntmps48
      go_wp2_with (go_at_call 49; (with_reducible refine (HI.out _).mono ?_); rintro e w' ⟨rfl, hb⟩; obtain ⟨p, rfl⟩ := Xk.exw_of hb; clear hb)
      go_ret
      exact ⟨by rw [Hv.out]; rfl, (by repeat (first | with_reducible exact Below.refl _ _ | ((with_reducible refine Below.setCell ?_ ?_ _); rotate_left; exact (by (try simp only [World.size_alloc, Xk.exw_size, World.size_setCell, World.size_drew, World.heap_drewN]); omega)) | ((with_reducible refine Below.alloc ?_ ?_ _); rotate_left; exact (by (try simp only [World.size_alloc, Xk.exw_size, World.size_setCell, World.size_drew, World.heap_drewN]); omega)) | ((with_reducible refine Xk.below_exw ?_ ?_ _); rotate_left; exact (by (try simp only [World.size_alloc, Xk.exw_size, World.size_setCell, World.size_drew, World.heap_drewN]); omega)) | (with_reducible refine Below.drew ?_)))⟩
  by_cases k2 : k = 2
  · subst k2
    have Hv : Hid (P6.printV 2 i s.data.toList = Lib.itoa i) := by show _ = _; simp [P6.printV, hi]
    have HF := Lib.hid (format_any i h0 h1)
    have hE1 : ∀ o p, Env (Xk.exw (w.alloc o) p) := fun o p => hE.ext (Xk.below_exw ((Below.refl _ _).alloc (Nat.le_refl _) _) (by simp) p)
    have HE := Lib.hid hE1
    clear hi h0 h1 k0 k1 hE1 hE
    go_enter Tryz.func48, Tryz.ntmps48
    go_wp2_with (first | (go_at_call 49; (with_reducible refine (HI.out _).mono ?_); rintro e w' ⟨rfl, hb⟩; obtain ⟨p, rfl⟩ := Xk.exw_of hb; clear hb) | (go_at_call 75; (with_reducible refine (HF.out _ (HE.out _ _)).mono ?_); rintro e w' ⟨rfl, hb⟩; obtain ⟨p, rfl⟩ := Xk.exw_of hb; clear hb))
    go_ret
    exact ⟨by rw [Hv.out]; rfl, (by repeat (first | with_reducible exact Below.refl _ _ | ((with_reducible refine Below.setCell ?_ ?_ _); rotate_left; exact (by (try simp only [World.size_alloc, Xk.exw_size, World.size_setCell, World.size_drew, World.heap_drewN]); omega)) | ((with_reducible refine Below.alloc ?_ ?_ _); rotate_left; exact (by (try simp only [World.size_alloc, Xk.exw_size, World.size_setCell, World.size_drew, World.heap_drewN]); omega)) | ((with_reducible refine Xk.below_exw ?_ ?_ _); rotate_left; exact (by (try simp only [World.size_alloc, Xk.exw_size, World.size_setCell, World.size_drew, World.heap_drewN]); omega)) | (with_reducible refine Below.drew ?_)))⟩
  by_cases k3 : k = 3
  · subst k3
    have hsz : s.size ≤ 40 := by
      rw [P6.isV, if_neg (by decide), if_neg (by decide), if_neg (by decide), if_pos rfl] at hi
      simp at hi; exact hi.1.2
    have Hv : Hid (P6.printV 3 i s.data.toList = 39 :: (P6.dbl s.data.toList ++ [39])) := by show _ = _; simp [P6.printV, hi, P6.quote]
    have HF := Lib.hid (replace_any s (by omega))
    have hl : (P6.dbl s.data.toList).length ≤ 80 := Nat.le_trans (P6.dbl_length _) (by show 2 * s.size ≤ 80; omega)
    generalize P6.dbl s.data.toList = D at *
    have hE1 : ∀ o p, Env (Xk.exw (w.alloc o) p) := fun o p => hE.ext (Xk.below_exw ((Below.refl _ _).alloc (Nat.le_refl _) _) (by simp) p)
    have HE := Lib.hid hE1
    clear hi h0 h1 k0 k1 k2 hE1 hE
    go_enter Tryz.func48, Tryz.ntmps48
    go_wp2_with (first | (go_at_call 49; (with_reducible refine (HI.out _).mono ?_); rintro e w' ⟨rfl, hb⟩; obtain ⟨p, rfl⟩ := Xk.exw_of hb; clear hb) | (go_at_call 50; (with_reducible refine (HF.out _ (HE.out _ _)).mono ?_); rintro e w' ⟨rfl, hb⟩; obtain ⟨p, rfl⟩ := Xk.exw_of hb; clear hb))
    go_ret
    rw [Hv.out]
    exact ⟨retS (by simp), (by repeat (first | with_reducible exact Below.refl _ _ | ((with_reducible refine Below.setCell ?_ ?_ _); rotate_left; exact (by (try simp only [World.size_alloc, Xk.exw_size, World.size_setCell, World.size_drew, World.heap_drewN]); omega)) | ((with_reducible refine Below.alloc ?_ ?_ _); rotate_left; exact (by (try simp only [World.size_alloc, Xk.exw_size, World.size_setCell, World.size_drew, World.heap_drewN]); omega)) | ((with_reducible refine Xk.below_exw ?_ ?_ _); rotate_left; exact (by (try simp only [World.size_alloc, Xk.exw_size, World.size_setCell, World.size_drew, World.heap_drewN]); omega)) | (with_reducible refine Below.drew ?_)))⟩
  · exact absurd hi (by simp [P6.isV, k0, k1, k2, k3])
theorem wrap_u64_small {n : Int} (h0 : 0 ≤ n) (h1 : n < 18446744073709551616) : IntKind.u64.wrap n = n := by
  unfold IntKind.wrap
  simp only [IntKind.bits, IntKind.signed, Bool.false_and, Bool.false_eq_true, if_false]
  exact Int.emod_eq_of_lt h0 h1
theorem wrap_u64_neg {n : Int} (h0 : -18446744073709551616 ≤ n) (h1 : n < 0) : IntKind.u64.wrap n = n + 18446744073709551616 := by
  unfold IntKind.wrap
  simp only [IntKind.bits, IntKind.signed, Bool.false_and, Bool.false_eq_true, if_false]
  rw [← Int.add_emod_right]
  exact Int.emod_eq_of_lt (by omega) (by omega)

theorem dec_step (u : Nat) (s : List UInt8) : Lib.decDigits u ++ s = if u < 10 then UInt8.ofNat (48 + u) :: s else Lib.decDigits (u / 10) ++ (UInt8.ofNat (48 + u % 10) :: s) := by
  rw [Lib.decDigits]
  split <;> simp

set_option maxRecDepth 100000 in
set_option maxHeartbeats 2000000 in
theorem digits_any (n : Int) (h0 : -9223372036854775808 ≤ n) (h1 : n ≤ 9223372036854775807) (w : World) :
    Calls Tryz.prog 17 #[.int .i64 n] w fun e w' => e = .returned (.string ⟨(Lib.itoa n).toArray⟩) ∧ Below w.heap.size w w' := by
  have HL : Hid ((Lib.decDigits n.natAbs).length ≤ 1000) := by
    show _ ≤ _
    rw [Lib.decDigits_length]
    exact Nat.le_trans (Lib.nDigits_le20 _ (by omega)) (by decide)
  by_cases hn : n < 0
  · have HI : Hid (Lib.itoa n = 45 :: Lib.decDigits n.natAbs) := by show _ = _; simp [Lib.itoa, hn]
    have Hw : Hid (IntKind.u64.wrap (-IntKind.u64.wrap n) = (n.natAbs : Int)) := by
      show _ = _
      rw [wrap_u64_neg (by omega) hn, wrap_u64_neg (by omega) (by omega)]; omega
    have hU : n.natAbs ≤ 9223372036854775808 := by omega
    have HU := Lib.hid hU
    clear hU
    generalize n.natAbs = U at *
    go_enter Tryz.func17, Tryz.ntmps17
    go_wp2
    go_loopw [3, 4] (fun x y wr => ∃ u : Nat, ∃ s : List UInt8, x = .int .u64 u ∧ y = .string ⟨s.toArray⟩ ∧ Lib.decDigits u ++ s = Lib.decDigits U ∧ u ≤ U ∧ Below w.heap.size w wr) (fun x _ _ => (intOf x).toNat)
    case atStart => exact ⟨U, [], by rw [Hw.out], rfl, by simp, Nat.le_refl _, Below.refl _ _⟩
    case round =>
      obtain ⟨u, s, rfl, rfl, hd, hu, hb⟩ := hrel
      obtain ⟨p, rfl⟩ := Xk.exw_of hb
      clear hb
      have hub : (u : Int) ≤ 9223372036854775808 := by have := HU.out; omega
      rw [dec_step] at hd
      have hs : s.length ≤ 1000 := by
        have := HL.out
        rw [← hd] at this
        split at this <;> simp at this <;> omega
      by_cases h10 : u < 10
      · rw [if_pos h10] at hd
        have Hd : Hid ((48 + UInt8.ofNat (u % 10)) :: s = Lib.decDigits U) := by show _ = _; rw [← hd, Nat.mod_eq_of_lt h10, UInt8.ofNat_add]; rfl
        clear hd
        have hq : ((u : Int) / 10 == 0) = true := by rw [beq_iff_eq]; omega
        go_wp2
        go_ret
        exact ⟨retS (by rw [HI.out, ← Hd.out]; simp), (by repeat (first | with_reducible exact Below.refl _ _ | ((with_reducible refine Below.setCell ?_ ?_ _); rotate_left; exact (by (try simp only [World.size_alloc, Xk.exw_size, World.size_setCell, World.size_drew, World.heap_drewN]); omega)) | ((with_reducible refine Below.alloc ?_ ?_ _); rotate_left; exact (by (try simp only [World.size_alloc, Xk.exw_size, World.size_setCell, World.size_drew, World.heap_drewN]); omega)) | ((with_reducible refine Xk.below_exw ?_ ?_ _); rotate_left; exact (by (try simp only [World.size_alloc, Xk.exw_size, World.size_setCell, World.size_drew, World.heap_drewN]); omega)) | (with_reducible refine Below.drew ?_)))⟩
      · rw [if_neg h10] at hd
        have Hd : Hid (Lib.decDigits (u / 10) ++ ((48 + UInt8.ofNat (u % 10)) :: s) = Lib.decDigits U) := by show _ = _; rw [← hd, UInt8.ofNat_add]; rfl
        clear hd
        have hq : ((u : Int) / 10 == 0) = false := by rw [beq_eq_false_iff_ne]; omega
        go_wp2
        go_roundw
        case rel => exact ⟨u / 10, _, by go_num, congrArg Value.string (bytes_ext (by simp)), Hd.out, by omega, (by repeat (first | with_reducible exact Below.refl _ _ | ((with_reducible refine Below.setCell ?_ ?_ _); rotate_left; exact (by (try simp only [World.size_alloc, Xk.exw_size, World.size_setCell, World.size_drew, World.heap_drewN]); omega)) | ((with_reducible refine Below.alloc ?_ ?_ _); rotate_left; exact (by (try simp only [World.size_alloc, Xk.exw_size, World.size_setCell, World.size_drew, World.heap_drewN]); omega)) | ((with_reducible refine Xk.below_exw ?_ ?_ _); rotate_left; exact (by (try simp only [World.size_alloc, Xk.exw_size, World.size_setCell, World.size_drew, World.heap_drewN]); omega)) | (with_reducible refine Below.drew ?_)))⟩
        case measure => simp [intOf]; omega
  · have HI : Hid (Lib.itoa n = Lib.decDigits n.natAbs) := by show _ = _; simp [Lib.itoa, hn]; congr 1; omega
    have hn' : 0 ≤ n := by omega
    obtain ⟨U, rfl⟩ := Int.eq_ofNat_of_zero_le hn'
    rw [Int.natAbs_natCast] at HI HL
    have hU : U ≤ 9223372036854775808 := by omega
    have HU := Lib.hid hU
    clear hn hn' h0 hU
    go_enter Tryz.func17, Tryz.ntmps17
    go_wp2
    go_loopw [3, 4] (fun x y wr => ∃ u : Nat, ∃ s : List UInt8, x = .int .u64 u ∧ y = .string ⟨s.toArray⟩ ∧ Lib.decDigits u ++ s = Lib.decDigits U ∧ u ≤ U ∧ Below w.heap.size w wr) (fun x _ _ => (intOf x).toNat)
    case atStart => exact ⟨U, [], rfl, rfl, by simp, Nat.le_refl _, Below.refl _ _⟩
    case round =>
      obtain ⟨u, s, rfl, rfl, hd, hu, hb⟩ := hrel
      obtain ⟨p, rfl⟩ := Xk.exw_of hb
      clear hb
      have hub : (u : Int) ≤ 9223372036854775808 := by have := HU.out; omega
      rw [dec_step] at hd
      have hs : s.length ≤ 1000 := by
        have := HL.out
        rw [← hd] at this
        split at this <;> simp at this <;> omega
      by_cases h10 : u < 10
      · rw [if_pos h10] at hd
        have Hd : Hid ((48 + UInt8.ofNat (u % 10)) :: s = Lib.decDigits U) := by show _ = _; rw [← hd, Nat.mod_eq_of_lt h10, UInt8.ofNat_add]; rfl
        clear hd
        have hq : ((u : Int) / 10 == 0) = true := by rw [beq_iff_eq]; omega
        go_wp2
        go_ret
        exact ⟨retS (by rw [HI.out, ← Hd.out]; simp), (by repeat (first | with_reducible exact Below.refl _ _ | ((with_reducible refine Below.setCell ?_ ?_ _); rotate_left; exact (by (try simp only [World.size_alloc, Xk.exw_size, World.size_setCell, World.size_drew, World.heap_drewN]); omega)) | ((with_reducible refine Below.alloc ?_ ?_ _); rotate_left; exact (by (try simp only [World.size_alloc, Xk.exw_size, World.size_setCell, World.size_drew, World.heap_drewN]); omega)) | ((with_reducible refine Xk.below_exw ?_ ?_ _); rotate_left; exact (by (try simp only [World.size_alloc, Xk.exw_size, World.size_setCell, World.size_drew, World.heap_drewN]); omega)) | (with_reducible refine Below.drew ?_)))⟩
      · rw [if_neg h10] at hd
        have Hd : Hid (Lib.decDigits (u / 10) ++ ((48 + UInt8.ofNat (u % 10)) :: s) = Lib.decDigits U) := by show _ = _; rw [← hd, UInt8.ofNat_add]; rfl
        clear hd
        have hq : ((u : Int) / 10 == 0) = false := by rw [beq_eq_false_iff_ne]; omega
        go_wp2
        go_roundw
        case rel => exact ⟨u / 10, _, by go_num, congrArg Value.string (bytes_ext (by simp)), Hd.out, by omega, (by repeat (first | with_reducible exact Below.refl _ _ | ((with_reducible refine Below.setCell ?_ ?_ _); rotate_left; exact (by (try simp only [World.size_alloc, Xk.exw_size, World.size_setCell, World.size_drew, World.heap_drewN]); omega)) | ((with_reducible refine Below.alloc ?_ ?_ _); rotate_left; exact (by (try simp only [World.size_alloc, Xk.exw_size, World.size_setCell, World.size_drew, World.heap_drewN]); omega)) | ((with_reducible refine Xk.below_exw ?_ ?_ _); rotate_left; exact (by (try simp only [World.size_alloc, Xk.exw_size, World.size_setCell, World.size_drew, World.heap_drewN]); omega)) | (with_reducible refine Below.drew ?_)))⟩
        case measure => simp [intOf]; omega
end Go.Proofs.YtmoippbmnanajaaGreatDoor
