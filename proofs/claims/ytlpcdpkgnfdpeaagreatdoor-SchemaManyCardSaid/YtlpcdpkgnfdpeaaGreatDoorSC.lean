/- What the claim's proof leans on, part 3: walks of functions and plain laws. -/
import Derived.Test.YtlpcdpkgnfdpeaaGreatDoorRows
import Derived.Test.YtlpcdpkgnfdpeaaGreatDoorSB
import Derived.Test.YtlpcdpkgnfdpeaaGreatDoorSA
import Derived.WalkKit
import Derived.WalkSpells
import Derived.Outline
import Derived.WalkLawsBesides
import Derived.Lib.Hide
import Derived.Deep.Light
import Derived.Lib.Bytealg
import Derived.Lib.IndexLaws
import Derived.WalkSmall
import Derived.Lib.ReplaceLaws
import Derived.Lib.ItoaLen
set_option linter.unusedSimpArgs false
set_option linter.unusedVariables false
set_option maxRecDepth 100000
set_option maxHeartbeats 80000000
namespace Go.Proofs.YtlpcdpkgnfdpeaaGreatDoor
open Go.RowKit
@[reducible] def vv (k i : Int) (s : ByteArray) : Value := .agg #[.int .i64 k, .int .i64 i, .string s]
def rs (k i : Int) (s : ByteArray) : ByteArray := if P6.isV k i s.data.toList then s else ⟨#[]⟩
structure V where
 k : Int
 i : Int
 s : ByteArray
structure Env (w : World) : Prop where
 tab : Lib.TabIs Tryz.prog w "internal/strconv.uint64pow10" .u64 Lib.pow10Tab
 max : ∃ m, w.cell? ⟨1, 0, none⟩ = some (.int .i64 m)
theorem Tryz.g_pow : Tryz.prog.globalNamed "internal/strconv.uint64pow10" = some 4 := by kernel_rfl
theorem var_lt {P : Program} {w : World} {n : String} {g : Nat} {cs : Array Value} (hg : P.globalNamed n = some g) (h : w.var? P n = some cs) : g < w.heap.size := by
 unfold World.var? at h
 simp only [hg, Option.bind_some] at h
 rcases Nat.lt_or_ge g w.heap.size with h1 | h1
 ·exact h1
 ·rw [Array.getElem?_eq_none h1] at h; simp at h
theorem Env.ext {w w' : World} (h : Env w) (hx : Xk.Ext w w') : Env w' :=
 ⟨var?_below hx Tryz.g_pow (var_lt Tryz.g_pow h.tab) h.tab, let ⟨m, hm⟩ := h.max; ⟨m, Xk.ext_cell hx hm⟩⟩
theorem bytes_ext {a b : ByteArray} (h : a.data.toList = b.data.toList) : a = b := by
 obtain ⟨⟨x⟩⟩ := a; obtain ⟨⟨y⟩⟩ := b; simp only at h; rw [h]
theorem retS {a b : ByteArray} (h : a.data.toList = b.data.toList) : Ending.returned (.string a) = .returned (.string b) := by rw [bytes_ext h]
theorem wrap_u64_neg {n : Int} (h0 : -18446744073709551616 ≤ n) (h1 : n < 0) : IntKind.u64.wrap n = n + 18446744073709551616 := by
 unfold IntKind.wrap
 simp only [IntKind.bits, IntKind.signed, Bool.false_and, Bool.false_eq_true, if_false]
 rw [← Int.add_emod_right]
 exact Int.emod_eq_of_lt (by omega) (by omega)
theorem dec_step (u : Nat) (s : List UInt8) : Lib.decDigits u ++ s = if u < 10 then UInt8.ofNat (48 + u) :: s else Lib.decDigits (u / 10) ++ (UInt8.ofNat (48 + u % 10) :: s) := by
 rw [Lib.decDigits]
 split <;> simp
theorem digits_any (n : Int) (h0 : -9223372036854775808 ≤ n) (h1 : n ≤ 9223372036854775807) (w : World) :
  Calls Tryz.prog 7 #[.int .i64 n] w fun e w' => e = .returned (.string ⟨(Lib.itoa n).toArray⟩) ∧ Below w.heap.size w w' := by
 have HL : Hid ((Lib.decDigits n.natAbs).length ≤ 1000) := by
  show _ ≤ _
  rw [Lib.decDigits_length]
  exact Nat.le_trans (Lib.nDigits_le20 _ (by omega)) (by decide)
 by_cases hn : n < 0
 ·have HI : Hid (Lib.itoa n = 45 :: Lib.decDigits n.natAbs) := by show _ = _; simp [Lib.itoa, hn]
  have Hw : Hid (IntKind.u64.wrap (-IntKind.u64.wrap n) = (n.natAbs : Int)) := by
   show _ = _
   rw [wrap_u64_neg (by omega) hn, wrap_u64_neg (by omega) (by omega)]; omega
  have hU : n.natAbs ≤ 9223372036854775808 := by omega
  have HU := Lib.hid hU
  clear hU
  generalize n.natAbs = U at *
  go_enter Tryz.func7, Tryz.ntmps7
  go_wp2
  go_loopw [3, 4] (fun x y wr => ∃ u : Nat, ∃ s : List UInt8, x = .int .u64 u ∧ y = .string ⟨s.toArray⟩ ∧ Lib.decDigits u ++ s = Lib.decDigits U ∧ u ≤ U ∧ Below w.heap.size w wr) (fun x _ _ => (intOf x).toNat)
  case atStart => exact ⟨U, [], by rw [Hw.out], rfl, by simp, Nat.le_refl _, Below.refl _ _⟩
  case round =>
   obtain ⟨u, s, rfl, rfl, hd, hu, hb⟩ := hrel
   obtain ⟨p, rfl⟩ := Xk.exw_of hb
   clear hb
   have hub : (u : Int) ≤ 9223372036854775808 := by have := HU.out; omega
   rw [dec_step] at hd
   have hs : s.length ≤ 1000 := by
    have := HL.out
    rw [← hd] at this
    split at this <;> simp at this <;> omega
   by_cases h10 : u < 10
   ·rw [if_pos h10] at hd
    have Hd : Hid ((48 + UInt8.ofNat (u % 10)) :: s = Lib.decDigits U) := by show _ = _; rw [← hd, Nat.mod_eq_of_lt h10, UInt8.ofNat_add]; rfl
    clear hd
    have hq : ((u : Int) / 10 == 0) = true := by rw [beq_iff_eq]; omega
    go_wp2
    go_ret
    exact ⟨retS (by rw [HI.out, ← Hd.out]; simp), Xk.xt⟩
   ·rw [if_neg h10] at hd
    have Hd : Hid (Lib.decDigits (u / 10) ++ ((48 + UInt8.ofNat (u % 10)) :: s) = Lib.decDigits U) := by show _ = _; rw [← hd, UInt8.ofNat_add]; rfl
    clear hd
    have hq : ((u : Int) / 10 == 0) = false := by rw [beq_eq_false_iff_ne]; omega
    go_wp2
    go_roundw
    case rel => exact ⟨u / 10, _, by go_num, congrArg Value.string (bytes_ext (by simp)), Hd.out, by omega, Xk.xt⟩
    case measure => simp [intOf]; omega
 ·have HI : Hid (Lib.itoa n = Lib.decDigits n.natAbs) := by show _ = _; simp [Lib.itoa, hn]; congr 1; omega
  have hn' : 0 ≤ n := by omega
  obtain ⟨U, rfl⟩ := Int.eq_ofNat_of_zero_le hn'
  rw [Int.natAbs_natCast] at HI HL
  have hU : U ≤ 9223372036854775808 := by omega
  have HU := Lib.hid hU
  clear hn hn' h0 hU
  go_enter Tryz.func7, Tryz.ntmps7
  go_wp2
  go_loopw [3, 4] (fun x y wr => ∃ u : Nat, ∃ s : List UInt8, x = .int .u64 u ∧ y = .string ⟨s.toArray⟩ ∧ Lib.decDigits u ++ s = Lib.decDigits U ∧ u ≤ U ∧ Below w.heap.size w wr) (fun x _ _ => (intOf x).toNat)
  case atStart => exact ⟨U, [], rfl, rfl, by simp, Nat.le_refl _, Below.refl _ _⟩
  case round =>
   obtain ⟨u, s, rfl, rfl, hd, hu, hb⟩ := hrel
   obtain ⟨p, rfl⟩ := Xk.exw_of hb
   clear hb
   have hub : (u : Int) ≤ 9223372036854775808 := by have := HU.out; omega
   rw [dec_step] at hd
   have hs : s.length ≤ 1000 := by
    have := HL.out
    rw [← hd] at this
    split at this <;> simp at this <;> omega
   by_cases h10 : u < 10
   ·rw [if_pos h10] at hd
    have Hd : Hid ((48 + UInt8.ofNat (u % 10)) :: s = Lib.decDigits U) := by show _ = _; rw [← hd, Nat.mod_eq_of_lt h10, UInt8.ofNat_add]; rfl
    clear hd
    have hq : ((u : Int) / 10 == 0) = true := by rw [beq_iff_eq]; omega
    go_wp2
    go_ret
    exact ⟨retS (by rw [HI.out, ← Hd.out]; simp), Xk.xt⟩
   ·rw [if_neg h10] at hd
    have Hd : Hid (Lib.decDigits (u / 10) ++ ((48 + UInt8.ofNat (u % 10)) :: s) = Lib.decDigits U) := by show _ = _; rw [← hd, UInt8.ofNat_add]; rfl
    clear hd
    have hq : ((u : Int) / 10 == 0) = false := by rw [beq_eq_false_iff_ne]; omega
    go_wp2
    go_roundw
    case rel => exact ⟨u / 10, _, by go_num, congrArg Value.string (bytes_ext (by simp)), Hd.out, by omega, Xk.xt⟩
    case measure => simp [intOf]; omega
end Go.Proofs.YtlpcdpkgnfdpeaaGreatDoor
