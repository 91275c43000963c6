/- Walks: report.literal. -/
import Derived.Test.YtmoippbmnanajaaGreatDoorRJ
import Derived.Test.YtmoippbmnanajaaGreatDoorShelfB
import Derived.Lib.AtoiErrMem
import Derived.Lib.ParseIntBTie
import Derived.Deep.RegionHeld3
import Derived.Deep.RegionWith
set_option linter.unusedSimpArgs false
set_option linter.unusedVariables false
namespace Go.Proofs.YtmoippbmnanajaaGreatDoor
open Go.RowKit
/-- The library's variables, with the two errors of strconv. -/
structure EnvR (w : World) : Prop where
  env : Env w
  syn : ∃ tp p, w.var? Tryz.prog "strconv.ErrSyntax" = some #[.iface tp p]
  ran : ∃ tp p, w.var? Tryz.prog "strconv.ErrRange" = some #[.iface tp p]
theorem Tryz.g_syn : Tryz.prog.globalNamed "strconv.ErrSyntax" = some 2 := by kernel_rfl
theorem Tryz.g_ran : Tryz.prog.globalNamed "strconv.ErrRange" = some 3 := by kernel_rfl
theorem EnvR.ext {w w' : World} (h : EnvR w) (hx : Xk.Ext w w') : EnvR w' :=
  ⟨h.env.ext hx, let ⟨tp, p, hv⟩ := h.syn; ⟨tp, p, var?_below hx Tryz.g_syn (var_lt Tryz.g_syn hv) hv⟩, let ⟨tp, p, hv⟩ := h.ran; ⟨tp, p, var?_below hx Tryz.g_ran (var_lt Tryz.g_ran hv) hv⟩⟩
theorem bytes_below {w w' : World} {e : TypeId} (h : w' = w ∨ ∃ t, w' = Lib.bytesWorld w e t) : Below w.heap.size w w' := by
  rcases h with rfl | ⟨t, rfl⟩
  · exact Below.refl _ _
  · exact Lib.bytesWorld_below _ _ _
theorem parseInt_ok (t : List UInt8) (n : Int) (h : Lib.parseIntB 64 t = .ok n) (ht : t.length ≤ 4000000000) (w : World) :
    Calls Tryz.prog 126 #[.string ⟨t.toArray⟩, .int .i64 10, .int .i64 64] w fun e w' => e = .returned (.tuple #[.int .i64 n, .nilIface]) ∧ Below w.heap.size w w' :=
  (Tryz.strconv_ParseInt_10_at64_ok ⟨t.toArray⟩ (by show t.length ≤ _; omega) n (by simpa using h) w).mono fun e w' ⟨h1, h2⟩ => ⟨h1, bytes_below h2⟩
theorem parseInt_err (t : List UInt8) (h : ∀ n, Lib.parseIntB 64 t ≠ .ok n) (ht : t.length ≤ 4000000000) (w : World) (hE : EnvR w) :
    Calls Tryz.prog 126 #[.string ⟨t.toArray⟩, .int .i64 10, .int .i64 64] w fun e w' => ∃ (n : Int) (tp : TypeId) (a : Addr), e = .returned (.tuple #[.int .i64 n, .iface tp (.pointer (some a))]) ∧ Below w.heap.size w w' := by
  obtain ⟨tp, p, hs⟩ := hE.syn
  obtain ⟨tp', p', hr⟩ := hE.ran
  rcases hp : Lib.parseIntB 64 t with n | _ | _
  · exact absurd hp (h n)
  · exact (Tryz.strconv_ParseInt_10_at64_syntax_var ⟨t.toArray⟩ (by show t.length ≤ _; omega) (hp.trans (by kernel_rfl)) tp p w hs).mono fun e w' h => by obtain ⟨N, h1, -, -, h2⟩ := h; exact ⟨_, _, _, h1, h2⟩
  · exact (Tryz.strconv_ParseInt_10_at64_range_var ⟨t.toArray⟩ (by show t.length ≤ _; omega) (by simpa using hp) tp' p' w hr).mono fun e w' h => by obtain ⟨N, h1, -, -, h2⟩ := h; exact ⟨_, _, _, h1, h2⟩
/-- How literal ends. -/
def LitPost (w : World) (t : List UInt8) (e : Ending) (w' : World) : Prop := Below w.heap.size w w' ∧ ∃ (x : V) (ok : Bool), e = .returned (.tuple #[vv x.k x.i x.s, .bool ok]) ∧ match lit t with
  | some y => ok = true ∧ x = y
  | none => ok = false
theorem LitPost.of {w : World} {t : List UInt8} {w' : World} {x : V} {ok : Bool} (h : Below w.heap.size w w') (hc : cand t = some x) (hok : ok = (isX x && (printX x == t))) : LitPost w t (.returned (.tuple #[vv x.k x.i x.s, .bool ok])) w' := by
  refine ⟨h, x, ok, rfl, ?_⟩
  unfold lit
  simp only [hc]
  by_cases hx : isX x = true ∧ printX x = t
  · rw [if_pos hx]
    refine ⟨?_, rfl⟩
    rw [hok, hx.1, hx.2]; simp
  · rw [if_neg hx]
    show ok = false
    rw [hok]
    cases h1 : isX x
    · rfl
    · have : printX x ≠ t := fun e => hx ⟨h1, e⟩
      simpa using this
theorem LitPost.no {w : World} {t : List UInt8} {w' : World} {x : V} (h : Below w.heap.size w w') (hc : cand t = none) : LitPost w t (.returned (.tuple #[vv x.k x.i x.s, .bool false])) w' := by
  refine ⟨h, x, false, rfl, ?_⟩
  unfold lit
  simp only [hc]
end Go.Proofs.YtmoippbmnanajaaGreatDoor
