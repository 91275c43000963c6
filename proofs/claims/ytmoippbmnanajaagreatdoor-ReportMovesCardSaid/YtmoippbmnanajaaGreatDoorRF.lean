/- Walks: report.Table. -/
import Derived.Test.YtmoippbmnanajaaGreatDoorRE
set_option linter.unusedSimpArgs false
set_option linter.unusedVariables false
namespace Go.Proofs.YtmoippbmnanajaaGreatDoor
open Go.RowKit
theorem Tryz.infoStrs : (Tryz.prog.info? 22).map (fun i => (i.zero, i.size, i.bytes)) = some (some (.slice none 0 0), 1, 24) := by kernel_rfl
theorem itoa_any (n : Int) (h0 : -9223372036854775808 ≤ n) (h1 : n ≤ 9223372036854775807) (w : World) (hE : Env w) :
    Calls Tryz.prog 20 #[.int .i64 n] w fun e w' => e = .returned (.string ⟨(Lib.itoa n).toArray⟩) ∧ Below w.heap.size w w' :=
  (Tryz.strconv_Itoa n h0 h1 w hE.tab).mono fun e w' ⟨he, k, os, hw⟩ => ⟨he, by
    subst hw
    exact ⟨rfl, rfl, rfl, by simp, fun q hq => by rw [Go.Sort.heap_grow_old _ _ (by simpa using hq)]; rfl⟩⟩
theorem texts_lives {B : Nat} {w : World} {e : TypeId} {v : Value} {n : Nat} {us : List Value} {l : List (List (List UInt8))} (h : w.ownsRow B e 1 v n us) (hl : l.length = n) (hu : ∀ (j : Nat) (u : Value) (x : List (List UInt8)), us[j]? = some u → l[j]? = some x → Xo.Lives B [v.ownBlock] w (fun W => StrsAt W u x)) :
    Xo.Lives B [] w fun W => TextsAt W v l := fun W h1 h2 => by
  have ho := Xo.lives_own h (ks := []) (by simp) W h1 h2
  refine SlAt.own ho hl fun b j x hj hc => ?_
  obtain ⟨u, hju⟩ : ∃ u, us[j]? = some u := ⟨_, List.getElem?_eq_getElem (by have := h.1; have := (List.getElem?_eq_some_iff.1 hj).1; omega)⟩
  refine ⟨u, by have := hc 0 u (by decide) (by simpa using hju); simpa using this, ?_⟩
  exact (hu j u x hju hj) W h1 fun b hb hl _ => h2 b hb hl (by simp)
theorem one_slice {w : World} {u : Value} {l : List (List UInt8)} (h : StrsAt w u l) : u.oneCell' = true := by
  obtain ⟨pa, ca, rfl, -⟩ := h
  rfl
theorem line_app (a b : List UInt8) : ((⟨a.toArray⟩ : ByteArray) ++ ⟨#[10]⟩) = ⟨(a ++ [10]).toArray⟩ := str_app a [10]
set_option maxRecDepth 100000 in
set_option maxHeartbeats 4000000 in
theorem table_none (vc vr : Value) (L : List (List V)) (cnt : Int) (w : World) (hE : Env w) (hc : StrsAt w vc []) (hr : RowsAt w vr L) (h0 : -9223372036854775808 ≤ cnt) (h1 : cnt ≤ 9223372036854775807) :
    Calls Tryz.prog 10 #[.agg #[vc, vr, .int .i64 cnt]] w fun e w' => e = .returned (.string ⟨(Lib.itoa cnt ++ [10]).toArray⟩) ∧ Below w.heap.size w w' := by
  obtain ⟨pc, cc, rfl, hc'⟩ := hc.parts
  obtain ⟨pr, cr, rfl, hr'⟩ := hr.parts
  have HI := Lib.hid fun W (hx : Xk.Ext w W) => itoa_any cnt h0 h1 W (hE.ext hx)
  have HI0 := Lib.hid fun o => itoa_any cnt h0 h1 (w.alloc o) (hE.ext (ext_alloc w o))
  have hlen := Lib.itoa_length_le cnt h0 h1
  have Hs := Lib.hid (line_app (Lib.itoa cnt) [])
  clear hc hr hc' hr' hE h0 h1
  go_enter Tryz.func10, Tryz.ntmps10
  go_wp2_with (first | (go_at_call 20; (with_reducible refine (HI0.out _).mono ?_); rintro e w' ⟨rfl, hb⟩; obtain ⟨p, rfl⟩ := Xk.exw_of hb; clear hb))
  go_ret
  exact ⟨congrArg (fun s => Ending.returned (.string s)) Hs.out, (by repeat (first | with_reducible exact Below.refl _ _ | ((with_reducible refine Below.setCell ?_ ?_ _); rotate_left; exact (by (try simp only [World.size_alloc, Xk.exw_size, World.size_setCell, World.size_drew, World.heap_drewN]); omega)) | ((with_reducible refine Below.alloc ?_ ?_ _); rotate_left; exact (by (try simp only [World.size_alloc, Xk.exw_size, World.size_setCell, World.size_drew, World.heap_drewN]); omega)) | ((with_reducible refine Xk.below_exw ?_ ?_ _); rotate_left; exact (by (try simp only [World.size_alloc, Xk.exw_size, World.size_setCell, World.size_drew, World.heap_drewN]); omega)) | (with_reducible refine Below.drew ?_)))⟩
end Go.Proofs.YtmoippbmnanajaaGreatDoor
