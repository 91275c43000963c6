/- Walks: report.guess, of one number or of too few lines. -/
import Derived.Test.YtmoippbmnanajaaGreatDoorRP
import Derived.RegionTactic
set_option linter.unusedSimpArgs false
set_option linter.unusedVariables false
namespace Go.Proofs.YtmoippbmnanajaaGreatDoor
open Go.RowKit
theorem nil_ans (W : World) : StrsAt W (.slice none 0 0) [] ∧ RowsAt W (.slice none 0 0) [] :=
  ⟨⟨none, 0, rfl, Nat.le_refl _, fun j x hj => by simp at hj⟩, ⟨none, 0, rfl, Nat.le_refl _, fun j x hj => by simp at hj⟩⟩
set_option maxRecDepth 100000 in
set_option maxHeartbeats 4000000 in
theorem guess_two (s : List UInt8) (w : World) (hE : EnvR w) (hs : s.length ≤ 2000000000) (h2 : (linesOf s).length = 2) (hm : ∀ x ∈ linesOf s, x.length ≤ 2000000000) :
    Calls Tryz.prog 31 #[.string ⟨s.toArray⟩] w (GuessPost w (guess s)) := by
  have HSp := Lib.hid fun W (hx : Xk.Ext w W) => split_any s [10] (by omega) (by decide) W (hE.env.ext hx)
  have HE := Lib.hid hE
  unfold linesOf at h2 hm
  have hg1 : ∀ n, Lib.atoiAll ((Lib.split s [10]).getD 0 []) = .ok n → guess s = some ⟨[], [], n⟩ := fun n hn => by
    unfold guess linesOf; rw [if_pos h2, hn]
  have hg2 : (∀ n, Lib.atoiAll ((Lib.split s [10]).getD 0 []) ≠ .ok n) → guess s = none := fun hn => by
    unfold guess linesOf; rw [if_pos h2]
    split
    · rename_i n h; exact absurd h (hn n)
    · rfl
  have h0 : (Lib.split s [10])[0]? = some ((Lib.split s [10]).getD 0 []) := by
    rw [List.getD_eq_getElem?_getD, List.getElem?_eq_getElem (by omega)]; rfl
  have hx0 := hm _ (List.mem_of_getElem? h0)
  generalize (Lib.split s [10]).getD 0 [] = x at hg1 hg2 h0 hx0
  have H2 := Lib.hid h2
  have H0 := Lib.hid h0
  clear hE h2 h0 hm
  go_enter Tryz.func31, Tryz.ntmps31
  by_cases hok : ∃ n, Lib.atoiAll x = .ok n
  · obtain ⟨n, hn⟩ := hok
    have HA := Lib.hid fun W => atoi_ok x n hn (by omega) W
    have HG2 : Hid (guess s = some ⟨[], [], n⟩) := Lib.hid (hg1 n hn)
    clear hn hg1 hg2
    go_wp2_with (first | (go_at_call 58; (with_reducible refine (HSp.out _ (by repeat (first | with_reducible exact Below.refl _ _ | ((with_reducible refine Below.setCell ?_ ?_ _); rotate_left; exact (by (try simp only [World.size_alloc, Xk.exw_size, World.size_setCell, World.size_drew, World.heap_drewN]); omega)) | ((with_reducible refine Below.alloc ?_ ?_ _); rotate_left; exact (by (try simp only [World.size_alloc, Xk.exw_size, World.size_setCell, World.size_drew, World.heap_drewN]); omega)) | ((with_reducible refine Xk.below_exw ?_ ?_ _); rotate_left; exact (by (try simp only [World.size_alloc, Xk.exw_size, World.size_setCell, World.size_drew, World.heap_drewN]); omega)) | (with_reducible refine Below.drew ?_)))).mono ?_); rintro e w' ⟨x, rfl, hx, hb⟩; have hx2 := hx.now.parts; obtain ⟨px, cx, rfl, hx3⟩ := hx2; obtain ⟨p, rfl⟩ := Xk.exw_of hb; clear hb; obtain ⟨b1, o1, rfl, d1⟩ := hx3 0 _ H0.out; rw [Nat.add_zero] at d1; have l1 := World.block_lt_of_cell? _ _ d1; rw [H2.out]; clear hx hx3) | (go_at_call 59; (with_reducible refine (HA.out _).mono ?_); rintro e w' ⟨rfl, hb⟩; obtain ⟨p, rfl⟩ := Xk.exw_of hb; clear hb))
    go_region
    all_goals
      go_wp2
      refine bodyPost_ret (v := .tuple #[.agg #[.slice none 0 0, .slice none 0 0, .int .i64 n], .bool true]) (by simp [results, Tryz.results31, go_sem]) rfl ⟨(by repeat (first | with_reducible exact Below.refl _ _ | ((with_reducible refine Below.setCell ?_ ?_ _); rotate_left; exact (by (try simp only [World.size_alloc, Xk.exw_size, World.size_setCell, World.size_drew, World.heap_drewN]); omega)) | ((with_reducible refine Below.alloc ?_ ?_ _); rotate_left; exact (by (try simp only [World.size_alloc, Xk.exw_size, World.size_setCell, World.size_drew, World.heap_drewN]); omega)) | ((with_reducible refine Xk.below_exw ?_ ?_ _); rotate_left; exact (by (try simp only [World.size_alloc, Xk.exw_size, World.size_setCell, World.size_drew, World.heap_drewN]); omega)) | (with_reducible refine Below.drew ?_))), ?_⟩
      rw [HG2.out]
      exact ⟨_, _, rfl, fun W _ _ => nil_ans W⟩
  · have hn : ∀ n, Lib.atoiAll x ≠ .ok n := fun n h => hok ⟨n, h⟩
    have HA := Lib.hid fun W (hx : Xk.Ext w W) => atoi_err x hn (by omega) W (HE.out.ext hx)
    have HG2 := Lib.hid (hg2 hn)
    clear hn hg1 hg2 hok
    go_wp2_with (first | (go_at_call 58; (with_reducible refine (HSp.out _ (by repeat (first | with_reducible exact Below.refl _ _ | ((with_reducible refine Below.setCell ?_ ?_ _); rotate_left; exact (by (try simp only [World.size_alloc, Xk.exw_size, World.size_setCell, World.size_drew, World.heap_drewN]); omega)) | ((with_reducible refine Below.alloc ?_ ?_ _); rotate_left; exact (by (try simp only [World.size_alloc, Xk.exw_size, World.size_setCell, World.size_drew, World.heap_drewN]); omega)) | ((with_reducible refine Xk.below_exw ?_ ?_ _); rotate_left; exact (by (try simp only [World.size_alloc, Xk.exw_size, World.size_setCell, World.size_drew, World.heap_drewN]); omega)) | (with_reducible refine Below.drew ?_)))).mono ?_); rintro e w' ⟨x, rfl, hx, hb⟩; have hx2 := hx.now.parts; obtain ⟨px, cx, rfl, hx3⟩ := hx2; obtain ⟨p, rfl⟩ := Xk.exw_of hb; clear hb; obtain ⟨b1, o1, rfl, d1⟩ := hx3 0 _ H0.out; rw [Nat.add_zero] at d1; have l1 := World.block_lt_of_cell? _ _ d1; rw [H2.out]; clear hx hx3) | (go_at_call 59; (with_reducible refine (HA.out _ (by repeat (first | with_reducible exact Below.refl _ _ | ((with_reducible refine Below.setCell ?_ ?_ _); rotate_left; exact (by (try simp only [World.size_alloc, Xk.exw_size, World.size_setCell, World.size_drew, World.heap_drewN]); omega)) | ((with_reducible refine Below.alloc ?_ ?_ _); rotate_left; exact (by (try simp only [World.size_alloc, Xk.exw_size, World.size_setCell, World.size_drew, World.heap_drewN]); omega)) | ((with_reducible refine Xk.below_exw ?_ ?_ _); rotate_left; exact (by (try simp only [World.size_alloc, Xk.exw_size, World.size_setCell, World.size_drew, World.heap_drewN]); omega)) | (with_reducible refine Below.drew ?_)))).mono ?_); rintro e w' ⟨n, tp, ad, rfl, hb⟩; obtain ⟨p, rfl⟩ := Xk.exw_of hb; clear hb))
    go_region
    all_goals
      go_wp2
      refine bodyPost_ret (v := .tuple #[.agg #[.slice none 0 0, .slice none 0 0, .int .i64 n], .bool false]) (by simp [results, Tryz.results31, go_sem]) rfl ⟨(by repeat (first | with_reducible exact Below.refl _ _ | ((with_reducible refine Below.setCell ?_ ?_ _); rotate_left; exact (by (try simp only [World.size_alloc, Xk.exw_size, World.size_setCell, World.size_drew, World.heap_drewN]); omega)) | ((with_reducible refine Below.alloc ?_ ?_ _); rotate_left; exact (by (try simp only [World.size_alloc, Xk.exw_size, World.size_setCell, World.size_drew, World.heap_drewN]); omega)) | ((with_reducible refine Xk.below_exw ?_ ?_ _); rotate_left; exact (by (try simp only [World.size_alloc, Xk.exw_size, World.size_setCell, World.size_drew, World.heap_drewN]); omega)) | (with_reducible refine Below.drew ?_))), ?_⟩
      rw [HG2.out]
      exact ⟨_, _, _, _, _, _, _, rfl⟩
set_option maxRecDepth 100000 in
set_option maxHeartbeats 4000000 in
theorem guess_one (s : List UInt8) (w : World) (hE : EnvR w) (hs : s.length ≤ 2000000000) (h2 : (linesOf s).length < 2) :
    Calls Tryz.prog 31 #[.string ⟨s.toArray⟩] w (GuessPost w (guess s)) := by
  have HSp := Lib.hid fun W (hx : Xk.Ext w W) => split_any s [10] (by omega) (by decide) W (hE.env.ext hx)
  have HG2 : Hid (guess s = none) := Lib.hid (by unfold guess; rw [if_neg (by omega), if_pos (by omega)])
  unfold linesOf at h2
  generalize hL : Lib.split s [10] = L at h2 HSp
  clear hE hL
  have h2a : ((L.length : Int) == 2) = false := (beq_eq_false_iff_ne).2 (by omega)
  have h2b : (L.length == 2) = false := (beq_eq_false_iff_ne).2 (by omega)
  have h2c : (L.length : Int) < 3 := by omega
  go_enter Tryz.func31, Tryz.ntmps31
  go_wp2_with (first | (go_at_call 58; (with_reducible refine (HSp.out _ (by repeat (first | with_reducible exact Below.refl _ _ | ((with_reducible refine Below.setCell ?_ ?_ _); rotate_left; exact (by (try simp only [World.size_alloc, Xk.exw_size, World.size_setCell, World.size_drew, World.heap_drewN]); omega)) | ((with_reducible refine Below.alloc ?_ ?_ _); rotate_left; exact (by (try simp only [World.size_alloc, Xk.exw_size, World.size_setCell, World.size_drew, World.heap_drewN]); omega)) | ((with_reducible refine Xk.below_exw ?_ ?_ _); rotate_left; exact (by (try simp only [World.size_alloc, Xk.exw_size, World.size_setCell, World.size_drew, World.heap_drewN]); omega)) | (with_reducible refine Below.drew ?_)))).mono ?_); rintro e w' ⟨x, rfl, hx, hb⟩; obtain ⟨p, rfl⟩ := Xk.exw_of hb; clear hb; have hx2 := hx.now; obtain ⟨px, cx, rfl, -⟩ := hx2; (try rw [Xk.exw_exw] at hx); have HX := Lib.hid hx; clear hx))
  refine bodyPost_ret (v := .tuple #[.agg #[.slice none 0 0, .slice none 0 0, .int .i64 0], .bool false]) (by simp [results, Tryz.results31, go_sem]) rfl ⟨(by repeat (first | with_reducible exact Below.refl _ _ | ((with_reducible refine Below.setCell ?_ ?_ _); rotate_left; exact (by (try simp only [World.size_alloc, Xk.exw_size, World.size_setCell, World.size_drew, World.heap_drewN]); omega)) | ((with_reducible refine Below.alloc ?_ ?_ _); rotate_left; exact (by (try simp only [World.size_alloc, Xk.exw_size, World.size_setCell, World.size_drew, World.heap_drewN]); omega)) | ((with_reducible refine Xk.below_exw ?_ ?_ _); rotate_left; exact (by (try simp only [World.size_alloc, Xk.exw_size, World.size_setCell, World.size_drew, World.heap_drewN]); omega)) | (with_reducible refine Below.drew ?_))), ?_⟩
  rw [HG2.out]
  exact ⟨_, _, _, _, _, _, _, rfl⟩
end Go.Proofs.YtmoippbmnanajaaGreatDoor
