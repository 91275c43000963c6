/- Walks: right, may, Or, Compare of both packages. -/
import Derived.Test.YtmoippbmnanajaaGreatDoorA
import Derived.Test.YtmoippbmnanajaaGreatDoorK
set_option linter.unusedSimpArgs false
set_option linter.unusedVariables false
namespace Go.Proofs.YtmoippbmnanajaaGreatDoor
open Go.RowKit

/-- An api.Value as the machine has it. -/
@[reducible] def vv (k i : Int) (s : ByteArray) : Value := .agg #[.int .i64 k, .int .i64 i, .string s]
def rk (k i : Int) (s : ByteArray) : Int := if P6.isV k i s.data.toList then k else 0
def ri (k i : Int) (s : ByteArray) : Int := if P6.isV k i s.data.toList then i else 0
def rs (k i : Int) (s : ByteArray) : ByteArray := if P6.isV k i s.data.toList then s else ⟨#[]⟩

set_option maxRecDepth 100000 in
theorem right_any (k i : Int) (s : ByteArray) (w : World) :
    Calls Tryz.prog 98 #[vv k i s] w fun e w' => e = .returned (vv (rk k i s) (ri k i s) (rs k i s)) ∧ Below w.heap.size w w' := by
  cases hi : P6.isV k i s.data.toList
  · have h' := is_any k i s
    have hv : vv (rk k i s) (ri k i s) (rs k i s) = vv 0 0 ⟨#[]⟩ := by simp [rk, ri, rs, hi]
    rw [hv]
    rw [hi] at h'
    have H' := Lib.hid h'
    clear hi h' hv
    go_enter Tryz.func98, Tryz.ntmps98
    go_wp2_with (go_at_call 49; (with_reducible refine (H'.out _).mono ?_); rintro e w' ⟨rfl, hb⟩; obtain ⟨p, rfl⟩ := Xk.exw_of hb; clear hb)
    refine bodyPost_ret (v := vv 0 0 ⟨#[]⟩) (by simp [results, Tryz.results98, go_sem]) rfl ⟨rfl, ?_⟩
    exact (by repeat (first | with_reducible exact Below.refl _ _ | ((with_reducible refine Below.setCell ?_ ?_ _); rotate_left; exact (by (try simp only [World.size_alloc, Xk.exw_size, World.size_setCell, World.size_drew, World.heap_drewN]); omega)) | ((with_reducible refine Below.alloc ?_ ?_ _); rotate_left; exact (by (try simp only [World.size_alloc, Xk.exw_size, World.size_setCell, World.size_drew, World.heap_drewN]); omega)) | ((with_reducible refine Xk.below_exw ?_ ?_ _); rotate_left; exact (by (try simp only [World.size_alloc, Xk.exw_size, World.size_setCell, World.size_drew, World.heap_drewN]); omega)) | (with_reducible refine Below.drew ?_)))
  · have h' := is_any k i s
    have hv : vv (rk k i s) (ri k i s) (rs k i s) = vv k i s := by simp [rk, ri, rs, hi]
    rw [hv]
    rw [hi] at h'
    have H' := Lib.hid h'
    clear hi h' hv
    go_enter Tryz.func98, Tryz.ntmps98
    go_wp2_with (go_at_call 49; (with_reducible refine (H'.out _).mono ?_); rintro e w' ⟨rfl, hb⟩; obtain ⟨p, rfl⟩ := Xk.exw_of hb; clear hb)
    refine bodyPost_ret (v := vv k i s) (by simp [results, Tryz.results98, go_sem]) rfl ⟨rfl, ?_⟩
    exact (by repeat (first | with_reducible exact Below.refl _ _ | ((with_reducible refine Below.setCell ?_ ?_ _); rotate_left; exact (by (try simp only [World.size_alloc, Xk.exw_size, World.size_setCell, World.size_drew, World.heap_drewN]); omega)) | ((with_reducible refine Below.alloc ?_ ?_ _); rotate_left; exact (by (try simp only [World.size_alloc, Xk.exw_size, World.size_setCell, World.size_drew, World.heap_drewN]); omega)) | ((with_reducible refine Xk.below_exw ?_ ?_ _); rotate_left; exact (by (try simp only [World.size_alloc, Xk.exw_size, World.size_setCell, World.size_drew, World.heap_drewN]); omega)) | (with_reducible refine Below.drew ?_)))

set_option maxRecDepth 100000 in
theorem or_any (xs : List Int) (b off cap : Nat) (w : World) (hl : xs.length ≤ 1000) (hc : ∀ i, i < xs.length → w.cell? ⟨b, off + i, none⟩ = some (.int .i64 (xs.getD i 0))) :
    Calls Tryz.prog 99 #[.slice (some ⟨b, off, none⟩) xs.length cap] w fun e w' => e = .returned (.int .i64 (P6.orInt xs)) ∧ w = w' := by
  go_enter Tryz.func99, Tryz.ntmps99
  go_wp2
  go_loop [8] (fun i => ∃ k : Nat, k ≤ xs.length ∧ i = .int .i64 k ∧ ∀ j, j < k → xs.getD j 0 = 0) (fun i => xs.length - (intOf i).toNat)
  case atStart => exact ⟨0, Nat.zero_le _, rfl, fun j hj => by omega⟩
  case round =>
    obtain ⟨k, hk, rfl, hz⟩ := hrel
    have Hz := Lib.hid hz
    clear hz
    by_cases hlt : k < xs.length
    · have hck := hc k hlt
      clear hc
      by_cases h0 : xs.getD k 0 = 0
      · rw [h0] at hck
        have H0 := Lib.hid h0
        clear h0
        go_wp2
        all_goals
          go_round
          case rel => exact ⟨k + 1, by omega, by go_num, fun j hj => by
            by_cases hjk : j = k
            · subst hjk; exact H0.out
            · exact Hz.out j (by omega)⟩
          case measure => simp [intOf]; omega
      · have Hv := Lib.hid (P6.orInt_at xs k Hz.out hlt h0)
        generalize xs.getD k 0 = v at *
        have hb : (v != 0) = true := by simpa using h0
        go_wp2
        go_ret
        exact ⟨by rw [Hv.out]; rfl, rfl⟩
    · have Hv := Lib.hid (P6.orInt_end xs fun j hj => Hz.out j (by omega))
      clear hc
      go_wp2
      go_ret
      exact ⟨by rw [Hv.out]; rfl, rfl⟩

theorem or3_any (x y z : Int) (b cap : Nat) (w : World) (h0 : w.cell? ⟨b, 0, none⟩ = some (.int .i64 x)) (h1 : w.cell? ⟨b, 1, none⟩ = some (.int .i64 y)) (h2 : w.cell? ⟨b, 2, none⟩ = some (.int .i64 z)) :
    Calls Tryz.prog 99 #[.slice (some ⟨b, 0, none⟩) 3 cap] w fun e w' => e = .returned (.int .i64 (P6.orInt [x, y, z])) ∧ w = w' :=
  or_any [x, y, z] b 0 cap w (by simp) fun i hi => match i, hi with
    | 0, _ => h0
    | 1, _ => h1
    | 2, _ => h2

def cmpV (k i : Int) (s : ByteArray) (k' i' : Int) (s' : ByteArray) : Int :=
  P6.orInt [P6.cmpInt (rk k i s) (rk k' i' s'), P6.cmpInt (ri k i s) (ri k' i' s'), P6.cmpStr (rs k i s).toList (rs k' i' s').toList]

set_option maxRecDepth 100000 in
theorem compare_any (k i : Int) (s : ByteArray) (k' i' : Int) (s' : ByteArray) (w : World) :
    Calls Tryz.prog 72 #[vv k i s, vv k' i' s'] w fun e w' => e = .returned (.int .i64 (cmpV k i s k' i' s')) ∧ Below w.heap.size w w' := by
  obtain ⟨a, b, c, a', b', c', hr, hr', hc⟩ : ∃ a b c a' b' c', Hid (∀ w, Calls Tryz.prog 98 #[vv k i s] w fun e w' => e = .returned (vv a b c) ∧ Below w.heap.size w w') ∧
      Hid (∀ w, Calls Tryz.prog 98 #[vv k' i' s'] w fun e w' => e = .returned (vv a' b' c') ∧ Below w.heap.size w w') ∧
      Hid (cmpV k i s k' i' s' = P6.orInt [P6.cmpInt a a', P6.cmpInt b b', P6.cmpStr c.toList c'.toList]) := ⟨_, _, _, _, _, _, right_any k i s, right_any k' i' s', rfl⟩
  go_enter Tryz.func72, Tryz.ntmps72
  go_wp2_with fail
  refine Xk.wp_region_rel' 4 [] trivial (by kernel_rfl) (by kernel_rfl) ?_
  simp only [List.take_succ_cons, List.take_zero, List.drop_succ_cons, List.drop_zero]
  repeat (first
    | (refine Xk.rel_skip (by rfl) (fun K hK => ?_); go_simp; refine hK _ ?_; clear hK K)
    | (refine Xk.rel_det (by rfl) (by rfl) (fun K hK => ?_); apply Exists.intro; refine ⟨fun p hp => ?_, ?_⟩; (go_simp; first | exact ⟨rfl, rfl⟩ | ((try refine ⟨by kernel_rfl, ?_⟩); (first | ((with_reducible refine (hr.out _).mono ?_); exact fun e w' h => h) | ((with_reducible refine (hr'.out _).mono ?_); exact fun e w' h => h)))); (go_simp; refine hK _ ?_; clear hK K)))
  refine Xk.rel_nil (fun p _ => ?_)
  go_wp2_with fail
  refine Xk.wp_region_rel' 15 [] trivial (by kernel_rfl) (by kernel_rfl) ?_
  simp only [List.take_succ_cons, List.take_zero, List.drop_succ_cons, List.drop_zero]
  repeat (first
    | (refine Xk.rel_skip (by rfl) (fun K hK => ?_); go_simp; refine hK _ ?_; clear hK K)
    | (refine Xk.rel_det (by rfl) (by rfl) (fun K hK => ?_); apply Exists.intro; refine ⟨fun p hp => ?_, ?_⟩; (go_simp; first | exact ⟨rfl, rfl⟩ | ((try refine ⟨by kernel_rfl, ?_⟩); (first | (go_at_call 73; ((with_reducible refine (compare_int _ _ _).mono ?_); exact fun e w' h => ⟨h.1, by rw [← h.2]; exact Below.refl _ _⟩)) | (go_at_call 100; ((with_reducible refine (compare_int64 _ _ _).mono ?_); exact fun e w' h => ⟨h.1, by rw [← h.2]; exact Below.refl _ _⟩)) | (go_at_call 101; ((with_reducible refine (compare_string _ _ _).mono ?_); exact fun e w' h => ⟨h.1, by rw [← h.2]; exact Below.refl _ _⟩))))); (go_simp; refine hK _ ?_; clear hK K)))
  refine Xk.rel_nil (fun p _ => ?_)
  go_wp2_with (go_at_call 99; refine (or3_any (P6.cmpInt a a') (P6.cmpInt b b') (P6.cmpStr c.toList c'.toList) _ _ _ ?_ ?_ ?_).mono ?_; go_simp; go_simp; go_simp; rintro e w' ⟨rfl, rfl⟩)
  go_ret
  exact ⟨by rw [hc.out]; rfl, (by repeat (first | with_reducible exact Below.refl _ _ | ((with_reducible refine Below.setCell ?_ ?_ _); rotate_left; exact (by (try simp only [World.size_alloc, Xk.exw_size, World.size_setCell, World.size_drew, World.heap_drewN]); omega)) | ((with_reducible refine Below.alloc ?_ ?_ _); rotate_left; exact (by (try simp only [World.size_alloc, Xk.exw_size, World.size_setCell, World.size_drew, World.heap_drewN]); omega)) | ((with_reducible refine Xk.below_exw ?_ ?_ _); rotate_left; exact (by (try simp only [World.size_alloc, Xk.exw_size, World.size_setCell, World.size_drew, World.heap_drewN]); omega)) | (with_reducible refine Below.drew ?_)))⟩
end Go.Proofs.YtmoippbmnanajaaGreatDoor
