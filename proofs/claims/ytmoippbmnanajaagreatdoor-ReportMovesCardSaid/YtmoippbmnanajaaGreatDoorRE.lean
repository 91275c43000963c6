/- Walks: report.line. -/
import Derived.Test.YtmoippbmnanajaaGreatDoorRD
set_option linter.unusedSimpArgs false
set_option linter.unusedVariables false
namespace Go.Proofs.YtmoippbmnanajaaGreatDoor
open Go.RowKit
theorem repeat_one (c : UInt8) (n : Nat) : Lib.repeatL [c] n = List.replicate n c := by
  have := Lib.repeatL_replicate c 1 n
  simpa using this
theorem repeat_any (c : UInt8) (n : Nat) (hn : n ≤ 140737488355328) (w : World) :
    Calls Tryz.prog 24 #[.string ⟨#[c]⟩, .int .i64 n] w fun e w' => e = .returned (.string ⟨(List.replicate n c).toArray⟩) ∧ Below w.heap.size w w' := by
  have := Tryz.strings_Repeat ⟨#[c]⟩ n w (by omega) (by show 1 * n ≤ _; omega)
  rwa [show Lib.repeatL (⟨#[c]⟩ : ByteArray).data.toList n = List.replicate n c from repeat_one c n] at this
theorem take_snocL {α : Type} {l : List α} {i : Nat} {x : α} (h : l[i]? = some x) : l.take (i + 1) = l.take i ++ [x] := by rw [List.take_add_one, h]; rfl
theorem str_app (a b : List UInt8) : ((⟨a.toArray⟩ : ByteArray) ++ ⟨b.toArray⟩) = ⟨(a ++ b).toArray⟩ := by
  apply bytes_ext
  simp
theorem join_any (v : Value) (l : List (List UInt8)) (sep : List UInt8) (w : World) (h : StrsAt w v l) (hn : l.length ≤ 1000000) (hj : (Lib.join l sep).length ≤ 140737488355328) :
    Calls Tryz.prog 26 #[v, .string ⟨sep.toArray⟩] w fun e w' => e = .returned (.string ⟨(Lib.join l sep).toArray⟩) ∧ Below w.heap.size w w' := by
  obtain ⟨pa, cap, rfl, hcap, hl⟩ := h
  cases l with
  | nil => exact (Tryz.strings_Join_none pa cap _ w).mono fun e w' ⟨he, hw⟩ => ⟨he, by rw [hw]; exact Below.refl _ _⟩
  | cons x l =>
    obtain ⟨b, off, rfl, h0⟩ := hl 0 x rfl
    have hm : ((x :: l).map fun y => (⟨y.toArray⟩ : ByteArray)).map (·.data.toList) = x :: l := by
      rw [List.map_map]
      exact (List.map_congr_left (fun y _ => by simp)).trans (List.map_id _)
    have hJ := Tryz.strings_Join b off cap ((x :: l).map fun y => ⟨y.toArray⟩) ⟨sep.toArray⟩ w (fun j y hj => by
      rw [List.getElem?_map, Option.map_eq_some_iff] at hj
      obtain ⟨z, hz, rfl⟩ := hj
      obtain ⟨b', off', e, h1⟩ := hl j z hz
      cases e
      rw [Nat.mul_one] at h1
      exact h1) (World.block_lt_of_cell? _ _ h0) (by rw [List.length_map]; omega) (by rw [List.length_map]; exact hcap) (by rw [hm]; exact hj)
    rw [hm, List.length_map] at hJ
    exact hJ
set_option maxRecDepth 100000 in
set_option maxHeartbeats 4000000 in
theorem line_any (vc vl : Value) (cs : List (Nat × Bool)) (l : List (List UInt8)) (M : Nat) (w : World) (hc : ColsAt w vc cs) (hl : StrsAt w vl l) (hn : cs.length = l.length) (hn1 : cs.length ≤ 100000)
    (hM : ∀ (i : Nat) (c : Nat × Bool) (t : List UInt8), cs[i]? = some c → l[i]? = some t → t.length ≤ c.1 ∧ c.1 ≤ M) (hm : M ≤ 4000000000) (hmn : cs.length * (M + 3) ≤ 140737488355328) :
    Calls Tryz.prog 25 #[vc, vl] w fun e w' => e = .returned (.string ⟨(P25.line cs l).toArray⟩) ∧ Below w.heap.size w w' := by
  obtain ⟨pc, cc, rfl, hc'⟩ := hc.parts
  obtain ⟨pl, cl, rfl, hl'⟩ := hl.parts
  have HC := Lib.hid hc'
  have HL := Lib.hid hl'
  have HM := Lib.hid hM
  have HN := Lib.hid hn
  have hjl := P25.join_length P25.bar M (P25.pads cs l) (P25.pads_most hn hM)
  rw [P25.pads_length hn] at hjl
  have hjl : (Lib.join (P25.pads cs l) P25.bar).length ≤ 140737488355328 := Nat.le_trans hjl hmn
  have HJ := Lib.hid hjl
  obtain ⟨i0, hi, hz0, hz1, hz2⟩ := info_parts Tryz.infoStr
  have Hi := Lib.hid hi
  have Hz0 := Lib.hid hz0
  have Hz1 := Lib.hid hz1
  have Hz2 := Lib.hid hz2
  rw [← hn]
  clear hi hz0 hz1 hz2 hc hl hc' hl' hM hn hjl hmn
  go_enter Tryz.func25, Tryz.ntmps25
  go_wp2
  go_loopw [5, 11] (fun v x wr => ∃ q : Nat, q ≤ cs.length ∧ x = .int .i64 q ∧ Below w.heap.size w wr ∧ wr.ownsRow w.heap.size 9 1 v q (scells ((P25.pads cs l).take q))) (fun _ x _ => cs.length - (intOf x).toNat)
  case atStart => exact ⟨0, by omega, rfl, (by repeat (first | with_reducible exact Below.refl _ _ | ((with_reducible refine Below.setCell ?_ ?_ _); rotate_left; exact (by (try simp only [World.size_alloc, Xk.exw_size, World.size_setCell, World.size_drew, World.heap_drewN]); omega)) | ((with_reducible refine Below.alloc ?_ ?_ _); rotate_left; exact (by (try simp only [World.size_alloc, Xk.exw_size, World.size_setCell, World.size_drew, World.heap_drewN]); omega)) | ((with_reducible refine Xk.below_exw ?_ ?_ _); rotate_left; exact (by (try simp only [World.size_alloc, Xk.exw_size, World.size_setCell, World.size_drew, World.heap_drewN]); omega)) | (with_reducible refine Below.drew ?_))), World.ownsRow_nil _ _ _ _⟩
  case round =>
    obtain ⟨q, hq, rfl, hbw, ho⟩ := hrel
    have HB := Lib.hid hbw
    have HO := Lib.hid ho
    have hsz := hbw.size
    clear hbw ho
    by_cases hlt : q < cs.length
    · have hx : cs[q]? = some cs[q] := by simp [hlt]
      have ht : l[q]? = some (l[q]'(by have := HN.out; omega)) := List.getElem?_eq_getElem _
      generalize cs[q] = c at hx
      generalize l[q]'(by have := HN.out; omega) = t at ht
      obtain ⟨ht1, ht2⟩ := HM.out q c t hx ht
      obtain ⟨b, off, rfl, d1, d2⟩ := HC.out q c hx
      obtain ⟨b', off', rfl, d3⟩ := HL.out q t ht
      have d1 := Xk.ext_cell HB.out d1
      have d2 := Xk.ext_cell HB.out d2
      have d3 := Xk.ext_cell HB.out d3
      have l1 := World.block_lt_of_cell? _ _ d1
      have l3 := World.block_lt_of_cell? _ _ d3
      have Hp := Lib.hid (P25.pads_take hx ht)
      have hR : ∀ W, Calls Tryz.prog 24 #[.string ⟨#[32]⟩, .int .i64 ((c.1 : Int) - (t.length : Int))] W fun e w' => e = .returned (.string ⟨(List.replicate (c.1 - t.length) 32).toArray⟩) ∧ Below W.heap.size W w' := fun W => by
        have := repeat_any 32 (c.1 - t.length) (by omega) W
        rwa [show ((c.1 - t.length : Nat) : Int) = (c.1 : Int) - (t.length : Int) by omega] at this
      have HR := Lib.hid hR
      have hwr : IntKind.i64.wrap ((c.1 : Int) - (t.length : Int)) = (c.1 : Int) - (t.length : Int) := IntWalk.i64_in _ (by omega)
      have hqb : (q : Int) < (cs.length : Int) := by omega
      obtain ⟨cw, ca⟩ := c
      dsimp only at d1 d2 ht1 ht2 hR HR hwr
      clear hR hx ht
      have hlen : (List.replicate (cw - t.length) (32 : UInt8)).length = cw - t.length := by simp
      cases ca
      · have Hp : Hid ((P25.pads cs l).take (q + 1) = (P25.pads cs l).take q ++ [t ++ List.replicate (cw - t.length) 32]) := Hp
        generalize List.replicate (cw - t.length) (32 : UInt8) = f at HR Hp hlen
        go_wp2
        refine Xk.wp_region_rel' 10 [] trivial (by kernel_rfl) (by kernel_rfl) ?_
        simp only [List.take_succ_cons, List.take_zero, List.drop_succ_cons, List.drop_zero]
        repeat (first
          | (refine Xk.rel_det (Xk.wanted_none (by rfl)) (by rfl) (fun K hK => ?_); apply Exists.intro; refine ⟨fun p hp => ?_, ?_⟩; (go_simp; first | exact ⟨rfl, rfl⟩ | ((try refine ⟨by kernel_rfl, ?_⟩); (first | (go_at_call 24; ((with_reducible refine (HR.out _).mono ?_); exact fun e w' h => h))))); (go_simp; refine hK _ ?_; clear hK K))
          | (refine Xk.rel_skip (by rfl) (fun K hK => ?_); go_simp; refine hK _ ?_; clear hK K)
          | (refine Xk.rel_det (by rfl) (by rfl) (fun K hK => ?_); apply Exists.intro; refine ⟨fun p hp => ?_, ?_⟩; (go_simp; first | exact ⟨rfl, rfl⟩ | ((try refine ⟨by kernel_rfl, ?_⟩); (first | (go_at_call 24; ((with_reducible refine (HR.out _).mono ?_); exact fun e w' h => h))))); (go_simp; refine hK _ ?_; clear hK K)))
        refine Xk.rel_nil (fun p _ => ?_)
        clear hwr
        go_wp2_with (first | (at_builtin; refine Xo.wpList_app (w0 := w) rfl _ _ 22 rfl 9 i0 _ 1 16 Tryz.underlying22 Hi.out Hz0.out Hz1.out Hz2.out rfl (by decide) u5 q (scells ((P25.pads cs l).take q)) rfl (by repeat (first | with_reducible exact HO.out | with_reducible refine Xo.own_alloc ?_ _ | with_reducible refine Xo.own_drew ?_ | with_reducible refine Xo.own_exw ?_ _)) _ 0 1 1 [_] rfl rfl (Xo.cells1 (by simp)) (Xo.one1 rfl) (by omega) (by repeat (first | with_reducible exact HB.out | with_reducible exact Below.refl _ _ | ((with_reducible refine Below.setCell ?_ ?_ _); rotate_left; exact (by (try simp only [World.size_alloc, Xk.exw_size, World.size_setCell, World.size_drew, World.heap_drewN]); omega)) | ((with_reducible refine Below.alloc ?_ ?_ _); rotate_left; exact (by (try simp only [World.size_alloc, Xk.exw_size, World.size_setCell, World.size_drew, World.heap_drewN]); omega)) | ((with_reducible refine Xk.below_exw ?_ ?_ _); rotate_left; exact (by (try simp only [World.size_alloc, Xk.exw_size, World.size_setCell, World.size_drew, World.heap_drewN]); omega)) | (with_reducible refine Below.drew ?_))) ?_; intro v' w' ho' hg' hb'; have HO' := Lib.hid ho'; have HB' := Lib.hid hb'; clear ho' hg' hb'))
        go_roundw
        case rel => exact ⟨q + 1, by omega, by go_num, HB'.out, by
          have h1 := HO'.out
          rw [str_app, scells_snoc, ← Hp.out] at h1
          exact h1⟩
        case measure => simp [intOf]; omega
      · have Hp : Hid ((P25.pads cs l).take (q + 1) = (P25.pads cs l).take q ++ [List.replicate (cw - t.length) 32 ++ t]) := Hp
        generalize List.replicate (cw - t.length) (32 : UInt8) = f at HR Hp hlen
        go_wp2
        refine Xk.wp_region_rel' 10 [] trivial (by kernel_rfl) (by kernel_rfl) ?_
        simp only [List.take_succ_cons, List.take_zero, List.drop_succ_cons, List.drop_zero]
        repeat (first
          | (refine Xk.rel_det (Xk.wanted_none (by rfl)) (by rfl) (fun K hK => ?_); apply Exists.intro; refine ⟨fun p hp => ?_, ?_⟩; (go_simp; first | exact ⟨rfl, rfl⟩ | ((try refine ⟨by kernel_rfl, ?_⟩); (first | (go_at_call 24; ((with_reducible refine (HR.out _).mono ?_); exact fun e w' h => h))))); (go_simp; refine hK _ ?_; clear hK K))
          | (refine Xk.rel_skip (by rfl) (fun K hK => ?_); go_simp; refine hK _ ?_; clear hK K)
          | (refine Xk.rel_det (by rfl) (by rfl) (fun K hK => ?_); apply Exists.intro; refine ⟨fun p hp => ?_, ?_⟩; (go_simp; first | exact ⟨rfl, rfl⟩ | ((try refine ⟨by kernel_rfl, ?_⟩); (first | (go_at_call 24; ((with_reducible refine (HR.out _).mono ?_); exact fun e w' h => h))))); (go_simp; refine hK _ ?_; clear hK K)))
        refine Xk.rel_nil (fun p _ => ?_)
        clear hwr
        go_wp2_with (first | (at_builtin; refine Xo.wpList_app (w0 := w) rfl _ _ 22 rfl 9 i0 _ 1 16 Tryz.underlying22 Hi.out Hz0.out Hz1.out Hz2.out rfl (by decide) u5 q (scells ((P25.pads cs l).take q)) rfl (by repeat (first | with_reducible exact HO.out | with_reducible refine Xo.own_alloc ?_ _ | with_reducible refine Xo.own_drew ?_ | with_reducible refine Xo.own_exw ?_ _)) _ 0 1 1 [_] rfl rfl (Xo.cells1 (by simp)) (Xo.one1 rfl) (by omega) (by repeat (first | with_reducible exact HB.out | with_reducible exact Below.refl _ _ | ((with_reducible refine Below.setCell ?_ ?_ _); rotate_left; exact (by (try simp only [World.size_alloc, Xk.exw_size, World.size_setCell, World.size_drew, World.heap_drewN]); omega)) | ((with_reducible refine Below.alloc ?_ ?_ _); rotate_left; exact (by (try simp only [World.size_alloc, Xk.exw_size, World.size_setCell, World.size_drew, World.heap_drewN]); omega)) | ((with_reducible refine Xk.below_exw ?_ ?_ _); rotate_left; exact (by (try simp only [World.size_alloc, Xk.exw_size, World.size_setCell, World.size_drew, World.heap_drewN]); omega)) | (with_reducible refine Below.drew ?_))) ?_; intro v' w' ho' hg' hb'; have HO' := Lib.hid ho'; have HB' := Lib.hid hb'; clear ho' hg' hb'))
        go_roundw
        case rel => exact ⟨q + 1, by omega, by go_num, HB'.out, by
          have h1 := HO'.out
          rw [str_app, scells_snoc, ← Hp.out] at h1
          exact h1⟩
        case measure => simp [intOf]; omega
    · obtain rfl : q = cs.length := by omega
      have HS : Hid (StrsAt wr u5 (P25.pads cs l)) := Lib.hid (by have h := StrsAt.own HO.out; rwa [List.take_of_length_le (by rw [P25.pads_length HN.out]; omega)] at h)
      have HJ2 := Lib.hid (join_any u5 (P25.pads cs l) P25.bar wr HS.out (by rw [P25.pads_length HN.out]; omega) HJ.out)
      have htl := P25.trimRight_length (Lib.join (P25.pads cs l) P25.bar) 32
      have HT := Lib.hid fun p => Tryz.strings_TrimRight_one ⟨(Lib.join (P25.pads cs l) P25.bar).toArray⟩ 32 (by decide) (Xk.exw wr p) (by have := HJ.out; show (Lib.join (P25.pads cs l) P25.bar).length ≤ _; omega)
      have hfin : ((⟨(Lib.trimRightB (Lib.join (P25.pads cs l) P25.bar) 32).toArray⟩ : ByteArray) ++ ⟨#[10]⟩) = ⟨(P25.line cs l).toArray⟩ := str_app _ _
      have hl1 : (Lib.trimRightB (Lib.join (P25.pads cs l) P25.bar) 32).length ≤ 140737488355328 := Nat.le_trans htl HJ.out
      have Hfin := Lib.hid hfin
      clear hfin htl
      unfold P25.bar at HJ2 HT HJ Hfin hl1
      go_wp2_with (first | (go_at_call 26; (with_reducible refine (HJ2.out).mono ?_); rintro e w' ⟨rfl, hb⟩; obtain ⟨p, rfl⟩ := Xk.exw_of hb; clear hb) | (go_at_call 57; (with_reducible refine (HT.out _).mono ?_); rintro e w' ⟨rfl, rfl⟩))
      go_ret
      exact ⟨congrArg (fun s => Ending.returned (.string s)) Hfin.out, (by repeat (first | with_reducible exact HB.out | with_reducible exact Below.refl _ _ | ((with_reducible refine Below.setCell ?_ ?_ _); rotate_left; exact (by (try simp only [World.size_alloc, Xk.exw_size, World.size_setCell, World.size_drew, World.heap_drewN]); omega)) | ((with_reducible refine Below.alloc ?_ ?_ _); rotate_left; exact (by (try simp only [World.size_alloc, Xk.exw_size, World.size_setCell, World.size_drew, World.heap_drewN]); omega)) | ((with_reducible refine Xk.below_exw ?_ ?_ _); rotate_left; exact (by (try simp only [World.size_alloc, Xk.exw_size, World.size_setCell, World.size_drew, World.heap_drewN]); omega)) | (with_reducible refine Below.drew ?_)))⟩
end Go.Proofs.YtmoippbmnanajaaGreatDoor
