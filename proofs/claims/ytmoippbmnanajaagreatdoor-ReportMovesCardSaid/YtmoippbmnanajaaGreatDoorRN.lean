/- Walks: report.literal, whole. -/
import Derived.Test.YtmoippbmnanajaaGreatDoorRM
set_option linter.unusedSimpArgs false
set_option linter.unusedVariables false
namespace Go.Proofs.YtmoippbmnanajaaGreatDoor
open Go.RowKit
set_option maxRecDepth 100000 in
set_option maxHeartbeats 4000000 in
theorem literal_null (w : World) (hE : EnvR w) : Calls Tryz.prog 94 #[.string ⟨#[78, 85, 76, 76]⟩] w (LitPost w [78, 85, 76, 76]) := by
  have HI : Hid (∀ W, Calls Tryz.prog 49 #[vv 0 0 ⟨#[]⟩] W fun e w' => e = .returned (.bool true) ∧ Below W.heap.size W w') := Lib.hid fun W => is_any 0 0 ⟨#[]⟩ W
  have HP : Hid (∀ W, Xk.Ext w W → Calls Tryz.prog 48 #[vv 0 0 ⟨#[]⟩] W fun e w' => e = .returned (.string ⟨#[78, 85, 76, 76]⟩) ∧ Below W.heap.size W w') := Lib.hid fun W hx => print_any 0 0 ⟨#[]⟩ (by decide) (by decide) W (hE.env.ext hx)
  have HCd : Hid (cand [78, 85, 76, 76] = some ⟨0, 0, ⟨#[]⟩⟩) := Lib.hid rfl
  have HOk : Hid (true = (isX ⟨0, 0, ⟨#[]⟩⟩ && (printX ⟨0, 0, ⟨#[]⟩⟩ == [78, 85, 76, 76]))) := Lib.hid (by kernel_rfl)
  clear hE
  go_enter Tryz.func94, Tryz.ntmps94
  go_wp2
  go_region_held3 (fun w' => w'.cell? ⟨w.heap.size + 1, 0, none⟩ = some (.int .i64 0) ∧ w'.cell? ⟨w.heap.size + 1, 1, none⟩ = some (.int .i64 0) ∧ w'.cell? ⟨w.heap.size + 1, 2, none⟩ = some (.string ⟨#[]⟩)) (((repeat' apply And.intro) <;> (go_simp))) (first | (go_at_call 49; (with_reducible refine (HI.out _).mono ?_); rintro e w' ⟨rfl, hb⟩; obtain ⟨p, rfl⟩ := Xk.exw_of hb; clear hb) | (go_at_call 48; (with_reducible refine (HP.out _ (by repeat (first | with_reducible exact Below.refl _ _ | ((with_reducible refine Below.setCell ?_ ?_ _); rotate_left; exact (by (try simp only [World.size_alloc, Xk.exw_size, World.size_setCell, World.size_drew, World.heap_drewN]); omega)) | ((with_reducible refine Below.alloc ?_ ?_ _); rotate_left; exact (by (try simp only [World.size_alloc, Xk.exw_size, World.size_setCell, World.size_drew, World.heap_drewN]); omega)) | ((with_reducible refine Xk.below_exw ?_ ?_ _); rotate_left; exact (by (try simp only [World.size_alloc, Xk.exw_size, World.size_setCell, World.size_drew, World.heap_drewN]); omega)) | (with_reducible refine Below.drew ?_)))).mono ?_); rintro e w' ⟨rfl, hb⟩; obtain ⟨p, rfl⟩ := Xk.exw_of hb; clear hb))
  go_wp2
  refine bodyPost_ret (v := .tuple #[vv 0 0 ⟨#[]⟩, .bool true]) (by simp [results, Tryz.results94, go_sem]) rfl ?_
  exact LitPost.of (x := ⟨0, 0, ⟨#[]⟩⟩) (by repeat (first | with_reducible exact Below.refl _ _ | ((with_reducible refine Below.setCell ?_ ?_ _); rotate_left; exact (by (try simp only [World.size_alloc, Xk.exw_size, World.size_setCell, World.size_drew, World.heap_drewN]); omega)) | ((with_reducible refine Below.alloc ?_ ?_ _); rotate_left; exact (by (try simp only [World.size_alloc, Xk.exw_size, World.size_setCell, World.size_drew, World.heap_drewN]); omega)) | ((with_reducible refine Xk.below_exw ?_ ?_ _); rotate_left; exact (by (try simp only [World.size_alloc, Xk.exw_size, World.size_setCell, World.size_drew, World.heap_drewN]); omega)) | (with_reducible refine Below.drew ?_))) HCd.out HOk.out
set_option maxRecDepth 100000 in
set_option maxHeartbeats 4000000 in
theorem literal_true (w : World) (hE : EnvR w) : Calls Tryz.prog 94 #[.string ⟨#[84, 82, 85, 69]⟩] w (LitPost w [84, 82, 85, 69]) := by
  have HI : Hid (∀ W, Calls Tryz.prog 49 #[vv 1 1 ⟨#[]⟩] W fun e w' => e = .returned (.bool true) ∧ Below W.heap.size W w') := Lib.hid fun W => is_any 1 1 ⟨#[]⟩ W
  have HP : Hid (∀ W, Xk.Ext w W → Calls Tryz.prog 48 #[vv 1 1 ⟨#[]⟩] W fun e w' => e = .returned (.string ⟨#[84, 82, 85, 69]⟩) ∧ Below W.heap.size W w') := Lib.hid fun W hx => print_any 1 1 ⟨#[]⟩ (by decide) (by decide) W (hE.env.ext hx)
  have HCd : Hid (cand [84, 82, 85, 69] = some ⟨1, 1, ⟨#[]⟩⟩) := Lib.hid rfl
  have HOk : Hid (true = (isX ⟨1, 1, ⟨#[]⟩⟩ && (printX ⟨1, 1, ⟨#[]⟩⟩ == [84, 82, 85, 69]))) := Lib.hid (by kernel_rfl)
  clear hE
  go_enter Tryz.func94, Tryz.ntmps94
  go_wp2
  go_region_held3 (fun w' => w'.cell? ⟨w.heap.size + 1, 0, none⟩ = some (.int .i64 1) ∧ w'.cell? ⟨w.heap.size + 1, 1, none⟩ = some (.int .i64 1) ∧ w'.cell? ⟨w.heap.size + 1, 2, none⟩ = some (.string ⟨#[]⟩)) (((repeat' apply And.intro) <;> (go_simp))) (first | (go_at_call 49; (with_reducible refine (HI.out _).mono ?_); rintro e w' ⟨rfl, hb⟩; obtain ⟨p, rfl⟩ := Xk.exw_of hb; clear hb) | (go_at_call 48; (with_reducible refine (HP.out _ (by repeat (first | with_reducible exact Below.refl _ _ | ((with_reducible refine Below.setCell ?_ ?_ _); rotate_left; exact (by (try simp only [World.size_alloc, Xk.exw_size, World.size_setCell, World.size_drew, World.heap_drewN]); omega)) | ((with_reducible refine Below.alloc ?_ ?_ _); rotate_left; exact (by (try simp only [World.size_alloc, Xk.exw_size, World.size_setCell, World.size_drew, World.heap_drewN]); omega)) | ((with_reducible refine Xk.below_exw ?_ ?_ _); rotate_left; exact (by (try simp only [World.size_alloc, Xk.exw_size, World.size_setCell, World.size_drew, World.heap_drewN]); omega)) | (with_reducible refine Below.drew ?_)))).mono ?_); rintro e w' ⟨rfl, hb⟩; obtain ⟨p, rfl⟩ := Xk.exw_of hb; clear hb))
  go_wp2
  refine bodyPost_ret (v := .tuple #[vv 1 1 ⟨#[]⟩, .bool true]) (by simp [results, Tryz.results94, go_sem]) rfl ?_
  exact LitPost.of (x := ⟨1, 1, ⟨#[]⟩⟩) (by repeat (first | with_reducible exact Below.refl _ _ | ((with_reducible refine Below.setCell ?_ ?_ _); rotate_left; exact (by (try simp only [World.size_alloc, Xk.exw_size, World.size_setCell, World.size_drew, World.heap_drewN]); omega)) | ((with_reducible refine Below.alloc ?_ ?_ _); rotate_left; exact (by (try simp only [World.size_alloc, Xk.exw_size, World.size_setCell, World.size_drew, World.heap_drewN]); omega)) | ((with_reducible refine Xk.below_exw ?_ ?_ _); rotate_left; exact (by (try simp only [World.size_alloc, Xk.exw_size, World.size_setCell, World.size_drew, World.heap_drewN]); omega)) | (with_reducible refine Below.drew ?_))) HCd.out HOk.out
set_option maxRecDepth 100000 in
set_option maxHeartbeats 4000000 in
theorem literal_false (w : World) (hE : EnvR w) : Calls Tryz.prog 94 #[.string ⟨#[70, 65, 76, 83, 69]⟩] w (LitPost w [70, 65, 76, 83, 69]) := by
  have HI : Hid (∀ W, Calls Tryz.prog 49 #[vv 1 0 ⟨#[]⟩] W fun e w' => e = .returned (.bool true) ∧ Below W.heap.size W w') := Lib.hid fun W => is_any 1 0 ⟨#[]⟩ W
  have HP : Hid (∀ W, Xk.Ext w W → Calls Tryz.prog 48 #[vv 1 0 ⟨#[]⟩] W fun e w' => e = .returned (.string ⟨#[70, 65, 76, 83, 69]⟩) ∧ Below W.heap.size W w') := Lib.hid fun W hx => print_any 1 0 ⟨#[]⟩ (by decide) (by decide) W (hE.env.ext hx)
  have HCd : Hid (cand [70, 65, 76, 83, 69] = some ⟨1, 0, ⟨#[]⟩⟩) := Lib.hid rfl
  have HOk : Hid (true = (isX ⟨1, 0, ⟨#[]⟩⟩ && (printX ⟨1, 0, ⟨#[]⟩⟩ == [70, 65, 76, 83, 69]))) := Lib.hid (by kernel_rfl)
  clear hE
  go_enter Tryz.func94, Tryz.ntmps94
  go_wp2
  go_region_held3 (fun w' => w'.cell? ⟨w.heap.size + 1, 0, none⟩ = some (.int .i64 1) ∧ w'.cell? ⟨w.heap.size + 1, 1, none⟩ = some (.int .i64 0) ∧ w'.cell? ⟨w.heap.size + 1, 2, none⟩ = some (.string ⟨#[]⟩)) (((repeat' apply And.intro) <;> (go_simp))) (first | (go_at_call 49; (with_reducible refine (HI.out _).mono ?_); rintro e w' ⟨rfl, hb⟩; obtain ⟨p, rfl⟩ := Xk.exw_of hb; clear hb) | (go_at_call 48; (with_reducible refine (HP.out _ (by repeat (first | with_reducible exact Below.refl _ _ | ((with_reducible refine Below.setCell ?_ ?_ _); rotate_left; exact (by (try simp only [World.size_alloc, Xk.exw_size, World.size_setCell, World.size_drew, World.heap_drewN]); omega)) | ((with_reducible refine Below.alloc ?_ ?_ _); rotate_left; exact (by (try simp only [World.size_alloc, Xk.exw_size, World.size_setCell, World.size_drew, World.heap_drewN]); omega)) | ((with_reducible refine Xk.below_exw ?_ ?_ _); rotate_left; exact (by (try simp only [World.size_alloc, Xk.exw_size, World.size_setCell, World.size_drew, World.heap_drewN]); omega)) | (with_reducible refine Below.drew ?_)))).mono ?_); rintro e w' ⟨rfl, hb⟩; obtain ⟨p, rfl⟩ := Xk.exw_of hb; clear hb))
  go_wp2
  refine bodyPost_ret (v := .tuple #[vv 1 0 ⟨#[]⟩, .bool true]) (by simp [results, Tryz.results94, go_sem]) rfl ?_
  exact LitPost.of (x := ⟨1, 0, ⟨#[]⟩⟩) (by repeat (first | with_reducible exact Below.refl _ _ | ((with_reducible refine Below.setCell ?_ ?_ _); rotate_left; exact (by (try simp only [World.size_alloc, Xk.exw_size, World.size_setCell, World.size_drew, World.heap_drewN]); omega)) | ((with_reducible refine Below.alloc ?_ ?_ _); rotate_left; exact (by (try simp only [World.size_alloc, Xk.exw_size, World.size_setCell, World.size_drew, World.heap_drewN]); omega)) | ((with_reducible refine Xk.below_exw ?_ ?_ _); rotate_left; exact (by (try simp only [World.size_alloc, Xk.exw_size, World.size_setCell, World.size_drew, World.heap_drewN]); omega)) | (with_reducible refine Below.drew ?_))) HCd.out HOk.out
set_option maxRecDepth 100000 in
set_option maxHeartbeats 4000000 in
theorem literal_short (t : List UInt8) (w : World)
    (h1 : (t == [78, 85, 76, 76]) = false) (h2 : (t == [84, 82, 85, 69]) = false) (h3 : (t == [70, 65, 76, 83, 69]) = false) (hp : Lib.hasPrefix t [39] = true) (hl : t.length < 2) : Calls Tryz.prog 94 #[.string ⟨t.toArray⟩] w (LitPost w t) := by
  have n1 : ¬ t = [78, 85, 76, 76] := by simpa using h1
  have n2 : ¬ t = [84, 82, 85, 69] := by simpa using h2
  have n3 : ¬ t = [70, 65, 76, 83, 69] := by simpa using h3
  have HPre : Hid (∀ W, Calls Tryz.prog 52 #[.string ⟨t.toArray⟩, .string ⟨#[39]⟩] W fun e w' => e = .returned (.bool true) ∧ W = w') := Lib.hid fun W => (Tryz.strings_HasPrefix ⟨t.toArray⟩ ⟨#[39]⟩ W).mono fun e w' ⟨a, b⟩ => ⟨by rw [a]; exact congrArg (fun x => Ending.returned (.bool x)) hp, b.symm⟩
  have HCd : Hid (cand t = none) := Lib.hid (by unfold cand; rw [if_neg n1, if_neg n2, if_neg n3, if_pos hp, if_pos hl])
  clear n1 n2 n3 hp
  go_enter Tryz.func94, Tryz.ntmps94
  go_wp2_with (first | (go_at_call 52; (with_reducible refine (HPre.out _).mono ?_); rintro e w' ⟨rfl, rfl⟩))
  refine bodyPost_ret (v := .tuple #[vv 0 0 ⟨#[]⟩, .bool false]) (by simp [results, Tryz.results94, go_sem]) rfl ?_
  exact LitPost.no (x := ⟨0, 0, ⟨#[]⟩⟩) (by repeat (first | with_reducible exact Below.refl _ _ | ((with_reducible refine Below.setCell ?_ ?_ _); rotate_left; exact (by (try simp only [World.size_alloc, Xk.exw_size, World.size_setCell, World.size_drew, World.heap_drewN]); omega)) | ((with_reducible refine Below.alloc ?_ ?_ _); rotate_left; exact (by (try simp only [World.size_alloc, Xk.exw_size, World.size_setCell, World.size_drew, World.heap_drewN]); omega)) | ((with_reducible refine Xk.below_exw ?_ ?_ _); rotate_left; exact (by (try simp only [World.size_alloc, Xk.exw_size, World.size_setCell, World.size_drew, World.heap_drewN]); omega)) | (with_reducible refine Below.drew ?_))) HCd.out
theorem mid_str (t : List UInt8) (h : 2 ≤ t.length) : (⟨t.toArray⟩ : ByteArray).extract 1 (t.length - 1) = ⟨((t.drop 1).take (t.length - 2)).toArray⟩ := by
  apply bytes_ext
  rw [Lib.extract_data]
  simp only [List.toList_toArray]
  rw [show t.length - 1 - 1 = t.length - 2 by omega]
set_option maxRecDepth 100000 in
set_option maxHeartbeats 8000000 in
theorem literal_text (t : List UInt8) (w : World) (hE : EnvR w) (ht : t.length ≤ 2000000000)
    (h1 : (t == [78, 85, 76, 76]) = false) (h2 : (t == [84, 82, 85, 69]) = false) (h3 : (t == [70, 65, 76, 83, 69]) = false) (hp : Lib.hasPrefix t [39] = true) (hl : 2 ≤ t.length) : Calls Tryz.prog 94 #[.string ⟨t.toArray⟩] w (LitPost w t) := by
  have n1 : ¬ t = [78, 85, 76, 76] := by simpa using h1
  have n2 : ¬ t = [84, 82, 85, 69] := by simpa using h2
  have n3 : ¬ t = [70, 65, 76, 83, 69] := by simpa using h3
  have HPre : Hid (∀ W, Calls Tryz.prog 52 #[.string ⟨t.toArray⟩, .string ⟨#[39]⟩] W fun e w' => e = .returned (.bool true) ∧ W = w') := Lib.hid fun W => (Tryz.strings_HasPrefix ⟨t.toArray⟩ ⟨#[39]⟩ W).mono fun e w' ⟨a, b⟩ => ⟨by rw [a]; exact congrArg (fun x => Ending.returned (.bool x)) hp, b.symm⟩
  have hcd : cand t = some ⟨3, 0, ⟨(Lib.replaceAll ((t.drop 1).take (t.length - 2)) [39, 39] [39]).toArray⟩⟩ := by unfold cand; rw [if_neg n1, if_neg n2, if_neg n3, if_pos hp, if_neg (by omega)]
  have hsl := mid_str t hl
  have hml : ((t.drop 1).take (t.length - 2)).length ≤ 2000000000 := by
    have : ((t.drop 1).take (t.length - 2)).length ≤ t.length - 2 := List.length_take_le _ _
    omega
  generalize (t.drop 1).take (t.length - 2) = mid at hcd hsl hml
  have HRp : Hid (∀ W, Xk.Ext w W → Calls Tryz.prog 50 #[.string ⟨mid.toArray⟩, .string ⟨#[39, 39]⟩, .string ⟨#[39]⟩] W fun e w' => e = .returned (.string ⟨(Lib.replaceAll mid [39, 39] [39]).toArray⟩) ∧ Below W.heap.size W w') := Lib.hid fun W hx => by
    obtain ⟨m, hm⟩ := (hE.env.ext hx).max
    have hc := Lib.countB_mul_le ⟨#[39, 39]⟩ (by decide) (⟨mid.toArray⟩ : ByteArray).size ⟨mid.toArray⟩ (Nat.le_refl _)
    have h1 : (⟨#[39, 39]⟩ : ByteArray).size = 2 := rfl
    have h2 : (⟨#[39]⟩ : ByteArray).size = 1 := rfl
    have h3 : (⟨mid.toArray⟩ : ByteArray).size = mid.length := by simp [ByteArray.size]
    rw [h1, h3] at hc
    exact Tryz.strings_ReplaceAll ⟨mid.toArray⟩ ⟨#[39, 39]⟩ ⟨#[39]⟩ m W (by omega) hm (by rw [h1]; omega) (by rw [h2, h3]; omega)
  generalize Lib.replaceAll mid [39, 39] [39] = u at HRp hcd
  have HCd := Lib.hid hcd
  have hI := fun W => is_any 3 0 ⟨u.toArray⟩ W
  have hP := fun W (hx : Xk.Ext w W) => print_any 3 0 ⟨u.toArray⟩ (by decide) (by decide) W (hE.env.ext hx)
  have hok : (isX ⟨3, 0, ⟨u.toArray⟩⟩ && (printX ⟨3, 0, ⟨u.toArray⟩⟩ == t)) = (P6.isV 3 0 (⟨u.toArray⟩ : ByteArray).data.toList && (P6.printV 3 0 (⟨u.toArray⟩ : ByteArray).data.toList == t)) := rfl
  have w1 : (1 : Int) ≤ (t.length : Int) - 1 := by omega
  have w2 : IntKind.i64.wrap ((t.length : Int) - 1) = (t.length : Int) - 1 := IntWalk.i64_in _ (by omega)
  have w3 : ((t.length : Int) - 1).toNat = t.length - 1 := by omega
  have w4 : ¬ (t.length : Int) < 2 := by omega
  generalize P6.isV 3 0 (⟨u.toArray⟩ : ByteArray).data.toList = vb at hI hok
  generalize P6.printV 3 0 (⟨u.toArray⟩ : ByteArray).data.toList = pr at hP hok
  clear hcd n1 n2 n3 hp hE
  cases vb
  · have HI := Lib.hid hI
    have HP := Lib.hid hP
    have HOk : Hid (false = (isX ⟨3, 0, ⟨u.toArray⟩⟩ && (printX ⟨3, 0, ⟨u.toArray⟩⟩ == t))) := Lib.hid (by rw [hok]; rfl)
    clear hI hP hok
    go_enter Tryz.func94, Tryz.ntmps94
    go_wp2_with (first | (go_at_call 52; (with_reducible refine (HPre.out _).mono ?_); rintro e w' ⟨rfl, rfl⟩) | (go_at_call 50; (with_reducible refine (HRp.out _ (by repeat (first | with_reducible exact Below.refl _ _ | ((with_reducible refine Below.setCell ?_ ?_ _); rotate_left; exact (by (try simp only [World.size_alloc, Xk.exw_size, World.size_setCell, World.size_drew, World.heap_drewN]); omega)) | ((with_reducible refine Below.alloc ?_ ?_ _); rotate_left; exact (by (try simp only [World.size_alloc, Xk.exw_size, World.size_setCell, World.size_drew, World.heap_drewN]); omega)) | ((with_reducible refine Xk.below_exw ?_ ?_ _); rotate_left; exact (by (try simp only [World.size_alloc, Xk.exw_size, World.size_setCell, World.size_drew, World.heap_drewN]); omega)) | (with_reducible refine Below.drew ?_)))).mono ?_); rintro e w' ⟨rfl, hb⟩; obtain ⟨p, rfl⟩ := Xk.exw_of hb; clear hb))
    generalize hW : Xk.exw _ _ = W1
    have hw1 : Xk.Ext w W1 := by rw [← hW]; exact (by repeat (first | with_reducible exact Below.refl _ _ | ((with_reducible refine Below.setCell ?_ ?_ _); rotate_left; exact (by (try simp only [World.size_alloc, Xk.exw_size, World.size_setCell, World.size_drew, World.heap_drewN]); omega)) | ((with_reducible refine Below.alloc ?_ ?_ _); rotate_left; exact (by (try simp only [World.size_alloc, Xk.exw_size, World.size_setCell, World.size_drew, World.heap_drewN]); omega)) | ((with_reducible refine Xk.below_exw ?_ ?_ _); rotate_left; exact (by (try simp only [World.size_alloc, Xk.exw_size, World.size_setCell, World.size_drew, World.heap_drewN]); omega)) | (with_reducible refine Below.drew ?_)))
    have b1 : W1.heap[w.heap.size]? = some (.cells #[.int .i64 0, .int .i64 0, .string ⟨#[]⟩] 36 (0, 0)) := by
      rw [← hW, Xk.exw_heap _ _ (by simp only [World.size_alloc]; omega), heap_alloc_old _ _ (by simp), heap_alloc_new]
    have b2 : W1.heap[w.heap.size + 1]? = some (.cells #[.int .i64 3, .int .i64 0, .string ⟨u.toArray⟩] 36 (0, 0)) := by
      rw [← hW, Xk.exw_heap _ _ (by simp), show w.heap.size + 1 = (w.alloc (.cells #[.int .i64 0, .int .i64 0, .string ⟨#[]⟩] 36)).heap.size by simp, heap_alloc_new]
    have hw2 := (Array.getElem?_eq_some_iff.1 b2).1
    have HB1 := Lib.hid hw1
    obtain ⟨ks, hks⟩ : ∃ ks : Xe.Specs, ks = [(w.heap.size, fun o => o = some (.cells #[.int .i64 3, .int .i64 0, .string ⟨u.toArray⟩] 36 (0, 0)))] := ⟨_, rfl⟩
    have HKS := Lib.hid hks
    have hkb : ∀ k ∈ ks, k.1 = w.heap.size := fun k hk => by rw [hks] at hk; simp at hk; rw [hk]
    have HKB := Lib.hid hkb
    have HF : Hid (∀ W, Xe.ES ks W1.drew W → W.cell? ⟨w.heap.size + 1, 0, none⟩ = some (.int .i64 3) ∧ W.cell? ⟨w.heap.size + 1, 1, none⟩ = some (.int .i64 0) ∧ W.cell? ⟨w.heap.size + 1, 2, none⟩ = some (.string ⟨u.toArray⟩)) := Lib.hid fun W hx => by
      have h := Xe.cells_of3 (hx.block (by simpa using hw2) (fun k hk => by rw [hkb k hk]; omega) |>.trans b2)
      exact ⟨h.1, h.2.1, h.2.2.1⟩
    have HG : Hid (∀ W, Xe.ES ks W1.drew W → ∃ a0 a1 a2, W.heap[w.heap.size]? = some (.cells #[a0, a1, a2] 36 (0, 0))) := Lib.hid fun W hx => by
      rcases hx.2.2.2.2 w.heap.size (by simp; omega) with e | ⟨k, hk, e1, e2⟩
      · exact ⟨_, _, _, e.trans b1⟩
      · rw [hks] at hk
        simp only [List.mem_cons, List.not_mem_nil, or_false] at hk
        subst hk
        exact ⟨_, _, _, e2⟩
    clear hW hw1 b1 b2 hw2 hks hkb
    refine Xe.wp_region_rel (E := Xe.ES ks) (Xe.pre_ES _) 11 (fun _ => none) (fun _ _ h => by cases h) (fun _ _ _ _ h => by cases h) [(9, Xe.blockFact w.heap.size (.cells #[.int .i64 3, .int .i64 0, .string ⟨u.toArray⟩] 36 (0, 0)))] (by kernel_rfl) (by kernel_rfl) (Xe.stable_es (by
          intro y hy
          simp only [List.mem_cons, List.not_mem_nil, or_false] at hy
          subst hy
          exact Xe.blockFact.es fun k hk _ => by rw [HKS.out] at hk; simp only [List.mem_cons, List.not_mem_nil, or_false] at hk; subst hk; rfl)) ?_
    simp only [List.take_succ_cons, List.take_zero, List.drop_succ_cons, List.drop_zero]
    repeat (first
      | (refine Xe.rel_det (Xe.pre_ES _) (Xk.wanted_none (by rfl)) (by rfl) (fun K hK => ?_); apply Exists.intro; refine ⟨fun W hx hp => ?_, ?_⟩; (obtain ⟨f1, f2, f3⟩ := HF.out _ hx; go_simp; first | exact ⟨rfl, rfl⟩ | ((try refine ⟨by kernel_rfl, ?_⟩); (first | (go_at_call 49; ((with_reducible refine (HI.out _).mono ?_); exact fun e w' h => h))))); (go_simp; refine hK _ ?_; clear hK K))
      | (refine Xe.rel_skip (by rfl) (fun K hK => ?_); go_simp; refine hK _ ?_; clear hK K)
      | (refine Xe.rel_det (Xe.pre_ES _) (by rfl) (by rfl) (fun K hK => ?_); apply Exists.intro; refine ⟨fun W hx hp => ?_, ?_⟩; (obtain ⟨f1, f2, f3⟩ := HF.out _ hx; go_simp; first | exact ⟨rfl, rfl⟩ | ((try refine ⟨by kernel_rfl, ?_⟩); (first | (go_at_call 49; ((with_reducible refine (HI.out _).mono ?_); exact fun e w' h => h))))); (go_simp; refine hK _ ?_; clear hK K)))
    refine Xe.rel_make (Xe.pre_ES _) (by rfl) (by rfl) (fun W hx hp => ?_) (fun y K hK => ?_)
    · obtain ⟨a0, a1, a2, hh⟩ := HG.out W hx
      obtain ⟨g1, g2, g3, g4, g5, g6⟩ := Xe.cells_of3 hh
      go_simp
      exact Xe.store3 hh (by rw [HKS.out]; exact List.mem_cons_self ..)
    go_simp
    refine hK _ ?_
    clear hK K
    repeat (first
      | (refine Xe.rel_det (Xe.pre_ES _) (Xk.wanted_none (by rfl)) (by rfl) (fun K hK => ?_); apply Exists.intro; refine ⟨fun W hx hp => ?_, ?_⟩; (skip; go_simp; first | exact ⟨rfl, rfl⟩ | ((try refine ⟨by kernel_rfl, ?_⟩); (fail))); (go_simp; refine hK _ ?_; clear hK K))
      | (refine Xe.rel_skip (by rfl) (fun K hK => ?_); go_simp; refine hK _ ?_; clear hK K)
      | (refine Xe.rel_det (Xe.pre_ES _) (by rfl) (by rfl) (fun K hK => ?_); apply Exists.intro; refine ⟨fun W hx hp => ?_, ?_⟩; (skip; go_simp; first | exact ⟨rfl, rfl⟩ | ((try refine ⟨by kernel_rfl, ?_⟩); (fail))); (go_simp; refine hK _ ?_; clear hK K)))
    refine Xe.rel_nil (fun W hx hp hg => ?_)
    simp only [Xk.factsAll] at hp
    obtain ⟨g1, g2, g3, g4, g5, g6⟩ := Xe.cells_of3 hp.1
    have HBE := Lib.hid (Xe.ES.below (w := W1.drew) (B := w.heap.size) (show Below w.heap.size w W1.drew from by have := HB1.out; exact (by repeat (first | with_reducible exact HB1.out | with_reducible exact Below.refl _ _ | ((with_reducible refine Below.setCell ?_ ?_ _); rotate_left; exact (by (try simp only [World.size_alloc, Xk.exw_size, World.size_setCell, World.size_drew, World.heap_drewN]); omega)) | ((with_reducible refine Below.alloc ?_ ?_ _); rotate_left; exact (by (try simp only [World.size_alloc, Xk.exw_size, World.size_setCell, World.size_drew, World.heap_drewN]); omega)) | ((with_reducible refine Xk.below_exw ?_ ?_ _); rotate_left; exact (by (try simp only [World.size_alloc, Xk.exw_size, World.size_setCell, World.size_drew, World.heap_drewN]); omega)) | (with_reducible refine Below.drew ?_)))) hx (fun k hk => by rw [HKB.out k hk]; exact Nat.le_refl _) (by simpa using HB1.out.size))
    clear hp hx hg g4 g5 g6
    go_wp2
    refine bodyPost_ret (v := .tuple #[vv 3 0 ⟨u.toArray⟩, .bool false]) (by simp [results, Tryz.results94, go_sem, g1, g2, g3]) rfl ?_
    exact LitPost.of (x := ⟨3, 0, ⟨u.toArray⟩⟩) HBE.out HCd.out HOk.out
  · cases hpt : pr == t
    · have HI := Lib.hid hI
      have HP := Lib.hid hP
      have HOk : Hid (false = (isX ⟨3, 0, ⟨u.toArray⟩⟩ && (printX ⟨3, 0, ⟨u.toArray⟩⟩ == t))) := Lib.hid (by rw [hok, hpt]; rfl)
      clear hI hP hok
      go_enter Tryz.func94, Tryz.ntmps94
      go_wp2_with (first | (go_at_call 52; (with_reducible refine (HPre.out _).mono ?_); rintro e w' ⟨rfl, rfl⟩) | (go_at_call 50; (with_reducible refine (HRp.out _ (by repeat (first | with_reducible exact Below.refl _ _ | ((with_reducible refine Below.setCell ?_ ?_ _); rotate_left; exact (by (try simp only [World.size_alloc, Xk.exw_size, World.size_setCell, World.size_drew, World.heap_drewN]); omega)) | ((with_reducible refine Below.alloc ?_ ?_ _); rotate_left; exact (by (try simp only [World.size_alloc, Xk.exw_size, World.size_setCell, World.size_drew, World.heap_drewN]); omega)) | ((with_reducible refine Xk.below_exw ?_ ?_ _); rotate_left; exact (by (try simp only [World.size_alloc, Xk.exw_size, World.size_setCell, World.size_drew, World.heap_drewN]); omega)) | (with_reducible refine Below.drew ?_)))).mono ?_); rintro e w' ⟨rfl, hb⟩; obtain ⟨p, rfl⟩ := Xk.exw_of hb; clear hb))
      go_region_held3 (fun w' => w'.cell? ⟨w.heap.size + 1, 0, none⟩ = some (.int .i64 3) ∧ w'.cell? ⟨w.heap.size + 1, 1, none⟩ = some (.int .i64 0) ∧ w'.cell? ⟨w.heap.size + 1, 2, none⟩ = some (.string ⟨u.toArray⟩)) (((repeat' apply And.intro) <;> (go_simp))) (first | (go_at_call 49; (with_reducible refine (HI.out _).mono ?_); rintro e w' ⟨rfl, hb⟩; obtain ⟨p, rfl⟩ := Xk.exw_of hb; clear hb) | (go_at_call 48; (with_reducible refine (HP.out _ (by repeat (first | with_reducible exact Below.refl _ _ | ((with_reducible refine Below.setCell ?_ ?_ _); rotate_left; exact (by (try simp only [World.size_alloc, Xk.exw_size, World.size_setCell, World.size_drew, World.heap_drewN]); omega)) | ((with_reducible refine Below.alloc ?_ ?_ _); rotate_left; exact (by (try simp only [World.size_alloc, Xk.exw_size, World.size_setCell, World.size_drew, World.heap_drewN]); omega)) | ((with_reducible refine Xk.below_exw ?_ ?_ _); rotate_left; exact (by (try simp only [World.size_alloc, Xk.exw_size, World.size_setCell, World.size_drew, World.heap_drewN]); omega)) | (with_reducible refine Below.drew ?_)))).mono ?_); rintro e w' ⟨rfl, hb⟩; obtain ⟨p, rfl⟩ := Xk.exw_of hb; clear hb))
      go_wp2
      refine bodyPost_ret (v := .tuple #[vv 3 0 ⟨u.toArray⟩, .bool false]) (by simp [results, Tryz.results94, go_sem]) rfl ?_
      exact LitPost.of (x := ⟨3, 0, ⟨u.toArray⟩⟩) (by repeat (first | with_reducible exact Below.refl _ _ | ((with_reducible refine Below.setCell ?_ ?_ _); rotate_left; exact (by (try simp only [World.size_alloc, Xk.exw_size, World.size_setCell, World.size_drew, World.heap_drewN]); omega)) | ((with_reducible refine Below.alloc ?_ ?_ _); rotate_left; exact (by (try simp only [World.size_alloc, Xk.exw_size, World.size_setCell, World.size_drew, World.heap_drewN]); omega)) | ((with_reducible refine Xk.below_exw ?_ ?_ _); rotate_left; exact (by (try simp only [World.size_alloc, Xk.exw_size, World.size_setCell, World.size_drew, World.heap_drewN]); omega)) | (with_reducible refine Below.drew ?_))) HCd.out HOk.out

    · obtain rfl : pr = t := by simpa using hpt
      have HI := Lib.hid hI
      have HP := Lib.hid hP
      have HOk : Hid (true = (isX ⟨3, 0, ⟨u.toArray⟩⟩ && (printX ⟨3, 0, ⟨u.toArray⟩⟩ == pr))) := Lib.hid (by rw [hok, hpt]; rfl)
      clear hI hP hok hpt
      go_enter Tryz.func94, Tryz.ntmps94
      go_wp2_with (first | (go_at_call 52; (with_reducible refine (HPre.out _).mono ?_); rintro e w' ⟨rfl, rfl⟩) | (go_at_call 50; (with_reducible refine (HRp.out _ (by repeat (first | with_reducible exact Below.refl _ _ | ((with_reducible refine Below.setCell ?_ ?_ _); rotate_left; exact (by (try simp only [World.size_alloc, Xk.exw_size, World.size_setCell, World.size_drew, World.heap_drewN]); omega)) | ((with_reducible refine Below.alloc ?_ ?_ _); rotate_left; exact (by (try simp only [World.size_alloc, Xk.exw_size, World.size_setCell, World.size_drew, World.heap_drewN]); omega)) | ((with_reducible refine Xk.below_exw ?_ ?_ _); rotate_left; exact (by (try simp only [World.size_alloc, Xk.exw_size, World.size_setCell, World.size_drew, World.heap_drewN]); omega)) | (with_reducible refine Below.drew ?_)))).mono ?_); rintro e w' ⟨rfl, hb⟩; obtain ⟨p, rfl⟩ := Xk.exw_of hb; clear hb))
      go_region_held3 (fun w' => w'.cell? ⟨w.heap.size + 1, 0, none⟩ = some (.int .i64 3) ∧ w'.cell? ⟨w.heap.size + 1, 1, none⟩ = some (.int .i64 0) ∧ w'.cell? ⟨w.heap.size + 1, 2, none⟩ = some (.string ⟨u.toArray⟩)) (((repeat' apply And.intro) <;> (go_simp))) (first | (go_at_call 49; (with_reducible refine (HI.out _).mono ?_); rintro e w' ⟨rfl, hb⟩; obtain ⟨p, rfl⟩ := Xk.exw_of hb; clear hb) | (go_at_call 48; (with_reducible refine (HP.out _ (by repeat (first | with_reducible exact Below.refl _ _ | ((with_reducible refine Below.setCell ?_ ?_ _); rotate_left; exact (by (try simp only [World.size_alloc, Xk.exw_size, World.size_setCell, World.size_drew, World.heap_drewN]); omega)) | ((with_reducible refine Below.alloc ?_ ?_ _); rotate_left; exact (by (try simp only [World.size_alloc, Xk.exw_size, World.size_setCell, World.size_drew, World.heap_drewN]); omega)) | ((with_reducible refine Xk.below_exw ?_ ?_ _); rotate_left; exact (by (try simp only [World.size_alloc, Xk.exw_size, World.size_setCell, World.size_drew, World.heap_drewN]); omega)) | (with_reducible refine Below.drew ?_)))).mono ?_); rintro e w' ⟨rfl, hb⟩; obtain ⟨p, rfl⟩ := Xk.exw_of hb; clear hb))
      go_wp2
      refine bodyPost_ret (v := .tuple #[vv 3 0 ⟨u.toArray⟩, .bool true]) (by simp [results, Tryz.results94, go_sem]) rfl ?_
      exact LitPost.of (x := ⟨3, 0, ⟨u.toArray⟩⟩) (by repeat (first | with_reducible exact Below.refl _ _ | ((with_reducible refine Below.setCell ?_ ?_ _); rotate_left; exact (by (try simp only [World.size_alloc, Xk.exw_size, World.size_setCell, World.size_drew, World.heap_drewN]); omega)) | ((with_reducible refine Below.alloc ?_ ?_ _); rotate_left; exact (by (try simp only [World.size_alloc, Xk.exw_size, World.size_setCell, World.size_drew, World.heap_drewN]); omega)) | ((with_reducible refine Xk.below_exw ?_ ?_ _); rotate_left; exact (by (try simp only [World.size_alloc, Xk.exw_size, World.size_setCell, World.size_drew, World.heap_drewN]); omega)) | (with_reducible refine Below.drew ?_))) HCd.out HOk.out

set_option maxRecDepth 100000 in
set_option maxHeartbeats 8000000 in
theorem literal_int (t : List UInt8) (n : Int) (w : World) (hE : EnvR w) (ht : t.length ≤ 2000000000)
    (h1 : (t == [78, 85, 76, 76]) = false) (h2 : (t == [84, 82, 85, 69]) = false) (h3 : (t == [70, 65, 76, 83, 69]) = false) (hp : Lib.hasPrefix t [39] = false) (hn : Lib.parseIntB 64 t = .ok n) : Calls Tryz.prog 94 #[.string ⟨t.toArray⟩] w (LitPost w t) := by
  have n1 : ¬ t = [78, 85, 76, 76] := by simpa using h1
  have n2 : ¬ t = [84, 82, 85, 69] := by simpa using h2
  have n3 : ¬ t = [70, 65, 76, 83, 69] := by simpa using h3
  have HPre : Hid (∀ W, Calls Tryz.prog 52 #[.string ⟨t.toArray⟩, .string ⟨#[39]⟩] W fun e w' => e = .returned (.bool false) ∧ W = w') := Lib.hid fun W => (Tryz.strings_HasPrefix ⟨t.toArray⟩ ⟨#[39]⟩ W).mono fun e w' ⟨a, b⟩ => ⟨by rw [a]; exact congrArg (fun x => Ending.returned (.bool x)) hp, b.symm⟩
  have HCd : Hid (cand t = some ⟨2, n, ⟨#[]⟩⟩) := Lib.hid (by unfold cand; rw [if_neg n1, if_neg n2, if_neg n3, if_neg (by rw [hp]; decide), hn])
  have hnb := Lib.parseIntB_bounds hn
  have hnb1 : -9223372036854775808 ≤ n := hnb.1
  have hnb2 : n ≤ 9223372036854775807 := by have : n < 9223372036854775808 := hnb.2; omega
  have HPI := Lib.hid fun W => parseInt_ok t n hn (by omega) W
  have HI : Hid (∀ W, Calls Tryz.prog 49 #[vv 2 n ⟨#[]⟩] W fun e w' => e = .returned (.bool true) ∧ Below W.heap.size W w') := Lib.hid fun W => is_any 2 n ⟨#[]⟩ W
  have hP := fun W (hx : Xk.Ext w W) => print_any 2 n ⟨#[]⟩ hnb1 hnb2 W (hE.env.ext hx)
  have hok : (isX ⟨2, n, ⟨#[]⟩⟩ && (printX ⟨2, n, ⟨#[]⟩⟩ == t)) = (P6.printV 2 n (⟨#[]⟩ : ByteArray).data.toList == t) := rfl
  generalize P6.printV 2 n (⟨#[]⟩ : ByteArray).data.toList = pr at hP hok
  clear n1 n2 n3 hp hE hn hnb
  cases hpt : pr == t
  · have HP := Lib.hid hP
    have HOk : Hid (false = (isX ⟨2, n, ⟨#[]⟩⟩ && (printX ⟨2, n, ⟨#[]⟩⟩ == t))) := Lib.hid (by rw [hok, hpt])
    clear hP hok
    go_enter Tryz.func94, Tryz.ntmps94
    go_wp2_with (first | (go_at_call 52; (with_reducible refine (HPre.out _).mono ?_); rintro e w' ⟨rfl, rfl⟩) | (go_at_call 126; (with_reducible refine (HPI.out _).mono ?_); rintro e w' ⟨rfl, hb⟩; obtain ⟨p, rfl⟩ := Xk.exw_of hb; clear hb))
    go_region_held3 (fun w' => w'.cell? ⟨w.heap.size + 1, 0, none⟩ = some (.int .i64 2) ∧ w'.cell? ⟨w.heap.size + 1, 1, none⟩ = some (.int .i64 n) ∧ w'.cell? ⟨w.heap.size + 1, 2, none⟩ = some (.string ⟨#[]⟩)) (((repeat' apply And.intro) <;> (go_simp))) (first | (go_at_call 49; (with_reducible refine (HI.out _).mono ?_); rintro e w' ⟨rfl, hb⟩; obtain ⟨p, rfl⟩ := Xk.exw_of hb; clear hb) | (go_at_call 48; (with_reducible refine (HP.out _ (by repeat (first | with_reducible exact Below.refl _ _ | ((with_reducible refine Below.setCell ?_ ?_ _); rotate_left; exact (by (try simp only [World.size_alloc, Xk.exw_size, World.size_setCell, World.size_drew, World.heap_drewN]); omega)) | ((with_reducible refine Below.alloc ?_ ?_ _); rotate_left; exact (by (try simp only [World.size_alloc, Xk.exw_size, World.size_setCell, World.size_drew, World.heap_drewN]); omega)) | ((with_reducible refine Xk.below_exw ?_ ?_ _); rotate_left; exact (by (try simp only [World.size_alloc, Xk.exw_size, World.size_setCell, World.size_drew, World.heap_drewN]); omega)) | (with_reducible refine Below.drew ?_)))).mono ?_); rintro e w' ⟨rfl, hb⟩; obtain ⟨p, rfl⟩ := Xk.exw_of hb; clear hb))
    go_wp2
    refine bodyPost_ret (v := .tuple #[vv 2 n ⟨#[]⟩, .bool false]) (by simp [results, Tryz.results94, go_sem]) rfl ?_
    exact LitPost.of (x := ⟨2, n, ⟨#[]⟩⟩) (by repeat (first | with_reducible exact Below.refl _ _ | ((with_reducible refine Below.setCell ?_ ?_ _); rotate_left; exact (by (try simp only [World.size_alloc, Xk.exw_size, World.size_setCell, World.size_drew, World.heap_drewN]); omega)) | ((with_reducible refine Below.alloc ?_ ?_ _); rotate_left; exact (by (try simp only [World.size_alloc, Xk.exw_size, World.size_setCell, World.size_drew, World.heap_drewN]); omega)) | ((with_reducible refine Xk.below_exw ?_ ?_ _); rotate_left; exact (by (try simp only [World.size_alloc, Xk.exw_size, World.size_setCell, World.size_drew, World.heap_drewN]); omega)) | (with_reducible refine Below.drew ?_))) HCd.out HOk.out

  · obtain rfl : pr = t := by simpa using hpt
    have HP := Lib.hid hP
    have HOk : Hid (true = (isX ⟨2, n, ⟨#[]⟩⟩ && (printX ⟨2, n, ⟨#[]⟩⟩ == pr))) := Lib.hid (by rw [hok, hpt])
    clear hP hok hpt
    go_enter Tryz.func94, Tryz.ntmps94
    go_wp2_with (first | (go_at_call 52; (with_reducible refine (HPre.out _).mono ?_); rintro e w' ⟨rfl, rfl⟩) | (go_at_call 126; (with_reducible refine (HPI.out _).mono ?_); rintro e w' ⟨rfl, hb⟩; obtain ⟨p, rfl⟩ := Xk.exw_of hb; clear hb))
    go_region_held3 (fun w' => w'.cell? ⟨w.heap.size + 1, 0, none⟩ = some (.int .i64 2) ∧ w'.cell? ⟨w.heap.size + 1, 1, none⟩ = some (.int .i64 n) ∧ w'.cell? ⟨w.heap.size + 1, 2, none⟩ = some (.string ⟨#[]⟩)) (((repeat' apply And.intro) <;> (go_simp))) (first | (go_at_call 49; (with_reducible refine (HI.out _).mono ?_); rintro e w' ⟨rfl, hb⟩; obtain ⟨p, rfl⟩ := Xk.exw_of hb; clear hb) | (go_at_call 48; (with_reducible refine (HP.out _ (by repeat (first | with_reducible exact Below.refl _ _ | ((with_reducible refine Below.setCell ?_ ?_ _); rotate_left; exact (by (try simp only [World.size_alloc, Xk.exw_size, World.size_setCell, World.size_drew, World.heap_drewN]); omega)) | ((with_reducible refine Below.alloc ?_ ?_ _); rotate_left; exact (by (try simp only [World.size_alloc, Xk.exw_size, World.size_setCell, World.size_drew, World.heap_drewN]); omega)) | ((with_reducible refine Xk.below_exw ?_ ?_ _); rotate_left; exact (by (try simp only [World.size_alloc, Xk.exw_size, World.size_setCell, World.size_drew, World.heap_drewN]); omega)) | (with_reducible refine Below.drew ?_)))).mono ?_); rintro e w' ⟨rfl, hb⟩; obtain ⟨p, rfl⟩ := Xk.exw_of hb; clear hb))
    go_wp2
    refine bodyPost_ret (v := .tuple #[vv 2 n ⟨#[]⟩, .bool true]) (by simp [results, Tryz.results94, go_sem]) rfl ?_
    exact LitPost.of (x := ⟨2, n, ⟨#[]⟩⟩) (by repeat (first | with_reducible exact Below.refl _ _ | ((with_reducible refine Below.setCell ?_ ?_ _); rotate_left; exact (by (try simp only [World.size_alloc, Xk.exw_size, World.size_setCell, World.size_drew, World.heap_drewN]); omega)) | ((with_reducible refine Below.alloc ?_ ?_ _); rotate_left; exact (by (try simp only [World.size_alloc, Xk.exw_size, World.size_setCell, World.size_drew, World.heap_drewN]); omega)) | ((with_reducible refine Xk.below_exw ?_ ?_ _); rotate_left; exact (by (try simp only [World.size_alloc, Xk.exw_size, World.size_setCell, World.size_drew, World.heap_drewN]); omega)) | (with_reducible refine Below.drew ?_))) HCd.out HOk.out

set_option maxRecDepth 100000 in
set_option maxHeartbeats 8000000 in
theorem literal_err (t : List UInt8) (w : World) (hE : EnvR w) (ht : t.length ≤ 2000000000)
    (h1 : (t == [78, 85, 76, 76]) = false) (h2 : (t == [84, 82, 85, 69]) = false) (h3 : (t == [70, 65, 76, 83, 69]) = false) (hp : Lib.hasPrefix t [39] = false) (hn : ∀ n, Lib.parseIntB 64 t ≠ .ok n) : Calls Tryz.prog 94 #[.string ⟨t.toArray⟩] w (LitPost w t) := by
  have n1 : ¬ t = [78, 85, 76, 76] := by simpa using h1
  have n2 : ¬ t = [84, 82, 85, 69] := by simpa using h2
  have n3 : ¬ t = [70, 65, 76, 83, 69] := by simpa using h3
  have HPre : Hid (∀ W, Calls Tryz.prog 52 #[.string ⟨t.toArray⟩, .string ⟨#[39]⟩] W fun e w' => e = .returned (.bool false) ∧ W = w') := Lib.hid fun W => (Tryz.strings_HasPrefix ⟨t.toArray⟩ ⟨#[39]⟩ W).mono fun e w' ⟨a, b⟩ => ⟨by rw [a]; exact congrArg (fun x => Ending.returned (.bool x)) hp, b.symm⟩
  have HCd : Hid (cand t = none) := Lib.hid (by
    unfold cand
    rw [if_neg n1, if_neg n2, if_neg n3, if_neg (by rw [hp]; decide)]
    split
    · rename_i n h; exact absurd h (hn n)
    · rfl)
  have HPI := Lib.hid fun W (hx : Xk.Ext w W) => parseInt_err t hn (by omega) W (hE.ext hx)
  clear n1 n2 n3 hp hE hn
  go_enter Tryz.func94, Tryz.ntmps94
  go_wp2_with (first | (go_at_call 52; (with_reducible refine (HPre.out _).mono ?_); rintro e w' ⟨rfl, rfl⟩) | (go_at_call 126; (with_reducible refine (HPI.out _ (by repeat (first | with_reducible exact Below.refl _ _ | ((with_reducible refine Below.setCell ?_ ?_ _); rotate_left; exact (by (try simp only [World.size_alloc, Xk.exw_size, World.size_setCell, World.size_drew, World.heap_drewN]); omega)) | ((with_reducible refine Below.alloc ?_ ?_ _); rotate_left; exact (by (try simp only [World.size_alloc, Xk.exw_size, World.size_setCell, World.size_drew, World.heap_drewN]); omega)) | ((with_reducible refine Xk.below_exw ?_ ?_ _); rotate_left; exact (by (try simp only [World.size_alloc, Xk.exw_size, World.size_setCell, World.size_drew, World.heap_drewN]); omega)) | (with_reducible refine Below.drew ?_)))).mono ?_); rintro e w' ⟨n, tp, ad, rfl, hb⟩; obtain ⟨p, rfl⟩ := Xk.exw_of hb; clear hb))
  refine bodyPost_ret (v := .tuple #[vv 0 0 ⟨#[]⟩, .bool false]) (by simp [results, Tryz.results94, go_sem]) rfl ?_
  exact LitPost.no (x := ⟨0, 0, ⟨#[]⟩⟩) (by repeat (first | with_reducible exact Below.refl _ _ | ((with_reducible refine Below.setCell ?_ ?_ _); rotate_left; exact (by (try simp only [World.size_alloc, Xk.exw_size, World.size_setCell, World.size_drew, World.heap_drewN]); omega)) | ((with_reducible refine Below.alloc ?_ ?_ _); rotate_left; exact (by (try simp only [World.size_alloc, Xk.exw_size, World.size_setCell, World.size_drew, World.heap_drewN]); omega)) | ((with_reducible refine Xk.below_exw ?_ ?_ _); rotate_left; exact (by (try simp only [World.size_alloc, Xk.exw_size, World.size_setCell, World.size_drew, World.heap_drewN]); omega)) | (with_reducible refine Below.drew ?_))) HCd.out
theorem literal_any (t : List UInt8) (w : World) (hE : EnvR w) (ht : t.length ≤ 2000000000) : Calls Tryz.prog 94 #[.string ⟨t.toArray⟩] w (LitPost w t) := by
  by_cases h1 : t = [78, 85, 76, 76]
  · subst h1; exact literal_null w hE
  by_cases h2 : t = [84, 82, 85, 69]
  · subst h2; exact literal_true w hE
  by_cases h3 : t = [70, 65, 76, 83, 69]
  · subst h3; exact literal_false w hE
  have b1 : (t == [78, 85, 76, 76]) = false := by simpa using h1
  have b2 : (t == [84, 82, 85, 69]) = false := by simpa using h2
  have b3 : (t == [70, 65, 76, 83, 69]) = false := by simpa using h3
  cases hp : Lib.hasPrefix t [39]
  · by_cases hn : ∃ n, Lib.parseIntB 64 t = .ok n
    · obtain ⟨n, hn⟩ := hn
      exact literal_int t n w hE ht b1 b2 b3 hp hn
    · exact literal_err t w hE ht b1 b2 b3 hp fun n h => hn ⟨n, h⟩
  · by_cases hl : t.length < 2
    · exact literal_short t w b1 b2 b3 hp hl
    · exact literal_text t w hE ht b1 b2 b3 hp (by omega)
end Go.Proofs.YtmoippbmnanajaaGreatDoor
