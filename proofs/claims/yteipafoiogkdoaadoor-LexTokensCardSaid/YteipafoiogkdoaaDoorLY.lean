/- Walks: the reference's texts, walked. -/
import Derived.Test.YteipafoiogkdoaaDoorLX
set_option linter.unusedSimpArgs false
set_option linter.unusedVariables false
namespace Go.Xk
open Go.RowKit
theorem cells1 {W : World} {g : Nat} {x : Value} {t : TypeId} (h : g = W.heap.size) : ∀ (j : Nat) u, [x][j]? = some u → (W.alloc (Obj.cells #[x] t)).cell? ⟨g, 0 + j, none⟩ = some u := by
  subst h
  intro j u hj
  rw [World.cell?_alloc_mark]
  match j, hj with
  | 0, hj => simpa using hj
end Go.Xk
namespace Go.Proofs.YteipafoiogkdoaaDoor
open Go.RowKit Go.Maps
theorem getD_byte (s : ByteArray) (k : Nat) (h : k < s.size) : s.data.toList.getD k 1 = s[k] := by
  rw [List.getD_eq_getElem?_getD, List.getElem?_eq_getElem (show k < s.data.toList.length from h)]; rfl
theorem own_bytes {W : World} {base : Nat} {v : Value} {t : List UInt8} (h : W.ownsRow base 5 1 v t.length (Xk.bcells t)) : (convert 22 9 v).run Tryd.prog W = .ok (.string ⟨t.toArray⟩) W :=
  Xk.Acc.str (.inl h) 22 9 5 Tryd.underlying22 Tryd.underlying5 Tryd.underlying9
theorem refTextR_end {l : List UInt8} {a k : Nat} {t : List UInt8} {Z : Int} (hak : a < k) (hk : k < l.length) (hT : P11.textOf (l.drop (a + 1)) = (P11.textOf (l.drop k)).map fun y => (t ++ y.1, y.2 + (k - (a + 1))))
    (hdk : l.drop k = 39 :: l.drop (k + 1)) (hq : (l.drop (k + 1)).head? ≠ some 39) (hz : ZeroAt l a (k + 1) Z) :
    (Z < 0 → refTextR l a = .tuple #[.string ⟨t.toArray⟩, .int .i64 (k + 1), .int .i64 0, .int .i64 0]) ∧ (¬ Z < 0 → refTextR l a = .tuple #[.string ⟨#[]⟩, .int .i64 0, .int .i64 Z, .int .i64 111]) := by
  rw [hdk, P11.textOf_q _ hq] at hT
  have e1 : 1 + (k - (a + 1)) + 1 = k + 1 - a := by omega
  have e2 : a + 1 + (1 + (k - (a + 1))) = k + 1 := by omega
  constructor
  · intro hn
    have hZ : Z = -1 := by rcases hz.ge with h | h <;> omega
    subst hZ
    have h0 := no_zero hz (by omega) (by omega)
    unfold refTextR
    rw [hT]
    simp only [Option.map_some, List.append_nil]
    rw [e1, h0, e2]
    rfl
  · intro hn
    obtain ⟨n, rfl⟩ : ∃ n : Nat, Z = n := ⟨Z.toNat, by omega⟩
    obtain ⟨h0, h1⟩ := one_zero hz (by omega)
    unfold refTextR
    rw [hT]
    simp only [Option.map_some, List.append_nil]
    rw [e1, h0, if_pos rfl, h1]
theorem own_snoc {W : World} {base : Nat} {v : Value} {t : List UInt8} {c : UInt8} (h : W.ownsRow base 5 1 v (t.length + 1) (Xk.bcells t ++ [.int .u8 c.toNat])) : W.ownsRow base 5 1 v (t ++ [c]).length (Xk.bcells (t ++ [c])) := by
  rw [← Xk.bcells_snoc, List.length_append]; exact h
set_option maxRecDepth 100000 in
set_option maxHeartbeats 4000000 in
theorem refText_any (s : ByteArray) (a : Nat) (ha : a < s.size) (hc0 : s[a] = 39) (hs : s.size ≤ 1000000) (w : World) :
    Calls Tryd.prog 32 #[.string s, .int .i64 a] w fun e w' => e = .returned (refTextR s.data.toList a) ∧ Below w.heap.size w w' := by
  have hz0 : ZeroAt s.data.toList a (a + 1) (-1) := .inl ⟨rfl, fun j h1 h2 => by
    obtain rfl : j = a := by omega
    rw [getD_byte s j ha, hc0]; decide⟩
  have HZ0 := Lib.hid hz0
  have HA := Lib.hid ha
  clear hz0 hc0
  obtain ⟨i0, hi, hz0, hz1, hz2⟩ := info_parts Tryd.infoByte
  have Hi := Lib.hid hi
  have Hz0 := Lib.hid hz0
  have Hz1 := Lib.hid hz1
  have Hz2 := Lib.hid hz2
  clear hi hz0 hz1 hz2
  go_enter Tryd.func32, Tryd.ntmps32
  go_wp2
  go_loopw [8, 9, 10] (fun z v x wr => ∃ (k : Nat) (Z : Int) (t : List UInt8), a < k ∧ k ≤ s.size ∧ x = .int .i64 k ∧ z = .int .i64 Z ∧ t.length ≤ k ∧ Below w.heap.size w wr ∧ wr.ownsRow w.heap.size 5 1 v t.length (Xk.bcells t) ∧ ZeroAt s.data.toList a k Z ∧
      P11.textOf (s.data.toList.drop (a + 1)) = (P11.textOf (s.data.toList.drop k)).map fun y => (t ++ y.1, y.2 + (k - (a + 1)))) (fun _ _ x _ => s.size - (intOf x).toNat)
  case atStart => exact ⟨a + 1, -1, [], by omega, HA.out, rfl, rfl, by simp, Below.refl _ _, World.ownsRow_nil _ _ _ _, HZ0.out, by cases P11.textOf (s.data.toList.drop (a + 1)) <;> simp⟩
  case round =>
    obtain ⟨k, Z, t, hak, hk, rfl, rfl, htk, hB, hown, hZ, hT⟩ := hrel
    obtain ⟨p, rfl⟩ := Xk.exw_of hB
    have hge := hZ.ge
    have HO := Lib.hid hown
    have HZ := Lib.hid hZ
    have HT := Lib.hid hT
    have hcv := own_bytes hown
    clear hB hown hZ hT
    by_cases hlt : k < s.size
    · have hgd := getD_byte s k hlt
      have hdk := drop_at s k hlt
      have hb8 : (s[k].toNat : Int) < 256 := by have := s[k].toNat_lt; omega
      by_cases hc : s[k] = 39
      · have h39 : ((s[k].toNat : Int) == 39) = true := eq_byte hc 39 rfl
        rw [hc] at hdk hgd
        have hz' := HZ.out.skip (by rw [hgd]; decide)
        clear hgd
        by_cases he : k + 1 < s.size
        · have he1 : ((k : Int) + 1 == (s.size : Int)) = false := by rw [beq_eq_false_iff_ne]; omega
          have he2 : (k : Int) + 1 < (s.size : Int) := by omega
          by_cases hc2 : s[k + 1] = 39
          · have hd2 := drop_at s (k + 1) he
            rw [hc2] at hd2
            have f1 : ((s[k + 1].toNat : Int) == 39) = true := eq_byte hc2 39 rfl
            have f2 : ((s[k + 1].toNat : Int) != 39) = false := by rw [bne, f1]; rfl
            have f3 : ((s[k + 1].toNat : Int) == 0) = false := ne_byte (d := 0) (by rw [hc2]; decide) 0 rfl
            have f8 : (s[k + 1].toNat : Int) < 256 := by have := s[k + 1].toNat_lt; omega
            have hz2 := hz'.skip (by rw [getD_byte s (k + 1) he, hc2]; decide)
            have hT' : P11.textOf (s.data.toList.drop (a + 1)) = (P11.textOf (s.data.toList.drop (k + 2))).map fun y => (t ++ [s[k + 1]] ++ y.1, y.2 + (k + 2 - (a + 1))) := by
              rw [HT.out, hdk, hd2, P11.textOf_qq, hc2]
              cases P11.textOf (s.data.toList.drop (k + 1 + 1)) with
              | none => rfl
              | some y => simp; omega
            have HT' := Lib.hid hT'
            have HZ' := Lib.hid hz2
            clear hT' hdk hc hc2 hcv hz' hz2 hd2
            go_wp2_with (at_builtin; refine Xk.wpList_own (w0 := w) rfl _ _ 22 rfl 5 i0 _ 1 1 Tryd.underlying22 Hi.out Hz0.out Hz1.out Hz2.out rfl (by decide) u9 t.length (Xk.bcells t) rfl (by repeat (first | with_reducible exact HO.out | with_reducible refine Xk.own_alloc ?_ _ | with_reducible refine Xk.own_drew ?_ | with_reducible exact Xk.own_d HO.out | with_reducible refine Xk.own_more (d := 0) ?_)) _ 0 1 1 [.int .u8 s[k + 1].toNat] rfl rfl (Xk.cells1 (by simp)) (by intro u hu; simp only [List.mem_cons, List.not_mem_nil, or_false] at hu; rcases hu with rfl; rfl) (by omega) (by repeat (first | with_reducible exact Below.refl _ _ | ((with_reducible refine Below.setCell ?_ ?_ _); rotate_left; exact (by (try simp only [World.size_alloc, Xk.exw_size, World.size_setCell, World.size_drew, World.heap_drewN]); omega)) | ((with_reducible refine Below.alloc ?_ ?_ _); rotate_left; exact (by (try simp only [World.size_alloc, Xk.exw_size, World.size_setCell, World.size_drew, World.heap_drewN]); omega)) | ((with_reducible refine Xk.below_exw ?_ ?_ _); rotate_left; exact (by (try simp only [World.size_alloc, Xk.exw_size, World.size_setCell, World.size_drew, World.heap_drewN]); omega)) | (with_reducible refine Below.drew ?_))) ?_; intro v' p' ho'; have Ho := Lib.hid ho'; clear ho')
            go_roundw
            case rel => exact ⟨k + 2, Z, t ++ [s[k + 1]], by omega, by omega, by go_num, rfl, by rw [List.length_append, List.length_singleton]; omega, (by repeat (first | with_reducible exact Below.refl _ _ | ((with_reducible refine Below.setCell ?_ ?_ _); rotate_left; exact (by (try simp only [World.size_alloc, Xk.exw_size, World.size_setCell, World.size_drew, World.heap_drewN]); omega)) | ((with_reducible refine Below.alloc ?_ ?_ _); rotate_left; exact (by (try simp only [World.size_alloc, Xk.exw_size, World.size_setCell, World.size_drew, World.heap_drewN]); omega)) | ((with_reducible refine Xk.below_exw ?_ ?_ _); rotate_left; exact (by (try simp only [World.size_alloc, Xk.exw_size, World.size_setCell, World.size_drew, World.heap_drewN]); omega)) | (with_reducible refine Below.drew ?_))), own_snoc Ho.out, HZ'.out, HT'.out⟩
            case measure => simp [intOf]; omega
          · have f1 : ((s[k + 1].toNat : Int) == 39) = false := ne_byte hc2 39 rfl
            have f2 : ((s[k + 1].toNat : Int) != 39) = true := by rw [bne, f1]; rfl
            have hend := refTextR_end hak hlt HT.out hdk (by rw [drop_at s (k + 1) he]; intro h; exact hc2 (Option.some.inj h)) hz'
            have HEnd := Lib.hid hend
            clear hend hdk hc hc2 hz'
            by_cases hzn : Z < 0
            · go_wp2
              rw [HEnd.out.1 hzn]
              exact bodyPost_ret (v := .tuple #[.string ⟨t.toArray⟩, .int .i64 (k + 1), .int .i64 0, .int .i64 0]) (by simp [results, Tryd.results32, go_sem]) rfl ⟨rfl, (by repeat (first | with_reducible exact Below.refl _ _ | ((with_reducible refine Below.setCell ?_ ?_ _); rotate_left; exact (by (try simp only [World.size_alloc, Xk.exw_size, World.size_setCell, World.size_drew, World.heap_drewN]); omega)) | ((with_reducible refine Below.alloc ?_ ?_ _); rotate_left; exact (by (try simp only [World.size_alloc, Xk.exw_size, World.size_setCell, World.size_drew, World.heap_drewN]); omega)) | ((with_reducible refine Xk.below_exw ?_ ?_ _); rotate_left; exact (by (try simp only [World.size_alloc, Xk.exw_size, World.size_setCell, World.size_drew, World.heap_drewN]); omega)) | (with_reducible refine Below.drew ?_)))⟩
            · have hzn2 : 0 ≤ Z := by omega
              go_wp2
              rw [HEnd.out.2 hzn]
              exact bodyPost_ret (v := .tuple #[.string ⟨#[]⟩, .int .i64 0, .int .i64 Z, .int .i64 111]) (by simp [results, Tryd.results32, go_sem]) rfl ⟨rfl, (by repeat (first | with_reducible exact Below.refl _ _ | ((with_reducible refine Below.setCell ?_ ?_ _); rotate_left; exact (by (try simp only [World.size_alloc, Xk.exw_size, World.size_setCell, World.size_drew, World.heap_drewN]); omega)) | ((with_reducible refine Below.alloc ?_ ?_ _); rotate_left; exact (by (try simp only [World.size_alloc, Xk.exw_size, World.size_setCell, World.size_drew, World.heap_drewN]); omega)) | ((with_reducible refine Xk.below_exw ?_ ?_ _); rotate_left; exact (by (try simp only [World.size_alloc, Xk.exw_size, World.size_setCell, World.size_drew, World.heap_drewN]); omega)) | (with_reducible refine Below.drew ?_)))⟩
        · have he0 : k + 1 = s.size := by omega
          have he1 : ((k : Int) + 1 == (s.size : Int)) = true := by rw [beq_iff_eq]; omega
          have hend := refTextR_end hak hlt HT.out hdk (by rw [he0, List.drop_of_length_le (Nat.le_refl s.size)]; decide) hz'
          have HEnd := Lib.hid hend
          clear hend hdk hc hz' he0
          by_cases hzn : Z < 0
          · go_wp2
            rw [HEnd.out.1 hzn]
            exact bodyPost_ret (v := .tuple #[.string ⟨t.toArray⟩, .int .i64 (k + 1), .int .i64 0, .int .i64 0]) (by simp [results, Tryd.results32, go_sem]) rfl ⟨rfl, (by repeat (first | with_reducible exact Below.refl _ _ | ((with_reducible refine Below.setCell ?_ ?_ _); rotate_left; exact (by (try simp only [World.size_alloc, Xk.exw_size, World.size_setCell, World.size_drew, World.heap_drewN]); omega)) | ((with_reducible refine Below.alloc ?_ ?_ _); rotate_left; exact (by (try simp only [World.size_alloc, Xk.exw_size, World.size_setCell, World.size_drew, World.heap_drewN]); omega)) | ((with_reducible refine Xk.below_exw ?_ ?_ _); rotate_left; exact (by (try simp only [World.size_alloc, Xk.exw_size, World.size_setCell, World.size_drew, World.heap_drewN]); omega)) | (with_reducible refine Below.drew ?_)))⟩
          · have hzn2 : 0 ≤ Z := by omega
            go_wp2
            rw [HEnd.out.2 hzn]
            exact bodyPost_ret (v := .tuple #[.string ⟨#[]⟩, .int .i64 0, .int .i64 Z, .int .i64 111]) (by simp [results, Tryd.results32, go_sem]) rfl ⟨rfl, (by repeat (first | with_reducible exact Below.refl _ _ | ((with_reducible refine Below.setCell ?_ ?_ _); rotate_left; exact (by (try simp only [World.size_alloc, Xk.exw_size, World.size_setCell, World.size_drew, World.heap_drewN]); omega)) | ((with_reducible refine Below.alloc ?_ ?_ _); rotate_left; exact (by (try simp only [World.size_alloc, Xk.exw_size, World.size_setCell, World.size_drew, World.heap_drewN]); omega)) | ((with_reducible refine Xk.below_exw ?_ ?_ _); rotate_left; exact (by (try simp only [World.size_alloc, Xk.exw_size, World.size_setCell, World.size_drew, World.heap_drewN]); omega)) | (with_reducible refine Below.drew ?_)))⟩
      · have h39 : ((s[k].toNat : Int) == 39) = false := ne_byte hc 39 rfl
        have hT' : P11.textOf (s.data.toList.drop (a + 1)) = (P11.textOf (s.data.toList.drop (k + 1))).map fun y => (t ++ [s[k]] ++ y.1, y.2 + (k + 1 - (a + 1))) := by
          rw [HT.out, hdk, P11.textOf_ne _ _ hc]
          cases P11.textOf (s.data.toList.drop (k + 1)) with
          | none => rfl
          | some y => simp; omega
        have HT' := Lib.hid hT'
        clear hT' hdk hc hcv
        by_cases h0 : s[k] = 0
        · have h00 : ((s[k].toNat : Int) == 0) = true := eq_byte h0 0 rfl
          by_cases hzn : Z < 0
          · obtain rfl : Z = -1 := by omega
            have hz' := HZ.out.hit (by omega) (by rw [hgd]; exact h0)
            have HZ' := Lib.hid hz'
            clear hz' h0 hgd hge
            go_wp2_with (at_builtin; refine Xk.wpList_own (w0 := w) rfl _ _ 22 rfl 5 i0 _ 1 1 Tryd.underlying22 Hi.out Hz0.out Hz1.out Hz2.out rfl (by decide) u9 t.length (Xk.bcells t) rfl (by repeat (first | with_reducible exact HO.out | with_reducible refine Xk.own_alloc ?_ _ | with_reducible refine Xk.own_drew ?_ | with_reducible exact Xk.own_d HO.out | with_reducible refine Xk.own_more (d := 0) ?_)) _ 0 1 1 [.int .u8 s[k].toNat] rfl rfl (Xk.cells1 (by simp)) (by intro u hu; simp only [List.mem_cons, List.not_mem_nil, or_false] at hu; rcases hu with rfl; rfl) (by omega) (by repeat (first | with_reducible exact Below.refl _ _ | ((with_reducible refine Below.setCell ?_ ?_ _); rotate_left; exact (by (try simp only [World.size_alloc, Xk.exw_size, World.size_setCell, World.size_drew, World.heap_drewN]); omega)) | ((with_reducible refine Below.alloc ?_ ?_ _); rotate_left; exact (by (try simp only [World.size_alloc, Xk.exw_size, World.size_setCell, World.size_drew, World.heap_drewN]); omega)) | ((with_reducible refine Xk.below_exw ?_ ?_ _); rotate_left; exact (by (try simp only [World.size_alloc, Xk.exw_size, World.size_setCell, World.size_drew, World.heap_drewN]); omega)) | (with_reducible refine Below.drew ?_))) ?_; intro v' p' ho'; have Ho := Lib.hid ho'; clear ho')
            go_roundw
            case rel => exact ⟨k + 1, k, t ++ [s[k]], by omega, by omega, by go_num, rfl, by rw [List.length_append, List.length_singleton]; omega, (by repeat (first | with_reducible exact Below.refl _ _ | ((with_reducible refine Below.setCell ?_ ?_ _); rotate_left; exact (by (try simp only [World.size_alloc, Xk.exw_size, World.size_setCell, World.size_drew, World.heap_drewN]); omega)) | ((with_reducible refine Below.alloc ?_ ?_ _); rotate_left; exact (by (try simp only [World.size_alloc, Xk.exw_size, World.size_setCell, World.size_drew, World.heap_drewN]); omega)) | ((with_reducible refine Xk.below_exw ?_ ?_ _); rotate_left; exact (by (try simp only [World.size_alloc, Xk.exw_size, World.size_setCell, World.size_drew, World.heap_drewN]); omega)) | (with_reducible refine Below.drew ?_))), own_snoc Ho.out, HZ'.out, HT'.out⟩
            case measure => simp [intOf]; omega
          · have hzn2 : 0 ≤ Z := by omega
            have hz' := HZ.out.more hzn2
            have HZ' := Lib.hid hz'
            clear hz' h0 hgd hge
            go_wp2_with (at_builtin; refine Xk.wpList_own (w0 := w) rfl _ _ 22 rfl 5 i0 _ 1 1 Tryd.underlying22 Hi.out Hz0.out Hz1.out Hz2.out rfl (by decide) u9 t.length (Xk.bcells t) rfl (by repeat (first | with_reducible exact HO.out | with_reducible refine Xk.own_alloc ?_ _ | with_reducible refine Xk.own_drew ?_ | with_reducible exact Xk.own_d HO.out | with_reducible refine Xk.own_more (d := 0) ?_)) _ 0 1 1 [.int .u8 s[k].toNat] rfl rfl (Xk.cells1 (by simp)) (by intro u hu; simp only [List.mem_cons, List.not_mem_nil, or_false] at hu; rcases hu with rfl; rfl) (by omega) (by repeat (first | with_reducible exact Below.refl _ _ | ((with_reducible refine Below.setCell ?_ ?_ _); rotate_left; exact (by (try simp only [World.size_alloc, Xk.exw_size, World.size_setCell, World.size_drew, World.heap_drewN]); omega)) | ((with_reducible refine Below.alloc ?_ ?_ _); rotate_left; exact (by (try simp only [World.size_alloc, Xk.exw_size, World.size_setCell, World.size_drew, World.heap_drewN]); omega)) | ((with_reducible refine Xk.below_exw ?_ ?_ _); rotate_left; exact (by (try simp only [World.size_alloc, Xk.exw_size, World.size_setCell, World.size_drew, World.heap_drewN]); omega)) | (with_reducible refine Below.drew ?_))) ?_; intro v' p' ho'; have Ho := Lib.hid ho'; clear ho')
            go_roundw
            case rel => exact ⟨k + 1, Z, t ++ [s[k]], by omega, by omega, by go_num, rfl, by rw [List.length_append, List.length_singleton]; omega, (by repeat (first | with_reducible exact Below.refl _ _ | ((with_reducible refine Below.setCell ?_ ?_ _); rotate_left; exact (by (try simp only [World.size_alloc, Xk.exw_size, World.size_setCell, World.size_drew, World.heap_drewN]); omega)) | ((with_reducible refine Below.alloc ?_ ?_ _); rotate_left; exact (by (try simp only [World.size_alloc, Xk.exw_size, World.size_setCell, World.size_drew, World.heap_drewN]); omega)) | ((with_reducible refine Xk.below_exw ?_ ?_ _); rotate_left; exact (by (try simp only [World.size_alloc, Xk.exw_size, World.size_setCell, World.size_drew, World.heap_drewN]); omega)) | (with_reducible refine Below.drew ?_))), own_snoc Ho.out, HZ'.out, HT'.out⟩
            case measure => simp [intOf]; omega
        · have h00 : ((s[k].toNat : Int) == 0) = false := ne_byte h0 0 rfl
          have hz' := HZ.out.skip (by rw [hgd]; exact h0)
          have HZ' := Lib.hid hz'
          clear hz' h0 hgd hge
          go_wp2_with (at_builtin; refine Xk.wpList_own (w0 := w) rfl _ _ 22 rfl 5 i0 _ 1 1 Tryd.underlying22 Hi.out Hz0.out Hz1.out Hz2.out rfl (by decide) u9 t.length (Xk.bcells t) rfl (by repeat (first | with_reducible exact HO.out | with_reducible refine Xk.own_alloc ?_ _ | with_reducible refine Xk.own_drew ?_ | with_reducible exact Xk.own_d HO.out | with_reducible refine Xk.own_more (d := 0) ?_)) _ 0 1 1 [.int .u8 s[k].toNat] rfl rfl (Xk.cells1 (by simp)) (by intro u hu; simp only [List.mem_cons, List.not_mem_nil, or_false] at hu; rcases hu with rfl; rfl) (by omega) (by repeat (first | with_reducible exact Below.refl _ _ | ((with_reducible refine Below.setCell ?_ ?_ _); rotate_left; exact (by (try simp only [World.size_alloc, Xk.exw_size, World.size_setCell, World.size_drew, World.heap_drewN]); omega)) | ((with_reducible refine Below.alloc ?_ ?_ _); rotate_left; exact (by (try simp only [World.size_alloc, Xk.exw_size, World.size_setCell, World.size_drew, World.heap_drewN]); omega)) | ((with_reducible refine Xk.below_exw ?_ ?_ _); rotate_left; exact (by (try simp only [World.size_alloc, Xk.exw_size, World.size_setCell, World.size_drew, World.heap_drewN]); omega)) | (with_reducible refine Below.drew ?_))) ?_; intro v' p' ho'; have Ho := Lib.hid ho'; clear ho')
          go_roundw
          case rel => exact ⟨k + 1, Z, t ++ [s[k]], by omega, by omega, by go_num, rfl, by rw [List.length_append, List.length_singleton]; omega, (by repeat (first | with_reducible exact Below.refl _ _ | ((with_reducible refine Below.setCell ?_ ?_ _); rotate_left; exact (by (try simp only [World.size_alloc, Xk.exw_size, World.size_setCell, World.size_drew, World.heap_drewN]); omega)) | ((with_reducible refine Below.alloc ?_ ?_ _); rotate_left; exact (by (try simp only [World.size_alloc, Xk.exw_size, World.size_setCell, World.size_drew, World.heap_drewN]); omega)) | ((with_reducible refine Xk.below_exw ?_ ?_ _); rotate_left; exact (by (try simp only [World.size_alloc, Xk.exw_size, World.size_setCell, World.size_drew, World.heap_drewN]); omega)) | (with_reducible refine Below.drew ?_))), own_snoc Ho.out, HZ'.out, HT'.out⟩
          case measure => simp [intOf]; omega
    · have hend : refTextR s.data.toList a = .tuple #[.string ⟨#[]⟩, .int .i64 0, .int .i64 a, .int .i64 112] := by
        unfold refTextR
        rw [HT.out, List.drop_of_length_le (show s.data.toList.length ≤ k from by show s.size ≤ k; omega)]
        rfl
      have HEnd := Lib.hid hend
      clear hend hcv
      go_wp2
      rw [HEnd.out]
      exact bodyPost_ret (v := .tuple #[.string ⟨#[]⟩, .int .i64 0, .int .i64 a, .int .i64 112]) (by simp [results, Tryd.results32, go_sem]) rfl ⟨rfl, (by repeat (first | with_reducible exact Below.refl _ _ | ((with_reducible refine Below.setCell ?_ ?_ _); rotate_left; exact (by (try simp only [World.size_alloc, Xk.exw_size, World.size_setCell, World.size_drew, World.heap_drewN]); omega)) | ((with_reducible refine Below.alloc ?_ ?_ _); rotate_left; exact (by (try simp only [World.size_alloc, Xk.exw_size, World.size_setCell, World.size_drew, World.heap_drewN]); omega)) | ((with_reducible refine Xk.below_exw ?_ ?_ _); rotate_left; exact (by (try simp only [World.size_alloc, Xk.exw_size, World.size_setCell, World.size_drew, World.heap_drewN]); omega)) | (with_reducible refine Below.drew ?_)))⟩
end Go.Proofs.YteipafoiogkdoaaDoor
