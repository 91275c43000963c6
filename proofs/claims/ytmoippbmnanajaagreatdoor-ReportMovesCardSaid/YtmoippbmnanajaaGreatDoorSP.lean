/- Walks: pantilelaw25.ended, ReportWide. -/
import Derived.Test.YtmoippbmnanajaaGreatDoorSO
set_option linter.unusedSimpArgs false
set_option linter.unusedVariables false
namespace P25
/-- A text at the end of so many places. -/
def ended (n : Nat) (s : List UInt8) : List UInt8 := List.replicate (n - s.length) 32 ++ s ++ [10]
/-- How wide a column of numbers is. -/
def wideOf (n : List UInt8) (vs : List Int) : Nat := vs.foldl (fun m v => max m (Go.Lib.itoa v).length) n.length
theorem wideOf_take (n : List UInt8) (vs : List Int) (k : Nat) (h : k < vs.length) : wideOf n (vs.take (k + 1)) = max (wideOf n (vs.take k)) (Go.Lib.itoa vs[k]).length := by
  unfold wideOf
  rw [List.take_succ_eq_append_getElem h, List.foldl_append]; rfl
theorem fold_le (M : Nat) : ∀ (vs : List Int) (a : Nat), a ≤ M → (∀ v ∈ vs, (Go.Lib.itoa v).length ≤ M) → vs.foldl (fun m v => max m (Go.Lib.itoa v).length) a ≤ M
  | [], a, h, _ => h
  | v :: vs, a, h, hv => fold_le M vs _ (Nat.max_le.2 ⟨h, hv v (List.mem_cons_self ..)⟩) fun u hu => hv u (List.mem_cons_of_mem _ hu)
theorem wideOf_le (n : List UInt8) (vs : List Int) (hn : n.length ≤ 21) (hv : ∀ v ∈ vs, (Go.Lib.itoa v).length ≤ 21) : wideOf n vs ≤ 21 := fold_le 21 vs _ hn hv
theorem ended_length (n : Nat) (s : List UInt8) (hs : s.length ≤ 21) (hn : n ≤ 21) : (ended n s).length ≤ 22 := by
  unfold ended; simp; omega
def wideTable (n : List UInt8) (vs : List Int) : List UInt8 := ended (wideOf n vs) n ++ List.replicate (wideOf n vs) 45 ++ [10] ++ (vs.map fun v => ended (wideOf n vs) (Go.Lib.itoa v)).flatten
end P25
namespace Go.Proofs.YtmoippbmnanajaaGreatDoor
open Go.RowKit
/-- A row of one number. -/
def numRow (v : Int) : List V := [⟨2, v, ⟨#[]⟩⟩]
theorem numRow_cells (v : Int) : rowOf (numRow v) = [(true, Lib.itoa v)] := by
  have h : P25.clean (Lib.itoa v) = Lib.itoa v := P25.clean_same (itoa_not (by decide) (by decide))
  have e : P6.printV 2 v [] = Lib.itoa v := print_int v
  simp [rowOf, numRow, cellOf, P6.isV, e, h]
theorem col_num (n : List UInt8) : ∀ (vs : List Int) (s : P25.Col), s.ints = true → ((vs.map numRow).map rowOf).foldl (P25.Col.step 0) s = ⟨vs.foldl (fun m v => max m (Lib.itoa v).length) s.wide, s.n + vs.length, true⟩
  | [], s, h => by obtain ⟨a, b, c⟩ := s; simp at h; subst h; rfl
  | v :: vs, s, h => by
    rw [List.map_cons, List.map_cons, List.foldl_cons, P25.Col.step_some (c := (true, Lib.itoa v)) (by rw [numRow_cells]; rfl), col_num n vs _ (by simp [h])]
    simp only [List.length_cons, P25.Col.mk.injEq, true_and, and_true, List.foldl_cons]
    omega
theorem firm_itoa (v : Int) : P25.Firm (Lib.itoa v) := firm_of (P25.itoa_mem v).1 (itoa_not (by decide) (by decide))
theorem line_num (wide : Nat) (t : List UInt8) (h : P25.Firm t) : P25.line [(wide, true)] [t] = P25.ended wide t := by
  unfold P25.line P25.ended
  have e : Lib.join (P25.pads [(wide, true)] [t]) P25.bar = List.replicate (wide - t.length) 32 ++ t := by simp [P25.pads, P25.pad, Lib.join_one]
  rw [e]
  obtain ⟨u, d, hd, hn⟩ := h.last
  rw [(P25.trimRight_app _ t ⟨d, by rw [hd]; simp, hn⟩).1]
  have := h.trim 0
  simp only [List.replicate_zero, List.append_nil] at this
  rw [this]
theorem wide_table (n : List UInt8) (vs : List Int) (hn : P25.Firm n) (h10 : P25.clean n = n) (hv : vs ≠ []) (cnt : Int) : P25.table [n] ((vs.map numRow).map rowOf) cnt = P25.wideTable n vs := by
  have hcol : P25.cols [n] ((vs.map numRow).map rowOf) = [(P25.wideOf n vs, true)] := by
    unfold P25.cols P25.col
    simp only [List.length_cons, List.length_nil, List.range_succ, List.range_zero, List.nil_append, List.map_cons, List.map_nil, List.getD_cons_zero]
    rw [col_num n vs _ rfl]
    have : 0 < vs.length := List.length_pos_iff.2 hv
    simp [P25.Col.out, P25.wideOf, this]
  unfold P25.table
  rw [if_neg (by simp)]
  rw [hcol]
  unfold P25.tableOf P25.wideTable
  rw [List.map_cons, List.map_nil, h10, line_num _ _ hn]
  have hr : Lib.join (P25.rules [(P25.wideOf n vs, true)]) P25.cross = List.replicate (P25.wideOf n vs) 45 := by simp [P25.rules, Lib.join_one]
  rw [hr]
  congr 1
  unfold P25.lines
  rw [List.map_map, List.map_map]
  congr 1
  apply List.map_congr_left
  intro v hv
  simp only [Function.comp_apply, numRow_cells]
  rw [show P25.cells [(true, Lib.itoa v)] [n].length = [Lib.itoa v] from rfl, line_num _ _ (firm_itoa v)]
set_option maxRecDepth 100000 in
set_option maxHeartbeats 4000000 in
theorem ended_any (n : Nat) (s : List UInt8) (hn : n ≤ 4000000) (hs : s.length ≤ 4000000) (w : World) :
    Calls Tryz.prog 16 #[.int .i64 n, .string ⟨s.toArray⟩] w fun e w' => e = .returned (.string ⟨(P25.ended n s).toArray⟩) ∧ Below w.heap.size w w' := by
  go_enter Tryz.func16, Tryz.ntmps16
  go_wp2
  go_loopw [1] (fun x wr => ∃ (k : Nat) (t : List UInt8), k ≤ n - s.length ∧ t = List.replicate k 32 ++ s ∧ x = .string ⟨t.toArray⟩ ∧ Below w.heap.size w wr) (fun x _ => match x with | .string b => n - b.size | _ => 0)
  case atStart => exact ⟨0, s, Nat.zero_le _, rfl, rfl, Below.refl _ _⟩
  case round =>
    obtain ⟨k, t, hk, ht, rfl, hbw⟩ := hrel
    have htl : t.length = k + s.length := by rw [ht]; simp
    have HT := Lib.hid ht
    have HB := Lib.hid hbw
    clear ht hbw
    by_cases hlt : t.length < n
    · have hltb : (t.length : Int) < (n : Int) := by omega
      have Happ : Hid (((⟨#[32]⟩ : ByteArray) ++ ⟨t.toArray⟩) = ⟨((32 : UInt8) :: t).toArray⟩) := Lib.hid (by apply bytes_ext; simp)
      go_wp2
      go_roundw
      case rel => exact ⟨k + 1, 32 :: t, by omega, by rw [HT.out, List.replicate_succ, List.cons_append], congrArg Value.string Happ.out, HB.out⟩
      case measure => (have h := congrArg ByteArray.size Happ.out; simp [ByteArray.size] at h ⊢; omega)
    · have hltb : ¬ (t.length : Int) < (n : Int) := by omega
      have hke : k = n - s.length := by omega
      have Happ : Hid (((⟨t.toArray⟩ : ByteArray) ++ ⟨#[10]⟩) = ⟨(P25.ended n s).toArray⟩) := Lib.hid (by apply bytes_ext; rw [HT.out, hke]; simp [P25.ended])
      go_wp2
      go_ret
      exact ⟨congrArg (fun s => Ending.returned (.string s)) Happ.out, HB.out⟩
theorem firm_n (m : Nat) (h : 0 < m) : P25.Firm (List.replicate m 110) ∧ P25.clean (List.replicate m 110) = List.replicate m 110 := by
  refine ⟨firm_of (by simp; omega) fun b hb => ?_, P25.clean_same fun b hb => ?_⟩
  · rw [List.eq_of_mem_replicate hb]; decide
  · rw [List.eq_of_mem_replicate hb]; decide
def intR32 (w : World) (b o : Nat) (x : Int) : Prop := w.cell? ⟨b, o, none⟩ = some (.int .i32 x) ∧ -2147483648 ≤ x ∧ x ≤ 2147483647
abbrev Ints32 := SlAt 1 intR32
set_option maxRecDepth 100000 in
set_option maxHeartbeats 8000000 in
theorem reportWide_any (v : Value) (vs : List Int) (nm : Nat) (w : World) (hE : EnvR w) (hv : Ints32 w v vs) (hl : vs.length ≤ maxLen) (hnm : nm ≤ 255) :
    Calls Tryz.prog 6 #[v, .int .u8 nm] w fun e w' => e = .returned (.bool true) ∧ Below w.heap.size w w' := by
  have HKn := Lib.hid fun W (hx : Xk.Ext w W) => knownR_any W (hE.ext hx)
  have HE := Lib.hid hE
  obtain ⟨pa, cap, rfl, -, hc⟩ := hv
  unfold maxLen at hl
  by_cases h1 : vs.length < 1
  · have hb : (vs.length : Int) < 1 := by omega
    clear hE hc
    go_enter Tryz.func6, Tryz.ntmps6
    go_wp2_with (first | (go_at_call 8; (with_reducible refine (HKn.out _ (by repeat (first | with_reducible exact Below.refl _ _ | ((with_reducible refine Below.setCell ?_ ?_ _); rotate_left; exact (by (try simp only [World.size_alloc, Xk.exw_size, World.size_setCell, World.size_drew, World.heap_drewN]); omega)) | ((with_reducible refine Below.alloc ?_ ?_ _); rotate_left; exact (by (try simp only [World.size_alloc, Xk.exw_size, World.size_setCell, World.size_drew, World.heap_drewN]); omega)) | ((with_reducible refine Xk.below_exw ?_ ?_ _); rotate_left; exact (by (try simp only [World.size_alloc, Xk.exw_size, World.size_setCell, World.size_drew, World.heap_drewN]); omega)) | (with_reducible refine Below.drew ?_)))).mono ?_); rintro e w' ⟨rfl, hb⟩; obtain ⟨p, rfl⟩ := Xk.exw_of hb; clear hb))
    go_ret
    exact ⟨rfl, (by repeat (first | with_reducible exact Below.refl _ _ | ((with_reducible refine Below.setCell ?_ ?_ _); rotate_left; exact (by (try simp only [World.size_alloc, Xk.exw_size, World.size_setCell, World.size_drew, World.heap_drewN]); omega)) | ((with_reducible refine Below.alloc ?_ ?_ _); rotate_left; exact (by (try simp only [World.size_alloc, Xk.exw_size, World.size_setCell, World.size_drew, World.heap_drewN]); omega)) | ((with_reducible refine Xk.below_exw ?_ ?_ _); rotate_left; exact (by (try simp only [World.size_alloc, Xk.exw_size, World.size_setCell, World.size_drew, World.heap_drewN]); omega)) | (with_reducible refine Below.drew ?_)))⟩
  by_cases h2 : 30 < vs.length
  · have hb : ¬ (vs.length : Int) < 1 := by omega
    have hb2 : 30 < (vs.length : Int) := by omega
    clear hE hc
    go_enter Tryz.func6, Tryz.ntmps6
    go_wp2_with (first | (go_at_call 8; (with_reducible refine (HKn.out _ (by repeat (first | with_reducible exact Below.refl _ _ | ((with_reducible refine Below.setCell ?_ ?_ _); rotate_left; exact (by (try simp only [World.size_alloc, Xk.exw_size, World.size_setCell, World.size_drew, World.heap_drewN]); omega)) | ((with_reducible refine Below.alloc ?_ ?_ _); rotate_left; exact (by (try simp only [World.size_alloc, Xk.exw_size, World.size_setCell, World.size_drew, World.heap_drewN]); omega)) | ((with_reducible refine Xk.below_exw ?_ ?_ _); rotate_left; exact (by (try simp only [World.size_alloc, Xk.exw_size, World.size_setCell, World.size_drew, World.heap_drewN]); omega)) | (with_reducible refine Below.drew ?_)))).mono ?_); rintro e w' ⟨rfl, hb⟩; obtain ⟨p, rfl⟩ := Xk.exw_of hb; clear hb))
    go_ret
    exact ⟨rfl, (by repeat (first | with_reducible exact Below.refl _ _ | ((with_reducible refine Below.setCell ?_ ?_ _); rotate_left; exact (by (try simp only [World.size_alloc, Xk.exw_size, World.size_setCell, World.size_drew, World.heap_drewN]); omega)) | ((with_reducible refine Below.alloc ?_ ?_ _); rotate_left; exact (by (try simp only [World.size_alloc, Xk.exw_size, World.size_setCell, World.size_drew, World.heap_drewN]); omega)) | ((with_reducible refine Xk.below_exw ?_ ?_ _); rotate_left; exact (by (try simp only [World.size_alloc, Xk.exw_size, World.size_setCell, World.size_drew, World.heap_drewN]); omega)) | (with_reducible refine Below.drew ?_)))⟩
  have hb : ¬ (vs.length : Int) < 1 := by omega
  have hb2 : ¬ 30 < (vs.length : Int) := by omega
  have HC := Lib.hid hc
  clear hE hc
  go_enter Tryz.func6, Tryz.ntmps6
  go_wp2_with (first | (go_at_call 8; (with_reducible refine (HKn.out _ (by repeat (first | with_reducible exact Below.refl _ _ | ((with_reducible refine Below.setCell ?_ ?_ _); rotate_left; exact (by (try simp only [World.size_alloc, Xk.exw_size, World.size_setCell, World.size_drew, World.heap_drewN]); omega)) | ((with_reducible refine Below.alloc ?_ ?_ _); rotate_left; exact (by (try simp only [World.size_alloc, Xk.exw_size, World.size_setCell, World.size_drew, World.heap_drewN]); omega)) | ((with_reducible refine Xk.below_exw ?_ ?_ _); rotate_left; exact (by (try simp only [World.size_alloc, Xk.exw_size, World.size_setCell, World.size_drew, World.heap_drewN]); omega)) | (with_reducible refine Below.drew ?_)))).mono ?_); rintro e w' ⟨rfl, hb⟩; obtain ⟨p, rfl⟩ := Xk.exw_of hb; clear hb))
  have HB1 : Hid (Xk.Ext w (Xk.exw w p)) := Lib.hid (Xk.ext_exw _ _)
  generalize Xk.exw w p = W1 at HB1
  go_loopw [5, 6] (fun s x wr => ∃ (k : Nat) (t : List UInt8), k ≤ nm % 12 + 1 ∧ x = .int .i64 k ∧ s = .string ⟨t.toArray⟩ ∧ t = List.replicate k (110 : UInt8) ∧ Below W1.heap.size W1 wr) (fun _ x _ => nm % 12 + 1 - (intOf x).toNat)
  case atStart => exact ⟨0, [], Nat.zero_le _, rfl, rfl, rfl, Below.refl _ _⟩
  case round =>
    obtain ⟨k, t, hk, rfl, rfl, ht, hbw⟩ := hrel
    have htl : t.length = k := by rw [ht]; simp
    have HT := Lib.hid ht
    have HB := Lib.hid hbw
    clear hbw ht
    by_cases hlt : k < nm % 12 + 1
    · have hlt2 : (k : Int) ≤ (nm : Int) % 12 := by omega
      have Happ : Hid (((⟨t.toArray⟩ : ByteArray) ++ ⟨#[110]⟩) = ⟨(t ++ [110]).toArray⟩) := Lib.hid (by apply bytes_ext; simp)
      clear hlt
      go_wp2
      go_roundw
      case rel => exact ⟨k + 1, t ++ [110], by omega, by go_num, congrArg Value.string Happ.out, by rw [HT.out, List.replicate_succ'], HB.out⟩
      case measure => simp [intOf]; omega
    · have hlt2 : ¬ (k : Int) ≤ (nm : Int) % 12 := by omega
      have hf := firm_n k (by omega)
      rw [← HT.out] at hf
      have HFn := Lib.hid hf.1
      have HCn := Lib.hid hf.2
      have htl2 : t.length ≤ 12 := by omega
      have HB2 := Lib.hid (Xk.Ext.trans HB1.out HB.out)
      clear hf HT hk hlt HB HB1
      go_wp2
      generalize hW2 : World.alloc _ _ = W2
      obtain ⟨Wb, hWb⟩ : ∃ Wb, Wb = wr := ⟨wr, rfl⟩
      have z0 : W2.heap.size = Wb.heap.size + 1 + 1 := by subst hW2; subst hWb; simp
      have a0 : W2.heap[Wb.heap.size]? = some (.cells #[.string ⟨t.toArray⟩] 9 (0, 0)) := by subst hW2; subst hWb; exact heap_alloc2_old _ _ _
      have a1 : W2.heap[Wb.heap.size + 1]? = some (ansObj (.slice (some ⟨Wb.heap.size, 0, none⟩) 1 1) (.slice none 0 0) 0) := by subst hW2; subst hWb; exact heap_alloc2_new _ _ _
      have hx2 : Below Wb.heap.size Wb W2 := by subst hW2; subst hWb; exact (by repeat (first | with_reducible exact Below.refl _ _ | ((with_reducible refine Below.setCell ?_ ?_ _); rotate_left; exact (by (try simp only [World.size_alloc, Xk.exw_size, World.size_setCell, World.size_drew, World.heap_drewN]); omega)) | ((with_reducible refine Below.alloc ?_ ?_ _); rotate_left; exact (by (try simp only [World.size_alloc, Xk.exw_size, World.size_setCell, World.size_drew, World.heap_drewN]); omega)) | ((with_reducible refine Xk.below_exw ?_ ?_ _); rotate_left; exact (by (try simp only [World.size_alloc, Xk.exw_size, World.size_setCell, World.size_drew, World.heap_drewN]); omega)) | (with_reducible refine Below.drew ?_)))
      have HB3 := Lib.hid hx2
      have A0 := Lib.hid a0
      have A1 := Lib.hid a1
      have Z0 := Lib.hid z0
      rw [← hWb]
      have HBb : Hid (Xk.Ext w Wb) := by rw [hWb]; exact HB2
      clear hW2 hx2 a0 a1 hWb HB2
      obtain ⟨i0, hi, hz0, hz1, hz2⟩ := info_parts Tryz.infoRow
      have Hi := Lib.hid hi
      have Hz0 := Lib.hid hz0
      have Hz1 := Lib.hid hz1
      have Hz2 := Lib.hid hz2
      clear hi hz0 hz1 hz2
      go_loopw [8, 9] (fun u8 u9 wr2 => ∃ (q : Nat) (pR : Option Addr) (cR : Nat) (us : List Value), q ≤ vs.length ∧ u8 = .int .i64 (P25.wideOf t (vs.take q)) ∧ u9 = .int .i64 q ∧ Wb.heap.size + 1 + 1 ≤ wr2.heap.size ∧ Below Wb.heap.size Wb wr2 ∧
        wr2.heap[Wb.heap.size]? = some (.cells #[.string ⟨t.toArray⟩] 9 (0, 0)) ∧ wr2.heap[Wb.heap.size + 1]? = some (ansObj (.slice (some ⟨Wb.heap.size, 0, none⟩) 1 1) (.slice pR q cR) 0) ∧
        wr2.ownsRow (Wb.heap.size + 1 + 1) 37 1 (.slice pR q cR) q us ∧
        ∀ (j : Nat) (u : Value) (l : List V), us[j]? = some u → (vs.map numRow)[j]? = some l → Xo.Lives (Wb.heap.size + 1 + 1) [(Value.slice pR q cR).ownBlock] wr2 (fun W => RowAt W u l)) (fun _ u9 _ => vs.length - (intOf u9).toNat)
      case atStart => exact ⟨0, none, 0, [], Nat.zero_le _, by rw [← htl]; rfl, rfl, by rw [Z0.out]; exact Nat.le_refl _, HB3.out, A0.out, A1.out, World.ownsRow_nil _ _ _ _, fun j u l h => by simp at h⟩
      case round =>
        clear HB3 A0 A1 Z0
        obtain ⟨q, pR, cR, us, hq, rfl, rfl, hsz, hbw, ha0, ha1, ho, hu⟩ := hrel
        have HB := Lib.hid hbw
        have HO := Lib.hid ho
        have HU := Lib.hid hu
        have HA0 := Lib.hid ha0
        have HA1 := Lib.hid ha1
        have lA1 := (Array.getElem?_eq_some_iff.1 ha1).1
        obtain ⟨f1, f2, f3, f4, f5, f6⟩ := Xe.cells_of3 ha1
        clear hbw ho hu ha0 ha1
        by_cases hlt : q < vs.length
        · have hx : vs[q]? = some (vs[q]'hlt) := List.getElem?_eq_getElem _
          have hwt := P25.wideOf_take t vs q hlt
          generalize vs[q]'hlt = x at hx hwt
          have HX := Lib.hid hx
          have HWt := Lib.hid hwt
          obtain ⟨b, off, rfl, d1, x0, x1⟩ := HC.out q x hx
          rw [Nat.mul_one] at d1
          have d1 := Xk.ext_cell (Xk.Ext.trans HBb.out HB.out) d1
          have l1 := World.block_lt_of_cell? _ _ d1
          have HP : Hid (∀ W, Calls Tryz.prog 15 #[.agg #[.int .i64 2, .int .i64 x, .string ⟨#[]⟩]] W fun e w' => e = .returned (.string ⟨(Lib.itoa x).toArray⟩) ∧ Below W.heap.size W w') := Lib.hid fun W => by
            have h := refPrint_any 2 x ⟨#[]⟩ (by omega) (by omega) (by decide) W
            rw [show P6.printV 2 x (⟨#[]⟩ : ByteArray).data.toList = Lib.itoa x from print_int x] at h
            exact h
          have hxl := Lib.itoa_length_le x (by omega) (by omega)
          have hqb : (q : Int) < (vs.length : Int) := by omega
          have hwr : IntKind.i64.wrap x = x := IntWalk.i64_in _ (by omega)
          clear hx hwt
          go_wp2_with (first
            | (at_builtin; refine Xo.wpList_appb (Wb.heap.size + 1 + 1) rfl _ _ 23 rfl 37 i0 _ 1 24 Tryz.underlying23 Hi.out Hz0.out Hz1.out Hz2.out rfl (by decide) (.slice pR q cR) q us rfl (by repeat (first | with_reducible exact HO.out | with_reducible refine Xo.own_alloc ?_ _ | with_reducible refine Xo.own_drew ?_ | with_reducible refine Xo.own_exw ?_ _)) _ 0 1 1 [.slice (some ⟨wr.heap.size + 1, 0, none⟩) 1 1] rfl (by decide) rfl (Xo.cells1 (by simp)) (Xo.one1 rfl) (by omega) (by simp only [World.size_alloc, World.heap_drewN, World.size_drew]; omega) ?_; intro v' w' ho' hg' hk'; obtain ⟨pz, cz, rfl⟩ := own_form ho' (by omega); have HO' := Lib.hid ho'; have HG' := Lib.hid hg'; have HK' := Lib.hid hk'; have hown := HO.out.lt; have hneA : some (Wb.heap.size + 1) ≠ (Value.slice pR q cR).ownBlock := (fun e => by have := (hown _ e.symm).1; omega); have hneB : some Wb.heap.size ≠ (Value.slice pR q cR).ownBlock := (fun e => by have := (hown _ e.symm).1; omega); have hneV : some wr.heap.size ≠ (Value.slice pR q cR).ownBlock := (fun e => by have := (hown _ e.symm).2; omega); have hxw := Xk.Ext.trans (Xk.Ext.trans (ext_alloc wr (.cells #[.int .i64 2, .int .i64 x, .string ⟨#[]⟩] 36)) (ext_alloc _ (.cells #[.int .i64 2, .int .i64 x, .string ⟨#[]⟩] 36))) (ext_alloc _ (.cells #[.slice (some ⟨wr.heap.size + 1, 0, none⟩) 1 1] 37)); have lB1 : Wb.heap.size < wr.heap.size := (by omega); have ha6 := (hg'.block (Wb.heap.size + 1) (Nat.lt_of_lt_of_le lA1 hxw.size) hneA).trans ((hxw.block _ lA1).trans HA1.out); have hb6 := (hg'.block Wb.heap.size (Nat.lt_of_lt_of_le lB1 hxw.size) hneB).trans ((hxw.block _ lB1).trans HA0.out); have hv6 := (hg'.block wr.heap.size (by simp only [World.size_alloc]; omega) hneV).trans (((Xk.Ext.trans (ext_alloc (wr.alloc (.cells #[.int .i64 2, .int .i64 x, .string ⟨#[]⟩] 36)) (.cells #[.int .i64 2, .int .i64 x, .string ⟨#[]⟩] 36)) (ext_alloc _ (.cells #[.slice (some ⟨wr.heap.size + 1, 0, none⟩) 1 1] 37))).block wr.heap.size (by simp)).trans (heap_alloc_new wr _)); have HX3 := Lib.hid hxw; have HA6 := Lib.hid ha6; have HB6 := Lib.hid hb6; obtain ⟨y1, y2, y3, y4, y5, y6⟩ := Xe.cells_of3 ha6; obtain ⟨v1, v2, v3, v4, v5, v6⟩ := Xe.cells_of3 hv6; have lA6 := (Array.getElem?_eq_some_iff.1 ha6).1; have lV6 := (Array.getElem?_eq_some_iff.1 hv6).1; have nAV : Wb.heap.size + 1 ≠ wr.heap.size := (by omega); clear ho' hg' hk' hown ha6 hb6 hv6 hxw)
            | (go_at_call 15; (with_reducible refine (HP.out _).mono ?_); rintro e w' ⟨rfl, hb⟩; obtain ⟨p, rfl⟩ := Xk.exw_of hb; clear hb))
          go_roundw
          case rel =>
            have husl : us.length = q := by have := HO.out.1; omega
            have hbX := Xk.Ext.trans HB.out HX3.out
            have hbG := hbX.grown HG'.out hbX.size (fun k hk => by have := (HO.out.lt k hk).1; omega)
            have h1 := HG'.out.size
            simp only [World.size_alloc] at h1
            refine ⟨q + 1, some ⟨pz, 0, none⟩, cz, us ++ [.slice (some ⟨wr.heap.size + 1, 0, none⟩) 1 1], by omega, congrArg (Value.int .i64) (by rw [HWt.out]; omega), by go_num, (by (try simp only [World.size_alloc, Xk.exw_size, World.size_setCell, World.size_drew, World.heap_drewN]); omega), ?_, ?_, ?_, ?_, ?_⟩
            · exact Xk.below_exw (hbG.setCell (p := ⟨Wb.heap.size + 1, 1, none⟩) (by show Wb.heap.size ≤ Wb.heap.size + 1; omega) _) (by simp only [World.size_setCell]; omega) _
            · exact ((Xk.ext_exw _ _).block Wb.heap.size (by simp only [World.size_setCell]; omega)).trans ((heap_setCell_other w' ⟨Wb.heap.size + 1, 1, none⟩ Wb.heap.size _ (fun e => by simp at e)).trans HB6.out)
            · exact ((Xk.ext_exw _ _).block (Wb.heap.size + 1) (by simp only [World.size_setCell]; omega)).trans (heap_setCell_same w' (Wb.heap.size + 1) 1 _ _ _ HA6.out)
            · exact Xo.own_exw (Xo.own_setCell HO'.out (by omega) _) _
            · intro j u l hj hl
              have hrow : Xo.Lives wr.heap.size [] (((wr.alloc (.cells #[.int .i64 2, .int .i64 x, .string ⟨#[]⟩] 36)).alloc (.cells #[.int .i64 2, .int .i64 x, .string ⟨#[]⟩] 36)).alloc (.cells #[.slice (some ⟨wr.heap.size + 1, 0, none⟩) 1 1] 37)) (fun W => RowAt W (.slice (some ⟨wr.heap.size + 1, 0, none⟩) 1 1) (numRow x)) := by
                have hb : (((wr.alloc (.cells #[.int .i64 2, .int .i64 x, .string ⟨#[]⟩] 36)).alloc (.cells #[.int .i64 2, .int .i64 x, .string ⟨#[]⟩] 36)).alloc (.cells #[.slice (some ⟨wr.heap.size + 1, 0, none⟩) 1 1] 37)).heap[wr.heap.size + 1]? = some (.cells #[.int .i64 2, .int .i64 x, .string ⟨#[]⟩] 36 (0, 0)) :=
                  (heap_alloc_old _ _ (by simp)).trans (heap_alloc2_new wr _ _)
                refine (Xo.lives_block hb (by omega) (by simp)).imp fun W hW => ?_
                obtain ⟨c1, c2, c3, -⟩ := Xe.cells_of3 hW
                refine ⟨_, 1, rfl, fun j y hj => ?_⟩
                match j with
                | 0 =>
                  simp only [numRow, List.getElem?_cons_zero, Option.some.injEq] at hj
                  subst hj
                  exact ⟨_, 0, rfl, c1, c2, c3, by show (0 : Nat) ≤ _; exact Nat.zero_le _⟩
                | j + 1 => simp [numRow] at hj
              exact ((Xo.elems_app (R := fun W u l => RowAt W u l) (l := vs.map numRow) (x := numRow x) HU.out HX3.out husl (by rw [List.getElem?_map, HX.out]; rfl) hrow (fun b hb => (HO.out.lt b hb).2) hsz HG'.out HK'.out j u l hj hl).setCell (.inl (by omega)) _).ext (Xk.ext_exw _ _)
          case measure => simp [intOf]; omega
        · obtain rfl : q = vs.length := by omega
          have hrl : Xo.Lives (Wb.heap.size + 1 + 1) [] wr (fun W => RowsAt W (.slice pR vs.length cR) (vs.map numRow)) := rows_lives HO.out (by simp) HU.out
          have hcl : Xo.Lives (Wb.heap.size + 1 + 1) [] wr (fun W => RowsAt W (.slice pR vs.length cR) (vs.map numRow)) := hrl
          have hcols : StrsAt wr (.slice (some ⟨Wb.heap.size, 0, none⟩) 1 1) [t] := by
            refine ⟨_, 1, rfl, Nat.le_refl _, fun j y hj => ?_⟩
            match j with
            | 0 =>
              simp only [List.getElem?_cons_zero, Option.some.injEq] at hj
              subst hj
              exact ⟨_, 0, rfl, by simp [strR, World.cell?, HA0.out]⟩
            | j + 1 => simp at hj
          have hfull : vs.take vs.length = vs := List.take_length
          rw [hfull]
          have HTb := Lib.hid fun W (hx : Xk.Ext wr W) => tableB_any (.slice (some ⟨Wb.heap.size, 0, none⟩) 1 1) (.slice pR vs.length cR) [t] (vs.map numRow) 0 W (HE.out.env.ext (Xk.Ext.trans (Xk.Ext.trans HBb.out HB.out) hx)) (hcols.ext hx) (hrl.now.ext hx) (by simp) (fun x hx => by
            simp only [List.mem_cons, List.not_mem_nil, or_false] at hx
            subst hx; omega) (by simp; omega) (fun l hl => by
            obtain ⟨x, hx, rfl⟩ := List.mem_map.1 hl
            obtain ⟨j, hj⟩ := List.mem_iff_getElem?.1 hx
            obtain ⟨-, -, -, -, x0, x1⟩ := HC.out j x hj
            exact ⟨by simp [numRow, maxLen], fun y hy => by
              simp only [numRow, List.mem_cons, List.not_mem_nil, or_false] at hy
              subst hy; dsimp only; omega⟩) (by decide) (by decide)
          rw [wide_table t vs HFn.out HCn.out (by intro e; subst e; simp at h1) 0] at HTb
          have hbv : ∀ v ∈ vs, (Lib.itoa v).length ≤ 21 := fun v hv => by
            obtain ⟨j, hj⟩ := List.mem_iff_getElem?.1 hv
            obtain ⟨-, -, -, -, x0, x1⟩ := HC.out j v hj
            exact Lib.itoa_length_le v (by omega) (by omega)
          have hwd := P25.wideOf_le t vs (by omega) hbv
          have HWT : Hid (P25.wideTable t vs = P25.ended (P25.wideOf t vs) t ++ List.replicate (P25.wideOf t vs) 45 ++ [10] ++ (vs.map fun v => P25.ended (P25.wideOf t vs) (Lib.itoa v)).flatten) := Lib.hid rfl
          have HBv := Lib.hid hbv
          generalize P25.wideTable t vs = T at HTb HWT
          generalize P25.wideOf t vs = wd at hwd HWT
          have HEn := Lib.hid fun W => ended_any wd t (by omega) (by omega) W
          have hel := P25.ended_length wd t (by omega) hwd
          obtain ⟨W3, rfl⟩ : ∃ W3, W3 = wr := ⟨wr, rfl⟩
          generalize hen : P25.ended wd t = en at HEn hel HWT
          clear hen hrl hcl hcols hfull hbv HFn HCn HU hlt htl2
          go_wp2_with (first | (go_at_call 16; (with_reducible refine (HEn.out _).mono ?_); rintro e w' ⟨rfl, hb⟩; obtain ⟨p, rfl⟩ := Xk.exw_of hb; clear hb))
          have HB4 : Hid (Xk.Ext W3 (Xk.exw W3 p)) := Lib.hid (Xk.ext_exw _ _)
          generalize Xk.exw W3 p = W4 at HB4
          clear f1 f2 f3 f4 f5 f6 lA1 hsz
          go_loopw [12, 13] (fun u12 u13 wr2 => ∃ (j : Nat) (r : List UInt8), j ≤ wd ∧ u13 = .int .i64 j ∧ u12 = .string ⟨r.toArray⟩ ∧ r = List.replicate j (45 : UInt8) ∧ Below W4.heap.size W4 wr2) (fun _ x _ => wd - (intOf x).toNat)
          case atStart => exact ⟨0, [], Nat.zero_le _, rfl, rfl, rfl, Below.refl _ _⟩
          case round =>
            obtain ⟨j, r, hj, rfl, rfl, hr, hbw⟩ := hrel
            have hrl : r.length = j := by rw [hr]; simp
            have HRr := Lib.hid hr
            have HB5 := Lib.hid hbw
            clear hbw hr
            by_cases hlt : j < wd
            · have hlt2 : (j : Int) < (wd : Int) := by omega
              have Happ : Hid (((⟨r.toArray⟩ : ByteArray) ++ ⟨#[45]⟩) = ⟨(r ++ [45]).toArray⟩) := Lib.hid (by apply bytes_ext; simp)
              go_wp2
              go_roundw
              case rel => exact ⟨j + 1, r ++ [45], by omega, by go_num, congrArg Value.string Happ.out, by rw [HRr.out, List.replicate_succ'], HB5.out⟩
              case measure => simp [intOf]; omega
            · have hjw : ¬ (j : Int) < (wd : Int) := by omega
              have hr2 : r = List.replicate wd 45 := by rw [HRr.out]; congr 1; omega
              have hrl2 : r.length ≤ 21 := by omega
              have Happ : Hid (((⟨en.toArray⟩ : ByteArray) ++ ⟨r.toArray⟩ ++ ⟨#[10]⟩) = ⟨(en ++ r ++ [10]).toArray⟩) := Lib.hid (by apply bytes_ext; simp)
              have HWT2 : Hid (T = en ++ r ++ [10] ++ (vs.map fun v => P25.ended wd (Lib.itoa v)).flatten) := Lib.hid (by rw [HWT.out, hr2])
              have hol : (en ++ r ++ [10]).length ≤ 44 := by simp; omega
              have HB6 := Lib.hid (Xk.Ext.trans HB4.out HB5.out)
              clear HWT hr2
              go_wp2
              obtain ⟨W5, rfl⟩ : ∃ W5, W5 = wr := ⟨wr, rfl⟩
              rw [Happ.out]
              generalize en ++ r ++ [10] = o0 at HWT2 hol
              go_loopw [14, 15] (fun u14 u15 wr2 => ∃ (q : Nat) (o : List UInt8), q ≤ vs.length ∧ u15 = .int .i64 q ∧ u14 = .string ⟨o.toArray⟩ ∧ Hid (o = o0 ++ ((vs.take q).map fun v => P25.ended wd (Lib.itoa v)).flatten) ∧ o.length ≤ 44 + q * 22 ∧ Below W5.heap.size W5 wr2) (fun _ x _ => vs.length - (intOf x).toNat)
              case atStart => exact ⟨0, o0, Nat.zero_le _, rfl, rfl, Lib.hid (by simp), by omega, Below.refl _ _⟩
              case round =>
                obtain ⟨q, o, hq, rfl, rfl, HOo, hol2, hbw⟩ := hrel
                have HB7 := Lib.hid hbw
                by_cases hlt : q < vs.length
                · have hx : vs[q]? = some (vs[q]'hlt) := List.getElem?_eq_getElem _
                  have htk : (vs.take (q + 1)) = vs.take q ++ [vs[q]'hlt] := List.take_succ_eq_append_getElem hlt
                  generalize vs[q]'hlt = x at hx htk
                  have HTk := Lib.hid htk
                  obtain ⟨b, off, rfl, d1, x0, x1⟩ := HC.out q x hx
                  rw [Nat.mul_one] at d1
                  have d1 := Xk.ext_cell (Xk.Ext.trans (Xk.Ext.trans (Xk.Ext.trans HBb.out HB.out) HB6.out) hbw) d1
                  have l1 := World.block_lt_of_cell? _ _ d1
                  have hxl := HBv.out x (List.mem_of_getElem? hx)
                  have HD := Lib.hid fun W => digits_any x (by omega) (by omega) W
                  have HEx := Lib.hid fun W => ended_any wd (Lib.itoa x) (by omega) (by omega) W
                  have hexl := P25.ended_length wd (Lib.itoa x) hxl hwd
                  have hwr : IntKind.i64.wrap x = x := IntWalk.i64_in _ (by omega)
                  have hqb : (q : Int) < (vs.length : Int) := by omega
                  generalize hix : Lib.itoa x = ix at HD HEx hexl hxl
                  have HIx := Lib.hid hix
                  generalize hex : P25.ended wd ix = ex at HEx hexl
                  have HEe := Lib.hid hex
                  have Happ : Hid (((⟨o.toArray⟩ : ByteArray) ++ ⟨ex.toArray⟩) = ⟨(o ++ ex).toArray⟩) := Lib.hid (by apply bytes_ext; simp)
                  have hol3 : o.length ≤ 1000 := by omega
                  have Hol := Lib.hid hol2
                  clear hx htk hbw hex hxl hol2 hix
                  have hs7 := HB7.out.size
                  go_wp2_with (first | ((go_at_call 17; (with_reducible refine (HD.out _).mono ?_); rintro e w' ⟨rfl, hb⟩; obtain ⟨p, rfl⟩ := Xk.exw_of hb; clear hb)) | (go_at_call 16; (with_reducible refine (HEx.out _).mono ?_); rintro e w' ⟨rfl, hb⟩; obtain ⟨p, rfl⟩ := Xk.exw_of hb; clear hb))
                  go_roundw
                  case rel => exact ⟨q + 1, o ++ ex, by omega, by go_num, congrArg Value.string Happ.out, Lib.hid (by rw [HOo.out, HTk.out, List.map_append, List.flatten_append]; simp [HIx.out, HEe.out]), by have := Hol.out; rw [List.length_append]; omega, (by repeat (first | with_reducible exact HB7.out | with_reducible exact Below.refl _ _ | ((with_reducible refine Below.setCell ?_ ?_ _); rotate_left; exact (by (try simp only [World.size_alloc, Xk.exw_size, World.size_setCell, World.size_drew, World.heap_drewN]); omega)) | ((with_reducible refine Below.alloc ?_ ?_ _); rotate_left; exact (by (try simp only [World.size_alloc, Xk.exw_size, World.size_setCell, World.size_drew, World.heap_drewN]); omega)) | ((with_reducible refine Xk.below_exw ?_ ?_ _); rotate_left; exact (by (try simp only [World.size_alloc, Xk.exw_size, World.size_setCell, World.size_drew, World.heap_drewN]); omega)) | (with_reducible refine Below.drew ?_)))⟩
                  case measure => simp [intOf]; omega
                · have hoe : o = T := by rw [HOo.out, HWT2.out, show q = vs.length by omega, List.take_length]
                  have hqn : ¬ (q : Int) < (vs.length : Int) := by omega
                  have hA := ((Xk.Ext.trans HB6.out hbw).block (Wb.heap.size + 1) (Array.getElem?_eq_some_iff.1 HA1.out).1).trans HA1.out
                  obtain ⟨f1, f2, f3, f4, f5, f6⟩ := Xe.cells_of3 hA
                  have lA := (Array.getElem?_eq_some_iff.1 hA).1
                  have HTb2 := Lib.hid (HTb.out wr (Xk.Ext.trans HB6.out hbw))
                  have HW8 := Lib.hid (Xk.Ext.trans (Xk.Ext.trans (Xk.Ext.trans HBb.out HB.out) HB6.out) hbw)
                  subst hoe
                  clear hA hbw
                  go_wp2_with (first | (go_at_call 10; (with_reducible refine (HTb2.out).mono ?_); rintro e w' ⟨rfl, hb⟩; obtain ⟨p, rfl⟩ := Xk.exw_of hb; clear hb))
                  go_ret
                  exact ⟨by simp, Xk.Ext.trans HW8.out (by repeat (first | with_reducible exact Below.refl _ _ | ((with_reducible refine Below.setCell ?_ ?_ _); rotate_left; exact (by (try simp only [World.size_alloc, Xk.exw_size, World.size_setCell, World.size_drew, World.heap_drewN]); omega)) | ((with_reducible refine Below.alloc ?_ ?_ _); rotate_left; exact (by (try simp only [World.size_alloc, Xk.exw_size, World.size_setCell, World.size_drew, World.heap_drewN]); omega)) | ((with_reducible refine Xk.below_exw ?_ ?_ _); rotate_left; exact (by (try simp only [World.size_alloc, Xk.exw_size, World.size_setCell, World.size_drew, World.heap_drewN]); omega)) | (with_reducible refine Below.drew ?_)))⟩
end Go.Proofs.YtmoippbmnanajaaGreatDoor
