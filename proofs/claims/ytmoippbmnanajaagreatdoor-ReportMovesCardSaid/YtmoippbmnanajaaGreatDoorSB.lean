/- Walks: pantileref25.trimmed, fill, clean. Walks: pantileref25.clean. Walks: pantileref25.fill. What the reference's table computes, beside report's: plain. Walks: pantileref25.Table, without columns. A table's first lines, one more each round: plain. -/
import Derived.Test.YtmoippbmnanajaaGreatDoorSA
import Derived.Lib.ConvBytes
import Derived.Lib.AtoiErrMem
set_option linter.unusedSimpArgs false
set_option linter.unusedVariables false
namespace P25
open Go.Lib
theorem trimRight_hit (u : List UInt8) (c : UInt8) : trimRightB (u ++ [c]) c = trimRightB u c := by simp [trimRightB]
theorem trimRight_miss (u : List UInt8) (c d : UInt8) (h : d ≠ c) : trimRightB (u ++ [d]) c = u ++ [d] := by simp [trimRightB, h]
end P25
namespace Go.Proofs.YtmoippbmnanajaaGreatDoor
open Go.RowKit
set_option maxRecDepth 100000 in
set_option maxHeartbeats 4000000 in
theorem refTrimmed_any (s : List UInt8) (w : World) (hs : s.length ≤ 140737488355328) :
    Calls Tryz.prog 30 #[.string ⟨s.toArray⟩] w fun e w' => e = .returned (.string ⟨(Lib.trimRightB s 32).toArray⟩) ∧ Below w.heap.size w w' := by
  go_enter Tryz.func30, Tryz.ntmps30
  go_wp2
  go_loopw [0] (fun x wr => ∃ t : List UInt8, t.length ≤ 140737488355328 ∧ x = .string ⟨t.toArray⟩ ∧ Below w.heap.size w wr ∧ Hid (Lib.trimRightB t 32 = Lib.trimRightB s 32)) (fun x _ => match x with | .string b => b.size | _ => 0)
  case atStart => exact ⟨s, hs, rfl, Below.refl _ _, Lib.hid rfl⟩
  case round =>
    obtain ⟨t, ht, rfl, hbw, HT⟩ := hrel
    rcases List.eq_nil_or_concat t with rfl | ⟨u, c, rfl⟩
    · go_wp2
      go_ret
      exact ⟨by rw [← HT.out]; rfl, hbw⟩
    · simp only [List.concat_eq_append] at ht HT ⊢
      have hlen : (u ++ [c]).length = u.length + 1 := by simp
      have hbyte : ∀ h, (⟨(u ++ [c]).toArray⟩ : ByteArray)[u.length]'h = c := fun h => by
        show (u ++ [c]).toArray[u.length]'h = c
        simp
      have hex : (⟨(u ++ [c]).toArray⟩ : ByteArray).extract 0 u.length = ⟨u.toArray⟩ := by
        apply bytes_ext
        rw [Lib.extract_data]; simp
      have HEx := Lib.hid hex
      have HB := Lib.hid hbw
      clear hex hbw
      by_cases hc : c = 32
      · subst hc
        have h32 : (((32 : UInt8).toNat : Int) == 32) = true := by decide
        go_wp2
        go_roundw
        case rel => exact ⟨u, by omega, congrArg Value.string HEx.out, HB.out, Lib.hid (by rw [← HT.out, P25.trimRight_hit])⟩
        case measure => simp [ByteArray.size]
      · have h32 : ((c.toNat : Int) == 32) = false := beq_eq_false_iff_ne.2 fun e => hc (UInt8.toNat_inj.1 (by have : (32 : UInt8).toNat = 32 := rfl; omega))
        go_wp2
        go_ret
        exact ⟨by rw [← HT.out, P25.trimRight_miss _ _ _ hc]; rfl, HB.out⟩
end Go.Proofs.YtmoippbmnanajaaGreatDoor
namespace Go.Proofs.YtmoippbmnanajaaGreatDoor
open Go.RowKit
/-- The byte at a place, turnedW if it lies ahead of q. -/
def turnedW (cap : UInt8 → UInt8) (l : List UInt8) (q j : Nat) : UInt8 := if j < q then cap (l.getD j 0) else l.getD j 0
/-- The row of bytes, turnedW up to q. -/
structure TurnW (w : World) (b : Nat) (cap : UInt8 → UInt8) (l : List UInt8) (q : Nat) (wr : World) : Prop where
  below : Below w.heap.size w wr
  hb : w.heap.size ≤ b
  lt : b < wr.heap.size
  cell : ∀ j, j < l.length → wr.cell? ⟨b, j, none⟩ = some (.int .u8 (turnedW cap l q j).toNat)
  free : ∀ j, j < l.length → wr.frozen? ⟨b, j, none⟩ = false
theorem TurnW.put {w wr : World} {b : Nat} {cap : UInt8 → UInt8} {l : List UInt8} {q : Nat} (h : TurnW w b cap l q wr) (hq : q < l.length) : TurnW w b cap l (q + 1) (wr.setCell ⟨b, q, none⟩ (.int .u8 (cap (l.getD q 0)).toNat)) where
  below := h.below.setCell h.hb _
  hb := h.hb
  lt := by simpa using h.lt
  cell := fun j hj => by
    by_cases hjq : j = q
    · subst hjq
      rw [World.cell?_setCell_same _ _ _ (h.cell j hj)]
      unfold turnedW; rw [if_pos (by omega)]
    · rw [World.cell?_setCell_other _ _ _ _ (by intro e; cases e; exact hjq rfl), h.cell j hj]
      unfold turnedW
      by_cases hlt : j < q
      · rw [if_pos hlt, if_pos (by omega)]
      · rw [if_neg hlt, if_neg (by omega)]
  free := fun j hj => by rw [World.frozen?_setCell]; exact h.free j hj
theorem TurnW.keep {w wr : World} {b : Nat} {cap : UInt8 → UInt8} {l : List UInt8} {q : Nat} (h : TurnW w b cap l q wr) (hlt : q < l.length) (hq : cap (l.getD q 0) = l.getD q 0) : TurnW w b cap l (q + 1) wr where
  below := h.below
  hb := h.hb
  lt := h.lt
  cell := fun j hj => by
    rw [h.cell j hj]
    unfold turnedW
    by_cases hlt : j < q
    · rw [if_pos hlt, if_pos (by omega)]
    · rw [if_neg hlt]
      by_cases hjq : j = q
      · subst hjq; rw [if_pos (by omega), hq]
      · rw [if_neg (by omega)]
  free := h.free
theorem TurnW.start (s : ByteArray) (cap : UInt8 → UInt8) (w : World) : TurnW w w.heap.size cap s.data.toList 0 (Lib.bytesWorld w 5 s) where
  below := Lib.bytesWorld_below w _ s
  hb := Nat.le_refl _
  lt := by rw [Lib.bytesWorld_size]; omega
  cell := fun j hj => by rw [Lib.bytesWorld_cell _ _ _ _ hj]; rfl
  free := fun j hj => by
    have h1 : s.size ≤ (Lib.bytesCells w 5 s).size := by simp [Lib.bytesCells]
    have h2 : j < s.size := hj
    unfold World.frozen?
    rw [show (⟨w.heap.size, j, none⟩ : Addr).block = w.heap.size from rfl, Lib.bytesWorld_at_new]
    simp; omega
theorem TurnW.str {w wr : World} {b : Nat} {cap : UInt8 → UInt8} {l : List UInt8} {q : Nat} (h : TurnW w b cap l q wr) (hq : l.length ≤ q) (k n : Nat) (hn : n = l.length) :
    (convert 72 9 (.slice (some ⟨b, 0, none⟩) n k)).run Tryz.prog wr = .ok (.string ⟨(l.map (cap)).toArray⟩) wr := by
  subst hn
  have := Xk.run_bstr (P := Tryz.prog) wr 72 9 5 Tryz.underlying72 Tryz.underlying5 Tryz.underlying9 b 0 l.length k ((l.map (cap)).map fun c => (c.toNat : Int)) (by simp) (fun j hj => by
    rw [Nat.zero_add, h.cell j hj]
    unfold turnedW
    rw [if_pos (by omega)]
    simp [List.getD_eq_getElem?_getD, hj])
  rw [this, List.map_map]
  have e : ((fun n : Int => UInt8.ofNat n.toNat) ∘ fun c : UInt8 => (c.toNat : Int)) = id := by funext c; simp
  rw [e, List.map_id]
def cleanB (c : UInt8) : UInt8 := if c = 10 then 63 else c
theorem clean_map (s : List UInt8) : s.map cleanB = P25.clean s := rfl
set_option maxRecDepth 100000 in
set_option maxHeartbeats 4000000 in
theorem refClean_any (s : ByteArray) (hs : s.size ≤ 4000000) (w : World) :
    Calls Tryz.prog 28 #[.string s] w fun e w' => e = .returned (.string ⟨(P25.clean s.data.toList).toArray⟩) ∧ Below w.heap.size w w' := by
  have kc := fun (w : World) (s : ByteArray) => Lib.run_convert_string_bytes (P := Tryz.prog) w 9 72 5 s Tryz.underlying9 Tryz.underlying72 Tryz.underlying5
  go_enter Tryz.func28, Tryz.ntmps28
  go_wp2
  have hL : s.data.toList.length = s.size := rfl
  go_loopw [4] (fun x wr => ∃ q : Nat, q ≤ s.size ∧ x = .int .i64 q ∧ TurnW w w.heap.size cleanB s.data.toList q wr) (fun x _ => s.size - (intOf x).toNat)
  case atStart => exact ⟨0, Nat.zero_le _, rfl, TurnW.start s cleanB w⟩
  case round =>
    obtain ⟨q, hq, rfl, hC⟩ := hrel
    have HC := Lib.hid hC
    have lt1 := hC.lt
    by_cases hlt : q < s.size
    · have c1 := hC.cell q hlt
      have f1 := hC.free q hlt
      unfold turnedW at c1
      rw [if_neg (Nat.lt_irrefl q)] at c1
      have hput := hC.put hlt
      have hkeep := hC.keep hlt
      have HP := Lib.hid hput
      have HK := Lib.hid hkeep
      clear hC hput hkeep
      have c8 : ((s.data.toList.getD q 0).toNat : Int) < 256 := by have := (s.data.toList.getD q 0).toNat_lt; omega
      have q1 : (q : Int) < (s.size : Int) := by omega
      generalize s.data.toList.getD q 0 = c at *
      by_cases hc : c = 10
      · have h10 : ((c.toNat : Int) == 10) = true := by subst hc; decide
        go_wp2
        go_roundw
        case rel => exact ⟨q + 1, by omega, by go_num, by
          have h := HP.out
          rw [show ((cleanB c).toNat : Int) = 63 by subst hc; decide] at h
          exact h⟩
        case measure => simp [intOf]; omega
      · have h10 : ((c.toNat : Int) == 10) = false := beq_eq_false_iff_ne.2 fun e => hc (UInt8.toNat_inj.1 (by have : (10 : UInt8).toNat = 10 := rfl; omega))
        go_wp2
        go_roundw
        case rel => exact ⟨q + 1, by omega, by go_num, HK.out (by unfold cleanB; rw [if_neg hc])⟩
        case measure => simp [intOf]; omega
    · have hb := hC.str (by rw [hL]; omega) (grownCap w s.size 0 5) s.size hL.symm
      clear hC
      go_wp2
      go_ret
      exact ⟨rfl, HC.out.below⟩
end Go.Proofs.YtmoippbmnanajaaGreatDoor
namespace Go.Proofs.YtmoippbmnanajaaGreatDoor
open Go.RowKit
theorem Tryz.infoByteV : (Tryz.prog.info? 5).map (fun i => (i.zero, i.size, i.bytes)) = some (some (.int .u8 0), 1, 1) := by kernel_rfl
/-- A byte, many times, as cells. -/
def bytesV (n : Nat) (c : UInt8) : List Value := List.replicate n (.int .u8 c.toNat)
theorem bytesV_succ (n : Nat) (c : UInt8) : bytesV n c ++ [.int .u8 c.toNat] = bytesV (n + 1) c := by simp [bytesV, List.replicate_succ']
theorem own_str {W : World} {base n : Nat} {c : UInt8} {v : Value} (h : W.ownsRow base 5 1 v n (bytesV n c)) : (convert 72 9 v).run Tryz.prog W = .ok (.string ⟨(List.replicate n c).toArray⟩) W := by
  have h2 : W.ownsRow base 5 1 v n (Xk.bcells (List.replicate n c)) := by
    have e : Xk.bcells (List.replicate n c) = bytesV n c := by simp [bytesV, Xk.bcells]
    rw [e]; exact h
  exact Xk.Acc.str (.inl h2) 72 9 5 Tryz.underlying72 Tryz.underlying5 Tryz.underlying9
set_option maxRecDepth 100000 in
set_option maxHeartbeats 4000000 in
theorem fill_any (n : Nat) (c : UInt8) (w : World) (hn : n ≤ 4000000) :
    Calls Tryz.prog 29 #[.int .i64 n, .int .u8 c.toNat] w fun e w' => e = .returned (.string ⟨(List.replicate n c).toArray⟩) ∧ Below w.heap.size w w' := by
  obtain ⟨i0, hi, hz0, hz1, hz2⟩ := info_parts Tryz.infoByteV
  have Hi := Lib.hid hi
  have Hz0 := Lib.hid hz0
  have Hz1 := Lib.hid hz1
  have Hz2 := Lib.hid hz2
  clear hi hz0 hz1 hz2
  go_enter Tryz.func29, Tryz.ntmps29
  go_wp2
  go_loopw [5, 6] (fun v x wr => ∃ q : Nat, q ≤ n ∧ x = .int .i64 q ∧ Below w.heap.size w wr ∧ wr.ownsRow w.heap.size 5 1 v q (bytesV q c)) (fun _ x _ => n - (intOf x).toNat)
  case atStart => exact ⟨0, by omega, rfl, Below.refl _ _, World.ownsRow_nil _ _ _ _⟩
  case round =>
    obtain ⟨q, hq, rfl, hbw, ho⟩ := hrel
    have HB := Lib.hid hbw
    have HO := Lib.hid ho
    have hsz := hbw.size
    by_cases hlt : q < n
    · have hlt2 : (q : Int) < (n : Int) := by omega
      clear hbw ho
      go_wp2_with (first | (at_builtin; refine Xo.wpList_appk (w0 := w) rfl _ _ 72 rfl 5 i0 _ 1 1 Tryz.underlying72 Hi.out Hz0.out Hz1.out Hz2.out rfl (by decide) u5 q (bytesV q c) rfl (by repeat (first | with_reducible exact HO.out | with_reducible refine Xo.own_alloc ?_ _ | with_reducible refine Xo.own_drew ?_ | with_reducible refine Xo.own_exw ?_ _)) _ 0 1 1 [.int .u8 c.toNat] rfl (by decide) rfl (Xo.cells1 (by simp)) (Xo.one1 rfl) (by omega) (by repeat (first | with_reducible exact HB.out | with_reducible exact Below.refl _ _ | ((with_reducible refine Below.setCell ?_ ?_ _); rotate_left; exact (by (try simp only [World.size_alloc, Xk.exw_size, World.size_setCell, World.size_drew, World.heap_drewN]); omega)) | ((with_reducible refine Below.alloc ?_ ?_ _); rotate_left; exact (by (try simp only [World.size_alloc, Xk.exw_size, World.size_setCell, World.size_drew, World.heap_drewN]); omega)) | ((with_reducible refine Xk.below_exw ?_ ?_ _); rotate_left; exact (by (try simp only [World.size_alloc, Xk.exw_size, World.size_setCell, World.size_drew, World.heap_drewN]); omega)) | (with_reducible refine Below.drew ?_))) ?_; intro v' w' ho' hg' hk' hb'; have HO' := Lib.hid ho'; have HG' := Lib.hid hg'; have HK' := Lib.hid hk'; have HB' := Lib.hid hb'; clear ho' hg' hk' hb'))
      go_roundw
      case rel => exact ⟨q + 1, by omega, by go_num, HB'.out, by rw [← bytesV_succ]; exact HO'.out⟩
      case measure => simp [intOf]; omega
    · obtain rfl : q = n := by omega
      have hcv := own_str ho
      clear hbw ho
      go_wp2
      go_ret
      exact ⟨rfl, HB.out⟩
end Go.Proofs.YtmoippbmnanajaaGreatDoor
namespace P25
open Go.Lib
theorem join_snoc (sep : List UInt8) (l : List (List UInt8)) (x : List UInt8) : join (l ++ [x]) sep = if l = [] then x else join l sep ++ sep ++ x := by
  cases l with
  | nil => simp [join_one]
  | cons y l => rw [if_neg (by simp), List.cons_append, join_cons, join_cons]; simp [joinTail]
theorem join_take (sep : List UInt8) (l : List (List UInt8)) (q : Nat) (x : List UInt8) (h : l[q]? = some x) : join (l.take (q + 1)) sep = (if 0 < q then join (l.take q) sep ++ sep else []) ++ x := by
  have hq := (List.getElem?_eq_some_iff.1 h).1
  have e : l.take (q + 1) = l.take q ++ [x] := by
    rw [List.take_succ_eq_append_getElem hq, (List.getElem?_eq_some_iff.1 h).2]
  rw [e, join_snoc]
  by_cases h0 : q = 0
  · subst h0; simp
  · rw [if_neg (fun e => by have h := congrArg List.length e; rw [List.length_take] at h; simp only [List.length_nil] at h; omega), if_pos (by omega)]
/-- A line of dashes has no blank at its end. -/
theorem trim_rules (cs : List (Nat × Bool)) : trimRightB (join (rules cs) cross) 32 = join (rules cs) cross := by
  have h : ∀ x ∈ join (rules cs) cross, x ≠ 32 := by
    intro x hx
    cases cs with
    | nil => simp [rules, join_nil] at hx
    | cons c cs =>
      simp only [rules, List.map_cons, join_cons, joinTail, List.mem_append, List.mem_flatten, List.mem_map] at hx
      rcases hx with hx | ⟨l, ⟨y, ⟨d, -, rfl⟩, rfl⟩, hx⟩
      · have := List.eq_of_mem_replicate hx; subst this; decide
      · rcases List.mem_append.1 hx with hx | hx
        · simp only [cross, List.mem_cons, List.not_mem_nil, or_false] at hx
          rcases hx with rfl | rfl | rfl <;> decide
        · have := List.eq_of_mem_replicate hx; subst this; decide
  generalize join (rules cs) cross = t at h
  rcases List.eq_nil_or_concat t with rfl | ⟨u, d, rfl⟩
  · rfl
  · rw [List.concat_eq_append] at h ⊢
    exact trimRight_miss u 32 d (h d (by simp))
end P25
namespace Go.Proofs.YtmoippbmnanajaaGreatDoor
open Go.RowKit
set_option maxRecDepth 100000 in
set_option maxHeartbeats 4000000 in
theorem refTable_none (vc vr : Value) (L : List (List V)) (cnt : Int) (w : World) (hc : StrsAt w vc []) (hr : RowsAt w vr L) (h0 : -9223372036854775808 ≤ cnt) (h1 : cnt ≤ 9223372036854775807) :
    Calls Tryz.prog 11 #[.agg #[vc, vr, .int .i64 cnt]] w fun e w' => e = .returned (.string ⟨(Lib.itoa cnt ++ [10]).toArray⟩) ∧ Below w.heap.size w w' := by
  obtain ⟨pc, cc, rfl, hc'⟩ := hc.parts
  obtain ⟨pr, cr, rfl, hr'⟩ := hr.parts
  have HI := Lib.hid fun o => digits_any cnt h0 h1 (w.alloc o)
  have hlen := Lib.itoa_length_le cnt h0 h1
  have Hs := Lib.hid (line_app (Lib.itoa cnt) [])
  clear hc hr hc' hr' h0 h1
  go_enter Tryz.func11, Tryz.ntmps11
  go_wp2_with (first | (go_at_call 17; (with_reducible refine (HI.out _).mono ?_); rintro e w' ⟨rfl, hb⟩; obtain ⟨p, rfl⟩ := Xk.exw_of hb; clear hb))
  go_ret
  exact ⟨congrArg (fun s => Ending.returned (.string s)) Hs.out, (by repeat (first | with_reducible exact Below.refl _ _ | ((with_reducible refine Below.setCell ?_ ?_ _); rotate_left; exact (by (try simp only [World.size_alloc, Xk.exw_size, World.size_setCell, World.size_drew, World.heap_drewN]); omega)) | ((with_reducible refine Below.alloc ?_ ?_ _); rotate_left; exact (by (try simp only [World.size_alloc, Xk.exw_size, World.size_setCell, World.size_drew, World.heap_drewN]); omega)) | ((with_reducible refine Xk.below_exw ?_ ?_ _); rotate_left; exact (by (try simp only [World.size_alloc, Xk.exw_size, World.size_setCell, World.size_drew, World.heap_drewN]); omega)) | (with_reducible refine Below.drew ?_)))⟩
end Go.Proofs.YtmoippbmnanajaaGreatDoor
namespace P25
open Go.Lib
/-- The first k lines of a table. -/
def upto (cs : List (Nat × Bool)) (names : List (List UInt8)) (rows : List (List Cell)) (k : Nat) : List UInt8 :=
  (if 0 < k then line cs (names.map clean) else []) ++ (if 1 < k then join (rules cs) cross ++ [10] else []) ++ lines cs names.length (rows.take (k - 2))
theorem upto_zero (cs : List (Nat × Bool)) (names : List (List UInt8)) (rows : List (List Cell)) : upto cs names rows 0 = [] := by simp [upto, lines]
theorem upto_one (cs : List (Nat × Bool)) (names : List (List UInt8)) (rows : List (List Cell)) : upto cs names rows 1 = upto cs names rows 0 ++ (trimRightB (join (pads cs (names.map clean)) bar) 32 ++ [10]) := by
  rw [upto_zero]; simp [upto, lines, line]
theorem upto_two (cs : List (Nat × Bool)) (names : List (List UInt8)) (rows : List (List Cell)) : upto cs names rows 2 = upto cs names rows 1 ++ (trimRightB (join (rules cs) cross) 32 ++ [10]) := by
  rw [trim_rules]; simp [upto, lines]
theorem upto_more (cs : List (Nat × Bool)) (names : List (List UInt8)) (rows : List (List Cell)) (k : Nat) (r : List Cell) (h : rows[k]? = some r) :
    upto cs names rows (k + 2 + 1) = upto cs names rows (k + 2) ++ (trimRightB (join (pads cs (cells r names.length)) bar) 32 ++ [10]) := by
  unfold upto
  rw [if_pos (by omega), if_pos (by omega), if_pos (by omega), if_pos (by omega), show k + 2 + 1 - 2 = k + 1 by omega, show k + 2 - 2 = k by omega, lines_at h]
  simp [line]
theorem upto_end (cs : List (Nat × Bool)) (names : List (List UInt8)) (rows : List (List Cell)) : upto cs names rows (rows.length + 2) = tableOf cs names rows := by
  unfold upto tableOf
  rw [if_pos (by omega), if_pos (by omega), show rows.length + 2 - 2 = rows.length by omega, List.take_length]
  simp
theorem pads_at2 (cs : List (Nat × Bool)) (l : List (List UInt8)) (i : Nat) (c : Nat × Bool) (t : List UInt8) (hc : cs[i]? = some c) (ht : l[i]? = some t) : (pads cs l)[i]? = some (pad c t) := pads_at hc ht
theorem rules_get {cs : List (Nat × Bool)} {i : Nat} {c : Nat × Bool} (h : cs[i]? = some c) : (rules cs)[i]? = some (List.replicate c.1 45) := by
  rw [rules, List.getElem?_map, h]; rfl
/-- A line's length ahead of its q-th cell. -/
theorem join_take_length (sep : List UInt8) (M : Nat) (l : List (List UInt8)) (q : Nat) (h : ∀ x ∈ l, x.length ≤ M) (hs : sep.length = 3) (hl : l.length ≤ 4096) (hM : M ≤ 4000000) : (join (l.take q) sep).length ≤ 17000000000 := by
  have h1 := join_length sep M (l.take q) fun x hx => h x (List.mem_of_mem_take hx)
  have h2 : (l.take q).length * (M + sep.length) ≤ 4096 * 4000003 := Nat.mul_le_mul (by rw [List.length_take]; omega) (by omega)
  omega
end P25
namespace Go.Proofs.YtmoippbmnanajaaGreatDoor
/-- One more cell of a line: what the walk adds. -/
theorem cell_more (sep : List UInt8) (l : List (List UInt8)) (q : Nat) (x : List UInt8) (h : l[q]? = some x) (h0 : 0 < q) :
    ((⟨(Lib.join (l.take q) sep).toArray⟩ : ByteArray) ++ ⟨sep.toArray⟩ ++ ⟨x.toArray⟩) = ⟨(Lib.join (l.take (q + 1)) sep).toArray⟩ := by
  rw [P25.join_take sep l q x h, if_pos h0, str_app, str_app]
theorem cell_first (sep : List UInt8) (l : List (List UInt8)) (q : Nat) (x : List UInt8) (h : l[q]? = some x) (h0 : q = 0) :
    ((⟨(Lib.join (l.take q) sep).toArray⟩ : ByteArray) ++ ⟨x.toArray⟩) = ⟨(Lib.join (l.take (q + 1)) sep).toArray⟩ := by
  subst h0
  rw [P25.join_take sep l 0 x h, if_neg (by omega), str_app]; simp [Lib.join_nil]
end Go.Proofs.YtmoippbmnanajaaGreatDoor
