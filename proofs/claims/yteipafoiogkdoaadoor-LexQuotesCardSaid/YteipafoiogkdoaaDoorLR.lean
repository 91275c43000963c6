/- The walk of the statement LexQuotes. -/
import Derived.Test.YteipafoiogkdoaaDoorLQ
set_option linter.unusedSimpArgs false
set_option linter.unusedVariables false
namespace Go.Proofs.YteipafoiogkdoaaDoor
open Go.RowKit Go.Maps
def blanksB (q : Nat) : ByteArray := ⟨(List.replicate q 32).toArray⟩
theorem blanksB_list (q : Nat) : (blanksB q).data.toList = List.replicate q 32 := rfl
theorem blanksB_size (q : Nat) : (blanksB q).size = q := by
  show (List.replicate q (32 : UInt8)).toArray.size = q
  simp
theorem rep_cat (q : Nat) : (blanksB q ++ ⟨#[32]⟩ : ByteArray) = blanksB (q + 1) := by
  apply bytes_eq
  rw [ByteArray.data_append, Array.toList_append, blanksB_list, blanksB_list, List.replicate_succ']
set_option maxRecDepth 100000 in
set_option maxHeartbeats 4000000 in
theorem lexQuotes_walk (s : ByteArray) (k : Int) (w : World) (hE : EnvL w) (hs : s.size ≤ maxLen) :
    Calls Tryd.prog 6 #[.string s, .int .i64 k] w fun e w' => e = .returned (.bool true) ∧ Below w.heap.size w w' := by
  have HE := Lib.hid (fun p => hE.ext (Xk.ext_exw w p))
  clear hE
  unfold maxLen at hs
  go_enter Tryd.func6, Tryd.ntmps6
  go_wp2_with (go_at_call 7; (with_reducible refine (known11 _).mono ?_); rintro e w' ⟨rfl, hb⟩; obtain ⟨p, rfl⟩ := Xk.exw_of hb; clear hb)
  go_loop [5] (fun x => ∃ q : Nat, q ≤ s.size ∧ x = .int .i64 q ∧ Hid (∀ j (h : j < s.size), j < q → s[j] ≠ 0)) (fun x => s.size - (intOf x).toNat)
  case atStart => exact ⟨0, Nat.zero_le _, rfl, Lib.hid fun j h hj => by omega⟩
  case round =>
    obtain ⟨q, hq, rfl, HN⟩ := hrel
    by_cases hlt : q < s.size
    · by_cases hc : s[q] = 0
      · have hb : ((s[q].toNat : Int) == 0) = true := eq_byte hc 0 rfl
        clear hc
        go_wp2
        go_ret
        exact ⟨rfl, (by repeat (first | with_reducible exact Below.refl _ _ | ((with_reducible refine Below.setCell ?_ ?_ _); rotate_left; exact (by (try simp only [World.size_alloc, Xk.exw_size, World.size_setCell, World.size_drew, World.heap_drewN]); omega)) | ((with_reducible refine Below.alloc ?_ ?_ _); rotate_left; exact (by (try simp only [World.size_alloc, Xk.exw_size, World.size_setCell, World.size_drew, World.heap_drewN]); omega)) | ((with_reducible refine Xk.below_exw ?_ ?_ _); rotate_left; exact (by (try simp only [World.size_alloc, Xk.exw_size, World.size_setCell, World.size_drew, World.heap_drewN]); omega)) | (with_reducible refine Below.drew ?_)))⟩
      · have hb : ((s[q].toNat : Int) == 0) = false := ne_byte hc 0 rfl
        have HC := Lib.hid hc
        clear hc
        go_wp2
        go_round
        case rel => exact ⟨q + 1, by omega, by go_num, Lib.hid fun j h hj => by
          by_cases hjq : j = q
          · subst hjq; exact HC.out
          · exact HN.out j h (by omega)⟩
        case measure => simp [intOf]; omega
    · have h0 : s.data.toList.contains 0 = false := by
        rw [Bool.eq_false_iff]
        intro h
        obtain ⟨j, hj, he⟩ := List.mem_iff_getElem.1 (by simpa using h : (0 : UInt8) ∈ s.data.toList)
        exact HN.out j hj (by have : s.data.toList.length = s.size := rfl; omega) he
      have H0 := Lib.hid h0
      clear h0 HN
      by_cases hb1 : 1500 < s.size
      · have s1 : (1500 : Int) < (s.size : Int) := by omega
        go_wp2
        go_ret
        exact ⟨rfl, (by repeat (first | with_reducible exact Below.refl _ _ | ((with_reducible refine Below.setCell ?_ ?_ _); rotate_left; exact (by (try simp only [World.size_alloc, Xk.exw_size, World.size_setCell, World.size_drew, World.heap_drewN]); omega)) | ((with_reducible refine Below.alloc ?_ ?_ _); rotate_left; exact (by (try simp only [World.size_alloc, Xk.exw_size, World.size_setCell, World.size_drew, World.heap_drewN]); omega)) | ((with_reducible refine Xk.below_exw ?_ ?_ _); rotate_left; exact (by (try simp only [World.size_alloc, Xk.exw_size, World.size_setCell, World.size_drew, World.heap_drewN]); omega)) | (with_reducible refine Below.drew ?_)))⟩
      by_cases hb2 : k < 0
      · have s1 : ¬ (1500 : Int) < (s.size : Int) := by omega
        go_wp2
        go_ret
        exact ⟨rfl, (by repeat (first | with_reducible exact Below.refl _ _ | ((with_reducible refine Below.setCell ?_ ?_ _); rotate_left; exact (by (try simp only [World.size_alloc, Xk.exw_size, World.size_setCell, World.size_drew, World.heap_drewN]); omega)) | ((with_reducible refine Below.alloc ?_ ?_ _); rotate_left; exact (by (try simp only [World.size_alloc, Xk.exw_size, World.size_setCell, World.size_drew, World.heap_drewN]); omega)) | ((with_reducible refine Xk.below_exw ?_ ?_ _); rotate_left; exact (by (try simp only [World.size_alloc, Xk.exw_size, World.size_setCell, World.size_drew, World.heap_drewN]); omega)) | (with_reducible refine Below.drew ?_)))⟩
      by_cases hb3 : 100 < k
      · have s1 : ¬ (1500 : Int) < (s.size : Int) := by omega
        go_wp2
        go_ret
        exact ⟨rfl, (by repeat (first | with_reducible exact Below.refl _ _ | ((with_reducible refine Below.setCell ?_ ?_ _); rotate_left; exact (by (try simp only [World.size_alloc, Xk.exw_size, World.size_setCell, World.size_drew, World.heap_drewN]); omega)) | ((with_reducible refine Below.alloc ?_ ?_ _); rotate_left; exact (by (try simp only [World.size_alloc, Xk.exw_size, World.size_setCell, World.size_drew, World.heap_drewN]); omega)) | ((with_reducible refine Xk.below_exw ?_ ?_ _); rotate_left; exact (by (try simp only [World.size_alloc, Xk.exw_size, World.size_setCell, World.size_drew, World.heap_drewN]); omega)) | (with_reducible refine Below.drew ?_)))⟩
      obtain ⟨n, rfl⟩ := Int.eq_ofNat_of_zero_le (Int.not_lt.1 hb2)
      have hn : n ≤ 100 := by omega
      have s1 : ¬ (1500 : Int) < (s.size : Int) := by omega
      have s2 : ¬ (n : Int) < 0 := by omega
      have s3 : ¬ (100 : Int) < (n : Int) := by omega
      clear hb2 hb3
      go_wp2
      go_loop [6, 7] (fun t x => ∃ q : Nat, q ≤ n ∧ x = .int .i64 q ∧ t = .string (blanksB q)) (fun _ x => n - (intOf x).toNat)
      case atStart => exact ⟨0, Nat.zero_le _, rfl, rfl⟩
      case round =>
        obtain ⟨j, hj, rfl, rfl⟩ := hrel
        by_cases hlt2 : j < n
        · have HR := Lib.hid (rep_cat j)
          have hbs := blanksB_size j
          have hbs : (blanksB j).size ≤ 100 := by omega
          go_wp2
          go_round
          case rel => exact ⟨j + 1, by omega, by go_num, congrArg Value.string HR.out⟩
          case measure => simp [intOf]; omega
        · obtain rfl : j = n := by omega
          obtain ⟨a, b, ht⟩ := P11.toks_quoted s.data.toList j H0.out
          have hu := P11.toks_unended s.data.toList j
          have hsz : (P6.quote s.data.toList).length ≤ 3002 := by
            have h1 := P6.dbl_length s.data.toList
            have h2 : s.data.toList.length = s.size := rfl
            unfold P6.quote
            simp only [List.length_cons, List.length_append, List.length_nil]
            omega
          have e1 : (blanksB j ++ ⟨(P6.quote s.data.toList).toArray⟩ ++ ⟨#[32, 120]⟩ : ByteArray).data.toList = List.replicate j 32 ++ (39 :: (P6.dbl s.data.toList ++ [39]) ++ [32, 120]) := by
            rw [ByteArray.data_append, ByteArray.data_append, Array.toList_append, Array.toList_append, blanksB_list]; simp [P6.quote]
          have e2 : (blanksB j ++ ⟨(P6.quote s.data.toList).toArray⟩ ++ ⟨#[39]⟩ : ByteArray).data.toList = List.replicate j 32 ++ (39 :: (P6.dbl s.data.toList ++ [39]) ++ [39]) := by
            rw [ByteArray.data_append, ByteArray.data_append, Array.toList_append, Array.toList_append, blanksB_list]; simp [P6.quote]
          have hq2 : P6.quote s.data.toList = 39 :: (P6.dbl s.data.toList ++ [39]) := rfl
          have hok := fun w => tokens_ok (blanksB j ++ ⟨(P6.quote s.data.toList).toArray⟩ ++ ⟨#[32, 120]⟩) [⟨4, s.data.toList, j⟩, ⟨1, [120], a⟩, ⟨0, [], b⟩] (by
            rw [e1, P11.lexed, if_neg, ht]
            rw [← hq2]
            simp only [List.length_append, List.length_replicate, List.length_cons, List.length_nil]
            omega) w
          have herr := fun w => tokens_err (blanksB j ++ ⟨(P6.quote s.data.toList).toArray⟩ ++ ⟨#[39]⟩) j 112 (by
            rw [e2, P11.lexed, if_neg, hu]
            rw [← hq2]
            simp only [List.length_append, List.length_replicate, List.length_cons, List.length_nil]
            omega) w
          have HOK := Lib.hid hok
          have HERR := Lib.hid herr
          have HQ := Lib.hid (fun p => lexQuote_any s (by omega) _ (HE.out p))
          have hbs := blanksB_size j
          have hbs : (blanksB j).size ≤ 100 := by omega
          clear hok herr e1 e2 hq2 ht hu
          generalize P6.quote s.data.toList = Q at *
          go_wp2_with (go_at_call 14; (with_reducible refine (HQ.out _).mono ?_); rintro e w' ⟨rfl, hb⟩; obtain ⟨p, rfl⟩ := Xk.exw_of hb; clear hb)
          (with_reducible refine (HOK.out _).mono ?_)
          rintro e w' ⟨b1, o1, cap, rfl, ⟨hlt1, hc⟩, hb⟩
          obtain ⟨p1, rfl⟩ := Xk.exw_of hb
          obtain ⟨c1, c2, c3⟩ := hc 0 _ rfl
          obtain ⟨-, c4, -⟩ := hc 1 _ rfl
          dsimp only at c1 c2 c3 c4
          have es : (⟨s.data.toList.toArray⟩ : ByteArray) = s := bytes_eq rfl
          rw [es] at c2
          clear hb hc es
          simp only [Xk.exw_drew, Xk.exw_exw, Array.append_assoc, Nat.zero_mul, Nat.add_zero, Nat.one_mul] at c1 c2 c3 c4
          go_wp2_with (go_at_call 8; (with_reducible refine (HERR.out _).mono ?_); rintro e w' ⟨rfl, hb⟩; obtain ⟨p, rfl⟩ := Xk.exw_of hb; clear hb)
          go_ret
          exact ⟨rfl, (by repeat (first | with_reducible exact Below.refl _ _ | ((with_reducible refine Below.setCell ?_ ?_ _); rotate_left; exact (by (try simp only [World.size_alloc, Xk.exw_size, World.size_setCell, World.size_drew, World.heap_drewN]); omega)) | ((with_reducible refine Below.alloc ?_ ?_ _); rotate_left; exact (by (try simp only [World.size_alloc, Xk.exw_size, World.size_setCell, World.size_drew, World.heap_drewN]); omega)) | ((with_reducible refine Xk.below_exw ?_ ?_ _); rotate_left; exact (by (try simp only [World.size_alloc, Xk.exw_size, World.size_setCell, World.size_drew, World.heap_drewN]); omega)) | (with_reducible refine Below.drew ?_)))⟩
end Go.Proofs.YteipafoiogkdoaaDoor
