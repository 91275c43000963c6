/- The walk of the statement LexBack. -/
import Derived.Test.YteipafoiogkdoaaDoorLQ
import Derived.Test.YteipafoiogkdoaaDoorPO
set_option linter.unusedSimpArgs false
set_option linter.unusedVariables false
namespace Go.Proofs.YteipafoiogkdoaaDoor
open Go.RowKit Go.Maps
theorem cat2 (a b : List UInt8) : (⟨a.toArray⟩ ++ ⟨b.toArray⟩ ++ ⟨#[32]⟩ : ByteArray) = ⟨(a ++ (b ++ [32])).toArray⟩ := by
  apply bytes_eq; simp
set_option maxRecDepth 100000 in
set_option maxHeartbeats 4000000 in
theorem lexBack_walk (s : ByteArray) (w : World) (hE : EnvL w) (hs : s.size ≤ maxLen) :
    Calls Tryd.prog 5 #[.string s] w fun e w' => e = .returned (.bool true) ∧ Below w.heap.size w w' := by
  have HE := Lib.hid (fun W (hx : Xk.Ext w W) => hE.ext hx)
  clear hE
  unfold maxLen at hs
  by_cases hb1 : 1500 < s.size
  · have s1 : (1500 : Int) < (s.size : Int) := by omega
    go_enter Tryd.func5, Tryd.ntmps5
    go_wp2_with (go_at_call 7; (with_reducible refine (known11 _).mono ?_); rintro e w' ⟨rfl, hb⟩; obtain ⟨p, rfl⟩ := Xk.exw_of hb; clear hb)
    go_ret
    exact ⟨rfl, (by repeat (first | with_reducible exact Below.refl _ _ | ((with_reducible refine Below.setCell ?_ ?_ _); rotate_left; exact (by (try simp only [World.size_alloc, Xk.exw_size, World.size_setCell, World.size_drew, World.heap_drewN]); omega)) | ((with_reducible refine Below.alloc ?_ ?_ _); rotate_left; exact (by (try simp only [World.size_alloc, Xk.exw_size, World.size_setCell, World.size_drew, World.heap_drewN]); omega)) | ((with_reducible refine Xk.below_exw ?_ ?_ _); rotate_left; exact (by (try simp only [World.size_alloc, Xk.exw_size, World.size_setCell, World.size_drew, World.heap_drewN]); omega)) | (with_reducible refine Below.drew ?_)))⟩
  have s1 : ¬ (1500 : Int) < (s.size : Int) := by omega
  cases hl : P11.lexed s.data.toList with
  | inr x =>
    obtain ⟨a, k⟩ := x
    have hk : k ≠ 0 := P11.lexed_code hl
    have hkb : (k != 0) = true := by simpa using hk
    have HT := Lib.hid (fun w => tokens_err s a k hl w)
    clear hl hk
    go_enter Tryd.func5, Tryd.ntmps5
    go_wp2_with (first | (go_at_call 7; (with_reducible refine (known11 _).mono ?_); rintro e w' ⟨rfl, hb⟩; obtain ⟨p, rfl⟩ := Xk.exw_of hb; clear hb) | (go_at_call 8; (with_reducible refine (HT.out _).mono ?_); rintro e w' ⟨rfl, hb⟩; obtain ⟨p, rfl⟩ := Xk.exw_of hb; clear hb))
    go_ret
    exact ⟨rfl, (by repeat (first | with_reducible exact Below.refl _ _ | ((with_reducible refine Below.setCell ?_ ?_ _); rotate_left; exact (by (try simp only [World.size_alloc, Xk.exw_size, World.size_setCell, World.size_drew, World.heap_drewN]); omega)) | ((with_reducible refine Below.alloc ?_ ?_ _); rotate_left; exact (by (try simp only [World.size_alloc, Xk.exw_size, World.size_setCell, World.size_drew, World.heap_drewN]); omega)) | ((with_reducible refine Xk.below_exw ?_ ?_ _); rotate_left; exact (by (try simp only [World.size_alloc, Xk.exw_size, World.size_setCell, World.size_drew, World.heap_drewN]); omega)) | (with_reducible refine Below.drew ?_)))⟩
  | inl l =>
    have htk : P11.toks s.data.toList 0 = .inl l := by
      unfold P11.lexed at hl
      rwa [if_neg (by show ¬ 4096 < s.size; omega)] at hl
    have hbk := P11.toks_bulk _ _ 0 l (Nat.le_refl _) htk
    have hbk : P11.bulk l ≤ 3001 := by
      have : s.data.toList.length = s.size := rfl
      omega
    have hln := P11.bulk_length l
    have hwr := P11.written_length l
    have HT := Lib.hid (fun w => tokens_ok s l hl w)
    go_enter Tryd.func5, Tryd.ntmps5
    go_wp2_with (go_at_call 7; (with_reducible refine (known11 _).mono ?_); rintro e w' ⟨rfl, hb⟩; obtain ⟨p, rfl⟩ := Xk.exw_of hb; clear hb)
    (with_reducible refine (HT.out _).mono ?_)
    rintro e w' ⟨b, off, cap, rfl, hrow, hb⟩
    have hB : Below w.heap.size w w' := (Xk.ext_exw w p).trans (hb.mono (by simp))
    have HB := Lib.hid hB
    have HR := Lib.hid hrow
    clear hb hB hrow hl HT
    go_wp2
    go_loopw [6, 7] (fun t x wr => ∃ q : Nat, q ≤ l.length ∧ x = .int .i64 q ∧ t = .string ⟨(P11.written ((l.take q).map P11.kt)).toArray⟩ ∧ Below w.heap.size w wr ∧ TokRow b off l wr) (fun _ x _ => l.length - (intOf x).toNat)
    case atStart => exact ⟨0, Nat.zero_le _, rfl, rfl, HB.out, HR.out⟩
    case round =>
      clear HB HR
      obtain ⟨q, hq, rfl, rfl, hB, hrow⟩ := hrel
      have HB := Lib.hid hB
      have HR := Lib.hid hrow
      have hlb := hrow.1
      clear hB hrow
      by_cases hlt : q < l.length
      · have hx : l[q]? = some (l[q]'hlt) := List.getElem?_eq_getElem _
        have hsucc := P11.written_succ hx
        have htk' := P11.written_take l q
        have htl := P11.bulk_at (List.getElem_mem hlt)
        obtain ⟨c1, c2, -⟩ := HR.out.2 q _ hx
        generalize l[q]'hlt = x at *
        obtain ⟨k, u, pos⟩ := x
        dsimp only at c1 c2 htl
        have HS := Lib.hid hsucc
        have hTl : (P11.written ((l.take q).map P11.kt)).length ≤ 9003 := by omega
        clear hsucc hx htk'
        generalize P11.written ((l.take q).map P11.kt) = T at *
        by_cases hk : k = 4
        · subst hk
          have hp : P11.pr (P11.kt ⟨4, u, pos⟩) = P6.quote u := rfl
          have HC := Lib.hid (cat2 T (P6.quote u))
          have HQ := Lib.hid (lexQuote_any ⟨u.toArray⟩ (by show u.toArray.size ≤ 1000000; rw [List.size_toArray]; omega) _ (HE.out _ HB.out))
          have hql : (P6.quote u).length ≤ 6100 := by
            have h1 := P6.dbl_length u
            unfold P6.quote
            simp only [List.length_cons, List.length_append, List.length_nil]
            omega
          have HP := Lib.hid hp
          clear hp
          go_wp2_with (go_at_call 14; (with_reducible refine (HQ.out).mono ?_); rintro e w' ⟨rfl, hb⟩; obtain ⟨p, rfl⟩ := Xk.exw_of hb; clear hb)
          go_roundw
          case rel => exact ⟨q + 1, by omega, by go_num, by rw [HS.out, HP.out]; exact congrArg Value.string HC.out, HB.out.trans ((Xk.ext_exw _ _).mono HB.out.size), HR.out.ext (Xk.ext_exw _ _)⟩
          case measure => simp [intOf]; omega
        · have hp : P11.pr (P11.kt ⟨k, u, pos⟩) = u := if_neg hk
          have hkb : (k == 4) = false := by simpa using hk
          have HC := Lib.hid (cat2 T u)
          have HP := Lib.hid hp
          clear hp hk
          go_wp2
          go_roundw
          case rel => exact ⟨q + 1, by omega, by go_num, by rw [HS.out, HP.out]; exact congrArg Value.string HC.out, HB.out, HR.out⟩
          case measure => simp [intOf]; omega
      · obtain rfl : q = l.length := by omega
        have hT : (l.take l.length).map P11.kt = l.map P11.kt := by rw [List.take_length]
        have htk' := P11.written_take l l.length
        rw [hT] at htk' ⊢
        obtain ⟨m, hm, hmk⟩ := P11.toks_back htk
        have hml : m.length = l.length := by
          have := congrArg List.length hmk
          simpa using this
        generalize hW : P11.written (l.map P11.kt) = T at *
        by_cases hbig : 4096 < T.length
        · have g1 : (4096 : Int) < (T.length : Int) := by omega
          go_wp2
          go_ret
          exact ⟨rfl, HB.out⟩
        · have g1 : ¬ (4096 : Int) < (T.length : Int) := by omega
          have hlx : P11.lexed (⟨T.toArray⟩ : ByteArray).data.toList = .inl m := by
            show P11.lexed T.toArray.toList = _
            rw [List.toList_toArray, P11.lexed, if_neg hbig, hm]
          have hok := fun w => tokens_ok ⟨T.toArray⟩ m hlx w
          rw [hml] at hok
          have HOK := Lib.hid hok
          have HMK := Lib.hid hmk
          clear hok hlx hmk hm hW hT
          go_wp2_with fail
          (with_reducible refine (HOK.out _).mono ?_)
          rintro e w2 ⟨b2, off2, cap2, rfl, hrow2, hb2⟩
          have HB2 := Lib.hid (HB.out.trans (hb2.mono HB.out.size))
          have HR1 := Lib.hid (HR.out.ext hb2)
          have HR2 := Lib.hid hrow2
          have hl1 := HR1.out.1
          have hl2 := hrow2.1
          clear hrow2 hb2 HB HR hlb
          go_wp2
          go_loopw [10] (fun x wr => ∃ q : Nat, q ≤ l.length ∧ x = .int .i64 q ∧ Xk.Ext w2 wr) (fun x _ => l.length - (intOf x).toNat)
          case atStart => exact ⟨0, Nat.zero_le _, rfl, Below.refl _ _⟩
          case round =>
            obtain ⟨q, hq, rfl, hxt⟩ := hrel
            have HX := Lib.hid hxt
            clear hxt
            by_cases hlt2 : q < l.length
            · have hx : l[q]? = some (l[q]'hlt2) := List.getElem?_eq_getElem _
              have hy : m[q]? = some (m[q]'(by omega)) := List.getElem?_eq_getElem _
              have hxy : P11.kt (m[q]'(by omega)) = P11.kt (l[q]'hlt2) := by
                have := congrArg (fun z => z[q]?) HMK.out
                simp only [List.getElem?_map, hx, hy, Option.map_some, Option.some.injEq] at this
                exact this
              obtain ⟨c1, c2, -⟩ := (HR1.out.ext HX.out).2 q _ hx
              obtain ⟨d1, d2, -⟩ := (HR2.out.ext HX.out).2 q _ hy
              generalize l[q]'hlt2 = x at *
              generalize m[q]'(by omega) = y at *
              obtain ⟨k, u, pos⟩ := x
              obtain ⟨k', u', pos'⟩ := y
              simp only [P11.kt, Prod.mk.injEq] at hxy
              obtain ⟨rfl, rfl⟩ := hxy
              dsimp only at c1 c2 d1 d2
              have e1 := Nat.lt_of_lt_of_le hl1 HX.out.size
              have e2 := Nat.lt_of_lt_of_le hl2 HX.out.size
              have q1 : (q : Int) < (l.length : Int) := by omega
              clear hx hy
              go_wp2
              refine Xk.wp_region_rel' 24 [] trivial (by kernel_rfl) (by kernel_rfl) ?_
              simp only [List.take_succ_cons, List.take_zero, List.drop_succ_cons, List.drop_zero]
              repeat (first
                | (refine Xk.rel_det (Xk.wanted_none (by rfl)) (by rfl) (fun K hK => ?_); apply Exists.intro; refine ⟨fun p hp => ?_, ?_⟩; (go_simp; first | exact ⟨rfl, rfl⟩ | ((try refine ⟨by kernel_rfl, ?_⟩); (fail))); (go_simp; refine hK _ ?_; clear hK K))
                | (refine Xk.rel_skip (by rfl) (fun K hK => ?_); go_simp; refine hK _ ?_; clear hK K)
                | (refine Xk.rel_det (by rfl) (by rfl) (fun K hK => ?_); apply Exists.intro; refine ⟨fun p hp => ?_, ?_⟩; (go_simp; first | exact ⟨rfl, rfl⟩ | ((try refine ⟨by kernel_rfl, ?_⟩); (fail))); (go_simp; refine hK _ ?_; clear hK K)))
              refine Xk.rel_nil (fun p _ => ?_)
              go_wp2
              go_roundw
              case rel => exact ⟨q + 1, by omega, by go_num, HX.out.trans (Xk.ext_exw _ _)⟩
              case measure => simp [intOf]; omega
            · go_wp2
              go_ret
              exact ⟨rfl, HB2.out.trans (HX.out.mono HB2.out.size)⟩
end Go.Proofs.YteipafoiogkdoaaDoor
