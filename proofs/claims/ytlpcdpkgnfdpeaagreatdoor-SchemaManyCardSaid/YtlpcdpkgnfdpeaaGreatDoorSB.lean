/- What the claim's proof leans on, part 2: walks of functions and plain laws. -/
import Derived.StillTail
import Derived.Below
import Derived.Lib.QuietBelow
import Derived.KernelRfl
import Derived.Lib.Hide
import Derived.WalkKit
import Derived.OwnWalk
import Derived.Laws.OwnMore
import Derived.ArgAppend
import Derived.Shelf.Strings.Builder1
import Derived.Shelf.Strings.Builder2
import Derived.Shelf.Strings.OnBuilder
import Derived.Shelf.Strings.Trim
import Derived.Shelf.Small.Utf8
import Derived.Shelf.Small.Strs
import Derived.Shelf.Strings.BuilderF
import Derived.Shelf.Strings.BuilderK
import Derived.Shelf.Strings.BuilderRune
import Derived.Shelf.Utf8.AppendRune
import Derived.Shelf.Utf8.AppendRunePlain
import Derived.Shelf.Utf8.RuneCount
import Derived.Shelf.Strings.Builder2Cap
import Derived.Shelf.Strconv.Itoa0
import Derived.Shelf.Strconv.Itoa1
import Derived.Shelf.LaysM
import Derived.Shelf.Strconv.Itoa2
import Derived.Shelf.Strconv.Itoa3
import Derived.Shelf.Strconv.Itoa4
import Derived.Shelf.Strconv.ParseIntEmpty
import Derived.Shelf.Strconv.Clone
import Derived.Shelf.Strconv.SyntaxError
import Derived.Shelf.LaysC
import Derived.Shelf.Strconv.ToError
import Derived.Shelf.Strconv.Lower
import Derived.Shelf.Strconv.ParseUint10
import Derived.Shelf.Strconv.ParseUint10Empty
import Derived.Shelf.Strconv.ParseUint10Any
import Derived.Shelf.Strconv.ParseInt10
import Derived.Shelf.Strconv.RangeError
import Derived.Shelf.Strconv.ToErrorRange
import Derived.Shelf.Strconv.ParseUintEmpty
import Derived.Shelf.Strconv.ParseUint10b64
import Derived.Shelf.Strconv.ParseUint10b32
import Derived.Shelf.Strconv.ParseUint10b16
import Derived.Shelf.Strconv.ParseUint10b8
import Derived.Shelf.Strconv.ParseUint10At
import Derived.Shelf.Strconv.ParseInt10At64
import Derived.Shelf.Strconv.ParseInt10At32
import Derived.Shelf.Strconv.ParseInt10At16
import Derived.Shelf.Strconv.ParseInt10At8
import Derived.Shelf.Strconv.ParseInt10All
import Derived.Shelf.Strconv.ParseIntPublic10
import Derived.Shelf.Strconv.ErrVarParseInt
import Derived.Ground.MpProg
import Derived.Shelf.Pu.ParseUintPublic10
import Derived.Shelf.Pu.ErrVarParseUint
import Derived.Shelf.Strings.Search1
import Derived.Shelf.Strings.Search2
import Derived.Shelf.Strings.Search3
import Derived.Shelf.Strings.Count
import Derived.Shelf.Strings.Shaped
import Derived.Shelf.Strings.Prefix
import Derived.Shelf.Strings.Split
import Derived.Shelf.Strings.Replace
import Derived.Shelf.Strings.SplitShaped
import Derived.Shelf.Unicode.Latin
import Derived.Shelf.Unicode.Decode
import Derived.Shelf.Strings.Runes
import Derived.Shelf.Strings.RuneCount
import Derived.Shelf.Strings.AsciiSet
import Derived.Shelf.Unicode.DecodeSlow
import Derived.Shelf.Unicode.DecodeAny
import Derived.Shelf.Unicode.CaseLookup
import Derived.Shelf.Unicode.CaseConvert
import Derived.Shelf.Unicode.CaseTo
import Derived.Shelf.Unicode.CaseLaid
import Derived.Shelf.Strings.MapAny
import Derived.Shelf.Strings.CaseAny
import Derived.Shelf.Strings.BuilderCap
import Derived.Shelf.Slices.Turned
import Derived.Shelf.Slices.Equal
import Derived.Ground.Names2Prog
import Derived.Shelf.Slices.Clone
import Derived.Shelf.Slices.Empties2
import Derived.Ground.SlgnProg
import Derived.Shelf.SlicesE.Clone
import Derived.Ground.SlgfProg
import Derived.Shelf.SlicesE.IndexFunc
import Derived.Test.YtlpcdpkgnfdpeaaGreatDoorProg
import Derived.Deep.Light
import Derived.Laws.BytesString
import Derived.Laws.BytesArg
import Derived.Laws.Cells
set_option linter.unusedSimpArgs false
set_option linter.unusedVariables false
set_option maxRecDepth 100000
set_option maxHeartbeats 80000000
namespace Go.Xk
open Go.RowKit
abbrev Ext (w w' : World) : Prop := Below w.heap.size w w'
theorem Ext.trans {a b c : World} (h : Ext a b) (k : Ext b c) : Ext a c := Below.trans h (k.mono h.size)
abbrev Facts := List (Nat × (World → Prop))
def factsAll : Facts → World → Prop
 | [], _ => True
 | x :: r, w => x.2 w ∧ factsAll r w
def factsAnc (m : Nat) : Facts → World → Prop
 | [], _ => True
 | x :: r, w => if m.testBit x.1 then x.2 w ∧ factsAnc m r w else factsAnc m r w
def tells (Ψ : List (Nat × (Value → World → Prop))) (i : Nat) : Option (Value → World → Prop) :=
 match Ψ with
 | [] => none
 | x :: r => if x.1 = i then some x.2 else tells r i
def ancOf (ops : Array Oper) (i : Nat) : Nat := (Region.before ops).getD i 0
def putAll (vals : Nat → Value) : List Oper → Nat → Act → Act
 | [], _, a => a
 | o :: r, i, a => putAll vals r (i + 1) (a.put o.dst (vals i))
theorem size_put (a : Act) (d : Option Tmp) (v : Value) : (a.put d v).tmps.size = a.tmps.size := by cases d <;> simp [Act.put]
theorem defers_put (a : Act) (d : Option Tmp) (v : Value) : (a.put d v).defers = a.defers := by cases d <;> rfl
theorem getD_put_ne (a : Act) (d : Option Tmp) (v : Value) (t : Tmp) (h : d ≠ some t) : (a.put d v).tmps.getD t undef = a.tmps.getD t undef := by
 cases d with
 | none => rfl
 | some d =>
  have hne : d ≠ t := fun e => h (by rw [e])
  simp [Act.put, Array.getElem?_setIfInBounds_ne hne]
theorem getD_put_eq (a : Act) (v : Value) (t : Tmp) (h : t < a.tmps.size) : (a.put (some t) v).tmps.getD t undef = v := by
 simp [Act.put, h]
theorem size_putAll (vals : Nat → Value) : ∀ (l : List Oper) (i : Nat) (a : Act), (putAll vals l i a).tmps.size = a.tmps.size
 | [], _, _ => rfl
 | o :: r, i, a => by rw [putAll, size_putAll vals r, size_put]
theorem defers_putAll (vals : Nat → Value) : ∀ (l : List Oper) (i : Nat) (a : Act), (putAll vals l i a).defers = a.defers
 | [], _, _ => rfl
 | o :: r, i, a => by rw [putAll, defers_putAll vals r, defers_put]
theorem getD_putAll_none (vals : Nat → Value) (t : Tmp) : ∀ (l : List Oper) (i : Nat) (a : Act), (∀ o ∈ l, o.dst ≠ some t) → (putAll vals l i a).tmps.getD t undef = a.tmps.getD t undef
 | [], _, _, _ => rfl
 | o :: r, i, a, h => by
  rw [putAll, getD_putAll_none vals t r _ _ (fun o' ho => h o' (List.mem_cons_of_mem _ ho)), getD_put_ne _ _ _ _ (h o (List.mem_cons_self ..))]
theorem getD_putAll_at (vals : Nat → Value) (t : Tmp) : ∀ (l : List Oper) (i : Nat) (a : Act) (k : Nat) (o : Oper), l[k]? = some o → o.dst = some t → (∀ k' o', l[k']? = some o' → k' ≠ k → o'.dst ≠ some t) →
  t < a.tmps.size → (putAll vals l i a).tmps.getD t undef = vals (i + k)
 | [], _, _, _, _, h, _, _, _ => by simp at h
 | o :: r, i, a, 0, o', h, hd, hu, ht => by
  simp only [List.getElem?_cons_zero, Option.some.injEq] at h
  subst h
  rw [putAll, getD_putAll_none vals t r _ _ (fun o' ho => by
   obtain ⟨k', hk⟩ := List.mem_iff_getElem?.1 ho
   exact hu (k' + 1) o' (by simpa using hk) (by omega)), hd, getD_put_eq _ _ _ ht, Nat.add_zero]
 | o :: r, i, a, k + 1, o', h, hd, hu, ht => by
  rw [putAll, getD_putAll_at vals t r (i + 1) _ k o' (by simpa using h) hd (fun k' o'' h' hk => hu (k' + 1) o'' (by simpa using h') (by omega)) (by rw [size_put]; exact ht)]
  congr 1; omega
theorem factsAll_of {F : Facts} {w : World} (h : ∀ x ∈ F, x.2 w) : factsAll F w := by
 induction F with
 | nil => trivial
 | cons x r ih => exact ⟨h x (List.mem_cons_self ..), ih fun y hy => h y (List.mem_cons_of_mem _ hy)⟩
theorem factsAnc_of {F : Facts} {w : World} {k : Nat} (h : ∀ x ∈ F, k.testBit x.1 = true → x.2 w) : factsAnc k F w := by
 induction F with
 | nil => trivial
 | cons x r ih =>
  have ih' := ih fun y hy => h y (List.mem_cons_of_mem _ hy)
  unfold factsAnc
  split
  ·rename_i hb; exact ⟨h x (List.mem_cons_self ..) hb, ih'⟩
  ·exact ih'
def slotsOk (ops : Array Oper) (n : Nat) : Bool :=
  (List.range n).all fun i => (List.range n).all fun j =>
    match ops[i]?, ops[j]? with
    | some oi, some oj =>
      (match oj.dst with
       | some t => (i == j || oi.dst != some t) && (!(oi.looksAt ops).contains t || (ancOf ops i).testBit j || i == j || (decide (i < j) && (ancOf ops j).testBit i))
       | none => true) &&
      (!(ancOf ops i).testBit j || (decide (j < i) && oi.after.any fun e => Region.binds .any e && (e.on == j || (ancOf ops e.on).testBit j)))
    | _, _ => false
def edgesOk (ops : Array Oper) (n : Nat) : Bool :=
 (List.range n).all fun i => match ops[i]? with | some o => o.after.all fun e => !Region.binds .any e || decide (e.on < i) | none => false
def relOk (ops : Array Oper) (n : Nat) : Bool :=
 Region.noSelect ops && decide (n ≤ ops.size) && slotsOk ops n && edgesOk ops n && (n == ops.size || (Region.sinkB .any ops n && Region.chainB .any ops n)) &&
 Region.seqB .any ops (ops.size - n) n (Array.replicate n true ++ Array.replicate (ops.size - n) false)
def starB (ops : Array Oper) (n : Nat) : Bool := (List.range ops.size).all fun t => decide (t ≤ n) || Region.waitsFor .any ops t n
structure RelOk (ops : Array Oper) (n : Nat) : Prop where
 sel : Region.noSelect ops = true
 le : n ≤ ops.size
 dst : ∀ i j oi oj t, i < n → j < n → ops[i]? = some oi → ops[j]? = some oj → oj.dst = some t → i ≠ j → oi.dst ≠ some t
 look : ∀ i j oi oj t, i < n → j < n → ops[i]? = some oi → ops[j]? = some oj → oj.dst = some t → t ∈ oi.looksAt ops → (ancOf ops i).testBit j = true ∨ i = j ∨ (i < j ∧ (ancOf ops j).testBit i = true)
 anc : ∀ i j oi, i < n → j < n → ops[i]? = some oi → (ancOf ops i).testBit j = true → j < i ∧ ∃ e ∈ oi.after, Region.binds .any e = true ∧ (e.on = j ∨ (ancOf ops e.on).testBit j = true)
 edge : ∀ i oi, i < n → ops[i]? = some oi → ∀ e ∈ oi.after, Region.binds .any e = true → e.on < i
 tail : n = ops.size ∨ (Region.sinkB .any ops n = true ∧ (Region.chainB .any ops n = true ∨ starB ops n = true))
theorem relOk_seq {ops : Array Oper} {n : Nat} (h : relOk ops n = true) : Region.seqB .any ops (ops.size - n) n (Array.replicate n true ++ Array.replicate (ops.size - n) false) = true := by
 simp only [relOk, Bool.and_eq_true] at h
 exact h.2
theorem relOk_parts {ops : Array Oper} {n : Nat} (h1 : Region.noSelect ops = true) (h2 : n ≤ ops.size) (h3 : slotsOk ops n = true) (h4 : edgesOk ops n = true) (h5 : n = ops.size ∨ (Region.sinkB .any ops n = true ∧ (Region.chainB .any ops n = true ∨ starB ops n = true))) : RelOk ops n := by
  have s : ∀ i j oi oj, i < n → j < n → ops[i]? = some oi → ops[j]? = some oj →
      ((match oj.dst with
       | some t => (i == j || oi.dst != some t) && (!(oi.looksAt ops).contains t || (ancOf ops i).testBit j || i == j || (decide (i < j) && (ancOf ops j).testBit i))
       | none => true) &&
      (!(ancOf ops i).testBit j || (decide (j < i) && oi.after.any fun e => Region.binds .any e && (e.on == j || (ancOf ops e.on).testBit j)))) = true := by
    intro i j oi oj hi hj ei ej
    have := List.all_eq_true.1 (List.all_eq_true.1 h3 i (List.mem_range.2 hi)) j (List.mem_range.2 hj)
    simp only [ei, ej] at this
    exact this
  refine ⟨h1, h2, ?_, ?_, ?_, ?_, h5⟩
  · intro i j oi oj t hi hj ei ej hd hne
    have := s i j oi oj hi hj ei ej
    simp only [hd, Bool.and_eq_true, Bool.or_eq_true, beq_iff_eq, bne_iff_ne] at this
    rcases this.1.1 with h | h
    · exact absurd h hne
    · exact h
  · intro i j oi oj t hi hj ei ej hd ht
    have := s i j oi oj hi hj ei ej
    simp only [hd, Bool.and_eq_true, Bool.or_eq_true, beq_iff_eq, Bool.not_eq_true', decide_eq_true_eq] at this
    rcases this.1.2 with ((h | h) | h) | h
    · rw [List.contains_eq_mem, decide_eq_false_iff_not] at h; exact absurd ht h
    · exact .inl h
    · exact .inr (.inl h)
    · exact .inr (.inr h)
  · intro i j oi hi hj ei hb
    have hjs : j < ops.size := Nat.lt_of_lt_of_le hj h2
    have := s i j oi ops[j] hi hj ei (by simp [hjs])
    simp only [Bool.and_eq_true, Bool.or_eq_true, Bool.not_eq_true', decide_eq_true_eq] at this
    rcases this.2 with h | ⟨h, g⟩
    · rw [hb] at h; cases h
    · obtain ⟨e, he, hq⟩ := Array.any_eq_true'.1 g
      simp only [Bool.and_eq_true, Bool.or_eq_true, beq_iff_eq] at hq
      exact ⟨h, e, he, hq.1, hq.2⟩
  · intro i oi hi ei e he hb
    have := List.all_eq_true.1 h4 i (List.mem_range.2 hi)
    simp only [ei] at this
    have := Array.all_eq_true_iff_forall_mem.1 this e he
    simp only [Bool.or_eq_true, Bool.not_eq_true', decide_eq_true_eq] at this
    rcases this with h | h
    · rw [hb] at h; cases h
    · exact h
theorem relOk_spec {ops : Array Oper} {n : Nat} (h : relOk ops n = true) : RelOk ops n := by
 simp only [relOk, Bool.and_eq_true, Bool.or_eq_true, beq_iff_eq, decide_eq_true_eq] at h
 obtain ⟨⟨⟨⟨⟨h1, h2⟩, h3⟩, h4⟩, h5⟩, h6⟩ := h
 exact relOk_parts h1 h2 h3 h4 (h5.imp id fun h => ⟨h.1, .inl h.2⟩)
theorem tail_waits2 {ops : Array Oper} {n : Nat} {listed : Array Bool} (hs : Region.sinkB .any ops n = true) (hc : Region.chainB .any ops n = true ∨ starB ops n = true) (hn : n < ops.size) (inv : HeadInv .any ops n listed) :
  ∀ (d i : Nat), n - i = d → i < n → listed.getD i true = false → ∀ t, n ≤ t → t ∉ Region.ready .any ops listed := by
 rcases hc with hc | hc
 ·exact tail_waits hs hc hn inv
 ·intro d
  induction d using Nat.strongRecOn with
  | _ d ih =>
   intro i hd hi hun t ht hr
   obtain ⟨_, ot, hot, hall⟩ := mem_ready.1 hr
   have htlt : t < ops.size := (Array.getElem?_eq_some_iff.1 hot).1
   by_cases htn : t = n
   ·subst htn
    have h1 := List.all_eq_true.1 hs i (List.mem_range.2 hi)
    obtain ⟨j, hj, hj2⟩ := List.any_eq_true.1 h1
    simp only [Bool.and_eq_true, decide_eq_true_eq] at hj2
    obtain ⟨oj, hoj, e, he, hb, hon⟩ := Region.waitsFor_spec hj2.2
    have hjle : j ≤ t := by have := List.mem_range.1 hj; omega
    by_cases hjt : j = t
    ·subst hjt
     have : oj = ot := Option.some.inj (hoj.symm.trans hot)
     subst this
     have h2 := hall e he hb
     rw [hon, getD_both hun] at h2
     cases h2
    ·cases hl : listed.getD j false with
     | true =>
      have h2 := inv.closed j oj hoj hl e he hb
      rw [hon, getD_both hun] at h2
      cases h2
     | false =>
      have hjs : j < listed.size := by rw [inv.size]; omega
      exact ih (t - j) (by omega) j rfl (by omega) (getD_in hjs hl) t (Nat.le_refl _) hr
   ·have h1 := List.all_eq_true.1 hc t (List.mem_range.2 htlt)
    simp only [Bool.or_eq_true, decide_eq_true_eq] at h1
    rcases h1 with h1 | h1
    ·omega
    ·obtain ⟨o', ho', e, he, hb, hon⟩ := Region.waitsFor_spec h1
     have : o' = ot := Option.some.inj (ho'.symm.trans hot)
     subst this
     have h2 := hall e he hb
     rw [hon, getD_both (inv.tail n (Nat.le_refl _) hn)] at h2
     cases h2
theorem same_exec {ops : Array Oper} {o : Oper} {a a' : Act} (hs : ∀ cs b, o.op ≠ .select cs b) (hz : a.tmps.size = a'.tmps.size) (h : ∀ t ∈ o.looksAt ops, a.tmps.getD t undef = a'.tmps.getD t undef) :
  execOp a.eval o = execOp a'.eval o ∧ Region.wanted o (yielded ops a.tmps) = Region.wanted o (yielded ops a'.tmps) := by
 constructor
 ·refine execOp_congr o hs fun x hx => ?_
  cases x with
  | tmp t => exact h t (List.mem_append_left _ (List.mem_filterMap.2 ⟨.tmp t, by simpa using hx, rfl⟩))
  | _ => rfl
 ·unfold Region.wanted
  cases hg : o.guard with
  | none => rfl
  | some gw =>
   obtain ⟨g, want⟩ := gw
   have hy : yielded ops a.tmps g = yielded ops a'.tmps g := by
    unfold yielded
    cases ht : (ops[g]?).bind (·.dst) with
    | none => rfl
    | some t =>
     have hm : t ∈ o.looksAt ops := by
      unfold Oper.looksAt
      rw [hg]
      exact List.mem_append_right _ (by simp [ht])
     have e := h t hm
     rcases Nat.lt_or_ge t a.tmps.size with hlt | hge
     ·have e1 : a.tmps[t]? = a'.tmps[t]? := by
       simp only [Array.getD_eq_getD_getElem?] at e
       have hlt' : t < a'.tmps.size := Nat.lt_of_lt_of_le hlt (Nat.le_of_eq hz)
       rw [Array.getElem?_eq_getElem hlt, Array.getElem?_eq_getElem hlt'] at e
       rw [Array.getElem?_eq_getElem hlt, Array.getElem?_eq_getElem hlt']
       simpa using e
      simp only [Option.bind_some, e1]
     ·have e1 : a.tmps[t]? = none := Array.getElem?_eq_none hge
      have e2 : a'.tmps[t]? = none := Array.getElem?_eq_none (Nat.le_trans (Nat.le_of_eq hz.symm) hge)
      simp only [Option.bind_some, e1, e2]
   dsimp only
   rw [hy]
section
variable {ops : Array Oper} {n : Nat} {a0 : Act}
def frame (ops : Array Oper) (a0 : Act) (vals : Nat → Value) (i : Nat) : Act := putAll vals (ops.toList.take i) 0 a0
theorem frame_size (vals : Nat → Value) (i : Nat) : (frame ops a0 vals i).tmps.size = a0.tmps.size := size_putAll _ _ _ _
theorem frame_at (hR : RelOk ops n) (vals : Nat → Value) {i k : Nat} {ok : Oper} {t : Tmp} (hi : i ≤ n) (hk : k < i) (ek : ops[k]? = some ok) (hd : ok.dst = some t) (ht : t < a0.tmps.size) :
  (frame ops a0 vals i).tmps.getD t undef = vals k := by
 have := getD_putAll_at vals t (ops.toList.take i) 0 a0 k ok (by rw [List.getElem?_take, if_pos hk]; simpa using ek) hd (fun k' o' h' hne => by
  rw [List.getElem?_take] at h'
  split at h'
  ·rename_i hlt
   exact hR.dst k' k o' ok t (by omega) (by omega) (by simpa using h') ek hd hne
  ·cases h') ht
 simpa [frame] using this
theorem frame_off (vals : Nat → Value) {i : Nat} {t : Tmp} (h : ∀ k ok, k < i → ops[k]? = some ok → ok.dst ≠ some t) : (frame ops a0 vals i).tmps.getD t undef = a0.tmps.getD t undef :=
 getD_putAll_none vals t _ _ _ fun o ho => by
  obtain ⟨k, hk⟩ := List.mem_iff_getElem?.1 ho
  rw [List.getElem?_take] at hk
  split at hk
  ·rename_i hlt; exact h k o hlt (by simpa using hk)
  ·cases hk
theorem getD_over (a : Act) (t : Tmp) (h : a.tmps.size ≤ t) : a.tmps.getD t undef = undef := by simp [Array.getElem?_eq_none h]
theorem anc_listed (hR : RelOk ops n) {listed : Array Bool} (inv : HeadInv .any ops n listed) : ∀ (j : Nat), j < n → (∀ oj, ops[j]? = some oj → ∀ e ∈ oj.after, Region.binds .any e = true → listed.getD e.on false = true) →
  ∀ k, k < n → (ancOf ops j).testBit k = true → listed.getD k false = true := by
 intro j
 induction j using Nat.strongRecOn with
 | _ j ih =>
  intro hj hall k hk hb
  have hjs : j < ops.size := Nat.lt_of_lt_of_le hj hR.le
  have ej : ops[j]? = some ops[j] := by simp [hjs]
  obtain ⟨_, e, he, hbd, h⟩ := hR.anc j k _ hj hk ej hb
  have hl := hall _ ej e he hbd
  rcases h with rfl | h
  ·exact hl
  ·have hlt := hR.edge j _ hj ej e he hbd
   exact ih e.on hlt (by omega) (fun oj eo e' he' hb' => inv.closed e.on oj eo hl e' he' hb') k hk h
theorem frame_same (hR : RelOk ops n) {vals vals' : Nat → Value} {i : Nat} {oi : Oper} (hi : i < n) (ei : ops[i]? = some oi) (h : ∀ k, k < n → (ancOf ops i).testBit k = true → vals k = vals' k) :
  ∀ t ∈ oi.looksAt ops, (frame ops a0 vals i).tmps.getD t undef = (frame ops a0 vals' i).tmps.getD t undef := by
 intro t ht
 by_cases hex : ∃ k ok, k < i ∧ ops[k]? = some ok ∧ ok.dst = some t
 ·obtain ⟨k, ok, hk, ek, hd⟩ := hex
  rcases Nat.lt_or_ge t a0.tmps.size with hlt | hge
  ·rw [frame_at hR vals (by omega) hk ek hd hlt, frame_at hR vals' (by omega) hk ek hd hlt]
   rcases hR.look i k oi ok t hi (by omega) ei ek hd ht with h1 | h1 | h1
   ·exact h k (by omega) h1
   ·omega
   ·omega
  ·rw [getD_over _ _ (by rw [frame_size]; exact hge), getD_over _ _ (by rw [frame_size]; exact hge)]
 ·have h0 : ∀ k ok, k < i → ops[k]? = some ok → ok.dst ≠ some t := fun k ok hk ek hd => hex ⟨k, ok, hk, ek, hd⟩
  rw [frame_off vals h0, frame_off vals' h0]
end
abbrev Fct := Value → World → Prop
abbrev Ps := List (Nat × (List Value → Fct))
def lookP (Ψ : Ps) (i : Nat) : Option (List Value → Fct) :=
 match Ψ with
 | [] => none
 | x :: r => if x.1 = i then some x.2 else lookP r i
def lk (ops : Array Oper) (o : Oper) (a : Act) : List Value := (o.looksAt ops).map fun t => a.tmps.getD t undef
theorem lk_same {ops : Array Oper} {o : Oper} {a b : Act} (h : ∀ t ∈ o.looksAt ops, a.tmps.getD t undef = b.tmps.getD t undef) : lk ops o a = lk ops o b := List.map_congr_left h
def blockOk (w w' : World) (old : Option Nat) (u : Value) : Prop := ∀ b, u.ownBlock = some b → (old = some b ∨ w.heap.size ≤ b) ∧ b < w'.heap.size
abbrev Made := List (Nat × Value)
def apart (G : Made) : Prop := ∀ x ∈ G, ∀ y ∈ G, x.1 ≠ y.1 → ∀ b, x.2.ownBlock = some b → y.2.ownBlock ≠ some b
structure Law where
 B : Prop
 P : Program
 ops : Array Oper
 w0 : World
 O : Nat → Option Nat
 Ψ : Ps
 D : World → Prop
 H : Nat → World → Prop
 Z : World → Prop
 J : Nat → World → World → Prop
 X : Nat → List PanicEntry → World → Prop
 Q : Act → World → Prop
def detUpon (J : World → World → Prop) (P : Program) (w : World) (v : Value) : Result Next → Prop
 | .ok (.value u) w' => w' = w ∧ u = v
 | .ok .skip w' => w' = w ∧ undef = v
 | .ok (.enter f args) w' => w' = w ∧ P.inits.idxOf? f = none ∧ Calls P f args w fun e w2 => e = .returned v ∧ J w w2
 | _ => False
def makeUpon (B : Prop) (J : World → World → Prop) (X : List PanicEntry → World → Prop) (P : Program) (w : World) (old : Option Nat) (φ : Fct) : Result Next → Prop
 | .ok (.value u) w' => J w w' ∧ φ u w' ∧ (B → blockOk w w' old u)
 | .ok .skip w' => J w w' ∧ φ undef w' ∧ (B → blockOk w w' old undef)
 | .ok (.enter f args) w' => w' = w ∧ Calls P f args w fun e w2 => (∃ v, e = .returned v ∧ J w w2 ∧ φ v w2 ∧ (B → blockOk w w2 old v)) ∨ ∃ ch, e = .panicked ch ∧ X ch w2
 | _ => False
def Law.detAt (Y : Law) (i : Nat) (o : Oper) (a : Act) (w : World) (v : Value) : Prop := detUpon (Y.J i) Y.P w v ((execOp a.eval o).run Y.P w)
def Law.makeAt (Y : Law) (i : Nat) (o : Oper) (a : Act) (w : World) (φ : Fct) : Prop := makeUpon Y.B (Y.J i) (Y.X i) Y.P w (Y.O i) φ ((execOp a.eval o).run Y.P w)
def Law.want (Y : Law) (o : Oper) (a : Act) : Bool := Region.wanted o (yielded Y.ops a.tmps)
def Law.rel (Y : Law) : List Oper → Nat → Act → Facts → Made → Prop
 | [], _, a, F, G => ∀ w, Y.Z w → factsAll F w → (Y.B → apart G) → Y.Q a w
 | o :: r, i, a, F, G =>
  if Y.want o a = true then
   match lookP Y.Ψ i with
   | none => ∃ v, (∀ w, Y.D w → factsAnc (ancOf Y.ops i) F w → Y.detAt i o a w v) ∧ Y.rel r (i + 1) (a.put o.dst v) F G
   | some φ => (∀ w, Y.H i w → factsAnc (ancOf Y.ops i) F w → Y.makeAt i o a w (φ (lk Y.ops o a))) ∧ ∀ v, Y.rel r (i + 1) (a.put o.dst v) ((i, φ (lk Y.ops o a) v) :: F) ((i, v) :: G)
  else Y.rel r (i + 1) (a.put o.dst undef) F G
def Law.oblig (Y : Law) (m vals : Nat → Value) (o : Oper) (i : Nat) (a : Act) (F : Facts) : Prop :=
  (Y.want o a = false ∧ vals i = undef) ∨ (Y.want o a = true ∧ lookP Y.Ψ i = none ∧ ∀ w, Y.D w → factsAnc (ancOf Y.ops i) F w → Y.detAt i o a w (vals i)) ∨
  (Y.want o a = true ∧ vals i = m i ∧ ∃ φ, lookP Y.Ψ i = some φ ∧ ∀ w, Y.H i w → factsAnc (ancOf Y.ops i) F w → Y.makeAt i o a w (φ (lk Y.ops o a)))
def Law.nextF (Y : Law) (o : Oper) (i : Nat) (a : Act) (v : Value) (F : Facts) : Facts :=
 if Y.want o a = true then (match lookP Y.Ψ i with | none => F | some φ => (i, φ (lk Y.ops o a) v) :: F) else F
def Law.nextG (Y : Law) (o : Oper) (i : Nat) (a : Act) (v : Value) (G : Made) : Made :=
 if Y.want o a = true then (match lookP Y.Ψ i with | none => G | some _ => (i, v) :: G) else G
def Law.good (Y : Law) (m vals : Nat → Value) : List Oper → Nat → Act → Facts → Made → Prop
 | [], _, a, F, G => ∀ w, Y.Z w → factsAll F w → (Y.B → apart G) → Y.Q a w
 | o :: r, i, a, F, G => Y.oblig m vals o i a F ∧ Y.good m vals r (i + 1) (a.put o.dst (vals i)) (Y.nextF o i a (vals i) F) (Y.nextG o i a (vals i) G)
def Law.facts (Y : Law) (vals : Nat → Value) : List Oper → Nat → Act → Facts → Facts
 | [], _, _, F => F
 | o :: r, i, a, F => Y.facts vals r (i + 1) (a.put o.dst (vals i)) (Y.nextF o i a (vals i) F)
def Law.made (Y : Law) (vals : Nat → Value) : List Oper → Nat → Act → Made → Made
 | [], _, _, G => G
 | o :: r, i, a, G => Y.made vals r (i + 1) (a.put o.dst (vals i)) (Y.nextG o i a (vals i) G)
section
variable {Y : Law} {m vals : Nat → Value}
theorem good_congr {vals' : Nat → Value} : ∀ (l : List Oper) (i : Nat) (a : Act) (F : Facts) (G : Made), (∀ j, i ≤ j → vals j = vals' j) → Y.good m vals l i a F G → Y.good m vals' l i a F G
 | [], _, _, _, _, _, h => h
 | o :: r, i, a, F, G, he, h => by
  obtain ⟨h1, h2⟩ := h
  refine ⟨?_, ?_⟩
  ·unfold Law.oblig at *
   rw [← he i (Nat.le_refl _)]
   exact h1
  ·rw [← he i (Nat.le_refl _)]
   exact good_congr r _ _ _ _ (fun j hj => he j (by omega)) h2
theorem good_of_rel (m : Nat → Value) : ∀ (l : List Oper) (i : Nat) (a : Act) (F : Facts) (G : Made), Y.rel l i a F G → ∃ vals, Y.good m vals l i a F G
 | [], _, _, _, _, h => ⟨fun _ => undef, h⟩
 | o :: r, i, a, F, G, h => by
  have put : ∀ (u : Value), (∃ vals, Y.good m vals r (i + 1) (a.put o.dst u) (Y.nextF o i a u F) (Y.nextG o i a u G)) → (∀ vals, vals i = u → Y.oblig m vals o i a F) → ∃ vals, Y.good m vals (o :: r) i a F G := by
   rintro u ⟨vals, hv⟩ ho
   have e : (fun j => if j = i then u else vals j) i = u := by simp
   refine ⟨fun j => if j = i then u else vals j, ho _ e, ?_⟩
   rw [e]
   exact good_congr r _ _ _ _ (fun j hj => by simp [show j ≠ i by omega]) hv
  unfold Law.rel at h
  cases hw : Y.want o a with
  | false =>
   rw [if_neg (by simp [hw])] at h
   exact put undef (by simpa [Law.nextF, Law.nextG, hw] using good_of_rel m r _ _ _ _ h) fun _ hv => .inl ⟨hw, hv⟩
  | true =>
   rw [if_pos hw] at h
   cases ht : lookP Y.Ψ i with
   | none =>
    simp only [ht] at h
    obtain ⟨v, h1, h2⟩ := h
    exact put v (by simpa [Law.nextF, Law.nextG, hw, ht] using good_of_rel m r _ _ _ _ h2) fun _ hv => .inr (.inl ⟨hw, ht, by rw [hv]; exact h1⟩)
   | some φ =>
    simp only [ht] at h
    exact put (m i) (by simpa [Law.nextF, Law.nextG, hw, ht] using good_of_rel m r _ _ _ _ (h.2 (m i))) fun _ hv => .inr (.inr ⟨hw, hv, φ, ht, h.1⟩)
theorem good_at : ∀ (l : List Oper) (i : Nat) (a : Act) (F : Facts) (G : Made), Y.good m vals l i a F G → ∀ k o, l[k]? = some o →
  Y.oblig m vals o (i + k) (putAll vals (l.take k) i a) (Y.facts vals (l.take k) i a F)
 | [], _, _, _, _, _, k, o, h => by simp at h
 | o :: r, i, a, F, G, hg, 0, o', h => by
  simp only [List.getElem?_cons_zero, Option.some.injEq] at h
  subst h
  exact hg.1
 | o :: r, i, a, F, G, hg, k + 1, o', h => by
  have := good_at r (i + 1) _ _ _ hg.2 k o' (by simpa using h)
  rw [show i + 1 + k = i + (k + 1) by omega] at this
  exact this
theorem good_end : ∀ (l : List Oper) (i : Nat) (a : Act) (F : Facts) (G : Made), Y.good m vals l i a F G → ∀ w, Y.Z w → factsAll (Y.facts vals l i a F) w → (Y.B → apart (Y.made vals l i a G)) → Y.Q (putAll vals l i a) w
 | [], _, _, _, _, hg => hg
 | o :: r, i, a, F, G, hg => good_end r (i + 1) _ _ _ hg.2
theorem mem_facts : ∀ (l : List Oper) (i : Nat) (a : Act) (F : Facts) (x : Nat × (World → Prop)), x ∈ Y.facts vals l i a F →
  x ∈ F ∨ ∃ k o φ, l[k]? = some o ∧ lookP Y.Ψ (i + k) = some φ ∧ Y.want o (putAll vals (l.take k) i a) = true ∧ x = (i + k, φ (lk Y.ops o (putAll vals (l.take k) i a)) (vals (i + k)))
 | [], _, _, _, x, h => .inl h
 | o :: r, i, a, F, x, h => by
  rcases mem_facts r (i + 1) _ _ x h with h | ⟨k, o', φ, h1, h2, h3, h4⟩
  ·unfold Law.nextF at h
   split at h
   ·rename_i hw
    cases ht : lookP Y.Ψ i with
    | none => simp only [ht] at h; exact .inl h
    | some φ =>
     simp only [ht, List.mem_cons] at h
     rcases h with rfl | h
     ·exact .inr ⟨0, o, φ, rfl, ht, hw, rfl⟩
     ·exact .inl h
   ·exact .inl h
  ·rw [show i + 1 + k = i + (k + 1) by omega] at h2 h4
   exact .inr ⟨k + 1, o', φ, by simpa using h1, h2, h3, h4⟩
theorem mem_made : ∀ (l : List Oper) (i : Nat) (a : Act) (G : Made) (x : Nat × Value), x ∈ Y.made vals l i a G →
  x ∈ G ∨ ∃ k o φ, l[k]? = some o ∧ lookP Y.Ψ (i + k) = some φ ∧ Y.want o (putAll vals (l.take k) i a) = true ∧ x = (i + k, vals (i + k))
 | [], _, _, _, x, h => .inl h
 | o :: r, i, a, G, x, h => by
  rcases mem_made r (i + 1) _ _ x h with h | ⟨k, o', φ, h1, h2, h3, h4⟩
  ·unfold Law.nextG at h
   split at h
   ·rename_i hw
    cases ht : lookP Y.Ψ i with
    | none => simp only [ht] at h; exact .inl h
    | some φ =>
     simp only [ht, List.mem_cons] at h
     rcases h with rfl | h
     ·exact .inr ⟨0, o, φ, rfl, ht, hw, rfl⟩
     ·exact .inl h
   ·exact .inl h
  ·rw [show i + 1 + k = i + (k + 1) by omega] at h2 h4
   exact .inr ⟨k + 1, o', φ, by simpa using h1, h2, h3, h4⟩
end
structure Law.On (Y : Law) (n : Nat) (a0 : Act) (listed : Array Bool) (vals : Nat → Value) (j : Nat) (oj : Oper) (φ : List Value → Fct) : Prop where
 lt : j < n
 on : listed.getD j false = true
 op : Y.ops[j]? = some oj
 psi : lookP Y.Ψ j = some φ
 want : Y.want oj (frame Y.ops a0 vals j) = true
structure Law.Ok (Y : Law) (n : Nat) (I : (Nat → Bool) → World → Prop) : Prop where
 zero : I (fun _ => false) Y.w0
 step : ∀ L i w w', i < n → I L w → L i = false → (∀ k, k < n → (ancOf Y.ops i).testBit k = true → L k = true) → Y.J i w w' → I (fun k => if k = i then true else L k) w'
 det : ∀ L w, I L w → Y.D w
 ahead : ∀ L i w, i < n → I L w → L i = false → (∀ k, k < n → (ancOf Y.ops i).testBit k = true → L k = true) → Y.H i w
 fin : ∀ L w, I L w → (∀ k, k < n → L k = true) → Y.Z w
 idle : ∀ i, i < n → (∀ w, Y.J i w w) ∨ (lookP Y.Ψ i ≠ none ∧ ∀ o, Y.ops[i]? = some o → o.guard = none)
 size : ∀ i w w', Y.J i w w' → w.heap.size ≤ w'.heap.size
 base : ∀ L w, I L w → Y.w0.heap.size ≤ w.heap.size
 fact : ∀ i j φ, i ≠ j → lookP Y.Ψ j = some φ → ∀ ls v w w', Y.J i w w' → φ ls v w → φ ls v w'
 old : ∀ i b, Y.O i = some b → b < Y.w0.heap.size
 one : ∀ i j b, i ≠ j → Y.O i = some b → Y.O j ≠ some b
structure Law.St (Y : Law) (n : Nat) (I : (Nat → Bool) → World → Prop) (a0 : Act) (listed : Array Bool) (a : Act) (w : World) (m vals : Nat → Value) : Prop where
 inv : HeadInv .any Y.ops n listed
 good : Y.good m vals (Y.ops.toList.take n) 0 a0 [] []
 wld : I (fun k => listed.getD k false) w
 size : a.tmps.size = a0.tmps.size
 defers : a.defers = a0.defers
 lies : ∀ j oj t, j < n → listed.getD j false = true → Y.ops[j]? = some oj → oj.dst = some t → t < a0.tmps.size → a.tmps.getD t undef = vals j
 off : ∀ t, (∀ j oj, j < n → listed.getD j false = true → Y.ops[j]? = some oj → oj.dst ≠ some t) → a.tmps.getD t undef = a0.tmps.getD t undef
 fact : ∀ j oj φ, Y.On n a0 listed vals j oj φ → φ (lk Y.ops oj (frame Y.ops a0 vals j)) (vals j) w
 blk : Y.B → ∀ j oj φ, Y.On n a0 listed vals j oj φ → ∀ b, (vals j).ownBlock = some b → (Y.O j = some b ∨ Y.w0.heap.size ≤ b) ∧ b < w.heap.size
 pair : Y.B → ∀ j oj φ k ok φ', Y.On n a0 listed vals j oj φ → Y.On n a0 listed vals k ok φ' → j ≠ k → ∀ b, (vals j).ownBlock = some b → (vals k).ownBlock ≠ some b
section
variable {Y : Law} {n : Nat} {I : (Nat → Bool) → World → Prop} {a0 : Act} {listed : Array Bool} {a : Act} {w : World} {m vals : Nat → Value}
theorem oblig_at (hR : RelOk Y.ops n) (hg : Y.good m vals (Y.ops.toList.take n) 0 a0 [] []) {j : Nat} {oj : Oper} (hj : j < n) (ej : Y.ops[j]? = some oj) :
  Y.oblig m vals oj j (frame Y.ops a0 vals j) (Y.facts vals (Y.ops.toList.take j) 0 a0 []) := by
 have := good_at _ _ _ _ _ hg j oj (by rw [List.getElem?_take, if_pos hj]; simpa using ej)
 rw [List.take_take, Nat.min_eq_left (by omega)] at this
 simpa [frame] using this
theorem fact_mem {j : Nat} {x : Nat × (World → Prop)} (hx : x ∈ Y.facts vals (Y.ops.toList.take j) 0 a0 []) :
  ∃ k o φ, k < j ∧ Y.ops[k]? = some o ∧ lookP Y.Ψ k = some φ ∧ Y.want o (frame Y.ops a0 vals k) = true ∧ x = (k, φ (lk Y.ops o (frame Y.ops a0 vals k)) (vals k)) := by
 rcases mem_facts _ _ _ _ x hx with h | ⟨k, o, φ, h1, h2, h3, h4⟩
 ·cases h
 ·rw [List.getElem?_take] at h1
  split at h1
  ·rename_i hlt
   rw [List.take_take, Nat.min_eq_left (by omega)] at h3 h4
   rw [Nat.zero_add] at h2 h4
   exact ⟨k, o, φ, hlt, by simpa using h1, h2, h3, h4⟩
  ·cases h1
theorem real_same (hR : RelOk Y.ops n) (st : Y.St n I a0 listed a w m vals) {i : Nat} {oi : Oper} (hi : i < n) (ei : Y.ops[i]? = some oi)
  (hun : listed.getD i false = false) (hanc : ∀ k, k < n → (ancOf Y.ops i).testBit k = true → listed.getD k false = true) :
  ∀ t ∈ oi.looksAt Y.ops, a.tmps.getD t undef = (frame Y.ops a0 vals i).tmps.getD t undef := by
 intro t ht
 by_cases hex : ∃ k ok, k < n ∧ Y.ops[k]? = some ok ∧ ok.dst = some t
 ·obtain ⟨k, ok, hk, ek, hd⟩ := hex
  have hot : ∀ j oj, j < n → Y.ops[j]? = some oj → j ≠ k → oj.dst ≠ some t := fun j oj hj ej hne => hR.dst j k oj ok t hj hk ej ek hd hne
  have none : k = i ∨ listed.getD k false = false → i ≤ k → a.tmps.getD t undef = (frame Y.ops a0 vals i).tmps.getD t undef := fun hz hik => by
   rw [st.off t (fun j oj hj hl ej => by
    by_cases hjk : j = k
    ·subst hjk
     have : listed.getD j false = false := by rcases hz with h | h; rw [h, hun]; exact h
     rw [this] at hl; cases hl
    ·exact hot j oj hj ej hjk), frame_off vals (fun j oj hj ej => hot j oj (by omega) ej (by omega))]
  rcases Nat.lt_or_ge t a0.tmps.size with hlt | hge
  ·rcases hR.look i k oi ok t hi hk ei ek hd ht with h1 | h1 | ⟨h1, h2⟩
   ·rw [st.lies k ok t hk (hanc k hk h1) ek hd hlt, frame_at hR vals (by omega) (hR.anc i k oi hi hk ei h1).1 ek hd hlt]
   ·exact none (.inl h1.symm) (by omega)
   ·refine none (.inr ?_) (by omega)
    cases hl : listed.getD k false with
    | false => rfl
    | true =>
     have := anc_listed hR st.inv k hk (fun oj ej e he hb => st.inv.closed k oj ej hl e he hb) i hi h2
     rw [hun] at this; cases this
  ·rw [getD_over _ _ (by rw [st.size]; exact hge), getD_over _ _ (by rw [frame_size]; exact hge)]
 ·rw [st.off t (fun j oj hj _ ej hd => hex ⟨j, oj, hj, ej, hd⟩), frame_off vals (fun j oj hj ej hd => hex ⟨j, oj, by omega, ej, hd⟩)]
theorem calls_agree {P : Program} {f : FuncId} {args : Array Value} {w : World} {v v' : Value} {R R' : World → Prop} (h : Calls P f args w fun e w2 => e = .returned v ∧ R w2)
  (h' : Calls P f args w fun e w2 => e = .returned v' ∧ R' w2) (hi : P.inits.idxOf? f = none) : v = v' := by
 have g : Calls P f args w fun | .returned u, _ => u = v | _, _ => False := h.mono fun e _ ⟨he, _⟩ => by subst he; rfl
 have g' : Calls P f args w fun | .returned u, _ => u = v' | _, _ => False := h'.mono fun e _ ⟨he, _⟩ => by subst he; rfl
 obtain ⟨n, u, w1, e1, r1⟩ := g.done (R := fun u _ => u = v) hi
 obtain ⟨m, u', w2, e2, r2⟩ := g'.done (R := fun u _ => u = v') hi
 have a := runN_ended e1 m
 have b := runN_ended e2 n
 rw [Nat.add_comm, a] at b
 injection b with ho hw
 injection ho with hv
 rw [← r1, ← r2, hv]
theorem detUpon_inj {J : World → World → Prop} {P : Program} {w : World} {v v' : Value} {r : Result Next} (h : detUpon J P w v r) (h' : detUpon J P w v' r) : v = v' := by
 cases r with
 | ok x w' =>
  cases x <;> simp only [detUpon] at h h'
  case value u => rw [← h.2, ← h'.2]
  case skip => rw [← h.2, ← h'.2]
  case enter f args => exact calls_agree h.2.2 h'.2.2 h.2.1
 | halt x w' => simp only [detUpon] at h
theorem Law.St.anc (hR : RelOk Y.ops n) (st : Y.St n I a0 listed a w m vals) {j : Nat} (hj : j < n) (hl : listed.getD j false = true) : ∀ k, k < n → (ancOf Y.ops j).testBit k = true → listed.getD k false = true :=
 anc_listed hR st.inv j hj (fun oj ej e he hb => st.inv.closed j oj ej hl e he hb)
theorem want_same (hR : RelOk Y.ops n) {vals' : Nat → Value} {j : Nat} {oj : Oper} (hj : j < n) (ej : Y.ops[j]? = some oj) (hv : ∀ k, k < n → (ancOf Y.ops j).testBit k = true → vals k = vals' k) :
  ((execOp (frame Y.ops a0 vals j).eval oj) = (execOp (frame Y.ops a0 vals' j).eval oj)) ∧ Y.want oj (frame Y.ops a0 vals j) = Y.want oj (frame Y.ops a0 vals' j) ∧ lk Y.ops oj (frame Y.ops a0 vals j) = lk Y.ops oj (frame Y.ops a0 vals' j) :=
 have h := frame_same (a0 := a0) hR hj ej hv
 have g := same_exec (Region.noSelect_spec hR.sel j _ · · ej) (by rw [frame_size, frame_size]) h
 ⟨g.1, g.2, lk_same h⟩
theorem facts_on (st : Y.St n I a0 listed a w m vals) {j : Nat} (hj : j ≤ n) (hanc : ∀ k, k < n → (ancOf Y.ops j).testBit k = true → listed.getD k false = true) : factsAnc (ancOf Y.ops j) (Y.facts vals (Y.ops.toList.take j) 0 a0 []) w := factsAnc_of fun x hx hb => by
 obtain ⟨k, o, φ, hk, ek, ht, hwk, rfl⟩ := fact_mem hx
 exact st.fact k o φ ⟨by omega, hanc k (by omega) hb, ek, ht, hwk⟩
theorem agree (hI : Y.Ok n I) (hR : RelOk Y.ops n) {m' vals' : Nat → Value} (st : Y.St n I a0 listed a w m vals)
  (hg' : Y.good m' vals' (Y.ops.toList.take n) 0 a0 [] []) (hm : ∀ j, listed.getD j false = true → m j = m' j) : ∀ (j : Nat), j < n → listed.getD j false = true → vals j = vals' j := by
 intro j
 induction j using Nat.strongRecOn with
 | _ j ih =>
  intro hj hl
  have ej : Y.ops[j]? = some (Y.ops[j]'(Nat.lt_of_lt_of_le hj hR.le)) := Array.getElem?_eq_getElem _
  have hanc := st.anc hR hj hl
  have hv : ∀ k, k < n → (ancOf Y.ops j).testBit k = true → vals k = vals' k := fun k hk hb => ih k (hR.anc j k _ hj hk ej hb).1 hk (hanc k hk hb)
  obtain ⟨he, hw, -⟩ := want_same (a0 := a0) hR hj ej hv
  have o1 := oblig_at hR st.good hj ej
  have o2 := oblig_at hR hg' hj ej
  have f2 : factsAnc (ancOf Y.ops j) (Y.facts vals' (Y.ops.toList.take j) 0 a0 []) w := factsAnc_of fun x hx hb => by
   obtain ⟨k, o, φ, hk, ek, ht, hwk, rfl⟩ := fact_mem hx
   have hkn : k < n := by omega
   have hlk := hanc k hkn hb
   obtain ⟨-, g2, g3⟩ := want_same (a0 := a0) (vals := vals) (vals' := vals') hR hkn ek fun q hq hbq => by
    have hqk := (hR.anc k q o hkn hq ek hbq).1
    exact ih q (by omega) hq (st.anc hR hkn hlk q hq hbq)
   have := st.fact k o φ ⟨hkn, hlk, ek, ht, by rw [g2]; exact hwk⟩
   rwa [g3, ih k hk hkn hlk] at this
  rcases o1 with ⟨h1, h2⟩ | ⟨h1, h2, h3⟩ | ⟨h1, h2, φ, h3, h4⟩ <;> rcases o2 with ⟨g1, g2⟩ | ⟨g1, g2, g3⟩ | ⟨g1, g2, φ', g3, g4⟩ <;> try (rw [hw, g1] at h1; cases h1)
  ·rw [h2, g2]
  ·have d1 := h3 w (hI.det _ _ st.wld) (facts_on st (by omega) hanc)
   have d2 := g3 w (hI.det _ _ st.wld) f2
   unfold Law.detAt at d1 d2
   rw [he] at d1
   exact detUpon_inj d1 d2
  ·rw [h2] at g3; cases g3
  ·rw [g2] at h3; cases h3
  ·rw [h2, g2]; exact hm j hl
theorem st_step (hI : Y.Ok n I) (hR : RelOk Y.ops n) {w' : World} {m' vals' : Nat → Value} (st : Y.St n I a0 listed a w m vals)
  (hg' : Y.good m' vals' (Y.ops.toList.take n) 0 a0 [] []) (hm : ∀ j, listed.getD j false = true → m j = m' j) {i : Nat} {oi : Oper} (hx : Y.J i w w') (hi : i < n) (ei : Y.ops[i]? = some oi) (hr : i ∈ Region.ready .any Y.ops listed)
  (hun : listed.getD i false = false) (hanc : ∀ k, k < n → (ancOf Y.ops i).testBit k = true → listed.getD k false = true)
  (hf : ∀ φ, lookP Y.Ψ i = some φ → Y.want oi (frame Y.ops a0 vals' i) = true → φ (lk Y.ops oi (frame Y.ops a0 vals' i)) (vals' i) w' ∧ (Y.B → blockOk w w' (Y.O i) (vals' i))) :
  Y.St n I a0 (listed.setIfInBounds i true) (a.put oi.dst (vals' i)) w' m' vals' := by
 have hag := agree hI hR st hg' hm
 have hz : i < listed.size := by rw [st.inv.size]; exact (Array.getElem?_eq_some_iff.1 ei).1
 have old : ∀ j, j ≠ i → (listed.setIfInBounds i true).getD j false = true → listed.getD j false = true := fun j hne h => by
  rwa [getD_set_ne false (Ne.symm hne)] at h
 have elder : ∀ j oj φ, Y.On n a0 (listed.setIfInBounds i true) vals' j oj φ → j ≠ i → Y.On n a0 listed vals j oj φ ∧ vals j = vals' j ∧ lk Y.ops oj (frame Y.ops a0 vals j) = lk Y.ops oj (frame Y.ops a0 vals' j) := fun j oj φ h hji => by
  have hlj := old j hji h.on
  obtain ⟨-, g2, g3⟩ := want_same (a0 := a0) (vals := vals) (vals' := vals') hR h.lt h.op fun k hk hb => hag k hk (st.anc hR h.lt hlj k hk hb)
  exact ⟨⟨h.lt, hlj, h.op, h.psi, by rw [g2]; exact h.want⟩, hag j h.lt hlj, g3⟩
 have own : ∀ oj φ, Y.On n a0 (listed.setIfInBounds i true) vals' i oj φ → φ (lk Y.ops oj (frame Y.ops a0 vals' i)) (vals' i) w' ∧ (Y.B → blockOk w w' (Y.O i) (vals' i)) := fun oj φ h => by
  have e := h.op
  rw [ei] at e; cases e
  exact hf φ h.psi h.want
 have clash : Y.B → ∀ oi' φ' k ok φ, Y.On n a0 (listed.setIfInBounds i true) vals' i oi' φ' → Y.On n a0 (listed.setIfInBounds i true) vals' k ok φ → k ≠ i → ∀ b, (vals' i).ownBlock = some b → (vals' k).ownBlock ≠ some b := fun hB oi' φ' k ok φ hi' hk' hki b hb hb' => by
  obtain ⟨ho, hvk, -⟩ := elder k ok φ hk' hki
  obtain ⟨h1, h2⟩ := st.blk hB k ok φ ho b (by rw [hvk]; exact hb')
  rcases (((own _ _ hi').2 hB) b hb).1 with h3 | h3
  ·rcases h1 with h1 | h1
   ·exact hI.one i k b (Ne.symm hki) h3 h1
   ·have := hI.old i b h3; omega
  ·omega
 refine ⟨st.inv.set hr hi, hg', ?_, by rw [size_put, st.size], by rw [defers_put, st.defers], ?_, ?_, ?_, ?_, ?_⟩
 ·have e : (fun k => (listed.setIfInBounds i true).getD k false) = fun k => if k = i then true else listed.getD k false := funext fun k => by
   by_cases hk : k = i
   ·subst hk; simp [hz]
   ·rw [getD_set_ne false (Ne.symm hk), if_neg hk]
  rw [e]
  exact hI.step _ _ _ _ hi st.wld hun hanc hx
 ·intro j oj t hj hl ej hd ht
  by_cases hji : j = i
  ·subst hji
   rw [ei] at ej; cases ej
   rw [hd, getD_put_eq _ _ _ (by rw [st.size]; exact ht)]
  ·rw [getD_put_ne _ _ _ _ (fun h => hR.dst j i oj oi t hj hi ej ei h hji hd), st.lies j oj t hj (old j hji hl) ej hd ht, hag j hj (old j hji hl)]
 ·intro t h
  rw [getD_put_ne _ _ _ _ (h i oi hi (by simp [hz]) ei)]
  exact st.off t fun j oj hj hl ej => h j oj hj (getD_set_true hl) ej
 ·intro j oj φ h
  by_cases hji : j = i
  ·subst hji; exact (own _ _ h).1
  ·obtain ⟨ho, e1, e2⟩ := elder j oj φ h hji
   rw [← e1, ← e2]
   exact hI.fact i j φ (Ne.symm hji) h.psi _ _ _ _ hx (st.fact j oj φ ho)
 ·intro hB j oj φ h b hb
  by_cases hji : j = i
  ·subst hji
   obtain ⟨h1, h2⟩ := (own _ _ h).2 hB b hb
   exact ⟨h1.imp id (Nat.le_trans (hI.base _ _ st.wld)), h2⟩
  ·obtain ⟨ho, e1, -⟩ := elder j oj φ h hji
   obtain ⟨h1, h2⟩ := st.blk hB j oj φ ho b (by rw [e1]; exact hb)
   exact ⟨h1, Nat.lt_of_lt_of_le h2 (hI.size _ _ _ hx)⟩
 ·intro hB j oj φ k ok φ' h h' hjk b hb
  by_cases hji : j = i
  ·subst hji; exact clash hB oj φ k ok φ' h h' (Ne.symm hjk) b hb
  ·by_cases hki : k = i
   ·subst hki; exact fun e => clash hB ok φ' j oj φ h' h hjk b e hb
   ·obtain ⟨ho, e1, -⟩ := elder j oj φ h hji
    obtain ⟨ho', e2, -⟩ := elder k ok φ' h' hki
    have := st.pair hB j oj φ k ok φ' ho ho' hjk b (by rw [e1]; exact hb)
    rwa [e2] at this
end
def left (listed : Array Bool) : Nat → Nat
 | 0 => 0
 | k + 1 => left listed k + (if listed.getD k true = true then 0 else 1)
theorem left_past (listed : Array Bool) (i : Nat) : ∀ k, k ≤ i → left (listed.setIfInBounds i true) k = left listed k
 | 0, _ => rfl
 | k + 1, h => by rw [left, left, left_past listed i k (by omega), getD_set_ne true (by omega)]
theorem left_set (listed : Array Bool) (i : Nat) (hz : i < listed.size) (hu : listed.getD i true = false) : ∀ k, i < k → left (listed.setIfInBounds i true) k + 1 = left listed k
 | 0, h => by omega
 | k + 1, h => by
  rw [left, left]
  by_cases hk : i = k
  ·subst hk
   rw [left_past listed i i (Nat.le_refl _), hu, show (listed.setIfInBounds i true).getD i true = true by simp]
   simp
  ·rw [← left_set listed i hz hu k (by omega), getD_set_ne true hk]; omega
theorem left_zero (listed : Array Bool) : ∀ k, left listed k = 0 → ∀ i, i < k → listed.getD i true = true
 | 0, _, i, h => by omega
 | k + 1, h, i, hi => by
  rw [left] at h
  have h2 : listed.getD k true = true := by
   by_cases hk : listed.getD k true = true
   ·exact hk
   ·rw [if_neg hk] at h; omega
  rw [if_pos h2] at h
  by_cases hik : i = k
  ·subst hik; exact h2
  ·exact left_zero listed k (by omega) i (by omega)
theorem left_pos (listed : Array Bool) : ∀ k, left listed k ≠ 0 → ∃ i, i < k ∧ listed.getD i true = false ∧ ∀ j, j < i → listed.getD j true = true
 | 0, h => absurd rfl h
 | k + 1, h => by
  by_cases h0 : left listed k = 0
  ·refine ⟨k, by omega, ?_, left_zero listed k h0⟩
   rw [left, h0] at h
   by_cases hk : listed.getD k true = true
   ·rw [if_pos hk] at h; omega
   ·simpa using hk
  ·obtain ⟨i, hi, h1, h2⟩ := left_pos listed k h0
   exact ⟨i, by omega, h1, h2⟩
section
variable {Y : Law} {n : Nat} {I : (Nat → Bool) → World → Prop} {a0 : Act}
theorem any_of_st (hI : Y.Ok n I) (hR : RelOk Y.ops n) (hrel : Y.rel (Y.ops.toList.take n) 0 a0 [] []) {Q' : Exit → Act → World → Prop} {g : Nat} (hX : ∀ i ch a w, a.defers = a0.defers → Y.X i ch w → Q' (.panic ch) a w)
  (hQ : ∀ a w, Y.Q a w → wpAny Y.P .any Y.ops Q' g (Array.replicate n true ++ Array.replicate (Y.ops.size - n) false) a w) :
  ∀ (f : Nat) (listed : Array Bool) (a : Act) (w : World) (m vals : Nat → Value), Y.St n I a0 listed a w m vals → left listed n = f → wpAny Y.P .any Y.ops Q' (f + g) listed a w := by
 intro f
 induction f with
 | zero =>
  intro listed a w m vals st hl
  have hall := left_zero listed n hl
  have hallF : ∀ j, j < n → listed.getD j false = true := fun j hj => by
   have hjz : j < listed.size := by rw [st.inv.size]; exact Nat.lt_of_lt_of_le hj hR.le
   have := hall j hj
   simp [hjz] at this ⊢
   exact this
  have e : listed = Array.replicate n true ++ Array.replicate (Y.ops.size - n) false := by
   apply Array.ext_getElem?
   intro k
   have hz := st.inv.size
   have hle := hR.le
   by_cases hk : k < Y.ops.size
   ·have hkz : k < listed.size := by omega
    rw [Array.getElem?_eq_getElem hkz]
    by_cases hkn : k < n
    ·rw [Array.getElem?_append_left (by simpa using hkn)]
     have := hall k hkn
     simp [hkz] at this
     simp [this, hkn]
    ·rw [Array.getElem?_append_right (by simp; omega)]
     have := st.inv.tail k (by omega) hk
     simp [hkz] at this
     rw [this, Array.getElem?_replicate, Array.size_replicate, if_pos (by omega)]
   ·rw [Array.getElem?_eq_none (by omega), Array.getElem?_eq_none (by simp; omega)]
  have ea : a = frame Y.ops a0 vals n := by
   have e2 : a.tmps = (frame Y.ops a0 vals n).tmps := by
    apply Array.ext_getElem?
    intro t
    rcases Nat.lt_or_ge t a0.tmps.size with hlt | hge
    ·have e3 : a.tmps.getD t undef = (frame Y.ops a0 vals n).tmps.getD t undef := by
      by_cases hex : ∃ k ok, k < n ∧ Y.ops[k]? = some ok ∧ ok.dst = some t
      ·obtain ⟨k, ok, hk, ek, hd⟩ := hex
       rw [st.lies k ok t hk (hallF k hk) ek hd hlt, frame_at hR vals (Nat.le_refl _) hk ek hd hlt]
      ·rw [st.off t (fun j oj hj _ ej hd => hex ⟨j, oj, hj, ej, hd⟩), frame_off vals (fun j oj hj ej hd => hex ⟨j, oj, hj, ej, hd⟩)]
     have h1 : t < a.tmps.size := by rw [st.size]; exact hlt
     have h2 : t < (frame Y.ops a0 vals n).tmps.size := by rw [frame_size]; exact hlt
     rw [Array.getElem?_eq_getElem h1, Array.getElem?_eq_getElem h2]
     simp only [Array.getD_eq_getD_getElem?, Array.getElem?_eq_getElem h1, Array.getElem?_eq_getElem h2, Option.getD_some] at e3
     rw [e3]
    ·rw [Array.getElem?_eq_none (by rw [st.size]; exact hge), Array.getElem?_eq_none (by rw [frame_size]; exact hge)]
   have e4 : a.defers = (frame Y.ops a0 vals n).defers := by rw [st.defers]; exact (defers_putAll _ _ _ _).symm
   cases a
   simp only at e2 e4
   subst e2 e4
   rfl
  rw [Nat.zero_add, e, ea]
  refine hQ _ _ (good_end _ _ _ _ _ st.good w (hI.fin _ _ st.wld hallF) (factsAll_of fun x hx => ?_) fun hB => ?_)
  ·obtain ⟨k, o, φ, hk, ek, ht, hw, rfl⟩ := fact_mem hx
   exact st.fact k o φ ⟨hk, hallF k hk, ek, ht, hw⟩
  ·have mem : ∀ x ∈ Y.made vals (Y.ops.toList.take n) 0 a0 [], ∃ k o φ, Y.On n a0 listed vals k o φ ∧ x = (k, vals k) := by
    intro x hx
    rcases mem_made _ _ _ _ x hx with h | ⟨k, o, φ, h1, h2, h3, h4⟩
    ·cases h
    ·rw [List.getElem?_take] at h1
     split at h1
     ·rename_i hlt
      rw [List.take_take, Nat.min_eq_left (by omega)] at h3
      rw [Nat.zero_add] at h2 h4
      exact ⟨k, o, φ, ⟨hlt, hallF k hlt, by simpa using h1, h2, h3⟩, h4⟩
     ·cases h1
   intro x hx y hy hne b hb
   obtain ⟨k, o, φ, ho, rfl⟩ := mem x hx
   obtain ⟨k', o', φ', ho', rfl⟩ := mem y hy
   exact st.pair hB k o φ k' o' φ' ho ho' hne b hb
 | succ f ih =>
  intro listed a w m vals st hl
  obtain ⟨i0, hi0, hu0, hb0⟩ := left_pos listed n (by omega)
  have hr0 : i0 ∈ Region.ready .any Y.ops listed := by
   have hz : i0 < Y.ops.size := Nat.lt_of_lt_of_le hi0 hR.le
   refine mem_ready.2 ⟨hu0, Y.ops[i0], by simp [hz], fun e he hb => ?_⟩
   have hlt := hR.edge i0 _ hi0 (by simp [hz]) e he hb
   have hez : e.on < listed.size := by rw [st.inv.size]; omega
   have := hb0 e.on hlt
   simp [hez] at this ⊢
   exact this
  rw [show f + 1 + g = (f + g) + 1 by omega]
  refine ⟨fun h => (by rw [h] at hr0; cases hr0), fun i hr => ?_⟩
  obtain ⟨hun, oi, ei, hall⟩ := mem_ready.1 hr
  have hiz : i < Y.ops.size := (Array.getElem?_eq_some_iff.1 ei).1
  have hi : i < n := by
   rcases Nat.lt_or_ge i n with h | h
   ·exact h
   ·rcases hR.tail with h1 | ⟨h1, h2⟩
    ·omega
    ·exact absurd hr (tail_waits2 h1 h2 (by omega) st.inv _ i0 rfl hi0 hu0 i h)
  have hunF : listed.getD i false = false := getD_both hun
  have hleft : left (listed.setIfInBounds i true) n = f := by
   have := left_set listed i (by rw [st.inv.size]; exact hiz) hun n hi
   omega
  have hanc : ∀ k, k < n → (ancOf Y.ops i).testBit k = true → listed.getD k false = true :=
   anc_listed hR st.inv i hi (fun oj ej => by rw [ei] at ej; cases ej; exact hall)
  obtain ⟨he, hw⟩ := same_exec (Region.noSelect_spec hR.sel i _ · · ei) (by rw [frame_size, st.size]) (real_same hR st hi ei hunF hanc)
  have fA := facts_on st (by omega) hanc
  have idle : lookP Y.Ψ i = none ∨ Y.want oi (frame Y.ops a0 vals i) = false → Y.J i w w := fun h => by
   rcases hI.idle i hi with h1 | ⟨h1, h2⟩
   ·exact h1 w
   ·rcases h with h | h
    ·exact absurd h h1
    ·unfold Law.want Region.wanted at h; rw [h2 oi ei] at h; cases h
  have keep : ∀ (u : Value) (w' : World), Y.J i w w' → u = vals i → (lookP Y.Ψ i = none ∨ Y.want oi (frame Y.ops a0 vals i) = false) → wpAny Y.P .any Y.ops Q' (f + g) (listed.setIfInBounds i true) (a.put oi.dst u) w' := fun u w' hx hu h => by
   subst hu
   exact ih _ _ _ m vals (st_step hI hR st st.good (fun _ _ => rfl) hx hi ei hr hunF hanc fun φ h1 h2 => by
    rcases h with h | h
    ·rw [h] at h1; cases h1
    ·rw [h] at h2; cases h2) hleft
  unfold wpOp
  simp only [ei]
  rcases oblig_at hR st.good hi ei with ⟨h1, h2⟩ | ⟨h1, h2, h3⟩ | ⟨h1, h2, φ, h3, h4⟩
  ·rw [if_neg (by rw [hw]; exact fun h => by rw [Law.want, h] at h1; cases h1)]
   exact keep _ _ (idle (.inr h1)) h2.symm (.inr h1)
  ·rw [if_pos (by rw [hw]; exact h1)]
   refine .inl ?_
   have d := h3 w (hI.det _ _ st.wld) fA
   unfold Law.detAt at d
   unfold Oper.wp
   rw [he]
   generalize (execOp (frame Y.ops a0 vals i).eval oi).run Y.P w = r at d
   cases r with
   | ok x w' =>
    cases x <;> simp only [detUpon] at d <;> simp only [Oper.upon]
    case value u => obtain ⟨d1, d2⟩ := d; rw [d1]; exact keep u _ (idle (.inl h2)) d2 (.inl h2)
    case skip => obtain ⟨d1, d2⟩ := d; rw [d1]; exact keep undef _ (idle (.inl h2)) d2 (.inl h2)
    case enter f args =>
     obtain ⟨d1, _, d2⟩ := d
     rw [d1]
     refine d2.mono fun e w'' ⟨he, hx⟩ => ?_
     subst he
     exact keep _ _ hx rfl (.inl h2)
   | halt x w' => simp only [detUpon] at d
  ·rw [if_pos (by rw [hw]; exact h1)]
   refine .inl ?_
   have go : ∀ (u : Value) (w' : World), Y.J i w w' → φ (lk Y.ops oi (frame Y.ops a0 vals i)) u w' → (Y.B → blockOk w w' (Y.O i) u) → wpAny Y.P .any Y.ops Q' (f + g) (listed.setIfInBounds i true) (a.put oi.dst u) w' := by
    intro u w' hx hφ hb
    obtain ⟨vals', hg'⟩ := good_of_rel (fun j => if j = i then u else m j) _ _ _ _ _ hrel
    have hm : ∀ j, listed.getD j false = true → m j = (fun j => if j = i then u else m j) j := fun j hj => by
     have : j ≠ i := fun h => by subst h; rw [hunF] at hj; cases hj
     simp [this]
    have hag := agree hI hR st hg' hm
    obtain ⟨-, hwe, hle⟩ := want_same (a0 := a0) (vals := vals) (vals' := vals') hR hi ei fun k hk hb => hag k hk (hanc k hk hb)
    have hv : vals' i = u := by
     rcases oblig_at hR hg' hi ei with ⟨g1, _⟩ | ⟨_, g2, _⟩ | ⟨_, g2, _⟩
     ·rw [← hwe, h1] at g1; cases g1
     ·rw [h3] at g2; cases g2
     ·rw [g2]; simp
    have := ih _ _ _ _ vals' (st_step hI hR st hg' hm hx hi ei hr hunF hanc fun φ' ht _ => by
     rw [h3] at ht; cases ht
     rw [hv, ← hle]; exact ⟨hφ, hb⟩) hleft
    rw [hv] at this
    exact this
   have d := h4 w (hI.ahead _ _ _ hi st.wld hunF hanc) fA
   unfold Law.makeAt at d
   unfold Oper.wp
   rw [he]
   generalize (execOp (frame Y.ops a0 vals i).eval oi).run Y.P w = r at d
   cases r with
   | ok x w' =>
    cases x <;> simp only [makeUpon] at d <;> simp only [Oper.upon]
    case value u => exact go u w' d.1 d.2.1 d.2.2
    case skip => exact go undef w' d.1 d.2.1 d.2.2
    case enter f args =>
     obtain ⟨d1, d2⟩ := d
     rw [d1]
     refine d2.mono fun e w'' h => ?_
     rcases h with ⟨v, he, hx, hφ, hb⟩ | ⟨ch, he, hx⟩
     ·subst he
      exact go v w'' hx hφ hb
     ·subst he
      exact hX i ch _ _ st.defers hx
   | halt x w' => simp only [makeUpon] at d
end
theorem region_of {Y : Law} {n : Nat} {I : (Nat → Bool) → World → Prop} (hI : Y.Ok n I) (hm : Y.P.follows .mixedOrders = true) (hR : RelOk Y.ops n) {id : Nat} {Q : Exit → Act → World → Prop} {a : Act} {w : World} (hw : Y.w0 = w.drew)
  (hX : ∀ i ch a' w', a'.defers = a.defers → Y.X i ch w' → Q (.panic ch) a' w')
  (hQ : ∀ a w, Y.Q a w → wpAny Y.P .any Y.ops Q (Y.ops.size - n) (Array.replicate n true ++ Array.replicate (Y.ops.size - n) false) a w)
  (h : Y.rel (Y.ops.toList.take n) 0 a [] []) : (Code.region id Y.ops true).wp Y.P Q a w := by
 refine wp_region_any hm ?_
 obtain ⟨vals, hg⟩ := good_of_rel (fun _ => undef) _ _ _ _ _ h
 have off : ∀ {j : Nat} {p : Prop}, (Array.replicate Y.ops.size false).getD j false = true → p := fun hl => by rw [getD_replicate_false] at hl; cases hl
 have hz := hI.zero
 rw [hw] at hz
 have key := any_of_st hI hR h hX hQ n (Array.replicate Y.ops.size false) a w.drew (fun _ => undef) vals
  ⟨⟨by simp, fun j oj _ hl => off hl, fun t _ ht => getD_in (by simpa using ht) (getD_replicate_false _ _)⟩, hg, by simpa only [getD_replicate_false] using hz, rfl, rfl,
   fun j _ _ _ hl => off hl, fun _ _ => rfl, fun j _ _ h => off h.on, fun _ j _ _ h => off h.on, fun _ j _ _ _ _ _ h => off h.on⟩ ?_
 ·rw [show n + (Y.ops.size - n) = Y.ops.size by have := hR.le; omega] at key
  exact key
 ·have : ∀ k, k ≤ Y.ops.size → left (Array.replicate Y.ops.size false) k = k := by
   intro k
   induction k with
   | zero => intro _; rfl
   | succ k ih =>
    intro hk
    rw [left, ih (by omega), if_neg (by rw [getD_in (by rw [Array.size_replicate]; omega) (getD_replicate_false _ _)]; simp)]
  exact this n hR.le
theorem tail_seq {P : Program} {l : List Oper} {n : Nat} {Q : Exit → Act → World → Prop} (hB : relOk l.toArray n = true) {a : Act} {w : World} (h : wpList P l.toArray Q (l.drop n) a w) :
  wpAny P .any l.toArray Q (l.toArray.size - n) (Array.replicate n true ++ Array.replicate (l.toArray.size - n) false) a w := by
 have hdl : (l.drop n).length = l.toArray.size - n := by simp
 have := wpAny_of_seq (md := .any) (Q' := Q) (l.drop n) n (Array.replicate n true ++ Array.replicate (l.toArray.size - n) false) a w (fun j => by simp [List.getElem?_drop]) (by rw [hdl]; exact relOk_seq hB) h
 rwa [hdl] at this
def cst (Ψ : List (Nat × Fct)) : Ps := Ψ.map fun x => (x.1, fun _ => x.2)
theorem look_cst (Ψ : List (Nat × Fct)) (i : Nat) : lookP (cst Ψ) i = (tells Ψ i).map fun φ _ => φ := by
 induction Ψ with
 | nil => rfl
 | cons x r ih =>
  simp only [cst, List.map_cons, lookP, tells] at ih ⊢
  split <;> simp_all
theorem ok_rel {Y : Law} {n : Nat} {E : World → World → Prop} (hr : ∀ w, E w w) (ht : ∀ a b c, E a b → E b c → E a c) (hs : ∀ a b, E a b → a.heap.size ≤ b.heap.size) (hD : Y.D = E Y.w0) (hH : Y.H = fun _ => E Y.w0) (hZ : Y.Z = E Y.w0) (hJ : Y.J = fun _ => E)
  (hO : ∀ i b, Y.O i = some b → b < Y.w0.heap.size) (hOO : ∀ i j b, i ≠ j → Y.O i = some b → Y.O j ≠ some b) (hst : ∀ i φ, lookP Y.Ψ i = some φ → ∀ ls v w w', E w w' → φ ls v w → φ ls v w') : Y.Ok n fun _ => E Y.w0 := by
 refine ⟨hr _, fun _ i _ _ _ h1 _ _ h2 => ht _ _ _ h1 ?_, fun _ _ h => ?_, fun _ i _ _ h _ _ => ?_, fun _ _ h _ => ?_, fun i _ => .inl fun w => ?_, fun i _ _ h => hs _ _ ?_, fun _ _ h => hs _ _ h, fun i j φ _ ht ls v w w' h => hst j φ ht ls v w w' ?_, hO, hOO⟩
 all_goals simp_all
def exw (w : World) (p : Regrown) : World := Go.Sort.grow (redrawn w p.d) p.os
theorem exw_of {w w' : World} (h : Ext w w') : ∃ p, w' = exw w p := regrown_of_below h
theorem ext_exw (w : World) (p : Regrown) : Ext w (exw w p) := below_regrown w p.d p.os
@[simp, go_sem] theorem exw_size (w : World) (p : Regrown) : (exw w p).heap.size = w.heap.size + p.os.size := by simp [exw, redrawn]
@[simp, go_sem] theorem exw_tape (w : World) (p : Regrown) : (exw w p).tape = w.tape := rfl
theorem exw_heap (w : World) (p : Regrown) {n : Nat} (h : n < w.heap.size) : (exw w p).heap[n]? = w.heap[n]? := (ext_exw w p).block n h
@[go_sem] theorem exw_cell (w : World) (p : Regrown) (n i : Nat) (h : n < w.heap.size) : (exw w p).cell? ⟨n, i, none⟩ = w.cell? ⟨n, i, none⟩ := (ext_exw w p).cell (p := ⟨n, i, none⟩) h
@[go_sem] theorem exw_frozen (w : World) (p : Regrown) (n i : Nat) (h : n < w.heap.size) : (exw w p).frozen? ⟨n, i, none⟩ = w.frozen? ⟨n, i, none⟩ := (ext_exw w p).frozen (p := ⟨n, i, none⟩) h
@[go_sem] theorem exw_shape (w : World) (p : Regrown) (n : Nat) (h : n < w.heap.size) : (exw w p).shape? n = w.shape? n := by
 simp only [World.shape?, exw_heap w p h]
@[go_sem] theorem exw_setCell (w : World) (p : Regrown) (n i : Nat) (v : Value) (h : n < w.heap.size) : (exw w p).setCell ⟨n, i, none⟩ v = exw (w.setCell ⟨n, i, none⟩ v) p := by
 simp only [exw, World.setCell, Go.Sort.grow, redrawn, Go.Sort.modify_append_left _ _ _ _ h]
theorem below_exw {B : Nat} {a w : World} (h : Below B a w) (hB : B ≤ w.heap.size) (p : Regrown) : Below B a (exw w p) := h.trans ((ext_exw w p).mono hB)
theorem ext_cell {w w' : World} (h : Ext w w') {a : Addr} {v : Value} (hc : w.cell? a = some v) : w'.cell? a = some v := by
 rw [h.cell (block_lt_of_cell hc)]; exact hc
@[go_sem] theorem lt_over {n m : Nat} (k : Nat) (h : n < m) : (n < m + k) = True := by simp; omega
@[go_sem] theorem lt_over1 {n m : Nat} (h : n ≤ m) : (n < m + 1) = True := by simp; omega
@[go_sem] theorem lt_over2 {n m : Nat} (h : n ≤ m) : (n < m + 2) = True := by simp; omega
@[go_sem] theorem lt_over3 {n m : Nat} (h : n ≤ m) : (n < m + 3) = True := by simp; omega
@[go_sem] theorem lt_over4 {n m : Nat} (h : n ≤ m) : (n < m + 4) = True := by simp; omega
@[go_sem] theorem le_over {n m : Nat} (k : Nat) (h : n ≤ m) : (n ≤ m + k) = True := by simp; omega
@[go_sem] theorem exw_exw (w : World) (p q : Regrown) : exw (exw w p) q = exw w ⟨q.d, p.os ++ q.os⟩ := by simp [exw, Go.Sort.grow, redrawn, Array.append_assoc]
@[go_sem] theorem exw_drew (w : World) (p : Regrown) : exw w.drew p = exw w p := rfl
@[go_sem] theorem exw_drew_exw (w : World) (p q : Regrown) : exw (exw w p).drew q = exw w ⟨q.d, p.os ++ q.os⟩ := by simp [exw, Go.Sort.grow, redrawn, World.drew, Array.append_assoc]
@[go_sem] theorem run_index_arr {P : Program} (w : World) (t : TypeId) (k : IntKind) (i : Int) (cs : Array Value) (ht : P.underlying t = some (.array (P.arrayLen t) (P.elem t))) (h : 0 ≤ i ∧ i < (P.arrayLen t : Int)) :
  (Instr.index t (.agg cs) (.int k i)).run P w = ((sizeOf (P.elem t)).run P w).andThen fun s w' => (part (P.elem t) cs (i.toNat * s)).run P w' := by
 simp [Instr.index, asIntOf, run_underlying ht, h.1, h.2]
theorem wanted_none {o : Oper} {y} (h : o.guard = none) : Region.wanted o y = true := by
 unfold Region.wanted; rw [h]
def callPost (w : World) (φ : Value → World → Prop) (e : Ending) (w2 : World) : Prop := ∃ v, e = .returned v ∧ Ext w w2 ∧ φ v w2
def newPost (w : World) (φ : Value → World → Prop) (u : Value) (w2 : World) : Prop := Ext w w2 ∧ φ u w2
def detVal (w w' : World) (u v : Value) : Prop := w' = w ∧ u = v
def detPost (w : World) (v : Value) (e : Ending) (w2 : World) : Prop := e = .returned v ∧ Ext w w2
def detRun (P : Program) (o : Oper) (a : Act) (w : World) (v : Value) : Prop :=
 match (execOp a.eval o).run P w with
 | .ok (.value u) w' => detVal w w' u v
 | .ok .skip w' => detVal w w' undef v
 | .ok (.enter f args) w' => w' = w ∧ P.inits.idxOf? f = none ∧ Calls P f args w (detPost w v)
 | _ => False
def makeRun (P : Program) (o : Oper) (a : Act) (w : World) (φ : Value → World → Prop) : Prop :=
 match (execOp a.eval o).run P w with
 | .ok (.value u) w' => newPost w φ u w'
 | .ok (.enter f args) w' => w' = w ∧ Calls P f args w (callPost w φ)
 | _ => False
attribute [go_sem] detRun makeRun
section
variable {Y : Law} {o : Oper} {r : List Oper} {i : Nat} {a : Act} {F : Facts} {G : Made}
theorem Law.skip (hw : Y.want o a = false) (h : Y.rel r (i + 1) (a.put o.dst undef) F G) : Y.rel (o :: r) i a F G := by
 unfold Law.rel; rw [if_neg (by rw [hw]; simp)]; exact h
theorem Law.det (hw : Y.want o a = true) (ht : lookP Y.Ψ i = none) (hJ : ∀ {a b}, Ext a b → Y.J i a b) {v : Value} (h : ∀ w, Y.D w → factsAnc (ancOf Y.ops i) F w → detRun Y.P o a w v) (k : Y.rel r (i + 1) (a.put o.dst v) F G) : Y.rel (o :: r) i a F G := by
 unfold Law.rel; rw [if_pos hw]; simp only [ht]
 refine ⟨v, fun w hx hf => ?_, k⟩
 have := h w hx hf
 unfold detRun at this
 unfold Law.detAt
 generalize (execOp a.eval o).run Y.P w = q at this
 cases q with
 | ok x w' =>
  cases x <;> simp only [detVal, detPost] at this <;> simp only [detUpon]
  case value => exact this
  case skip => exact this
  case enter => exact ⟨this.1, this.2.1, this.2.2.mono fun e w2 h => ⟨h.1, hJ h.2⟩⟩
 | halt x w' => simp only at this
theorem Law.make {φ : List Value → Fct} (hw : Y.want o a = true) (ht : lookP Y.Ψ i = some φ) (h : ∀ w, Y.H i w → factsAnc (ancOf Y.ops i) F w → Y.makeAt i o a w (φ (lk Y.ops o a)))
  (k : ∀ v, Y.rel r (i + 1) (a.put o.dst v) ((i, φ (lk Y.ops o a) v) :: F) ((i, v) :: G)) : Y.rel (o :: r) i a F G := by
 unfold Law.rel; rw [if_pos hw]; simp only [ht]
 exact ⟨h, k⟩
end
def law (P : Program) (ops : Array Oper) (w0 : World) (Ψ : List (Nat × Fct)) (Q : Act → World → Prop) : Law := ⟨False, P, ops, w0, fun _ => none, cst Ψ, Ext w0, fun _ => Ext w0, Ext w0, fun _ => Ext, fun _ _ _ => False, Q⟩
def wpRel (P : Program) (ops : Array Oper) (w0 : World) (Ψ : List (Nat × Fct)) (Q : Act → World → Prop) (l : List Oper) (i : Nat) (a : Act) (F : Facts) : Prop := ∀ G, (law P ops w0 Ψ Q).rel l i a F G
section
variable {P : Program} {ops : Array Oper} {w0 : World} {Ψ : List (Nat × (Value → World → Prop))} {Q : Act → World → Prop} {o : Oper} {r : List Oper} {i : Nat} {a : Act} {F : Facts}
theorem look_none {i : Nat} (h : tells Ψ i = none) : lookP (cst Ψ) i = none := by rw [look_cst, h]; rfl
theorem look_some {i : Nat} {φ : Fct} (h : tells Ψ i = some φ) : lookP (cst Ψ) i = some fun _ => φ := by rw [look_cst, h]; rfl
theorem rel_skip (hw : Region.wanted o (yielded ops a.tmps) = false) (h : ∀ K : Act → Prop, (∀ a, wpRel P ops w0 Ψ Q r (i + 1) a F → K a) → K (a.put o.dst undef)) : wpRel P ops w0 Ψ Q (o :: r) i a F :=
 fun G => Law.skip hw (h _ (fun _ h => h) G)
theorem rel_det (hw : Region.wanted o (yielded ops a.tmps) = true) (ht : tells Ψ i = none)
  (h : ∀ K : Act → Prop, (∀ a, wpRel P ops w0 Ψ Q r (i + 1) a F → K a) → ∃ v, (∀ p, factsAnc (ancOf ops i) F (exw w0 p) → detRun P o a (exw w0 p) v) ∧ K (a.put o.dst v)) : wpRel P ops w0 Ψ Q (o :: r) i a F := by
 obtain ⟨v, h1, h2⟩ := h _ fun _ h => h
 exact fun G => Law.det hw (look_none ht) (fun h => h) (fun w' hx hf => by obtain ⟨p, rfl⟩ := exw_of hx; exact h1 p hf) (h2 G)
theorem rel_make {φ : Value → World → Prop} (hw : Region.wanted o (yielded ops a.tmps) = true) (ht : tells Ψ i = some φ)
  (h : ∀ p, factsAnc (ancOf ops i) F (exw w0 p) → makeRun P o a (exw w0 p) φ)
  (hn : ∀ v, ∀ K : Act → Prop, (∀ a, wpRel P ops w0 Ψ Q r (i + 1) a ((i, φ v) :: F) → K a) → K (a.put o.dst v)) : wpRel P ops w0 Ψ Q (o :: r) i a F :=
 fun G => Law.make hw (look_some ht) (fun w' hx hf => by
  obtain ⟨p, rfl⟩ := exw_of hx
  have := h p hf
  unfold makeRun at this
  show makeUpon _ _ _ P _ _ _ ((execOp a.eval o).run P _)
  generalize (execOp a.eval o).run P (exw w0 p) = q at this
  cases q with
  | ok x w' =>
   cases x <;> simp only [newPost, callPost] at this <;> simp only [makeUpon]
   case value => exact ⟨this.1, this.2, fun h => h.elim⟩
   case enter => exact ⟨this.1, this.2.mono fun e w2 ⟨v, h1, h2, h3⟩ => .inl ⟨v, h1, h2, h3, fun h => h.elim⟩⟩
  | halt x w' => simp only at this) fun v => hn v _ (fun _ h => h) _
theorem rel_nil (h : ∀ p, factsAll F (exw w0 p) → Q a (exw w0 p)) : wpRel P ops w0 Ψ Q [] i a F := fun G w' hx hf _ => by
 obtain ⟨p, rfl⟩ := exw_of hx; exact h p hf
end
def stableAll : List (Nat × (Value → World → Prop)) → Prop
 | [] => True
 | x :: r => (∀ v w w', Ext w w' → x.2 v w → x.2 v w') ∧ stableAll r
theorem cst_all {Ψ : List (Nat × Fct)} {R : Nat → World → World → Prop} (h : ∀ x ∈ Ψ, ∀ v w w', R x.1 w w' → x.2 v w → x.2 v w') : ∀ i φ, lookP (cst Ψ) i = some φ → ∀ ls v w w', R i w w' → φ ls v w → φ ls v w' := by
 induction Ψ with
 | nil => intro i φ ht; cases ht
 | cons x r ih =>
  intro i φ ht
  simp only [cst, List.map_cons, lookP] at ht
  split at ht
  ·rename_i hi; cases ht; subst hi; exact fun _ => h x (List.mem_cons_self ..)
  ·exact ih (fun y hy => h y (List.mem_cons_of_mem _ hy)) i φ ht
theorem mem_stable {Ψ : List (Nat × Fct)} (h : stableAll Ψ) : ∀ x ∈ Ψ, ∀ v w w', Ext w w' → x.2 v w → x.2 v w' := by
 induction Ψ with
 | nil => intro x hx; cases hx
 | cons y r ih =>
  intro x hx
  rcases List.mem_cons.1 hx with rfl | hx
  ·exact h.1
  ·exact ih h.2 x hx
theorem wp_region_rel' {P : Program} {id : Nat} {Q : Exit → Act → World → Prop} {a : Act} {w : World} {l : List Oper} (n : Nat) (Ψ : List (Nat × (Value → World → Prop))) (hst : stableAll Ψ) (hm : P.follows .mixedOrders = true) (hB : relOk l.toArray n = true)
  (h : wpRel P l.toArray w.drew Ψ (fun a' w' => wpList P l.toArray Q (l.drop n) a' w') (l.take n) 0 a []) : (Code.region id l.toArray true).wp P Q a w :=
 region_of (Y := law P l.toArray w.drew Ψ fun a' w' => wpList P l.toArray Q (l.drop n) a' w')
  (ok_rel (fun w => Below.refl _ _) (fun _ _ _ => Ext.trans) (fun _ _ h => h.size) rfl rfl rfl rfl (fun _ _ h => by cases h) (fun _ _ _ _ h => by cases h) (cst_all (mem_stable hst)))
  hm (relOk_spec hB) rfl (fun _ _ _ _ _ h => h.elim) (fun _ _ => tail_seq hB) (by simpa [law] using h [])
class XI (a w : World) : Prop where out : Ext a w
instance XI.r (a : World) : XI a a := ⟨Below.refl _ _⟩
instance XI.a (a w : World) (o : Obj) [h : XI a w] : XI a (w.alloc o) := ⟨h.out.alloc h.out.size o⟩
instance XI.d (a w : World) [h : XI a w] : XI a w.drew := ⟨h.out.drew⟩
instance XI.e (a w : World) (p : Regrown) [h : XI a w] : XI a (exw w p) := ⟨below_exw h.out h.out.size p⟩
theorem xt {a w : World} [h : XI a w] : Ext a w := h.out
theorem sz {P : Prop} (h : P := by (try simp only [World.size_alloc, Go.Xk.exw_size, World.size_setCell, World.size_drew, World.heap_drewN]); omega) : P := h
theorem cl {P : Program} {f : FuncId} {args : Array Value} {w : World} {Q : Ending → World → Prop} {v : Value} (h : Calls P f args w fun e w' => e = .returned v ∧ Ext w w') (k : ∀ p, Q (.returned v) (exw w p)) : Calls P f args w Q := h.mono fun e w' ⟨he, hx⟩ => by
 obtain ⟨p, rfl⟩ := exw_of hx
 subst he
 exact k p
theorem reg {P : Program} {id : Nat} {Q : Exit → Act → World → Prop} {a : Act} {w : World} {l : List Oper} (n : Nat) (h : wpRel P l.toArray w.drew [] (fun a' w' => wpList P l.toArray Q (l.drop n) a' w') (l.take n) 0 a []) (hm : P.follows .mixedOrders = true := by kernel_rfl) (hB : relOk l.toArray n = true := by kernel_rfl) : (Code.region id l.toArray true).wp P Q a w := wp_region_rel' n [] trivial hm hB h
theorem w0 {P : Prop} {Q : Regrown → Prop} (k : ∀ p, Q p) (h : (∀ p, Q p) → P := by
 intro k
 have KQ := Lib.hid k
 clear k
 simp only [List.take_succ_cons, List.take_zero, List.drop_succ_cons, List.drop_zero]
 repeat (first
  | (refine Go.Xk.rel_det (Go.Xk.wanted_none (by rfl)) (by rfl) (fun K hK => ?_); apply Exists.intro; refine ⟨fun p hp => ?_, ?_⟩; (go_simp; first | exact ⟨rfl, rfl⟩ | ((try refine ⟨by kernel_rfl, ?_⟩); fail)); (go_simp; refine hK _ ?_; clear hK K))
  | (refine Go.Xk.rel_skip (by rfl) (fun K hK => ?_); go_simp; refine hK _ ?_; clear hK K)
  | (refine Go.Xk.rel_det (by rfl) (by rfl) (fun K hK => ?_); apply Exists.intro; refine ⟨fun p hp => ?_, ?_⟩; (go_simp; first | exact ⟨rfl, rfl⟩ | ((try refine ⟨by kernel_rfl, ?_⟩); fail)); (go_simp; refine hK _ ?_; clear hK K)))
 refine Go.Xk.rel_nil (fun p _ => ?_)
 exact KQ.out p) : P := h k
theorem w1 {A P : Prop} {Q : Regrown → Prop} (a : A) (k : ∀ p, Q p) (h : A → (∀ p, Q p) → P := by
 intro a k
 have AH := Lib.hid a
 have KQ := Lib.hid k
 clear a k
 simp only [List.take_succ_cons, List.take_zero, List.drop_succ_cons, List.drop_zero]
 repeat (first
  | (refine Go.Xk.rel_det (Go.Xk.wanted_none (by rfl)) (by rfl) (fun K hK => ?_); apply Exists.intro; refine ⟨fun p hp => ?_, ?_⟩; (go_simp; first | exact ⟨rfl, rfl⟩ | ((try refine ⟨by kernel_rfl, ?_⟩); ((first | (with_reducible refine (AH.out _).mono ?_) | (with_reducible refine (AH.out _ Go.Xk.xt).mono ?_) | (with_reducible refine (AH.out _ (Go.Xk.Ext.trans (box2 HX1.out) Go.Xk.xt)).mono ?_) | (with_reducible refine (AH.out _ (Go.Xk.Ext.trans (box2 HX2.out) Go.Xk.xt)).mono ?_)); first | exact fun e w' h => h | exact fun e w' h => ⟨h.1, by rw [← h.2]; exact Below.refl _ _⟩))); (go_simp; refine hK _ ?_; clear hK K))
  | (refine Go.Xk.rel_skip (by rfl) (fun K hK => ?_); go_simp; refine hK _ ?_; clear hK K)
  | (refine Go.Xk.rel_det (by rfl) (by rfl) (fun K hK => ?_); apply Exists.intro; refine ⟨fun p hp => ?_, ?_⟩; (go_simp; first | exact ⟨rfl, rfl⟩ | ((try refine ⟨by kernel_rfl, ?_⟩); ((first | (with_reducible refine (AH.out _).mono ?_) | (with_reducible refine (AH.out _ Go.Xk.xt).mono ?_) | (with_reducible refine (AH.out _ (Go.Xk.Ext.trans (box2 HX1.out) Go.Xk.xt)).mono ?_) | (with_reducible refine (AH.out _ (Go.Xk.Ext.trans (box2 HX2.out) Go.Xk.xt)).mono ?_)); first | exact fun e w' h => h | exact fun e w' h => ⟨h.1, by rw [← h.2]; exact Below.refl _ _⟩))); (go_simp; refine hK _ ?_; clear hK K)))
 refine Go.Xk.rel_nil (fun p _ => ?_)
 exact KQ.out p) : P := h a k
theorem w2 {A B P : Prop} {Q : Regrown → Prop} (a : A) (b : B) (k : ∀ p, Q p) (h : A → B → (∀ p, Q p) → P := by
 intro a b k
 have AH := Lib.hid a
 have BH := Lib.hid b
 have KQ := Lib.hid k
 clear a b k
 simp only [List.take_succ_cons, List.take_zero, List.drop_succ_cons, List.drop_zero]
 repeat (first
  | (refine Go.Xk.rel_det (Go.Xk.wanted_none (by rfl)) (by rfl) (fun K hK => ?_); apply Exists.intro; refine ⟨fun p hp => ?_, ?_⟩; (go_simp; first | exact ⟨rfl, rfl⟩ | ((try refine ⟨by kernel_rfl, ?_⟩); ((first | (with_reducible refine (AH.out _).mono ?_) | (with_reducible refine (AH.out _ Go.Xk.xt).mono ?_) | (with_reducible refine (AH.out _ (Go.Xk.Ext.trans (box2 HX1.out) Go.Xk.xt)).mono ?_) | (with_reducible refine (AH.out _ (Go.Xk.Ext.trans (box2 HX2.out) Go.Xk.xt)).mono ?_) | (with_reducible refine (BH.out _).mono ?_) | (with_reducible refine (BH.out _ Go.Xk.xt).mono ?_) | (with_reducible refine (BH.out _ (Go.Xk.Ext.trans (box2 HX1.out) Go.Xk.xt)).mono ?_) | (with_reducible refine (BH.out _ (Go.Xk.Ext.trans (box2 HX2.out) Go.Xk.xt)).mono ?_)); first | exact fun e w' h => h | exact fun e w' h => ⟨h.1, by rw [← h.2]; exact Below.refl _ _⟩))); (go_simp; refine hK _ ?_; clear hK K))
  | (refine Go.Xk.rel_skip (by rfl) (fun K hK => ?_); go_simp; refine hK _ ?_; clear hK K)
  | (refine Go.Xk.rel_det (by rfl) (by rfl) (fun K hK => ?_); apply Exists.intro; refine ⟨fun p hp => ?_, ?_⟩; (go_simp; first | exact ⟨rfl, rfl⟩ | ((try refine ⟨by kernel_rfl, ?_⟩); ((first | (with_reducible refine (AH.out _).mono ?_) | (with_reducible refine (AH.out _ Go.Xk.xt).mono ?_) | (with_reducible refine (AH.out _ (Go.Xk.Ext.trans (box2 HX1.out) Go.Xk.xt)).mono ?_) | (with_reducible refine (AH.out _ (Go.Xk.Ext.trans (box2 HX2.out) Go.Xk.xt)).mono ?_) | (with_reducible refine (BH.out _).mono ?_) | (with_reducible refine (BH.out _ Go.Xk.xt).mono ?_) | (with_reducible refine (BH.out _ (Go.Xk.Ext.trans (box2 HX1.out) Go.Xk.xt)).mono ?_) | (with_reducible refine (BH.out _ (Go.Xk.Ext.trans (box2 HX2.out) Go.Xk.xt)).mono ?_)); first | exact fun e w' h => h | exact fun e w' h => ⟨h.1, by rw [← h.2]; exact Below.refl _ _⟩))); (go_simp; refine hK _ ?_; clear hK K)))
 refine Go.Xk.rel_nil (fun p _ => ?_)
 exact KQ.out p) : P := h a b k
theorem w3 {A B C P : Prop} {Q : Regrown → Prop} (a : A) (b : B) (c : C) (k : ∀ p, Q p) (h : A → B → C → (∀ p, Q p) → P := by
 intro a b c k
 have AH := Lib.hid a
 have BH := Lib.hid b
 have CH := Lib.hid c
 have KQ := Lib.hid k
 clear a b c k
 simp only [List.take_succ_cons, List.take_zero, List.drop_succ_cons, List.drop_zero]
 repeat (first
  | (refine Go.Xk.rel_det (Go.Xk.wanted_none (by rfl)) (by rfl) (fun K hK => ?_); apply Exists.intro; refine ⟨fun p hp => ?_, ?_⟩; (go_simp; first | exact ⟨rfl, rfl⟩ | ((try refine ⟨by kernel_rfl, ?_⟩); ((first | (with_reducible refine (AH.out _).mono ?_) | (with_reducible refine (AH.out _ Go.Xk.xt).mono ?_) | (with_reducible refine (AH.out _ (Go.Xk.Ext.trans (box2 HX1.out) Go.Xk.xt)).mono ?_) | (with_reducible refine (AH.out _ (Go.Xk.Ext.trans (box2 HX2.out) Go.Xk.xt)).mono ?_) | (with_reducible refine (BH.out _).mono ?_) | (with_reducible refine (BH.out _ Go.Xk.xt).mono ?_) | (with_reducible refine (BH.out _ (Go.Xk.Ext.trans (box2 HX1.out) Go.Xk.xt)).mono ?_) | (with_reducible refine (BH.out _ (Go.Xk.Ext.trans (box2 HX2.out) Go.Xk.xt)).mono ?_) | (with_reducible refine (CH.out _).mono ?_) | (with_reducible refine (CH.out _ Go.Xk.xt).mono ?_) | (with_reducible refine (CH.out _ (Go.Xk.Ext.trans (box2 HX1.out) Go.Xk.xt)).mono ?_) | (with_reducible refine (CH.out _ (Go.Xk.Ext.trans (box2 HX2.out) Go.Xk.xt)).mono ?_)); first | exact fun e w' h => h | exact fun e w' h => ⟨h.1, by rw [← h.2]; exact Below.refl _ _⟩))); (go_simp; refine hK _ ?_; clear hK K))
  | (refine Go.Xk.rel_skip (by rfl) (fun K hK => ?_); go_simp; refine hK _ ?_; clear hK K)
  | (refine Go.Xk.rel_det (by rfl) (by rfl) (fun K hK => ?_); apply Exists.intro; refine ⟨fun p hp => ?_, ?_⟩; (go_simp; first | exact ⟨rfl, rfl⟩ | ((try refine ⟨by kernel_rfl, ?_⟩); ((first | (with_reducible refine (AH.out _).mono ?_) | (with_reducible refine (AH.out _ Go.Xk.xt).mono ?_) | (with_reducible refine (AH.out _ (Go.Xk.Ext.trans (box2 HX1.out) Go.Xk.xt)).mono ?_) | (with_reducible refine (AH.out _ (Go.Xk.Ext.trans (box2 HX2.out) Go.Xk.xt)).mono ?_) | (with_reducible refine (BH.out _).mono ?_) | (with_reducible refine (BH.out _ Go.Xk.xt).mono ?_) | (with_reducible refine (BH.out _ (Go.Xk.Ext.trans (box2 HX1.out) Go.Xk.xt)).mono ?_) | (with_reducible refine (BH.out _ (Go.Xk.Ext.trans (box2 HX2.out) Go.Xk.xt)).mono ?_) | (with_reducible refine (CH.out _).mono ?_) | (with_reducible refine (CH.out _ Go.Xk.xt).mono ?_) | (with_reducible refine (CH.out _ (Go.Xk.Ext.trans (box2 HX1.out) Go.Xk.xt)).mono ?_) | (with_reducible refine (CH.out _ (Go.Xk.Ext.trans (box2 HX2.out) Go.Xk.xt)).mono ?_)); first | exact fun e w' h => h | exact fun e w' h => ⟨h.1, by rw [← h.2]; exact Below.refl _ _⟩))); (go_simp; refine hK _ ?_; clear hK K)))
 refine Go.Xk.rel_nil (fun p _ => ?_)
 exact KQ.out p) : P := h a b c k
attribute [irreducible] exw
attribute [irreducible] wpRel
end Go.Xk
namespace Go.Xs
theorem gf {A P Q : Prop} (a : A) (k : Q) (h : A → Q → P := by
 intro a k
 have KQ := Lib.hid k
 clear k
 (refine Go.Xg.rel_det (Go.Xk.wanted_none (by rfl)) (by rfl) (fun K hK => ?_); apply Exists.intro; refine ⟨fun W hx hp => ?_, ?_⟩; (have c := hx.cell a (by omega); go_simp; exact ⟨rfl, rfl⟩); (go_simp; refine hK _ ?_; clear hK K))
 exact KQ.out) : P := h a k
theorem gc {A P Q : Prop} (a : A) (k : Q) (h : A → Q → P := by
 intro a k
 have KQ := Lib.hid k
 clear k
 (refine Go.Xg.rel_det (Go.Xk.wanted_none (by rfl)) (by rfl) (fun K hK => ?_); apply Exists.intro; refine ⟨fun W hx hp => ?_, ?_⟩; (obtain ⟨c0, c1, c2, c3, c4, c5, c6, c7, c8, c9⟩ := cells_of10 (hx.held a (by omega)); go_simp; exact ⟨rfl, rfl⟩); (go_simp; refine hK _ ?_; clear hK K))
 exact KQ.out) : P := h a k
theorem d {P Q : Prop} (k : Q) (h : Q → P := by
 intro k
 have KQ := Lib.hid k
 clear k
 (refine Go.Xd.rel_det (pre_ET _ _) (Go.Xk.wanted_none (by rfl)) (by rfl) (fun K hK => ?_); apply Exists.intro; refine ⟨fun W hx hp => ?_, ?_⟩; (go_simp; exact ⟨rfl, rfl⟩); (go_simp; refine hK _ ?_; clear hK K))
 exact KQ.out) : P := h k
theorem e {P Q : Prop} (k : Q) (h : Q → P := by
 intro k
 have KQ := Lib.hid k
 clear k
 (refine Go.Xe.rel_det (pre_EC _ _ _) (Go.Xk.wanted_none (by rfl)) (by rfl) (fun K hK => ?_); apply Exists.intro; refine ⟨fun W hx hp => ?_, ?_⟩; (go_simp; exact ⟨rfl, rfl⟩); (go_simp; refine hK _ ?_; clear hK K))
 exact KQ.out) : P := h k
theorem s0 {P Q : Prop} (k : Q) (h : Q → P := by
 intro k
 have KQ := Lib.hid k
 clear k
 first
 | (refine Go.Xe.rel_det (Go.Xe.pre_ES _) (Go.Xk.wanted_none (by rfl)) (by rfl) (fun K hK => ?_); apply Exists.intro; refine ⟨fun W hx hp => ?_, ?_⟩; (go_simp; exact ⟨rfl, rfl⟩); (go_simp; refine hK _ ?_; clear hK K))
 | (refine Go.Xe.rel_skip (by rfl) (fun K hK => ?_); go_simp; refine hK _ ?_; clear hK K)
 | (refine Go.Xe.rel_det (Go.Xe.pre_ES _) (by rfl) (by rfl) (fun K hK => ?_); apply Exists.intro; refine ⟨fun W hx hp => ?_, ?_⟩; (go_simp; exact ⟨rfl, rfl⟩); (go_simp; refine hK _ ?_; clear hK K))
 exact KQ.out) : P := h k
theorem s3 {A P Q : Prop} (a : A) (k : Q) (h : A → Q → P := by
 intro a k
 have KQ := Lib.hid k
 clear k
 first
 | (refine Go.Xe.rel_det (Go.Xe.pre_ES _) (Go.Xk.wanted_none (by rfl)) (by rfl) (fun K hK => ?_); apply Exists.intro; refine ⟨fun W hx hp => ?_, ?_⟩; (obtain ⟨f1, f2, f3⟩ := a _ hx; go_simp; exact ⟨rfl, rfl⟩); (go_simp; refine hK _ ?_; clear hK K))
 | (refine Go.Xe.rel_skip (by rfl) (fun K hK => ?_); go_simp; refine hK _ ?_; clear hK K)
 | (refine Go.Xe.rel_det (Go.Xe.pre_ES _) (by rfl) (by rfl) (fun K hK => ?_); apply Exists.intro; refine ⟨fun W hx hp => ?_, ?_⟩; (obtain ⟨f1, f2, f3⟩ := a _ hx; go_simp; exact ⟨rfl, rfl⟩); (go_simp; refine hK _ ?_; clear hK K))
 exact KQ.out) : P := h a k
theorem k2 {P Q : Prop} (k : Q) (h : Q → P := by
 intro k
 have KQ := Lib.hid k
 clear k
 first
 | (refine Go.Xk.rel_det (Go.Xk.wanted_none (by rfl)) (by rfl) (fun K hK => ?_); apply Exists.intro; refine ⟨fun p hp => ?_, ?_⟩; (go_simp; exact ⟨rfl, rfl⟩); (go_simp; refine hK _ ?_; clear hK K))
 | (refine Go.Xk.rel_skip (by rfl) (fun K hK => ?_); go_simp; refine hK _ ?_; clear hK K)
 | (refine Go.Xk.rel_det (by rfl) (by rfl) (fun K hK => ?_); apply Exists.intro; refine ⟨fun p hp => ?_, ?_⟩; (go_simp; exact ⟨rfl, rfl⟩); (go_simp; refine hK _ ?_; clear hK K))
 exact KQ.out) : P := h k
theorem ow {A P : Prop} (a : A) (h : A → P := by
 intro a
 repeat (first | with_reducible exact a | with_reducible refine Go.Xk.own_alloc ?_ _ | with_reducible refine Go.Xk.own_drew ?_ | with_reducible exact Go.Xk.own_d a | with_reducible refine Go.Xk.own_more (d := 0) ?_)) : P := h a
theorem m3 {P : Prop} (h : P := by intro u hu; simp only [List.mem_cons, List.not_mem_nil, or_false] at hu; rcases hu with rfl | rfl | rfl <;> rfl) : P := h
end Go.Xs
namespace Go.Xo
open Go.RowKit Go.Xk
theorem own_alloc {w : World} {base : Nat} {e : TypeId} {size : Nat} {v : Value} {n : Nat} {xs : List Value} (h : w.ownsRow base e size v n xs) (o : Obj) : (w.alloc o).ownsRow base e size v n xs := h.alloc o
theorem own_drew {w : World} {base : Nat} {e : TypeId} {size : Nat} {v : Value} {n : Nat} {xs : List Value} (h : w.ownsRow base e size v n xs) : (w.drew).ownsRow base e size v n xs := h.drew
theorem own_le {w : World} {b b' : Nat} {e : TypeId} {size : Nat} {v : Value} {n : Nat} {xs : List Value} (h : w.ownsRow b e size v n xs) (hb : b' ≤ b) : w.ownsRow b' e size v n xs := by
 obtain ⟨h1, h2⟩ := h
 refine ⟨h1, ?_⟩
 rcases h2 with h2 | ⟨g, cap, cur, hv, hg, r⟩
 ·exact .inl h2
 ·exact .inr ⟨g, cap, cur, hv, by omega, r⟩
theorem addr_add (b off j : Nat) : Addr.add ⟨b, off, none⟩ j = ⟨b, off + j, none⟩ := by
 unfold Addr.add; split
 ·rename_i h0; subst h0; rfl
 ·rfl
theorem ownBlock_ge {w : World} {b : Nat} {e : TypeId} {size : Nat} {v : Value} {n : Nat} {xs : List Value} (h : w.ownsRow b e size v n xs) : ∀ k, v.ownBlock = some k → b ≤ k := by
 obtain ⟨h1, h2⟩ := h
 intro k hk
 rcases h2 with ⟨rfl, _⟩ | ⟨g, cap, cur, rfl, hg, r⟩
 ·cases hk
 ·simp only [Value.ownBlock, Option.some.injEq] at hk; omega
theorem cells1 {W : World} {g : Nat} {x : Value} {t : TypeId} (h : g = W.heap.size) : ∀ (j : Nat) u, [x][j]? = some u → (W.alloc (Obj.cells #[x] t)).cell? ⟨g, 0 + j, none⟩ = some u := by
 subst h
 intro j u hj
 rw [World.cell?_alloc_mark]
 match j, hj with
 | 0, hj => simpa using hj
theorem cells3 {W : World} {g : Nat} {x y z : Value} {t : TypeId} (h : g = W.heap.size) : ∀ (j : Nat) u, [x, y, z][j]? = some u → (W.alloc (.cells #[x, y, z] t)).cell? ⟨g, 0 + j, none⟩ = some u := by
 subst h
 intro j u hj
 rw [World.cell?_alloc_mark]
 match j, hj with
 | 0, hj => simpa using hj
 | 1, hj => simpa using hj
 | 2, hj => simpa using hj
theorem one1 {x : Value} (h : x.oneCell' = true) : ∀ u ∈ [x], u.oneCell' = true := by
 intro u hu
 simp only [List.mem_cons, List.not_mem_nil, or_false] at hu
 subst hu; exact h
end Go.Xo
namespace Go.Xe
open Go.RowKit Go.Xk
structure Pre (E : World → World → Prop) : Prop where
 refl : ∀ w, E w w
 trans : ∀ {a b c}, E a b → E b c → E a c
 ext : ∀ {a b}, Ext a b → E a b
 size : ∀ {a b}, E a b → a.heap.size ≤ b.heap.size
def law (E : World → World → Prop) (P : Program) (ops : Array Oper) (w0 : World) (O : Nat → Option Nat) (Ψ : Ps) (Q : Act → World → Prop) : Law := ⟨True, P, ops, w0, O, Ψ, E w0, fun _ => E w0, E w0, fun _ => E, fun _ _ _ => False, Q⟩
def wpRel (E : World → World → Prop) (P : Program) (ops : Array Oper) (w0 : World) (O : Nat → Option Nat) (Ψ : List (Nat × Fct)) (Q : Act → World → Prop) : List Oper → Nat → Act → Facts → Made → Prop := (law E P ops w0 O (cst Ψ) Q).rel
theorem law_region {E : World → World → Prop} (hE : Pre E) {P : Program} {id : Nat} {Q : Exit → Act → World → Prop} {a : Act} {w : World} {l : List Oper} (n : Nat) (O : Nat → Option Nat) (hO : ∀ i b, O i = some b → b < w.heap.size) (hOO : ∀ i j b, i ≠ j → O i = some b → O j ≠ some b) (Ψ : Ps) (hm : P.follows .mixedOrders = true) (hB : relOk l.toArray n = true)
  (hst : ∀ i φ, lookP Ψ i = some φ → ∀ ls v w w', E w w' → φ ls v w → φ ls v w')
  (h : (law E P l.toArray w.drew O Ψ (fun a' w' => wpList P l.toArray Q (l.drop n) a' w')).rel (l.take n) 0 a [] []) : (Code.region id l.toArray true).wp P Q a w :=
 region_of (Y := law E P l.toArray w.drew O Ψ fun a' w' => wpList P l.toArray Q (l.drop n) a' w')
  (ok_rel hE.refl (fun _ _ _ => hE.trans) (fun _ _ => hE.size) rfl rfl rfl rfl (fun i b h => by simpa [law] using hO i b h) hOO hst)
  hm (relOk_spec hB) rfl (fun _ _ _ _ _ h => h.elim) (fun _ _ => tail_seq hB) (by simpa [law] using h)
theorem wp_region_rel {E : World → World → Prop} (hE : Pre E) {P : Program} {id : Nat} {Q : Exit → Act → World → Prop} {a : Act} {w : World} {l : List Oper} (n : Nat) (O : Nat → Option Nat) (hO : ∀ i b, O i = some b → b < w.heap.size) (hOO : ∀ i j b, i ≠ j → O i = some b → O j ≠ some b) (Ψ : List (Nat × (Value → World → Prop))) (hm : P.follows .mixedOrders = true) (hB : relOk l.toArray n = true)
  (hst : ∀ i φ, tells Ψ i = some φ → ∀ v w w', E w w' → φ v w → φ v w')
  (h : wpRel E P l.toArray w.drew O Ψ (fun a' w' => wpList P l.toArray Q (l.drop n) a' w') (l.take n) 0 a [] []) : (Code.region id l.toArray true).wp P Q a w :=
 law_region hE n O hO hOO (cst Ψ) hm hB (fun i φ h => by
  rw [look_cst] at h
  cases ht : tells Ψ i with
  | none => rw [ht] at h; cases h
  | some ψ => rw [ht] at h; cases h; exact fun _ => hst i ψ ht) h
attribute [irreducible] wpRel
end Go.Xe
namespace Go.Xo
open Go.RowKit Go.Xk
theorem run_app {P : Program} (w : World) (base : Nat) (t ty e : TypeId) (i : TypeInfo) (z : Value) (size bytes : Nat) (ht : P.underlying t = some (.slice e)) (hi : P.info? e = some i) (hz : i.zero = some z)
  (hsize : i.size = size) (hby : i.bytes = bytes) (hzs : z.cells.size = size) (hsz : 0 < size)
  (v : Value) (n : Nat) (xs : List Value) (hown : w.ownsRow base e size v n xs)
  (a : Addr) (m c : Nat) (news : List Value) (hm : 0 < m) (hl : news.length = m * size) (hnews : ∀ j u, news[j]? = some u → w.cell? (a.add j) = some u) (h1 : ∀ u ∈ news, u.oneCell' = true)
  (hb : n ≤ 4000000 ∧ m ≤ 4000000 ∧ bytes ≤ 1000) (hbase : base ≤ w.heap.size) :
  ∃ v' w', (Builtin.append_ #[t, t] ty #[v, .slice (some a) m c]).run P w = .ok v' w' ∧ w'.ownsRow base e size v' (n + m) (xs ++ news) ∧
   ((∃ g cap, v = .slice (some ⟨g, 0, none⟩) n cap ∧ v' = .slice (some ⟨g, 0, none⟩) (n + m) cap ∧ w.grownBy w' (some g)) ∨ (w.grownBy w' none ∧ ∃ b, w.heap.size ≤ b ∧ v'.ownBlock = some b)) := by
 have h63 : n + m ≤ maxLen := by unfold maxLen; omega
 have hbytes : (n + m) * bytes ≤ 140737488355328 := by
  have : (n + m) * bytes ≤ 8000000 * 1000 := Nat.mul_le_mul (by omega) hb.2.2
  omega
 have fresh : ∀ (v' : Value) (w' : World), w'.ownsRow w.heap.size e size v' (n + m) (xs ++ news) → ∃ b, w.heap.size ≤ b ∧ v'.ownBlock = some b := by
  intro v' w' ho
  rcases ho.2 with ⟨-, h0⟩ | ⟨g, cap, cur, rfl, hb, -⟩
  ·omega
  ·exact ⟨g, hb, rfl⟩
 rcases hown.2 with ⟨rfl, rfl⟩ | ⟨g, cap, cur, rfl, hb0, hg, hnc, hcm, hcs, htake⟩
 ·have hx0 : xs = [] := List.eq_nil_of_length_eq_zero (by simpa using hown.1)
  subst hx0
  obtain ⟨v', w', hrun, r1, r2, -⟩ := run_append_own (P := P) w w.heap.size t ty e i z size bytes ht hi hz hsize hby hzs hsz (.slice none 0 0) 0 [] (World.ownsRow_nil w _ e size) a m c news hl hnews h1 h63 hbytes (Nat.le_refl _)
  exact ⟨v', w', hrun, own_le r1 hbase, .inr ⟨r2, fresh v' w' r1⟩⟩
 ·by_cases hr : n + m ≤ cap
  ·obtain ⟨w', hrun, r1, r2⟩ := run_append_fits (P := P) w base t ty e i size ht hi hsize g n cap xs hown a m c news hl hnews h1 hr
   exact ⟨_, w', hrun, r1, .inl ⟨g, cap, rfl, rfl, r2⟩⟩
  ·obtain ⟨v', w', hrun, r1, r2⟩ := run_append_arg_grows (P := P) w t ty e i z size bytes ht hi hz hsize hby hzs hsz ⟨g, 0, none⟩ n cap xs hown.1 (fun j u hj => hown.cells rfl j u hj) a m c news hl hnews (by omega) h63 hbytes
   exact ⟨v', w', hrun, own_le r1 hbase, .inr ⟨r2, fresh v' w' r1⟩⟩
end Go.Xo
namespace Go.Xe
open Go.RowKit Go.Xk
abbrev Specs := List (Nat × (Option Obj → Prop))
def ES (ks : Specs) (w w' : World) : Prop := w'.os = w.os ∧ w'.tape = w.tape ∧ w'.output = w.output ∧ w.heap.size ≤ w'.heap.size ∧ ∀ b, b < w.heap.size → w'.heap[b]? = w.heap[b]? ∨ ∃ k ∈ ks, k.1 = b ∧ k.2 w'.heap[b]?
theorem pre_ES (ks : Specs) : Pre (ES ks) := by
 refine ⟨fun w => ⟨rfl, rfl, rfl, Nat.le_refl _, fun b _ => .inl rfl⟩, ?_, ?_, fun h => h.2.2.2.1⟩
 ·rintro a b c ⟨h1, h2, h3, h4, h5⟩ ⟨g1, g2, g3, g4, g5⟩
  refine ⟨g1.trans h1, g2.trans h2, g3.trans h3, Nat.le_trans h4 g4, fun x hx => ?_⟩
  rcases g5 x (Nat.lt_of_lt_of_le hx h4) with e | e
  ·rw [e]; exact h5 x hx
  ·exact .inr e
 ·intro a b h
  exact ⟨h.os, h.tape, h.output, h.size, fun x hx => .inl (h.block x hx)⟩
theorem ES.block {ks : Specs} {w w' : World} (h : ES ks w w') {b : Nat} (hb : b < w.heap.size) (hn : ∀ k ∈ ks, k.1 ≠ b) : w'.heap[b]? = w.heap[b]? := by
 rcases h.2.2.2.2 b hb with e | ⟨k, hk, e, -⟩
 ·exact e
 ·exact absurd e (hn k hk)
theorem ES.cell {ks : Specs} {w w' : World} (h : ES ks w w') {b o : Nat} {v : Value} (hc : w.cell? ⟨b, o, none⟩ = some v) (hn : ∀ k ∈ ks, k.1 ≠ b) : w'.cell? ⟨b, o, none⟩ = some v :=
 (World.cell?_of_block (a := ⟨b, o, none⟩) (h.block (World.block_lt_of_cell? _ _ hc) hn)).trans hc
def specOf (e : TypeId) (size n : Nat) (xs : List Value) : Value → Specs
 | .slice (some a) _ cap => [(a.block, fun o => ∃ cur, o = some (.cells cur e (0, 0)) ∧ cap ≤ maxLen ∧ cur.size = cap * size ∧ cur.toList.take (n * size) = xs)]
 | _ => []
theorem specOf_block {e : TypeId} {size n : Nat} {xs : List Value} {v : Value} {k : Nat × (Option Obj → Prop)} (h : k ∈ specOf e size n xs v) : v.ownBlock = some k.1 := by
 unfold specOf at h
 split at h
 ·simp only [List.mem_cons, List.not_mem_nil, or_false] at h
  subst h; rfl
 ·cases h
theorem ES.own {ks : Specs} {w w' : World} {B : Nat} {e : TypeId} {size n m : Nat} {v : Value} {xs news : List Value} (h : ES ks w w') (ho : w.ownsRow B e size v n xs) (hk : ∀ k ∈ ks, v.ownBlock = some k.1 → k ∈ specOf e size (n + m) (xs ++ news) v) : w'.ownsRow B e size v n xs := by
 obtain ⟨h1, h2⟩ := ho
 refine ⟨h1, ?_⟩
 rcases h2 with h2 | ⟨g, cap, cur, rfl, hb, hg, hnc, hcm, hcs, htake⟩
 ·exact .inl h2
 ·rcases h.2.2.2.2 g (Array.getElem?_eq_some_iff.1 hg).1 with e1 | ⟨k, hk', e1, e2⟩
  ·exact .inr ⟨g, cap, cur, rfl, hb, by rw [e1]; exact hg, hnc, hcm, hcs, htake⟩
  ·have hs := hk k hk' (by rw [e1]; rfl)
   simp only [specOf, List.mem_cons, List.not_mem_nil, or_false] at hs
   subst hs
   obtain ⟨cur', c1, -, c2, c3⟩ := e2
   refine .inr ⟨g, cap, cur', rfl, hb, c1, hnc, hcm, c2, ?_⟩
   have h3 : n * size ≤ (n + m) * size := Nat.mul_le_mul_right _ (by omega)
   have h4 : cur'.toList.take (n * size) = (cur'.toList.take ((n + m) * size)).take (n * size) := by rw [List.take_take, Nat.min_eq_left h3]
   rw [h4, c3, ← h1, List.take_left]
def appFact (B : Nat) (e : TypeId) (size B0 : Nat) (v : Value) (n m : Nat) (xs : List Value) (v' : Value) (w : World) : Prop :=
 w.ownsRow B e size v' (n + m) xs ∧ ((∃ g cap, v = .slice (some ⟨g, 0, none⟩) n cap ∧ v' = .slice (some ⟨g, 0, none⟩) (n + m) cap) ∨ ∃ b, B0 ≤ b ∧ v'.ownBlock = some b)
theorem appFact.es {ks : Specs} {B : Nat} {e : TypeId} {size B0 n m : Nat} {v : Value} {xs : List Value} (hk : ∀ k ∈ ks, v.ownBlock = some k.1 → k ∈ specOf e size (n + m) xs v) (hB : ∀ k ∈ ks, k.1 < B0) :
  ∀ v' w w', ES ks w w' → appFact B e size B0 v n m xs v' w → appFact B e size B0 v n m xs v' w' := by
 rintro v' w w' h ⟨ho, hv⟩
 refine ⟨?_, hv⟩
 rcases hv with ⟨g, cap, rfl, rfl⟩ | ⟨b, hb, e1⟩
 ·obtain ⟨h1, h2⟩ := ho
  refine ⟨h1, ?_⟩
  rcases h2 with ⟨h2, -⟩ | ⟨g', cap', cur, hv, hb, hg, hnc, hcm, hcs, htake⟩
  ·simp at h2
  ·simp only [Value.slice.injEq, Option.some.injEq, Addr.mk.injEq, and_true, true_and] at hv
   obtain ⟨rfl, rfl⟩ := hv
   rcases h.2.2.2.2 g (Array.getElem?_eq_some_iff.1 hg).1 with e1 | ⟨k, hk', e1, e2⟩
   ·exact .inr ⟨g, cap, cur, rfl, hb, by rw [e1]; exact hg, hnc, hcm, hcs, htake⟩
   ·have hs := hk k hk' (by rw [e1]; rfl)
    simp only [specOf, List.mem_cons, List.not_mem_nil, or_false] at hs
    subst hs
    obtain ⟨cur', c1, -, c2, c3⟩ := e2
    exact .inr ⟨g, cap, cur', rfl, hb, c1, hnc, hcm, c2, c3⟩
 ·obtain ⟨h1, h2⟩ := ho
  refine ⟨h1, ?_⟩
  rcases h2 with ⟨rfl, -⟩ | ⟨g', cap', cur, rfl, hb', hg, r⟩
  ·cases e1
  ·cases e1
   exact .inr ⟨g', cap', cur, rfl, hb', by rw [h.block (Array.getElem?_eq_some_iff.1 hg).1 fun k hk' e2 => by have := hB k hk'; simp only at hb; omega]; exact hg, r⟩
def newFact (B0 : Nat) (x : Value) (v : Value) (w : World) : Prop := ∃ g, v = .slice (some ⟨g, 0, none⟩) 1 1 ∧ B0 ≤ g ∧ w.cell? ⟨g, 0, none⟩ = some x
theorem newFact.es {ks : Specs} {B0 : Nat} {x : Value} (hB : ∀ k ∈ ks, k.1 < B0) : ∀ v w w', ES ks w w' → newFact B0 x v w → newFact B0 x v w' := by
 rintro v w w' h ⟨g, rfl, hg, hc⟩
 exact ⟨g, rfl, hg, h.cell hc fun k hk e => by have := hB k hk; omega⟩
section
variable {E : World → World → Prop} {P : Program} {ops : Array Oper} {w0 : World} {O : Nat → Option Nat} {Ψ : List (Nat × (Value → World → Prop))} {Q : Act → World → Prop} {o : Oper} {r : List Oper} {i : Nat} {a : Act} {F : Facts} {G : Made}
theorem rel_skip (hw : Region.wanted o (yielded ops a.tmps) = false) (h : ∀ K : Act → Prop, (∀ a, wpRel E P ops w0 O Ψ Q r (i + 1) a F G → K a) → K (a.put o.dst undef)) : wpRel E P ops w0 O Ψ Q (o :: r) i a F G := by
 unfold wpRel at *
 exact Law.skip hw (h _ fun _ h => h)
def newPost (E : World → World → Prop) (w : World) (old : Option Nat) (φ : Value → World → Prop) (u : Value) (w2 : World) : Prop := E w w2 ∧ φ u w2 ∧ blockOk w w2 old u
def callPost (w : World) (old : Option Nat) (φ : Value → World → Prop) (e : Ending) (w2 : World) : Prop := ∃ v, e = .returned v ∧ Ext w w2 ∧ φ v w2 ∧ blockOk w w2 old v
def makeRun (E : World → World → Prop) (P : Program) (o : Oper) (a : Act) (w : World) (old : Option Nat) (φ : Value → World → Prop) : Prop :=
 match (execOp a.eval o).run P w with
 | .ok (.value u) w' => newPost E w old φ u w'
 | .ok .skip w' => newPost E w old φ undef w'
 | .ok (.enter f args) w' => w' = w ∧ Calls P f args w (callPost w old φ)
 | _ => False
attribute [go_sem] makeRun
theorem rel_det (hE : Pre E) (hw : Region.wanted o (yielded ops a.tmps) = true) (ht : tells Ψ i = none)
  (h : ∀ K : Act → Prop, (∀ a, wpRel E P ops w0 O Ψ Q r (i + 1) a F G → K a) → ∃ v, (∀ w', E w0 w' → factsAnc (ancOf ops i) F w' → Xk.detRun P o a w' v) ∧ K (a.put o.dst v)) : wpRel E P ops w0 O Ψ Q (o :: r) i a F G := by
 obtain ⟨v, h1, h2⟩ := h _ fun _ h => h
 unfold wpRel at *
 exact Law.det hw (look_none ht) hE.ext h1 h2
theorem makeAt_of {E J : World → World → Prop} (hE : ∀ {a b}, E a b → J a b) (hJ : ∀ {a b}, Ext a b → J a b) {B : Prop} {X : List PanicEntry → World → Prop} {w : World} {old : Option Nat} {φ : Fct} (h : makeRun E P o a w old φ) : makeUpon B J X P w old φ ((execOp a.eval o).run P w) := by
 unfold makeRun at h
 generalize (execOp a.eval o).run P w = q at h
 cases q with
 | ok x w' =>
  cases x <;> simp only [newPost, callPost] at h <;> simp only [makeUpon]
  case value => exact ⟨hE h.1, h.2.1, fun _ => h.2.2⟩
  case skip => exact ⟨hE h.1, h.2.1, fun _ => h.2.2⟩
  case enter => exact ⟨h.1, h.2.mono fun e w2 ⟨v, h1, h2, h3, h4⟩ => .inl ⟨v, h1, hJ h2, h3, fun _ => h4⟩⟩
 | halt x w' => simp only at h
theorem rel_make (hE : Pre E) {φ : Value → World → Prop} (hw : Region.wanted o (yielded ops a.tmps) = true) (ht : tells Ψ i = some φ)
  (h : ∀ w', E w0 w' → factsAnc (ancOf ops i) F w' → makeRun E P o a w' (O i) φ)
  (hn : ∀ v, ∀ K : Act → Prop, (∀ a, wpRel E P ops w0 O Ψ Q r (i + 1) a ((i, φ v) :: F) ((i, v) :: G) → K a) → K (a.put o.dst v)) : wpRel E P ops w0 O Ψ Q (o :: r) i a F G := by
 unfold wpRel at *
 exact Law.make hw (look_some ht) (fun w' hx hf => makeAt_of (fun h => h) hE.ext (h w' hx hf)) fun v => hn v _ fun _ h => h
theorem rel_nil (h : ∀ w', E w0 w' → factsAll F w' → apart G → Q a w') : wpRel E P ops w0 O Ψ Q [] i a F G := by
 unfold wpRel; exact fun w hz hf hb => h w hz hf (hb trivial)
theorem make_app {ks : Specs} {w : World} {old : Option Nat} (B0 base : Nat) (s x : Operand) (t : TypeId) (ho : o.op = .call { callee := .builtin .append, args := #[s, x], argTypes := #[t, t] })
  (e : TypeId) (ti : TypeInfo) (z : Value) (size bytes : Nat) (ht : P.underlying t = some (.slice e)) (hi : P.info? e = some ti) (hz : ti.zero = some z)
  (hsize : ti.size = size) (hby : ti.bytes = bytes) (hzs : z.cells.size = size) (hsz : 0 < size)
  (v : Value) (n : Nat) (xs : List Value) (hs : a.eval s = v) (hown : w.ownsRow base e size v n xs)
  (ad : Addr) (m c : Nat) (news : List Value) (hx : a.eval x = .slice (some ad) m c) (hm : 0 < m) (hl : news.length = m * size) (hnews : ∀ j u, news[j]? = some u → w.cell? (ad.add j) = some u) (h1 : ∀ u ∈ news, u.oneCell' = true)
  (hb : n ≤ 4000000 ∧ m ≤ 4000000 ∧ bytes ≤ 1000) (hbase : base ≤ w.heap.size) (hB : B0 ≤ w.heap.size) (hk : ∀ k ∈ specOf e size (n + m) (xs ++ news) v, k ∈ ks) (hold : old = v.ownBlock) : makeRun (ES ks) P o a w old (appFact base e size B0 v n m (xs ++ news)) := by
 obtain ⟨v', w', hrun, r1, r2⟩ := Xo.run_app (P := P) w base t o.type e ti z size bytes ht hi hz hsize hby hzs hsz v n xs hown ad m c news hm hl hnews h1 hb hbase
 unfold makeRun
 simp [execOp, ho, resolve, invoke, builtin, hs, hx, hrun, Result.andThen]
 rcases r2 with ⟨g, cap, rfl, rfl, hg⟩ | ⟨hg, b, hb', e1⟩
 ·refine ⟨⟨hg.os, hg.tape, hg.output, hg.size, fun y hy => ?_⟩, ⟨r1, .inl ⟨g, cap, rfl, rfl⟩⟩, fun b hb => ⟨.inl (by rw [hold, ← hb]; rfl), (r1.lt b hb).2⟩⟩
  by_cases hyg : y = g
  ·subst hyg
   refine .inr ⟨_, hk _ (by unfold specOf; exact List.mem_cons_self ..), rfl, ?_⟩
   rcases r1.2 with ⟨h2, -⟩ | ⟨g', cap', cur, hv, hb2, hg2, hnc, hcm, hcs, htake⟩
   ·simp at h2
   ·simp only [Value.slice.injEq, Option.some.injEq, Addr.mk.injEq, and_true, true_and] at hv
    obtain ⟨rfl, rfl⟩ := hv
    exact ⟨cur, hg2, hcm, hcs, htake⟩
  ·exact .inl (hg.block y hy fun e => hyg (by simpa using e))
 ·exact ⟨⟨hg.os, hg.tape, hg.output, hg.size, fun y hy => .inl (hg.block y hy (by simp))⟩, ⟨r1, .inr ⟨b, by omega, e1⟩⟩, fun c hc => ⟨.inr (by rw [e1] at hc; cases hc; exact hb'), (r1.lt c hc).2⟩⟩
end
def blockFact (b : Nat) (o : Obj) (v : Value) (w : World) : Prop := w.heap[b]? = some o
theorem blockFact.es {ks : Specs} {b : Nat} {o : Obj} (hk : ∀ k ∈ ks, k.1 = b → k.2 = fun x => x = some o) : ∀ v w w', ES ks w w' → blockFact b o v w → blockFact b o v w' := by
 intro v w w' h hb
 rcases h.2.2.2.2 b (Array.getElem?_eq_some_iff.1 hb).1 with e | ⟨k, h1, h2, h3⟩
 ·exact e.trans hb
 ·rw [hk k h1 h2] at h3; exact h3
theorem cells_of3 {W : World} {b : Nat} {a0 a1 a2 : Value} {t : TypeId} (h : W.heap[b]? = some (.cells #[a0, a1, a2] t (0, 0))) :
  W.cell? ⟨b, 0, none⟩ = some a0 ∧ W.cell? ⟨b, 1, none⟩ = some a1 ∧ W.cell? ⟨b, 2, none⟩ = some a2 ∧ W.frozen? ⟨b, 0, none⟩ = false ∧ W.frozen? ⟨b, 1, none⟩ = false ∧ W.frozen? ⟨b, 2, none⟩ = false := by
 refine ⟨by simp [World.cell?, h], by simp [World.cell?, h], by simp [World.cell?, h], frozen_of_row W b 0 _ t h, frozen_of_row W b 1 _ t h, frozen_of_row W b 2 _ t h⟩
def O2 (i1 : Nat) (b1 : Option Nat) (i2 : Nat) (b2 : Option Nat) : Nat → Option Nat := fun i => if i = i1 then b1 else if i = i2 then b2 else none
theorem O2_lt {i1 i2 s : Nat} {b1 b2 : Option Nat} (h1 : ∀ b, b1 = some b → b < s) (h2 : ∀ b, b2 = some b → b < s) : ∀ i b, O2 i1 b1 i2 b2 i = some b → b < s := by
 intro i b h
 unfold O2 at h
 split at h
 ·exact h1 b h
 ·split at h
  ·exact h2 b h
  ·cases h
theorem O2_ne {i1 i2 : Nat} {b1 b2 : Option Nat} (h : ∀ b, b1 = some b → b2 ≠ some b) : ∀ i j b, i ≠ j → O2 i1 b1 i2 b2 i = some b → O2 i1 b1 i2 b2 j ≠ some b := by
 intro i j b hij h1 h2
 unfold O2 at h1 h2
 split at h1 <;> split at h2
 ·omega
 ·split at h2
  ·exact h b h1 h2
  ·cases h2
 ·split at h1
  ·exact h b h2 h1
  ·cases h1
 ·split at h1 <;> split at h2
  ·omega
  ·cases h2
  ·cases h1
  ·cases h1
theorem stable_es {ks : Specs} {Ψ : List (Nat × (Value → World → Prop))} (h : ∀ x ∈ Ψ, ∀ v w w', ES ks w w' → x.2 v w → x.2 v w') : ∀ i φ, tells Ψ i = some φ → ∀ v w w', ES ks w w' → φ v w → φ v w' := by
 induction Ψ with
 | nil => intro i φ ht; cases ht
 | cons x r ih =>
  intro i φ ht
  unfold tells at ht
  split at ht
  ·cases ht; exact h x (List.mem_cons_self ..)
  ·exact ih (fun y hy => h y (List.mem_cons_of_mem _ hy)) i φ ht
theorem facts_head {m i : Nat} {φ : World → Prop} {r : Facts} {w : World} (h : factsAnc m ((i, φ) :: r) w) (hm : m.testBit i = true) : φ w := by
 unfold factsAnc at h
 rw [if_pos hm] at h
 exact h.1
theorem facts_tail {m i : Nat} {φ : World → Prop} {r : Facts} {w : World} (h : factsAnc m ((i, φ) :: r) w) : factsAnc m r w := by
 unfold factsAnc at h
 split at h
 ·exact h.2
 ·exact h
end Go.Xe
namespace Go.Xg
open Go.RowKit
open Go.Xk hiding law wpRel makeRun newPost callPost rel_skip rel_det rel_make rel_nil
open Go.Xe (Pre)
def law (E : World → World → Prop) (X : List PanicEntry → World → Prop) (κ : Nat) (P : Program) (ops : Array Oper) (w0 : World) (O : Nat → Option Nat) (Ψ : List (Nat × Fct)) (Q : Act → World → Prop) : Law :=
 ⟨True, P, ops, w0, O, cst Ψ, E w0, fun i => if i = κ then Ext w0 else E w0, E w0, fun i a b => Ext a b ∨ (i = κ ∧ E a b), fun _ => X, Q⟩
def wpRel (E : World → World → Prop) (X : List PanicEntry → World → Prop) (κ : Nat) (P : Program) (ops : Array Oper) (w0 : World) (O : Nat → Option Nat) (Ψ : List (Nat × Fct)) (Q : Act → World → Prop) : List Oper → Nat → Act → Facts → Made → Prop := (law E X κ P ops w0 O Ψ Q).rel
theorem law_ok {E : World → World → Prop} (hE : Pre E) {X : List PanicEntry → World → Prop} {κ : Nat} {P : Program} {ops : Array Oper} {w : World} {n : Nat} {O : Nat → Option Nat} (hO : ∀ i b, O i = some b → b < w.heap.size) (hOO : ∀ i j b, i ≠ j → O i = some b → O j ≠ some b) {Ψ : List (Nat × Fct)}
  (hst : ∀ i φ, tells Ψ i = some φ → ∀ v w w', (if i = κ then Ext w w' else E w w') → φ v w → φ v w') (Q : Act → World → Prop) : (law E X κ P ops w.drew O Ψ Q).Ok n fun L w' => E w.drew w' ∧ (L κ = false → Ext w.drew w') := by
 have hJ : ∀ {i : Nat} {a b : World}, (law E X κ P ops w.drew O Ψ Q).J i a b → E a b := fun h => h.elim hE.ext And.right
 have hN : ∀ {i : Nat} {a b : World}, i ≠ κ → (law E X κ P ops w.drew O Ψ Q).J i a b → Ext a b := fun hi h => h.elim id fun h => absurd h.1 hi
 refine ⟨⟨hE.refl _, fun _ => Below.refl _ _⟩, fun L i a b _ h hL _ hj => ⟨hE.trans h.1 (hJ hj), fun hk => ?_⟩, fun _ _ h => h.1, fun L i a _ h hL _ => ?_, fun _ _ h _ => h.1, fun i _ => .inl fun a => .inl (Below.refl _ _), fun i a b h => hE.size (hJ h), fun _ _ h => hE.size h.1, fun i j φ hij ht ls v a b hj hf => ?_, fun i b h => by simpa [law] using hO i b h, hOO⟩
 ·by_cases hik : κ = i
  ·simp [hik] at hk
  ·exact Ext.trans (h.2 (by simpa [hik] using hk)) (hN (Ne.symm hik) hj)
 ·simp only [law]
  split
  ·rename_i e; subst e; exact h.2 hL
  ·exact h.1
 ·simp only [law, look_cst] at ht
  cases hψ : tells Ψ j with
  | none => rw [hψ] at ht; cases ht
  | some ψ =>
   rw [hψ] at ht; cases ht
   refine hst j ψ hψ v a b ?_ hf
   split
   ·rename_i e; exact hN (fun e' => hij (e'.trans e.symm)) hj
   ·exact hJ hj
theorem wp_region_rel {E : World → World → Prop} (hE : Pre E) (X : List PanicEntry → World → Prop) (κ : Nat) {P : Program} {id : Nat} {Q : Exit → Act → World → Prop} {a : Act} {w : World} {l : List Oper} (n : Nat) (O : Nat → Option Nat) (hO : ∀ i b, O i = some b → b < w.heap.size) (hOO : ∀ i j b, i ≠ j → O i = some b → O j ≠ some b) (Ψ : List (Nat × (Value → World → Prop))) (hm : P.follows .mixedOrders = true) (hB : relOk l.toArray n = true)
  (hst : ∀ i φ, tells Ψ i = some φ → ∀ v w w', (if i = κ then Ext w w' else E w w') → φ v w → φ v w') (hX : ∀ ch a' w', a'.defers = a.defers → X ch w' → Q (.panic ch) a' w')
  (h : wpRel E X κ P l.toArray w.drew O Ψ (fun a' w' => wpList P l.toArray Q (l.drop n) a' w') (l.take n) 0 a [] []) : (Code.region id l.toArray true).wp P Q a w :=
 region_of (law_ok hE hO hOO hst fun a' w' => wpList P l.toArray Q (l.drop n) a' w') hm (relOk_spec hB) rfl (fun _ => hX) (fun _ _ => tail_seq hB) (by simpa [law, wpRel] using h)
theorem stable_one {E : World → World → Prop} {κ : Nat} {Ψ : List (Nat × (Value → World → Prop))} (h : ∀ x ∈ Ψ, if x.1 = κ then ∀ v w w', Ext w w' → x.2 v w → x.2 v w' else ∀ v w w', E w w' → x.2 v w → x.2 v w') :
  ∀ i φ, tells Ψ i = some φ → ∀ v w w', (if i = κ then Ext w w' else E w w') → φ v w → φ v w' := by
 induction Ψ with
 | nil => intro i φ ht; cases ht
 | cons x r ih =>
  intro i φ ht v w w' he hf
  unfold tells at ht
  split at ht
  ·rename_i hi
   cases ht
   have := h x (List.mem_cons_self ..)
   subst hi
   by_cases hk : x.1 = κ
   ·rw [if_pos hk] at this he; exact this v w w' he hf
   ·rw [if_neg hk] at this he; exact this v w w' he hf
  ·exact ih (fun y hy => h y (List.mem_cons_of_mem _ hy)) i φ ht v w w' he hf
section
variable {E : World → World → Prop} {X : List PanicEntry → World → Prop} {κ : Nat} {P : Program} {ops : Array Oper} {w0 : World} {O : Nat → Option Nat} {Ψ : List (Nat × (Value → World → Prop))} {Q : Act → World → Prop} {o : Oper} {r : List Oper} {i : Nat} {a : Act} {F : Facts} {G : Made}
theorem rel_skip (hw : Region.wanted o (yielded ops a.tmps) = false) (h : ∀ K : Act → Prop, (∀ a, wpRel E X κ P ops w0 O Ψ Q r (i + 1) a F G → K a) → K (a.put o.dst undef)) : wpRel E X κ P ops w0 O Ψ Q (o :: r) i a F G :=
 Law.skip hw (h _ fun _ h => h)
theorem rel_det (hw : Region.wanted o (yielded ops a.tmps) = true) (ht : tells Ψ i = none)
  (h : ∀ K : Act → Prop, (∀ a, wpRel E X κ P ops w0 O Ψ Q r (i + 1) a F G → K a) → ∃ v, (∀ w', E w0 w' → factsAnc (ancOf ops i) F w' → Xk.detRun P o a w' v) ∧ K (a.put o.dst v)) : wpRel E X κ P ops w0 O Ψ Q (o :: r) i a F G := by
 obtain ⟨v, h1, h2⟩ := h _ fun _ h => h
 exact Law.det hw (look_none ht) .inl h1 h2
theorem rel_make {φ : Value → World → Prop} (hw : Region.wanted o (yielded ops a.tmps) = true) (ht : tells Ψ i = some φ) (hi : i ≠ κ)
  (h : ∀ w', E w0 w' → factsAnc (ancOf ops i) F w' → Xe.makeRun Ext P o a w' (O i) φ)
  (hn : ∀ v, ∀ K : Act → Prop, (∀ a, wpRel E X κ P ops w0 O Ψ Q r (i + 1) a ((i, φ v) :: F) ((i, v) :: G) → K a) → K (a.put o.dst v)) : wpRel E X κ P ops w0 O Ψ Q (o :: r) i a F G :=
 Law.make hw (look_some ht) (fun w' hx hf => Xe.makeAt_of .inl .inl (h w' (by simpa only [law, if_neg hi] using hx) hf)) fun v => hn v _ fun _ h => h
def loudPost (E : World → World → Prop) (X : List PanicEntry → World → Prop) (w : World) (old : Option Nat) (φ : Value → World → Prop) (e : Ending) (w2 : World) : Prop :=
 (∃ v, e = .returned v ∧ E w w2 ∧ φ v w2 ∧ blockOk w w2 old v) ∨ ∃ ch, e = .panicked ch ∧ X ch w2
def loudRun (E : World → World → Prop) (X : List PanicEntry → World → Prop) (P : Program) (o : Oper) (a : Act) (w : World) (old : Option Nat) (φ : Value → World → Prop) : Prop :=
 match (execOp a.eval o).run P w with
 | .ok (.enter f args) w' => w' = w ∧ Calls P f args w (loudPost E X w old φ)
 | _ => False
attribute [go_sem] loudRun
theorem loudAt_of {J : World → World → Prop} {B : Prop} {w : World} {old : Option Nat} {φ : Fct} (hJ : ∀ {a b}, E a b → J a b) (h : loudRun E X P o a w old φ) : makeUpon B J X P w old φ ((execOp a.eval o).run P w) := by
 unfold loudRun at h
 generalize (execOp a.eval o).run P w = q at h
 cases q with
 | ok x w' =>
  cases x <;> simp only [loudPost] at h <;> simp only [makeUpon]
  case enter => exact ⟨h.1, h.2.mono fun e w2 h => h.imp (fun ⟨v, h1, h2, h3, h4⟩ => ⟨v, h1, hJ h2, h3, fun _ => h4⟩) id⟩
 | halt x w' => simp only at h
theorem rel_loud {φ : Value → World → Prop} (hw : Region.wanted o (yielded ops a.tmps) = true) (ht : tells Ψ i = some φ) (hi : i = κ)
  (h : ∀ w', Ext w0 w' → factsAnc (ancOf ops i) F w' → loudRun E X P o a w' (O i) φ)
  (hn : ∀ v, ∀ K : Act → Prop, (∀ a, wpRel E X κ P ops w0 O Ψ Q r (i + 1) a ((i, φ v) :: F) ((i, v) :: G) → K a) → K (a.put o.dst v)) : wpRel E X κ P ops w0 O Ψ Q (o :: r) i a F G :=
 Law.make hw (look_some ht) (fun w' hx hf => loudAt_of (fun h => .inr ⟨hi, h⟩) (h w' (by simpa only [law, if_pos hi] using hx) hf)) fun v => hn v _ fun _ h => h
theorem rel_nil (h : ∀ w', E w0 w' → factsAll F w' → apart G → Q a w') : wpRel E X κ P ops w0 O Ψ Q [] i a F G := fun w hz hf hb => h w hz hf (hb trivial)
end
attribute [irreducible] wpRel
end Go.Xg
set_option maxRecDepth 100000
namespace Go.Proofs
open Go.Shelf
def Tryz.lays158_ren : Go.Shelf.Ren := ⟨fun | 158 => 42 | 165 => 112 | 166 => 113 | 167 => 114 | 169 => 115 | 230 => 116 | 203 => 117 | 240 => 188 | 241 => 189 | 197 => 190 | 118 => 191 | 168 => 192 | 270 => 193 | 262 => 194 | 276 => 246 | 277 => 247 | 260 => 248 | 242 => 249 | 313 => 250 | 278 => 274 | 274 => 275 | 275 => 276 | n => n, fun | 9 => 9 | 4 => 4 | 3 => 3 | 5 => 5 | 72 => 168 | 0 => 0 | 76 => 171 | 75 => 170 | 107 => 175 | 70 => 166 | 20 => 20 | 37 => 57 | 127 => 219 | 21 => 21 | 105 => 220 | 164 => 259 | 162 => 265 | 203 => 263 | 119 => 284 | 46 => 285 | 139 => 288 | 138 => 287 | 51 => 289 | 160 => 290 | 208 => 307 | 206 => 305 | 80 => 135 | n => n, fun | 13 => 0 | 3 => 2 | 4 => 3 | n => n⟩
theorem Tryz.lays158 : Go.Proofs.Lays.n158 Tryz.prog Tryz.lays158_ren := by repeat' first | kernel_rfl | decide | intro _ | constructor
theorem Tryz.Builder_Extra_158 : Builder.Extra Tryz.prog Tryz.lays158_ren := by repeat' first | kernel_rfl | decide | intro _ | constructor
open Go.RowKit in
theorem Tryz.strings_ToUpper_ascii (s : ByteArray) (w : World) (hs : s.size ≤ 140737488355328) (hascii : ∀ (j : Nat) (b : UInt8), s.data.toList[j]? = some b → b.toNat < 128) :
  Calls Tryz.prog 42 #[.string s] w fun e w' => e = .returned (.string ⟨(Lib.toUpperA s.data.toList).toArray⟩) ∧ Below w.heap.size w w' := Any.strings_ToUpper_ascii Tryz.lays158 Tryz.Builder_Extra_158 s w hs hascii
def Tryz.lays159_ren : Go.Shelf.Ren := ⟨fun | 159 => 218 | 165 => 112 | 166 => 113 | 167 => 114 | 169 => 115 | 230 => 116 | 204 => 262 | 240 => 188 | 241 => 189 | 197 => 190 | 118 => 191 | 168 => 192 | 270 => 193 | 262 => 194 | 276 => 246 | 277 => 247 | 260 => 248 | 242 => 249 | 313 => 250 | 278 => 274 | 274 => 275 | 275 => 276 | n => n, fun | 9 => 9 | 4 => 4 | 3 => 3 | 5 => 5 | 72 => 168 | 0 => 0 | 76 => 171 | 75 => 170 | 107 => 175 | 70 => 166 | 20 => 20 | 37 => 57 | 127 => 219 | 21 => 21 | 105 => 220 | 164 => 259 | 162 => 265 | 203 => 263 | 119 => 284 | 46 => 285 | 139 => 288 | 138 => 287 | 51 => 289 | 160 => 290 | 208 => 307 | 206 => 305 | 80 => 135 | n => n, fun | 13 => 0 | 3 => 2 | 4 => 3 | n => n⟩
theorem Tryz.lays159 : Go.Proofs.Lays.n159 Tryz.prog Tryz.lays159_ren := by repeat' first | kernel_rfl | decide | intro _ | constructor
theorem Tryz.Builder_Extra_159 : Builder.Extra Tryz.prog Tryz.lays159_ren := by repeat' first | kernel_rfl | decide | intro _ | constructor
open Go.RowKit in
theorem Tryz.strings_ToLower_ascii (s : ByteArray) (w : World) (hs : s.size ≤ 140737488355328) (hascii : ∀ (j : Nat) (b : UInt8), s.data.toList[j]? = some b → b.toNat < 128) :
  Calls Tryz.prog 218 #[.string s] w fun e w' => e = .returned (.string ⟨(Lib.toLowerA s.data.toList).toArray⟩) ∧ Below w.heap.size w w' := Any.strings_ToLower_ascii Tryz.lays159 Tryz.Builder_Extra_159 s w hs hascii
def Tryz.lays156_ren : Go.Shelf.Ren := ⟨fun | 156 => 158 | 165 => 112 | 166 => 113 | 169 => 115 | 240 => 188 | 241 => 189 | 276 => 246 | 277 => 247 | n => n, fun | 31 => 35 | 9 => 9 | 3 => 3 | 4 => 4 | 0 => 0 | 20 => 20 | 72 => 168 | 76 => 171 | 70 => 166 | 37 => 57 | 75 => 170 | 127 => 219 | 164 => 259 | 5 => 5 | 80 => 135 | n => n, fun | n => n⟩
theorem Tryz.lays156 : Go.Proofs.Lays.n156 Tryz.prog Tryz.lays156_ren := by repeat' first | kernel_rfl | decide | intro _ | constructor
theorem Tryz.Builder_Extra_156 : Builder.Extra Tryz.prog Tryz.lays156_ren := by repeat' first | kernel_rfl | decide | intro _ | constructor
open Go.RowKit in
theorem Tryz.strings_Join_none (a : Option Addr) (c : Nat) (sep : ByteArray) (w : World) :
  Calls Tryz.prog 158 #[.slice a 0 c, .string sep] w fun e w' => e = .returned (.string ⟨#[]⟩) ∧ w' = w := Any.strings_Join_none Tryz.lays156 Tryz.Builder_Extra_156 a c sep w
open Go.RowKit in
theorem Tryz.strings_Join (bk o c : Nat) (xs : List ByteArray) (sep : ByteArray) (w : World) (hcells : ∀ (j : Nat) x, xs[j]? = some x → w.cell? ⟨bk, o + j, none⟩ = some (.string x)) (hbk : bk < w.heap.size) (hN : xs.length ≤ 140737488355328) (hcap : xs.length ≤ c) (hlen : (Lib.join (xs.map (·.data.toList)) sep.data.toList).length ≤ 140737488355328) :
  Calls Tryz.prog 158 #[.slice (some ⟨bk, o, none⟩) xs.length c, .string sep] w fun e w' => e = .returned (.string ⟨(Lib.join (xs.map (·.data.toList)) sep.data.toList).toArray⟩) ∧ Below w.heap.size w w' := Any.strings_Join Tryz.lays156 Tryz.Builder_Extra_156 bk o c xs sep w hcells hbk hN hcap hlen
def Tryz.lays161_ren : Go.Shelf.Ren := ⟨fun | 161 => 174 | 231 => 219 | 227 => 220 | 233 => 221 | 235 => 222 | 228 => 263 | 197 => 190 | 151 => 264 | 260 => 248 | 152 => 286 | 137 => 118 | 119 => 300 | 224 => 301 | 225 => 302 | 217 => 195 | 266 => 251 | n => n, fun | 9 => 9 | 4 => 4 | 3 => 3 | 5 => 5 | 117 => 245 | 116 => 244 | 0 => 0 | 124 => 248 | 105 => 220 | 21 => 21 | 119 => 284 | 46 => 285 | 139 => 288 | 138 => 287 | n => n, fun | 3 => 2 | 4 => 3 | n => n⟩
theorem Tryz.lays161 : Go.Proofs.Lays.n161 Tryz.prog Tryz.lays161_ren := by repeat' first | kernel_rfl | decide | intro _ | constructor
open Go.RowKit in
theorem Tryz.strings_TrimLeft_one (s : ByteArray) (c : UInt8) (hc : c.toNat < 128) (w : World) :
  Calls Tryz.prog 174 #[.string s, .string ⟨#[c]⟩] w fun e w' => e = .returned (.string ⟨(Lib.trimLeftB s.data.toList c).toArray⟩) ∧ w' = w := Any.strings_TrimLeft_one Tryz.lays161 s c hc w
def Tryz.lays137_ren : Go.Shelf.Ren := ⟨fun | 137 => 118 | 217 => 195 | 266 => 251 | n => n, fun | 9 => 9 | 5 => 5 | 3 => 3 | n => n, fun | n => n⟩
theorem Tryz.lays137 : Go.Proofs.Lays.n137 Tryz.prog Tryz.lays137_ren := by repeat' first | kernel_rfl | decide | intro _ | constructor
open Go.RowKit in
theorem Tryz.strings_IndexByte (s : ByteArray) (c : Int) (w : World) :
  Calls Tryz.prog 118 #[.string s, .int .u8 c] w fun e w' => e = .returned (.int .i64 (Lib.indexByte s.data.toList c.toNat.toUInt8)) ∧ w' = w := Any.strings_IndexByte Tryz.lays137 s c w
def Tryz.lays206_ren : Go.Shelf.Ren := ⟨fun | 206 => 217 | n => n, fun | 9 => 9 | 4 => 4 | 3 => 3 | n => n, fun | n => n⟩
def Tryz.lays99_ren : Go.Shelf.Ren := ⟨fun | 99 => 168 | 206 => 217 | n => n, fun | 9 => 9 | 4 => 4 | 3 => 3 | n => n, fun | n => n⟩
theorem Tryz.lays99 : Go.Proofs.Lays.n99 Tryz.prog Tryz.lays99_ren := by repeat' first | kernel_rfl | decide | intro _ | constructor
open Go.RowKit Go.Lib in
theorem Tryz.strings_HasPrefix (s p : ByteArray) (w : World) :
  Calls Tryz.prog 168 #[.string s, .string p] w fun e w' => e = .returned (.bool (Lib.hasPrefix s.data.toList p.data.toList)) ∧ w' = w := Any.strings_HasPrefix Tryz.lays99 s p w
def Tryz.lays107_ren : Go.Shelf.Ren := ⟨fun | 107 => 142 | 108 => 206 | n => n, fun | 28 => 98 | 3 => 3 | 4 => 4 | 0 => 0 | n => n, fun | n => n⟩
theorem Tryz.lays107 : Go.Proofs.Lays.n107 Tryz.prog Tryz.lays107_ren := by repeat' first | kernel_rfl | decide | intro _ | constructor
open Go.Lib in
theorem Tryz.slices_Contains_int (b off n c : Nat) (zs : List Int) (x : Int) (w : World) (hz : n ≤ zs.length) (hbig : n ≤ 9223372036854775807) (hc : ∀ j, j < zs.length → w.cell? ⟨b, off + j, none⟩ = some (.int .i64 (zs.getD j 0))) :
  Calls Tryz.prog 142 #[.slice (some ⟨b, off, none⟩) n c, .int .i64 x] w fun e w' => e = .returned (.bool ((zs.take n).contains x)) ∧ w' = w := Any.slices_Contains_int Tryz.lays107 b off n c zs x w hz hbig hc
def Tryz.lays110_ren : Go.Shelf.Ren := ⟨fun | 110 => 40 | 109 => 111 | n => n, fun | 31 => 35 | 9 => 9 | 4 => 4 | 3 => 3 | 0 => 0 | n => n, fun | n => n⟩
theorem Tryz.lays110 : Go.Proofs.Lays.n110 Tryz.prog Tryz.lays110_ren := by repeat' first | kernel_rfl | decide | intro _ | constructor
open Go.Lib in
theorem Tryz.slices_Contains_string (b off n c : Nat) (zs : List ByteArray) (x : ByteArray) (w : World) (hz : n ≤ zs.length) (hbig : n ≤ 9223372036854775807) (hc : ∀ j, j < zs.length → w.cell? ⟨b, off + j, none⟩ = some (.string (zs.getD j ByteArray.empty))) :
  Calls Tryz.prog 40 #[.slice (some ⟨b, off, none⟩) n c, .string x] w fun e w' => e = .returned (.bool (Lib.containsS (zs.take n) x)) ∧ w' = w := Any.slices_Contains_string Tryz.lays110 b off n c zs x w hz hbig hc
def Tryz.lays111_ren : Go.Shelf.Ren := ⟨fun | 111 => 110 | n => n, fun | 28 => 98 | 3 => 3 | 4 => 4 | 0 => 0 | n => n, fun | n => n⟩
theorem Tryz.lays111 : Go.Proofs.Lays.n111 Tryz.prog Tryz.lays111_ren := by repeat' first | kernel_rfl | decide | intro _ | constructor
open Go.RowKit Go.Lib in
theorem Tryz.slices_Equal_int (b1 o1 n c b2 o2 m d : Nat) (xs ys : List Int) (w : World) (hx : n ≤ xs.length) (hy : m ≤ ys.length) (hbig : n ≤ 9223372036854775807) (hbig2 : m ≤ 9223372036854775807) (hc1 : ∀ j, j < xs.length → w.cell? ⟨b1, o1 + j, none⟩ = some (.int .i64 (xs.getD j 0))) (hc2 : ∀ j, j < ys.length → w.cell? ⟨b2, o2 + j, none⟩ = some (.int .i64 (ys.getD j 0))) :
  Calls Tryz.prog 110 #[.slice (some ⟨b1, o1, none⟩) n c, .slice (some ⟨b2, o2, none⟩) m d] w fun e w' => e = .returned (.bool (xs.take n == ys.take m)) ∧ ∃ q, w' = w.drewN q := Any.slices_Equal_int Tryz.lays111 b1 o1 n c b2 o2 m d xs ys w hx hy hbig hbig2 hc1 hc2
open Go.RowKit Go.Lib in
theorem Tryz.slices_Equal_int_empty (a1 a2 : Option Addr) (c m d : Nat) (w : World) (hbig2 : m ≤ 9223372036854775807) :
  Calls Tryz.prog 110 #[.slice a1 0 c, .slice a2 m d] w fun e w' => e = .returned (.bool (decide (m = 0))) ∧ w' = w := Any.slices_Equal_int_empty Tryz.lays111 a1 a2 c m d w hbig2
def Tryz.laysNm215_ren : Go.Shelf.Ren := ⟨fun | 15 => 133 | n => n, fun | 22 => 98 | 3 => 3 | 4 => 4 | n => n, fun | n => n⟩
theorem Tryz.laysNm215 : Go.Proofs.Lays2.n15 Tryz.prog Tryz.laysNm215_ren := by repeat' first | kernel_rfl | decide | intro _ | constructor
open Go.RowKit Go.Lib in
theorem Tryz.slices_Clone_int (b off n c : Nat) (zs : List Int) (w : World) (hz : n ≤ zs.length) (hbig : n * 8 ≤ 140737488355328) (hc : ∀ j, j < zs.length → w.cell? ⟨b, off + j, none⟩ = some (.int .i64 (zs.getD j 0))) :
  Calls Tryz.prog 133 #[.slice (some ⟨b, off, none⟩) n c] w fun e w' => ∃ v', e = .returned v' ∧ w'.ownsRow w.heap.size 3 1 v' n ((zs.take n).map (Value.int .i64)) ∧ v' ≠ .slice none 0 0 ∧ Below w.heap.size w w' := Any.slices_Clone_int Tryz.laysNm215 b off n c zs w hz hbig hc
open Go.RowKit Go.Lib in
theorem Tryz.slices_Clone_int_nil (n c : Nat) (w : World) :
  Calls Tryz.prog 133 #[.slice none n c] w fun e w' => e = .returned (.slice none 0 0) ∧ w' = w := Any.slices_Clone_int_nil Tryz.laysNm215 n c w
end Go.Proofs
namespace Go.Xh
open Go.RowKit
open Go.Xk hiding law wpRel makeRun newPost callPost rel_skip rel_det rel_make rel_nil
open Go.Xe (Pre)
def law (E : World → World → Prop) (X : List PanicEntry → World → Prop) (κ μ : Nat) (S1 S2 : World → Prop) (P : Program) (ops : Array Oper) (w0 : World) (O : Nat → Option Nat) (Ψ : List (Nat × Fct)) (Q : Act → World → Prop) : Law :=
 ⟨True, P, ops, w0, O, cst Ψ, E w0, fun i w => if i = κ then Ext w0 w else E w0 w ∧ (i = μ → S1 w), fun w => E w0 w ∧ S2 w, fun i a b => (tells Ψ i = none ∧ Ext a b) ∨ if i = κ then E a b ∧ S1 b else if i = μ then E a b ∧ S2 b else Ext a b, fun _ => X, Q⟩
def wpRel (E : World → World → Prop) (X : List PanicEntry → World → Prop) (κ μ : Nat) (S1 S2 : World → Prop) (P : Program) (ops : Array Oper) (w0 : World) (O : Nat → Option Nat) (Ψ : List (Nat × Fct)) (Q : Act → World → Prop) : List Oper → Nat → Act → Facts → Made → Prop := (law E X κ μ S1 S2 P ops w0 O Ψ Q).rel
def twoOk (ops : Array Oper) (Ψ : List (Nat × (Value → World → Prop))) (κ μ n : Nat) : Prop :=
 κ ≠ μ ∧ κ < n ∧ μ < n ∧ (ancOf ops μ).testBit κ = true ∧ (∀ o, ops[κ]? = some o → o.guard = none) ∧ (∀ o, ops[μ]? = some o → o.guard = none) ∧ tells Ψ κ ≠ none ∧ tells Ψ μ ≠ none
theorem law_ok {E : World → World → Prop} (hE : Pre E) {X : List PanicEntry → World → Prop} {κ μ : Nat} {S1 S2 : World → Prop} {P : Program} {ops : Array Oper} {w : World} {n : Nat} {O : Nat → Option Nat} (hO : ∀ i b, O i = some b → b < w.heap.size) (hOO : ∀ i j b, i ≠ j → O i = some b → O j ≠ some b) {Ψ : List (Nat × Fct)}
  (hst : ∀ i φ, tells Ψ i = some φ → ∀ v w w', E w w' → φ v w → φ v w') (hS1 : ∀ w w', Ext w w' → S1 w → S1 w') (hS2 : ∀ w w', Ext w w' → S2 w → S2 w') (h2 : twoOk ops Ψ κ μ n) (Q : Act → World → Prop) :
  (law E X κ μ S1 S2 P ops w.drew O Ψ Q).Ok n fun L w' => E w.drew w' ∧ (L κ = false → Ext w.drew w') ∧ (L κ = true → L μ = false → S1 w') ∧ (L μ = true → S2 w' ∧ L κ = true) := by
 obtain ⟨hkm, hkn, hmn, hanc, hko, hmo, htk, htm⟩ := h2
 have hJ : ∀ {i : Nat} {a b : World}, (law E X κ μ S1 S2 P ops w.drew O Ψ Q).J i a b → E a b := fun {i a b} h => by
  rcases h with h | h
  ·exact hE.ext h.2
  ·split at h
   ·exact h.1
   ·split at h
    ·exact h.1
    ·exact hE.ext h
 refine ⟨⟨hE.refl _, fun _ => Below.refl _ _, fun h => (by cases h), fun h => (by cases h)⟩, fun L i a b _ h hL ha hj => ?_, fun _ _ h => h.1, fun L i a _ h hL ha => ?_, fun L _ h hf => ⟨h.1, (h.2.2.2 (hf μ hmn)).1⟩, fun i _ => ?_, fun i a b h => hE.size (hJ h), fun _ _ h => hE.size h.1, fun i j φ _ ht ls v a b hj hf => ?_, fun i b h => by simpa [law] using hO i b h, hOO⟩
 ·obtain ⟨h1, h2, h3, h4⟩ := h
  by_cases hk : i = κ
  ·subst hk
   have hs : E a b ∧ S1 b := by
    rcases hj with hj | hj
    ·exact absurd hj.1 htk
    ·rwa [if_pos rfl] at hj
   have hm : L μ = false := by
    cases hm : L μ with
    | false => rfl
    | true => rw [(h4 hm).2] at hL; cases hL
   refine ⟨hE.trans h1 hs.1, fun e => by simp at e, fun _ _ => hs.2, fun e => by simp [Ne.symm hkm, hm] at e⟩
  ·by_cases hu : i = μ
   ·subst hu
    have hs : E a b ∧ S2 b := by
     rcases hj with hj | hj
     ·exact absurd hj.1 htm
     ·rwa [if_neg hk, if_pos rfl] at hj
    have hL' : L κ = true := ha κ hkn hanc
    exact ⟨hE.trans h1 hs.1, fun e => by simp [hL'] at e, fun _ e => by simp at e, fun _ => ⟨hs.2, by simp [hL']⟩⟩
   ·have hx : Ext a b := by
     rcases hj with hj | hj
     ·exact hj.2
     ·rwa [if_neg hk, if_neg hu] at hj
    refine ⟨hE.trans h1 (hE.ext hx), fun e => ?_, fun e e' => ?_, fun e => ?_⟩
    ·exact Ext.trans (h2 (by simpa [Ne.symm hk] using e)) hx
    ·exact hS1 _ _ hx (h3 (by simpa [Ne.symm hk] using e) (by simpa [Ne.symm hu] using e'))
    ·have := h4 (by simpa [Ne.symm hu] using e)
     exact ⟨hS2 _ _ hx this.1, by simp [this.2]⟩
 ·obtain ⟨h1, h2, h3, h4⟩ := h
  simp only [law]
  split
  ·rename_i e; subst e; exact h2 hL
  ·exact ⟨h1, fun e => by subst e; exact h3 (ha κ hkn hanc) hL⟩
 ·by_cases hk : i = κ
  ·subst hk; exact .inr ⟨by simp [law, look_cst, htk], hko⟩
  ·by_cases hu : i = μ
   ·subst hu; exact .inr ⟨by simp [law, look_cst, htm], hmo⟩
   ·exact .inl fun a => .inr (by rw [if_neg hk, if_neg hu]; exact Below.refl _ _)
 ·simp only [law, look_cst] at ht
  cases hψ : tells Ψ j with
  | none => rw [hψ] at ht; cases ht
  | some ψ => rw [hψ] at ht; cases ht; exact hst j ψ hψ v a b (hJ hj) hf
theorem wp_region_rel {E : World → World → Prop} (hE : Pre E) (X : List PanicEntry → World → Prop) (κ μ : Nat) (S1 S2 : World → Prop) {P : Program} {id : Nat} {Q : Exit → Act → World → Prop} {a : Act} {w : World} {l : List Oper} (n : Nat) (O : Nat → Option Nat) (hO : ∀ i b, O i = some b → b < w.heap.size) (hOO : ∀ i j b, i ≠ j → O i = some b → O j ≠ some b) (Ψ : List (Nat × (Value → World → Prop))) (hm : P.follows .mixedOrders = true) (hB : relOk l.toArray n = true)
  (hst : ∀ i φ, tells Ψ i = some φ → ∀ v w w', E w w' → φ v w → φ v w') (hX : ∀ ch a' w', a'.defers = a.defers → X ch w' → Q (.panic ch) a' w')
  (hS1 : ∀ w w', Ext w w' → S1 w → S1 w') (hS2 : ∀ w w', Ext w w' → S2 w → S2 w') (h2 : twoOk l.toArray Ψ κ μ n)
  (h : wpRel E X κ μ S1 S2 P l.toArray w.drew O Ψ (fun a' w' => wpList P l.toArray Q (l.drop n) a' w') (l.take n) 0 a [] []) : (Code.region id l.toArray true).wp P Q a w :=
 region_of (law_ok hE hO hOO hst hS1 hS2 h2 fun a' w' => wpList P l.toArray Q (l.drop n) a' w') hm (relOk_spec hB) rfl (fun _ => hX) (fun _ _ => tail_seq hB) (by simpa [law, wpRel] using h)
theorem stable_one {E : World → World → Prop} {Ψ : List (Nat × (Value → World → Prop))} (h : ∀ x ∈ Ψ, ∀ v w w', E w w' → x.2 v w → x.2 v w') :
  ∀ i φ, tells Ψ i = some φ → ∀ v w w', E w w' → φ v w → φ v w' := by
 induction Ψ with
 | nil => intro i φ ht; cases ht
 | cons x r ih =>
  intro i φ ht v w w' he hf
  unfold tells at ht
  split at ht
  ·cases ht
   exact h x (List.mem_cons_self ..) v w w' he hf
  ·exact ih (fun y hy => h y (List.mem_cons_of_mem _ hy)) i φ ht v w w' he hf
section
variable {E : World → World → Prop} {X : List PanicEntry → World → Prop} {κ μ : Nat} {S1 S2 : World → Prop} {P : Program} {ops : Array Oper} {w0 : World} {O : Nat → Option Nat} {Ψ : List (Nat × (Value → World → Prop))} {Q : Act → World → Prop} {o : Oper} {r : List Oper} {i : Nat} {a : Act} {F : Facts} {G : Made}
theorem rel_skip (hw : Region.wanted o (yielded ops a.tmps) = false) (h : ∀ K : Act → Prop, (∀ a, wpRel E X κ μ S1 S2 P ops w0 O Ψ Q r (i + 1) a F G → K a) → K (a.put o.dst undef)) : wpRel E X κ μ S1 S2 P ops w0 O Ψ Q (o :: r) i a F G :=
 Law.skip hw (h _ fun _ h => h)
theorem rel_det (hw : Region.wanted o (yielded ops a.tmps) = true) (ht : tells Ψ i = none)
  (h : ∀ K : Act → Prop, (∀ a, wpRel E X κ μ S1 S2 P ops w0 O Ψ Q r (i + 1) a F G → K a) → ∃ v, (∀ w', E w0 w' → factsAnc (ancOf ops i) F w' → Xk.detRun P o a w' v) ∧ K (a.put o.dst v)) : wpRel E X κ μ S1 S2 P ops w0 O Ψ Q (o :: r) i a F G := by
 obtain ⟨v, h1, h2⟩ := h _ fun _ h => h
 exact Law.det hw (look_none ht) (fun h => .inl ⟨ht, h⟩) h1 h2
theorem rel_make {φ : Value → World → Prop} (hw : Region.wanted o (yielded ops a.tmps) = true) (ht : tells Ψ i = some φ) (hi : i ≠ κ ∧ i ≠ μ)
  (h : ∀ w', E w0 w' → factsAnc (ancOf ops i) F w' → Xe.makeRun Ext P o a w' (O i) φ)
  (hn : ∀ v, ∀ K : Act → Prop, (∀ a, wpRel E X κ μ S1 S2 P ops w0 O Ψ Q r (i + 1) a ((i, φ v) :: F) ((i, v) :: G) → K a) → K (a.put o.dst v)) : wpRel E X κ μ S1 S2 P ops w0 O Ψ Q (o :: r) i a F G :=
 have hj : ∀ {a b}, Ext a b → (law E X κ μ S1 S2 P ops w0 O Ψ Q).J i a b := fun h => .inr (by rw [if_neg hi.1, if_neg hi.2]; exact h)
 Law.make hw (look_some ht) (fun w' hx hf => Xe.makeAt_of hj hj (h w' (by simp only [law, if_neg hi.1] at hx; exact hx.1) hf)) fun v => hn v _ fun _ h => h
def loudPost (E : World → World → Prop) (X : List PanicEntry → World → Prop) (S : World → Prop) (w : World) (old : Option Nat) (φ : Value → World → Prop) (e : Ending) (w2 : World) : Prop :=
 (∃ v, e = .returned v ∧ E w w2 ∧ S w2 ∧ φ v w2 ∧ blockOk w w2 old v) ∨ ∃ ch, e = .panicked ch ∧ X ch w2
def loudRun (E : World → World → Prop) (X : List PanicEntry → World → Prop) (S : World → Prop) (P : Program) (o : Oper) (a : Act) (w : World) (old : Option Nat) (φ : Value → World → Prop) : Prop :=
 match (execOp a.eval o).run P w with
 | .ok (.enter f args) w' => w' = w ∧ Calls P f args w (loudPost E X S w old φ)
 | _ => False
attribute [go_sem] loudRun
theorem loudAt_of {J : World → World → Prop} {B : Prop} {S : World → Prop} {w : World} {old : Option Nat} {φ : Fct} (hJ : ∀ {a b}, E a b → S b → J a b) (h : loudRun E X S P o a w old φ) : makeUpon B J X P w old φ ((execOp a.eval o).run P w) := by
 unfold loudRun at h
 generalize (execOp a.eval o).run P w = q at h
 cases q with
 | ok x w' =>
  cases x <;> simp only [loudPost] at h <;> simp only [makeUpon]
  case enter => exact ⟨h.1, h.2.mono fun e w2 h => h.imp (fun ⟨v, h1, h2, hs, h3, h4⟩ => ⟨v, h1, hJ h2 hs, h3, fun _ => h4⟩) id⟩
 | halt x w' => simp only at h
theorem rel_nil (h : ∀ w', E w0 w' → S2 w' → factsAll F w' → apart G → Q a w') : wpRel E X κ μ S1 S2 P ops w0 O Ψ Q [] i a F G := fun w hz hf hb => h w hz.1 hz.2 hf (hb trivial)
end
attribute [irreducible] wpRel
end Go.Xh
namespace Go.Xe
open Go.RowKit
open Go.Xk
def newRow (B0 : Nat) (l : List Value) (e : TypeId) (v : Value) (w : World) : Prop := ∃ g, v = .slice (some ⟨g, 0, none⟩) 1 1 ∧ B0 ≤ g ∧ w.heap[g]? = some (.cells l.toArray e)
theorem newRow.es {ks : Specs} {B0 : Nat} {l : List Value} {e : TypeId} (hB : ∀ k ∈ ks, k.1 < B0) : ∀ v w w', ES ks w w' → newRow B0 l e v w → newRow B0 l e v w' := by
 rintro v w w' h ⟨g, rfl, hg, hc⟩
 exact ⟨g, rfl, hg, (h.block (Array.getElem?_eq_some_iff.1 hc).1 fun k hk e => by have := hB k hk; omega).trans hc⟩
theorem new_row {ks : Specs} {w : World} {old : Option Nat} (B0 : Nat) (l : List Value) (t : TypeId) (c : Array Value) (hc : c = l.toArray) (hB : B0 ≤ w.heap.size) : newPost (ES ks) w old (newRow B0 l t) (.slice (some ⟨w.heap.size, 0, none⟩) 1 1) (w.alloc (.cells c t)) := by
 subst hc
 exact ⟨(pre_ES ks).ext ((Below.refl _ _).alloc (Nat.le_refl _) _), ⟨w.heap.size, rfl, hB, by show (w.heap.push _)[w.heap.size]? = _; simp⟩, fun b hb => by cases hb; exact ⟨.inr (Nat.le_refl _), by simp⟩⟩
def appF (e : TypeId) (size B0 : Nat) (v : Value) (n : Nat) (xs news : List Value) : Value → World → Prop := appFact 0 e size B0 v n 1 (xs ++ news)
theorem make_app1 {P : Program} {o : Oper} {a : Act} {ks : Specs} {w : World} {old : Option Nat} (B0 : Nat) (s x : Operand) (t : TypeId) (ho : o.op = .call { callee := .builtin .append, args := #[s, x], argTypes := #[t, t] })
  (e : TypeId) (ti : TypeInfo) (z : Value) (size bytes : Nat) (ht : P.underlying t = some (.slice e)) (hi : P.info? e = some ti) (hz : ti.zero = some z)
  (hsize : ti.size = size) (hby : ti.bytes = bytes) (hzs : z.cells.size = size) (hsz : 0 < size)
  (v : Value) (n : Nat) (xs news : List Value) (hs : a.eval s = v) (hown : w.ownsRow 0 e size v n xs)
  (g c : Nat) (hx : a.eval x = .slice (some ⟨g, 0, none⟩) 1 c) (hl : news.length = size) {e' : TypeId} (hnews : w.heap[g]? = some (.cells news.toArray e')) (h1 : ∀ u ∈ news, u.oneCell' = true)
  (hb : n ≤ 4000000 ∧ bytes ≤ 1000) (hB : B0 ≤ w.heap.size) (hk : ∀ k ∈ specOf e size (n + 1) (xs ++ news) v, k ∈ ks) (hold : old = v.ownBlock) : makeRun (ES ks) P o a w old (appF e size B0 v n xs news) :=
 make_app B0 0 s x t ho e ti z size bytes ht hi hz hsize hby hzs hsz v n xs hs hown ⟨g, 0, none⟩ 1 c news hx (by decide) (by rw [hl, Nat.one_mul]) (fun j u hu => by
  rw [Go.Xo.addr_add, Nat.zero_add]
  unfold World.cell?
  rw [hnews]
  simpa using hu) h1 ⟨hb.1, by decide, hb.2⟩ (Nat.zero_le _) hB hk hold
theorem ES.grown {e : TypeId} {size n : Nat} {xs : List Value} {v : Value} {ks : Specs} {w w' : World} (h : ES ks w.drew w') (hk : ∀ k ∈ ks, v.ownBlock = some k.1 ∧ k.1 < w.heap.size) : w.grownBy w' v.ownBlock :=
 ⟨h.1, h.2.1, h.2.2.1, by have := h.2.2.2.1; simpa using this, fun b hb hn => (h.block (w := w.drew) (by simpa using hb) (fun k hk' e => hn (by rw [(hk k hk').1, e]))).trans rfl⟩
theorem appF.form {e : TypeId} {size B0 n : Nat} {v y : Value} {xs news : List Value} {w : World} (h : appF e size B0 v n xs news y w) : ∃ z cz, y = .slice (some ⟨z, 0, none⟩) (n + 1) cz ∧ w.ownsRow 0 e size (.slice (some ⟨z, 0, none⟩) (n + 1) cz) (n + 1) (xs ++ news) ∧ (v.ownBlock = some z ∨ B0 ≤ z) := by
 obtain ⟨h1, h2⟩ := h
 rcases h1.2 with ⟨rfl, h0⟩ | ⟨z, cz, cur, rfl, -⟩
 ·omega
 ·refine ⟨z, cz, rfl, h1, ?_⟩
  rcases h2 with ⟨g, cap, rfl, h3⟩ | ⟨b, hb, h3⟩
  ·cases h3; exact .inl rfl
  ·cases h3; exact .inr hb
end Go.Xe
namespace Go.Xk
open Go.RowKit
theorem run_bstr {P : Program} (w : World) (src dst e : TypeId) (hs : P.underlying src = some (.slice e)) (he : P.underlying e = some (.int .u8)) (hd : P.underlying dst = some .string) (b off len cap : Nat) (ns : List Int) (hl : ns.length = len)
  (hc : ∀ j, j < len → w.cell? ⟨b, off + j, none⟩ = some (.int .u8 (ns.getD j 0))) :
  (convert src dst (.slice (some ⟨b, off, none⟩) len cap)).run P w = .ok (.string ⟨(ns.map fun n => UInt8.ofNat n.toNat).toArray⟩) w := by
 subst hl
 rw [run_convert_bytes_string w src dst e _ _ _ hs he hd, run_bytesToString w _ _ _ ns, foldl_push_bytes]
 ·have e : (ByteArray.empty).data = #[] := rfl
  rw [e, Array.empty_append]
 ·have := run_loadCells_list (P := P) (w := w) ⟨b, off, none⟩ (ns.map (Value.int .u8)) (fun j v hj => by
   simp only [List.getElem?_map, Option.map_eq_some_iff] at hj
   obtain ⟨n, hn, rfl⟩ := hj
   have hlt : j < ns.length := (List.getElem?_eq_some_iff.1 hn).1
   have h := hc j hlt
   have e1 : (Addr.add ⟨b, off, none⟩ j) = ⟨b, off + j, none⟩ := by
    unfold Addr.add; split
    ·rename_i h0; subst h0; rfl
    ·rfl
   rw [e1, h]; simp [hn])
  simpa using this
@[go_sem] theorem run_bstr1 {P : Program} (w : World) (src dst B c : Nat) (n : Int) (t : TypeId) (hB : B = w.heap.size) (hs : P.underlying src = some (.slice (P.elem src))) (he : P.underlying (P.elem src) = some (.int .u8)) (hd : P.underlying dst = some .string) :
  (convert src dst (.slice (some ⟨B, 0, none⟩) 1 c)).run P (w.alloc (.cells #[.int .u8 n] t)) = .ok (.string ⟨#[UInt8.ofNat n.toNat]⟩) (w.alloc (.cells #[.int .u8 n] t)) := by
 subst hB
 have := run_bstr (P := P) (w.alloc (.cells #[.int .u8 n] t)) src dst _ hs he hd w.heap.size 0 1 c [n] rfl (fun j hj => by
  obtain rfl : j = 0 := by omega
  simp)
 simpa using this
def Acc (w : World) (base : Nat) (e : TypeId) (size : Nat) (v : Value) (n : Nat) (xs : List Value) : Prop :=
 w.ownsRow base e size v n xs ∨ (∃ b off, v = .slice (some ⟨b, off, none⟩) n n ∧ xs.length = n * size ∧ ∀ j u, xs[j]? = some u → w.cell? ⟨b, off + j, none⟩ = some u)
theorem addr_add (b off j : Nat) : Addr.add ⟨b, off, none⟩ j = ⟨b, off + j, none⟩ := by
 unfold Addr.add; split
 ·rename_i h0; subst h0; rfl
 ·rfl
theorem ownBlock_ge {w : World} {b : Nat} {e : TypeId} {size : Nat} {v : Value} {n : Nat} {xs : List Value} (h : w.ownsRow b e size v n xs) : ∀ k, v.ownBlock = some k → b ≤ k := by
 obtain ⟨h1, h2⟩ := h
 intro k hk
 rcases h2 with ⟨rfl, _⟩ | ⟨g, cap, cur, rfl, hg, r⟩
 ·cases hk
 ·simp only [Value.ownBlock, Option.some.injEq] at hk; omega
def bcells (l : List UInt8) : List Value := l.map fun c => Value.int .u8 c.toNat
theorem bcells_length (l : List UInt8) : (bcells l).length = l.length := by simp [bcells]
theorem bcells_snoc (l : List UInt8) (c : UInt8) : bcells l ++ [.int .u8 c.toNat] = bcells (l ++ [c]) := by simp [bcells]
theorem Acc.cells {w : World} {base : Nat} {e : TypeId} {v : Value} {n : Nat} {xs : List Value} (h : Acc w base e 1 v n xs) : xs.length = n ∧ ((v = .slice none 0 0 ∧ n = 0) ∨
  ∃ b off cap, v = .slice (some ⟨b, off, none⟩) n cap ∧ ∀ j u, xs[j]? = some u → w.cell? ⟨b, off + j, none⟩ = some u) := by
 rcases h with ⟨h1, h2⟩ | ⟨b, off, hv, hl, hc⟩
 ·refine ⟨by simpa using h1, ?_⟩
  rcases h2 with h2 | ⟨g, cap, cur, hv, hg, hb, hn, hcap, hcs, hx⟩
  ·exact .inl h2
  ·refine .inr ⟨g, 0, cap, hv, fun j u hj => ?_⟩
   have hjn : j < n := by have := (List.getElem?_eq_some_iff.1 hj).1; rw [h1] at this; omega
   rw [← hx, List.getElem?_take, if_pos (by omega)] at hj
   simp only [World.cell?, hb, Nat.zero_add, Option.isSome_none, Bool.false_eq_true, if_false]
   simpa using hj
 ·exact ⟨by simpa using hl, .inr ⟨b, off, n, hv, hc⟩⟩
theorem Acc.str {P : Program} {w : World} {base : Nat} {e0 : TypeId} {v : Value} {n : Nat} {l : List UInt8} (h : Acc w base e0 1 v n (bcells l)) (src dst e : TypeId) (hs : P.underlying src = some (.slice e)) (he : P.underlying e = some (.int .u8)) (hd : P.underlying dst = some .string) :
  (convert src dst v).run P w = .ok (.string ⟨l.toArray⟩) w := by
 obtain ⟨hl, h⟩ := h.cells
 rw [bcells_length] at hl
 rcases h with ⟨rfl, h0⟩ | ⟨b, off, cap, rfl, hc⟩
 ·rw [run_convert_bytes_string w src dst e _ _ _ hs he hd]
  have : l = [] := List.eq_nil_of_length_eq_zero (by omega)
  subst this
  simp [Conv.bytesToString]; rfl
 ·have := run_bstr (P := P) w src dst e hs he hd b off n cap (l.map fun c => (c.toNat : Int)) (by simpa using hl) (fun j hj => by
   refine hc j _ ?_
   have hj' : j < l.length := by omega
   simp [bcells, hj'])
  rw [this]
  have e : ((l.map fun c => (c.toNat : Int)).map fun n => UInt8.ofNat n.toNat) = l := by
   rw [List.map_map]
   have : ((fun n : Int => UInt8.ofNat n.toNat) ∘ fun c : UInt8 => (c.toNat : Int)) = id := by funext c; simp
   rw [this, List.map_id]
  rw [e]
end Go.Xk
namespace Go.Xd
open Go.RowKit
open Go.Xk hiding law wpRel makeRun newPost callPost rel_skip rel_det rel_make rel_nil
open Go.Xe hiding wpRel wp_region_rel rel_skip rel_det rel_make rel_nil facts_head
def wpRel (E : World → World → Prop) (P : Program) (ops : Array Oper) (w0 : World) (O : Nat → Option Nat) (Ψ : Ps) (Q : Act → World → Prop) : List Oper → Nat → Act → Facts → Made → Prop := (Xe.law E P ops w0 O Ψ Q).rel
theorem wp_region_rel {E : World → World → Prop} (hE : Pre E) {P : Program} {id : Nat} {Q : Exit → Act → World → Prop} {a : Act} {w : World} {l : List Oper} (n : Nat) (O : Nat → Option Nat) (hO : ∀ i b, O i = some b → b < w.heap.size) (hOO : ∀ i j b, i ≠ j → O i = some b → O j ≠ some b) (Ψ : List (Nat × (List Value → Value → World → Prop))) (hm : P.follows .mixedOrders = true) (hB : relOk l.toArray n = true)
  (hst : ∀ i φ, lookP Ψ i = some φ → ∀ ls v w w', E w w' → φ ls v w → φ ls v w')
  (h : wpRel E P l.toArray w.drew O Ψ (fun a' w' => wpList P l.toArray Q (l.drop n) a' w') (l.take n) 0 a [] []) : (Code.region id l.toArray true).wp P Q a w := Xe.law_region hE n O hO hOO Ψ hm hB hst h
section
variable {E : World → World → Prop} {P : Program} {ops : Array Oper} {w0 : World} {O : Nat → Option Nat} {Ψ : List (Nat × (List Value → Value → World → Prop))} {Q : Act → World → Prop} {o : Oper} {r : List Oper} {i : Nat} {a : Act} {F : Facts} {G : Made}
theorem rel_skip (hw : Region.wanted o (yielded ops a.tmps) = false) (h : ∀ K : Act → Prop, (∀ a, wpRel E P ops w0 O Ψ Q r (i + 1) a F G → K a) → K (a.put o.dst undef)) : wpRel E P ops w0 O Ψ Q (o :: r) i a F G :=
 Law.skip hw (h _ fun _ h => h)
theorem rel_det (hE : Pre E) (hw : Region.wanted o (yielded ops a.tmps) = true) (ht : lookP Ψ i = none)
  (h : ∀ K : Act → Prop, (∀ a, wpRel E P ops w0 O Ψ Q r (i + 1) a F G → K a) → ∃ v, (∀ w', E w0 w' → factsAnc (ancOf ops i) F w' → Xk.detRun P o a w' v) ∧ K (a.put o.dst v)) : wpRel E P ops w0 O Ψ Q (o :: r) i a F G := by
 obtain ⟨v, h1, h2⟩ := h _ fun _ h => h
 exact Law.det hw ht hE.ext h1 h2
theorem rel_make (hE : Pre E) {φ : List Value → Value → World → Prop} (hw : Region.wanted o (yielded ops a.tmps) = true) (ht : lookP Ψ i = some φ)
  (h : ∀ w', E w0 w' → factsAnc (ancOf ops i) F w' → Go.Xe.makeRun E P o a w' (O i) (φ (lk ops o a)))
  (hn : ∀ v, ∀ K : Act → Prop, (∀ b, wpRel E P ops w0 O Ψ Q r (i + 1) b ((i, φ (lk ops o a) v) :: F) ((i, v) :: G) → K b) → K (a.put o.dst v)) : wpRel E P ops w0 O Ψ Q (o :: r) i a F G :=
 Law.make hw ht (fun w' hx hf => Xe.makeAt_of (fun h => h) hE.ext (h w' hx hf)) fun v => hn v _ fun _ h => h
theorem rel_nil (h : ∀ w', E w0 w' → factsAll F w' → apart G → Q a w') : wpRel E P ops w0 O Ψ Q [] i a F G := fun w hz hf hb => h w hz hf (hb trivial)
end
attribute [irreducible] wpRel
theorem facts_head {m i : Nat} {φ : World → Prop} {r : Facts} {w : World} (h : factsAnc m ((i, φ) :: r) w) (hm : m.testBit i = true) : φ w := Go.Xe.facts_head h hm
theorem stable_all {E : World → World → Prop} {Ψ : List (Nat × (List Value → Value → World → Prop))} (h : ∀ x ∈ Ψ, ∀ ls v w w', E w w' → x.2 ls v w → x.2 ls v w') : ∀ i φ, lookP Ψ i = some φ → ∀ ls v w w', E w w' → φ ls v w → φ ls v w' := by
 induction Ψ with
 | nil => intro i φ ht; cases ht
 | cons x r ih =>
  intro i φ ht
  unfold lookP at ht
  split at ht
  ·cases ht; exact h x (List.mem_cons_self ..)
  ·exact ih (fun y hy => h y (List.mem_cons_of_mem _ hy)) i φ ht
end Go.Xd
