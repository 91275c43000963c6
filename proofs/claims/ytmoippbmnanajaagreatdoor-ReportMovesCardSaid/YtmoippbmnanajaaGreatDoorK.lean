/- A rule for a region that draws its order: operations that compute, load, call and make memory, each told by what it yields; whatever order is drawn, the walk in the order of the text serves. Over any program. -/
import Derived.StillTail
import Derived.Below
import Derived.Lib.QuietBelow
import Derived.KernelRfl
set_option linter.unusedSimpArgs false
set_option linter.unusedVariables false
namespace Go.Xk
open Go.RowKit

/-- w' is w with draws and with new blocks behind: nothing that was there has turned. -/
abbrev Ext (w w' : World) : Prop := Below w.heap.size w w'
theorem Ext.trans {a b c : World} (h : Ext a b) (k : Ext b c) : Ext a c := Below.trans h (k.mono h.size)

/-- The facts that calls and new blocks have left, each with its operation's number. -/
abbrev Facts := List (Nat × (World → Prop))
def factsAll : Facts → World → Prop
  | [], _ => True
  | x :: r, w => x.2 w ∧ factsAll r w
/-- Those of the operations whose bit stands in a mask. -/
def factsAnc (m : Nat) : Facts → World → Prop
  | [], _ => True
  | x :: r, w => if m.testBit x.1 then x.2 w ∧ factsAnc m r w else factsAnc m r w
def tells (Ψ : List (Nat × (Value → World → Prop))) (i : Nat) : Option (Value → World → Prop) :=
  match Ψ with
  | [] => none
  | x :: r => if x.1 = i then some x.2 else tells r i
def ancOf (ops : Array Oper) (i : Nat) : Nat := (Region.before ops).getD i 0

/-- What a run that computes, loads, or calls with one answer comes to: that value; nothing that was there has turned. -/
def detUpon (P : Program) (w : World) (v : Value) : Result Next → Prop
  | .ok (.value u) w' => w' = w ∧ u = v
  | .ok .skip w' => w' = w ∧ undef = v
  | .ok (.enter f args) w' => w' = w ∧ P.inits.idxOf? f = none ∧ Calls P f args w fun e w2 => e = .returned v ∧ Ext w w2
  | _ => False
/-- What a run that calls, or makes memory, comes to: a value of which φ holds; nothing that was there has turned. -/
def makeUpon (P : Program) (w : World) (φ : Value → World → Prop) : Result Next → Prop
  | .ok (.value u) w' => Ext w w' ∧ φ u w'
  | .ok (.enter f args) w' => w' = w ∧ Calls P f args w fun e w2 => ∃ v, e = .returned v ∧ Ext w w2 ∧ φ v w2
  | _ => False
def detAt (P : Program) (o : Oper) (a : Act) (w : World) (v : Value) : Prop := detUpon P w v ((execOp a.eval o).run P w)
def makeAt (P : Program) (o : Oper) (a : Act) (w : World) (φ : Value → World → Prop) : Prop := makeUpon P w φ ((execOp a.eval o).run P w)

section
variable (P : Program) (ops : Array Oper) (w0 : World) (Ψ : List (Nat × (Value → World → Prop))) (Q : Act → World → Prop)
/-- THE WALK IN THE ORDER OF THE TEXT. An operation is shown in every world behind w0 in which the facts of those hold on which it waits. -/
def wpRel : List Oper → Nat → Act → Facts → Prop
  | [], _, a, F => ∀ w', Ext w0 w' → factsAll F w' → Q a w'
  | o :: r, i, a, F =>
    if Region.wanted o (yielded ops a.tmps) = true then
      match tells Ψ i with
      | none => ∃ v, (∀ w', Ext w0 w' → factsAnc (ancOf ops i) F w' → detAt P o a w' v) ∧ wpRel r (i + 1) (a.put o.dst v) F
      | some φ => (∀ w', Ext w0 w' → factsAnc (ancOf ops i) F w' → makeAt P o a w' φ) ∧ ∀ v, wpRel r (i + 1) (a.put o.dst v) ((i, φ v) :: F)
    else wpRel r (i + 1) (a.put o.dst undef) F

/-- The walk at values that are given. -/
def good (m vals : Nat → Value) : List Oper → Nat → Act → Facts → Prop
  | [], _, a, F => ∀ w', Ext w0 w' → factsAll F w' → Q a w'
  | o :: r, i, a, F =>
    (Region.wanted o (yielded ops a.tmps) = false ∧ vals i = undef ∧ good m vals r (i + 1) (a.put o.dst (vals i)) F) ∨
    (Region.wanted o (yielded ops a.tmps) = true ∧ tells Ψ i = none ∧ (∀ w', Ext w0 w' → factsAnc (ancOf ops i) F w' → detAt P o a w' (vals i)) ∧ good m vals r (i + 1) (a.put o.dst (vals i)) F) ∨
    (Region.wanted o (yielded ops a.tmps) = true ∧ vals i = m i ∧ ∃ φ, tells Ψ i = some φ ∧ (∀ w', Ext w0 w' → factsAnc (ancOf ops i) F w' → makeAt P o a w' φ) ∧ good m vals r (i + 1) (a.put o.dst (vals i)) ((i, φ (vals i)) :: F))
end

section
variable {P : Program} {ops : Array Oper} {w0 : World} {Ψ : List (Nat × (Value → World → Prop))} {Q : Act → World → Prop}

theorem good_congr {m vals vals' : Nat → Value} : ∀ (l : List Oper) (i : Nat) (a : Act) (F : Facts), (∀ j, i ≤ j → vals j = vals' j) → good P ops w0 Ψ Q m vals l i a F → good P ops w0 Ψ Q m vals' l i a F
  | [], _, _, _, _, h => h
  | o :: r, i, a, F, he, h => by
    have hi := he i (Nat.le_refl _)
    have hr : ∀ j, i + 1 ≤ j → vals j = vals' j := fun j hj => he j (by omega)
    rcases h with ⟨h1, h2, h3⟩ | ⟨h1, h2, h3, h4⟩ | ⟨h1, h2, φ, h3, h4, h5⟩
    · exact .inl ⟨h1, by rw [← hi]; exact h2, by rw [← hi]; exact good_congr r _ _ _ hr h3⟩
    · exact .inr (.inl ⟨h1, h2, by rw [← hi]; exact h3, by rw [← hi]; exact good_congr r _ _ _ hr h4⟩)
    · exact .inr (.inr ⟨h1, by rw [← hi]; exact h2, φ, h3, h4, by rw [← hi]; exact good_congr r _ _ _ hr h5⟩)

theorem good_of_rel (m : Nat → Value) : ∀ (l : List Oper) (i : Nat) (a : Act) (F : Facts), wpRel P ops w0 Ψ Q l i a F → ∃ vals, good P ops w0 Ψ Q m vals l i a F
  | [], _, _, _, h => ⟨fun _ => undef, h⟩
  | o :: r, i, a, F, h => by
    have put : ∀ (u : Value) (F' : Facts), (∃ vals, good P ops w0 Ψ Q m vals r (i + 1) (a.put o.dst u) F') → ∃ vals, vals i = u ∧ good P ops w0 Ψ Q m vals r (i + 1) (a.put o.dst u) F' := by
      rintro u F' ⟨vals, hv⟩
      exact ⟨fun j => if j = i then u else vals j, by simp, good_congr r _ _ _ (fun j hj => by simp [show j ≠ i by omega]) hv⟩
    unfold wpRel at h
    by_cases hw : Region.wanted o (yielded ops a.tmps) = true
    · rw [if_pos hw] at h
      cases ht : tells Ψ i with
      | none =>
        simp only [ht] at h
        obtain ⟨v, h1, h2⟩ := h
        obtain ⟨vals, hv, hg⟩ := put v F (good_of_rel m r _ _ _ h2)
        exact ⟨vals, .inr (.inl ⟨hw, ht, by rw [hv]; exact h1, by rw [hv]; exact hg⟩)⟩
      | some φ =>
        simp only [ht] at h
        obtain ⟨vals, hv, hg⟩ := put (m i) _ (good_of_rel m r _ _ _ (h.2 (m i)))
        exact ⟨vals, .inr (.inr ⟨hw, hv, φ, ht, h.1, by rw [hv]; exact hg⟩)⟩
    · rw [if_neg hw] at h
      obtain ⟨vals, hv, hg⟩ := put undef F (good_of_rel m r _ _ _ h)
      exact ⟨vals, .inl ⟨by simpa using hw, hv, by rw [hv]; exact hg⟩⟩
end

/-- The frame behind a list of operations, at given values. -/
def putAll (vals : Nat → Value) : List Oper → Nat → Act → Act
  | [], _, a => a
  | o :: r, i, a => putAll vals r (i + 1) (a.put o.dst (vals i))
theorem size_put (a : Act) (d : Option Tmp) (v : Value) : (a.put d v).tmps.size = a.tmps.size := by cases d <;> simp [Act.put]
theorem defers_put (a : Act) (d : Option Tmp) (v : Value) : (a.put d v).defers = a.defers := by cases d <;> rfl
theorem getD_put_ne (a : Act) (d : Option Tmp) (v : Value) (t : Tmp) (h : d ≠ some t) : (a.put d v).tmps.getD t undef = a.tmps.getD t undef := by
  cases d with
  | none => rfl
  | some d =>
    have hne : d ≠ t := fun e => h (by rw [e])
    simp [Act.put, Array.getElem?_setIfInBounds_ne hne]
theorem getD_put_eq (a : Act) (v : Value) (t : Tmp) (h : t < a.tmps.size) : (a.put (some t) v).tmps.getD t undef = v := by
  simp [Act.put, h]
theorem size_putAll (vals : Nat → Value) : ∀ (l : List Oper) (i : Nat) (a : Act), (putAll vals l i a).tmps.size = a.tmps.size
  | [], _, _ => rfl
  | o :: r, i, a => by rw [putAll, size_putAll vals r, size_put]
theorem defers_putAll (vals : Nat → Value) : ∀ (l : List Oper) (i : Nat) (a : Act), (putAll vals l i a).defers = a.defers
  | [], _, _ => rfl
  | o :: r, i, a => by rw [putAll, defers_putAll vals r, defers_put]
theorem getD_putAll_none (vals : Nat → Value) (t : Tmp) : ∀ (l : List Oper) (i : Nat) (a : Act), (∀ o ∈ l, o.dst ≠ some t) → (putAll vals l i a).tmps.getD t undef = a.tmps.getD t undef
  | [], _, _, _ => rfl
  | o :: r, i, a, h => by
    rw [putAll, getD_putAll_none vals t r _ _ (fun o' ho => h o' (List.mem_cons_of_mem _ ho)), getD_put_ne _ _ _ _ (h o (List.mem_cons_self ..))]
theorem getD_putAll_at (vals : Nat → Value) (t : Tmp) : ∀ (l : List Oper) (i : Nat) (a : Act) (k : Nat) (o : Oper), l[k]? = some o → o.dst = some t → (∀ k' o', l[k']? = some o' → k' ≠ k → o'.dst ≠ some t) →
    t < a.tmps.size → (putAll vals l i a).tmps.getD t undef = vals (i + k)
  | [], _, _, _, _, h, _, _, _ => by simp at h
  | o :: r, i, a, 0, o', h, hd, hu, ht => by
    simp only [List.getElem?_cons_zero, Option.some.injEq] at h
    subst h
    rw [putAll, getD_putAll_none vals t r _ _ (fun o' ho => by
      obtain ⟨k', hk⟩ := List.mem_iff_getElem?.1 ho
      exact hu (k' + 1) o' (by simpa using hk) (by omega)), hd, getD_put_eq _ _ _ ht, Nat.add_zero]
  | o :: r, i, a, k + 1, o', h, hd, hu, ht => by
    rw [putAll, getD_putAll_at vals t r (i + 1) _ k o' (by simpa using h) hd (fun k' o'' h' hk => hu (k' + 1) o'' (by simpa using h') (by omega)) (by rw [size_put]; exact ht)]
    congr 1; omega

/-- The facts behind a list of operations, at given values. -/
def factsOf (ops : Array Oper) (Ψ : List (Nat × (Value → World → Prop))) (vals : Nat → Value) : List Oper → Nat → Act → Facts → Facts
  | [], _, _, F => F
  | o :: r, i, a, F => factsOf ops Ψ vals r (i + 1) (a.put o.dst (vals i)) (if Region.wanted o (yielded ops a.tmps) = true then (match tells Ψ i with | none => F | some φ => (i, φ (vals i)) :: F) else F)

section
variable {P : Program} {ops : Array Oper} {w0 : World} {Ψ : List (Nat × (Value → World → Prop))} {Q : Act → World → Prop} {m vals : Nat → Value}
/-- What 'good' says of one operation. -/
def oblig (P : Program) (ops : Array Oper) (w0 : World) (Ψ : List (Nat × (Value → World → Prop))) (m vals : Nat → Value) (o : Oper) (i : Nat) (a : Act) (F : Facts) : Prop :=
    (Region.wanted o (yielded ops a.tmps) = false ∧ vals i = undef) ∨
    (Region.wanted o (yielded ops a.tmps) = true ∧ tells Ψ i = none ∧ (∀ w', Ext w0 w' → factsAnc (ancOf ops i) F w' → detAt P o a w' (vals i))) ∨
    (Region.wanted o (yielded ops a.tmps) = true ∧ vals i = m i ∧ ∃ φ, tells Ψ i = some φ ∧ (∀ w', Ext w0 w' → factsAnc (ancOf ops i) F w' → makeAt P o a w' φ))
theorem good_cons {o : Oper} {r : List Oper} {i : Nat} {a : Act} {F : Facts} (h : good P ops w0 Ψ Q m vals (o :: r) i a F) :
    oblig P ops w0 Ψ m vals o i a F ∧ good P ops w0 Ψ Q m vals r (i + 1) (a.put o.dst (vals i)) (if Region.wanted o (yielded ops a.tmps) = true then (match tells Ψ i with | none => F | some φ => (i, φ (vals i)) :: F) else F) := by
  rcases h with ⟨h1, h2, h3⟩ | ⟨h1, h2, h3, h4⟩ | ⟨h1, h2, φ, h3, h4, h5⟩
  · exact ⟨.inl ⟨h1, h2⟩, by simpa [h1] using h3⟩
  · exact ⟨.inr (.inl ⟨h1, h2, h3⟩), by simpa [h1, h2] using h4⟩
  · exact ⟨.inr (.inr ⟨h1, h2, φ, h3, h4⟩), by simpa [h1, h3] using h5⟩
theorem good_at : ∀ (l : List Oper) (i : Nat) (a : Act) (F : Facts), good P ops w0 Ψ Q m vals l i a F → ∀ k o, l[k]? = some o →
    oblig P ops w0 Ψ m vals o (i + k) (putAll vals (l.take k) i a) (factsOf ops Ψ vals (l.take k) i a F)
  | [], _, _, _, _, k, o, h => by simp at h
  | o :: r, i, a, F, hg, 0, o', h => by
    simp only [List.getElem?_cons_zero, Option.some.injEq] at h
    subst h
    exact (good_cons hg).1
  | o :: r, i, a, F, hg, k + 1, o', h => by
    have := good_at r (i + 1) _ _ (good_cons hg).2 k o' (by simpa using h)
    rw [show i + 1 + k = i + (k + 1) by omega] at this
    exact this
theorem good_end : ∀ (l : List Oper) (i : Nat) (a : Act) (F : Facts), good P ops w0 Ψ Q m vals l i a F → ∀ w', Ext w0 w' → factsAll (factsOf ops Ψ vals l i a F) w' → Q (putAll vals l i a) w'
  | [], _, _, _, hg => hg
  | o :: r, i, a, F, hg => good_end r (i + 1) _ _ (good_cons hg).2
/-- Where a fact of 'factsOf' comes from. -/
theorem mem_factsOf : ∀ (l : List Oper) (i : Nat) (a : Act) (F : Facts) (x : Nat × (World → Prop)), x ∈ factsOf ops Ψ vals l i a F →
    x ∈ F ∨ ∃ k o φ, l[k]? = some o ∧ tells Ψ (i + k) = some φ ∧ Region.wanted o (yielded ops (putAll vals (l.take k) i a).tmps) = true ∧ x = (i + k, φ (vals (i + k)))
  | [], _, _, _, x, h => .inl h
  | o :: r, i, a, F, x, h => by
    rcases mem_factsOf r (i + 1) _ _ x h with h | ⟨k, o', φ, h1, h2, h3, h4⟩
    · by_cases hw : Region.wanted o (yielded ops a.tmps) = true
      · rw [if_pos hw] at h
        cases ht : tells Ψ i with
        | none => simp only [ht] at h; exact .inl h
        | some φ =>
          simp only [ht, List.mem_cons] at h
          rcases h with rfl | h
          · exact .inr ⟨0, o, φ, rfl, ht, hw, rfl⟩
          · exact .inl h
      · rw [if_neg hw] at h; exact .inl h
    · rw [show i + 1 + k = i + (k + 1) by omega] at h2 h4
      exact .inr ⟨k + 1, o', φ, by simpa using h1, h2, h3, h4⟩
theorem factsAll_of {F : Facts} {w : World} (h : ∀ x ∈ F, x.2 w) : factsAll F w := by
  induction F with
  | nil => trivial
  | cons x r ih => exact ⟨h x (List.mem_cons_self ..), ih fun y hy => h y (List.mem_cons_of_mem _ hy)⟩
theorem factsAnc_of {F : Facts} {w : World} {k : Nat} (h : ∀ x ∈ F, k.testBit x.1 = true → x.2 w) : factsAnc k F w := by
  induction F with
  | nil => trivial
  | cons x r ih =>
    have ih' := ih fun y hy => h y (List.mem_cons_of_mem _ hy)
    unfold factsAnc
    split
    · rename_i hb; exact ⟨h x (List.mem_cons_self ..) hb, ih'⟩
    · exact ih'
end
/-! ### The conditions on a region, as one Bool -/
def slotsOk (ops : Array Oper) (n : Nat) : Bool :=
  (List.range n).all fun i => (List.range n).all fun j =>
    match ops[i]?, ops[j]? with
    | some oi, some oj =>
      (match oj.dst with
       | some t => (i == j || oi.dst != some t) && (!(oi.looksAt ops).contains t || (ancOf ops i).testBit j || i == j || (decide (i < j) && (ancOf ops j).testBit i))
       | none => true) &&
      (!(ancOf ops i).testBit j || (decide (j < i) && oi.after.any fun e => Region.binds .any e && (e.on == j || (ancOf ops e.on).testBit j)))
    | _, _ => false
def edgesOk (ops : Array Oper) (n : Nat) : Bool :=
  (List.range n).all fun i => match ops[i]? with | some o => o.after.all fun e => !Region.binds .any e || decide (e.on < i) | none => false
def relOk (ops : Array Oper) (n : Nat) : Bool :=
  Region.noSelect ops && decide (n ≤ ops.size) && slotsOk ops n && edgesOk ops n && (n == ops.size || (Region.sinkB .any ops n && Region.chainB .any ops n)) &&
  Region.seqB .any ops (ops.size - n) n (Array.replicate n true ++ Array.replicate (ops.size - n) false)

structure RelOk (ops : Array Oper) (n : Nat) : Prop where
  sel : Region.noSelect ops = true
  le : n ≤ ops.size
  dst : ∀ i j oi oj t, i < n → j < n → ops[i]? = some oi → ops[j]? = some oj → oj.dst = some t → i ≠ j → oi.dst ≠ some t
  look : ∀ i j oi oj t, i < n → j < n → ops[i]? = some oi → ops[j]? = some oj → oj.dst = some t → t ∈ oi.looksAt ops → (ancOf ops i).testBit j = true ∨ i = j ∨ (i < j ∧ (ancOf ops j).testBit i = true)
  anc : ∀ i j oi, i < n → j < n → ops[i]? = some oi → (ancOf ops i).testBit j = true → j < i ∧ ∃ e ∈ oi.after, Region.binds .any e = true ∧ (e.on = j ∨ (ancOf ops e.on).testBit j = true)
  edge : ∀ i oi, i < n → ops[i]? = some oi → ∀ e ∈ oi.after, Region.binds .any e = true → e.on < i
  tail : n = ops.size ∨ (Region.sinkB .any ops n = true ∧ Region.chainB .any ops n = true)
  seq : Region.seqB .any ops (ops.size - n) n (Array.replicate n true ++ Array.replicate (ops.size - n) false) = true
theorem relOk_spec {ops : Array Oper} {n : Nat} (h : relOk ops n = true) : RelOk ops n := by
  simp only [relOk, Bool.and_eq_true, Bool.or_eq_true, beq_iff_eq, decide_eq_true_eq] at h
  obtain ⟨⟨⟨⟨⟨h1, h2⟩, h3⟩, h4⟩, h5⟩, h6⟩ := h
  have s : ∀ i j oi oj, i < n → j < n → ops[i]? = some oi → ops[j]? = some oj →
      ((match oj.dst with
       | some t => (i == j || oi.dst != some t) && (!(oi.looksAt ops).contains t || (ancOf ops i).testBit j || i == j || (decide (i < j) && (ancOf ops j).testBit i))
       | none => true) &&
      (!(ancOf ops i).testBit j || (decide (j < i) && oi.after.any fun e => Region.binds .any e && (e.on == j || (ancOf ops e.on).testBit j)))) = true := by
    intro i j oi oj hi hj ei ej
    have := List.all_eq_true.1 (List.all_eq_true.1 h3 i (List.mem_range.2 hi)) j (List.mem_range.2 hj)
    simp only [ei, ej] at this
    exact this
  refine ⟨h1, h2, ?_, ?_, ?_, ?_, h5, h6⟩
  · intro i j oi oj t hi hj ei ej hd hne
    have := s i j oi oj hi hj ei ej
    simp only [hd, Bool.and_eq_true, Bool.or_eq_true, beq_iff_eq, bne_iff_ne] at this
    rcases this.1.1 with h | h
    · exact absurd h hne
    · exact h
  · intro i j oi oj t hi hj ei ej hd ht
    have := s i j oi oj hi hj ei ej
    simp only [hd, Bool.and_eq_true, Bool.or_eq_true, beq_iff_eq, Bool.not_eq_true', decide_eq_true_eq] at this
    rcases this.1.2 with ((h | h) | h) | h
    · rw [List.contains_eq_mem, decide_eq_false_iff_not] at h; exact absurd ht h
    · exact .inl h
    · exact .inr (.inl h)
    · exact .inr (.inr h)
  · intro i j oi hi hj ei hb
    have hjs : j < ops.size := Nat.lt_of_lt_of_le hj h2
    have := s i j oi ops[j] hi hj ei (by simp [hjs])
    simp only [Bool.and_eq_true, Bool.or_eq_true, Bool.not_eq_true', decide_eq_true_eq] at this
    rcases this.2 with h | ⟨h, g⟩
    · rw [hb] at h; cases h
    · obtain ⟨e, he, hq⟩ := Array.any_eq_true'.1 g
      simp only [Bool.and_eq_true, Bool.or_eq_true, beq_iff_eq] at hq
      exact ⟨h, e, he, hq.1, hq.2⟩
  · intro i oi hi ei e he hb
    have := List.all_eq_true.1 h4 i (List.mem_range.2 hi)
    simp only [ei] at this
    have := Array.all_eq_true_iff_forall_mem.1 this e he
    simp only [Bool.or_eq_true, Bool.not_eq_true', decide_eq_true_eq] at this
    rcases this with h | h
    · rw [hb] at h; cases h
    · exact h

/-- Two frames that agree where an operation looks. -/
theorem same_exec {ops : Array Oper} {o : Oper} {a a' : Act} (hs : ∀ cs b, o.op ≠ .select cs b) (hz : a.tmps.size = a'.tmps.size) (h : ∀ t ∈ o.looksAt ops, a.tmps.getD t undef = a'.tmps.getD t undef) :
    execOp a.eval o = execOp a'.eval o ∧ Region.wanted o (yielded ops a.tmps) = Region.wanted o (yielded ops a'.tmps) := by
  constructor
  · refine execOp_congr o hs fun x hx => ?_
    cases x with
    | tmp t => exact h t (List.mem_append_left _ (List.mem_filterMap.2 ⟨.tmp t, by simpa using hx, rfl⟩))
    | _ => rfl
  · unfold Region.wanted
    cases hg : o.guard with
    | none => rfl
    | some gw =>
      obtain ⟨g, want⟩ := gw
      have hy : yielded ops a.tmps g = yielded ops a'.tmps g := by
        unfold yielded
        cases ht : (ops[g]?).bind (·.dst) with
        | none => rfl
        | some t =>
          have hm : t ∈ o.looksAt ops := by
            unfold Oper.looksAt
            rw [hg]
            exact List.mem_append_right _ (by simp [ht])
          have e := h t hm
          rcases Nat.lt_or_ge t a.tmps.size with hlt | hge
          · have e1 : a.tmps[t]? = a'.tmps[t]? := by
              simp only [Array.getD_eq_getD_getElem?] at e
              have hlt' : t < a'.tmps.size := Nat.lt_of_lt_of_le hlt (Nat.le_of_eq hz)
              rw [Array.getElem?_eq_getElem hlt, Array.getElem?_eq_getElem hlt'] at e
              rw [Array.getElem?_eq_getElem hlt, Array.getElem?_eq_getElem hlt']
              simpa using e
            simp only [Option.bind_some, e1]
          · have e1 : a.tmps[t]? = none := Array.getElem?_eq_none hge
            have e2 : a'.tmps[t]? = none := Array.getElem?_eq_none (Nat.le_trans (Nat.le_of_eq hz.symm) hge)
            simp only [Option.bind_some, e1, e2]
      dsimp only
      rw [hy]

section
variable {P : Program} {ops : Array Oper} {n : Nat} {w0 : World} {Ψ : List (Nat × (Value → World → Prop))} {Q : Act → World → Prop} {a0 : Act}

def frame (ops : Array Oper) (a0 : Act) (vals : Nat → Value) (i : Nat) : Act := putAll vals (ops.toList.take i) 0 a0
theorem frame_size (vals : Nat → Value) (i : Nat) : (frame ops a0 vals i).tmps.size = a0.tmps.size := size_putAll _ _ _ _
theorem frame_at (hR : RelOk ops n) (vals : Nat → Value) {i k : Nat} {ok : Oper} {t : Tmp} (hi : i ≤ n) (hk : k < i) (ek : ops[k]? = some ok) (hd : ok.dst = some t) (ht : t < a0.tmps.size) :
    (frame ops a0 vals i).tmps.getD t undef = vals k := by
  have := getD_putAll_at vals t (ops.toList.take i) 0 a0 k ok (by rw [List.getElem?_take, if_pos hk]; simpa using ek) hd (fun k' o' h' hne => by
    rw [List.getElem?_take] at h'
    split at h'
    · rename_i hlt
      exact hR.dst k' k o' ok t (by omega) (by omega) (by simpa using h') ek hd hne
    · cases h') ht
  simpa [frame] using this
theorem frame_off (vals : Nat → Value) {i : Nat} {t : Tmp} (h : ∀ k ok, k < i → ops[k]? = some ok → ok.dst ≠ some t) : (frame ops a0 vals i).tmps.getD t undef = a0.tmps.getD t undef :=
  getD_putAll_none vals t _ _ _ fun o ho => by
    obtain ⟨k, hk⟩ := List.mem_iff_getElem?.1 ho
    rw [List.getElem?_take] at hk
    split at hk
    · rename_i hlt; exact h k o hlt (by simpa using hk)
    · cases hk
theorem getD_over (a : Act) (t : Tmp) (h : a.tmps.size ≤ t) : a.tmps.getD t undef = undef := by simp [Array.getElem?_eq_none h]

/-- What is waited for has come up. -/
theorem anc_listed (hR : RelOk ops n) {listed : Array Bool} (inv : HeadInv .any ops n listed) : ∀ (j : Nat), j < n → (∀ oj, ops[j]? = some oj → ∀ e ∈ oj.after, Region.binds .any e = true → listed.getD e.on false = true) →
    ∀ k, k < n → (ancOf ops j).testBit k = true → listed.getD k false = true := by
  intro j
  induction j using Nat.strongRecOn with
  | _ j ih =>
    intro hj hall k hk hb
    have hjs : j < ops.size := Nat.lt_of_lt_of_le hj hR.le
    have ej : ops[j]? = some ops[j] := by simp [hjs]
    obtain ⟨_, e, he, hbd, h⟩ := hR.anc j k _ hj hk ej hb
    have hl := hall _ ej e he hbd
    rcases h with rfl | h
    · exact hl
    · have hlt := hR.edge j _ hj ej e he hbd
      exact ih e.on hlt (by omega) (fun oj eo e' he' hb' => inv.closed e.on oj eo hl e' he' hb') k hk h

structure St (P : Program) (ops : Array Oper) (n : Nat) (w0 : World) (Ψ : List (Nat × (Value → World → Prop))) (Q : Act → World → Prop) (a0 : Act) (listed : Array Bool) (a : Act) (w : World) (m vals : Nat → Value) : Prop where
  inv : HeadInv .any ops n listed
  good : good P ops w0 Ψ Q m vals (ops.toList.take n) 0 a0 []
  ext : Ext w0 w
  size : a.tmps.size = a0.tmps.size
  defers : a.defers = a0.defers
  lies : ∀ j oj t, j < n → listed.getD j false = true → ops[j]? = some oj → oj.dst = some t → t < a0.tmps.size → a.tmps.getD t undef = vals j
  off : ∀ t, (∀ j oj, j < n → listed.getD j false = true → ops[j]? = some oj → oj.dst ≠ some t) → a.tmps.getD t undef = a0.tmps.getD t undef
  fact : ∀ j oj φ, j < n → listed.getD j false = true → ops[j]? = some oj → tells Ψ j = some φ → Region.wanted oj (yielded ops (frame ops a0 vals j).tmps) = true → φ (vals j) w

theorem oblig_at (hR : RelOk ops n) {m vals : Nat → Value} (hg : good P ops w0 Ψ Q m vals (ops.toList.take n) 0 a0 []) {j : Nat} {oj : Oper} (hj : j < n) (ej : ops[j]? = some oj) :
    oblig P ops w0 Ψ m vals oj j (frame ops a0 vals j) (factsOf ops Ψ vals (ops.toList.take j) 0 a0 []) := by
  have := good_at _ _ _ _ hg j oj (by rw [List.getElem?_take, if_pos hj]; simpa using ej)
  rw [List.take_take, Nat.min_eq_left (by omega)] at this
  simpa [frame] using this
theorem fact_mem {vals : Nat → Value} {j : Nat} {x : Nat × (World → Prop)} (hx : x ∈ factsOf ops Ψ vals (ops.toList.take j) 0 a0 []) :
    ∃ k o φ, k < j ∧ ops[k]? = some o ∧ tells Ψ k = some φ ∧ Region.wanted o (yielded ops (frame ops a0 vals k).tmps) = true ∧ x = (k, φ (vals k)) := by
  rcases mem_factsOf _ _ _ _ x hx with h | ⟨k, o, φ, h1, h2, h3, h4⟩
  · cases h
  · rw [List.getElem?_take] at h1
    split at h1
    · rename_i hlt
      rw [List.take_take, Nat.min_eq_left (by omega)] at h3
      rw [Nat.zero_add] at h2 h4
      exact ⟨k, o, φ, hlt, by simpa using h1, h2, h3, h4⟩
    · cases h1

theorem frame_same (hR : RelOk ops n) {vals vals' : Nat → Value} {i : Nat} {oi : Oper} (hi : i < n) (ei : ops[i]? = some oi) (h : ∀ k, k < n → (ancOf ops i).testBit k = true → vals k = vals' k) :
    ∀ t ∈ oi.looksAt ops, (frame ops a0 vals i).tmps.getD t undef = (frame ops a0 vals' i).tmps.getD t undef := by
  intro t ht
  by_cases hex : ∃ k ok, k < i ∧ ops[k]? = some ok ∧ ok.dst = some t
  · obtain ⟨k, ok, hk, ek, hd⟩ := hex
    rcases Nat.lt_or_ge t a0.tmps.size with hlt | hge
    · rw [frame_at hR vals (by omega) hk ek hd hlt, frame_at hR vals' (by omega) hk ek hd hlt]
      rcases hR.look i k oi ok t hi (by omega) ei ek hd ht with h1 | h1 | h1
      · exact h k (by omega) h1
      · omega
      · omega
    · rw [getD_over _ _ (by rw [frame_size]; exact hge), getD_over _ _ (by rw [frame_size]; exact hge)]
  · have h0 : ∀ k ok, k < i → ops[k]? = some ok → ok.dst ≠ some t := fun k ok hk ek hd => hex ⟨k, ok, hk, ek, hd⟩
    rw [frame_off vals h0, frame_off vals' h0]

theorem real_same (hR : RelOk ops n) {listed : Array Bool} {a : Act} {w : World} {m vals : Nat → Value} (st : St P ops n w0 Ψ Q a0 listed a w m vals) {i : Nat} {oi : Oper} (hi : i < n) (ei : ops[i]? = some oi)
    (hun : listed.getD i false = false) (hall : ∀ e ∈ oi.after, Region.binds .any e = true → listed.getD e.on false = true) :
    ∀ t ∈ oi.looksAt ops, a.tmps.getD t undef = (frame ops a0 vals i).tmps.getD t undef := by
  intro t ht
  have hanc : ∀ k, k < n → (ancOf ops i).testBit k = true → listed.getD k false = true :=
    anc_listed hR st.inv i hi (fun oj ej => by rw [ei] at ej; cases ej; exact hall)
  by_cases hex : ∃ k ok, k < n ∧ ops[k]? = some ok ∧ ok.dst = some t
  · obtain ⟨k, ok, hk, ek, hd⟩ := hex
    have hot : ∀ j oj, j < n → ops[j]? = some oj → j ≠ k → oj.dst ≠ some t := fun j oj hj ej hne => hR.dst j k oj ok t hj hk ej ek hd hne
    rcases Nat.lt_or_ge t a0.tmps.size with hlt | hge
    · rcases hR.look i k oi ok t hi hk ei ek hd ht with h1 | h1 | ⟨h1, h2⟩
      · have hki := (hR.anc i k oi hi hk ei h1).1
        rw [st.lies k ok t hk (hanc k hk h1) ek hd hlt, frame_at hR vals (by omega) hki ek hd hlt]
      · subst h1
        rw [st.off t (fun j oj hj hl ej => by
          by_cases hji : j = i
          · subst hji; rw [hun] at hl; cases hl
          · exact hot j oj hj ej hji), frame_off vals (fun j oj hj ej => hot j oj (by omega) ej (by omega))]
      · have hnl : listed.getD k false = false := by
          cases hl : listed.getD k false with
          | false => rfl
          | true =>
            have := anc_listed hR st.inv k hk (fun oj ej e he hb => st.inv.closed k oj ej hl e he hb) i hi h2
            rw [hun] at this; cases this
        rw [st.off t (fun j oj hj hl ej => by
          by_cases hji : j = k
          · subst hji; rw [hnl] at hl; cases hl
          · exact hot j oj hj ej hji), frame_off vals (fun j oj hj ej => hot j oj (by omega) ej (by omega))]
    · rw [getD_over _ _ (by rw [st.size]; exact hge), getD_over _ _ (by rw [frame_size]; exact hge)]
  · rw [st.off t (fun j oj hj _ ej hd => hex ⟨j, oj, hj, ej, hd⟩), frame_off vals (fun j oj hj ej hd => hex ⟨j, oj, by omega, ej, hd⟩)]

theorem calls_agree {P : Program} {f : FuncId} {args : Array Value} {w : World} {v v' : Value} {R R' : World → Prop} (h : Calls P f args w fun e w2 => e = .returned v ∧ R w2)
    (h' : Calls P f args w fun e w2 => e = .returned v' ∧ R' w2) (hi : P.inits.idxOf? f = none) : v = v' := by
  have g : Calls P f args w fun | .returned u, _ => u = v | _, _ => False := h.mono fun e _ ⟨he, _⟩ => by subst he; rfl
  have g' : Calls P f args w fun | .returned u, _ => u = v' | _, _ => False := h'.mono fun e _ ⟨he, _⟩ => by subst he; rfl
  obtain ⟨n, u, w1, e1, r1⟩ := g.done (R := fun u _ => u = v) hi
  obtain ⟨m, u', w2, e2, r2⟩ := g'.done (R := fun u _ => u = v') hi
  have a := runN_ended e1 m
  have b := runN_ended e2 n
  rw [Nat.add_comm, a] at b
  injection b with ho hw
  injection ho with hv
  rw [← r1, ← r2, hv]
theorem detUpon_inj {w : World} {v v' : Value} {r : Result Next} (h : detUpon P w v r) (h' : detUpon P w v' r) : v = v' := by
  cases r with
  | ok x w' =>
    cases x <;> simp only [detUpon] at h h'
    case value u => rw [← h.2, ← h'.2]
    case skip => rw [← h.2, ← h'.2]
    case enter f args => exact calls_agree h.2.2 h'.2.2 h.2.1
  | halt x w' => simp only [detUpon] at h

theorem agree (hR : RelOk ops n) {listed : Array Bool} {a : Act} {w : World} {m vals m' vals' : Nat → Value} (st : St P ops n w0 Ψ Q a0 listed a w m vals)
    (hg' : good P ops w0 Ψ Q m' vals' (ops.toList.take n) 0 a0 []) (hm : ∀ j, listed.getD j false = true → m j = m' j) : ∀ (j : Nat), j < n → listed.getD j false = true → vals j = vals' j := by
  intro j
  induction j using Nat.strongRecOn with
  | _ j ih =>
    intro hj hl
    have hjs : j < ops.size := Nat.lt_of_lt_of_le hj hR.le
    have ej : ops[j]? = some ops[j] := by simp [hjs]
    have hanc : ∀ k, k < n → (ancOf ops j).testBit k = true → listed.getD k false = true :=
      anc_listed hR st.inv j hj (fun oj ej e he hb => st.inv.closed j oj ej hl e he hb)
    have hlt : ∀ k, k < n → (ancOf ops j).testBit k = true → k < j := fun k hk hb => (hR.anc j k _ hj hk ej hb).1
    have hv : ∀ k, k < n → (ancOf ops j).testBit k = true → vals k = vals' k := fun k hk hb => ih k (hlt k hk hb) hk (hanc k hk hb)
    obtain ⟨he, hw⟩ := same_exec (Region.noSelect_spec hR.sel j _ · · ej) (by rw [frame_size, frame_size]) (frame_same (a0 := a0) hR hj ej hv)
    have o1 := oblig_at hR st.good hj ej
    have o2 := oblig_at hR hg' hj ej
    have f1 : factsAnc (ancOf ops j) (factsOf ops Ψ vals (ops.toList.take j) 0 a0 []) w := factsAnc_of fun x hx hb => by
      obtain ⟨k, o, φ, hk, ek, ht, hwk, rfl⟩ := fact_mem hx
      exact st.fact k o φ (by omega) (hanc k (by omega) hb) ek ht hwk
    have f2 : factsAnc (ancOf ops j) (factsOf ops Ψ vals' (ops.toList.take j) 0 a0 []) w := factsAnc_of fun x hx hb => by
      obtain ⟨k, o, φ, hk, ek, ht, hwk, rfl⟩ := fact_mem hx
      have hkn : k < n := by omega
      have hlk := hanc k hkn hb
      have hvk : ∀ q, q < n → (ancOf ops k).testBit q = true → vals q = vals' q := fun q hq hbq => by
        have hqk := (hR.anc k q o hkn hq ek hbq).1
        exact ih q (by omega) hq (anc_listed hR st.inv k hkn (fun oj ej e he hb => st.inv.closed k oj ej hlk e he hb) q hq hbq)
      have hwe := (same_exec (Region.noSelect_spec hR.sel k _ · · ek) (by rw [frame_size, frame_size]) (frame_same (a0 := a0) hR hkn ek hvk)).2
      have := st.fact k o φ hkn hlk ek ht (by rw [hwe]; exact hwk)
      rw [ih k hk hkn hlk] at this
      exact this
    rcases o1 with ⟨h1, h2⟩ | ⟨h1, h2, h3⟩ | ⟨h1, h2, φ, h3, h4⟩ <;> rcases o2 with ⟨g1, g2⟩ | ⟨g1, g2, g3⟩ | ⟨g1, g2, φ', g3, g4⟩
    · rw [h2, g2]
    · rw [hw, g1] at h1; cases h1
    · rw [hw, g1] at h1; cases h1
    · rw [hw, g1] at h1; cases h1
    · have d1 := h3 w st.ext f1
      have d2 := g3 w st.ext f2
      unfold detAt at d1 d2
      rw [he] at d1
      exact detUpon_inj d1 d2
    · rw [h2] at g3; cases g3
    · rw [hw, g1] at h1; cases h1
    · rw [g2] at h3; cases h3
    · rw [h2, g2]; exact hm j hl

theorem st_step (hR : RelOk ops n) (hst : ∀ i φ, tells Ψ i = some φ → ∀ v w w', Ext w w' → φ v w → φ v w') {listed : Array Bool} {a : Act} {w w' : World} {m vals m' vals' : Nat → Value} (st : St P ops n w0 Ψ Q a0 listed a w m vals)
    (hg' : good P ops w0 Ψ Q m' vals' (ops.toList.take n) 0 a0 []) (hm : ∀ j, listed.getD j false = true → m j = m' j) (hx : Ext w w') {i : Nat} {oi : Oper} (hi : i < n) (ei : ops[i]? = some oi) (hr : i ∈ Region.ready .any ops listed)
    (hf : ∀ φ, tells Ψ i = some φ → Region.wanted oi (yielded ops (frame ops a0 vals' i).tmps) = true → φ (vals' i) w') :
    St P ops n w0 Ψ Q a0 (listed.setIfInBounds i true) (a.put oi.dst (vals' i)) w' m' vals' := by
  have hag := agree hR st hg' hm
  have hz : i < listed.size := by rw [st.inv.size]; exact (Array.getElem?_eq_some_iff.1 ei).1
  have old : ∀ j, j ≠ i → (listed.setIfInBounds i true).getD j false = true → listed.getD j false = true := fun j hne h => by
    rwa [getD_set_ne false (Ne.symm hne)] at h
  refine ⟨st.inv.set hr hi, hg', st.ext.trans hx, by rw [size_put, st.size], by rw [defers_put, st.defers], ?_, ?_, ?_⟩
  · intro j oj t hj hl ej hd ht
    by_cases hji : j = i
    · subst hji
      rw [ei] at ej; cases ej
      rw [hd, getD_put_eq _ _ _ (by rw [st.size]; exact ht)]
    · rw [getD_put_ne _ _ _ _ (fun h => hR.dst j i oj oi t hj hi ej ei h hji hd), st.lies j oj t hj (old j hji hl) ej hd ht, hag j hj (old j hji hl)]
  · intro t h
    rw [getD_put_ne _ _ _ _ (h i oi hi (by simp [hz]) ei)]
    exact st.off t fun j oj hj hl ej => h j oj hj (getD_set_true hl) ej
  · intro j oj φ hj hl ej ht hw
    by_cases hji : j = i
    · subst hji
      rw [ei] at ej; cases ej
      exact hf φ ht hw
    · have hlj := old j hji hl
      have hv : ∀ k, k < n → (ancOf ops j).testBit k = true → vals k = vals' k := fun k hk hb =>
        hag k hk (anc_listed hR st.inv j hj (fun oj ej e he hb => st.inv.closed j oj ej hlj e he hb) k hk hb)
      have hwe := (same_exec (Region.noSelect_spec hR.sel j _ · · ej) (by rw [frame_size, frame_size]) (frame_same (a0 := a0) hR hj ej hv)).2
      rw [← hag j hj hlj]
      exact hst j φ ht _ _ _ hx (st.fact j oj φ hj hlj ej ht (by rw [hwe]; exact hw))

/-- How many of the first operations have not come up. -/
def left (listed : Array Bool) : Nat → Nat
  | 0 => 0
  | k + 1 => left listed k + (if listed.getD k true = true then 0 else 1)
theorem left_past (listed : Array Bool) (i : Nat) : ∀ k, k ≤ i → left (listed.setIfInBounds i true) k = left listed k
  | 0, _ => rfl
  | k + 1, h => by rw [left, left, left_past listed i k (by omega), getD_set_ne true (by omega)]
theorem left_set (listed : Array Bool) (i : Nat) (hz : i < listed.size) (hu : listed.getD i true = false) : ∀ k, i < k → left (listed.setIfInBounds i true) k + 1 = left listed k
  | 0, h => by omega
  | k + 1, h => by
    rw [left, left]
    by_cases hk : i = k
    · subst hk
      rw [left_past listed i i (Nat.le_refl _), hu, show (listed.setIfInBounds i true).getD i true = true by simp]
      simp
    · rw [← left_set listed i hz hu k (by omega), getD_set_ne true hk]; omega
theorem left_zero (listed : Array Bool) : ∀ k, left listed k = 0 → ∀ i, i < k → listed.getD i true = true
  | 0, _, i, h => by omega
  | k + 1, h, i, hi => by
    rw [left] at h
    have h2 : listed.getD k true = true := by
      by_cases hk : listed.getD k true = true
      · exact hk
      · rw [if_neg hk] at h; omega
    rw [if_pos h2] at h
    by_cases hik : i = k
    · subst hik; exact h2
    · exact left_zero listed k (by omega) i (by omega)
theorem left_pos (listed : Array Bool) : ∀ k, left listed k ≠ 0 → ∃ i, i < k ∧ listed.getD i true = false ∧ ∀ j, j < i → listed.getD j true = true
  | 0, h => absurd rfl h
  | k + 1, h => by
    by_cases h0 : left listed k = 0
    · refine ⟨k, by omega, ?_, left_zero listed k h0⟩
      rw [left, h0] at h
      by_cases hk : listed.getD k true = true
      · rw [if_pos hk] at h; omega
      · simpa using hk
    · obtain ⟨i, hi, h1, h2⟩ := left_pos listed k h0
      exact ⟨i, by omega, h1, h2⟩

theorem any_of_st (hR : RelOk ops n) (hst : ∀ i φ, tells Ψ i = some φ → ∀ v w w', Ext w w' → φ v w → φ v w') (hrel : wpRel P ops w0 Ψ Q (ops.toList.take n) 0 a0 []) {Q' : Exit → Act → World → Prop} {g : Nat}
    (hQ : ∀ a w, Q a w → wpAny P .any ops Q' g (Array.replicate n true ++ Array.replicate (ops.size - n) false) a w) :
    ∀ (f : Nat) (listed : Array Bool) (a : Act) (w : World) (m vals : Nat → Value), St P ops n w0 Ψ Q a0 listed a w m vals → left listed n = f → wpAny P .any ops Q' (f + g) listed a w := by
  intro f
  induction f with
  | zero =>
    intro listed a w m vals st hl
    have hall := left_zero listed n hl
    have hallF : ∀ j, j < n → listed.getD j false = true := fun j hj => by
      have hjz : j < listed.size := by rw [st.inv.size]; exact Nat.lt_of_lt_of_le hj hR.le
      have := hall j hj
      simp [hjz] at this ⊢
      exact this
    have e : listed = Array.replicate n true ++ Array.replicate (ops.size - n) false := by
      apply Array.ext_getElem?
      intro k
      have hz := st.inv.size
      have hle := hR.le
      by_cases hk : k < ops.size
      · have hkz : k < listed.size := by omega
        rw [Array.getElem?_eq_getElem hkz]
        by_cases hkn : k < n
        · rw [Array.getElem?_append_left (by simpa using hkn)]
          have := hall k hkn
          simp [hkz] at this
          simp [this, hkn]
        · rw [Array.getElem?_append_right (by simp; omega)]
          have := st.inv.tail k (by omega) hk
          simp [hkz] at this
          rw [this, Array.getElem?_replicate, Array.size_replicate, if_pos (by omega)]
      · rw [Array.getElem?_eq_none (by omega), Array.getElem?_eq_none (by simp; omega)]
    have ea : a = frame ops a0 vals n := by
      have e2 : a.tmps = (frame ops a0 vals n).tmps := by
        apply Array.ext_getElem?
        intro t
        rcases Nat.lt_or_ge t a0.tmps.size with hlt | hge
        · have e3 : a.tmps.getD t undef = (frame ops a0 vals n).tmps.getD t undef := by
            by_cases hex : ∃ k ok, k < n ∧ ops[k]? = some ok ∧ ok.dst = some t
            · obtain ⟨k, ok, hk, ek, hd⟩ := hex
              rw [st.lies k ok t hk (hallF k hk) ek hd hlt, frame_at hR vals (Nat.le_refl _) hk ek hd hlt]
            · rw [st.off t (fun j oj hj _ ej hd => hex ⟨j, oj, hj, ej, hd⟩), frame_off vals (fun j oj hj ej hd => hex ⟨j, oj, hj, ej, hd⟩)]
          have h1 : t < a.tmps.size := by rw [st.size]; exact hlt
          have h2 : t < (frame ops a0 vals n).tmps.size := by rw [frame_size]; exact hlt
          rw [Array.getElem?_eq_getElem h1, Array.getElem?_eq_getElem h2]
          simp only [Array.getD_eq_getD_getElem?, Array.getElem?_eq_getElem h1, Array.getElem?_eq_getElem h2, Option.getD_some] at e3
          rw [e3]
        · rw [Array.getElem?_eq_none (by rw [st.size]; exact hge), Array.getElem?_eq_none (by rw [frame_size]; exact hge)]
      have e4 : a.defers = (frame ops a0 vals n).defers := by rw [st.defers]; exact (defers_putAll _ _ _ _).symm
      cases a
      simp only at e2 e4
      subst e2 e4
      rfl
    rw [Nat.zero_add, e, ea]
    refine hQ _ _ (good_end _ _ _ _ st.good w st.ext (factsAll_of fun x hx => ?_))
    obtain ⟨k, o, φ, hk, ek, ht, hw, rfl⟩ := fact_mem hx
    exact st.fact k o φ hk (hallF k hk) ek ht hw
  | succ f ih =>
    intro listed a w m vals st hl
    obtain ⟨i0, hi0, hu0, hb0⟩ := left_pos listed n (by omega)
    have hr0 : i0 ∈ Region.ready .any ops listed := by
      have hz : i0 < ops.size := Nat.lt_of_lt_of_le hi0 hR.le
      refine mem_ready.2 ⟨hu0, ops[i0], by simp [hz], fun e he hb => ?_⟩
      have hlt := hR.edge i0 _ hi0 (by simp [hz]) e he hb
      have hez : e.on < listed.size := by rw [st.inv.size]; omega
      have := hb0 e.on hlt
      simp [hez] at this ⊢
      exact this
    rw [show f + 1 + g = (f + g) + 1 by omega]
    refine ⟨fun h => (by rw [h] at hr0; cases hr0), fun i hr => ?_⟩
    obtain ⟨hun, oi, ei, hall⟩ := mem_ready.1 hr
    have hiz : i < ops.size := (Array.getElem?_eq_some_iff.1 ei).1
    have hi : i < n := by
      rcases Nat.lt_or_ge i n with h | h
      · exact h
      · rcases hR.tail with h1 | ⟨h1, h2⟩
        · omega
        · exact absurd hr (tail_waits h1 h2 (by omega) st.inv _ i0 rfl hi0 hu0 i h)
    have hunF : listed.getD i false = false := getD_both hun
    have hlz : i < listed.size := by rw [st.inv.size]; exact hiz
    have hleft : left (listed.setIfInBounds i true) n = f := by
      have := left_set listed i hlz hun n hi
      omega
    obtain ⟨he, hw⟩ := same_exec (Region.noSelect_spec hR.sel i _ · · ei) (by rw [frame_size, st.size]) (real_same hR st hi ei hunF hall)
    have hancL : ∀ k, k < n → (ancOf ops i).testBit k = true → listed.getD k false = true :=
      anc_listed hR st.inv i hi (fun oj ej => by rw [ei] at ej; cases ej; exact hall)
    have fA : factsAnc (ancOf ops i) (factsOf ops Ψ vals (ops.toList.take i) 0 a0 []) w := factsAnc_of fun x hx hb => by
      obtain ⟨k, o, φ, hk, ek, ht, hwk, rfl⟩ := fact_mem hx
      exact st.fact k o φ (by omega) (hancL k (by omega) hb) ek ht hwk
    have keep : ∀ (u : Value) (w' : World), Ext w w' → u = vals i → (∀ φ, tells Ψ i = some φ → Region.wanted oi (yielded ops (frame ops a0 vals i).tmps) = true → φ (vals i) w') →
        wpAny P .any ops Q' (f + g) (listed.setIfInBounds i true) (a.put oi.dst u) w' := fun u w' hx hu hf => by
      subst hu
      exact ih _ _ _ m vals (st_step hR hst st st.good (fun _ _ => rfl) hx hi ei hr hf) hleft
    unfold wpOp
    simp only [ei]
    rcases oblig_at hR st.good hi ei with ⟨h1, h2⟩ | ⟨h1, h2, h3⟩ | ⟨h1, h2, φ, h3, h4⟩
    · rw [if_neg (by rw [hw, h1]; simp)]
      exact keep _ _ (Below.refl _ _) h2.symm (fun φ _ hwt => by rw [h1] at hwt; cases hwt)
    · rw [if_pos (by rw [hw, h1])]
      refine .inl ?_
      have d := h3 w st.ext fA
      unfold detAt at d
      unfold Oper.wp
      rw [he]
      generalize (execOp (frame ops a0 vals i).eval oi).run P w = r at d
      cases r with
      | ok x w' =>
        cases x <;> simp only [detUpon] at d <;> simp only [Oper.upon]
        case value u => obtain ⟨d1, d2⟩ := d; rw [d1]; exact keep u _ (Below.refl _ _) d2 (fun φ ht _ => by rw [h2] at ht; cases ht)
        case skip => obtain ⟨d1, d2⟩ := d; rw [d1]; exact keep undef _ (Below.refl _ _) d2 (fun φ ht _ => by rw [h2] at ht; cases ht)
        case enter f args =>
          obtain ⟨d1, _, d2⟩ := d
          rw [d1]
          refine d2.mono fun e w'' ⟨he, hx⟩ => ?_
          subst he
          exact keep _ _ hx rfl (fun φ ht _ => by rw [h2] at ht; cases ht)
      | halt x w' => simp only [detUpon] at d
    · rw [if_pos (by rw [hw, h1])]
      refine .inl ?_
      have go : ∀ (u : Value) (w' : World), Ext w w' → φ u w' → wpAny P .any ops Q' (f + g) (listed.setIfInBounds i true) (a.put oi.dst u) w' := by
        intro u w' hx hφ
        obtain ⟨vals', hg'⟩ := good_of_rel (fun j => if j = i then u else m j) _ _ _ _ hrel
        have hm : ∀ j, listed.getD j false = true → m j = (fun j => if j = i then u else m j) j := fun j hj => by
          have : j ≠ i := fun h => by subst h; rw [hunF] at hj; cases hj
          simp [this]
        have hag := agree hR st hg' hm
        have hwe := (same_exec (Region.noSelect_spec hR.sel i _ · · ei) (by rw [frame_size, frame_size]) (frame_same (a0 := a0) hR hi ei (fun k hk hb => hag k hk (hancL k hk hb)))).2
        have hv : vals' i = u := by
          rcases oblig_at hR hg' hi ei with ⟨g1, _⟩ | ⟨_, g2, _⟩ | ⟨_, g2, _⟩
          · rw [← hwe, h1] at g1; cases g1
          · rw [h3] at g2; cases g2
          · rw [g2]; simp
        have := ih _ _ _ _ vals' (st_step hR hst st hg' hm hx hi ei hr (fun φ' ht _ => by
          rw [h3] at ht; cases ht
          rw [hv]; exact hφ)) hleft
        rw [hv] at this
        exact this
      have d := h4 w st.ext fA
      unfold makeAt at d
      unfold Oper.wp
      rw [he]
      generalize (execOp (frame ops a0 vals i).eval oi).run P w = r at d
      cases r with
      | ok x w' =>
        cases x <;> simp only [makeUpon] at d <;> simp only [Oper.upon]
        case value u => exact go u w' d.1 d.2
        case enter f args =>
          obtain ⟨d1, d2⟩ := d
          rw [d1]
          refine d2.mono fun e w'' ⟨v, he, hx, hφ⟩ => ?_
          subst he
          exact go v w'' hx hφ
      | halt x w' => simp only [makeUpon] at d
end

/-- A REGION THAT DRAWS ITS ORDER: the first n operations by the walk in the order of the text, the rest one by one behind them. -/
theorem wp_region_rel {P : Program} {id : Nat} {Q : Exit → Act → World → Prop} {a : Act} {w : World} {l : List Oper} (n : Nat) (Ψ : List (Nat × (Value → World → Prop))) (hm : P.follows .mixedOrders = true) (hB : relOk l.toArray n = true)
    (hst : ∀ i φ, tells Ψ i = some φ → ∀ v w w', Ext w w' → φ v w → φ v w')
    (h : wpRel P l.toArray w.drew Ψ (fun a' w' => wpList P l.toArray Q (l.drop n) a' w') (l.take n) 0 a []) : (Code.region id l.toArray true).wp P Q a w := by
  have hR := relOk_spec hB
  refine wp_region_any hm ?_
  obtain ⟨vals, hg⟩ := good_of_rel (fun _ => undef) _ _ _ _ h
  have hn : n ≤ l.length := by simpa using hR.le
  have hdl : (l.drop n).length = l.toArray.size - n := by simp
  have key := any_of_st (P := P) (ops := l.toArray) (n := n) (w0 := w.drew) (Ψ := Ψ) (Q := fun a' w' => wpList P l.toArray Q (l.drop n) a' w') (a0 := a) hR hst (by simpa using h) (Q' := Q) (g := l.toArray.size - n)
    (fun a' w' hq => by
      have := wpAny_of_seq (md := .any) (Q' := Q) (l.drop n) n (Array.replicate n true ++ Array.replicate (l.toArray.size - n) false) a' w' (fun j => by simp [List.getElem?_drop]) (by rw [hdl]; exact hR.seq) hq
      rwa [hdl] at this)
    n (Array.replicate l.toArray.size false) a w.drew (fun _ => undef) vals
    ⟨⟨by simp, fun j oj _ hl => (by rw [getD_replicate_false] at hl; cases hl), fun t _ ht => getD_in (by simpa using ht) (getD_replicate_false _ _)⟩, by simpa using hg, Below.refl _ _, rfl, rfl,
      fun j _ _ _ hl => (by rw [getD_replicate_false] at hl; cases hl), fun _ _ => rfl, fun j _ _ _ hl => (by rw [getD_replicate_false] at hl; cases hl)⟩ ?_
  · rw [show n + (l.toArray.size - n) = l.toArray.size by simp; omega] at key
    exact key
  · have : ∀ k, k ≤ l.toArray.size → left (Array.replicate l.toArray.size false) k = k := by
      intro k
      induction k with
      | zero => intro _; rfl
      | succ k ih =>
        intro hk
        rw [left, ih (by omega), if_neg (by rw [getD_in (by rw [Array.size_replicate]; omega) (getD_replicate_false _ _)]; simp)]
    exact this n hR.le

/-! ### Worlds behind a call, in one form that the walk computes with -/
/-- w with draws and new blocks. -/
def exw (w : World) (p : Regrown) : World := Go.Sort.grow (redrawn w p.d) p.os
theorem exw_of {w w' : World} (h : Ext w w') : ∃ p, w' = exw w p := regrown_of_below h
theorem ext_exw (w : World) (p : Regrown) : Ext w (exw w p) := below_regrown w p.d p.os
@[simp, go_sem] theorem exw_size (w : World) (p : Regrown) : (exw w p).heap.size = w.heap.size + p.os.size := by simp [exw, redrawn]
@[simp, go_sem] theorem exw_tape (w : World) (p : Regrown) : (exw w p).tape = w.tape := rfl
theorem exw_heap (w : World) (p : Regrown) {n : Nat} (h : n < w.heap.size) : (exw w p).heap[n]? = w.heap[n]? := (ext_exw w p).block n h
@[go_sem] theorem exw_cell (w : World) (p : Regrown) (n i : Nat) (h : n < w.heap.size) : (exw w p).cell? ⟨n, i, none⟩ = w.cell? ⟨n, i, none⟩ := (ext_exw w p).cell (p := ⟨n, i, none⟩) h
@[go_sem] theorem exw_frozen (w : World) (p : Regrown) (n i : Nat) (h : n < w.heap.size) : (exw w p).frozen? ⟨n, i, none⟩ = w.frozen? ⟨n, i, none⟩ := (ext_exw w p).frozen (p := ⟨n, i, none⟩) h
@[go_sem] theorem exw_shape (w : World) (p : Regrown) (n : Nat) (h : n < w.heap.size) : (exw w p).shape? n = w.shape? n := by
  simp only [World.shape?, exw_heap w p h]
@[go_sem] theorem exw_setCell (w : World) (p : Regrown) (n i : Nat) (v : Value) (h : n < w.heap.size) : (exw w p).setCell ⟨n, i, none⟩ v = exw (w.setCell ⟨n, i, none⟩ v) p := by
  simp only [exw, World.setCell, Go.Sort.grow, redrawn, Go.Sort.modify_append_left _ _ _ _ h]
theorem below_exw {B : Nat} {a w : World} (h : Below B a w) (hB : B ≤ w.heap.size) (p : Regrown) : Below B a (exw w p) := h.trans ((ext_exw w p).mono hB)
theorem ext_cell {w w' : World} (h : Ext w w') {a : Addr} {v : Value} (hc : w.cell? a = some v) : w'.cell? a = some v := by
  rw [h.cell (block_lt_of_cell hc)]; exact hc

@[go_sem] theorem lt_over {n m : Nat} (k : Nat) (h : n < m) : (n < m + k) = True := by simp; omega
@[go_sem] theorem lt_over1 {n m : Nat} (h : n ≤ m) : (n < m + 1) = True := by simp; omega
@[go_sem] theorem lt_over2 {n m : Nat} (h : n ≤ m) : (n < m + 2) = True := by simp; omega
@[go_sem] theorem lt_over3 {n m : Nat} (h : n ≤ m) : (n < m + 3) = True := by simp; omega
@[go_sem] theorem lt_over4 {n m : Nat} (h : n ≤ m) : (n < m + 4) = True := by simp; omega
@[go_sem] theorem le_over {n m : Nat} (k : Nat) (h : n ≤ m) : (n ≤ m + k) = True := by simp; omega
@[go_sem] theorem exw_exw (w : World) (p q : Regrown) : exw (exw w p) q = exw w ⟨q.d, p.os ++ q.os⟩ := by simp [exw, Go.Sort.grow, redrawn, Array.append_assoc]
@[go_sem] theorem exw_drew (w : World) (p : Regrown) : exw w.drew p = exw w p := rfl
@[go_sem] theorem exw_drew_exw (w : World) (p q : Regrown) : exw (exw w p).drew q = exw w ⟨q.d, p.os ++ q.os⟩ := by simp [exw, Go.Sort.grow, redrawn, World.drew, Array.append_assoc]

@[go_sem] theorem run_index_arr {P : Program} (w : World) (t : TypeId) (k : IntKind) (i : Int) (cs : Array Value) (ht : P.underlying t = some (.array (P.arrayLen t) (P.elem t))) (h : 0 ≤ i ∧ i < (P.arrayLen t : Int)) :
    (Instr.index t (.agg cs) (.int k i)).run P w = ((sizeOf (P.elem t)).run P w).andThen fun s w' => (part (P.elem t) cs (i.toNat * s)).run P w' := by
  simp [Instr.index, asIntOf, run_underlying ht, h.1, h.2]

theorem wanted_none {o : Oper} {y} (h : o.guard = none) : Region.wanted o y = true := by
  unfold Region.wanted; rw [h]
/-! ### The steps of the walk -/
def callPost (w : World) (φ : Value → World → Prop) (e : Ending) (w2 : World) : Prop := ∃ v, e = .returned v ∧ Ext w w2 ∧ φ v w2
def newPost (w : World) (φ : Value → World → Prop) (u : Value) (w2 : World) : Prop := Ext w w2 ∧ φ u w2
def detVal (w w' : World) (u v : Value) : Prop := w' = w ∧ u = v
def detPost (w : World) (v : Value) (e : Ending) (w2 : World) : Prop := e = .returned v ∧ Ext w w2
section
variable {P : Program} {ops : Array Oper} {w0 : World} {Ψ : List (Nat × (Value → World → Prop))} {Q : Act → World → Prop} {o : Oper} {r : List Oper} {i : Nat} {a : Act} {F : Facts}
theorem rel_skip (hw : Region.wanted o (yielded ops a.tmps) = false) (h : ∀ K : Act → Prop, (∀ a, wpRel P ops w0 Ψ Q r (i + 1) a F → K a) → K (a.put o.dst undef)) : wpRel P ops w0 Ψ Q (o :: r) i a F := by
  unfold wpRel; rw [if_neg (by rw [hw]; simp)]; exact h _ fun _ h => h
def detRun (P : Program) (o : Oper) (a : Act) (w : World) (v : Value) : Prop :=
  match (execOp a.eval o).run P w with
  | .ok (.value u) w' => detVal w w' u v
  | .ok .skip w' => detVal w w' undef v
  | .ok (.enter f args) w' => w' = w ∧ P.inits.idxOf? f = none ∧ Calls P f args w (detPost w v)
  | _ => False
def makeRun (P : Program) (o : Oper) (a : Act) (w : World) (φ : Value → World → Prop) : Prop :=
  match (execOp a.eval o).run P w with
  | .ok (.value u) w' => newPost w φ u w'
  | .ok (.enter f args) w' => w' = w ∧ Calls P f args w (callPost w φ)
  | _ => False
attribute [go_sem] detRun makeRun
theorem rel_det (hw : Region.wanted o (yielded ops a.tmps) = true) (ht : tells Ψ i = none)
    (h : ∀ K : Act → Prop, (∀ a, wpRel P ops w0 Ψ Q r (i + 1) a F → K a) → ∃ v, (∀ p, factsAnc (ancOf ops i) F (exw w0 p) → detRun P o a (exw w0 p) v) ∧ K (a.put o.dst v)) : wpRel P ops w0 Ψ Q (o :: r) i a F := by
  obtain ⟨v, h1, h2⟩ := h _ fun _ h => h
  unfold wpRel; rw [if_pos hw]; simp only [ht]
  refine ⟨v, fun w' hx hf => ?_, h2⟩
  obtain ⟨p, rfl⟩ := exw_of hx
  have := h1 p hf
  unfold detRun at this
  unfold detAt
  generalize (execOp a.eval o).run P (exw w0 p) = q at this
  cases q with
  | ok x w' => cases x <;> simp only [detVal, detPost] at this <;> simp only [detUpon] <;> exact this
  | halt x w' => simp only at this
theorem rel_make {φ : Value → World → Prop} (hw : Region.wanted o (yielded ops a.tmps) = true) (ht : tells Ψ i = some φ)
    (h : ∀ p, factsAnc (ancOf ops i) F (exw w0 p) → makeRun P o a (exw w0 p) φ)
    (hn : ∀ v, ∀ K : Act → Prop, (∀ a, wpRel P ops w0 Ψ Q r (i + 1) a ((i, φ v) :: F) → K a) → K (a.put o.dst v)) : wpRel P ops w0 Ψ Q (o :: r) i a F := by
  unfold wpRel; rw [if_pos hw]; simp only [ht]
  refine ⟨fun w' hx hf => ?_, fun v => hn v _ fun _ h => h⟩
  obtain ⟨p, rfl⟩ := exw_of hx
  have := h p hf
  unfold makeRun at this
  unfold makeAt
  generalize (execOp a.eval o).run P (exw w0 p) = q at this
  cases q with
  | ok x w' => cases x <;> simp only [newPost, callPost] at this <;> simp only [makeUpon] <;> exact this
  | halt x w' => simp only at this
theorem rel_nil (h : ∀ p, factsAll F (exw w0 p) → Q a (exw w0 p)) : wpRel P ops w0 Ψ Q [] i a F := fun w' hx hf => by
  obtain ⟨p, rfl⟩ := exw_of hx; exact h p hf
end
def stableAll : List (Nat × (Value → World → Prop)) → Prop
  | [] => True
  | x :: r => (∀ v w w', Ext w w' → x.2 v w → x.2 v w') ∧ stableAll r
theorem stable_of {Ψ : List (Nat × (Value → World → Prop))} (h : stableAll Ψ) : ∀ i φ, tells Ψ i = some φ → ∀ v w w', Ext w w' → φ v w → φ v w' := by
  induction Ψ with
  | nil => intro i φ ht; cases ht
  | cons x r ih =>
    intro i φ ht
    unfold tells at ht
    split at ht
    · cases ht; exact h.1
    · exact ih h.2 i φ ht
theorem wp_region_rel' {P : Program} {id : Nat} {Q : Exit → Act → World → Prop} {a : Act} {w : World} {l : List Oper} (n : Nat) (Ψ : List (Nat × (Value → World → Prop))) (hst : stableAll Ψ) (hm : P.follows .mixedOrders = true) (hB : relOk l.toArray n = true)
    (h : wpRel P l.toArray w.drew Ψ (fun a' w' => wpList P l.toArray Q (l.drop n) a' w') (l.take n) 0 a []) : (Code.region id l.toArray true).wp P Q a w :=
  wp_region_rel n Ψ hm hB (stable_of hst) h
attribute [irreducible] exw
attribute [irreducible] wpRel
end Go.Xk
