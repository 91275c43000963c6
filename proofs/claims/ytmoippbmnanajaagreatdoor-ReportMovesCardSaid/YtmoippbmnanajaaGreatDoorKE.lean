/- A region that draws its order, walked in the order of the text, by any relation of worlds that is kept: calls, new blocks, appends to slices of the call's own. -/
import Derived.Test.YtmoippbmnanajaaGreatDoorOW
set_option linter.unusedSimpArgs false
set_option linter.unusedVariables false
namespace Go.Xe
open Go.RowKit Go.Xk
/-- A relation of worlds that holds of equal ones, goes on, and lets new blocks by. -/
structure Pre (E : World → World → Prop) : Prop where
  refl : ∀ w, E w w
  trans : ∀ {a b c}, E a b → E b c → E a c
  ext : ∀ {a b}, Ext a b → E a b
  size : ∀ {a b}, E a b → a.heap.size ≤ b.heap.size
/-- What a run that computes, loads, or calls with one answer comes to: that value; nothing that was there has turned. -/
def detUpon (E : World → World → Prop) (P : Program) (w : World) (v : Value) : Result Next → Prop
  | .ok (.value u) w' => w' = w ∧ u = v
  | .ok .skip w' => w' = w ∧ undef = v
  | .ok (.enter f args) w' => w' = w ∧ P.inits.idxOf? f = none ∧ Calls P f args w fun e w2 => e = .returned v ∧ E w w2
  | _ => False
/-- A value's own block is the one that is named, or a new one. -/
def blockOk (w w' : World) (old : Option Nat) (u : Value) : Prop := ∀ b, u.ownBlock = some b → (old = some b ∨ w.heap.size ≤ b) ∧ b < w'.heap.size
/-- What a run that calls, or makes memory, comes to: a value of which φ holds; nothing that was there has turned. -/
def makeUpon (E : World → World → Prop) (P : Program) (w : World) (old : Option Nat) (φ : Value → World → Prop) : Result Next → Prop
  | .ok (.value u) w' => E w w' ∧ φ u w' ∧ blockOk w w' old u
  | .ok .skip w' => E w w' ∧ φ undef w' ∧ blockOk w w' old undef
  | .ok (.enter f args) w' => w' = w ∧ Calls P f args w fun e w2 => ∃ v, e = .returned v ∧ E w w2 ∧ φ v w2 ∧ blockOk w w2 old v
  | _ => False
def detAt (E : World → World → Prop) (P : Program) (o : Oper) (a : Act) (w : World) (v : Value) : Prop := detUpon E P w v ((execOp a.eval o).run P w)
def makeAt (E : World → World → Prop) (P : Program) (o : Oper) (a : Act) (w : World) (old : Option Nat) (φ : Value → World → Prop) : Prop := makeUpon E P w old φ ((execOp a.eval o).run P w)
/-- What has been made, each with its operation's number. -/
abbrev Made := List (Nat × Value)
/-- No two of them lie in one block. -/
def apart (G : Made) : Prop := ∀ x ∈ G, ∀ y ∈ G, x.1 ≠ y.1 → ∀ b, x.2.ownBlock = some b → y.2.ownBlock ≠ some b

section
variable (E : World → World → Prop) (P : Program) (ops : Array Oper) (w0 : World) (O : Nat → Option Nat) (Ψ : List (Nat × (Value → World → Prop))) (Q : Act → World → Prop)
/-- THE WALK IN THE ORDER OF THE TEXT. An operation is shown in every world behind w0 in which the facts of those hold on which it waits. -/
def wpRel : List Oper → Nat → Act → Facts → Made → Prop
  | [], _, a, F, G => ∀ w', E w0 w' → factsAll F w' → apart G → Q a w'
  | o :: r, i, a, F, G =>
    if Region.wanted o (yielded ops a.tmps) = true then
      match tells Ψ i with
      | none => ∃ v, (∀ w', E w0 w' → factsAnc (ancOf ops i) F w' → detAt E P o a w' v) ∧ wpRel r (i + 1) (a.put o.dst v) F G
      | some φ => (∀ w', E w0 w' → factsAnc (ancOf ops i) F w' → makeAt E P o a w' (O i) φ) ∧ ∀ v, wpRel r (i + 1) (a.put o.dst v) ((i, φ v) :: F) ((i, v) :: G)
    else wpRel r (i + 1) (a.put o.dst undef) F G

/-- The walk at values that are given. -/
def good (m vals : Nat → Value) : List Oper → Nat → Act → Facts → Made → Prop
  | [], _, a, F, G => ∀ w', E w0 w' → factsAll F w' → apart G → Q a w'
  | o :: r, i, a, F, G =>
    (Region.wanted o (yielded ops a.tmps) = false ∧ vals i = undef ∧ good m vals r (i + 1) (a.put o.dst (vals i)) F G) ∨
    (Region.wanted o (yielded ops a.tmps) = true ∧ tells Ψ i = none ∧ (∀ w', E w0 w' → factsAnc (ancOf ops i) F w' → detAt E P o a w' (vals i)) ∧ good m vals r (i + 1) (a.put o.dst (vals i)) F G) ∨
    (Region.wanted o (yielded ops a.tmps) = true ∧ vals i = m i ∧ ∃ φ, tells Ψ i = some φ ∧ (∀ w', E w0 w' → factsAnc (ancOf ops i) F w' → makeAt E P o a w' (O i) φ) ∧ good m vals r (i + 1) (a.put o.dst (vals i)) ((i, φ (vals i)) :: F) ((i, vals i) :: G))
end

section
variable {E : World → World → Prop} {P : Program} {ops : Array Oper} {w0 : World} {O : Nat → Option Nat} {Ψ : List (Nat × (Value → World → Prop))} {Q : Act → World → Prop}

theorem good_congr {m vals vals' : Nat → Value} : ∀ (l : List Oper) (i : Nat) (a : Act) (F : Facts) (G : Made), (∀ j, i ≤ j → vals j = vals' j) → good E P ops w0 O Ψ Q m vals l i a F G → good E P ops w0 O Ψ Q m vals' l i a F G
  | [], _, _, _, _, _, h => h
  | o :: r, i, a, F, G, he, h => by
    have hi := he i (Nat.le_refl _)
    have hr : ∀ j, i + 1 ≤ j → vals j = vals' j := fun j hj => he j (by omega)
    rcases h with ⟨h1, h2, h3⟩ | ⟨h1, h2, h3, h4⟩ | ⟨h1, h2, φ, h3, h4, h5⟩
    · exact .inl ⟨h1, by rw [← hi]; exact h2, by rw [← hi]; exact good_congr r _ _ _ _ hr h3⟩
    · exact .inr (.inl ⟨h1, h2, by rw [← hi]; exact h3, by rw [← hi]; exact good_congr r _ _ _ _ hr h4⟩)
    · exact .inr (.inr ⟨h1, by rw [← hi]; exact h2, φ, h3, h4, by rw [← hi]; exact good_congr r _ _ _ _ hr h5⟩)

theorem good_of_rel (m : Nat → Value) : ∀ (l : List Oper) (i : Nat) (a : Act) (F : Facts) (G : Made), wpRel E P ops w0 O Ψ Q l i a F G → ∃ vals, good E P ops w0 O Ψ Q m vals l i a F G
  | [], _, _, _, _, h => ⟨fun _ => undef, h⟩
  | o :: r, i, a, F, G, h => by
    have put : ∀ (u : Value) (F' : Facts) (G' : Made), (∃ vals, good E P ops w0 O Ψ Q m vals r (i + 1) (a.put o.dst u) F' G') → ∃ vals, vals i = u ∧ good E P ops w0 O Ψ Q m vals r (i + 1) (a.put o.dst u) F' G' := by
      rintro u F' G' ⟨vals, hv⟩
      exact ⟨fun j => if j = i then u else vals j, by simp, good_congr r _ _ _ _ (fun j hj => by simp [show j ≠ i by omega]) hv⟩
    unfold wpRel at h
    by_cases hw : Region.wanted o (yielded ops a.tmps) = true
    · rw [if_pos hw] at h
      cases ht : tells Ψ i with
      | none =>
        simp only [ht] at h
        obtain ⟨v, h1, h2⟩ := h
        obtain ⟨vals, hv, hg⟩ := put v F G (good_of_rel m r _ _ _ _ h2)
        exact ⟨vals, .inr (.inl ⟨hw, ht, by rw [hv]; exact h1, by rw [hv]; exact hg⟩)⟩
      | some φ =>
        simp only [ht] at h
        obtain ⟨vals, hv, hg⟩ := put (m i) _ _ (good_of_rel m r _ _ _ _ (h.2 (m i)))
        exact ⟨vals, .inr (.inr ⟨hw, hv, φ, ht, h.1, by rw [hv]; exact hg⟩)⟩
    · rw [if_neg hw] at h
      obtain ⟨vals, hv, hg⟩ := put undef F G (good_of_rel m r _ _ _ _ h)
      exact ⟨vals, .inl ⟨by simpa using hw, hv, by rw [hv]; exact hg⟩⟩
end
/-- What is made by a list of operations, at given values. -/
def madeOf (ops : Array Oper) (Ψ : List (Nat × (Value → World → Prop))) (vals : Nat → Value) : List Oper → Nat → Act → Made → Made
  | [], _, _, G => G
  | o :: r, i, a, G => madeOf ops Ψ vals r (i + 1) (a.put o.dst (vals i)) (if Region.wanted o (yielded ops a.tmps) = true then (match tells Ψ i with | none => G | some _ => (i, vals i) :: G) else G)

section
variable {E : World → World → Prop} {P : Program} {ops : Array Oper} {w0 : World} {O : Nat → Option Nat} {Ψ : List (Nat × (Value → World → Prop))} {Q : Act → World → Prop} {m vals : Nat → Value}
/-- What 'good' says of one operation. -/
def oblig (E : World → World → Prop) (P : Program) (ops : Array Oper) (w0 : World) (O : Nat → Option Nat) (Ψ : List (Nat × (Value → World → Prop))) (m vals : Nat → Value) (o : Oper) (i : Nat) (a : Act) (F : Facts) : Prop :=
    (Region.wanted o (yielded ops a.tmps) = false ∧ vals i = undef) ∨
    (Region.wanted o (yielded ops a.tmps) = true ∧ tells Ψ i = none ∧ (∀ w', E w0 w' → factsAnc (ancOf ops i) F w' → detAt E P o a w' (vals i))) ∨
    (Region.wanted o (yielded ops a.tmps) = true ∧ vals i = m i ∧ ∃ φ, tells Ψ i = some φ ∧ (∀ w', E w0 w' → factsAnc (ancOf ops i) F w' → makeAt E P o a w' (O i) φ))
theorem good_cons {o : Oper} {r : List Oper} {i : Nat} {a : Act} {F : Facts} {G : Made} (h : good E P ops w0 O Ψ Q m vals (o :: r) i a F G) :
    oblig E P ops w0 O Ψ m vals o i a F ∧ good E P ops w0 O Ψ Q m vals r (i + 1) (a.put o.dst (vals i)) (if Region.wanted o (yielded ops a.tmps) = true then (match tells Ψ i with | none => F | some φ => (i, φ (vals i)) :: F) else F) (if Region.wanted o (yielded ops a.tmps) = true then (match tells Ψ i with | none => G | some _ => (i, vals i) :: G) else G) := by
  rcases h with ⟨h1, h2, h3⟩ | ⟨h1, h2, h3, h4⟩ | ⟨h1, h2, φ, h3, h4, h5⟩
  · exact ⟨.inl ⟨h1, h2⟩, by simpa [h1] using h3⟩
  · exact ⟨.inr (.inl ⟨h1, h2, h3⟩), by simpa [h1, h2] using h4⟩
  · exact ⟨.inr (.inr ⟨h1, h2, φ, h3, h4⟩), by simpa [h1, h3] using h5⟩
theorem good_at : ∀ (l : List Oper) (i : Nat) (a : Act) (F : Facts) (G : Made), good E P ops w0 O Ψ Q m vals l i a F G → ∀ k o, l[k]? = some o →
    oblig E P ops w0 O Ψ m vals o (i + k) (putAll vals (l.take k) i a) (factsOf ops Ψ vals (l.take k) i a F)
  | [], _, _, _, _, _, k, o, h => by simp at h
  | o :: r, i, a, F, G, hg, 0, o', h => by
    simp only [List.getElem?_cons_zero, Option.some.injEq] at h
    subst h
    exact (good_cons hg).1
  | o :: r, i, a, F, G, hg, k + 1, o', h => by
    have := good_at r (i + 1) _ _ _ (good_cons hg).2 k o' (by simpa using h)
    rw [show i + 1 + k = i + (k + 1) by omega] at this
    exact this
theorem good_end : ∀ (l : List Oper) (i : Nat) (a : Act) (F : Facts) (G : Made), good E P ops w0 O Ψ Q m vals l i a F G → ∀ w', E w0 w' → factsAll (factsOf ops Ψ vals l i a F) w' → apart (madeOf ops Ψ vals l i a G) → Q (putAll vals l i a) w'
  | [], _, _, _, _, hg => hg
  | o :: r, i, a, F, G, hg => good_end r (i + 1) _ _ _ (good_cons hg).2
theorem mem_madeOf : ∀ (l : List Oper) (i : Nat) (a : Act) (G : Made) (x : Nat × Value), x ∈ madeOf ops Ψ vals l i a G →
    x ∈ G ∨ ∃ k o φ, l[k]? = some o ∧ tells Ψ (i + k) = some φ ∧ Region.wanted o (yielded ops (putAll vals (l.take k) i a).tmps) = true ∧ x = (i + k, vals (i + k))
  | [], _, _, _, x, h => .inl h
  | o :: r, i, a, G, x, h => by
    rcases mem_madeOf r (i + 1) _ _ x h with h | ⟨k, o', φ, h1, h2, h3, h4⟩
    · by_cases hw : Region.wanted o (yielded ops a.tmps) = true
      · rw [if_pos hw] at h
        cases ht : tells Ψ i with
        | none => simp only [ht] at h; exact .inl h
        | some φ =>
          simp only [ht, List.mem_cons] at h
          rcases h with rfl | h
          · exact .inr ⟨0, o, φ, rfl, ht, hw, rfl⟩
          · exact .inl h
      · rw [if_neg hw] at h; exact .inl h
    · rw [show i + 1 + k = i + (k + 1) by omega] at h2 h4
      exact .inr ⟨k + 1, o', φ, by simpa using h1, h2, h3, h4⟩
end

section
variable {E : World → World → Prop} {P : Program} {ops : Array Oper} {n : Nat} {w0 : World} {O : Nat → Option Nat} {Ψ : List (Nat × (Value → World → Prop))} {Q : Act → World → Prop} {a0 : Act}
structure St (E : World → World → Prop) (P : Program) (ops : Array Oper) (n : Nat) (w0 : World) (O : Nat → Option Nat) (Ψ : List (Nat × (Value → World → Prop))) (Q : Act → World → Prop) (a0 : Act) (listed : Array Bool) (a : Act) (w : World) (m vals : Nat → Value) : Prop where
  inv : HeadInv .any ops n listed
  good : good E P ops w0 O Ψ Q m vals (ops.toList.take n) 0 a0 [] []
  ext : E w0 w
  size : a.tmps.size = a0.tmps.size
  defers : a.defers = a0.defers
  lies : ∀ j oj t, j < n → listed.getD j false = true → ops[j]? = some oj → oj.dst = some t → t < a0.tmps.size → a.tmps.getD t undef = vals j
  off : ∀ t, (∀ j oj, j < n → listed.getD j false = true → ops[j]? = some oj → oj.dst ≠ some t) → a.tmps.getD t undef = a0.tmps.getD t undef
  fact : ∀ j oj φ, j < n → listed.getD j false = true → ops[j]? = some oj → tells Ψ j = some φ → Region.wanted oj (yielded ops (frame ops a0 vals j).tmps) = true → φ (vals j) w
  blk : ∀ j oj φ, j < n → listed.getD j false = true → ops[j]? = some oj → tells Ψ j = some φ → Region.wanted oj (yielded ops (frame ops a0 vals j).tmps) = true → ∀ b, (vals j).ownBlock = some b → (O j = some b ∨ w0.heap.size ≤ b) ∧ b < w.heap.size
  pair : ∀ j oj φ k ok φ', j < n → listed.getD j false = true → ops[j]? = some oj → tells Ψ j = some φ → Region.wanted oj (yielded ops (frame ops a0 vals j).tmps) = true →
    k < n → listed.getD k false = true → ops[k]? = some ok → tells Ψ k = some φ' → Region.wanted ok (yielded ops (frame ops a0 vals k).tmps) = true → j ≠ k → ∀ b, (vals j).ownBlock = some b → (vals k).ownBlock ≠ some b

theorem oblig_at (hR : RelOk ops n) {m vals : Nat → Value} (hg : good E P ops w0 O Ψ Q m vals (ops.toList.take n) 0 a0 [] []) {j : Nat} {oj : Oper} (hj : j < n) (ej : ops[j]? = some oj) :
    oblig E P ops w0 O Ψ m vals oj j (frame ops a0 vals j) (factsOf ops Ψ vals (ops.toList.take j) 0 a0 []) := by
  have := good_at _ _ _ _ _ hg j oj (by rw [List.getElem?_take, if_pos hj]; simpa using ej)
  rw [List.take_take, Nat.min_eq_left (by omega)] at this
  simpa [frame] using this

theorem real_same (hR : RelOk ops n) {listed : Array Bool} {a : Act} {w : World} {m vals : Nat → Value} (st : St E P ops n w0 O Ψ Q a0 listed a w m vals) {i : Nat} {oi : Oper} (hi : i < n) (ei : ops[i]? = some oi)
    (hun : listed.getD i false = false) (hall : ∀ e ∈ oi.after, Region.binds .any e = true → listed.getD e.on false = true) :
    ∀ t ∈ oi.looksAt ops, a.tmps.getD t undef = (frame ops a0 vals i).tmps.getD t undef := by
  intro t ht
  have hanc : ∀ k, k < n → (ancOf ops i).testBit k = true → listed.getD k false = true :=
    anc_listed hR st.inv i hi (fun oj ej => by rw [ei] at ej; cases ej; exact hall)
  by_cases hex : ∃ k ok, k < n ∧ ops[k]? = some ok ∧ ok.dst = some t
  · obtain ⟨k, ok, hk, ek, hd⟩ := hex
    have hot : ∀ j oj, j < n → ops[j]? = some oj → j ≠ k → oj.dst ≠ some t := fun j oj hj ej hne => hR.dst j k oj ok t hj hk ej ek hd hne
    rcases Nat.lt_or_ge t a0.tmps.size with hlt | hge
    · rcases hR.look i k oi ok t hi hk ei ek hd ht with h1 | h1 | ⟨h1, h2⟩
      · have hki := (hR.anc i k oi hi hk ei h1).1
        rw [st.lies k ok t hk (hanc k hk h1) ek hd hlt, frame_at hR vals (by omega) hki ek hd hlt]
      · subst h1
        rw [st.off t (fun j oj hj hl ej => by
          by_cases hji : j = i
          · subst hji; rw [hun] at hl; cases hl
          · exact hot j oj hj ej hji), frame_off vals (fun j oj hj ej => hot j oj (by omega) ej (by omega))]
      · have hnl : listed.getD k false = false := by
          cases hl : listed.getD k false with
          | false => rfl
          | true =>
            have := anc_listed hR st.inv k hk (fun oj ej e he hb => st.inv.closed k oj ej hl e he hb) i hi h2
            rw [hun] at this; cases this
        rw [st.off t (fun j oj hj hl ej => by
          by_cases hji : j = k
          · subst hji; rw [hnl] at hl; cases hl
          · exact hot j oj hj ej hji), frame_off vals (fun j oj hj ej => hot j oj (by omega) ej (by omega))]
    · rw [getD_over _ _ (by rw [st.size]; exact hge), getD_over _ _ (by rw [frame_size]; exact hge)]
  · rw [st.off t (fun j oj hj _ ej hd => hex ⟨j, oj, hj, ej, hd⟩), frame_off vals (fun j oj hj ej hd => hex ⟨j, oj, by omega, ej, hd⟩)]


theorem detUpon_inj {E : World → World → Prop} {P : Program} {w : World} {v v' : Value} {r : Result Next} (h : detUpon E P w v r) (h' : detUpon E P w v' r) : v = v' := by
  cases r with
  | ok x w' =>
    cases x <;> simp only [detUpon] at h h'
    case value u => rw [← h.2, ← h'.2]
    case skip => rw [← h.2, ← h'.2]
    case enter f args => exact calls_agree h.2.2 h'.2.2 h.2.1
  | halt x w' => simp only [detUpon] at h

theorem agree (hR : RelOk ops n) {listed : Array Bool} {a : Act} {w : World} {m vals m' vals' : Nat → Value} (st : St E P ops n w0 O Ψ Q a0 listed a w m vals)
    (hg' : good E P ops w0 O Ψ Q m' vals' (ops.toList.take n) 0 a0 [] []) (hm : ∀ j, listed.getD j false = true → m j = m' j) : ∀ (j : Nat), j < n → listed.getD j false = true → vals j = vals' j := by
  intro j
  induction j using Nat.strongRecOn with
  | _ j ih =>
    intro hj hl
    have hjs : j < ops.size := Nat.lt_of_lt_of_le hj hR.le
    have ej : ops[j]? = some ops[j] := by simp [hjs]
    have hanc : ∀ k, k < n → (ancOf ops j).testBit k = true → listed.getD k false = true :=
      anc_listed hR st.inv j hj (fun oj ej e he hb => st.inv.closed j oj ej hl e he hb)
    have hlt : ∀ k, k < n → (ancOf ops j).testBit k = true → k < j := fun k hk hb => (hR.anc j k _ hj hk ej hb).1
    have hv : ∀ k, k < n → (ancOf ops j).testBit k = true → vals k = vals' k := fun k hk hb => ih k (hlt k hk hb) hk (hanc k hk hb)
    obtain ⟨he, hw⟩ := same_exec (Region.noSelect_spec hR.sel j _ · · ej) (by rw [frame_size, frame_size]) (frame_same (a0 := a0) hR hj ej hv)
    have o1 := oblig_at hR st.good hj ej
    have o2 := oblig_at hR hg' hj ej
    have f1 : factsAnc (ancOf ops j) (factsOf ops Ψ vals (ops.toList.take j) 0 a0 []) w := factsAnc_of fun x hx hb => by
      obtain ⟨k, o, φ, hk, ek, ht, hwk, rfl⟩ := fact_mem hx
      exact st.fact k o φ (by omega) (hanc k (by omega) hb) ek ht hwk
    have f2 : factsAnc (ancOf ops j) (factsOf ops Ψ vals' (ops.toList.take j) 0 a0 []) w := factsAnc_of fun x hx hb => by
      obtain ⟨k, o, φ, hk, ek, ht, hwk, rfl⟩ := fact_mem hx
      have hkn : k < n := by omega
      have hlk := hanc k hkn hb
      have hvk : ∀ q, q < n → (ancOf ops k).testBit q = true → vals q = vals' q := fun q hq hbq => by
        have hqk := (hR.anc k q o hkn hq ek hbq).1
        exact ih q (by omega) hq (anc_listed hR st.inv k hkn (fun oj ej e he hb => st.inv.closed k oj ej hlk e he hb) q hq hbq)
      have hwe := (same_exec (Region.noSelect_spec hR.sel k _ · · ek) (by rw [frame_size, frame_size]) (frame_same (a0 := a0) hR hkn ek hvk)).2
      have := st.fact k o φ hkn hlk ek ht (by rw [hwe]; exact hwk)
      rw [ih k hk hkn hlk] at this
      exact this
    rcases o1 with ⟨h1, h2⟩ | ⟨h1, h2, h3⟩ | ⟨h1, h2, φ, h3, h4⟩ <;> rcases o2 with ⟨g1, g2⟩ | ⟨g1, g2, g3⟩ | ⟨g1, g2, φ', g3, g4⟩
    · rw [h2, g2]
    · rw [hw, g1] at h1; cases h1
    · rw [hw, g1] at h1; cases h1
    · rw [hw, g1] at h1; cases h1
    · have d1 := h3 w st.ext f1
      have d2 := g3 w st.ext f2
      unfold detAt at d1 d2
      rw [he] at d1
      exact detUpon_inj d1 d2
    · rw [h2] at g3; cases g3
    · rw [hw, g1] at h1; cases h1
    · rw [g2] at h3; cases h3
    · rw [h2, g2]; exact hm j hl

theorem st_step (hE : Pre E) (hO : ∀ i b, O i = some b → b < w0.heap.size) (hOO : ∀ i j b, i ≠ j → O i = some b → O j ≠ some b) (hR : RelOk ops n) (hst : ∀ i φ, tells Ψ i = some φ → ∀ v w w', E w w' → φ v w → φ v w') {listed : Array Bool} {a : Act} {w w' : World} {m vals m' vals' : Nat → Value} (st : St E P ops n w0 O Ψ Q a0 listed a w m vals)
    (hg' : good E P ops w0 O Ψ Q m' vals' (ops.toList.take n) 0 a0 [] []) (hm : ∀ j, listed.getD j false = true → m j = m' j) (hx : E w w') {i : Nat} {oi : Oper} (hi : i < n) (ei : ops[i]? = some oi) (hr : i ∈ Region.ready .any ops listed)
    (hf : ∀ φ, tells Ψ i = some φ → Region.wanted oi (yielded ops (frame ops a0 vals' i).tmps) = true → φ (vals' i) w' ∧ blockOk w w' (O i) (vals' i)) :
    St E P ops n w0 O Ψ Q a0 (listed.setIfInBounds i true) (a.put oi.dst (vals' i)) w' m' vals' := by
  have hag := agree hR st hg' hm
  have hz : i < listed.size := by rw [st.inv.size]; exact (Array.getElem?_eq_some_iff.1 ei).1
  have old : ∀ j, j ≠ i → (listed.setIfInBounds i true).getD j false = true → listed.getD j false = true := fun j hne h => by
    rwa [getD_set_ne false (Ne.symm hne)] at h
  have elder : ∀ j oj, j < n → j ≠ i → (listed.setIfInBounds i true).getD j false = true → ops[j]? = some oj → Region.wanted oj (yielded ops (frame ops a0 vals' j).tmps) = true →
      listed.getD j false = true ∧ Region.wanted oj (yielded ops (frame ops a0 vals j).tmps) = true ∧ vals j = vals' j := fun j oj hj hji hl ej hw => by
    have hlj := old j hji hl
    have hv : ∀ k, k < n → (ancOf ops j).testBit k = true → vals k = vals' k := fun k hk hb =>
      hag k hk (anc_listed hR st.inv j hj (fun oj ej e he hb => st.inv.closed j oj ej hlj e he hb) k hk hb)
    have hwe := (same_exec (Region.noSelect_spec hR.sel j _ · · ej) (by rw [frame_size, frame_size]) (frame_same (a0 := a0) hR hj ej hv)).2
    exact ⟨hlj, by rw [hwe]; exact hw, hag j hj hlj⟩
  have blkI : ∀ φ, tells Ψ i = some φ → Region.wanted oi (yielded ops (frame ops a0 vals' i).tmps) = true → ∀ b, (vals' i).ownBlock = some b → (O i = some b ∨ w.heap.size ≤ b) ∧ b < w'.heap.size := fun φ ht hw b hb => (hf φ ht hw).2 b hb
  have clash : ∀ k ok φ φ', k < n → k ≠ i → (listed.setIfInBounds i true).getD k false = true → ops[k]? = some ok → tells Ψ k = some φ → Region.wanted ok (yielded ops (frame ops a0 vals' k).tmps) = true →
      tells Ψ i = some φ' → Region.wanted oi (yielded ops (frame ops a0 vals' i).tmps) = true → ∀ b, (vals' i).ownBlock = some b → (vals' k).ownBlock ≠ some b := fun k ok φ φ' hk hki hl ek ht hw ht' hw' b hb hb' => by
    obtain ⟨hlk, hwk, hvk⟩ := elder k ok hk hki hl ek hw
    obtain ⟨h1, h2⟩ := st.blk k ok φ hk hlk ek ht hwk b (by rw [hvk]; exact hb')
    rcases (blkI φ' ht' hw' b hb).1 with h3 | h3
    · rcases h1 with h1 | h1
      · exact hOO i k b (Ne.symm hki) h3 h1
      · have := hO i b h3; omega
    · omega
  refine ⟨st.inv.set hr hi, hg', hE.trans st.ext hx, by rw [size_put, st.size], by rw [defers_put, st.defers], ?_, ?_, ?_, ?_, ?_⟩
  · intro j oj t hj hl ej hd ht
    by_cases hji : j = i
    · subst hji
      rw [ei] at ej; cases ej
      rw [hd, getD_put_eq _ _ _ (by rw [st.size]; exact ht)]
    · rw [getD_put_ne _ _ _ _ (fun h => hR.dst j i oj oi t hj hi ej ei h hji hd), st.lies j oj t hj (old j hji hl) ej hd ht, hag j hj (old j hji hl)]
  · intro t h
    rw [getD_put_ne _ _ _ _ (h i oi hi (by simp [hz]) ei)]
    exact st.off t fun j oj hj hl ej => h j oj hj (getD_set_true hl) ej
  · intro j oj φ hj hl ej ht hw
    by_cases hji : j = i
    · subst hji
      rw [ei] at ej; cases ej
      exact (hf φ ht hw).1
    · have hlj := old j hji hl
      have hv : ∀ k, k < n → (ancOf ops j).testBit k = true → vals k = vals' k := fun k hk hb =>
        hag k hk (anc_listed hR st.inv j hj (fun oj ej e he hb => st.inv.closed j oj ej hlj e he hb) k hk hb)
      have hwe := (same_exec (Region.noSelect_spec hR.sel j _ · · ej) (by rw [frame_size, frame_size]) (frame_same (a0 := a0) hR hj ej hv)).2
      rw [← hag j hj hlj]
      exact hst j φ ht _ _ _ hx (st.fact j oj φ hj hlj ej ht (by rw [hwe]; exact hw))
  · intro j oj φ hj hl ej ht hw b hb
    by_cases hji : j = i
    · subst hji
      rw [ei] at ej; cases ej
      obtain ⟨h1, h2⟩ := blkI φ ht hw b hb
      refine ⟨?_, h2⟩
      rcases h1 with h1 | h1
      · exact .inl h1
      · exact .inr (Nat.le_trans (hE.size st.ext) h1)
    · obtain ⟨hlj, hwj, hvj⟩ := elder j oj hj hji hl ej hw
      obtain ⟨h1, h2⟩ := st.blk j oj φ hj hlj ej ht hwj b (by rw [hvj]; exact hb)
      exact ⟨h1, Nat.lt_of_lt_of_le h2 (hE.size hx)⟩
  · intro j oj φ k ok φ' hj hl ej ht hw hk hl' ek ht' hw' hjk b hb
    by_cases hji : j = i
    · subst hji
      rw [ei] at ej; cases ej
      exact clash k ok φ' φ hk (Ne.symm hjk) hl' ek ht' hw' ht hw b hb
    · by_cases hki : k = i
      · subst hki
        rw [ei] at ek; cases ek
        exact fun e => clash j oj φ φ' hj hjk hl ej ht hw ht' hw' b e hb
      · obtain ⟨hlj, hwj, hvj⟩ := elder j oj hj hji hl ej hw
        obtain ⟨hlk, hwk, hvk⟩ := elder k ok hk hki hl' ek hw'
        have := st.pair j oj φ k ok φ' hj hlj ej ht hwj hk hlk ek ht' hwk hjk b (by rw [hvj]; exact hb)
        rwa [hvk] at this

theorem any_of_st (hE : Pre E) (hO : ∀ i b, O i = some b → b < w0.heap.size) (hOO : ∀ i j b, i ≠ j → O i = some b → O j ≠ some b) (hR : RelOk ops n) (hst : ∀ i φ, tells Ψ i = some φ → ∀ v w w', E w w' → φ v w → φ v w') (hrel : wpRel E P ops w0 O Ψ Q (ops.toList.take n) 0 a0 [] []) {Q' : Exit → Act → World → Prop} {g : Nat}
    (hQ : ∀ a w, Q a w → wpAny P .any ops Q' g (Array.replicate n true ++ Array.replicate (ops.size - n) false) a w) :
    ∀ (f : Nat) (listed : Array Bool) (a : Act) (w : World) (m vals : Nat → Value), St E P ops n w0 O Ψ Q a0 listed a w m vals → left listed n = f → wpAny P .any ops Q' (f + g) listed a w := by
  intro f
  induction f with
  | zero =>
    intro listed a w m vals st hl
    have hall := left_zero listed n hl
    have hallF : ∀ j, j < n → listed.getD j false = true := fun j hj => by
      have hjz : j < listed.size := by rw [st.inv.size]; exact Nat.lt_of_lt_of_le hj hR.le
      have := hall j hj
      simp [hjz] at this ⊢
      exact this
    have e : listed = Array.replicate n true ++ Array.replicate (ops.size - n) false := by
      apply Array.ext_getElem?
      intro k
      have hz := st.inv.size
      have hle := hR.le
      by_cases hk : k < ops.size
      · have hkz : k < listed.size := by omega
        rw [Array.getElem?_eq_getElem hkz]
        by_cases hkn : k < n
        · rw [Array.getElem?_append_left (by simpa using hkn)]
          have := hall k hkn
          simp [hkz] at this
          simp [this, hkn]
        · rw [Array.getElem?_append_right (by simp; omega)]
          have := st.inv.tail k (by omega) hk
          simp [hkz] at this
          rw [this, Array.getElem?_replicate, Array.size_replicate, if_pos (by omega)]
      · rw [Array.getElem?_eq_none (by omega), Array.getElem?_eq_none (by simp; omega)]
    have ea : a = frame ops a0 vals n := by
      have e2 : a.tmps = (frame ops a0 vals n).tmps := by
        apply Array.ext_getElem?
        intro t
        rcases Nat.lt_or_ge t a0.tmps.size with hlt | hge
        · have e3 : a.tmps.getD t undef = (frame ops a0 vals n).tmps.getD t undef := by
            by_cases hex : ∃ k ok, k < n ∧ ops[k]? = some ok ∧ ok.dst = some t
            · obtain ⟨k, ok, hk, ek, hd⟩ := hex
              rw [st.lies k ok t hk (hallF k hk) ek hd hlt, frame_at hR vals (Nat.le_refl _) hk ek hd hlt]
            · rw [st.off t (fun j oj hj _ ej hd => hex ⟨j, oj, hj, ej, hd⟩), frame_off vals (fun j oj hj ej hd => hex ⟨j, oj, hj, ej, hd⟩)]
          have h1 : t < a.tmps.size := by rw [st.size]; exact hlt
          have h2 : t < (frame ops a0 vals n).tmps.size := by rw [frame_size]; exact hlt
          rw [Array.getElem?_eq_getElem h1, Array.getElem?_eq_getElem h2]
          simp only [Array.getD_eq_getD_getElem?, Array.getElem?_eq_getElem h1, Array.getElem?_eq_getElem h2, Option.getD_some] at e3
          rw [e3]
        · rw [Array.getElem?_eq_none (by rw [st.size]; exact hge), Array.getElem?_eq_none (by rw [frame_size]; exact hge)]
      have e4 : a.defers = (frame ops a0 vals n).defers := by rw [st.defers]; exact (defers_putAll _ _ _ _).symm
      cases a
      simp only at e2 e4
      subst e2 e4
      rfl
    rw [Nat.zero_add, e, ea]
    refine hQ _ _ (good_end _ _ _ _ _ st.good w st.ext (factsAll_of fun x hx => ?_) ?_)
    · obtain ⟨k, o, φ, hk, ek, ht, hw, rfl⟩ := fact_mem hx
      exact st.fact k o φ hk (hallF k hk) ek ht hw
    · have mem : ∀ x ∈ madeOf ops Ψ vals (ops.toList.take n) 0 a0 [], ∃ k o φ, k < n ∧ ops[k]? = some o ∧ tells Ψ k = some φ ∧ Region.wanted o (yielded ops (frame ops a0 vals k).tmps) = true ∧ x = (k, vals k) := by
        intro x hx
        rcases mem_madeOf _ _ _ _ x hx with h | ⟨k, o, φ, h1, h2, h3, h4⟩
        · cases h
        · rw [List.getElem?_take] at h1
          split at h1
          · rename_i hlt
            rw [List.take_take, Nat.min_eq_left (by omega)] at h3
            rw [Nat.zero_add] at h2 h4
            exact ⟨k, o, φ, hlt, by simpa using h1, h2, h3, h4⟩
          · cases h1
      intro x hx y hy hne b hb
      obtain ⟨k, o, φ, hk, ek, ht, hw, rfl⟩ := mem x hx
      obtain ⟨k', o', φ', hk', ek', ht', hw', rfl⟩ := mem y hy
      exact st.pair k o φ k' o' φ' hk (hallF k hk) ek ht hw hk' (hallF k' hk') ek' ht' hw' hne b hb
  | succ f ih =>
    intro listed a w m vals st hl
    obtain ⟨i0, hi0, hu0, hb0⟩ := left_pos listed n (by omega)
    have hr0 : i0 ∈ Region.ready .any ops listed := by
      have hz : i0 < ops.size := Nat.lt_of_lt_of_le hi0 hR.le
      refine mem_ready.2 ⟨hu0, ops[i0], by simp [hz], fun e he hb => ?_⟩
      have hlt := hR.edge i0 _ hi0 (by simp [hz]) e he hb
      have hez : e.on < listed.size := by rw [st.inv.size]; omega
      have := hb0 e.on hlt
      simp [hez] at this ⊢
      exact this
    rw [show f + 1 + g = (f + g) + 1 by omega]
    refine ⟨fun h => (by rw [h] at hr0; cases hr0), fun i hr => ?_⟩
    obtain ⟨hun, oi, ei, hall⟩ := mem_ready.1 hr
    have hiz : i < ops.size := (Array.getElem?_eq_some_iff.1 ei).1
    have hi : i < n := by
      rcases Nat.lt_or_ge i n with h | h
      · exact h
      · rcases hR.tail with h1 | ⟨h1, h2⟩
        · omega
        · exact absurd hr (tail_waits h1 h2 (by omega) st.inv _ i0 rfl hi0 hu0 i h)
    have hunF : listed.getD i false = false := getD_both hun
    have hlz : i < listed.size := by rw [st.inv.size]; exact hiz
    have hleft : left (listed.setIfInBounds i true) n = f := by
      have := left_set listed i hlz hun n hi
      omega
    obtain ⟨he, hw⟩ := same_exec (Region.noSelect_spec hR.sel i _ · · ei) (by rw [frame_size, st.size]) (real_same hR st hi ei hunF hall)
    have hancL : ∀ k, k < n → (ancOf ops i).testBit k = true → listed.getD k false = true :=
      anc_listed hR st.inv i hi (fun oj ej => by rw [ei] at ej; cases ej; exact hall)
    have fA : factsAnc (ancOf ops i) (factsOf ops Ψ vals (ops.toList.take i) 0 a0 []) w := factsAnc_of fun x hx hb => by
      obtain ⟨k, o, φ, hk, ek, ht, hwk, rfl⟩ := fact_mem hx
      exact st.fact k o φ (by omega) (hancL k (by omega) hb) ek ht hwk
    have keep : ∀ (u : Value) (w' : World), E w w' → u = vals i → (∀ φ, tells Ψ i = some φ → Region.wanted oi (yielded ops (frame ops a0 vals i).tmps) = true → φ (vals i) w' ∧ blockOk w w' (O i) (vals i)) →
        wpAny P .any ops Q' (f + g) (listed.setIfInBounds i true) (a.put oi.dst u) w' := fun u w' hx hu hf => by
      subst hu
      exact ih _ _ _ m vals (st_step hE hO hOO hR hst st st.good (fun _ _ => rfl) hx hi ei hr hf) hleft
    unfold wpOp
    simp only [ei]
    rcases oblig_at hR st.good hi ei with ⟨h1, h2⟩ | ⟨h1, h2, h3⟩ | ⟨h1, h2, φ, h3, h4⟩
    · rw [if_neg (by rw [hw, h1]; simp)]
      exact keep _ _ (hE.refl _) h2.symm (fun φ _ hwt => by rw [h1] at hwt; cases hwt)
    · rw [if_pos (by rw [hw, h1])]
      refine .inl ?_
      have d := h3 w st.ext fA
      unfold detAt at d
      unfold Oper.wp
      rw [he]
      generalize (execOp (frame ops a0 vals i).eval oi).run P w = r at d
      cases r with
      | ok x w' =>
        cases x <;> simp only [detUpon] at d <;> simp only [Oper.upon]
        case value u => obtain ⟨d1, d2⟩ := d; rw [d1]; exact keep u _ (hE.refl _) d2 (fun φ ht _ => by rw [h2] at ht; cases ht)
        case skip => obtain ⟨d1, d2⟩ := d; rw [d1]; exact keep undef _ (hE.refl _) d2 (fun φ ht _ => by rw [h2] at ht; cases ht)
        case enter f args =>
          obtain ⟨d1, _, d2⟩ := d
          rw [d1]
          refine d2.mono fun e w'' ⟨he, hx⟩ => ?_
          subst he
          exact keep _ _ hx rfl (fun φ ht _ => by rw [h2] at ht; cases ht)
      | halt x w' => simp only [detUpon] at d
    · rw [if_pos (by rw [hw, h1])]
      refine .inl ?_
      have go : ∀ (u : Value) (w' : World), E w w' → φ u w' ∧ blockOk w w' (O i) u → wpAny P .any ops Q' (f + g) (listed.setIfInBounds i true) (a.put oi.dst u) w' := by
        intro u w' hx hφ
        obtain ⟨vals', hg'⟩ := good_of_rel (fun j => if j = i then u else m j) _ _ _ _ _ hrel
        have hm : ∀ j, listed.getD j false = true → m j = (fun j => if j = i then u else m j) j := fun j hj => by
          have : j ≠ i := fun h => by subst h; rw [hunF] at hj; cases hj
          simp [this]
        have hag := agree hR st hg' hm
        have hwe := (same_exec (Region.noSelect_spec hR.sel i _ · · ei) (by rw [frame_size, frame_size]) (frame_same (a0 := a0) hR hi ei (fun k hk hb => hag k hk (hancL k hk hb)))).2
        have hv : vals' i = u := by
          rcases oblig_at hR hg' hi ei with ⟨g1, _⟩ | ⟨_, g2, _⟩ | ⟨_, g2, _⟩
          · rw [← hwe, h1] at g1; cases g1
          · rw [h3] at g2; cases g2
          · rw [g2]; simp
        have := ih _ _ _ _ vals' (st_step hE hO hOO hR hst st hg' hm hx hi ei hr (fun φ' ht _ => by
          rw [h3] at ht; cases ht
          rw [hv]; exact hφ)) hleft
        rw [hv] at this
        exact this
      have d := h4 w st.ext fA
      unfold makeAt at d
      unfold Oper.wp
      rw [he]
      generalize (execOp (frame ops a0 vals i).eval oi).run P w = r at d
      cases r with
      | ok x w' =>
        cases x <;> simp only [makeUpon] at d <;> simp only [Oper.upon]
        case value u => exact go u w' d.1 d.2
        case skip => exact go undef w' d.1 d.2
        case enter f args =>
          obtain ⟨d1, d2⟩ := d
          rw [d1]
          refine d2.mono fun e w'' ⟨v, he, hx, hφ⟩ => ?_
          subst he
          exact go v w'' hx hφ
      | halt x w' => simp only [makeUpon] at d
end

/-- A REGION THAT DRAWS ITS ORDER: the first n operations by the walk in the order of the text, the rest one by one behind them. -/
theorem wp_region_rel {E : World → World → Prop} (hE : Pre E) {P : Program} {id : Nat} {Q : Exit → Act → World → Prop} {a : Act} {w : World} {l : List Oper} (n : Nat) (O : Nat → Option Nat) (hO : ∀ i b, O i = some b → b < w.heap.size) (hOO : ∀ i j b, i ≠ j → O i = some b → O j ≠ some b) (Ψ : List (Nat × (Value → World → Prop))) (hm : P.follows .mixedOrders = true) (hB : relOk l.toArray n = true)
    (hst : ∀ i φ, tells Ψ i = some φ → ∀ v w w', E w w' → φ v w → φ v w')
    (h : wpRel E P l.toArray w.drew O Ψ (fun a' w' => wpList P l.toArray Q (l.drop n) a' w') (l.take n) 0 a [] []) : (Code.region id l.toArray true).wp P Q a w := by
  have hR := relOk_spec hB
  refine wp_region_any hm ?_
  obtain ⟨vals, hg⟩ := good_of_rel (fun _ => undef) _ _ _ _ _ h
  have hn : n ≤ l.length := by simpa using hR.le
  have hdl : (l.drop n).length = l.toArray.size - n := by simp
  have key := any_of_st hE (fun i b h => by simpa using hO i b h) hOO (P := P) (ops := l.toArray) (n := n) (w0 := w.drew) (O := O) (Ψ := Ψ) (Q := fun a' w' => wpList P l.toArray Q (l.drop n) a' w') (a0 := a) hR hst (by simpa using h) (Q' := Q) (g := l.toArray.size - n)
    (fun a' w' hq => by
      have := wpAny_of_seq (md := .any) (Q' := Q) (l.drop n) n (Array.replicate n true ++ Array.replicate (l.toArray.size - n) false) a' w' (fun j => by simp [List.getElem?_drop]) (by rw [hdl]; exact hR.seq) hq
      rwa [hdl] at this)
    n (Array.replicate l.toArray.size false) a w.drew (fun _ => undef) vals
    ⟨⟨by simp, fun j oj _ hl => (by rw [getD_replicate_false] at hl; cases hl), fun t _ ht => getD_in (by simpa using ht) (getD_replicate_false _ _)⟩, by simpa using hg, hE.refl _, rfl, rfl,
      fun j _ _ _ hl => (by rw [getD_replicate_false] at hl; cases hl), fun _ _ => rfl, fun j _ _ _ hl => (by rw [getD_replicate_false] at hl; cases hl), fun j _ _ _ hl => (by rw [getD_replicate_false] at hl; cases hl), fun j _ _ _ _ _ _ hl => (by rw [getD_replicate_false] at hl; cases hl)⟩ ?_
  · rw [show n + (l.toArray.size - n) = l.toArray.size by simp; omega] at key
    exact key
  · have : ∀ k, k ≤ l.toArray.size → left (Array.replicate l.toArray.size false) k = k := by
      intro k
      induction k with
      | zero => intro _; rfl
      | succ k ih =>
        intro hk
        rw [left, ih (by omega), if_neg (by rw [getD_in (by rw [Array.size_replicate]; omega) (getD_replicate_false _ _)]; simp)]
    exact this n hR.le


attribute [irreducible] wpRel
end Go.Xe
