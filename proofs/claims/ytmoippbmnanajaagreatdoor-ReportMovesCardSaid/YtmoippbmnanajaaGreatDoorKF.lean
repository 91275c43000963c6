/- Worlds in which the rows of the call's own may be appended to; what lives on beside them; the steps of a region's walk by such a relation. -/
import Derived.Test.YtmoippbmnanajaaGreatDoorKE
import Derived.ArgAppend
set_option linter.unusedSimpArgs false
set_option linter.unusedVariables false
namespace Go.Xo
open Go.RowKit Go.Xk
/-- R holds, and goes on holding where no block from B on turns but those of ks. -/
def Lives (B : Nat) (ks : List (Option Nat)) (w : World) (R : World → Prop) : Prop :=
  ∀ w' : World, w.heap.size ≤ w'.heap.size → (∀ b, B ≤ b → b < w.heap.size → some b ∉ ks → w'.heap[b]? = w.heap[b]?) → R w'
theorem Lives.now {B : Nat} {ks : List (Option Nat)} {w : World} {R : World → Prop} (h : Lives B ks w R) : R w := h w (Nat.le_refl _) fun _ _ _ _ => rfl
theorem Lives.imp {B : Nat} {ks : List (Option Nat)} {w : World} {R R' : World → Prop} (h : Lives B ks w R) (hi : ∀ w, R w → R' w) : Lives B ks w R' := fun w' h1 h2 => hi _ (h w' h1 h2)
theorem Lives.and {B : Nat} {ks : List (Option Nat)} {w : World} {R R' : World → Prop} (h : Lives B ks w R) (h' : Lives B ks w R') : Lives B ks w fun w => R w ∧ R' w := fun w' h1 h2 => ⟨h w' h1 h2, h' w' h1 h2⟩
theorem Lives.le {B B' : Nat} {ks : List (Option Nat)} {w : World} {R : World → Prop} (h : Lives B ks w R) (hb : B' ≤ B) : Lives B' ks w R := fun w' h1 h2 => h w' h1 fun b hb' => h2 b (by omega)
theorem Lives.less {B : Nat} {ks ks' : List (Option Nat)} {w : World} {R : World → Prop} (h : Lives B ks w R) (hk : ∀ b, some b ∈ ks' → some b ∈ ks) : Lives B ks' w R := fun w' h1 h2 => h w' h1 fun b hb hl hn => h2 b hb hl fun hm => hn (hk b hm)
theorem Lives.ext {B : Nat} {ks : List (Option Nat)} {w w2 : World} {R : World → Prop} (h : Lives B ks w R) (hx : Ext w w2) : Lives B ks w2 R := fun w' h1 h2 =>
  h w' (Nat.le_trans hx.size h1) fun b hb hl hn => (h2 b hb (Nat.lt_of_lt_of_le hl hx.size) hn).trans (hx.block b hl)
/-- What a callee has made lives beside every older block. -/
theorem Lives.off {B B' : Nat} {ks : List (Option Nat)} {w : World} {R : World → Prop} (h : Lives B [] w R) (hk : ∀ b, some b ∈ ks → b < B) (hb : B' ≤ B) : Lives B' ks w R := fun w' h1 h2 =>
  h w' h1 fun b hb' hl _ => h2 b (by omega) hl fun hm => by have := hk b hm; omega
theorem Lives.grown {B : Nat} {ks ks' : List (Option Nat)} {w w2 : World} {k : Option Nat} {R : World → Prop} (h : Lives B ks w R) (hg : w.grownBy w2 k) (hk : ∀ b, k = some b → some b ∈ ks) (hks : ∀ b, some b ∈ ks' → some b ∈ ks ∨ w.heap.size ≤ b) : Lives B ks' w2 R := fun w' h1 h2 =>
  h w' (Nat.le_trans hg.size h1) fun b hb hl hn => by
    rw [h2 b hb (Nat.lt_of_lt_of_le hl hg.size) fun hm => by rcases hks b hm with h | h; exact hn h; omega]
    exact hg.block b hl fun e => hn (hk b e.symm)
theorem Lives.setCell {B : Nat} {ks : List (Option Nat)} {w : World} {R : World → Prop} (h : Lives B ks w R) {b o : Nat} (hb : b < B ∨ some b ∈ ks) (u : Value) : Lives B ks (w.setCell ⟨b, o, none⟩ u) R := fun w' h1 h2 =>
  h w' (by simpa using h1) fun c hc hl hn => by
    rw [h2 c hc (by simpa using hl) hn, heap_setCell_other w ⟨b, o, none⟩ c u (fun e => by simp at e; subst e; rcases hb with h | h; omega; exact hn h)]
theorem Lives.alloc {B : Nat} {ks : List (Option Nat)} {w : World} {R : World → Prop} (h : Lives B ks w R) (o : Obj) : Lives B ks (w.alloc o) R := h.ext ((Below.refl _ _).alloc (Nat.le_refl _) _)
theorem lives_own {w : World} {base : Nat} {e : TypeId} {size : Nat} {v : Value} {n : Nat} {xs : List Value} (h : w.ownsRow base e size v n xs) {ks : List (Option Nat)} (hk : ∀ b, v.ownBlock = some b → some b ∉ ks) : Lives base ks w fun w => w.ownsRow base e size v n xs := fun w' h1 h2 => by
  obtain ⟨g1, g2⟩ := h
  refine ⟨g1, ?_⟩
  rcases g2 with g2 | ⟨g, cap, cur, rfl, hb, hg, r⟩
  · exact .inl g2
  · exact .inr ⟨g, cap, cur, rfl, hb, by rw [h2 g hb (Array.getElem?_eq_some_iff.1 hg).1 (hk g rfl)]; exact hg, r⟩
/-- What holds of old memory goes on where nothing of it turns. -/
theorem lives_old {w0 w : World} {R : World → Prop} (h : ∀ w', Below w0.heap.size w0 w' → R w') (hb : Below w0.heap.size w0 w) (h0 : ∀ w', R w' → R w') : R w := h w hb
theorem own_or {w : World} {base : Nat} {e : TypeId} {size : Nat} {v : Value} {n : Nat} {xs : List Value} (h : w.ownsRow base e size v n xs) : ∀ b, v.ownBlock = some b → base ≤ b ∧ b < w.heap.size := h.lt
/-- append: in the row's own block, or into a new one. -/
theorem run_app {P : Program} (w : World) (base : Nat) (t ty e : TypeId) (i : TypeInfo) (z : Value) (size bytes : Nat) (ht : P.underlying t = some (.slice e)) (hi : P.info? e = some i) (hz : i.zero = some z)
    (hsize : i.size = size) (hby : i.bytes = bytes) (hzs : z.cells.size = size) (hsz : 0 < size)
    (v : Value) (n : Nat) (xs : List Value) (hown : w.ownsRow base e size v n xs)
    (a : Addr) (m c : Nat) (news : List Value) (hm : 0 < m) (hl : news.length = m * size) (hnews : ∀ j u, news[j]? = some u → w.cell? (a.add j) = some u) (h1 : ∀ u ∈ news, u.oneCell' = true)
    (hb : n ≤ 4000000 ∧ m ≤ 4000000 ∧ bytes ≤ 1000) (hbase : base ≤ w.heap.size) :
    ∃ v' w', (Builtin.append_ #[t, t] ty #[v, .slice (some a) m c]).run P w = .ok v' w' ∧ w'.ownsRow base e size v' (n + m) (xs ++ news) ∧
      ((∃ g cap, v = .slice (some ⟨g, 0, none⟩) n cap ∧ v' = .slice (some ⟨g, 0, none⟩) (n + m) cap ∧ w.grownBy w' (some g)) ∨ (w.grownBy w' none ∧ ∃ b, w.heap.size ≤ b ∧ v'.ownBlock = some b)) := by
  have h63 : n + m ≤ maxLen := by unfold maxLen; omega
  have hbytes : (n + m) * bytes ≤ 140737488355328 := by
    have : (n + m) * bytes ≤ 8000000 * 1000 := Nat.mul_le_mul (by omega) hb.2.2
    omega
  have fresh : ∀ (v' : Value) (w' : World), w'.ownsRow w.heap.size e size v' (n + m) (xs ++ news) → ∃ b, w.heap.size ≤ b ∧ v'.ownBlock = some b := by
    intro v' w' ho
    rcases ho.2 with ⟨-, h0⟩ | ⟨g, cap, cur, rfl, hb, -⟩
    · omega
    · exact ⟨g, hb, rfl⟩
  rcases hown.2 with ⟨rfl, rfl⟩ | ⟨g, cap, cur, rfl, hb0, hg, hnc, hcm, hcs, htake⟩
  · have hx0 : xs = [] := List.eq_nil_of_length_eq_zero (by simpa using hown.1)
    subst hx0
    obtain ⟨v', w', hrun, r1, r2, -⟩ := run_append_own (P := P) w w.heap.size t ty e i z size bytes ht hi hz hsize hby hzs hsz (.slice none 0 0) 0 [] (World.ownsRow_nil w _ e size) a m c news hl hnews h1 h63 hbytes (Nat.le_refl _)
    exact ⟨v', w', hrun, own_le r1 hbase, .inr ⟨r2, fresh v' w' r1⟩⟩
  · by_cases hr : n + m ≤ cap
    · obtain ⟨w', hrun, r1, r2⟩ := run_append_fits (P := P) w base t ty e i size ht hi hsize g n cap xs hown a m c news hl hnews h1 hr
      exact ⟨_, w', hrun, r1, .inl ⟨g, cap, rfl, rfl, r2⟩⟩
    · obtain ⟨v', w', hrun, r1, r2⟩ := run_append_arg_grows (P := P) w t ty e i z size bytes ht hi hz hsize hby hzs hsz ⟨g, 0, none⟩ n cap xs hown.1 (fun j u hj => hown.cells rfl j u hj) a m c news hl hnews (by omega) h63 hbytes
      exact ⟨v', w', hrun, own_le r1 hbase, .inr ⟨r2, fresh v' w' r1⟩⟩
theorem one_at {w : World} {g : Nat} {x : Value} (h : w.cell? ⟨g, 0, none⟩ = some x) : ∀ (j : Nat) u, [x][j]? = some u → w.cell? ((⟨g, 0, none⟩ : Addr).add j) = some u := by
  intro j u hj
  rw [addr_add]
  match j, hj with
  | 0, hj => simp at hj; subst hj; exact h
/-- append to a slice of the call's own, as a law of the walk. -/
theorem wpList_appk {P : Program} {w0 w : World} {ops : Array Oper} {rest : List Oper} {o : Oper} {a : Act} {Q : Exit → Act → World → Prop} (hgd : o.guard = none) (s x : Operand) (t : TypeId)
    (ho : o.op = .call { callee := .builtin .append, args := #[s, x], argTypes := #[t, t] })
    (e : TypeId) (i : TypeInfo) (z : Value) (size bytes : Nat) (ht : P.underlying t = some (.slice e)) (hi : P.info? e = some i) (hz : i.zero = some z)
    (hsize : i.size = size) (hby : i.bytes = bytes) (hzs : z.cells.size = size) (hsz : 0 < size)
    (v : Value) (n : Nat) (xs : List Value) (hs : a.eval s = v) (hown : w.ownsRow w0.heap.size e size v n xs)
    (g goff m c : Nat) (news : List Value) (hx : a.eval x = .slice (some ⟨g, goff, none⟩) m c) (hm : 0 < m) (hl : news.length = m * size) (hnews0 : ∀ j u, news[j]? = some u → w.cell? ⟨g, goff + j, none⟩ = some u) (h1 : ∀ u ∈ news, u.oneCell' = true)
    (hb : n ≤ 4000000 ∧ m ≤ 4000000 ∧ bytes ≤ 1000) (hbel : Below w0.heap.size w0 w)
    (h : ∀ v' w', w'.ownsRow w0.heap.size e size v' (n + m) (xs ++ news) → w.grownBy w' v.ownBlock → (∀ b, v'.ownBlock = some b → v.ownBlock = some b ∨ w.heap.size ≤ b) → Below w0.heap.size w0 w' → wpList P ops Q rest (a.put o.dst v') w') : wpList P ops Q (o :: rest) a w := by
  have hnews : ∀ j u, news[j]? = some u → w.cell? (Addr.add ⟨g, goff, none⟩ j) = some u := fun j u hj => by rw [addr_add]; exact hnews0 j u hj
  obtain ⟨v', w', hrun, r1, r2⟩ := run_app (P := P) w w0.heap.size t o.type e i z size bytes ht hi hz hsize hby hzs hsz v n xs hown _ m c news hm hl hnews h1 hb hbel.size
  refine wpList_plain hgd fun K hK' => ?_
  have hg : w.grownBy w' v.ownBlock ∧ (∀ b, v'.ownBlock = some b → v.ownBlock = some b ∨ w.heap.size ≤ b) := by
    rcases r2 with ⟨g, cap, rfl, rfl, hg⟩ | ⟨hg, b, hb', e1⟩
    · exact ⟨hg, fun b h => .inl h⟩
    · exact ⟨⟨hg.os, hg.tape, hg.output, hg.size, fun k hk _ => hg.block k hk (by simp)⟩, fun c h => by rw [e1] at h; cases h; exact .inr hb'⟩
  unfold Oper.wp
  simp [execOp, ho, resolve, invoke, builtin, hs, hx, hrun, Result.andThen]
  exact hK' _ _ (h v' w' r1 hg.1 hg.2 (hbel.grown hg.1 hbel.size (ownBlock_ge hown)))
/-- The elements of a row, each alive, and one more behind them. -/
theorem elems_app {α : Type} {B q : Nat} {wr W w' : World} {v v' : Value} {us : List Value} {u : Value} {l : List α} {R : World → Value → α → Prop} {x : α}
    (hold : ∀ (j : Nat) (u : Value) (x : α), us[j]? = some u → l[j]? = some x → Lives B [v.ownBlock] wr (fun W => R W u x)) (hx : Ext wr W) (hq : us.length = q) (hlx : l[q]? = some x)
    (hnew : Lives wr.heap.size [] W (fun W => R W u x)) (hown : ∀ b, v.ownBlock = some b → b < wr.heap.size) (hB : B ≤ wr.heap.size)
    (hg : W.grownBy w' v.ownBlock) (hk : ∀ b, v'.ownBlock = some b → v.ownBlock = some b ∨ W.heap.size ≤ b) :
    ∀ (j : Nat) (u' : Value) (x' : α), (us ++ [u])[j]? = some u' → l[j]? = some x' → Lives B [v'.ownBlock] w' (fun W => R W u' x') := by
  intro j u' x' hj hl
  have go : Lives B [v.ownBlock] W (fun W => R W u' x') := by
    by_cases hjq : j < us.length
    · rw [List.getElem?_append_left hjq] at hj
      exact (hold j u' x' hj hl).ext hx
    · rw [List.getElem?_append_right (by omega)] at hj
      have h0 : j - us.length = 0 := by
        have := (List.getElem?_eq_some_iff.1 hj).1
        simp at this; omega
      rw [h0] at hj
      cases hj
      obtain rfl : j = q := by omega
      rw [hlx] at hl
      cases hl
      exact hnew.off (fun b hb => hown b (by simp at hb; exact hb.symm)) hB
  exact go.grown hg (fun b e => by simp [e]) fun b hb => by
    rcases hk b (by simp at hb; exact hb.symm) with h | h
    · exact .inl (by simp [h])
    · exact .inr h
end Go.Xo
namespace Go.Xe
open Go.RowKit Go.Xk
/-- Blocks that may turn, each with what is said of it then. -/
abbrev Specs := List (Nat × (Option Obj → Prop))
def ES (ks : Specs) (w w' : World) : Prop := w'.os = w.os ∧ w'.tape = w.tape ∧ w'.output = w.output ∧ w.heap.size ≤ w'.heap.size ∧ ∀ b, b < w.heap.size → w'.heap[b]? = w.heap[b]? ∨ ∃ k ∈ ks, k.1 = b ∧ k.2 w'.heap[b]?
theorem pre_ES (ks : Specs) : Pre (ES ks) := by
  refine ⟨fun w => ⟨rfl, rfl, rfl, Nat.le_refl _, fun b _ => .inl rfl⟩, ?_, ?_, fun h => h.2.2.2.1⟩
  · rintro a b c ⟨h1, h2, h3, h4, h5⟩ ⟨g1, g2, g3, g4, g5⟩
    refine ⟨g1.trans h1, g2.trans h2, g3.trans h3, Nat.le_trans h4 g4, fun x hx => ?_⟩
    rcases g5 x (Nat.lt_of_lt_of_le hx h4) with e | e
    · rw [e]; exact h5 x hx
    · exact .inr e
  · intro a b h
    exact ⟨h.os, h.tape, h.output, h.size, fun x hx => .inl (h.block x hx)⟩
theorem ES.block {ks : Specs} {w w' : World} (h : ES ks w w') {b : Nat} (hb : b < w.heap.size) (hn : ∀ k ∈ ks, k.1 ≠ b) : w'.heap[b]? = w.heap[b]? := by
  rcases h.2.2.2.2 b hb with e | ⟨k, hk, e, -⟩
  · exact e
  · exact absurd e (hn k hk)
theorem ES.cell {ks : Specs} {w w' : World} (h : ES ks w w') {b o : Nat} {v : Value} (hc : w.cell? ⟨b, o, none⟩ = some v) (hn : ∀ k ∈ ks, k.1 ≠ b) : w'.cell? ⟨b, o, none⟩ = some v :=
  (World.cell?_of_block (a := ⟨b, o, none⟩) (h.block (World.block_lt_of_cell? _ _ hc) hn)).trans hc
theorem ES.below {ks : Specs} {w0 w w' : World} {B : Nat} (hb : Below B w0 w) (h : ES ks w w') (hk : ∀ k ∈ ks, B ≤ k.1) (hB : B ≤ w.heap.size) : Below B w0 w' :=
  ⟨h.1.trans hb.os, h.2.1.trans hb.tape, h.2.2.1.trans hb.output, Nat.le_trans hb.size h.2.2.2.1, fun b hl => (h.block (by omega) (fun k hk' e => by have := hk k hk'; omega)).trans (hb.block b hl)⟩
theorem ES.lives {ks : Specs} {w w' : World} {B : Nat} {ls ls' : List (Option Nat)} {R : World → Prop} (h : ES ks w w') (hR : Xo.Lives B ls w R) (hk : ∀ k ∈ ks, some k.1 ∈ ls) (hl : ∀ b, some b ∈ ls' → some b ∈ ls ∨ w.heap.size ≤ b) : Xo.Lives B ls' w' R := fun w2 h1 h2 =>
  hR w2 (Nat.le_trans h.2.2.2.1 h1) fun b hb hlt hn => by
    rw [h2 b hb (Nat.lt_of_lt_of_le hlt h.2.2.2.1) fun hm => by rcases hl b hm with g | g; exact hn g; omega]
    exact h.block hlt fun k hk' e => hn (e ▸ hk k hk')
/-- What the row's own block may become: so many elements, these cells. -/
def specOf (e : TypeId) (size n : Nat) (xs : List Value) : Value → Specs
  | .slice (some a) _ cap => [(a.block, fun o => ∃ cur, o = some (.cells cur e (0, 0)) ∧ cap ≤ maxLen ∧ cur.size = cap * size ∧ cur.toList.take (n * size) = xs)]
  | _ => []
theorem specOf_block {e : TypeId} {size n : Nat} {xs : List Value} {v : Value} {k : Nat × (Option Obj → Prop)} (h : k ∈ specOf e size n xs v) : v.ownBlock = some k.1 := by
  unfold specOf at h
  split at h
  · simp only [List.mem_cons, List.not_mem_nil, or_false] at h
    subst h; rfl
  · cases h
theorem ES.own {ks : Specs} {w w' : World} {B : Nat} {e : TypeId} {size n m : Nat} {v : Value} {xs news : List Value} (h : ES ks w w') (ho : w.ownsRow B e size v n xs) (hk : ∀ k ∈ ks, v.ownBlock = some k.1 → k ∈ specOf e size (n + m) (xs ++ news) v) : w'.ownsRow B e size v n xs := by
  obtain ⟨h1, h2⟩ := ho
  refine ⟨h1, ?_⟩
  rcases h2 with h2 | ⟨g, cap, cur, rfl, hb, hg, hnc, hcm, hcs, htake⟩
  · exact .inl h2
  · rcases h.2.2.2.2 g (Array.getElem?_eq_some_iff.1 hg).1 with e1 | ⟨k, hk', e1, e2⟩
    · exact .inr ⟨g, cap, cur, rfl, hb, by rw [e1]; exact hg, hnc, hcm, hcs, htake⟩
    · have hs := hk k hk' (by rw [e1]; rfl)
      simp only [specOf, List.mem_cons, List.not_mem_nil, or_false] at hs
      subst hs
      obtain ⟨cur', c1, -, c2, c3⟩ := e2
      refine .inr ⟨g, cap, cur', rfl, hb, c1, hnc, hcm, c2, ?_⟩
      have h3 : n * size ≤ (n + m) * size := Nat.mul_le_mul_right _ (by omega)
      have h4 : cur'.toList.take (n * size) = (cur'.toList.take ((n + m) * size)).take (n * size) := by rw [List.take_take, Nat.min_eq_left h3]
      rw [h4, c3, ← h1, List.take_left]
/-- What append leaves. -/
def appFact (B : Nat) (e : TypeId) (size B0 : Nat) (v : Value) (n m : Nat) (xs : List Value) (v' : Value) (w : World) : Prop :=
  w.ownsRow B e size v' (n + m) xs ∧ ((∃ g cap, v = .slice (some ⟨g, 0, none⟩) n cap ∧ v' = .slice (some ⟨g, 0, none⟩) (n + m) cap) ∨ ∃ b, B0 ≤ b ∧ v'.ownBlock = some b)
theorem appFact.es {ks : Specs} {B : Nat} {e : TypeId} {size B0 n m : Nat} {v : Value} {xs : List Value} (hk : ∀ k ∈ ks, v.ownBlock = some k.1 → k ∈ specOf e size (n + m) xs v) (hB : ∀ k ∈ ks, k.1 < B0) :
    ∀ v' w w', ES ks w w' → appFact B e size B0 v n m xs v' w → appFact B e size B0 v n m xs v' w' := by
  rintro v' w w' h ⟨ho, hv⟩
  refine ⟨?_, hv⟩
  rcases hv with ⟨g, cap, rfl, rfl⟩ | ⟨b, hb, e1⟩
  · obtain ⟨h1, h2⟩ := ho
    refine ⟨h1, ?_⟩
    rcases h2 with ⟨h2, -⟩ | ⟨g', cap', cur, hv, hb, hg, hnc, hcm, hcs, htake⟩
    · simp at h2
    · simp only [Value.slice.injEq, Option.some.injEq, Addr.mk.injEq, and_true, true_and] at hv
      obtain ⟨rfl, rfl⟩ := hv
      rcases h.2.2.2.2 g (Array.getElem?_eq_some_iff.1 hg).1 with e1 | ⟨k, hk', e1, e2⟩
      · exact .inr ⟨g, cap, cur, rfl, hb, by rw [e1]; exact hg, hnc, hcm, hcs, htake⟩
      · have hs := hk k hk' (by rw [e1]; rfl)
        simp only [specOf, List.mem_cons, List.not_mem_nil, or_false] at hs
        subst hs
        obtain ⟨cur', c1, -, c2, c3⟩ := e2
        exact .inr ⟨g, cap, cur', rfl, hb, c1, hnc, hcm, c2, c3⟩
  · obtain ⟨h1, h2⟩ := ho
    refine ⟨h1, ?_⟩
    rcases h2 with ⟨rfl, -⟩ | ⟨g', cap', cur, rfl, hb', hg, r⟩
    · cases e1
    · cases e1
      exact .inr ⟨g', cap', cur, rfl, hb', by rw [h.block (Array.getElem?_eq_some_iff.1 hg).1 fun k hk' e2 => by have := hB k hk'; simp only at hb; omega]; exact hg, r⟩
/-- A new block of one cell. -/
def newFact (B0 : Nat) (x : Value) (v : Value) (w : World) : Prop := ∃ g, v = .slice (some ⟨g, 0, none⟩) 1 1 ∧ B0 ≤ g ∧ w.cell? ⟨g, 0, none⟩ = some x
theorem newFact.es {ks : Specs} {B0 : Nat} {x : Value} (hB : ∀ k ∈ ks, k.1 < B0) : ∀ v w w', ES ks w w' → newFact B0 x v w → newFact B0 x v w' := by
  rintro v w w' h ⟨g, rfl, hg, hc⟩
  exact ⟨g, rfl, hg, h.cell hc fun k hk e => by have := hB k hk; omega⟩
/-! ### The steps -/
section
variable {E : World → World → Prop} {P : Program} {ops : Array Oper} {w0 : World} {O : Nat → Option Nat} {Ψ : List (Nat × (Value → World → Prop))} {Q : Act → World → Prop} {o : Oper} {r : List Oper} {i : Nat} {a : Act} {F : Facts} {G : Made}
theorem rel_skip (hw : Region.wanted o (yielded ops a.tmps) = false) (h : ∀ K : Act → Prop, (∀ a, wpRel E P ops w0 O Ψ Q r (i + 1) a F G → K a) → K (a.put o.dst undef)) : wpRel E P ops w0 O Ψ Q (o :: r) i a F G := by
  unfold wpRel; rw [if_neg (by rw [hw]; simp)]; exact h _ fun _ h => h
def newPost (E : World → World → Prop) (w : World) (old : Option Nat) (φ : Value → World → Prop) (u : Value) (w2 : World) : Prop := E w w2 ∧ φ u w2 ∧ blockOk w w2 old u
def callPost (w : World) (old : Option Nat) (φ : Value → World → Prop) (e : Ending) (w2 : World) : Prop := ∃ v, e = .returned v ∧ Ext w w2 ∧ φ v w2 ∧ blockOk w w2 old v
def makeRun (E : World → World → Prop) (P : Program) (o : Oper) (a : Act) (w : World) (old : Option Nat) (φ : Value → World → Prop) : Prop :=
  match (execOp a.eval o).run P w with
  | .ok (.value u) w' => newPost E w old φ u w'
  | .ok .skip w' => newPost E w old φ undef w'
  | .ok (.enter f args) w' => w' = w ∧ Calls P f args w (callPost w old φ)
  | _ => False
attribute [go_sem] makeRun
theorem rel_det (hE : Pre E) (hw : Region.wanted o (yielded ops a.tmps) = true) (ht : tells Ψ i = none)
    (h : ∀ K : Act → Prop, (∀ a, wpRel E P ops w0 O Ψ Q r (i + 1) a F G → K a) → ∃ v, (∀ w', E w0 w' → factsAnc (ancOf ops i) F w' → Xk.detRun P o a w' v) ∧ K (a.put o.dst v)) : wpRel E P ops w0 O Ψ Q (o :: r) i a F G := by
  obtain ⟨v, h1, h2⟩ := h _ fun _ h => h
  unfold wpRel; rw [if_pos hw]; simp only [ht]
  refine ⟨v, fun w' hx hf => ?_, h2⟩
  have := h1 w' hx hf
  unfold Xk.detRun at this
  unfold detAt
  generalize (execOp a.eval o).run P w' = q at this
  cases q with
  | ok x w' =>
    cases x <;> simp only [Xk.detVal, Xk.detPost] at this <;> simp only [detUpon]
    case value => exact this
    case skip => exact this
    case enter => exact ⟨this.1, this.2.1, this.2.2.mono fun e w2 h => ⟨h.1, hE.ext h.2⟩⟩
  | halt x w' => simp only at this
theorem rel_make (hE : Pre E) {φ : Value → World → Prop} (hw : Region.wanted o (yielded ops a.tmps) = true) (ht : tells Ψ i = some φ)
    (h : ∀ w', E w0 w' → factsAnc (ancOf ops i) F w' → makeRun E P o a w' (O i) φ)
    (hn : ∀ v, ∀ K : Act → Prop, (∀ a, wpRel E P ops w0 O Ψ Q r (i + 1) a ((i, φ v) :: F) ((i, v) :: G) → K a) → K (a.put o.dst v)) : wpRel E P ops w0 O Ψ Q (o :: r) i a F G := by
  unfold wpRel; rw [if_pos hw]; simp only [ht]
  refine ⟨fun w' hx hf => ?_, fun v => hn v _ fun _ h => h⟩
  have := h w' hx hf
  unfold makeRun at this
  unfold makeAt
  generalize (execOp a.eval o).run P w' = q at this
  cases q with
  | ok x w' =>
    cases x <;> simp only [newPost, callPost] at this <;> simp only [makeUpon]
    case value => exact this
    case skip => exact this
    case enter => exact ⟨this.1, this.2.mono fun e w2 ⟨v, h1, h2, h3⟩ => ⟨v, h1, hE.ext h2, h3⟩⟩
  | halt x w' => simp only at this
theorem rel_nil (h : ∀ w', E w0 w' → factsAll F w' → apart G → Q a w') : wpRel E P ops w0 O Ψ Q [] i a F G := by
  unfold wpRel; exact h
/-- append, as a step. -/
theorem make_app {ks : Specs} {w : World} {old : Option Nat} (B0 base : Nat) (s x : Operand) (t : TypeId) (ho : o.op = .call { callee := .builtin .append, args := #[s, x], argTypes := #[t, t] })
    (e : TypeId) (ti : TypeInfo) (z : Value) (size bytes : Nat) (ht : P.underlying t = some (.slice e)) (hi : P.info? e = some ti) (hz : ti.zero = some z)
    (hsize : ti.size = size) (hby : ti.bytes = bytes) (hzs : z.cells.size = size) (hsz : 0 < size)
    (v : Value) (n : Nat) (xs : List Value) (hs : a.eval s = v) (hown : w.ownsRow base e size v n xs)
    (ad : Addr) (m c : Nat) (news : List Value) (hx : a.eval x = .slice (some ad) m c) (hm : 0 < m) (hl : news.length = m * size) (hnews : ∀ j u, news[j]? = some u → w.cell? (ad.add j) = some u) (h1 : ∀ u ∈ news, u.oneCell' = true)
    (hb : n ≤ 4000000 ∧ m ≤ 4000000 ∧ bytes ≤ 1000) (hbase : base ≤ w.heap.size) (hB : B0 ≤ w.heap.size) (hk : ∀ k ∈ specOf e size (n + m) (xs ++ news) v, k ∈ ks) (hold : old = v.ownBlock) : makeRun (ES ks) P o a w old (appFact base e size B0 v n m (xs ++ news)) := by
  obtain ⟨v', w', hrun, r1, r2⟩ := Xo.run_app (P := P) w base t o.type e ti z size bytes ht hi hz hsize hby hzs hsz v n xs hown ad m c news hm hl hnews h1 hb hbase
  unfold makeRun
  simp [execOp, ho, resolve, invoke, builtin, hs, hx, hrun, Result.andThen]
  rcases r2 with ⟨g, cap, rfl, rfl, hg⟩ | ⟨hg, b, hb', e1⟩
  · refine ⟨⟨hg.os, hg.tape, hg.output, hg.size, fun y hy => ?_⟩, ⟨r1, .inl ⟨g, cap, rfl, rfl⟩⟩, fun b hb => ⟨.inl (by rw [hold, ← hb]; rfl), (r1.lt b hb).2⟩⟩
    by_cases hyg : y = g
    · subst hyg
      refine .inr ⟨_, hk _ (by unfold specOf; exact List.mem_cons_self ..), rfl, ?_⟩
      rcases r1.2 with ⟨h2, -⟩ | ⟨g', cap', cur, hv, hb2, hg2, hnc, hcm, hcs, htake⟩
      · simp at h2
      · simp only [Value.slice.injEq, Option.some.injEq, Addr.mk.injEq, and_true, true_and] at hv
        obtain ⟨rfl, rfl⟩ := hv
        exact ⟨cur, hg2, hcm, hcs, htake⟩
    · exact .inl (hg.block y hy fun e => hyg (by simpa using e))
  · exact ⟨⟨hg.os, hg.tape, hg.output, hg.size, fun y hy => .inl (hg.block y hy (by simp))⟩, ⟨r1, .inr ⟨b, by omega, e1⟩⟩, fun c hc => ⟨.inr (by rw [e1] at hc; cases hc; exact hb'), (r1.lt c hc).2⟩⟩
end
/-- A new block of one cell, as a step. -/
theorem new_one {ks : Specs} {w : World} {old : Option Nat} (B0 : Nat) (x : Value) (t : TypeId) (hB : B0 ≤ w.heap.size) : newPost (ES ks) w old (newFact B0 x) (.slice (some ⟨w.heap.size, 0, none⟩) 1 1) (w.alloc (.cells #[x] t)) :=
  ⟨(pre_ES ks).ext ((Below.refl _ _).alloc (Nat.le_refl _) _), ⟨w.heap.size, rfl, hB, by simp⟩, fun b hb => by cases hb; exact ⟨.inr (Nat.le_refl _), by simp⟩⟩
/-- A block of the call's own that is stored into. -/
def blockFact (b : Nat) (o : Obj) (v : Value) (w : World) : Prop := w.heap[b]? = some o
theorem blockFact.es {ks : Specs} {b : Nat} {o : Obj} (hk : ∀ k ∈ ks, k.1 = b → k.2 = fun x => x = some o) : ∀ v w w', ES ks w w' → blockFact b o v w → blockFact b o v w' := by
  intro v w w' h hb
  rcases h.2.2.2.2 b (Array.getElem?_eq_some_iff.1 hb).1 with e | ⟨k, h1, h2, h3⟩
  · exact e.trans hb
  · rw [hk k h1 h2] at h3; exact h3
theorem set3 {W : World} {b : Nat} {a0 a1 a2 x y z : Value} {t : TypeId} (h : W.heap[b]? = some (.cells #[a0, a1, a2] t (0, 0))) :
    (((W.setCell ⟨b, 0, none⟩ x).setCell ⟨b, 1, none⟩ y).setCell ⟨b, 2, none⟩ z).heap[b]? = some (.cells #[x, y, z] t (0, 0)) ∧
    ∀ c, c ≠ b → (((W.setCell ⟨b, 0, none⟩ x).setCell ⟨b, 1, none⟩ y).setCell ⟨b, 2, none⟩ z).heap[c]? = W.heap[c]? := by
  refine ⟨?_, fun c hc => ?_⟩
  · have h1 := heap_setCell_same W b 0 _ t x h
    have h2 := heap_setCell_same _ b 1 _ t y h1
    have h3 := heap_setCell_same _ b 2 _ t z h2
    rw [h3]; rfl
  · rw [heap_setCell_other _ ⟨b, 2, none⟩ c z (fun e => hc (by simpa using e)), heap_setCell_other _ ⟨b, 1, none⟩ c y (fun e => hc (by simpa using e)), heap_setCell_other _ ⟨b, 0, none⟩ c x (fun e => hc (by simpa using e))]
theorem cells_of3 {W : World} {b : Nat} {a0 a1 a2 : Value} {t : TypeId} (h : W.heap[b]? = some (.cells #[a0, a1, a2] t (0, 0))) :
    W.cell? ⟨b, 0, none⟩ = some a0 ∧ W.cell? ⟨b, 1, none⟩ = some a1 ∧ W.cell? ⟨b, 2, none⟩ = some a2 ∧ W.frozen? ⟨b, 0, none⟩ = false ∧ W.frozen? ⟨b, 1, none⟩ = false ∧ W.frozen? ⟨b, 2, none⟩ = false := by
  refine ⟨by simp [World.cell?, h], by simp [World.cell?, h], by simp [World.cell?, h], frozen_of_row W b 0 _ t h, frozen_of_row W b 1 _ t h, frozen_of_row W b 2 _ t h⟩
/-- A struct of three cells stored into its block, as a step. -/
theorem store3 {ks : Specs} {W : World} {b : Nat} {a0 a1 a2 x y z : Value} {t : TypeId} (h : W.heap[b]? = some (.cells #[a0, a1, a2] t (0, 0))) (hk : (b, fun o => o = some (.cells #[x, y, z] t (0, 0))) ∈ ks) :
    newPost (ES ks) W none (blockFact b (.cells #[x, y, z] t (0, 0))) undef (((W.setCell ⟨b, 0, none⟩ x).setCell ⟨b, 1, none⟩ y).setCell ⟨b, 2, none⟩ z) := by
  obtain ⟨h1, h2⟩ := set3 (x := x) (y := y) (z := z) h
  refine ⟨⟨rfl, rfl, rfl, by simp, fun c hc => ?_⟩, h1, fun c hc => by cases hc⟩
  by_cases hcb : c = b
  · subst hcb; exact .inr ⟨_, hk, rfl, h1⟩
  · exact .inl (h2 c hcb)
/-- Two rows, each with its operation. -/
def O2 (i1 : Nat) (b1 : Option Nat) (i2 : Nat) (b2 : Option Nat) : Nat → Option Nat := fun i => if i = i1 then b1 else if i = i2 then b2 else none
theorem O2_lt {i1 i2 s : Nat} {b1 b2 : Option Nat} (h1 : ∀ b, b1 = some b → b < s) (h2 : ∀ b, b2 = some b → b < s) : ∀ i b, O2 i1 b1 i2 b2 i = some b → b < s := by
  intro i b h
  unfold O2 at h
  split at h
  · exact h1 b h
  · split at h
    · exact h2 b h
    · cases h
theorem O2_ne {i1 i2 : Nat} {b1 b2 : Option Nat} (h : ∀ b, b1 = some b → b2 ≠ some b) : ∀ i j b, i ≠ j → O2 i1 b1 i2 b2 i = some b → O2 i1 b1 i2 b2 j ≠ some b := by
  intro i j b hij h1 h2
  unfold O2 at h1 h2
  split at h1 <;> split at h2
  · omega
  · split at h2
    · exact h b h1 h2
    · cases h2
  · split at h1
    · exact h b h2 h1
    · cases h1
  · split at h1 <;> split at h2
    · omega
    · cases h2
    · cases h1
    · cases h1
theorem apart_of {G : Made} {i j : Nat} {u v : Value} (h : apart G) (hu : (i, u) ∈ G) (hv : (j, v) ∈ G) (hij : i ≠ j) : ∀ b, u.ownBlock = some b → v.ownBlock ≠ some b := h _ hu _ hv hij
theorem stable_es {ks : Specs} {Ψ : List (Nat × (Value → World → Prop))} (h : ∀ x ∈ Ψ, ∀ v w w', ES ks w w' → x.2 v w → x.2 v w') : ∀ i φ, tells Ψ i = some φ → ∀ v w w', ES ks w w' → φ v w → φ v w' := by
  induction Ψ with
  | nil => intro i φ ht; cases ht
  | cons x r ih =>
    intro i φ ht
    unfold tells at ht
    split at ht
    · cases ht; exact h x (List.mem_cons_self ..)
    · exact ih (fun y hy => h y (List.mem_cons_of_mem _ hy)) i φ ht
theorem facts_head {m i : Nat} {φ : World → Prop} {r : Facts} {w : World} (h : factsAnc m ((i, φ) :: r) w) (hm : m.testBit i = true) : φ w := by
  unfold factsAnc at h
  rw [if_pos hm] at h
  exact h.1
theorem facts_tail {m i : Nat} {φ : World → Prop} {r : Facts} {w : World} (h : factsAnc m ((i, φ) :: r) w) : factsAnc m r w := by
  unfold factsAnc at h
  split at h
  · exact h.2
  · exact h
end Go.Xe
