/- Walks: what report.guess calls. -/
import Derived.Test.YtmoippbmnanajaaGreatDoorRO
import Derived.Lib.SplitLaws
set_option linter.unusedSimpArgs false
set_option linter.unusedVariables false
namespace Go.Xo
open Go.Xk
/-- What has been made stays, where nothing but what came behind it turns. -/
theorem Lives.beyond {B : Nat} {ks : List (Option Nat)} {w w2 : World} {R : World → Prop} (h : Lives B [] w R) (hx : Ext w w2) (hk : ∀ b, some b ∈ ks → w.heap.size ≤ b) : Lives B ks w2 R := fun w' h1 h2 =>
  h w' (Nat.le_trans hx.size h1) fun b hb hl _ => (h2 b hb (Nat.lt_of_lt_of_le hl hx.size) fun hm => by have := hk b hm; omega).trans (hx.block b hl)
theorem lives_block {B : Nat} {ks : List (Option Nat)} {w : World} {b : Nat} {o : Obj} (h : w.heap[b]? = some o) (hB : B ≤ b) (hk : some b ∉ ks) : Lives B ks w fun w => w.heap[b]? = some o := fun w' h1 h2 =>
  (h2 b hB (Array.getElem?_eq_some_iff.1 h).1 hk).trans h
theorem Lives.out {B : Nat} {ks : List (Option Nat)} {w w2 : World} {R : World → Prop} (h : Lives B ks w R) (hs : w.heap.size ≤ w2.heap.size) (hb : ∀ b, B ≤ b → b < w.heap.size → some b ∉ ks → w2.heap[b]? = w.heap[b]?) : Lives B ks w2 R := fun w' h1 h2 =>
  h w' (Nat.le_trans hs h1) fun b hb' hl hn => (h2 b hb' (Nat.lt_of_lt_of_le hl hs) hn).trans (hb b hb' hl hn)
/-- append to a slice of the call's own, above a block. -/
theorem wpList_appb {P : Program} {w : World} {ops : Array Oper} {rest : List Oper} {o : Oper} {a : Act} {Q : Exit → Act → World → Prop} (B : Nat) (hgd : o.guard = none) (s x : Operand) (t : TypeId)
    (ho : o.op = .call { callee := .builtin .append, args := #[s, x], argTypes := #[t, t] })
    (e : TypeId) (i : TypeInfo) (z : Value) (size bytes : Nat) (ht : P.underlying t = some (.slice e)) (hi : P.info? e = some i) (hz : i.zero = some z)
    (hsize : i.size = size) (hby : i.bytes = bytes) (hzs : z.cells.size = size) (hsz : 0 < size)
    (v : Value) (n : Nat) (xs : List Value) (hs : a.eval s = v) (hown : w.ownsRow B e size v n xs)
    (g goff m c : Nat) (news : List Value) (hx : a.eval x = .slice (some ⟨g, goff, none⟩) m c) (hm : 0 < m) (hl : news.length = m * size) (hnews0 : ∀ j u, news[j]? = some u → w.cell? ⟨g, goff + j, none⟩ = some u) (h1 : ∀ u ∈ news, u.oneCell' = true)
    (hb : n ≤ 4000000 ∧ m ≤ 4000000 ∧ bytes ≤ 1000) (hbel : B ≤ w.heap.size)
    (h : ∀ v' w', w'.ownsRow B e size v' (n + m) (xs ++ news) → w.grownBy w' v.ownBlock → (∀ b, v'.ownBlock = some b → v.ownBlock = some b ∨ w.heap.size ≤ b) → wpList P ops Q rest (a.put o.dst v') w') : wpList P ops Q (o :: rest) a w := by
  have hnews : ∀ j u, news[j]? = some u → w.cell? (Addr.add ⟨g, goff, none⟩ j) = some u := fun j u hj => by rw [addr_add]; exact hnews0 j u hj
  obtain ⟨v', w', hrun, r1, r2⟩ := run_app (P := P) w B t o.type e i z size bytes ht hi hz hsize hby hzs hsz v n xs hown _ m c news hm hl hnews h1 hb hbel
  refine wpList_plain hgd fun K hK' => ?_
  have hg : w.grownBy w' v.ownBlock ∧ (∀ b, v'.ownBlock = some b → v.ownBlock = some b ∨ w.heap.size ≤ b) := by
    rcases r2 with ⟨g, cap, rfl, rfl, hg⟩ | ⟨hg, b, hb', e1⟩
    · exact ⟨hg, fun b h => .inl h⟩
    · exact ⟨⟨hg.os, hg.tape, hg.output, hg.size, fun k hk _ => hg.block k hk (by simp)⟩, fun c h => by rw [e1] at h; cases h; exact .inr hb'⟩
  unfold Oper.wp
  simp [execOp, ho, resolve, invoke, builtin, hs, hx, hrun, Result.andThen]
  exact hK' _ _ (h v' w' r1 hg.1 hg.2)
end Go.Xo
namespace Go.Proofs.YtmoippbmnanajaaGreatDoor
open Go.RowKit
theorem split_any (s sep : List UInt8) (hs : s.length ≤ 4000000000) (h1 : 1 ≤ sep.length) (w : World) (hE : Env w) :
    Calls Tryz.prog 58 #[.string ⟨s.toArray⟩, .string ⟨sep.toArray⟩] w fun e w' => ∃ v, e = .returned v ∧ Xo.Lives w.heap.size [] w' (fun W => StrsAt W v (Lib.split s sep)) ∧ Below w.heap.size w w' := by
  obtain ⟨m, hm⟩ := hE.max
  have hz : (⟨s.toArray⟩ : ByteArray).size = s.length := by simp [ByteArray.size]
  have hz2 : (⟨sep.toArray⟩ : ByteArray).size = sep.length := by simp [ByteArray.size]
  refine (Tryz.strings_Split ⟨s.toArray⟩ ⟨sep.toArray⟩ m w (by omega) hm (by omega)).mono fun e w' ⟨h2, h3⟩ => ⟨_, h2, ?_, by rw [h3]; exact ext_alloc _ _⟩
  have hall := Lib.splitB_all ⟨sep.toArray⟩ (by omega) 0 _ ⟨s.toArray⟩ rfl
  have hdata := Lib.splitB_data ⟨sep.toArray⟩ 0 (Lib.countB ⟨s.toArray⟩ ⟨sep.toArray⟩) ⟨s.toArray⟩
  have hsp : (Lib.splitB ⟨sep.toArray⟩ 0 (Lib.countB ⟨s.toArray⟩ ⟨sep.toArray⟩) ⟨s.toArray⟩).map (·.data.toList) = Lib.split s sep := by
    rw [hdata]
    unfold Lib.split
    congr 1
  generalize Lib.splitB ⟨sep.toArray⟩ 0 (Lib.countB ⟨s.toArray⟩ ⟨sep.toArray⟩) ⟨s.toArray⟩ = L at hall hsp h3
  generalize Lib.countB ⟨s.toArray⟩ ⟨sep.toArray⟩ = n at hall h2
  have hlen : (Lib.split s sep).length = n + 1 := by rw [← hsp, List.length_map, hall]
  intro W g1 g2
  refine ⟨some ⟨w.heap.size, 0, none⟩, n + 1, by rw [hlen], by rw [hlen]; exact Nat.le_refl _, fun j x hj => ⟨w.heap.size, 0, rfl, ?_⟩⟩
  have hb : W.heap[w.heap.size]? = some (.cells (L.map Value.string).toArray 9) := by
    rw [g2 w.heap.size (Nat.le_refl _) (by rw [h3]; simp) (by simp), h3, heap_alloc_new]
  rw [← hsp, List.getElem?_map, Option.map_eq_some_iff] at hj
  obtain ⟨y, hy, rfl⟩ := hj
  show W.cell? _ = _
  have hlt := (List.getElem?_eq_some_iff.1 hy).1
  simp [World.cell?, hb, hy, hlt]
  have := (List.getElem?_eq_some_iff.1 hy).2
  rw [this]
theorem atoi_ok (t : List UInt8) (n : Int) (h : Lib.atoiAll t = .ok n) (ht : t.length ≤ 4000000000) (w : World) :
    Calls Tryz.prog 59 #[.string ⟨t.toArray⟩] w fun e w' => e = .returned (.tuple #[.int .i64 n, .nilIface]) ∧ Below w.heap.size w w' :=
  (Tryz.strconv_Atoi_ok ⟨t.toArray⟩ (by show t.length ≤ _; omega) n (by simpa using h) w).mono fun e w' ⟨h1, h2⟩ => ⟨h1, bytes_below h2⟩
theorem atoi_err (t : List UInt8) (h : ∀ n, Lib.atoiAll t ≠ .ok n) (ht : t.length ≤ 4000000000) (w : World) (hE : EnvR w) :
    Calls Tryz.prog 59 #[.string ⟨t.toArray⟩] w fun e w' => ∃ (n : Int) (tp : TypeId) (a : Addr), e = .returned (.tuple #[.int .i64 n, .iface tp (.pointer (some a))]) ∧ Below w.heap.size w w' := by
  obtain ⟨tp, p, hs⟩ := hE.syn
  obtain ⟨tp', p', hr⟩ := hE.ran
  rcases hp : Lib.atoiAll t with n | _ | _
  · exact absurd hp (h n)
  · exact (Tryz.strconv_Atoi_syntax_var ⟨t.toArray⟩ (by show t.length ≤ _; omega) (hp.trans (by kernel_rfl)) tp p w hs).mono fun e w' h => by obtain ⟨N, h1, -, -, h2⟩ := h; exact ⟨_, _, _, h1, h2⟩
  · exact (Tryz.strconv_Atoi_range_var ⟨t.toArray⟩ (by show t.length ≤ _; omega) (by simpa using hp) tp' p' w hr).mono fun e w' h => by obtain ⟨N, h1, -, -, h2⟩ := h; exact ⟨_, _, _, h1, h2⟩
theorem Tryz.infoInt : (Tryz.prog.info? 3).map (fun i => (i.zero, i.size, i.bytes)) = some (some (.int .i64 0), 1, 8) := by kernel_rfl
theorem Tryz.infoRow : (Tryz.prog.info? 37).map (fun i => (i.zero, i.size, i.bytes)) = some (some (.slice none 0 0), 1, 24) := by kernel_rfl
/-- How guess ends. -/
def GuessPost (w : World) (r : Option Ans) (e : Ending) (w' : World) : Prop := Below w.heap.size w w' ∧ match r with
  | some a => ∃ vc vr, e = .returned (.tuple #[.agg #[vc, vr, .int .i64 a.n], .bool true]) ∧ Xo.Lives w.heap.size [] w' fun W => StrsAt W vc a.names ∧ RowsAt W vr a.rows
  | none => ∃ pa na ca pb nb cb n, e = .returned (.tuple #[.agg #[.slice pa na ca, .slice pb nb cb, .int .i64 n], .bool false])
def icells (l : List Nat) : List Value := l.map fun (n : Nat) => Value.int .i64 n
theorem icells_snoc (l : List Nat) (n : Nat) : icells l ++ [.int .i64 n] = icells (l ++ [n]) := by simp [icells]
theorem IntsAt.own {w : World} {base : Nat} {e : TypeId} {v : Value} {n : Nat} {l : List Nat} (h : w.ownsRow base e 1 v n (icells l)) : IntsAt w v l :=
  SlAt.own h (by have := h.1; simpa [icells] using this) fun b j x hj hc => by
    have := hc 0 (.int .i64 x) (by decide) (by simp [icells, hj])
    simpa [intR] using this
theorem IntsAt.ext {w w' : World} {v : Value} {l : List Nat} (h : IntsAt w v l) (hx : Xk.Ext w w') : IntsAt w' v l := SlAt.ext h hx fun _ _ _ h => Xk.ext_cell hx h
end Go.Proofs.YtmoippbmnanajaaGreatDoor
