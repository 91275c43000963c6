/- Walks: the lexer: what holds at its labels. -/
import Derived.Test.YteipafoiogkdoaaDoorLD
import Derived.ScopeJumps
import Derived.WalkMore
import Derived.Laws.OwnMore
set_option linter.unusedSimpArgs false
set_option linter.unusedVariables false
namespace Go.Xk
open Go.RowKit
/-- By a goto to label l: J l; else as Q. -/
def jumps (J : Nat → Act → World → Prop) (Q : Exit → Act → World → Prop) : Exit → Act → World → Prop
  | .goto l, a, w => J l a w
  | e, a, w => Q e a w
section
variable {J : Nat → Act → World → Prop} {Q : Exit → Act → World → Prop} {a : Act} {w : World}
@[go_sem] theorem jumps_goto (l : Nat) : jumps J Q (.goto l) a w = J l a w := rfl
@[go_sem] theorem jumps_normal : jumps J Q .normal a w = Q .normal a w := rfl
@[go_sem] theorem jumps_exit (id : Nat) : jumps J Q (.exit id) a w = Q (.exit id) a w := rfl
@[go_sem] theorem jumps_ret : jumps J Q .ret a w = Q .ret a w := rfl
@[go_sem] theorem jumps_panic (ch : List PanicEntry) : jumps J Q (.panic ch) a w = Q (.panic ch) a w := rfl
end
/-- A scope of several labels: what holds at each of them, and a number that every pass lowers. -/
theorem wp_scope_labels {P : Program} {a : Act} {w : World} {Q : Exit → Act → World → Prop} {c : Code} (J : Nat → Nat → Act → World → Prop)
    (first : c.wp P (jumps (fun l a w => ∃ n, J n l a w) Q) a w)
    (pass : ∀ n l a w, J n l a w → ∃ rest, findLabel c l = some rest ∧ rest.wp P (jumps (fun l' a' w' => ∃ m, m < n ∧ J m l' a' w') Q) a w) : (Code.scope c).wp P Q a w := by
  intro b k cs
  have key : ∀ n l a w, J n l a w → ∃ rest e a' w', findLabel c l = some rest ∧ Q e a' w' ∧ Arrives P (lone (b.at a (.code rest :: .inScope c :: k)) cs w) b k cs e a' w' := by
    intro n
    induction n using Nat.strongRecOn with
    | _ n ih =>
      intro l a w hJ
      obtain ⟨rest, hf, hw⟩ := pass n l a w hJ
      obtain ⟨e, a₁, w₁, hq, harr⟩ := hw b (.inScope c :: k) cs
      refine ⟨rest, ?_⟩
      cases e with
      | normal => exact ⟨.normal, a₁, w₁, hf, hq, Steps.trans harr (.one step_inScope)⟩
      | exit id => exact ⟨.exit id, a₁, w₁, hf, hq, fun k' hk => harr k' (by simp [exitTo, hk])⟩
      | goto l' =>
        obtain ⟨m, hlt, hJ'⟩ := hq
        obtain ⟨rest₂, e₂, a₂, w₂, hf₂, hq₂, harr₂⟩ := ih m hlt l' a₁ w₁ hJ'
        exact ⟨e₂, a₂, w₂, hf, hq₂, .of_steps (harr _ (by simp [gotoIn, hf₂])) harr₂⟩
      | ret => exact ⟨_, a₁, w₁, hf, hq, harr⟩
      | panic ch => exact ⟨_, a₁, w₁, hf, hq, harr⟩
      | outgrown => exact ⟨_, a₁, w₁, hf, hq, harr⟩
  obtain ⟨e, a₁, w₁, hq, harr⟩ := first b (.inScope c :: k) cs
  cases e with
  | normal => exact ⟨.normal, a₁, w₁, hq, .head step_scope (Steps.trans harr (.one step_inScope))⟩
  | exit id => exact ⟨.exit id, a₁, w₁, hq, fun k' hk => .head step_scope (harr k' (by simp [exitTo, hk]))⟩
  | goto l' =>
    obtain ⟨n, hJ'⟩ := hq
    obtain ⟨rest₂, e₂, a₂, w₂, hf₂, hq₂, harr₂⟩ := key n l' a₁ w₁ hJ'
    exact ⟨e₂, a₂, w₂, hq₂, .of_steps (.head step_scope (harr _ (by simp [gotoIn, hf₂]))) harr₂⟩
  | ret => exact ⟨_, a₁, w₁, hq, .of_steps (.one step_scope) harr⟩
  | panic ch => exact ⟨_, a₁, w₁, hq, .of_steps (.one step_scope) harr⟩
  | outgrown => exact ⟨_, a₁, w₁, hq, .of_steps (.one step_scope) harr⟩

/-- Such a slice where an elder cell is written. -/
theorem Acc.setCell {w : World} {base : Nat} {e : TypeId} {size : Nat} {v : Value} {n : Nat} {xs : List Value} (h : Acc w base e size v n xs) (hn : ∀ b off, v = .slice (some ⟨b, off, none⟩) n n → base ≤ b) {ad : Addr} (ha : ad.block < base) (u : Value) : Acc (w.setCell ad u) base e size v n xs := by
  rcases h with h | ⟨b, off, hv, hl, hc⟩
  · exact .inl (ownsRow_setCell_below h ha u)
  · refine .inr ⟨b, off, hv, hl, fun j x hj => ?_⟩
    have := hn b off hv
    rw [← hc j x hj]
    exact World.cell?_of_block (Below.heap_setCell w ad u b (by omega))
theorem ownsRow_ext {w w' : World} {base : Nat} {e : TypeId} {size : Nat} {v : Value} {n : Nat} {xs : List Value} (h : w.ownsRow base e size v n xs) (hx : Ext w w') : w'.ownsRow base e size v n xs := by
  obtain ⟨h1, h2⟩ := h
  refine ⟨h1, ?_⟩
  rcases h2 with h2 | ⟨g, cap, cur, hv, hb, hg, r⟩
  · exact .inl h2
  · exact .inr ⟨g, cap, cur, hv, hb, by rw [hx.block g (Array.getElem?_eq_some_iff.1 hg).1]; exact hg, r⟩
theorem own_more {W : World} {d d' : Nat} {os os' : Array Obj} {base : Nat} {e : TypeId} {size : Nat} {v : Value} {n : Nat} {xs : List Value} (h : (exw W ⟨d, os⟩).ownsRow base e size v n xs) : (exw W ⟨d', os ++ os'⟩).ownsRow base e size v n xs := by
  rw [← exw_exw W ⟨d, os⟩ ⟨d', os'⟩]
  exact ownsRow_ext h (ext_exw _ _)
theorem own_d {W : World} {p : Regrown} {d' : Nat} {base : Nat} {e : TypeId} {size : Nat} {v : Value} {n : Nat} {xs : List Value} (h : (exw W p).ownsRow base e size v n xs) : (exw W ⟨d', p.os⟩).ownsRow base e size v n xs := by
  have := own_more (d := p.d) (d' := d') (os := p.os) (os' := #[]) h
  simpa using this
theorem own_alloc {w : World} {base : Nat} {e : TypeId} {size : Nat} {v : Value} {n : Nat} {xs : List Value} (h : w.ownsRow base e size v n xs) (o : Obj) : (w.alloc o).ownsRow base e size v n xs := h.alloc o
theorem own_drew {w : World} {base : Nat} {e : TypeId} {size : Nat} {v : Value} {n : Nat} {xs : List Value} (h : w.ownsRow base e size v n xs) : (w.drew).ownsRow base e size v n xs := h.drew
/-- Elements appended to a slice of the call's own, or to nothing. -/
theorem wpList_own {P : Program} {w0 w : World} {ops : Array Oper} {rest : List Oper} {o : Oper} {a : Act} {Q : Exit → Act → World → Prop} (hgd : o.guard = none) (s x : Operand) (t : TypeId)
    (ho : o.op = .call { callee := .builtin .append, args := #[s, x], argTypes := #[t, t] })
    (e : TypeId) (i : TypeInfo) (z : Value) (size bytes : Nat) (ht : P.underlying t = some (.slice e)) (hi : P.info? e = some i) (hz : i.zero = some z)
    (hsize : i.size = size) (hby : i.bytes = bytes) (hzs : z.cells.size = size) (hsz : 0 < size)
    (v : Value) (n : Nat) (xs : List Value) (hs : a.eval s = v) (hown : w.ownsRow w0.heap.size e size v n xs)
    (g goff m c : Nat) (news : List Value) (hx : a.eval x = .slice (some ⟨g, goff, none⟩) m c) (hl : news.length = m * size) (hnews0 : ∀ j u, news[j]? = some u → w.cell? ⟨g, goff + j, none⟩ = some u) (h1 : ∀ u ∈ news, u.oneCell' = true)
    (hb : n ≤ 1000000 ∧ m ≤ 1000000 ∧ bytes ≤ 1000) (hbel : Below w0.heap.size w0 w)
    (h : ∀ v' p, (exw w0 p).ownsRow w0.heap.size e size v' (n + m) (xs ++ news) → wpList P ops Q rest (a.put o.dst v') (exw w0 p)) : wpList P ops Q (o :: rest) a w := by
  have hnews : ∀ j u, news[j]? = some u → w.cell? (Addr.add ⟨g, goff, none⟩ j) = some u := fun j u hj => by rw [addr_add]; exact hnews0 j u hj
  have hm : (n + m) * bytes ≤ 2000000 * 1000 := Nat.mul_le_mul (by omega) hb.2.2
  refine wpList_append_own w hgd s x t ho w0.heap.size e i z size bytes ht hi hz hsize hby hzs hsz v n xs hs hown _ m c news hx hl hnews h1 (by unfold maxLen; omega) (by omega) hbel.size fun v' w' ho' hg _ => ?_
  obtain ⟨p, rfl⟩ := exw_of (hbel.grown hg hbel.size (ownBlock_ge hown))
  exact h v' p ho'
theorem cells3 {W : World} {g : Nat} {x y z : Value} {t : TypeId} (h : g = W.heap.size) : ∀ (j : Nat) u, [x, y, z][j]? = some u → (W.alloc (.cells #[x, y, z] t)).cell? ⟨g, 0 + j, none⟩ = some u := by
  subst h
  intro j u hj
  rw [World.cell?_alloc_mark]
  match j, hj with
  | 0, hj => simpa using hj
  | 1, hj => simpa using hj
  | 2, hj => simpa using hj
end Go.Xk
namespace Go.Proofs.YteipafoiogkdoaaDoor
open Go.RowKit Go.Maps
theorem Tryd.infoTok : (Tryd.prog.info? 31).map (fun i => (i.zero, i.size, i.bytes)) = some (some (.agg #[.int .i64 0, .string ⟨#[]⟩, .int .i64 0]), 3, 32) := by kernel_rfl

def tokCells (l : List P11.Tok) : List Value := l.flatMap fun t => [.int .i64 t.kind, .string ⟨t.text.toArray⟩, .int .i64 t.pos]
theorem tokCells_length (l : List P11.Tok) : (tokCells l).length = l.length * 3 := by
  induction l with
  | nil => rfl
  | cons t l ih => simp [tokCells] at ih ⊢; omega
theorem tokCells_snoc (l : List P11.Tok) (t : P11.Tok) : tokCells (l ++ [t]) = tokCells l ++ [.int .i64 t.kind, .string ⟨t.text.toArray⟩, .int .i64 t.pos] := by simp [tokCells]
theorem tokCells_at : ∀ (l : List P11.Tok) (j : Nat) (t : P11.Tok), l[j]? = some t → (tokCells l)[j * 3]? = some (.int .i64 t.kind) ∧ (tokCells l)[j * 3 + 1]? = some (.string ⟨t.text.toArray⟩) ∧ (tokCells l)[j * 3 + 2]? = some (.int .i64 t.pos)
  | [], _, _, h => by simp at h
  | x :: l, 0, t, h => by
    simp at h; subst h
    exact ⟨rfl, rfl, rfl⟩
  | x :: l, j + 1, t, h => by
    obtain ⟨h1, h2, h3⟩ := tokCells_at l j t (by simpa using h)
    have e : tokCells (x :: l) = .int .i64 x.kind :: .string ⟨x.text.toArray⟩ :: .int .i64 x.pos :: tokCells l := rfl
    rw [e, show (j + 1) * 3 = j * 3 + 1 + 1 + 1 by omega]
    exact ⟨by simpa using h1, by simpa using h2, by simpa using h3⟩
/-- v is a slice of tokens that reads as l in w. -/
def ToksAt (w : World) (v : Value) (l : List P11.Tok) : Prop :=
  ∃ pa cap, v = .slice pa l.length cap ∧ ∀ (j : Nat) (t : P11.Tok), l[j]? = some t → ∃ b off, pa = some ⟨b, off, none⟩ ∧
    w.cell? ⟨b, off + j * 3, none⟩ = some (.int .i64 t.kind) ∧ w.cell? ⟨b, off + j * 3 + 1, none⟩ = some (.string ⟨t.text.toArray⟩) ∧ w.cell? ⟨b, off + j * 3 + 2, none⟩ = some (.int .i64 t.pos)
theorem ToksAt.ext {w w' : World} {v : Value} {l : List P11.Tok} (h : ToksAt w v l) (hx : Xk.Ext w w') : ToksAt w' v l := by
  obtain ⟨pa, cap, hv, hl⟩ := h
  refine ⟨pa, cap, hv, fun j x hj => ?_⟩
  obtain ⟨b, off, h1, h2, h3, h4⟩ := hl j x hj
  exact ⟨b, off, h1, Xk.ext_cell hx h2, Xk.ext_cell hx h3, Xk.ext_cell hx h4⟩
/-- What Tokens answers. -/
def LexPost (s : ByteArray) (w0 : World) (e : Ending) (w' : World) : Prop :=
  Below w0.heap.size w0 w' ∧ ((∃ l v, P11.lexed s.data.toList = .inl l ∧ e = .returned (.tuple #[v, .int .i64 0, .int .i64 0]) ∧ ToksAt w' v l) ∨
    ∃ (a : Nat) (k : Int), P11.lexed s.data.toList = .inr (a, k) ∧ e = .returned (.tuple #[.slice none 0 0, .int .i64 a, .int .i64 k]))
noncomputable def scopeCode : Code := match Tryd.f8.body with
  | some (.seq _ (.scope c)) => c
  | _ => .skip
set_option maxRecDepth 100000 in
/-- The frame at a label. -/
def Fr (s : ByteArray) (bs B ba : Nat) (v : Value) (a : Act) : Prop :=
  ∃ f : Nat → Value, a = { tmps := #[.string s, .pointer (some ⟨bs, 0, none⟩), f 2, f 3, f 4, .map (some B), f 6, f 7, v, .pointer (some ⟨ba, 0, none⟩), f 10, f 11, f 12, f 13, f 14, f 15, f 16, f 17, f 18, f 19, f 20, f 21, f 22, f 23, f 24, f 25, f 26, f 27, f 28, f 29, f 30, f 31, f 32, f 33, f 34, f 35, f 36, f 37, f 38, f 39, f 40, f 41, f 42, f 43, f 44, f 45, f 46, f 47, f 48, f 49, f 50, f 51, f 52, f 53, f 54, f 55, f 56, f 57, f 58, f 59, f 60, f 61, f 62, f 63, f 64, f 65, f 66, f 67, f 68, f 69, f 70, f 71, f 72, f 73, f 74, f 75, f 76, f 77, f 78, f 79, f 80, f 81, f 82, f 83, f 84, f 85, f 86, f 87, f 88, f 89, f 90, f 91, f 92, f 93, f 94, f 95, f 96, f 97, f 98, f 99, f 100, f 101, f 102, f 103, f 104, f 105, f 106, f 107, f 108, f 109, f 110, f 111, f 112, f 113, f 114, f 115, f 116, f 117, f 118, f 119, f 120, f 121, f 122, f 123, f 124, f 125, f 126, f 127, f 128, f 129, f 130, f 131, f 132, f 133, f 134, f 135, f 136, f 137, f 138, f 139, f 140, f 141, f 142, f 143, f 144, f 145, f 146, f 147, f 148, f 149, f 150, f 151, f 152, f 153, f 154, f 155, f 156, f 157, f 158, f 159, f 160, f 161, f 162, f 163, f 164, f 165, f 166, f 167, f 168, f 169, f 170, f 171], defers := [] }
set_option maxRecDepth 100000 in
theorem Fr.of {s : ByteArray} {bs B ba : Nat} {v : Value} {a : Act} (h : a = { tmps := #[.string s, .pointer (some ⟨bs, 0, none⟩), a.tmps.getD 2 undef, a.tmps.getD 3 undef, a.tmps.getD 4 undef, .map (some B), a.tmps.getD 6 undef, a.tmps.getD 7 undef, v, .pointer (some ⟨ba, 0, none⟩), a.tmps.getD 10 undef, a.tmps.getD 11 undef, a.tmps.getD 12 undef, a.tmps.getD 13 undef, a.tmps.getD 14 undef, a.tmps.getD 15 undef, a.tmps.getD 16 undef, a.tmps.getD 17 undef, a.tmps.getD 18 undef, a.tmps.getD 19 undef, a.tmps.getD 20 undef, a.tmps.getD 21 undef, a.tmps.getD 22 undef, a.tmps.getD 23 undef, a.tmps.getD 24 undef, a.tmps.getD 25 undef, a.tmps.getD 26 undef, a.tmps.getD 27 undef, a.tmps.getD 28 undef, a.tmps.getD 29 undef, a.tmps.getD 30 undef, a.tmps.getD 31 undef, a.tmps.getD 32 undef, a.tmps.getD 33 undef, a.tmps.getD 34 undef, a.tmps.getD 35 undef, a.tmps.getD 36 undef, a.tmps.getD 37 undef, a.tmps.getD 38 undef, a.tmps.getD 39 undef, a.tmps.getD 40 undef, a.tmps.getD 41 undef, a.tmps.getD 42 undef, a.tmps.getD 43 undef, a.tmps.getD 44 undef, a.tmps.getD 45 undef, a.tmps.getD 46 undef, a.tmps.getD 47 undef, a.tmps.getD 48 undef, a.tmps.getD 49 undef, a.tmps.getD 50 undef, a.tmps.getD 51 undef, a.tmps.getD 52 undef, a.tmps.getD 53 undef, a.tmps.getD 54 undef, a.tmps.getD 55 undef, a.tmps.getD 56 undef, a.tmps.getD 57 undef, a.tmps.getD 58 undef, a.tmps.getD 59 undef, a.tmps.getD 60 undef, a.tmps.getD 61 undef, a.tmps.getD 62 undef, a.tmps.getD 63 undef, a.tmps.getD 64 undef, a.tmps.getD 65 undef, a.tmps.getD 66 undef, a.tmps.getD 67 undef, a.tmps.getD 68 undef, a.tmps.getD 69 undef, a.tmps.getD 70 undef, a.tmps.getD 71 undef, a.tmps.getD 72 undef, a.tmps.getD 73 undef, a.tmps.getD 74 undef, a.tmps.getD 75 undef, a.tmps.getD 76 undef, a.tmps.getD 77 undef, a.tmps.getD 78 undef, a.tmps.getD 79 undef, a.tmps.getD 80 undef, a.tmps.getD 81 undef, a.tmps.getD 82 undef, a.tmps.getD 83 undef, a.tmps.getD 84 undef, a.tmps.getD 85 undef, a.tmps.getD 86 undef, a.tmps.getD 87 undef, a.tmps.getD 88 undef, a.tmps.getD 89 undef, a.tmps.getD 90 undef, a.tmps.getD 91 undef, a.tmps.getD 92 undef, a.tmps.getD 93 undef, a.tmps.getD 94 undef, a.tmps.getD 95 undef, a.tmps.getD 96 undef, a.tmps.getD 97 undef, a.tmps.getD 98 undef, a.tmps.getD 99 undef, a.tmps.getD 100 undef, a.tmps.getD 101 undef, a.tmps.getD 102 undef, a.tmps.getD 103 undef, a.tmps.getD 104 undef, a.tmps.getD 105 undef, a.tmps.getD 106 undef, a.tmps.getD 107 undef, a.tmps.getD 108 undef, a.tmps.getD 109 undef, a.tmps.getD 110 undef, a.tmps.getD 111 undef, a.tmps.getD 112 undef, a.tmps.getD 113 undef, a.tmps.getD 114 undef, a.tmps.getD 115 undef, a.tmps.getD 116 undef, a.tmps.getD 117 undef, a.tmps.getD 118 undef, a.tmps.getD 119 undef, a.tmps.getD 120 undef, a.tmps.getD 121 undef, a.tmps.getD 122 undef, a.tmps.getD 123 undef, a.tmps.getD 124 undef, a.tmps.getD 125 undef, a.tmps.getD 126 undef, a.tmps.getD 127 undef, a.tmps.getD 128 undef, a.tmps.getD 129 undef, a.tmps.getD 130 undef, a.tmps.getD 131 undef, a.tmps.getD 132 undef, a.tmps.getD 133 undef, a.tmps.getD 134 undef, a.tmps.getD 135 undef, a.tmps.getD 136 undef, a.tmps.getD 137 undef, a.tmps.getD 138 undef, a.tmps.getD 139 undef, a.tmps.getD 140 undef, a.tmps.getD 141 undef, a.tmps.getD 142 undef, a.tmps.getD 143 undef, a.tmps.getD 144 undef, a.tmps.getD 145 undef, a.tmps.getD 146 undef, a.tmps.getD 147 undef, a.tmps.getD 148 undef, a.tmps.getD 149 undef, a.tmps.getD 150 undef, a.tmps.getD 151 undef, a.tmps.getD 152 undef, a.tmps.getD 153 undef, a.tmps.getD 154 undef, a.tmps.getD 155 undef, a.tmps.getD 156 undef, a.tmps.getD 157 undef, a.tmps.getD 158 undef, a.tmps.getD 159 undef, a.tmps.getD 160 undef, a.tmps.getD 161 undef, a.tmps.getD 162 undef, a.tmps.getD 163 undef, a.tmps.getD 164 undef, a.tmps.getD 165 undef, a.tmps.getD 166 undef, a.tmps.getD 167 undef, a.tmps.getD 168 undef, a.tmps.getD 169 undef, a.tmps.getD 170 undef, a.tmps.getD 171 undef], defers := [] }) : Fr s bs B ba v a := ⟨fun i => a.tmps.getD i undef, h⟩
/-- The world at a label: W with what is grown; its cells. -/
structure LW (w0 : World) (s : ByteArray) (bs B ba : Nat) (W : World) (a : Nat) : Prop where
  below : Below w0.heap.size w0 W
  cs : W.cell? ⟨bs, 0, none⟩ = some (.string s)
  ca : W.cell? ⟨ba, 0, none⟩ = some (.int .i64 a)
  fa : W.frozen? ⟨ba, 0, none⟩ = false
  words : WordsAt W B 43
  ls : bs < W.heap.size
  la : ba < W.heap.size
  ha : w0.heap.size ≤ ba
  ne : bs ≠ ba
  nB : B ≠ ba
theorem LW.step {w0 : World} {s : ByteArray} {bs B ba : Nat} {W : World} {a : Nat} (h : LW w0 s bs B ba W a) (b : Nat) : LW w0 s bs B ba (W.setCell ⟨ba, 0, none⟩ (.int .i64 b)) b where
  below := h.below.setCell h.ha _
  cs := by
    rw [← h.cs]
    exact World.cell?_of_block (Below.heap_setCell W ⟨ba, 0, none⟩ _ bs (by simpa using h.ne))
  ca := by
    exact World.cell?_setCell_same W _ _ h.ca
  fa := by rw [World.frozen?_setCell]; exact h.fa
  words := h.words.setCell (by simpa using h.nB) _
  ls := by simpa using h.ls
  la := by simpa using h.la
  ha := h.ha
  ne := h.ne
  nB := h.nB
/-- What holds at label 0: n is twice what is left, and one. -/
def J0 (w0 : World) (s : ByteArray) (bs B ba : Nat) (n : Nat) (act : Act) (w : World) : Prop :=
  ∃ (W : World) (p : Regrown) (a : Nat) (v : Value) (acc : List P11.Tok), w = Xk.exw W p ∧ LW w0 s bs B ba W a ∧ a ≤ s.size ∧ n = 2 * (s.size - a) + 1 ∧ acc.length ≤ a ∧ Fr s bs B ba v act ∧
    (Xk.exw W p).ownsRow W.heap.size 31 3 v acc.length (tokCells acc) ∧ P11.toks s.data.toList 0 = P11.after acc (P11.toks (s.data.toList.drop a) a)
/-- What holds at labels 1 (a note) and 2 (a text). -/
def JN (w0 : World) (s : ByteArray) (bs B ba : Nat) (what : List UInt8) (n : Nat) (act : Act) (w : World) : Prop :=
  ∃ (W : World) (p : Regrown) (a : Nat) (v : Value) (acc : List P11.Tok), w = Xk.exw W p ∧ LW w0 s bs B ba W a ∧ a ≤ s.size ∧ n = 2 * (s.size - a) ∧ acc.length ≤ a ∧ Fr s bs B ba v act ∧
    (Xk.exw W p).ownsRow W.heap.size 31 3 v acc.length (tokCells acc) ∧ P11.toks s.data.toList 0 = P11.after acc (P11.toks (s.data.toList.drop a) a) ∧ what.isPrefixOf (s.data.toList.drop a) = true
def JL (w0 : World) (s : ByteArray) (bs B ba : Nat) (n l : Nat) (act : Act) (w : World) : Prop :=
  (l = 0 ∧ J0 w0 s bs B ba n act w) ∨ (l = 1 ∧ JN w0 s bs B ba [45, 45] n act w) ∨ (l = 2 ∧ JN w0 s bs B ba [39] n act w)
end Go.Proofs.YteipafoiogkdoaaDoor
