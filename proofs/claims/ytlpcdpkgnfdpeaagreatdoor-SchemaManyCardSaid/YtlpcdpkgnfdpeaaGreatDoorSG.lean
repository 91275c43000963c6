/- What the claim's proof leans on, part 7: walks of functions and plain laws. -/
import Derived.Test.YtlpcdpkgnfdpeaaGreatDoorSF
import Derived.Deep.DeepCutAuto
import Derived.Test.YtlpcdpkgnfdpeaaGreatDoorSB
set_option linter.unusedSimpArgs false
set_option linter.unusedVariables false
set_option maxRecDepth 100000
set_option maxHeartbeats 80000000
namespace Go.Proofs.YtlpcdpkgnfdpeaaGreatDoor
open Go.RowKit
end Go.Proofs.YtlpcdpkgnfdpeaaGreatDoor
namespace Go.Proofs.YtlpcdpkgnfdpeaaGreatDoor
open Go.RowKit Go.WideMaps Go.Maps
abbrev stmt0 (k lim : Int) : List Value :=
  [.int .i64 k, .string ⟨#[]⟩, nilS, nilS, nilS, nilS, .string ⟨#[]⟩, .string ⟨#[]⟩, .bool false, nilS, nilS, nilS,
   .int .i64 0, .int .i64 0, .int .i64 0, .int .i64 0, .string ⟨#[]⟩, .string ⟨#[]⟩, .string ⟨#[]⟩, .int .i64 0, .int .i64 0, nilS,
   nilS, nilS,
   .int .i64 0, .int .i64 0, .int .i64 0, .int .i64 0, .string ⟨#[]⟩, .string ⟨#[]⟩, .string ⟨#[]⟩, .int .i64 0, .int .i64 0, nilS,
   nilS, nilS, .int .i64 lim]
theorem puts_ext {g : Nat} {c : Array Value} {T : TypeId} {w0 w w' : World} (h : Puts g c T w w') (hx : Xk.Ext w0 w) (hg : w0.heap.size ≤ g) : Xk.Ext w0 w' :=
 ⟨h.os.trans hx.os, h.tape.trans hx.tape, h.output.trans hx.output, by rw [h.size]; exact hx.size, fun k hk => (h.rest k (by omega)).trans (hx.block k hk)⟩
theorem made_any (k : Int) (w : World) : Calls Tryz.prog 186 #[.int .i64 k] w fun e w' => e = .returned (.agg (stmt0 k (if k = 8 then -1 else 0)).toArray) ∧ Xk.Ext w w' := by
 have HL : Hid (∀ W, Calls Tryz.prog 245 #[.int .i64 k] W fun e w' => e = .returned (.int .i64 (if k = 8 then -1 else 0)) ∧ W = w') := Lib.hid fun W => by
  by_cases h : k = 8
  ·subst h
   go_enter Tryz.func245, Tryz.ntmps245
   go_wp2
   go_ret
   exact ⟨rfl, rfl⟩
  ·rw [if_neg h]
   have hb : (k == 8) = false := by simpa using h
   go_enter Tryz.func245, Tryz.ntmps245
   go_wp2
   go_ret
   exact ⟨rfl, rfl⟩
 generalize (if k = 8 then (-1 : Int) else 0) = lim at HL ⊢
 have hbd : ∀ (lim : Int) (W : World), (Instr.build 46 #[(0, Value.int .i64 k), (15, Value.int .i64 lim)]).run Tryz.prog W = .ok (.agg (stmt0 k lim).toArray) W := fun lim W => by kernel_rfl
 go_enter Tryz.func186, Tryz.ntmps186
 go_wp2_with (first | (go_at_call 245; (with_reducible refine (HL.out _).mono ?_); rintro e w' ⟨rfl, rfl⟩) | (refine pw (heap_new w _) ?_; intro w3 hp3))
 go_wp2
 refine bodyPost_ret (v := .agg (stmt0 k lim).toArray) (results_row (fn := Tryz.f186) rfl rfl hp3.blk Tryz.underlying46 rfl (by kernel_rfl)) rfl ⟨rfl, ?_⟩
 exact puts_ext hp3 ((Below.refl _ _).alloc (Nat.le_refl _) _) (Nat.le_refl _)
def SlcAt {α : Type} (S : Nat → Prop) (w : World) (sz : Nat) (R : α → List Value → Prop) (l : List α) (v : Value) : Prop :=
 (l = [] ∧ v = nilS) ∨ ∃ (g c : Nat) (us : List (List Value)), v = .slice (some ⟨g, 0, none⟩) l.length c ∧ S g ∧ 0 < l.length ∧ l.length ≤ c ∧ us.length = l.length ∧ (∀ u ∈ us, u.length = sz) ∧ 0 < sz ∧ w.rangeAt g 0 us.flatten ∧ ∀ (j : Nat) x u, l[j]? = some x → us[j]? = some u → R x u
theorem SlcAt.nil {α : Type} (S : Nat → Prop) (w : World) (sz : Nat) (R : α → List Value → Prop) : SlcAt S w sz R [] nilS := .inl ⟨rfl, rfl⟩
theorem flatten_pos {us : List (List Value)} {sz : Nat} (h : ∀ u ∈ us, u.length = sz) (hp : 0 < us.length) (hs : 0 < sz) : 0 < us.flatten.length := by
 cases us with
 | nil => simp at hp
 | cons u us => simp; have := h u (by simp); omega
theorem SlcAt.keep {α : Type} {S S' : Nat → Prop} {w w' : World} {sz : Nat} {R R' : α → List Value → Prop} {l : List α} {v : Value} (h : SlcAt S w sz R l v) (hb : ∀ b, S b → b < w.heap.size → w'.heap[b]? = w.heap[b]?) (hS : ∀ b, S b → b < w.heap.size → S' b)
  (hR : ∀ x u, R x u → R' x u) : SlcAt S' w' sz R' l v := by
 rcases h with h | ⟨g, c, us, h1, h2, h3, h4, h5, h6, h7, h8, h9⟩
 ·exact .inl h
 ·have hlt := range_lt h8 (flatten_pos h6 (by omega) h7)
  exact .inr ⟨g, c, us, h1, hS g h2 hlt, h3, h4, h5, h6, h7, range_same h8 (hb g h2 hlt), fun j x u hx hu => hR x u (h9 j x u hx hu)⟩
def strR (s : P12.T) (u : List Value) : Prop := u = [bs s]
def srcR (s : P12.T × P12.T) (u : List Value) : Prop := u = [bs s.1, bs s.2]
def colR (c : P12.T × Int × Bool) (u : List Value) : Prop := u = [bs c.1, .int .i64 c.2.1, .bool c.2.2]
def keyR (p : Bool) (u : List Value) : Prop := u = [.string ⟨#[]⟩, nilS, .bool true, .bool p]
def exprR (S : Nat → Prop) (w : World) (e : P12.E) (u : List Value) : Prop := ExprAt S w e u
def setR (S : Nat → Prop) (w : World) (x : P12.T × P12.E) (u : List Value) : Prop := ∃ l, u = [bs x.1, .int .i64 0] ++ l ∧ ExprAt S w x.2 l
def itemR (S : Nat → Prop) (w : World) (x : Bool × P12.E × P12.T) (u : List Value) : Prop := ∃ l, u = [.bool x.1] ++ (l ++ [bs x.2.2]) ∧ ExprAt S w x.2.1 l
def ordR (S : Nat → Prop) (w : World) (x : P12.E × Bool) (u : List Value) : Prop := ∃ l, u = l ++ [.bool x.2] ∧ ExprAt S w x.1 l
def rowR (S : Nat → Prop) (w : World) (x : List P12.E) (u : List Value) : Prop := ∃ v, u = [v] ∧ SlcAt S w 10 (exprR S w) x v
def strsR (S : Nat → Prop) (w : World) (x : List P12.T) (u : List Value) : Prop := ∃ v, u = [v] ∧ SlcAt S w 1 strR x v
abbrev stmtL (kind : Int) (tn : P12.T) (tc tk tq kc : Value) (nm on : P12.T) (un : Bool) (cols rows sets : Value) (wh : List Value) (items frm : Value) (jn : List Value) (grp ord : Value) (lim : Int) : List Value :=
 .int .i64 kind :: bs tn :: tc :: tk :: tq :: kc :: bs nm :: bs on :: .bool un :: cols :: rows :: sets :: (wh ++ (items :: frm :: (jn ++ [grp, ord, .int .i64 lim])))
structure StmtAt (S : Nat → Prop) (w : World) (x : P12.St) (l : List Value) (tc tk tq kc cols rows sets : Value) (wh : List Value) (items frm : Value) (jn : List Value) (grp ord : Value) : Prop where
 form : l = stmtL x.kind x.tb.name tc tk tq kc x.name x.on x.unique cols rows sets wh items frm jn grp ord x.limit
 tc : SlcAt S w 3 colR x.tb.cols tc
 tk : SlcAt S w 4 keyR x.tb.keys tk
 tq : SlcAt S w 10 (exprR S w) x.tb.checks tq
 kc : SlcAt S w 1 (strsR S w) x.keyCols kc
 cols : SlcAt S w 1 strR x.cols cols
 rows : SlcAt S w 1 (rowR S w) x.rows rows
 sets : SlcAt S w 12 (setR S w) x.sets sets
 wh : ExprAt S w x.wher wh
 items : SlcAt S w 12 (itemR S w) x.items items
 frm : SlcAt S w 2 srcR x.frm frm
 jn : ExprAt S w x.join jn
 grp : SlcAt S w 10 (exprR S w) x.group grp
 ord : SlcAt S w 11 (ordR S w) x.order ord
def StmtIn (S : Nat → Prop) (w : World) (x : P12.St) (l : List Value) : Prop := ∃ tc tk tq kc cols rows sets wh items frm jn grp ord, StmtAt S w x l tc tk tq kc cols rows sets wh items frm jn grp ord
theorem StmtIn.length {S : Nat → Prop} {w : World} {x : P12.St} {l : List Value} (h : StmtIn S w x l) : l.length = 37 := by
 obtain ⟨tc, tk, tq, kc, cols, rows, sets, wh, items, frm, jn, grp, ord, h⟩ := h
 rw [h.form]
 simp [h.wh.length, h.jn.length]
theorem StmtIn.keep {S S' : Nat → Prop} {w w' : World} {x : P12.St} {l : List Value} (h : StmtIn S w x l) (hb : ∀ b, S b → b < w.heap.size → w'.heap[b]? = w.heap[b]?) (hS : ∀ b, S b → b < w.heap.size → S' b) : StmtIn S' w' x l := by
 obtain ⟨tc, tk, tq, kc, cols, rows, sets, wh, items, frm, jn, grp, ord, h⟩ := h
 have hE : ∀ e u, exprR S w e u → exprR S' w' e u := fun e u h => ExprAt.keep hb hS h
 exact ⟨tc, tk, tq, kc, cols, rows, sets, wh, items, frm, jn, grp, ord, h.form, h.tc.keep hb hS (fun _ _ h => h), h.tk.keep hb hS (fun _ _ h => h), h.tq.keep hb hS hE,
  h.kc.keep hb hS (fun x u ⟨v, h1, h2⟩ => ⟨v, h1, h2.keep hb hS (fun _ _ h => h)⟩), h.cols.keep hb hS (fun _ _ h => h), h.rows.keep hb hS (fun x u ⟨v, h1, h2⟩ => ⟨v, h1, h2.keep hb hS hE⟩),
  h.sets.keep hb hS (fun x u ⟨l, h1, h2⟩ => ⟨l, h1, h2.keep hb hS⟩), h.wh.keep hb hS, h.items.keep hb hS (fun x u ⟨l, h1, h2⟩ => ⟨l, h1, h2.keep hb hS⟩), h.frm.keep hb hS (fun _ _ h => h), h.jn.keep hb hS,
  h.grp.keep hb hS hE, h.ord.keep hb hS (fun x u ⟨l, h1, h2⟩ => ⟨l, h1, h2.keep hb hS⟩)⟩
abbrev StmtV (w : World) : Value → P12.St → World → Prop := fun v x w' => ∃ l, v = .agg l.toArray ∧ StmtIn (fun b => w.heap.size ≤ b) w' x l
theorem writeAt_size : ∀ (vs : List Value) (o : Nat) (c : Array Value), (writeAt c o vs).size = c.size
 | [], _, _ => rfl
 | v :: vs, o, c => by rw [writeAt, writeAt_size vs]; simp
abbrev zero37 : List Value := stmt0 0 0
abbrev stmtO (l : List Value) : Obj := .cells l.toArray 46
abbrev Stab {α : Type} (R : (Nat → Prop) → World → α → List Value → Prop) : Prop :=
 ∀ S S' w w' x u, R S w x u → (∀ b, S b → b < w.heap.size → w'.heap[b]? = w.heap[b]?) → (∀ b, S b → b < w.heap.size → S' b) → R S' w' x u
theorem stab_str : Stab (fun _ _ => strR) := fun _ _ _ _ _ _ h _ _ => h
theorem stab_expr : Stab exprR := fun _ _ _ _ _ _ h hb hS => ExprAt.keep hb hS h
def Gath {α : Type} (B : Nat) (e : TypeId) (sz : Nat) (R : (Nat → Prop) → World → α → List Value → Prop) (xs : List α) (v : Value) (w : World) : Prop :=
 ∃ us : List (List Value), w.ownsRow B e sz v xs.length us.flatten ∧ us.length = xs.length ∧ (∀ u ∈ us, u.length = sz) ∧ ∀ (j : Nat) x u, xs[j]? = some x → us[j]? = some u → R (fun b => B ≤ b ∧ ¬ v.ownBlock = some b) w x u
section
variable {α : Type} {B : Nat} {e : TypeId} {sz : Nat} {R : (Nat → Prop) → World → α → List Value → Prop} {xs : List α} {v : Value} {w w' : World}
theorem Gath.nil : Gath B e sz R [] nilS w := ⟨[], World.ownsRow_nil _ _ _ _, rfl, by simp, by simp⟩
theorem Gath.lt (h : Gath B e sz R xs v w) : ∀ b, v.ownBlock = some b → B ≤ b ∧ b < w.heap.size := by
 obtain ⟨us, h1, -⟩ := h
 exact h1.lt
theorem Gath.same (h : Gath B e sz R xs v w) (hR : Stab R) (hb : ∀ b, B ≤ b → b < w.heap.size → w'.heap[b]? = w.heap[b]?) : Gath B e sz R xs v w' := by
 obtain ⟨us, h1, h2, h3, h4⟩ := h
 exact ⟨us, own_same h1 fun b hb' => hb b (h1.lt b hb').1 (h1.lt b hb').2, h2, h3, fun j x u hx hu => hR _ _ _ _ _ _ (h4 j x u hx hu) (fun b hs => hb b hs.1) (fun b hs _ => hs)⟩
theorem Gath.turn {br : Nat} (h : Gath B e sz R xs v w) (hR : Stab R) (ht : Turn br w w') (hB : br < B) : Gath B e sz R xs v w' :=
 h.same hR fun b h1 h2 => ht.block h2 (by omega)
theorem Gath.set (h : Gath B e sz R xs v w) (hR : Stab R) {g : Nat} (hg : g < B) (o : Nat) (u : Value) : Gath B e sz R xs v (w.setCell ⟨g, o, none⟩ u) :=
 h.same hR fun b h1 h2 => heap_setCell_other w ⟨g, o, none⟩ b u (fun e => by (have h : b = g := (by simpa using e)); omega)
theorem Gath.push {us : List (List Value)} {v' : Value} {x : α} {u : List Value} (hR : Stab R) (h2 : us.length = xs.length) (h3 : ∀ u ∈ us, u.length = sz)
  (h4 : ∀ (j : Nat) x u, xs[j]? = some x → us[j]? = some u → R (fun b => B ≤ b ∧ ¬ v.ownBlock = some b) w x u) (hg : w.grownBy w' v.ownBlock) (ho : w'.ownsRow B e sz v' (xs.length + 1) (us.flatten ++ u))
  (hk : ∀ b, v'.ownBlock = some b → v.ownBlock = some b ∨ w.heap.size ≤ b) (hu : u.length = sz) (hx : R (fun b => B ≤ b ∧ ¬ v.ownBlock = some b) w x u) : Gath B e sz R (xs ++ [x]) v' w' := by
 have hmv : ∀ x u, R (fun b => B ≤ b ∧ ¬ v.ownBlock = some b) w x u → R (fun b => B ≤ b ∧ ¬ v'.ownBlock = some b) w' x u := fun x u h =>
  hR _ _ _ _ _ _ h (fun b hb hl => hg.block b hl (fun e => hb.2 e.symm)) (fun b hb hl => ⟨hb.1, fun e => by
   rcases hk b e with h | h
   ·exact hb.2 h
   ·omega⟩)
 refine ⟨us ++ [u], by simpa using ho, by simp [h2], fun y hy => ?_, fun j y c hy hc => hmv _ _ ?_⟩
 ·rcases List.mem_append.1 hy with hy | hy
  ·exact h3 y hy
  ·rw [List.mem_singleton.1 hy]; exact hu
 ·rcases Nat.lt_or_ge j xs.length with hj | hj
  ·rw [List.getElem?_append_left hj] at hy
   rw [List.getElem?_append_left (by omega)] at hc
   exact h4 j y c hy hc
  ·rw [List.getElem?_append_right hj] at hy
   rw [List.getElem?_append_right (by omega), h2] at hc
   obtain ⟨rfl, rfl⟩ : x = y ∧ u = c := by
    rcases hj0 : j - xs.length with _ | k
    ·rw [hj0] at hy hc
     simp at hy hc
     exact ⟨hy, hc⟩
    ·rw [hj0] at hy
     simp at hy
   exact hx
theorem Gath.slc (h : Gath B e sz R xs v w) (hR : Stab R) (hp : 0 < xs.length) (hs : 0 < sz) : SlcAt (fun b => B ≤ b) w sz (R (fun b => B ≤ b) w) xs v := by
 obtain ⟨us, h1, h2, h3, h4⟩ := h
 rcases h1.2 with ⟨-, h0⟩ | ⟨g, cap, cur, rfl, h5, h6, h7, h8, h9, h10⟩
 ·omega
 ·refine .inr ⟨g, cap, us, rfl, h5, hp, h7, h2, h3, hs, fun j v hj => ?_, fun j x u hx hu => hR _ _ _ _ _ _ (h4 j x u hx hu) (fun _ _ _ => rfl) (fun b hb _ => hb.1)⟩
  rw [← h10] at hj
  have hj' : cur.toList[j]? = some v := by
   rw [List.getElem?_take] at hj
   split at hj
   ·exact hj
   ·cases hj
  simp [World.cell?, h6]
  simpa using hj'
end
theorem gath_strs {B : Nat} {e : TypeId} {xs : List P12.T} {v : Value} {w : World} (h : Gath B e 1 (fun _ _ => strR) xs v w) : w.ownsRow B e 1 v xs.length (strsC xs) := by
 obtain ⟨us, h1, h2, h3, h4⟩ := h
 have : us = xs.map fun s => [bs s] := List.ext_getElem? fun j => by
  rcases hx : xs[j]? with _ | x
  ·rw [List.getElem?_eq_none (by rw [h2]; exact List.getElem?_eq_none_iff.1 hx)]
   simp [hx]
  ·obtain ⟨u, hu⟩ : ∃ u, us[j]? = some u := by
    have := (List.getElem?_eq_some_iff.1 hx).1
    exact ⟨us[j], List.getElem?_eq_getElem (by omega)⟩
   rw [hu, List.getElem?_map, hx, h4 j x u hx hu]
   rfl
 rw [this] at h1
 have h5 : ∀ xs : List P12.T, (xs.map fun s => [bs s]).flatten = strsC xs := fun xs => by
  induction xs with
  | nil => rfl
  | cons x xs ih => simp [strsC] at ih ⊢; exact ih
 rwa [h5] at h1
theorem strs_gath {B : Nat} {e : TypeId} {xs : List P12.T} {v : Value} {w : World} (h : w.ownsRow B e 1 v xs.length (strsC xs)) : Gath B e 1 (fun _ _ => strR) xs v w := by
 have h5 : ∀ xs : List P12.T, (xs.map fun s => [bs s]).flatten = strsC xs := fun xs => by
  induction xs with
  | nil => rfl
  | cons x xs ih => simp [strsC] at ih ⊢; exact ih
 refine ⟨xs.map fun s => [bs s], by rw [h5]; exact h, by simp, fun u hu => ?_, fun j x u hx hu => ?_⟩
 ·obtain ⟨s, -, rfl⟩ := List.mem_map.1 hu; rfl
 ·rw [List.getElem?_map, hx] at hu
  simp at hu
  exact hu.symm
theorem P12.rowF_ne {α : Type} {most : Nat} {could : P12.R → Bool} {read : P12.R → Except P12.Er (α × P12.R)} : ∀ {f n : Nat} {r : P12.R} {xs : List α} {r' : P12.R}, P12.rowF most could read f n r = .ok (xs, r') → 0 < xs.length
 | 0, _, _, _, _, h => by simp [P12.rowF, P12.fails] at h
 | f + 1, n, r, xs, r', h => by
  rw [P12.rowF] at h
  split at h
  ·simp [P12.fails] at h
  ·split at h
   ·cases h
   ·split at h
    ·split at h
     ·cases h
     ·cases h; simp
    ·cases h; simp
theorem row_gath {α : Type} (br most gx : Nat) (T e : TypeId) (sz : Nat) (mk : Value → Array Value) (R : (Nat → Prop) → World → α → List Value → Prop) (hR : Stab R) (hsz : 0 < sz) (r0 : P12.R) (w : World) (cv cx ra rb : Value) (CF RF : FuncId)
  (could : P12.R → Bool) (read : P12.R → Except P12.Er (α × P12.R)) (hmost : most ≤ 1000) (h : Rd br r0 w) (hbx : w.heap[gx]? = some (.cells (mk nilS) T)) (hbg : br < gx) (hcv : Bears1 cv CF cx) (hce : Ent CF) (hre : Ent RF)
  (hC : ∀ r W, Rd br r W → Kept w.heap.size [br, gx] w W → Calls Tryz.prog CF #[cx] W fun e w' => e = .returned (.bool (could r)) ∧ Xk.Ext W w')
  (hRd : ∀ (xs : List α) v r W, xs.length ≤ 100000 → Rd br r W → W.heap[gx]? = some (.cells (mk v) T) → Gath (w.heap.size + 1) e sz R xs v W → Kept w.heap.size [br, gx] w W → w.heap.size < W.heap.size →
   Calls Tryz.prog RF #[ra, rb] W (RowPost br r (fun x w' => ∃ v', w'.heap[gx]? = some (.cells (mk v') T) ∧ Gath (w.heap.size + 1) e sz R (xs ++ [x]) v' w' ∧ Kept (w.heap.size + 1) [br, gx] W w') (Kept w.heap.size [br, gx] W) (read r))) :
  Calls Tryz.prog 227 #[rp br, .int .i64 most, cv, .func (.func RF) #[] #[ra, rb]] w
   (RowPost br r0 (fun xs w' => ∃ v, w'.heap[gx]? = some (.cells (mk v) T) ∧ SlcAt (fun b => w.heap.size < b) w' sz (R (fun b => w.heap.size < b) w') xs v ∧ 0 < xs.length ∧ Kept w.heap.size [br, gx] w w') (Kept w.heap.size [br, gx] w) (P12.rowF most could read r0.l.length 0 r0)) := by
 have hlt := (Array.getElem?_eq_some_iff.1 hbx).1
 have hlen := h.good.len
 refine (row_any br most r0 w cv _ cx ra rb CF RF could read (fun xs W => w.heap.size < W.heap.size ∧ (∃ v, W.heap[gx]? = some (.cells (mk v) T) ∧ Gath (w.heap.size + 1) e sz R xs v W) ∧ Kept w.heap.size [br, gx] w W) (Kept w.heap.size [br, gx] w)
  hmost h hcv hce (fun xs r W hr hJ => hC r W hr hJ.2.2) rfl hre (fun xs r W hk hl hr hJ => ?_) ?_ (fun xs W v hJ => ?_) (fun xs W W' hJ ht => ?_) (fun xs W hJ => hJ.2.2)).mono ?_
 ·obtain ⟨j1, ⟨v, j2, j3⟩, j4⟩ := hJ
  refine (hRd xs v r W (by omega) hr j2 j3 j4 j1).mono ?_
  intro e w' hp
  unfold RowPost at hp ⊢
  split at hp
  ·obtain ⟨p1, ⟨v', p2, p3, p4⟩, p5, p6⟩ := hp
   exact ⟨p1, ⟨⟨Nat.lt_of_lt_of_le j1 p4.size, ⟨v', p2, p3⟩, j4.trans (p4.mono (by omega) (fun _ h => h))⟩, p4.block _ (by omega) j1 (by simp; omega)⟩, p5, p6⟩
  ·exact ⟨hp.1, j4.trans hp.2⟩
 ·exact ⟨by rw [World.size_alloc]; omega, ⟨nilS, by rw [← hbx]; exact (((Below.refl _ _).alloc (Nat.le_refl _) _ : Below w.heap.size w (w.alloc _))).block gx hlt, Gath.nil⟩, (Kept.refl _ _ _).alloc _⟩
 ·obtain ⟨j1, ⟨u, j2, j3⟩, j4⟩ := hJ
  exact ⟨by rw [World.size_setCell]; exact j1, ⟨u, by rw [← j2]; exact heap_setCell_other W ⟨w.heap.size, 1, none⟩ gx v (fun e => by (have h : gx = w.heap.size := (by simpa using e)); omega), j3.set hR (by omega) _ _⟩, j4.setCell (.inl (Nat.le_refl _)) _ _⟩
 ·obtain ⟨j1, ⟨u, j2, j3⟩, j4⟩ := hJ
  exact ⟨Nat.lt_of_lt_of_le j1 ht.size, ⟨u, ht.held j2 (by omega), j3.turn hR ht (by have := h.lt; omega)⟩, j4.trans (Kept.of_turn ht (by simp))⟩
 ·intro e w' hp
  unfold RowPost at hp ⊢
  split at hp
  ·rename_i xs r' heq
   have hne := P12.rowF_ne heq
   obtain ⟨p1, ⟨p2, ⟨v, p3, p4⟩, p5⟩, p6, p7⟩ := hp
   exact ⟨p1, ⟨v, p3, p4.slc hR hne hsz, hne, p5⟩, p6, p7⟩
  ·exact hp
theorem cell_at {g : Nat} (W : World) (x : Value) (T : TypeId) (h : g = W.heap.size) : (W.alloc (.cells #[x] T)).cell? ⟨g, 0, none⟩ = some x := by
 subst h
 exact cell_new W x T
theorem heap_at {g : Nat} (W : World) (o : Obj) (h : g = W.heap.size) : (W.alloc o).heap[g]? = some o := by
 subst h
 exact heap_new W o
theorem must_got (br : Nat) (s : P12.T) (r : P12.R) (g : Nat) (w : World) (h : Rd br r w) (hc : w.cell? ⟨g, 0, none⟩ = some (bs s)) (hg : br < g) :
  Calls Tryz.prog 224 #[rp br, .slice (some ⟨g, 0, none⟩) 1 1] w fun e w' => match P12.must s r with | .error er => e = faults er ∧ Turn br w w' | .ok r' => e = .returned (.tuple #[]) ∧ Turn br w w' ∧ Rd br r' w' ∧ P12.Keeps r r' := by
 refine (must_any br r s g w h hc hg).mono ?_
 intro e w' h
 unfold P12.mustU at h
 unfold P12.must
 cases hm : P12.isT s r
 ·rw [hm] at h
  exact h
 ·rw [hm] at h
  obtain ⟨v, rfl, rfl, h1, h2, h3⟩ := h
  exact ⟨rfl, h1, h2, h3⟩
theorem ent_names1 : Ent 268 := ⟨fun _ _ => by go_simp, by decide⟩
theorem Kept.at_end {br gx : Nat} {w0 w w' : World} (h : Kept w.heap.size [br, gx] w w') (ht : Turn br w0 w) (hg : w0.heap.size ≤ gx) : Turn br w0 w' := by
 obtain ⟨h1, h2, h3, h4, h5⟩ := ht
 refine ⟨h.os.trans h1, h.tape.trans h2, h.output.trans h3, Nat.le_trans h4 h.size, fun b hb => ?_⟩
 by_cases hbr : b = br
 ·exact .inr ⟨(br, fun _ => True), by simp, hbr.symm, trivial⟩
 ·rw [h.block b (by omega) (by omega) (by simp; omega)]; exact h5 b hb
theorem row_names (br gout grb : Nat) (r : P12.R) (w : World) (h : Rd br r w) (hgr : w.heap[grb]? = some (.cells #[rp br] 152)) (hgo : w.heap[gout]? = some (.cells #[nilS] 35)) (h1 : br < gout) (h2 : br < grb) (hne : grb ≠ gout) :
  Calls Tryz.prog 227 #[rp br, .int .i64 16, .func (.func 233) #[rp br] #[], .func (.func 268) #[] #[rp gout, rp grb]] w
   (RowPost br r (fun xs w' => ∃ v, w'.heap[gout]? = some (.cells #[v] 35) ∧ SlcAt (fun b => w.heap.size < b) w' 1 strR xs v ∧ 0 < xs.length ∧ Kept w.heap.size [br, gout] w w') (Kept w.heap.size [br, gout] w) (P12.rowF 16 P12.named P12.name r.l.length 0 r)) := by
 have hlg := (Array.getElem?_eq_some_iff.1 hgo).1
 have hlr := (Array.getElem?_eq_some_iff.1 hgr).1
 refine row_gath br 16 gout 35 9 1 (fun v => #[v]) (fun _ _ => strR) stab_str (by decide) r w _ (rp br) (rp gout) (rp grb) 233 268 P12.named P12.name (by decide) h hgo (by omega) (.inl rfl) ent_named ent_names1 (fun r W hr _ => named_any br r W hr) (fun xs v r W hl hr hb hg hk hlt => ?_)
 refine (names1_any br gout grb (w.heap.size + 1) xs r W hr ⟨v, hb, gath_strs hg⟩ (hk.held hgr hlr (by simp; omega)) h1 h2 (by omega) (by omega) (by omega) hl).mono ?_
 intro e w' hp
 unfold RowPost at hp ⊢
 split at hp
 ·obtain ⟨p1, ⟨⟨v', p2, p3⟩, p4⟩, p5, p6⟩ := hp
  exact ⟨p1, ⟨v', p2, strs_gath p3, p4⟩, p5, p6⟩
 ·exact ⟨hp.1, Kept.of_turn hp.2 (by simp)⟩
theorem names_any (br : Nat) (r : P12.R) (w : World) (h : Rd br r w) : Calls Tryz.prog 226 #[rp br] w (Got br w r (fun v x w' => 0 < x.length ∧ SlcAt (fun b => w.heap.size ≤ b) w' 1 strR x v) (P12.names r)) := by
 have HR := Lib.hid h
 have lr := h.lt
 clear h
 generalize hres : P12.names r = res
 have hE := hres
 simp only [P12.names, bind, Except.bind, pure, Except.pure] at hE
 have HE := Lib.hid hE
 clear hE hres
 go_enter Tryz.func226, Tryz.ntmps226
 go_wp2_with fail
 go_at_call 224
 refine (must_got br [40] r _ _ (rdx (HR.out)) (cell_at _ _ _ (by simp only [World.size_alloc])) (by omega)).mono ?_
 intro e w1 h
 cases hn : P12.must [40] r
 case error er =>
  rw [hn] at h
  have hE := HE.out
  rw [hn] at hE
  dsimp only at hE
  subst hE
  obtain ⟨rfl, ht⟩ := h
  simp only [faults]
  go_wp2
  exact ⟨rfl, rfl, Turn.trans (tu trivial) ht⟩
 rename_i p
 rw [hn] at h HE
 dsimp only at HE
 obtain ⟨rfl, ht1, hr1, hk1⟩ := h
 have hgr := ht1.held ((Turn.alloc (Turn.alloc (Turn.refl br (w.alloc (.cells #[rp br] 152))) (.cells #[nilS] 35)) _).held (heap_new w _) (by simp [World.size_alloc]; omega)) (by omega)
 have hgo := ht1.held ((Turn.alloc (Turn.refl br ((w.alloc (.cells #[rp br] 152)).alloc (.cells #[nilS] 35))) _).held (heap_new (w.alloc (.cells #[rp br] 152)) _) (by simp [World.size_alloc]; omega)) (by simp [World.size_alloc]; omega)
 rw [World.size_alloc] at hgo
 have hl1 := ht1.size
 simp only [World.size_alloc] at hl1
 have hT1 : Turn br w w1 := Turn.trans (tu trivial) ht1
 clear ht1
 have c1 : w1.cell? ⟨w.heap.size, 0, none⟩ = some (rp br) := by simp [World.cell?, hgr]
 go_wp2_with fail
 go_at_call 227
 refine (row_names br (w.heap.size + 1) w.heap.size p w1 hr1 hgr hgo (by omega) (by omega) (by omega)).mono ?_
 intro e w2 h
 cases hn : P12.rowF 16 P12.named P12.name p.l.length 0 p
 case error er =>
  rw [hn] at h
  have hE := HE.out
  rw [hn] at hE
  dsimp only at hE
  subst hE
  obtain ⟨rfl, ht⟩ := h
  simp only [faults]
  go_wp2
  exact ⟨rfl, rfl, ht.at_end hT1 (by omega)⟩
 rename_i p
 rw [hn] at h HE
 dsimp only at HE
 rename P12.R => r1
 obtain ⟨xs, r2⟩ := p
 obtain ⟨rfl, ⟨v, hgo2, hs2, hne2, hK2⟩, hr2, hk2⟩ := h
 have hgr2 := hK2.held hgr (by omega) (by simp; omega)
 have hl2 := hK2.size
 have hT2 := hK2.at_end hT1 (by omega)
 have c2 : w2.cell? ⟨w.heap.size, 0, none⟩ = some (rp br) := by simp [World.cell?, hgr2]
 clear hK2 hT1 hgo c1
 go_wp2_with fail
 go_at_call 224
 refine (must_got br [41] r2 _ _ (rdx (hr2)) (cell_at _ _ _ rfl) (by omega)).mono ?_
 intro e w3 h
 cases hn : P12.must [41] r2
 case error er =>
  rw [hn] at h
  have hE := HE.out
  rw [hn] at hE
  dsimp only at hE
  subst hE
  obtain ⟨rfl, ht⟩ := h
  simp only [faults]
  go_wp2
  exact ⟨rfl, rfl, Turn.trans (Turn.alloc hT2 _) ht⟩
 rename_i p
 rw [hn] at h HE
 dsimp only at HE
 obtain ⟨rfl, ht3, hr3, hk3⟩ := h
 have hgo3 := ht3.held ((Turn.alloc (Turn.refl br w2) _).held hgo2 (by omega)) (by omega)
 have c3 : w3.cell? ⟨w.heap.size + 1, 0, none⟩ = some v := by simp [World.cell?, hgo3]
 have hs3 := hs2.keep (S' := fun b => w.heap.size ≤ b) (w' := w3) (R' := strR) (fun b hb hl => (ht3.block (by rw [World.size_alloc]; omega) (by omega)).trans (((Below.refl _ _).alloc (Nat.le_refl _) _ : Below w2.heap.size w2 (w2.alloc _)).block b hl)) (fun b hb _ => by omega) (fun _ _ h => h)
 go_wp2
 go_ret
 have hE := HE.out
 subst hE
 exact ⟨_, rfl, ⟨hne2, hs3⟩, Turn.trans (Turn.alloc hT2 _) ht3, hr3, hk1.trans (hk2.trans hk3)⟩
abbrev noE : List Value := exprL 0 0 0 0 [] [] [] nilS
theorem cells_list {g : Nat} (W : World) (l : List Value) (T : TypeId) (h : g = W.heap.size) (j : Nat) (u : Value) (hu : l[j]? = some u) : (W.alloc (.cells l.toArray T)).cell? ⟨g, 0 + j, none⟩ = some u := by
 subst h
 have hb := heap_new W (.cells l.toArray T)
 unfold World.cell?
 rw [hb]
 simpa using hu
theorem one_all {l : List Value} (h : l.all (·.oneCell') = true) : ∀ u ∈ l, u.oneCell' = true := by simpa using h
abbrev StabP (K : (Nat → Prop) → World → Prop) : Prop := ∀ S S' w w', K S w → (∀ b, S b → b < w.heap.size → w'.heap[b]? = w.heap[b]?) → (∀ b, S b → b < w.heap.size → S' b) → K S' w'
theorem stabP_slc {α : Type} {R : (Nat → Prop) → World → α → List Value → Prop} (hR : Stab R) (sz : Nat) (l : List α) (v : Value) : StabP fun S w => SlcAt S w sz (R S w) l v :=
 fun S S' w w' h hb hS => h.keep hb hS fun x u h => hR _ _ _ _ _ _ h hb hS
theorem stabP_strs (l : List P12.T) (v : Value) : StabP fun S w => SlcAt S w 1 strR l v := fun S S' w w' h hb hS => h.keep hb hS fun _ _ h => h
theorem slc_one {α : Type} {S : Nat → Prop} {w : World} {sz : Nat} {R : α → List Value → Prop} {l : List α} {v : Value} (h : SlcAt S w sz R l v) : ∃ p n c, v = .slice p n c := by
 rcases h with ⟨-, rfl⟩ | ⟨g, c, us, rfl, -⟩
 ·exact ⟨_, _, _, rfl⟩
 ·exact ⟨_, _, _, rfl⟩
theorem writeAt_list : ∀ (vs : List Value) (o : Nat) (c : Array Value), o + vs.length ≤ c.size → (writeAt c o vs).toList = c.toList.take o ++ vs ++ c.toList.drop (o + vs.length)
 | [], o, c, h => by simp [writeAt]
 | v :: vs, o, c, h => by
  simp only [List.length_cons] at h
  rw [writeAt, writeAt_list vs (o + 1) _ (by simp; omega)]
  have h1 : o < c.toList.length := by simp; omega
  simp only [Array.toList_setIfInBounds, List.length_cons]
  rw [List.take_add_one, List.getElem?_set_self h1, List.take_set_of_le (Nat.le_refl _), List.drop_set_of_lt (by omega)]
  simp [Nat.add_assoc, Nat.add_comm 1]
theorem has_got (br : Nat) (r : P12.R) (s : List UInt8) (w : World) (h : Rd br r w) :
  Calls Tryz.prog 100 #[rp br, .string ⟨s.toArray⟩] w fun e w' => e = .returned (.bool (P12.isT s r)) ∧ Turn br w w' ∧ Rd br (P12.has s r).2 w' ∧ P12.Keeps r (P12.has s r).2 := by
 cases hs : P12.isT s r
 ·refine (has_no br r s w h hs).mono ?_
  rintro e w' ⟨rfl, hx⟩
  refine ⟨rfl, ?_⟩
  simp only [P12.has, hs, Bool.false_eq_true, if_false]
  exact ⟨Turn.of_ext hx, h.ext hx, P12.Keeps.refl r⟩
 ·refine (has_yes br r s w h hs).mono ?_
  rintro e w' ⟨rfl, ht, hr⟩
  refine ⟨rfl, ?_⟩
  simp only [P12.has, hs, if_true]
  exact ⟨ht, hr, P12.keeps_takes r⟩
end Go.Proofs.YtlpcdpkgnfdpeaaGreatDoor
namespace P12
end P12
namespace Go.Proofs.YtlpcdpkgnfdpeaaGreatDoor
open Go.RowKit
structure Fz (br gz gx : Nat) (w0 : World) (r0 : P12.R) (K : (Nat → Prop) → World → Prop) (r : P12.R) (c : Array Value) (w : World) : Prop where
 zero : w.heap[gz]? = some (.cells zero37.toArray 46)
 blk : w.heap[gx]? = some (.cells c 46)
 turn : Turn br w0 w
 rd : Rd br r w
 keeps : P12.Keeps r0 r
 stab : StabP K
 piece : K (fun b => gx < b) w
 lo : br < w0.heap.size
 gzge : w0.heap.size ≤ gz
 zx : gz < gx
section
variable {br gz gx : Nat} {w0 : World} {r0 : P12.R} {K : (Nat → Prop) → World → Prop} {r r' : P12.R} {c c' : Array Value} {w w' : World}
theorem Fz.size (F : Fz br gz gx w0 r0 K r c w) : gx < w.heap.size := (Array.getElem?_eq_some_iff.1 F.blk).1
theorem Fz.step (F : Fz br gz gx w0 r0 K r c w) (ht : Turn br w w') (hr : Rd br r' w') (hk : P12.Keeps r r') : Fz br gz gx w0 r0 K r' c w' := by
 obtain ⟨h2, h3, h4, h5, h6, h7, h8, h9, h11, h13⟩ := F
 exact ⟨ht.held h2 (by omega), ht.held h3 (by omega), Turn.trans h4 ht, hr, h6.trans hk, h7, h7 _ _ _ _ h8 (fun b hb hl => ht.block hl (by omega)) (fun b hb _ => hb), h9, h11, h13⟩
theorem Fz.ext (F : Fz br gz gx w0 r0 K r c w) (hx : Xk.Ext w w') : Fz br gz gx w0 r0 K r c w' := F.step (Turn.of_ext hx) (F.rd.ext hx) (P12.Keeps.refl _)
theorem Fz.alloc (F : Fz br gz gx w0 r0 K r c w) (o : Obj) : Fz br gz gx w0 r0 K r c (w.alloc o) := F.ext ((Below.refl _ _).alloc (Nat.le_refl _) _)
theorem Fz.puts (F : Fz br gz gx w0 r0 K r c w) (hp : Puts gx c' 46 w w') : Fz br gz gx w0 r0 K r c' w' := by
 obtain ⟨h2, h3, h4, h5, h6, h7, h8, h9, h11, h13⟩ := F
 exact ⟨(hp.rest _ (by omega)).trans h2, hp.blk, Puts.turn hp h4 (by omega), Puts.rd hp h5 (by omega), h6, h7, h7 _ _ _ _ h8 (fun b hb hl => hp.rest b (by omega)) (fun b hb _ => hb), h9, h11, h13⟩
theorem Fz.set (F : Fz br gz gx w0 r0 K r c w) (o : Nat) (u : Value) : Fz br gz gx w0 r0 K r (c.setIfInBounds o u) (w.setCell ⟨gx, o, none⟩ u) :=
 F.puts (puts_set F.blk [u] o)
theorem Fz.add (F : Fz br gz gx w0 r0 K r c w) {A : (Nat → Prop) → World → Prop} (hs : StabP A) (ha : A (fun b => gx < b) w) : Fz br gz gx w0 r0 (fun S w => K S w ∧ A S w) r c w := by
 obtain ⟨h2, h3, h4, h5, h6, h7, h8, h9, h11, h13⟩ := F
 exact ⟨h2, h3, h4, h5, h6, fun S S' w w' h hb hS => ⟨h7 _ _ _ _ h.1 hb hS, hs _ _ _ _ h.2 hb hS⟩, ⟨h8, ha⟩, h9, h11, h13⟩
theorem Fz.cells (F : Fz br gz gx w0 r0 K r c w) (h : c = c') : Fz br gz gx w0 r0 K r c' w := h ▸ F
theorem Fz.cell (F : Fz br gz gx w0 r0 K r c w) {o : Nat} {v : Value} (h : c[o]? = some v) : w.cell? ⟨gx, o, none⟩ = some v := by simp [World.cell?, F.blk, h]
theorem Fz.free (F : Fz br gz gx w0 r0 K r c w) (o : Nat) : w.frozen? ⟨gx, o, none⟩ = false := frozen_of_row w gx o _ _ F.blk
theorem Fz.after (F : Fz br gz gx w0 r0 K r c w) (ht : Turn br w w') : Turn br w0 w' := Turn.trans F.turn ht
theorem Fz.up (F : Fz br gz gx w0 r0 K r c w) {A : (Nat → Prop) → World → Prop} (hs : StabP A) (ha : A (fun b => w.heap.size ≤ b) w') : A (fun b => gx < b) w' :=
 hs _ _ _ _ ha (fun _ _ _ => rfl) (fun b hb _ => by have := F.size; omega)
theorem Fz.start {br : Nat} {r r1 : P12.R} {w wm w1 w2 : World} {c : Array Value} {o : Obj} (h : Rd br r w) (ht : Turn br (w.alloc (.cells zero37.toArray 46)) w1) (hr : Rd br r1 w1) (hk : P12.Keeps r r1) (hp : Puts w1.heap.size c 46 (w1.alloc o) w2) :
  Fz br w.heap.size w1.heap.size w r (fun _ _ => True) r1 c w2 := by
 have hlt := h.lt
 have hl := ht.size
 simp only [World.size_alloc] at hl
 have hz := heap_new w (.cells zero37.toArray 46)
 have h2 := ((Turn.alloc (Turn.refl br w1) o).held (ht.held hz (by omega)) (by omega))
 refine ⟨(hp.rest _ (by omega)).trans h2, hp.blk, Puts.turn hp (Turn.alloc (Turn.trans (Turn.alloc (Turn.refl br w) _) ht) _) (by omega), Puts.rd hp (hr.alloc _) (by omega), hk, fun _ _ _ _ _ _ _ => trivial, trivial, hlt, Nat.le_refl _, by omega⟩
theorem Fz.finish {l : List Value} {x : P12.St} (F : Fz br gz gx w0 r0 K r c w) (hp : Puts gz l.toArray 46 w w') (hst : K (fun b => w0.heap.size ≤ b) w' → StmtIn (fun b => w0.heap.size ≤ b) w' x l) :
  Got br w0 r0 (StmtV w0) (.ok (x, r)) (.returned (.agg l.toArray)) w' := by
 obtain ⟨h2, h3, h4, h5, h6, h7, h8, h9, h11, h13⟩ := F
 exact ⟨_, rfl, ⟨l, rfl, hst (h7 _ _ _ _ h8 (fun b hb hl => hp.rest b (by omega)) (fun b hb _ => by omega))⟩, Puts.turn hp h4 h11, Puts.rd hp h5 (by omega), h6⟩
end
def Own {α : Type} (S : Nat → Prop) (e : TypeId) (sz : Nat) (R : (Nat → Prop) → World → α → List Value → Prop) (xs : List α) (v : Value) (w : World) : Prop :=
 ∃ us : List (List Value), (xs = [] → v = nilS) ∧ w.ownsRow 0 e sz v xs.length us.flatten ∧ (∀ b, v.ownBlock = some b → S b) ∧ us.length = xs.length ∧ (∀ u ∈ us, u.length = sz) ∧ ∀ (j : Nat) x u, xs[j]? = some x → us[j]? = some u → R (fun b => S b ∧ ¬ v.ownBlock = some b) w x u
section
variable {α : Type} {S : Nat → Prop} {e : TypeId} {sz : Nat} {R : (Nat → Prop) → World → α → List Value → Prop} {xs : List α} {v : Value} {w w' : World}
theorem Own.nil : Own S e sz R [] nilS w := ⟨[], fun _ => rfl, World.ownsRow_nil _ _ _ _, by simp [Value.ownBlock], rfl, by simp, by simp⟩
theorem Own.lt (h : Own S e sz R xs v w) : ∀ b, v.ownBlock = some b → S b ∧ b < w.heap.size := by
 obtain ⟨us, -, h1, h2, -⟩ := h
 exact fun b hb => ⟨h2 b hb, (h1.lt b hb).2⟩
theorem Own.keep {S' : Nat → Prop} (h : Own S e sz R xs v w) (hR : Stab R) (hb : ∀ b, S b → b < w.heap.size → w'.heap[b]? = w.heap[b]?) (hS : ∀ b, S b → b < w.heap.size → S' b) : Own S' e sz R xs v w' := by
 obtain ⟨us, h0, h1, h2, h3, h4, h5⟩ := h
 exact ⟨us, h0, own_same h1 fun b hb' => hb b (h2 b hb') (h1.lt b hb').2, fun b hb' => hS b (h2 b hb') (h1.lt b hb').2, h3, h4, fun j x u hx hu => hR _ _ _ _ _ _ (h5 j x u hx hu) (fun b hs => hb b hs.1) (fun b hs hl => ⟨hS b hs.1 hl, hs.2⟩)⟩
theorem Own.form (h : Own S e sz R xs v w) : ∃ q c, v = .slice q xs.length c := by
 obtain ⟨us, -, ho, -⟩ := h
 rcases ho.2 with ⟨rfl, h0⟩ | ⟨g, cap, cur, rfl, -⟩
 ·exact ⟨none, 0, by rw [h0]⟩
 ·exact ⟨_, _, rfl⟩
theorem Own.mem {z n cz : Nat} (h : Own S e sz R xs (.slice (some ⟨z, 0, none⟩) n cz) w) : n = xs.length ∧ ∃ cur, w.heap[z]? = some (.cells cur e) ∧ xs.length * sz ≤ cur.size := by
 obtain ⟨us, -, ho, -⟩ := h
 rcases ho.2 with ⟨hv, -⟩ | ⟨g, cap, cur, hv, -, h6, h7, h8, h9, -⟩
 ·cases hv
 ·cases hv
  exact ⟨rfl, cur, h6, by rw [h9]; exact Nat.mul_le_mul_right _ h7⟩
theorem Own.push {us : List (List Value)} {v' : Value} {x : α} {u : List Value} (hR : Stab R) (h1 : ∀ b, v.ownBlock = some b → S b) (hS : ∀ b, w.heap.size ≤ b → S b) (h2 : us.length = xs.length) (h3 : ∀ u ∈ us, u.length = sz)
  (h4 : ∀ (j : Nat) x u, xs[j]? = some x → us[j]? = some u → R (fun b => S b ∧ ¬ v.ownBlock = some b) w x u) (hg : w.grownBy w' v.ownBlock) (ho : w'.ownsRow 0 e sz v' (xs.length + 1) (us.flatten ++ u))
  (hk : ∀ b, v'.ownBlock = some b → v.ownBlock = some b ∨ w.heap.size ≤ b) (hu : u.length = sz) (hx : R (fun b => S b ∧ ¬ v.ownBlock = some b) w x u) : Own S e sz R (xs ++ [x]) v' w' := by
 have hmv : ∀ x u, R (fun b => S b ∧ ¬ v.ownBlock = some b) w x u → R (fun b => S b ∧ ¬ v'.ownBlock = some b) w' x u := fun x u h =>
  hR _ _ _ _ _ _ h (fun b hb hl => hg.block b hl (fun e => hb.2 e.symm)) (fun b hb hl => ⟨hb.1, fun e => by
   rcases hk b e with h | h
   ·exact hb.2 h
   ·omega⟩)
 refine ⟨us ++ [u], fun e => absurd e (by simp), by simpa using ho, fun b hb => (hk b hb).elim (h1 b) (hS b), by simp [h2], fun y hy => ?_, fun j y c hy hc => hmv _ _ ?_⟩
 ·rcases List.mem_append.1 hy with hy | hy
  ·exact h3 y hy
  ·rw [List.mem_singleton.1 hy]; exact hu
 ·rcases Nat.lt_or_ge j xs.length with hj | hj
  ·rw [List.getElem?_append_left hj] at hy
   rw [List.getElem?_append_left (by omega)] at hc
   exact h4 j y c hy hc
  ·rw [List.getElem?_append_right hj] at hy
   rw [List.getElem?_append_right (by omega), h2] at hc
   obtain ⟨rfl, rfl⟩ : x = y ∧ u = c := by
    rcases hj0 : j - xs.length with _ | k
    ·rw [hj0] at hy hc
     simp at hy hc
     exact ⟨hy, hc⟩
    ·rw [hj0] at hy
     simp at hy
   exact hx
theorem Own.slc (h : Own S e sz R xs v w) (hR : Stab R) (hs : 0 < sz) : SlcAt S w sz (R S w) xs v := by
 obtain ⟨us, h00, h1, hown, h2, h3, h4⟩ := h
 rcases h1.2 with ⟨rfl, h0⟩ | ⟨g, cap, cur, rfl, h5, h6, h7, h8, h9, h10⟩
 ·have : xs = [] := List.eq_nil_of_length_eq_zero h0
  subst this
  exact .inl ⟨rfl, rfl⟩
 ·by_cases hp : 0 < xs.length
  ·refine .inr ⟨g, cap, us, rfl, hown g rfl, hp, h7, h2, h3, hs, fun j v hj => ?_, fun j x u hx hu => hR _ _ _ _ _ _ (h4 j x u hx hu) (fun _ _ _ => rfl) (fun b hb _ => hb.1)⟩
   rw [← h10] at hj
   have hj' : cur.toList[j]? = some v := by
    rw [List.getElem?_take] at hj
    split at hj
    ·exact hj
    ·cases hj
   simp [World.cell?, h6]
   simpa using hj'
  ·have hx : xs = [] := List.eq_nil_of_length_eq_zero (by omega)
   subst hx
   exact .inl ⟨rfl, h00 rfl⟩
end
theorem Own.putLast {α : Type} {S : Nat → Prop} {e : TypeId} {sz : Nat} {R : (Nat → Prop) → World → α → List Value → Prop} {xs : List α} {x0 x : α} {z cz : Nat} {w w' : World} {cur : Array Value} {l : List Value} (hR : Stab R)
  (h : Own S e sz R (xs ++ [x0]) (.slice (some ⟨z, 0, none⟩) (xs.length + 1) cz) w) (hc : w.heap[z]? = some (.cells cur e)) (hp : Puts z (writeAt cur (xs.length * sz) l) e w w') (hl : l.length = sz)
  (hx : R (fun b => S b ∧ ¬ z = b) w x l) : Own S e sz R (xs ++ [x]) (.slice (some ⟨z, 0, none⟩) (xs.length + 1) cz) w' := by
 obtain ⟨us, -, h1, hown, h2, h3, h4⟩ := h
 have hSS : ∀ b, (S b ∧ ¬ (Value.slice (some ⟨z, 0, none⟩) (xs.length + 1) cz).ownBlock = some b) → w'.heap[b]? = w.heap[b]? := fun b hb => hp.rest b (fun e => hb.2 (by simp [Value.ownBlock, e]))
 rw [List.length_append, List.length_singleton] at h1 h2
 obtain ⟨ul, uz, rfl⟩ : ∃ a b, us = a ++ [b] := ⟨us.dropLast, us.getLast (fun e => by simp [e] at h2), (List.dropLast_concat_getLast _).symm⟩
 rw [List.length_append, List.length_singleton] at h2
 have hul : ul.length = xs.length := by omega
 have huz : uz.length = sz := h3 uz (by simp)
 have hfl : ∀ (L : List (List Value)), (∀ u ∈ L, u.length = sz) → L.flatten.length = L.length * sz := fun L => by
  induction L with
  | nil => simp
  | cons a L ih =>
   intro hL
   simp only [List.flatten_cons, List.length_append, List.length_cons]
   rw [ih (fun u hu => hL u (by simp [hu])), hL a (by simp), Nat.succ_mul, Nat.add_comm]
 have hful := hfl ul (fun u hu => h3 u (by simp [hu]))
 rw [hul] at hful
 refine ⟨ul ++ [l], fun e => absurd e (by simp), ?_, hown, by simp [hul], fun u hu => ?_, fun j y u hy hu => ?_⟩
 ·rw [List.length_append, List.length_singleton]
  refine ⟨by simp [hful, hl, Nat.succ_mul], ?_⟩
  rcases h1.2 with ⟨hv, -⟩ | ⟨g, cap, cur', hv, h5, h6, h7, h8, h9, h10⟩
  ·cases hv
  ·cases hv
   obtain rfl : cur' = cur := by rw [hc] at h6; cases h6; rfl
   refine .inr ⟨z, cz, _, rfl, h5, hp.blk, h7, h8, by rw [writeAt_size]; exact h9, ?_⟩
   have hle : xs.length * sz + sz ≤ cur'.size := by
    rw [h9]
    calc xs.length * sz + sz = (xs.length + 1) * sz := by rw [Nat.succ_mul]
     _ ≤ cz * sz := Nat.mul_le_mul_right _ h7
   rw [writeAt_list _ _ _ (by omega), hl]
   have ht : cur'.toList.take (xs.length * sz) = ul.flatten := by
    have := congrArg (List.take (xs.length * sz)) h10
    rw [List.take_take, Nat.min_eq_left (by rw [Nat.succ_mul]; omega), List.flatten_append, List.take_left' hful] at this
    exact this
   rw [ht, Nat.succ_mul, List.append_assoc, List.take_append, hful, List.take_of_length_le (by omega), Nat.add_sub_cancel_left, List.take_left' hl]
   simp
 ·rcases List.mem_append.1 hu with hu | hu
  ·exact h3 u (by simp [hu])
  ·rw [List.mem_singleton.1 hu]; exact hl
 ·rcases Nat.lt_or_ge j xs.length with hj | hj
  ·rw [List.getElem?_append_left hj] at hy
   rw [List.getElem?_append_left (by omega)] at hu
   exact hR _ _ _ _ _ _ (h4 j y u (by rw [List.getElem?_append_left hj]; exact hy) (by rw [List.getElem?_append_left (by omega)]; exact hu)) (fun b hb _ => hSS b hb) (fun b hb _ => hb)
  ·rw [List.getElem?_append_right hj] at hy
   rw [List.getElem?_append_right (by omega), hul] at hu
   obtain ⟨rfl, rfl⟩ : x = y ∧ l = u := by
    rcases hj0 : j - xs.length with _ | k
    ·rw [hj0] at hy hu
     simp at hy hu
     exact ⟨hy, hu⟩
    ·rw [hj0] at hy
     simp at hy
   exact hR _ _ _ _ _ _ hx (fun b hb _ => hp.rest b (fun e => hb.2 e.symm)) (fun b hb _ => ⟨hb.1, fun e => hb.2 (by simpa [Value.ownBlock] using e)⟩)
theorem stab_col : Stab (fun _ _ => colR) := fun _ _ _ _ _ _ h _ _ => h
theorem stab_key : Stab (fun _ _ => keyR) := fun _ _ _ _ _ _ h _ _ => h
theorem stab_strs : Stab strsR := fun _ _ _ _ _ _ ⟨v, h1, h2⟩ hb hS => ⟨v, h1, h2.keep hb hS (fun _ _ h => h)⟩
abbrev tabL (name : P12.T) (tc tk tq kc : Value) : Array Value := (stmtL 1 name tc tk tq kc [] [] false nilS nilS nilS noE nilS nilS noE nilS nilS 0).toArray
structure Tab (B gx : Nat) (t : P12.Tb) (k : List (List P12.T)) (col : Nat → Nat) (tc tk tq kc : Value) (c : Array Value) (w : World) : Prop where
 blk : w.heap[gx]? = some (.cells c 46)
 tc : Own (fun b => B ≤ b ∧ col b = 0) 51 3 (fun _ _ => colR) t.cols tc w
 tk : Own (fun b => B ≤ b ∧ col b = 1) 100 4 (fun _ _ => keyR) t.keys tk w
 tq : Own (fun b => B ≤ b ∧ col b = 2) 41 10 exprR t.checks tq w
 kc : Own (fun b => B ≤ b ∧ col b = 3) 35 1 strsR k kc w
 bx : gx < B
 bs : B ≤ w.heap.size
section
variable {B gx : Nat} {t : P12.Tb} {k : List (List P12.T)} {col : Nat → Nat} {tc tk tq kc : Value} {c : Array Value} {w w' : World}
theorem Tab.same (h : Tab B gx t k col tc tk tq kc c w) (hx : w'.heap[gx]? = w.heap[gx]?) (hb : ∀ b, B ≤ b → b < w.heap.size → w'.heap[b]? = w.heap[b]?) (hs : w.heap.size ≤ w'.heap.size) : Tab B gx t k col tc tk tq kc c w' :=
 ⟨hx.trans h.blk, h.tc.keep stab_col (fun b hb' hl => hb b hb'.1 hl) (fun b hb _ => hb), h.tk.keep stab_key (fun b hb' hl => hb b hb'.1 hl) (fun b hb _ => hb), h.tq.keep stab_expr (fun b hb' hl => hb b hb'.1 hl) (fun b hb _ => hb), h.kc.keep stab_strs (fun b hb' hl => hb b hb'.1 hl) (fun b hb _ => hb), h.bx, Nat.le_trans h.bs hs⟩
theorem Tab.turn {br : Nat} (h : Tab B gx t k col tc tk tq kc c w) (ht : Turn br w w') (h1 : br < gx) : Tab B gx t k col tc tk tq kc c w' :=
 h.same (ht.block (by have := h.bx; have := h.bs; omega) (by omega)) (fun b hb hl => ht.block hl (by have := h.bx; omega)) ht.size
theorem Tab.ext (h : Tab B gx t k col tc tk tq kc c w) (hx : Xk.Ext w w') : Tab B gx t k col tc tk tq kc c w' :=
 h.same (hx.block _ (by have := h.bx; have := h.bs; omega)) (fun b hb hl => hx.block b hl) hx.size
theorem Tab.setCell (h : Tab B gx t k col tc tk tq kc c w) {g : Nat} (hg : g < B) (hne : g ≠ gx) (o : Nat) (u : Value) : Tab B gx t k col tc tk tq kc c (w.setCell ⟨g, o, none⟩ u) :=
 h.same (heap_setCell_other w ⟨g, o, none⟩ gx u (fun e => hne (by have h : gx = g := (by simpa using e); omega))) (fun b hb hl => heap_setCell_other w ⟨g, o, none⟩ b u (fun e => by (have h : b = g := (by simpa using e)); omega)) (by rw [World.size_setCell]; omega)
theorem Tab.recol (h : Tab B gx t k col tc tk tq kc c w) (i : Nat) : Tab B gx t k (fun b => if b < w.heap.size then col b else i) tc tk tq kc c w :=
 ⟨h.blk, h.tc.keep stab_col (fun _ _ _ => rfl) (fun b hb hl => ⟨hb.1, by rw [if_pos hl]; exact hb.2⟩), h.tk.keep stab_key (fun _ _ _ => rfl) (fun b hb hl => ⟨hb.1, by rw [if_pos hl]; exact hb.2⟩), h.tq.keep stab_expr (fun _ _ _ => rfl) (fun b hb hl => ⟨hb.1, by rw [if_pos hl]; exact hb.2⟩), h.kc.keep stab_strs (fun _ _ _ => rfl) (fun b hb hl => ⟨hb.1, by rw [if_pos hl]; exact hb.2⟩), h.bx, h.bs⟩
theorem Tab.form (h : Tab B gx t k col tc tk tq kc c w) : ∃ a1 a2 b1 b2 c1 c2 d1 d2, tc = .slice a1 t.cols.length a2 ∧ tk = .slice b1 t.keys.length b2 ∧ tq = .slice c1 t.checks.length c2 ∧ kc = .slice d1 k.length d2 := by
 obtain ⟨a1, a2, ha⟩ := h.tc.form
 obtain ⟨b1, b2, hb⟩ := h.tk.form
 obtain ⟨c1, c2, hc⟩ := h.tq.form
 obtain ⟨d1, d2, hd⟩ := h.kc.form
 exact ⟨a1, a2, b1, b2, c1, c2, d1, d2, ha, hb, hc, hd⟩
end
section
variable {B gx : Nat} {t : P12.Tb} {k : List (List P12.T)} {col : Nat → Nat} {tc tk tq kc : Value} {c : Array Value} {w w' : World}
theorem Tab.setX (h : Tab B gx t k col tc tk tq kc c w) (o : Nat) (u : Value) : Tab B gx t k col tc tk tq kc (c.setIfInBounds o u) (w.setCell ⟨gx, o, none⟩ u) := by
 have hb : ∀ b, B ≤ b → (w.setCell ⟨gx, o, none⟩ u).heap[b]? = w.heap[b]? := fun b hb => heap_setCell_other w ⟨gx, o, none⟩ b u (fun e => by (have h2 : b = gx := (by simpa using e)); have := h.bx; omega)
 exact ⟨heap_setCell_same w gx o _ _ _ h.blk, h.tc.keep stab_col (fun b hb' _ => hb b hb'.1) (fun b hb _ => hb), h.tk.keep stab_key (fun b hb' _ => hb b hb'.1) (fun b hb _ => hb), h.tq.keep stab_expr (fun b hb' _ => hb b hb'.1) (fun b hb _ => hb), h.kc.keep stab_strs (fun b hb' _ => hb b hb'.1) (fun b hb _ => hb), h.bx, by rw [World.size_setCell]; exact h.bs⟩
theorem Tab.grow0 (h : Tab B gx t k col tc tk tq kc c w) (hi : ∀ b, w.heap.size ≤ b → col b = 0) {us : List (List Value)} {v' : Value} {x : P12.T × Int × Bool} {u : List Value} (h2 : us.length = t.cols.length) (h3 : ∀ u ∈ us, u.length = 3)
  (h4 : ∀ (j : Nat) x u, t.cols[j]? = some x → us[j]? = some u → (fun _ _ => colR) (fun b => (B ≤ b ∧ col b = 0) ∧ ¬ tc.ownBlock = some b) w x u) (hg : w.grownBy w' tc.ownBlock) (ho : w'.ownsRow 0 51 3 v' (t.cols.length + 1) (us.flatten ++ u))
  (hk : ∀ b, v'.ownBlock = some b → tc.ownBlock = some b ∨ w.heap.size ≤ b) (hu : u.length = 3) (hx : (fun _ _ => colR) (fun b => (B ≤ b ∧ col b = 0) ∧ ¬ tc.ownBlock = some b) w x u) : Tab B gx { t with cols := t.cols ++ [x] } k col v' tk tq kc c w' := by
 have hS : ∀ b, tc.ownBlock = some b → B ≤ b ∧ col b = 0 := fun b hb => (h.tc.lt b hb).1
 have hoth : ∀ b, col b ≠ 0 → b < w.heap.size → w'.heap[b]? = w.heap[b]? := fun b hb hl => hg.block b hl (fun e => hb (hS b e.symm).2)
 have hgx := (hg.block gx (by have := h.bx; have := h.bs; omega) (fun e => by have := (hS gx e.symm).1; have := h.bx; omega)).trans h.blk
 exact ⟨hgx, Own.push stab_col hS (fun b hb => ⟨Nat.le_trans h.bs hb, hi b hb⟩) h2 h3 h4 hg ho hk hu hx, h.tk.keep stab_key (fun b hb hl => hoth b (by rw [hb.2]; decide) hl) (fun b hb _ => hb), h.tq.keep stab_expr (fun b hb hl => hoth b (by rw [hb.2]; decide) hl) (fun b hb _ => hb), h.kc.keep stab_strs (fun b hb hl => hoth b (by rw [hb.2]; decide) hl) (fun b hb _ => hb), h.bx, Nat.le_trans h.bs hg.size⟩
theorem Tab.grow1 (h : Tab B gx t k col tc tk tq kc c w) (hi : ∀ b, w.heap.size ≤ b → col b = 1) {us : List (List Value)} {v' : Value} {x : Bool} {u : List Value} (h2 : us.length = t.keys.length) (h3 : ∀ u ∈ us, u.length = 4)
  (h4 : ∀ (j : Nat) x u, t.keys[j]? = some x → us[j]? = some u → (fun _ _ => keyR) (fun b => (B ≤ b ∧ col b = 1) ∧ ¬ tk.ownBlock = some b) w x u) (hg : w.grownBy w' tk.ownBlock) (ho : w'.ownsRow 0 100 4 v' (t.keys.length + 1) (us.flatten ++ u))
  (hk : ∀ b, v'.ownBlock = some b → tk.ownBlock = some b ∨ w.heap.size ≤ b) (hu : u.length = 4) (hx : (fun _ _ => keyR) (fun b => (B ≤ b ∧ col b = 1) ∧ ¬ tk.ownBlock = some b) w x u) : Tab B gx { t with keys := t.keys ++ [x] } k col tc v' tq kc c w' := by
 have hS : ∀ b, tk.ownBlock = some b → B ≤ b ∧ col b = 1 := fun b hb => (h.tk.lt b hb).1
 have hoth : ∀ b, col b ≠ 1 → b < w.heap.size → w'.heap[b]? = w.heap[b]? := fun b hb hl => hg.block b hl (fun e => hb (hS b e.symm).2)
 have hgx := (hg.block gx (by have := h.bx; have := h.bs; omega) (fun e => by have := (hS gx e.symm).1; have := h.bx; omega)).trans h.blk
 exact ⟨hgx, h.tc.keep stab_col (fun b hb hl => hoth b (by rw [hb.2]; decide) hl) (fun b hb _ => hb), Own.push stab_key hS (fun b hb => ⟨Nat.le_trans h.bs hb, hi b hb⟩) h2 h3 h4 hg ho hk hu hx, h.tq.keep stab_expr (fun b hb hl => hoth b (by rw [hb.2]; decide) hl) (fun b hb _ => hb), h.kc.keep stab_strs (fun b hb hl => hoth b (by rw [hb.2]; decide) hl) (fun b hb _ => hb), h.bx, Nat.le_trans h.bs hg.size⟩
theorem Tab.grow3 (h : Tab B gx t k col tc tk tq kc c w) (hi : ∀ b, w.heap.size ≤ b → col b = 3) {us : List (List Value)} {v' : Value} {x : List P12.T} {u : List Value} (h2 : us.length = k.length) (h3 : ∀ u ∈ us, u.length = 1)
  (h4 : ∀ (j : Nat) x u, k[j]? = some x → us[j]? = some u → strsR (fun b => (B ≤ b ∧ col b = 3) ∧ ¬ kc.ownBlock = some b) w x u) (hg : w.grownBy w' kc.ownBlock) (ho : w'.ownsRow 0 35 1 v' (k.length + 1) (us.flatten ++ u))
  (hk : ∀ b, v'.ownBlock = some b → kc.ownBlock = some b ∨ w.heap.size ≤ b) (hu : u.length = 1) (hx : strsR (fun b => (B ≤ b ∧ col b = 3) ∧ ¬ kc.ownBlock = some b) w x u) : Tab B gx t (k ++ [x]) col tc tk tq v' c w' := by
 have hS : ∀ b, kc.ownBlock = some b → B ≤ b ∧ col b = 3 := fun b hb => (h.kc.lt b hb).1
 have hoth : ∀ b, col b ≠ 3 → b < w.heap.size → w'.heap[b]? = w.heap[b]? := fun b hb hl => hg.block b hl (fun e => hb (hS b e.symm).2)
 have hgx := (hg.block gx (by have := h.bx; have := h.bs; omega) (fun e => by have := (hS gx e.symm).1; have := h.bx; omega)).trans h.blk
 exact ⟨hgx, h.tc.keep stab_col (fun b hb hl => hoth b (by rw [hb.2]; decide) hl) (fun b hb _ => hb), h.tk.keep stab_key (fun b hb hl => hoth b (by rw [hb.2]; decide) hl) (fun b hb _ => hb), h.tq.keep stab_expr (fun b hb hl => hoth b (by rw [hb.2]; decide) hl) (fun b hb _ => hb), Own.push stab_strs hS (fun b hb => ⟨Nat.le_trans h.bs hb, hi b hb⟩) h2 h3 h4 hg ho hk hu hx, h.bx, Nat.le_trans h.bs hg.size⟩
theorem Tab.put0 {z cz : Nat} {x0 x : P12.T × Int × Bool} {cur : Array Value} {l : List Value} (h : Tab B gx { t with cols := t.cols ++ [x0] } k col (.slice (some ⟨z, 0, none⟩) (t.cols.length + 1) cz) tk tq kc c w) (hc : w.heap[z]? = some (.cells cur 51)) (hp : Puts z (writeAt cur (t.cols.length * 3) l) 51 w w') (hl : l.length = 3)
  (hx : (fun _ _ => colR) (fun b => (B ≤ b ∧ col b = 0) ∧ ¬ z = b) w x l) : Tab B gx { t with cols := t.cols ++ [x] } k col (.slice (some ⟨z, 0, none⟩) (t.cols.length + 1) cz) tk tq kc c w' := by
 have hz : B ≤ z ∧ col z = 0 := (h.tc.lt z rfl).1
 exact ⟨(hp.rest gx (by have := h.bx; omega)).trans h.blk, Own.putLast stab_col h.tc hc hp hl hx, h.tk.keep stab_key (fun b hb _ => hp.rest b (fun e => by rw [e, hz.2] at hb; exact absurd hb.2 (by decide))) (fun b hb _ => hb), h.tq.keep stab_expr (fun b hb _ => hp.rest b (fun e => by rw [e, hz.2] at hb; exact absurd hb.2 (by decide))) (fun b hb _ => hb), h.kc.keep stab_strs (fun b hb _ => hp.rest b (fun e => by rw [e, hz.2] at hb; exact absurd hb.2 (by decide))) (fun b hb _ => hb), h.bx, by rw [hp.size]; exact h.bs⟩
end
def TabAt (B gx gc : Nat) (t : P12.Tb) (k : List (List P12.T)) (w : World) : Prop := ∃ col tc tk tq kc, Tab B gx t k col tc tk tq kc (tabL t.name tc tk tq kc) w ∧ (B ≤ gc → col gc = 9)
theorem TabAt.turn {B gx gc br : Nat} {t : P12.Tb} {k : List (List P12.T)} {w w' : World} (h : TabAt B gx gc t k w) (ht : Turn br w w') (h1 : br < gx) : TabAt B gx gc t k w' := by
 obtain ⟨col, tc, tk, tq, kc, h, h9⟩ := h
 exact ⟨col, tc, tk, tq, kc, h.turn ht h1, h9⟩
theorem TabAt.ext {B gx gc : Nat} {t : P12.Tb} {k : List (List P12.T)} {w w' : World} (h : TabAt B gx gc t k w) (ht : Xk.Ext w w') : TabAt B gx gc t k w' := by
 obtain ⟨col, tc, tk, tq, kc, h, h9⟩ := h
 exact ⟨col, tc, tk, tq, kc, h.ext ht, h9⟩
theorem TabAt.setCell {B gx gc : Nat} {t : P12.Tb} {k : List (List P12.T)} {w : World} (h : TabAt B gx gc t k w) {g : Nat} (hg : g < B) (hne : g ≠ gx) (o : Nat) (u : Value) : TabAt B gx gc t k (w.setCell ⟨g, o, none⟩ u) := by
 obtain ⟨col, tc, tk, tq, kc, h, h9⟩ := h
 exact ⟨col, tc, tk, tq, kc, h.setCell hg hne o u, h9⟩
theorem TabAt.bounds {B gx gc : Nat} {t : P12.Tb} {k : List (List P12.T)} {w : World} (h : TabAt B gx gc t k w) : gx < B ∧ B ≤ w.heap.size := by
 obtain ⟨col, tc, tk, tq, kc, h, -⟩ := h
 exact ⟨h.bx, h.bs⟩
structure KeptG (B gc : Nat) (ks : List Nat) (w w' : World) : Prop where
 kept : Kept B ks w w'
 fore : B ≤ gc → gc < w.heap.size → w'.heap[gc]? = w.heap[gc]?
section
variable {B gc : Nat} {ks : List Nat} {w0 w w' : World}
theorem KeptG.refl (B gc : Nat) (ks : List Nat) (w : World) : KeptG B gc ks w w := ⟨Kept.refl _ _ _, fun _ _ => rfl⟩
theorem KeptG.trans (h : KeptG B gc ks w0 w) (k : KeptG B gc ks w w') : KeptG B gc ks w0 w' := ⟨h.kept.trans k.kept, fun h1 h2 => (k.fore h1 (Nat.lt_of_lt_of_le h2 h.kept.size)).trans (h.fore h1 h2)⟩
theorem KeptG.of_ext (h : Xk.Ext w w') : KeptG B gc ks w w' := ⟨Kept.of_ext h, fun _ h2 => h.block _ h2⟩
theorem KeptG.of_turn {br : Nat} (h : Turn br w w') (hk : br ∈ ks) (hb : br < B) : KeptG B gc ks w w' := ⟨Kept.of_turn h hk, fun h1 h2 => h.block h2 (by omega)⟩
theorem KeptG.setCell (h : KeptG B gc ks w0 w) {g : Nat} (hg : (B ≤ g ∧ (B ≤ gc → g ≠ gc)) ∨ (g ∈ ks ∧ g < B)) (o : Nat) (u : Value) : KeptG B gc ks w0 (w.setCell ⟨g, o, none⟩ u) :=
 ⟨h.kept.setCell (hg.elim (fun h => .inl h.1) (fun h => .inr (.inl h.1))) o u, fun h1 h2 => (heap_setCell_other w ⟨g, o, none⟩ gc u (fun e => by
  have e : gc = g := by simpa using e
  rcases hg with hg | hg
  ·exact hg.2 h1 e.symm
  ·omega)).trans (h.fore h1 h2)⟩
theorem KeptG.grown {k : Option Nat} (h : KeptG B gc ks w0 w) (hg : w.grownBy w' k) (hk : ∀ b, k = some b → B ≤ b ∧ (B ≤ gc → b ≠ gc)) : KeptG B gc ks w0 w' :=
 ⟨h.kept.grown hg (fun b hb => (hk b hb).1), fun h1 h2 => (hg.block gc (Nat.lt_of_lt_of_le h2 h.kept.size) (fun e => (hk gc e.symm).2 h1 rfl)).trans (h.fore h1 h2)⟩
end
theorem TabAt.stmt {B gx gc : Nat} {t : P12.Tb} {k : List (List P12.T)} {w : World} (h : TabAt B gx gc t k w) {S : Nat → Prop} (hS : ∀ b, B ≤ b → S b) : ∃ tc tk tq kc, w.heap[gx]? = some (.cells (tabL t.name tc tk tq kc) 46) ∧
  SlcAt S w 3 colR t.cols tc ∧ SlcAt S w 4 keyR t.keys tk ∧ SlcAt S w 10 (exprR S w) t.checks tq ∧ SlcAt S w 1 (strsR S w) k kc := by
 obtain ⟨col, tc, tk, tq, kc, h, -⟩ := h
 have hs : ∀ i b, (B ≤ b ∧ col b = i) → b < w.heap.size → S b := fun i b hb _ => hS b hb.1
 exact ⟨tc, tk, tq, kc, h.blk, (h.tc.keep stab_col (fun _ _ _ => rfl) (hs 0)).slc stab_col (by decide), (h.tk.keep stab_key (fun _ _ _ => rfl) (hs 1)).slc stab_key (by decide), (h.tq.keep stab_expr (fun _ _ _ => rfl) (hs 2)).slc stab_expr (by decide), (h.kc.keep stab_strs (fun _ _ _ => rfl) (hs 3)).slc stab_strs (by decide)⟩
theorem ent_constrains : Ent 265 := ⟨fun _ _ => by go_simp, by decide⟩
theorem constrains_any (br : Nat) (r : P12.R) (w : World) (h : Rd br r w) :
  Calls Tryz.prog 265 #[rp br] w fun e w' => e = .returned (.bool (P12.constrains r)) ∧ Xk.Ext w w' := by
 have HR := Lib.hid h
 have HI := Lib.hid fun s W h => isT_any br r s W h
 clear h
 unfold P12.constrains
 cases h1 : P12.isT [80, 82, 73, 77, 65, 82, 89] r
 ·cases h2 : P12.isT [85, 78, 73, 81, 85, 69] r
  ·generalize h3 : P12.isT [67, 72, 69, 67, 75] r = b3
   go_enter Tryz.func265, Tryz.ntmps265
   go_wp2_with fail
   go_at_call 187
   refine (HI.out [80, 82, 73, 77, 65, 82, 89] _ HR.out).mono ?_
   rw [h1]
   rintro e w1 ⟨rfl, hx1⟩
   go_wp2_with fail
   go_at_call 187
   refine (HI.out [85, 78, 73, 81, 85, 69] _ (HR.out.ext hx1)).mono ?_
   rw [h2]
   rintro e w2 ⟨rfl, hx2⟩
   go_wp2_with fail
   go_at_call 187
   refine (HI.out [67, 72, 69, 67, 75] _ ((HR.out.ext hx1).ext hx2)).mono ?_
   rw [h3]
   rintro e w3 ⟨rfl, hx3⟩
   go_wp2
   go_ret
   exact ⟨by simp, Xk.Ext.trans hx1 (Xk.Ext.trans hx2 hx3)⟩
  ·go_enter Tryz.func265, Tryz.ntmps265
   go_wp2_with fail
   go_at_call 187
   refine (HI.out [80, 82, 73, 77, 65, 82, 89] _ HR.out).mono ?_
   rw [h1]
   rintro e w1 ⟨rfl, hx1⟩
   go_wp2_with fail
   go_at_call 187
   refine (HI.out [85, 78, 73, 81, 85, 69] _ (HR.out.ext hx1)).mono ?_
   rw [h2]
   rintro e w2 ⟨rfl, hx2⟩
   go_wp2
   go_ret
   exact ⟨by simp, Xk.Ext.trans hx1 hx2⟩
 ·go_enter Tryz.func265, Tryz.ntmps265
  go_wp2_with fail
  go_at_call 187
  refine (HI.out [80, 82, 73, 77, 65, 82, 89] _ HR.out).mono ?_
  rw [h1]
  rintro e w1 ⟨rfl, hx1⟩
  go_wp2
  go_ret
  exact ⟨by simp, hx1⟩
structure Cf (br gx gm gc B n : Nat) (t : P12.Tb) (k : List (List P12.T)) (w0 : World) (r0 r : P12.R) (w : World) : Prop where
 rd : Rd br r w
 tab : TabAt B gx gc t k w
 many : w.heap[gm]? = some (manyO br n 16)
 kept : KeptG B gc [br, gx, gm] w0 w
 keeps : P12.Keeps r0 r
 h1 : br < gx
 h2 : br < gm
 h3 : gm < B
 h4 : gm ≠ gx
 h5 : gc < w.heap.size
section
variable {br gx gm gc B n : Nat} {t : P12.Tb} {k : List (List P12.T)} {w0 : World} {r0 r r' : P12.R} {w w' : World}
theorem Cf.step (F : Cf br gx gm gc B n t k w0 r0 r w) (ht : Turn br w w') (hr : Rd br r' w') (hk : P12.Keeps r r') : Cf br gx gm gc B n t k w0 r0 r' w' := by
 obtain ⟨a1, a2, a3, a4, a5, a6, a7, a8, a9, a10⟩ := F
 exact ⟨hr, a2.turn ht a6, ht.held a3 (by omega), a4.trans (KeptG.of_turn ht (by simp) (by have := a2.bounds; omega)), a5.trans hk, a6, a7, a8, a9, Nat.lt_of_lt_of_le a10 ht.size⟩
theorem Cf.ext (F : Cf br gx gm gc B n t k w0 r0 r w) (hx : Xk.Ext w w') : Cf br gx gm gc B n t k w0 r0 r w' := F.step (Turn.of_ext hx) (F.rd.ext hx) (P12.Keeps.refl _)
theorem Cf.gxB (F : Cf br gx gm gc B n t k w0 r0 r w) : gx < B ∧ B ≤ w.heap.size := F.tab.bounds
end
def ConPost (br gx gm gc B n : Nat) (t : P12.Tb) (k : List (List P12.T)) (w0 : World) (r0 : P12.R) (res : Except P12.Er (P12.Con × P12.R)) (e : Ending) (w' : World) : Prop :=
 match res with
 | .error er => e = faults er ∧ KeptG B gc [br, gx, gm] w0 w'
 | .ok (o, r') => e = .returned (.tuple #[]) ∧ TabAt B gx gc (P12.addT t o) (P12.addK k o) w' ∧ w'.heap[gm]? = some (manyO br (n + 1) 16) ∧ Rd br r' w' ∧ P12.Keeps (P12.takes r0) r' ∧ KeptG B gc [br, gx, gm] w0 w'
end Go.Proofs.YtlpcdpkgnfdpeaaGreatDoor
