/- What the claim's proof leans on, part 9: walks of functions and plain laws. -/
import Derived.Test.YtlpcdpkgnfdpeaaGreatDoorSH
import Derived.Test.YtlpcdpkgnfdpeaaGreatDoorSA
import Derived.Test.YtlpcdpkgnfdpeaaGreatDoorSC
import Derived.Lib.Join
import Derived.Test.YtlpcdpkgnfdpeaaGreatDoorSB
set_option linter.unusedSimpArgs false
set_option linter.unusedVariables false
set_option maxRecDepth 100000
set_option maxHeartbeats 80000000
namespace Go.Proofs.YtlpcdpkgnfdpeaaGreatDoor
open Go.RowKit
theorem SlcAt.len {α : Type} {S : Nat → Prop} {w : World} {sz : Nat} {R : α → List Value → Prop} {l : List α} {v : Value} (h : SlcAt S w sz R l v) : ∃ p c, v = .slice p l.length c := by
 rcases h with ⟨rfl, rfl⟩ | ⟨g, c, us, rfl, -⟩
 ·exact ⟨_, _, rfl⟩
 ·exact ⟨_, _, rfl⟩
theorem SlcAt.root {α : Type} {S : Nat → Prop} {w : World} {sz : Nat} {R : α → List Value → Prop} {l : List α} {p : Option Addr} {n c : Nat} (h : SlcAt S w sz R l (.slice p n c)) (hl : 0 < l.length) : ∃ g, p = some ⟨g, 0, none⟩ := by
 rcases h with ⟨rfl, -⟩ | ⟨g, c, us, e, -⟩
 ·simp at hl
 ·cases e; exact ⟨g, rfl⟩
theorem allClExpr {FI : FuncId} (hent : Ent FI) (kd op vk vi : Int) (vs tb nm : P12.T) (pp : Option Addr) (pm pc : Nat) (bx : Nat) (W : World) (hb : W.cell? ⟨bx, 0, none⟩ = some (.func (.func FI) #[] #[])) (hF : ∀ W', Xk.Ext W W' → Calls Tryz.prog FI #[.agg (exprL kd op vk vi vs tb nm (.slice pp pm pc)).toArray] W' fun e w' => e = .returned (.bool true) ∧ Xk.Ext W' w') :
  Calls Tryz.prog 120 #[.agg (exprL kd op vk vi vs tb nm (.slice pp pm pc)).toArray, .pointer (some ⟨bx, 0, none⟩)] W fun e w' => e = .returned (.bool false) ∧ Xk.Ext W w' := by
 have hnot := notrun
 have HF := Lib.hid hF
 have hcf := hent.run
 have hci := hent.no
 have lb := World.block_lt_of_cell? _ _ hb
 clear hF hent
 go_enter Tryz.func120, Tryz.ntmps120
 go_wp2_with (first | (refine wpList_loadRow rfl 41 _ rfl (W.heap.size) _ 41 (0, 0) _ rfl (heap_new W _) Tryz.underlying41 rfl (by kernel_rfl) ?_) | fail)
 refine (HF.out _ Xk.xt).mono ?_
 rintro e w' ⟨rfl, hx⟩
 go_wp2_with fail
 go_ret
 exact ⟨rfl, Xk.Ext.trans Xk.xt hx⟩
theorem entClExpr : Ent 120 := ⟨fun _ _ => by go_simp, by decide⟩
theorem allIdxExpr {α : Type} {FI : FuncId} (hent : Ent FI) {S : Nat → Prop} {R : α → List Value → Prop} {l : List α} {v : Value} (w : World) (h : SlcAt S w 10 R l v) (hl : l.length ≤ 1000000) (hform : ∀ x u, x ∈ l → R x u → ∃ kd op vk vi : Int, ∃ vs tb nm : P12.T, ∃ pp : Option Addr, ∃ pm pc : Nat,  u = exprL kd op vk vi vs tb nm (.slice pp pm pc)) (bx : Nat) (hb : w.cell? ⟨bx, 0, none⟩ = some (.func (.func FI) #[] #[]))
  (hF : ∀ x (kd op vk vi : Int) (vs tb nm : P12.T) (pp : Option Addr) (pm pc : Nat), x ∈ l → R x (exprL kd op vk vi vs tb nm (.slice pp pm pc)) → ∀ W, Xk.Ext w W → Calls Tryz.prog FI #[.agg (exprL kd op vk vi vs tb nm (.slice pp pm pc)).toArray] W fun e w' => e = .returned (.bool true) ∧ Xk.Ext W w') :
  Calls Tryz.prog 196 #[v, .func (.func 120) #[] #[.pointer (some ⟨bx, 0, none⟩)]] w fun e w' => e = .returned (.int .i64 (-1)) ∧ Xk.Ext w w' := by
 have hcf := entClExpr.run
 have hci := entClExpr.no
 have HF := Lib.hid hF
 have HS := Lib.hid h
 have HFM := Lib.hid hform
 obtain ⟨p, c, rfl⟩ := h.len
 clear hF hform h
 go_enter Tryz.func196, Tryz.ntmps196
 go_wp2_with fail
 go_loopw [8] (fun x wr => ∃ q : Nat, q ≤ l.length ∧ x = .int .i64 q ∧ Xk.Ext w wr) (fun x _ => l.length - (intOf x).toNat)
 case atStart => exact ⟨0, by omega, rfl, Below.refl _ _⟩
 case round =>
  obtain ⟨q, hq, rfl, hx⟩ := hrel
  have HX := Lib.hid hx
  clear hx
  by_cases hlt : q < l.length
  ·obtain ⟨g, rfl⟩ := HS.out.root (by omega)
   obtain ⟨-, -, he⟩ := HS.out.elem
   obtain ⟨u, hu, -, hr⟩ := he q _ (List.getElem?_eq_getElem hlt)
   have hmem := List.getElem_mem hlt
   obtain ⟨kd, op, vk, vi, vs, tb, nm, pp, pm, pc, rfl⟩ := HFM.out _ _ hmem hu
   have hg := World.block_lt_of_cell? _ _ (hr 0 _ rfl)
   have HRJ := Lib.hid (range_same hr (HX.out.block g hg))
   have hbr := Xk.ext_cell HX.out hb
   have HC := Lib.hid (allClExpr hent kd op vk vi vs tb nm pp pm pc bx wr hbr (fun W' hx' => HF.out _ kd op vk vi vs tb nm pp pm pc hmem hu W' (Xk.Ext.trans HX.out hx')))
   have hlb : (q : Int) < (l.length : Int) := by omega
   have hwg : g < wr.heap.size := Nat.lt_of_lt_of_le hg HX.out.size
   
   clear hr hu he hbr
   go_wp2_with (first | (refine wpList_load_mid rfl 41 _ rfl g (q * 10) rfl _ _ HRJ.out Tryz.underlying41 rfl (by kernel_rfl) ?_))
   refine HC.out.mono ?_
   rintro e w' ⟨rfl, hx'⟩
   go_wp2_with fail
   go_roundw
   case rel => exact ⟨q + 1, by omega, by go_num, Xk.Ext.trans HX.out hx'⟩
   case measure => simp [intOf]; omega
  ·have hlb : ¬ (q : Int) < (l.length : Int) := by omega
   go_wp2_with fail
   go_ret
   exact ⟨rfl, HX.out⟩
theorem allOfExpr {α : Type} {FI : FuncId} (hent : Ent FI) {S : Nat → Prop} {R : α → List Value → Prop} {l : List α} {v : Value} (w : World) (h : SlcAt S w 10 R l v) (hl : l.length ≤ 1000000) (hform : ∀ x u, x ∈ l → R x u → ∃ kd op vk vi : Int, ∃ vs tb nm : P12.T, ∃ pp : Option Addr, ∃ pm pc : Nat,  u = exprL kd op vk vi vs tb nm (.slice pp pm pc))
  (hF : ∀ x (kd op vk vi : Int) (vs tb nm : P12.T) (pp : Option Addr) (pm pc : Nat), x ∈ l → R x (exprL kd op vk vi vs tb nm (.slice pp pm pc)) → ∀ W, Xk.Ext w W → Calls Tryz.prog FI #[.agg (exprL kd op vk vi vs tb nm (.slice pp pm pc)).toArray] W fun e w' => e = .returned (.bool true) ∧ Xk.Ext W w') :
  Calls Tryz.prog 47 #[v, .func (.func FI) #[] #[]] w fun e w' => e = .returned (.bool true) ∧ Xk.Ext w w' := by
 have hmf := mkfun
 have hnot := notrun
 have hxa : Xk.Ext w (w.alloc (.cells #[.func (.func FI) #[] #[]] 65)) := (Below.refl _ _).alloc (Nat.le_refl _) _
 have HI := Lib.hid (allIdxExpr hent (w.alloc (.cells #[.func (.func FI) #[] #[]] 65)) (h.keep (fun b _ hl => hxa.block b hl) (fun _ hb _ => hb) (fun _ _ h => h)) hl hform w.heap.size (cell_new w _ _)
  (fun x kd op vk vi vs tb nm pp pm pc hm hr W hx => hF x kd op vk vi vs tb nm pp pm pc hm hr W (Xk.Ext.trans hxa hx)))
 have HXA := Lib.hid hxa
 clear hF hform h hxa
 go_enter Tryz.func47, Tryz.ntmps47
 go_wp2_with (go_at_call 119; go_in)
 refine HI.out.mono ?_
 rintro e w' ⟨rfl, hx'⟩
 go_wp2_with fail
 go_ret
 exact ⟨rfl, Xk.Ext.trans HXA.out hx'⟩
theorem allClCol {FI : FuncId} (hent : Ent FI) (a : P12.T) (ty : Int) (b : Bool) (bx : Nat) (W : World) (hb : W.cell? ⟨bx, 0, none⟩ = some (.func (.func FI) #[] #[])) (hF : ∀ W', Xk.Ext W W' → Calls Tryz.prog FI #[.agg ([bs a, .int .i64 ty, .bool b]).toArray] W' fun e w' => e = .returned (.bool true) ∧ Xk.Ext W' w') :
  Calls Tryz.prog 122 #[.agg ([bs a, .int .i64 ty, .bool b]).toArray, .pointer (some ⟨bx, 0, none⟩)] W fun e w' => e = .returned (.bool false) ∧ Xk.Ext W w' := by
 have hnot := notrun
 have HF := Lib.hid hF
 have hcf := hent.run
 have hci := hent.no
 have lb := World.block_lt_of_cell? _ _ hb
 clear hF hent
 go_enter Tryz.func122, Tryz.ntmps122
 go_wp2_with (first | (refine wpList_loadRow rfl 51 _ rfl (W.heap.size) _ 51 (0, 0) _ rfl (heap_new W _) Tryz.underlying51 rfl (by kernel_rfl) ?_) | fail)
 refine (HF.out _ Xk.xt).mono ?_
 rintro e w' ⟨rfl, hx⟩
 go_wp2_with fail
 go_ret
 exact ⟨rfl, Xk.Ext.trans Xk.xt hx⟩
theorem entClCol : Ent 122 := ⟨fun _ _ => by go_simp, by decide⟩
theorem allIdxCol {α : Type} {FI : FuncId} (hent : Ent FI) {S : Nat → Prop} {R : α → List Value → Prop} {l : List α} {v : Value} (w : World) (h : SlcAt S w 3 R l v) (hl : l.length ≤ 1000000) (hform : ∀ x u, x ∈ l → R x u → ∃ a : P12.T, ∃ ty : Int, ∃ b : Bool,  u = [bs a, .int .i64 ty, .bool b]) (bx : Nat) (hb : w.cell? ⟨bx, 0, none⟩ = some (.func (.func FI) #[] #[]))
  (hF : ∀ x (a : P12.T) (ty : Int) (b : Bool), x ∈ l → R x ([bs a, .int .i64 ty, .bool b]) → ∀ W, Xk.Ext w W → Calls Tryz.prog FI #[.agg ([bs a, .int .i64 ty, .bool b]).toArray] W fun e w' => e = .returned (.bool true) ∧ Xk.Ext W w') :
  Calls Tryz.prog 197 #[v, .func (.func 122) #[] #[.pointer (some ⟨bx, 0, none⟩)]] w fun e w' => e = .returned (.int .i64 (-1)) ∧ Xk.Ext w w' := by
 have hcf := entClCol.run
 have hci := entClCol.no
 have HF := Lib.hid hF
 have HS := Lib.hid h
 have HFM := Lib.hid hform
 obtain ⟨p, c, rfl⟩ := h.len
 clear hF hform h
 go_enter Tryz.func197, Tryz.ntmps197
 go_wp2_with fail
 go_loopw [8] (fun x wr => ∃ q : Nat, q ≤ l.length ∧ x = .int .i64 q ∧ Xk.Ext w wr) (fun x _ => l.length - (intOf x).toNat)
 case atStart => exact ⟨0, by omega, rfl, Below.refl _ _⟩
 case round =>
  obtain ⟨q, hq, rfl, hx⟩ := hrel
  have HX := Lib.hid hx
  clear hx
  by_cases hlt : q < l.length
  ·obtain ⟨g, rfl⟩ := HS.out.root (by omega)
   obtain ⟨-, -, he⟩ := HS.out.elem
   obtain ⟨u, hu, -, hr⟩ := he q _ (List.getElem?_eq_getElem hlt)
   have hmem := List.getElem_mem hlt
   obtain ⟨a, ty, b, rfl⟩ := HFM.out _ _ hmem hu
   have hg := World.block_lt_of_cell? _ _ (hr 0 _ rfl)
   have HRJ := Lib.hid (range_same hr (HX.out.block g hg))
   have hbr := Xk.ext_cell HX.out hb
   have HC := Lib.hid (allClCol hent a ty b bx wr hbr (fun W' hx' => HF.out _ a ty b hmem hu W' (Xk.Ext.trans HX.out hx')))
   have hlb : (q : Int) < (l.length : Int) := by omega
   have hwg : g < wr.heap.size := Nat.lt_of_lt_of_le hg HX.out.size
   
   clear hr hu he hbr
   go_wp2_with (first | (refine wpList_load_mid rfl 51 _ rfl g (q * 3) rfl _ _ HRJ.out Tryz.underlying51 rfl (by kernel_rfl) ?_))
   refine HC.out.mono ?_
   rintro e w' ⟨rfl, hx'⟩
   go_wp2_with fail
   go_roundw
   case rel => exact ⟨q + 1, by omega, by go_num, Xk.Ext.trans HX.out hx'⟩
   case measure => simp [intOf]; omega
  ·have hlb : ¬ (q : Int) < (l.length : Int) := by omega
   go_wp2_with fail
   go_ret
   exact ⟨rfl, HX.out⟩
theorem allOfCol {α : Type} {FI : FuncId} (hent : Ent FI) {S : Nat → Prop} {R : α → List Value → Prop} {l : List α} {v : Value} (w : World) (h : SlcAt S w 3 R l v) (hl : l.length ≤ 1000000) (hform : ∀ x u, x ∈ l → R x u → ∃ a : P12.T, ∃ ty : Int, ∃ b : Bool,  u = [bs a, .int .i64 ty, .bool b])
  (hF : ∀ x (a : P12.T) (ty : Int) (b : Bool), x ∈ l → R x ([bs a, .int .i64 ty, .bool b]) → ∀ W, Xk.Ext w W → Calls Tryz.prog FI #[.agg ([bs a, .int .i64 ty, .bool b]).toArray] W fun e w' => e = .returned (.bool true) ∧ Xk.Ext W w') :
  Calls Tryz.prog 48 #[v, .func (.func FI) #[] #[]] w fun e w' => e = .returned (.bool true) ∧ Xk.Ext w w' := by
 have hmf := mkfun
 have hnot := notrun
 have hxa : Xk.Ext w (w.alloc (.cells #[.func (.func FI) #[] #[]] 102)) := (Below.refl _ _).alloc (Nat.le_refl _) _
 have HI := Lib.hid (allIdxCol hent (w.alloc (.cells #[.func (.func FI) #[] #[]] 102)) (h.keep (fun b _ hl => hxa.block b hl) (fun _ hb _ => hb) (fun _ _ h => h)) hl hform w.heap.size (cell_new w _ _)
  (fun x a ty b hm hr W hx => hF x a ty b hm hr W (Xk.Ext.trans hxa hx)))
 have HXA := Lib.hid hxa
 clear hF hform h hxa
 go_enter Tryz.func48, Tryz.ntmps48
 go_wp2_with (go_at_call 121; go_in)
 refine HI.out.mono ?_
 rintro e w' ⟨rfl, hx'⟩
 go_wp2_with fail
 go_ret
 exact ⟨rfl, Xk.Ext.trans HXA.out hx'⟩
theorem allClStr {FI : FuncId} (hent : Ent FI) (a : P12.T) (bx : Nat) (W : World) (hb : W.cell? ⟨bx, 0, none⟩ = some (.func (.func FI) #[] #[])) (hF : ∀ W', Xk.Ext W W' → Calls Tryz.prog FI #[bs a] W' fun e w' => e = .returned (.bool true) ∧ Xk.Ext W' w') :
  Calls Tryz.prog 124 #[bs a, .pointer (some ⟨bx, 0, none⟩)] W fun e w' => e = .returned (.bool false) ∧ Xk.Ext W w' := by
 have hnot := notrun
 have HF := Lib.hid hF
 have hcf := hent.run
 have hci := hent.no
 have lb := World.block_lt_of_cell? _ _ hb
 clear hF hent
 go_enter Tryz.func124, Tryz.ntmps124
 go_wp2_with (first | fail)
 refine (HF.out _ Xk.xt).mono ?_
 rintro e w' ⟨rfl, hx⟩
 go_wp2_with fail
 go_ret
 exact ⟨rfl, Xk.Ext.trans Xk.xt hx⟩
theorem entClStr : Ent 124 := ⟨fun _ _ => by go_simp, by decide⟩
theorem allIdxStr {α : Type} {FI : FuncId} (hent : Ent FI) {S : Nat → Prop} {R : α → List Value → Prop} {l : List α} {v : Value} (w : World) (h : SlcAt S w 1 R l v) (hl : l.length ≤ 1000000) (hform : ∀ x u, x ∈ l → R x u → ∃ a : P12.T,  u = [bs a]) (bx : Nat) (hb : w.cell? ⟨bx, 0, none⟩ = some (.func (.func FI) #[] #[]))
  (hF : ∀ x (a : P12.T), x ∈ l → R x ([bs a]) → ∀ W, Xk.Ext w W → Calls Tryz.prog FI #[bs a] W fun e w' => e = .returned (.bool true) ∧ Xk.Ext W w') :
  Calls Tryz.prog 175 #[v, .func (.func 124) #[] #[.pointer (some ⟨bx, 0, none⟩)]] w fun e w' => e = .returned (.int .i64 (-1)) ∧ Xk.Ext w w' := by
 have hcf := entClStr.run
 have hci := entClStr.no
 have HF := Lib.hid hF
 have HS := Lib.hid h
 have HFM := Lib.hid hform
 obtain ⟨p, c, rfl⟩ := h.len
 clear hF hform h
 go_enter Tryz.func175, Tryz.ntmps175
 go_wp2_with fail
 go_loopw [8] (fun x wr => ∃ q : Nat, q ≤ l.length ∧ x = .int .i64 q ∧ Xk.Ext w wr) (fun x _ => l.length - (intOf x).toNat)
 case atStart => exact ⟨0, by omega, rfl, Below.refl _ _⟩
 case round =>
  obtain ⟨q, hq, rfl, hx⟩ := hrel
  have HX := Lib.hid hx
  clear hx
  by_cases hlt : q < l.length
  ·obtain ⟨g, rfl⟩ := HS.out.root (by omega)
   obtain ⟨-, -, he⟩ := HS.out.elem
   obtain ⟨u, hu, -, hr⟩ := he q _ (List.getElem?_eq_getElem hlt)
   have hmem := List.getElem_mem hlt
   obtain ⟨a, rfl⟩ := HFM.out _ _ hmem hu
   have hg := World.block_lt_of_cell? _ _ (hr 0 _ rfl)
   have HRJ := Lib.hid (range_same hr (HX.out.block g hg))
   have hbr := Xk.ext_cell HX.out hb
   have HC := Lib.hid (allClStr hent a bx wr hbr (fun W' hx' => HF.out _ a hmem hu W' (Xk.Ext.trans HX.out hx')))
   have hlb : (q : Int) < (l.length : Int) := by omega
   have hwg : g < wr.heap.size := Nat.lt_of_lt_of_le hg HX.out.size
   have cJ : wr.cell? ⟨g, q, none⟩ = some (bs a) := by have := HRJ.out 0 _ rfl; rwa [Nat.mul_one, Nat.add_zero] at this
   clear hr hu he hbr
   go_wp2_with (fail)
   refine HC.out.mono ?_
   rintro e w' ⟨rfl, hx'⟩
   go_wp2_with fail
   go_roundw
   case rel => exact ⟨q + 1, by omega, by go_num, Xk.Ext.trans HX.out hx'⟩
   case measure => simp [intOf]; omega
  ·have hlb : ¬ (q : Int) < (l.length : Int) := by omega
   go_wp2_with fail
   go_ret
   exact ⟨rfl, HX.out⟩
theorem allOfStr {α : Type} {FI : FuncId} (hent : Ent FI) {S : Nat → Prop} {R : α → List Value → Prop} {l : List α} {v : Value} (w : World) (h : SlcAt S w 1 R l v) (hl : l.length ≤ 1000000) (hform : ∀ x u, x ∈ l → R x u → ∃ a : P12.T,  u = [bs a])
  (hF : ∀ x (a : P12.T), x ∈ l → R x ([bs a]) → ∀ W, Xk.Ext w W → Calls Tryz.prog FI #[bs a] W fun e w' => e = .returned (.bool true) ∧ Xk.Ext W w') :
  Calls Tryz.prog 50 #[v, .func (.func FI) #[] #[]] w fun e w' => e = .returned (.bool true) ∧ Xk.Ext w w' := by
 have hmf := mkfun
 have hnot := notrun
 have hxa : Xk.Ext w (w.alloc (.cells #[.func (.func FI) #[] #[]] 64)) := (Below.refl _ _).alloc (Nat.le_refl _) _
 have HI := Lib.hid (allIdxStr hent (w.alloc (.cells #[.func (.func FI) #[] #[]] 64)) (h.keep (fun b _ hl => hxa.block b hl) (fun _ hb _ => hb) (fun _ _ h => h)) hl hform w.heap.size (cell_new w _ _)
  (fun x a hm hr W hx => hF x a hm hr W (Xk.Ext.trans hxa hx)))
 have HXA := Lib.hid hxa
 clear hF hform h hxa
 go_enter Tryz.func50, Tryz.ntmps50
 go_wp2_with (go_at_call 123; go_in)
 refine HI.out.mono ?_
 rintro e w' ⟨rfl, hx'⟩
 go_wp2_with fail
 go_ret
 exact ⟨rfl, Xk.Ext.trans HXA.out hx'⟩
theorem someExpr {α : Type} {FI : FuncId} (hent : Ent FI) {S : Nat → Prop} {R : α → List Value → Prop} {l : List α} {v : Value} (most : Nat) (w : World) (h : SlcAt S w 10 R l v) (hl : 1 ≤ l.length ∧ l.length ≤ most) (hm : most ≤ 1000000) (hform : ∀ x u, x ∈ l → R x u → ∃ kd op vk vi : Int, ∃ vs tb nm : P12.T, ∃ pp : Option Addr, ∃ pm pc : Nat,  u = exprL kd op vk vi vs tb nm (.slice pp pm pc))
  (hF : ∀ x (kd op vk vi : Int) (vs tb nm : P12.T) (pp : Option Addr) (pm pc : Nat), x ∈ l → R x (exprL kd op vk vi vs tb nm (.slice pp pm pc)) → ∀ W, Xk.Ext w W → Calls Tryz.prog FI #[.agg (exprL kd op vk vi vs tb nm (.slice pp pm pc)).toArray] W fun e w' => e = .returned (.bool true) ∧ Xk.Ext W w') :
  Calls Tryz.prog 19 #[v, .int .i64 most, .func (.func FI) #[] #[]] w fun e w' => e = .returned (.bool true) ∧ Xk.Ext w w' := by
 have HA := Lib.hid (allOfExpr hent w h (by omega) hform hF)
 obtain ⟨p, c, rfl⟩ := h.len
 have h1 : (1 : Int) ≤ (l.length : Int) := by omega
 have h2 : (l.length : Int) ≤ (most : Int) := by omega
 clear hF hform h
 go_enter Tryz.func19, Tryz.ntmps19
 go_wp2_with fail
 refine HA.out.mono ?_
 rintro e w' ⟨rfl, hx'⟩
 go_wp2_with fail
 go_ret
 exact ⟨rfl, hx'⟩
theorem someStr {α : Type} {FI : FuncId} (hent : Ent FI) {S : Nat → Prop} {R : α → List Value → Prop} {l : List α} {v : Value} (most : Nat) (w : World) (h : SlcAt S w 1 R l v) (hl : 1 ≤ l.length ∧ l.length ≤ most) (hm : most ≤ 1000000) (hform : ∀ x u, x ∈ l → R x u → ∃ a : P12.T,  u = [bs a])
  (hF : ∀ x (a : P12.T), x ∈ l → R x ([bs a]) → ∀ W, Xk.Ext w W → Calls Tryz.prog FI #[bs a] W fun e w' => e = .returned (.bool true) ∧ Xk.Ext W w') :
  Calls Tryz.prog 21 #[v, .int .i64 most, .func (.func FI) #[] #[]] w fun e w' => e = .returned (.bool true) ∧ Xk.Ext w w' := by
 have HA := Lib.hid (allOfStr hent w h (by omega) hform hF)
 obtain ⟨p, c, rfl⟩ := h.len
 have h1 : (1 : Int) ≤ (l.length : Int) := by omega
 have h2 : (l.length : Int) ≤ (most : Int) := by omega
 clear hF hform h
 go_enter Tryz.func21, Tryz.ntmps21
 go_wp2_with fail
 refine HA.out.mono ?_
 rintro e w' ⟨rfl, hx'⟩
 go_wp2_with fail
 go_ret
 exact ⟨rfl, hx'⟩
end Go.Proofs.YtlpcdpkgnfdpeaaGreatDoor
namespace P12
theorem nameOk_at : ∀ (l : T) (i : Nat), nameOk i l = true → ∀ (j : Nat) (c : UInt8), l[j]? = Option.some c → nameC (i + j) c = true
 | [], _, _, j, c, h => by simp at h
 | x :: l, i, h, j, c, hj => by
  rw [nameOk, Bool.and_eq_true] at h
  cases j with
  | zero =>
   simp at hj
   subst hj
   exact h.1
  | succ j =>
   have := nameOk_at l (i + 1) h.2 j c (by simpa using hj)
   rwa [show i + (j + 1) = i + 1 + j by omega]
theorem isName_spec {s : T} (h : isName s = true) : s ≠ [] ∧ s.length ≤ 24 ∧ P11.words.contains (s.map Go.Lib.upperB) = false ∧ ∀ (j : Nat) (c : UInt8), s[j]? = Option.some c → nameC j c = true := by
 unfold isName at h
 simp only [Bool.and_eq_true, bne_iff_ne, ne_eq, decide_eq_true_eq, Bool.not_eq_true'] at h
 obtain ⟨⟨⟨h1, h2⟩, h3⟩, h4⟩ := h
 exact ⟨h1, h2, h3, fun j c hj => by have := nameOk_at s 0 h4 j c hj; rwa [Nat.zero_add] at this⟩
theorem nameC_ascii {i : Nat} {c : UInt8} (h : nameC i c = true) : c.toNat < 128 := by
 unfold nameC at h
 simp only [Bool.or_eq_true, Bool.and_eq_true, beq_iff_eq, decide_eq_true_eq, UInt8.le_iff_toNat_le] at h
 rcases h with (h | h) | h
 ·subst h; decide
 ·have := h.2; simp at this; omega
 ·have := h.1.2; simp at this; omega
end P12
namespace Go.Proofs.YtlpcdpkgnfdpeaaGreatDoor
open Go.RowKit
theorem contains_words (x : List UInt8) (h : P11.words.contains x = false) (n : Nat) : Lib.containsS ((P11.words.map fun y => (⟨y.toArray⟩ : ByteArray)).take n) ⟨x.toArray⟩ = false := by
 rw [Bool.eq_false_iff]
 intro hc
 rw [Lib.containsS_iff] at hc
 have hm := List.mem_of_mem_take hc
 obtain ⟨y, hy, e⟩ := List.mem_map.1 hm
 have e2 : y = x := by
  have := congrArg (fun b : ByteArray => b.data.toList) e
  simpa using this
 subst e2
 have : P11.words.contains y = true := by simpa using hy
 rw [this] at h
 cases h
theorem isName_b (s : ByteArray) (h : P12.isName s.data.toList = true) (w : World) : Calls Tryz.prog 16 #[.string s] w fun e w' => e = .returned (.bool true) ∧ Xk.Ext w w' := by
 obtain ⟨hne, hlen, hw, hch⟩ := P12.isName_spec h
 have hsz : s.data.toList.length = s.size := rfl
 rw [hsz] at hlen
 have hasc : ∀ (j : Nat) (b : UInt8), s.data.toList[j]? = some b → b.toNat < 128 := fun j b hj => P12.nameC_ascii (hch j b hj)
 have HU := Lib.hid fun W => Tryz.strings_ToUpper_ascii s W (by omega) hasc
 have HW := Lib.hid fun W => words_at W
 have HCH : Hid (∀ (j : Nat) (hj : j < s.size), P12.nameC j s[j] = true) := Lib.hid fun j hj => hch j _ (List.getElem?_eq_getElem (show j < s.data.toList.length from hj))
 have hup : Lib.toUpperA s.data.toList = s.data.toList.map Lib.upperB := by simp [Lib.toUpperA]
 have HUP := Lib.hid hup
 have HCW := Lib.hid (contains_words _ hw 43)
 have he : s.data.toList.isEmpty = false := by
  cases hs : s.data.toList with
  | nil => exact absurd hs hne
  | cons a l => rfl
 have hs0 : s.size ≠ 0 := fun e => hne (List.eq_nil_of_length_eq_zero (by rw [hsz]; exact e))
 have he2 : s.isEmpty = false := by
  unfold ByteArray.isEmpty
  simpa using hs0
 have he3 : s.toList.isEmpty = false := by rw [ByteArray.toList_eq]; exact he
 have hlb : ¬ (24 : Int) < (s.size : Int) := by omega
 clear h hne hw hch hasc hup
 go_enter Tryz.func16, Tryz.ntmps16
 go_wp2_with fail
 go_at_call 41
 refine (HW.out _).mono ?_
 rintro e w1 ⟨rfl, hwc, hx1, hl1⟩
 go_wp2_with fail
 go_at_call 42
 refine (HU.out _).mono ?_
 rintro e w2 ⟨rfl, hx2⟩
 rw [HUP.out]
 have hx12 := Xk.Ext.trans hx1 hx2
 go_wp2_with fail
 refine (Tryz.slices_Contains_string w.heap.size 0 43 43 (P11.words.map fun y => (⟨y.toArray⟩ : ByteArray)) ⟨(s.data.toList.map Lib.upperB).toArray⟩ w2 (by decide) (by decide) (fun j hj => ?_)).mono ?_
 ·have hj' : j < P11.words.length := by simpa using hj
  rw [Nat.zero_add, Xk.ext_cell hx2 (hwc j _ (List.getElem?_eq_getElem hj'))]
  rw [List.getD_eq_getElem?_getD, List.getElem?_map, List.getElem?_eq_getElem hj']
  rfl
 rintro e w3 ⟨rfl, rfl⟩
 rw [HCW.out]
 have HX := Lib.hid hx12
 clear hx1 hx2 hwc hx12
 go_wp2_with fail
 go_loopw [20] (fun x wr => ∃ q : Nat, q ≤ s.size ∧ x = .int .i64 q ∧ Xk.Ext w wr) (fun x _ => s.size - (intOf x).toNat)
 case atStart => exact ⟨0, by omega, rfl, HX.out⟩
 case round =>
  obtain ⟨q, hq, rfl, hx⟩ := hrel
  have HXR := Lib.hid hx
  clear hx
  by_cases hlt : q < s.size
  ·have hc := HCH.out q hlt
   have hqb : (q : Int) < (s.size : Int) := by omega
   have h8 : (s[q].toNat : Int) < 256 := by have := s[q].toNat_lt; omega
   unfold P12.nameC at hc
   simp only [Bool.or_eq_true, Bool.and_eq_true, beq_iff_eq, decide_eq_true_eq, UInt8.le_iff_toNat_le, bne_iff_ne, ne_eq] at hc
   simp at hc
   rcases hc with (h95 | ⟨ha, hb⟩) | ⟨⟨ha, hb⟩, hq0⟩
   ·have t1 : ((s[q].toNat : Int) != 95) = false := by rw [h95]; rfl
    go_wp2_with fail
    go_roundw
    case rel => exact ⟨q + 1, by omega, by go_num, HXR.out⟩
    case measure => simp [intOf]; omega
   ·have t1 : ((s[q].toNat : Int) != 95) = true := by simp; omega
    have t2 : ¬ (s[q].toNat : Int) < 97 := by omega
    have t3 : ¬ (122 : Int) < (s[q].toNat : Int) := by omega
    have t4 : decide ((s[q].toNat : Int) < 97) = false := by simpa using t2
    have t5 : decide ((122 : Int) < (s[q].toNat : Int)) = false := by simpa using t3
    go_wp2_with fail
    go_roundw
    case rel => exact ⟨q + 1, by omega, by go_num, HXR.out⟩
    case measure => simp [intOf]; omega
   ·have t1 : ((s[q].toNat : Int) != 95) = true := by simp; omega
    have t2 : (s[q].toNat : Int) < 97 := by omega
    have t3 : ¬ (s[q].toNat : Int) < 48 := by omega
    have t4 : ¬ (57 : Int) < (s[q].toNat : Int) := by omega
    have t5 : ((q : Int) == 0) = false := by simpa using hq0
    have t6 : decide ((s[q].toNat : Int) < 97) = true := by simpa using t2
    have t7 : decide ((s[q].toNat : Int) < 48) = false := by simpa using t3
    have t8 : decide ((57 : Int) < (s[q].toNat : Int)) = false := by simpa using t4
    go_wp2_with fail
    go_roundw
    case rel => exact ⟨q + 1, by omega, by go_num, HXR.out⟩
    case measure => simp [intOf]; omega
  ·have hqb : ¬ (q : Int) < (s.size : Int) := by omega
   go_wp2_with fail
   go_ret
   exact ⟨rfl, HXR.out⟩
theorem isName_any (s : List UInt8) (h : P12.isName s = true) (w : World) : Calls Tryz.prog 16 #[bs s] w fun e w' => e = .returned (.bool true) ∧ Xk.Ext w w' :=
 isName_b ⟨s.toArray⟩ (by simpa using h) w
theorem ent_isName : Ent 16 := ⟨fun _ _ => by go_simp, by decide⟩
theorem bare_any (kd op : Int) (tb nm : P12.T) (pp : Option Addr) (pm pc : Nat) (w : World) : Calls Tryz.prog 44 #[.agg (exprL kd op 0 0 [] tb nm (.slice pp pm pc)).toArray, .int .i64 pm] w fun e w' => e = .returned (.bool true) ∧ Xk.Ext w w' := by
 go_enter Tryz.func44, Tryz.ntmps44
 go_wp2
 go_ret
 exact ⟨by simp, Xk.xt⟩
theorem blank_some (kd op vk vi : Int) (vs tb nm : P12.T) (pp : Option Addr) (pm pc : Nat) (hk : kd ≠ 0) (w : World) : Calls Tryz.prog 39 #[.agg (exprL kd op vk vi vs tb nm (.slice pp pm pc)).toArray] w fun e w' => e = .returned (.bool false) ∧ Xk.Ext w w' := by
 have hkb : (kd == 0) = false := by simpa using hk
 go_enter Tryz.func39, Tryz.ntmps39
 go_wp2_with fail
 go_ret
 exact ⟨rfl, Xk.xt⟩
theorem blank_none (w : World) : Calls Tryz.prog 39 #[.agg noE.toArray] w fun e w' => e = .returned (.bool true) ∧ Xk.Ext w w' := by
 have HB := Lib.hid fun W => bare_any 0 0 [] [] none 0 0 W
 have hxa : Xk.Ext w (w.alloc (exprO noE)) := (Below.refl _ _).alloc (Nat.le_refl _) _
 have hga := heap_new w (exprO noE)
 have HXA := Lib.hid hxa
 go_enter Tryz.func39, Tryz.ntmps39
 go_wp2_with (refine wpList_loadRow rfl 41 _ rfl (w.heap.size) _ 41 (0, 0) _ rfl hga Tryz.underlying41 rfl (by kernel_rfl) ?_)
 refine (HB.out _).mono ?_
 rintro e w1 ⟨rfl, hx1⟩
 have hg1 := (hx1.block _ (Array.getElem?_eq_some_iff.1 hga).1).trans hga
 have q1 : w1.cell? ⟨w.heap.size, 1, none⟩ = some (.int .i64 0) := by simp [World.cell?, hg1]
 have q3 : w1.cell? ⟨w.heap.size, 5, none⟩ = some (.string ⟨#[]⟩) := by simp [World.cell?, hg1]
 have q4 : w1.cell? ⟨w.heap.size, 6, none⟩ = some (.string ⟨#[]⟩) := by simp [World.cell?, hg1]
 go_wp2_with fail
 go_ret
 exact ⟨rfl, Xk.Ext.trans HXA.out hx1⟩
theorem ent_isExpr : Ent 17 := ⟨fun _ _ => by go_simp, by decide⟩
theorem ExprAt.extS {S : Nat → Prop} {w w' : World} {e : P12.E} {l : List Value} (h : ExprAt S w e l) (hx : Xk.Ext w w') : ExprAt S w' e l := h.keep (fun b _ hl => hx.block b hl) (fun b hb _ => hb)
theorem SlcAt.extE {S : Nat → Prop} {w w' : World} {es : List P12.E} {v : Value} (h : SlcAt S w 10 (exprR S w) es v) (hx : Xk.Ext w w') : SlcAt S w' 10 (exprR S w') es v := h.keep (fun b _ hl => hx.block b hl) (fun b hb _ => hb) (fun x u hu => ExprAt.extS hu hx)
theorem Tryz.infoString : (Tryz.prog.info? 9).map (fun i => (i.zero, i.size, i.bytes)) = some (some (.string ⟨#[]⟩), 1, 16) := by kernel_rfl
theorem own_slice {w : World} {B : Nat} {e : TypeId} {size n : Nat} {v : Value} {xs : List Value} (h : w.ownsRow B e size v n xs) : ∃ p c, v = .slice p n c := by
 rcases h.2 with ⟨rfl, rfl⟩ | ⟨g, cap, cur, rfl, -⟩
 ·exact ⟨_, _, rfl⟩
 ·exact ⟨_, _, rfl⟩
theorem take_map_succ {α β : Type} {l : List α} {q : Nat} {x : α} (h : l[q]? = some x) (f : α → β) : (l.take q).map f ++ [f x] = (l.take (q + 1)).map f := by
 rw [List.take_add_one, h]; simp
theorem joinOwn (v : Value) (B : Nat) (l : List P12.T) (w : World) (h : w.ownsRow B 9 1 v l.length (l.map bs)) (hn : l.length ≤ 1000000) (hj : (P12.join l).length ≤ 140737488355328) :
  Calls Tryz.prog 158 #[v, .string ⟨#[44, 32]⟩] w fun e w' => e = .returned (bs (P12.join l)) ∧ Xk.Ext w w' := by
 rcases h.2 with ⟨rfl, h0⟩ | ⟨g, cap, cur, rfl, hB, hg, hcap, hmx, hcs, htk⟩
 ·have hl0 : l = [] := List.eq_nil_of_length_eq_zero h0
  subst hl0
  exact (Tryz.strings_Join_none none 0 _ w).mono fun e w' ⟨he, hw⟩ => ⟨he, by rw [hw]; exact Below.refl _ _⟩
 ·cases hl : l with
  | nil =>
   exact (Tryz.strings_Join_none _ _ _ w).mono fun e w' ⟨he, hw⟩ => ⟨he, by rw [hw]; exact Below.refl _ _⟩
  | cons x r =>
   rw [← hl]
   have hm : (l.map fun y => (⟨y.toArray⟩ : ByteArray)).map (·.data.toList) = l := by
    rw [List.map_map]
    exact (List.map_congr_left (fun y _ => by simp)).trans (List.map_id _)
   have hlt := (Array.getElem?_eq_some_iff.1 hg).1
   have hJ := Tryz.strings_Join g 0 cap (l.map fun y => ⟨y.toArray⟩) ⟨#[44, 32]⟩ w (fun j y hj => by
    rw [List.getElem?_map, Option.map_eq_some_iff] at hj
    obtain ⟨z, hz, rfl⟩ := hj
    have hc : (cur.toList.take (l.length * 1))[j]? = some (bs z) := by rw [htk, List.getElem?_map, hz]; rfl
    rw [List.getElem?_take] at hc
    split at hc
    ·simp only [World.cell?, hg, Nat.zero_add, Option.isSome_none, Bool.false_eq_true, if_false]
     simpa using hc
    ·cases hc) hlt (by rw [List.length_map]; omega) (by rw [List.length_map]; exact hcap) (by rw [hm]; exact hj)
   rw [hm, List.length_map] at hJ
   exact hJ
theorem rowExpr {α : Type} {FI : FuncId} (hent : Ent FI) {S : Nat → Prop} {R : α → List Value → Prop} {l : List α} {v : Value} (f : α → P12.T) (w : World) (h : SlcAt S w 10 R l v) (hl : l.length ≤ 100000) (hj : (P12.join (l.map f)).length ≤ 1000000000) (hform : ∀ x u, x ∈ l → R x u → ∃ kd op vk vi : Int, ∃ vs tb nm : P12.T, ∃ pp : Option Addr, ∃ pm pc : Nat,  u = exprL kd op vk vi vs tb nm (.slice pp pm pc))
  (hF : ∀ x (kd op vk vi : Int) (vs tb nm : P12.T) (pp : Option Addr) (pm pc : Nat), x ∈ l → R x (exprL kd op vk vi vs tb nm (.slice pp pm pc)) → ∀ W, Xk.Ext w W → Calls Tryz.prog FI #[.agg (exprL kd op vk vi vs tb nm (.slice pp pm pc)).toArray] W fun e w' => e = .returned (bs (f x)) ∧ Xk.Ext W w') :
  Calls Tryz.prog 91 #[v, .func (.func FI) #[] #[]] w fun e w' => e = .returned (bs (P12.join (l.map f))) ∧ Xk.Ext w w' := by
 have hcf := hent.run
 have hci := hent.no
 have HF := Lib.hid hF
 have HS := Lib.hid h
 have HFM := Lib.hid hform
 have HJ := Lib.hid hj
 obtain ⟨p, c, rfl⟩ := h.len
 obtain ⟨i0, hi, hz0, hz1, hz2⟩ := infoParts Tryz.infoString
 have Hi := Lib.hid hi
 have Hz0 := Lib.hid hz0
 have Hz1 := Lib.hid hz1
 have Hz2 := Lib.hid hz2
 clear hi hz0 hz1 hz2
 clear hF hform h hj
 go_enter Tryz.func91, Tryz.ntmps91
 go_wp2_with fail
 go_loopw [5, 10] (fun s x wr => ∃ q : Nat, q ≤ l.length ∧ x = .int .i64 q ∧ Xk.Ext w wr ∧ wr.ownsRow w.heap.size 9 1 s q ((l.take q).map fun y => bs (f y))) (fun _ x _ => l.length - (intOf x).toNat)
 case atStart => exact ⟨0, by omega, rfl, Below.refl _ _, World.ownsRow_nil _ _ _ _⟩
 case round =>
  obtain ⟨q, hq, rfl, hx, ho⟩ := hrel
  obtain ⟨ps, cs, rfl⟩ := own_slice ho
  have HX := Lib.hid hx
  have HO := Lib.hid ho
  have hws := hx.size
  clear hx ho
  by_cases hlt : q < l.length
  ·obtain ⟨g, rfl⟩ := HS.out.root (by omega)
   obtain ⟨-, -, he⟩ := HS.out.elem
   have hget : l[q]? = some l[q] := List.getElem?_eq_getElem hlt
   obtain ⟨u, hu, -, hr⟩ := he q _ hget
   have hmem := List.getElem_mem hlt
   obtain ⟨kd, op, vk, vi, vs, tb, nm, pp, pm, pc, rfl⟩ := HFM.out _ _ hmem hu
   have hg := World.block_lt_of_cell? _ _ (hr 0 _ rfl)
   have HRJ := Lib.hid (range_same hr (HX.out.block g hg))
   have hwg : g < wr.heap.size := Nat.lt_of_lt_of_le hg HX.out.size
   have hlb : (q : Int) < (l.length : Int) := by omega
   
   have hxb : Xk.Ext wr (wr.alloc (.cells (exprL kd op vk vi vs tb nm (.slice pp pm pc)).toArray 41)) := (Below.refl _ _).alloc (Nat.le_refl _) _
   have HC := Lib.hid (HF.out _ kd op vk vi vs tb nm pp pm pc hmem hu (wr.alloc (.cells (exprL kd op vk vi vs tb nm (.slice pp pm pc)).toArray 41)) (Xk.Ext.trans HX.out hxb))
   have HXB := Lib.hid hxb
   have HGET := Lib.hid hget
   clear hr hu he hxb hget
   generalize l[q] = x at *
   go_wp2_with (first | (refine wpList_load_mid rfl 41 _ rfl g (q * 10) rfl _ _ HRJ.out Tryz.underlying41 rfl (by kernel_rfl) ?_) | (refine wpList_loadRow rfl 41 _ rfl (wr.heap.size) _ 41 (0, 0) _ rfl (heap_new wr _) Tryz.underlying41 rfl (by kernel_rfl) ?_))
   refine HC.out.mono ?_
   rintro e wf ⟨rfl, hx'⟩
   have hxf := Xk.Ext.trans HXB.out hx'
   have hlf := hxf.size
   have HOF := Lib.hid (own_same HO.out (fun b hb => hxf.block b (HO.out.lt b hb).2))
   have HXF := Lib.hid (Xk.Ext.trans HX.out hxf)
   clear hx' hxf
   go_wp2_with (at_builtin; refine Xo.wpList_appb w.heap.size rfl _ _ 35 rfl 9 i0 _ 1 16 Tryz.underlying35 Hi.out Hz0.out Hz1.out Hz2.out rfl (by decide) (.slice ps q cs) q _ rfl (own_same HOF.out (fun b hb => (show Xk.Ext wf (wf.alloc (.cells #[bs (f x)] 9)) from (Below.refl _ _).alloc (Nat.le_refl _) _).block b (HOF.out.lt b hb).2)) wf.heap.size 0 1 1 [bs (f x)] rfl (by decide) rfl (cells_list wf _ _ rfl) (one_all (by kernel_rfl)) (by omega) (by rw [World.size_alloc]; omega) ?_; intro v' w7 ho' hg' hk')
   have hx7 : Xk.Ext w w7 := Below.grown (Xk.Ext.trans HXF.out ((Below.refl _ _).alloc (Nat.le_refl _) _)) hg' (by rw [World.size_alloc]; omega) (fun j hj => (HOF.out.lt j hj).1)
   have HX7 := Lib.hid hx7
   have HO7 : Hid (w7.ownsRow w.heap.size 9 1 v' (q + 1) ((l.take (q + 1)).map fun y => bs (f y))) := Lib.hid (by rw [← take_map_succ HGET.out]; exact ho')
   clear ho' hg' hk' hx7
   go_wp2_with fail
   go_roundw
   case rel => exact ⟨q + 1, by omega, by go_num, HX7.out, HO7.out⟩
   case measure => simp [intOf]; omega
  ·have hlb : ¬ (q : Int) < (l.length : Int) := by omega
   obtain rfl : q = l.length := by omega
   have HJN := Lib.hid (joinOwn (.slice ps l.length cs) w.heap.size (l.map f) wr (by have := HO.out; rw [List.take_length] at this; rw [List.length_map, List.map_map]; exact this) (by rw [List.length_map]; omega) (by have := HJ.out; omega))
   go_wp2_with fail
   refine HJN.out.mono ?_
   rintro e wf ⟨rfl, hx'⟩
   go_wp2_with fail
   go_ret
   exact ⟨rfl, Xk.Ext.trans HX.out hx'⟩
theorem rowStr {α : Type} {FI : FuncId} (hent : Ent FI) {S : Nat → Prop} {R : α → List Value → Prop} {l : List α} {v : Value} (f : α → P12.T) (w : World) (h : SlcAt S w 1 R l v) (hl : l.length ≤ 100000) (hj : (P12.join (l.map f)).length ≤ 1000000000) (hform : ∀ x u, x ∈ l → R x u → ∃ a : P12.T,  u = [bs a])
  (hF : ∀ x (a : P12.T), x ∈ l → R x ([bs a]) → ∀ W, Xk.Ext w W → Calls Tryz.prog FI #[bs a] W fun e w' => e = .returned (bs (f x)) ∧ Xk.Ext W w') :
  Calls Tryz.prog 86 #[v, .func (.func FI) #[] #[]] w fun e w' => e = .returned (bs (P12.join (l.map f))) ∧ Xk.Ext w w' := by
 have hcf := hent.run
 have hci := hent.no
 have HF := Lib.hid hF
 have HS := Lib.hid h
 have HFM := Lib.hid hform
 have HJ := Lib.hid hj
 obtain ⟨p, c, rfl⟩ := h.len
 obtain ⟨i0, hi, hz0, hz1, hz2⟩ := infoParts Tryz.infoString
 have Hi := Lib.hid hi
 have Hz0 := Lib.hid hz0
 have Hz1 := Lib.hid hz1
 have Hz2 := Lib.hid hz2
 clear hi hz0 hz1 hz2
 clear hF hform h hj
 go_enter Tryz.func86, Tryz.ntmps86
 go_wp2_with fail
 go_loopw [5, 10] (fun s x wr => ∃ q : Nat, q ≤ l.length ∧ x = .int .i64 q ∧ Xk.Ext w wr ∧ wr.ownsRow w.heap.size 9 1 s q ((l.take q).map fun y => bs (f y))) (fun _ x _ => l.length - (intOf x).toNat)
 case atStart => exact ⟨0, by omega, rfl, Below.refl _ _, World.ownsRow_nil _ _ _ _⟩
 case round =>
  obtain ⟨q, hq, rfl, hx, ho⟩ := hrel
  obtain ⟨ps, cs, rfl⟩ := own_slice ho
  have HX := Lib.hid hx
  have HO := Lib.hid ho
  have hws := hx.size
  clear hx ho
  by_cases hlt : q < l.length
  ·obtain ⟨g, rfl⟩ := HS.out.root (by omega)
   obtain ⟨-, -, he⟩ := HS.out.elem
   have hget : l[q]? = some l[q] := List.getElem?_eq_getElem hlt
   obtain ⟨u, hu, -, hr⟩ := he q _ hget
   have hmem := List.getElem_mem hlt
   obtain ⟨a, rfl⟩ := HFM.out _ _ hmem hu
   have hg := World.block_lt_of_cell? _ _ (hr 0 _ rfl)
   have HRJ := Lib.hid (range_same hr (HX.out.block g hg))
   have hwg : g < wr.heap.size := Nat.lt_of_lt_of_le hg HX.out.size
   have hlb : (q : Int) < (l.length : Int) := by omega
   have cJ : wr.cell? ⟨g, q, none⟩ = some (bs a) := by have := HRJ.out 0 _ rfl; rwa [Nat.mul_one, Nat.add_zero] at this
   have hxb : Xk.Ext wr wr := Below.refl _ _
   have HC := Lib.hid (HF.out _ a hmem hu wr (Xk.Ext.trans HX.out hxb))
   have HXB := Lib.hid hxb
   have HGET := Lib.hid hget
   clear hr hu he hxb hget
   generalize l[q] = x at *
   go_wp2_with (fail)
   refine HC.out.mono ?_
   rintro e wf ⟨rfl, hx'⟩
   have hxf := Xk.Ext.trans HXB.out hx'
   have hlf := hxf.size
   have HOF := Lib.hid (own_same HO.out (fun b hb => hxf.block b (HO.out.lt b hb).2))
   have HXF := Lib.hid (Xk.Ext.trans HX.out hxf)
   clear hx' hxf
   go_wp2_with (at_builtin; refine Xo.wpList_appb w.heap.size rfl _ _ 35 rfl 9 i0 _ 1 16 Tryz.underlying35 Hi.out Hz0.out Hz1.out Hz2.out rfl (by decide) (.slice ps q cs) q _ rfl (own_same HOF.out (fun b hb => (show Xk.Ext wf (wf.alloc (.cells #[bs (f x)] 9)) from (Below.refl _ _).alloc (Nat.le_refl _) _).block b (HOF.out.lt b hb).2)) wf.heap.size 0 1 1 [bs (f x)] rfl (by decide) rfl (cells_list wf _ _ rfl) (one_all (by kernel_rfl)) (by omega) (by rw [World.size_alloc]; omega) ?_; intro v' w7 ho' hg' hk')
   have hx7 : Xk.Ext w w7 := Below.grown (Xk.Ext.trans HXF.out ((Below.refl _ _).alloc (Nat.le_refl _) _)) hg' (by rw [World.size_alloc]; omega) (fun j hj => (HOF.out.lt j hj).1)
   have HX7 := Lib.hid hx7
   have HO7 : Hid (w7.ownsRow w.heap.size 9 1 v' (q + 1) ((l.take (q + 1)).map fun y => bs (f y))) := Lib.hid (by rw [← take_map_succ HGET.out]; exact ho')
   clear ho' hg' hk' hx7
   go_wp2_with fail
   go_roundw
   case rel => exact ⟨q + 1, by omega, by go_num, HX7.out, HO7.out⟩
   case measure => simp [intOf]; omega
  ·have hlb : ¬ (q : Int) < (l.length : Int) := by omega
   obtain rfl : q = l.length := by omega
   have HJN := Lib.hid (joinOwn (.slice ps l.length cs) w.heap.size (l.map f) wr (by have := HO.out; rw [List.take_length] at this; rw [List.length_map, List.map_map]; exact this) (by rw [List.length_map]; omega) (by have := HJ.out; omega))
   go_wp2_with fail
   refine HJN.out.mono ?_
   rintro e wf ⟨rfl, hx'⟩
   go_wp2_with fail
   go_ret
   exact ⟨rfl, Xk.Ext.trans HX.out hx'⟩
abbrev tabO (l : List Value) : Obj := .cells l.toArray 33
def ET (B : Nat) (o : Obj) (w w' : World) : Prop := w'.os = w.os ∧ w'.tape = w.tape ∧ w'.output = w.output ∧ w.heap.size ≤ w'.heap.size ∧ ∀ b, b < w.heap.size → w'.heap[b]? = w.heap[b]? ∨ (B ≤ b ∧ w'.heap[b]? = some o)
theorem pre_ET (B : Nat) (o : Obj) : Xe.Pre (ET B o) := by
 refine ⟨fun w => ⟨rfl, rfl, rfl, Nat.le_refl _, fun b _ => .inl rfl⟩, ?_, ?_, fun h => h.2.2.2.1⟩
 ·rintro a b c ⟨h1, h2, h3, h4, h5⟩ ⟨g1, g2, g3, g4, g5⟩
  refine ⟨g1.trans h1, g2.trans h2, g3.trans h3, Nat.le_trans h4 g4, fun x hx => ?_⟩
  rcases g5 x (Nat.lt_of_lt_of_le hx h4) with e | e
  ·rw [e]; exact h5 x hx
  ·exact .inr e
 ·intro a b h
  exact ⟨h.os, h.tape, h.output, h.size, fun x hx => .inl (h.block x hx)⟩
theorem ext_et {w w2 W : World} {o : Obj} (h2 : Xk.Ext w w2) (h : ET w2.heap.size o w2.drew W) : Xk.Ext w W :=
 ⟨h.1.trans h2.os, h.2.1.trans h2.tape, h.2.2.1.trans h2.output, Nat.le_trans h2.size (by have := h.2.2.2.1; rwa [World.size_drew] at this), fun b hb => by
  have hs := h2.size
  have := (h.2.2.2.2 b (by rw [World.size_drew]; omega)).resolve_right (fun e => by omega)
  exact this.trans (h2.block b hb)⟩
def tabF (B : Nat) (_ : List Value) (v : Value) (W : World) : Prop := ∃ g c, v = .pointer (some ⟨g, 0, none⟩) ∧ B ≤ g ∧ c.size = 4 ∧ W.heap[g]? = some (.cells c 33)
def tabS (B : Nat) (l : List Value) (ls : List Value) (_ : Value) (W : World) : Prop := ∀ g, ls.head? = some (.pointer (some ⟨g, 0, none⟩)) → B ≤ g → W.heap[g]? = some (tabO l)
theorem tabF.et {B : Nat} {l : List Value} (hl : l.length = 4) : ∀ ls v w w', ET B (tabO l) w w' → tabF B ls v w → tabF B ls v w' := by
 rintro ls v w w' h ⟨g, c, rfl, hg, hc, hw⟩
 rcases h.2.2.2.2 g (Array.getElem?_eq_some_iff.1 hw).1 with e | ⟨-, e⟩
 ·exact ⟨g, c, rfl, hg, hc, e.trans hw⟩
 ·exact ⟨g, l.toArray, rfl, hg, by simpa using hl, e⟩
theorem tabS.et {B : Nat} {l : List Value} : ∀ ls v w w', ET B (tabO l) w w' → tabS B l ls v w → tabS B l ls v w' := by
 intro ls v w w' h hs g hg hb
 have hw := hs g hg hb
 rcases h.2.2.2.2 g (Array.getElem?_eq_some_iff.1 hw).1 with e | ⟨-, e⟩
 ·exact e.trans hw
 ·exact e
theorem store_tab {P : Program} {o : Oper} {a : Act} {B : Nat} {w : World} {φ : Value → World → Prop} (t : TypeId) (x y : Operand) (ho : o.op = .store t x y) (g : Nat) (c c' : Array Value) (T : TypeId) (hx : a.eval x = .pointer (some ⟨g, 0, none⟩)) (hy : a.eval y = .agg c')
  (hg : w.heap[g]? = some (.cells c T)) (hs : c.size = c'.size) (hi : (P.info? t).map (·.size) = some c'.size) (h1 : c'.all (·.oneCell') = true) (hb : B ≤ g) (hφ : ∀ W, W.heap[g]? = some (.cells c' T) → φ undef W) : Xe.makeRun (ET B (.cells c' T)) P o a w none φ := by
 have ht : w.there g 0 c'.size := fun j hj => by
  rw [Nat.zero_add]
  exact ⟨by simp [World.cell?, hg, show j < c.size by omega], frozen_of_row w g j _ _ hg⟩
 have hp := puts_set hg c'.toList 0
 have hw : (w.setCells g 0 c'.toList).heap[g]? = some (.cells c' T) := by simpa using setCells_all hg c'.toList (by simpa using hs.symm)
 unfold Xe.makeRun execOp
 simp only [ho, hx, hy, Instr.storeAt, Instr.sureAddr, Sem.run_bind, Sem.run_pure, Result.andThen_ok, run_storeVar_mid w g 0 t c' ht hi h1]
 refine ⟨⟨hp.os, hp.tape, hp.output, Nat.le_of_eq hp.size.symm, fun b hbb => ?_⟩, hφ _ hw, fun b hb => by cases hb⟩
 by_cases hbg : b = g
 ·subst hbg; exact .inr ⟨hb, hw⟩
 ·exact .inl (hp.rest b hbg)
theorem stmt_cells {kind lim : Int} {tn nm on : P12.T} {un : Bool} {p1 p2 p3 p4 p5 p6 p7 p8 p9 p10 p11 : Option Addr} {n1 n2 n3 n4 n5 n6 n7 n8 n9 n10 n11 c1 c2 c3 c4 c5 c6 c7 c8 c9 c10 c11 : Nat}
  {k1 o1 vk1 vi1 : Int} {vs1 tb1 nm1 : P12.T} {q1 : Option Addr} {m1 d1 : Nat} {k2 o2 vk2 vi2 : Int} {vs2 tb2 nm2 : P12.T} {q2 : Option Addr} {m2 d2 : Nat} {W : World} {g : Nat}
  (h : W.heap[g]? = some (stmtO (stmtL kind tn (.slice p1 n1 c1) (.slice p2 n2 c2) (.slice p3 n3 c3) (.slice p4 n4 c4) nm on un (.slice p5 n5 c5) (.slice p6 n6 c6) (.slice p7 n7 c7) (exprL k1 o1 vk1 vi1 vs1 tb1 nm1 (.slice q1 m1 d1)) (.slice p8 n8 c8) (.slice p9 n9 c9) (exprL k2 o2 vk2 vi2 vs2 tb2 nm2 (.slice q2 m2 d2)) (.slice p10 n10 c10) (.slice p11 n11 c11) lim))) :
  g < W.heap.size ∧ W.cell? ⟨g, 1, none⟩ = some (bs tn) ∧ W.cell? ⟨g, 2, none⟩ = some ((.slice p1 n1 c1)) ∧ W.cell? ⟨g, 3, none⟩ = some ((.slice p2 n2 c2)) ∧ W.cell? ⟨g, 4, none⟩ = some ((.slice p3 n3 c3)) ∧ W.cell? ⟨g, 5, none⟩ = some ((.slice p4 n4 c4)) ∧ W.cell? ⟨g, 6, none⟩ = some (bs nm) ∧ W.cell? ⟨g, 7, none⟩ = some (bs on) ∧ W.cell? ⟨g, 8, none⟩ = some (.bool un) ∧ W.cell? ⟨g, 9, none⟩ = some ((.slice p5 n5 c5)) ∧ W.cell? ⟨g, 10, none⟩ = some ((.slice p6 n6 c6)) ∧ W.cell? ⟨g, 11, none⟩ = some ((.slice p7 n7 c7)) ∧ W.cell? ⟨g, 12, none⟩ = some (.int .i64 k1) ∧ W.cell? ⟨g, 13, none⟩ = some (.int .i64 o1) ∧ W.cell? ⟨g, 14, none⟩ = some (.int .i64 vk1) ∧ W.cell? ⟨g, 15, none⟩ = some (.int .i64 vi1) ∧ W.cell? ⟨g, 16, none⟩ = some (bs vs1) ∧ W.cell? ⟨g, 17, none⟩ = some (bs tb1) ∧ W.cell? ⟨g, 18, none⟩ = some (bs nm1) ∧ W.cell? ⟨g, 19, none⟩ = some (.int .i64 0) ∧ W.cell? ⟨g, 20, none⟩ = some (.int .i64 0) ∧ W.cell? ⟨g, 21, none⟩ = some (.slice q1 m1 d1) ∧ W.cell? ⟨g, 22, none⟩ = some ((.slice p8 n8 c8)) ∧ W.cell? ⟨g, 23, none⟩ = some ((.slice p9 n9 c9)) ∧ W.cell? ⟨g, 24, none⟩ = some (.int .i64 k2) ∧ W.cell? ⟨g, 25, none⟩ = some (.int .i64 o2) ∧ W.cell? ⟨g, 26, none⟩ = some (.int .i64 vk2) ∧ W.cell? ⟨g, 27, none⟩ = some (.int .i64 vi2) ∧ W.cell? ⟨g, 28, none⟩ = some (bs vs2) ∧ W.cell? ⟨g, 29, none⟩ = some (bs tb2) ∧ W.cell? ⟨g, 30, none⟩ = some (bs nm2) ∧ W.cell? ⟨g, 31, none⟩ = some (.int .i64 0) ∧ W.cell? ⟨g, 32, none⟩ = some (.int .i64 0) ∧ W.cell? ⟨g, 33, none⟩ = some (.slice q2 m2 d2) ∧ W.cell? ⟨g, 34, none⟩ = some ((.slice p10 n10 c10)) ∧ W.cell? ⟨g, 35, none⟩ = some ((.slice p11 n11 c11)) ∧ W.cell? ⟨g, 36, none⟩ = some (.int .i64 lim) := by
 refine ⟨(Array.getElem?_eq_some_iff.1 h).1, ?_, ?_, ?_, ?_, ?_, ?_, ?_, ?_, ?_, ?_, ?_, ?_, ?_, ?_, ?_, ?_, ?_, ?_, ?_, ?_, ?_, ?_, ?_, ?_, ?_, ?_, ?_, ?_, ?_, ?_, ?_, ?_, ?_, ?_, ?_, ?_⟩ <;> simp [World.cell?, h]
theorem tab_cells {tn : P12.T} {p1 p2 p3 : Option Addr} {n1 n2 n3 c1 c2 c3 : Nat} {W : World} {g : Nat} (h : W.heap[g]? = some (tabO [bs tn, .slice p1 n1 c1, .slice p2 n2 c2, .slice p3 n3 c3])) :
  g < W.heap.size ∧ W.cell? ⟨g, 0, none⟩ = some (bs tn) ∧ W.cell? ⟨g, 1, none⟩ = some (.slice p1 n1 c1) ∧ W.cell? ⟨g, 2, none⟩ = some (.slice p2 n2 c2) ∧ W.cell? ⟨g, 3, none⟩ = some (.slice p3 n3 c3) := by
 refine ⟨(Array.getElem?_eq_some_iff.1 h).1, ?_, ?_, ?_, ?_⟩ <;> simp [World.cell?, h]
theorem same_self (kind lim : Int) (tn nm on : P12.T) (un : Bool) (p1 p2 p3 p4 p5 p6 p7 p8 p9 p10 p11 : Option Addr) (n1 n2 n3 n4 n5 n6 n7 n8 n9 n10 n11 c1 c2 c3 c4 c5 c6 c7 c8 c9 c10 c11 : Nat)
  (k1 o1 vk1 vi1 : Int) (vs1 tb1 nm1 : P12.T) (q1 : Option Addr) (m1 d1 : Nat) (k2 o2 vk2 vi2 : Int) (vs2 tb2 nm2 : P12.T) (q2 : Option Addr) (m2 d2 : Nat) (b1 b2 : Bool) (l : List Value)
  (hl : l = stmtL kind tn (.slice p1 n1 c1) (.slice p2 n2 c2) (.slice p3 n3 c3) (.slice p4 n4 c4) nm on un (.slice p5 n5 c5) (.slice p6 n6 c6) (.slice p7 n7 c7) (exprL k1 o1 vk1 vi1 vs1 tb1 nm1 (.slice q1 m1 d1)) (.slice p8 n8 c8) (.slice p9 n9 c9) (exprL k2 o2 vk2 vi2 vs2 tb2 nm2 (.slice q2 m2 d2)) (.slice p10 n10 c10) (.slice p11 n11 c11) lim)
  (hB1 : ∀ W, Calls Tryz.prog 39 #[.agg (exprL k1 o1 vk1 vi1 vs1 tb1 nm1 (.slice q1 m1 d1)).toArray] W fun e w' => e = .returned (.bool b1) ∧ Xk.Ext W w')
  (hB2 : ∀ W, Calls Tryz.prog 39 #[.agg (exprL k2 o2 vk2 vi2 vs2 tb2 nm2 (.slice q2 m2 d2)).toArray] W fun e w' => e = .returned (.bool b2) ∧ Xk.Ext W w')
  (w : World) : Calls Tryz.prog 13 #[.agg l.toArray, .agg l.toArray] w fun e w' => e = .returned (.bool true) ∧ Xk.Ext w w' := by
 subst hl
 have HB1 := Lib.hid hB1
 have HB2 := Lib.hid hB2
 clear hB1 hB2
 go_enter Tryz.func13, Tryz.ntmps13
 obtain ⟨lv, hlv⟩ : ∃ lv, lv = stmtL kind tn (.slice p1 n1 c1) (.slice p2 n2 c2) (.slice p3 n3 c3) (.slice p4 n4 c4) nm on un (.slice p5 n5 c5) (.slice p6 n6 c6) (.slice p7 n7 c7) (exprL k1 o1 vk1 vi1 vs1 tb1 nm1 (.slice q1 m1 d1)) (.slice p8 n8 c8) (.slice p9 n9 c9) (exprL k2 o2 vk2 vi2 vs2 tb2 nm2 (.slice q2 m2 d2)) (.slice p10 n10 c10) (.slice p11 n11 c11) lim := ⟨_, rfl⟩
 have hg1 : ((w.alloc (stmtO lv)).alloc (stmtO lv)).heap[w.heap.size]? = some (stmtO lv) := (((Below.refl _ _).alloc (Nat.le_refl _) _ : Xk.Ext (w.alloc (stmtO lv)) _).block _ (by rw [World.size_alloc]; omega)).trans (heap_new w _)
 have hg2 : ((w.alloc (stmtO lv)).alloc (stmtO lv)).heap[w.heap.size + 1]? = some (stmtO lv) := by
  have := heap_new (w.alloc (stmtO lv)) (stmtO lv)
  rwa [World.size_alloc] at this
 have hsz : ((w.alloc (stmtO lv)).alloc (stmtO lv)).heap.size = w.heap.size + 2 := by simp
 rw [← hlv]
 have HLV := Lib.hid hlv
 clear hlv
 go_wp2_with fail
 have hx2 : Xk.Ext w ((w.alloc (stmtO lv)).alloc (stmtO lv)) := ((Below.refl _ _).alloc (Nat.le_refl _) _).alloc (by rw [World.size_alloc]; omega) _
 generalize (w.alloc (stmtO lv)).alloc (stmtO lv) = w2 at *
 obtain ⟨tl, htl⟩ : ∃ tl : List Value, tl = [bs tn, .slice p1 n1 c1, .slice p2 n2 c2, .slice p3 n3 c3] := ⟨_, rfl⟩
 have hlv := HLV.out
 have hcl : ∀ g W, (W : World).heap[g]? = some (stmtO lv) → W.cell? ⟨g, 1, none⟩ = some (bs tn) ∧ W.cell? ⟨g, 2, none⟩ = some (.slice p1 n1 c1) ∧ W.cell? ⟨g, 3, none⟩ = some (.slice p2 n2 c2) ∧ W.cell? ⟨g, 4, none⟩ = some (.slice p3 n3 c3) ∧ W.cell? ⟨g, 5, none⟩ = some (.slice p4 n4 c4) := fun g W h => by
  rw [hlv] at h
  refine ⟨?_, ?_, ?_, ?_, ?_⟩ <;> simp [World.cell?, h]
 clear hlv
 refine Xd.wp_region_rel (E := ET w2.heap.size (tabO tl)) (pre_ET _ _) 8 (fun _ => none) (fun _ _ h => by cases h) (fun _ _ _ _ h => by cases h) [(4, tabF w2.heap.size), (5, tabF w2.heap.size), (6, tabS w2.heap.size tl), (7, tabS w2.heap.size tl)] (by kernel_rfl) (by kernel_rfl) (Xd.stable_all ?_) ?_
 ·intro y hy
  simp only [List.mem_cons, List.not_mem_nil, or_false] at hy
  rcases hy with rfl | rfl | rfl | rfl
  ·exact tabF.et (by rw [htl]; rfl)
  ·exact tabF.et (by rw [htl]; rfl)
  ·exact tabS.et
  ·exact tabS.et
 simp only [List.take_succ_cons, List.take_zero, List.drop_succ_cons, List.drop_zero]
 (refine Xs.d ?_)
 (refine Xd.rel_det (pre_ET _ _) (Xk.wanted_none (by rfl)) (by rfl) (fun K hK => ?_); apply Exists.intro; refine ⟨fun W hx hp => ?_, ?_⟩; ((have hb := ((hx.2.2.2.2 w.heap.size (by have := hsz; simp; omega)).resolve_right (fun h => by have := h.1; omega)).trans hg1; obtain ⟨k1, k2, k3, k4, k5⟩ := hcl _ _ hb); go_simp; first | exact ⟨rfl, rfl⟩ | ((try refine ⟨by kernel_rfl, ?_⟩); (fail))); (go_simp; refine hK _ ?_; clear hK K))
 (refine Xs.d ?_)
 (refine Xd.rel_det (pre_ET _ _) (Xk.wanted_none (by rfl)) (by rfl) (fun K hK => ?_); apply Exists.intro; refine ⟨fun W hx hp => ?_, ?_⟩; ((have hb := ((hx.2.2.2.2 (w.heap.size + 1) (by have := hsz; simp; omega)).resolve_right (fun h => by have := h.1; omega)).trans hg2; obtain ⟨k1, k2, k3, k4, k5⟩ := hcl _ _ hb); go_simp; first | exact ⟨rfl, rfl⟩ | ((try refine ⟨by kernel_rfl, ?_⟩); (fail))); (go_simp; refine hK _ ?_; clear hK K))
 (refine Xd.rel_make (pre_ET _ _) (by rfl) (by rfl) (fun W hx hp => ?_) (fun u5 K hK => ?_); ((go_simp; exact ⟨(pre_ET _ _).ext ((Below.refl _ _).alloc (Nat.le_refl _) _), ⟨W.heap.size, _, rfl, by have h1 := hx.2.2.2.1; rw [World.size_drew] at h1; have h2 := hsz; omega, rfl, heap_new W _⟩, fun b hb => by cases hb⟩)); (go_simp; refine hK _ ?_; clear hK K))
 (refine Xd.rel_make (pre_ET _ _) (by rfl) (by rfl) (fun W hx hp => ?_) (fun u6 K hK => ?_); ((go_simp; exact ⟨(pre_ET _ _).ext ((Below.refl _ _).alloc (Nat.le_refl _) _), ⟨W.heap.size, _, rfl, by have h1 := hx.2.2.2.1; rw [World.size_drew] at h1; have h2 := hsz; omega, rfl, heap_new W _⟩, fun b hb => by cases hb⟩)); (go_simp; refine hK _ ?_; clear hK K))
 (refine Xd.rel_make (pre_ET _ _) (by rfl) (by rfl) (fun W hx hp => ?_) (fun u7 K hK => ?_); ((obtain ⟨g, c, rfl, hg, hc, hw⟩ := Xd.facts_head (Xe.facts_tail hp) (by kernel_rfl); rw [htl] at hx ⊢; exact store_tab _ _ _ rfl g c _ _ rfl rfl hw hc (by kernel_rfl) (by kernel_rfl) hg (fun W hW g' hg' _ => by cases hg'; exact hW))); (go_simp; refine hK _ ?_; clear hK K))
 (refine Xd.rel_make (pre_ET _ _) (by rfl) (by rfl) (fun W hx hp => ?_) (fun u8 K hK => ?_); ((obtain ⟨g, c, rfl, hg, hc, hw⟩ := Xd.facts_head (Xe.facts_tail hp) (by kernel_rfl); rw [htl] at hx ⊢; exact store_tab _ _ _ rfl g c _ _ rfl rfl hw hc (by kernel_rfl) (by kernel_rfl) hg (fun W hW g' hg' _ => by cases hg'; exact hW))); (go_simp; refine hK _ ?_; clear hK K))
 refine Xd.rel_nil (fun W hx hp hG => ?_)
 obtain ⟨h8, h7, h6, h5, -⟩ := hp
 obtain ⟨g6, c6', rfl, hg6, -, -⟩ := h6
 obtain ⟨g5, c5', rfl, hg5, -, -⟩ := h5
 have hT5 := h7 g5 rfl hg5
 have hT6 := h8 g6 rfl hg6
 clear h7 h8 hG
 have hs1 := ((hx.2.2.2.2 w.heap.size (by have := hsz; simp; omega)).resolve_right (fun h => by have := h.1; omega)).trans hg1
 have hs2 := ((hx.2.2.2.2 (w.heap.size + 1) (by have := hsz; simp; omega)).resolve_right (fun h => by have := h.1; omega)).trans hg2
 have hxW := Lib.hid (ext_et hx2 hx)
 rw [HLV.out] at hs1 hs2
 rw [htl] at hT5 hT6
 obtain ⟨ha0, x1, x2, x3, x4, x5, x6, x7, x8, x9, x10, x11, x12, x13, x14, x15, x16, x17, x18, x19, x20, x21, x22, x23, x24, x25, x26, x27, x28, x29, x30, x31, x32, x33, x34, x35, x36⟩ := stmt_cells hs1
 obtain ⟨hb0, y1, y2, y3, y4, y5, y6, y7, y8, y9, y10, y11, y12, y13, y14, y15, y16, y17, y18, y19, y20, y21, y22, y23, y24, y25, y26, y27, y28, y29, y30, y31, y32, y33, y34, y35, y36⟩ := stmt_cells hs2
 obtain ⟨hc0, u0, u1, u2, u3⟩ := tab_cells hT5
 obtain ⟨hd0, v0, v1, v2, v3⟩ := tab_cells hT6
 clear hs1 hs2 hT5 hT6 hcl htl hx hg1 hg2 hg5 hg6 hsz hx2
 go_wp2_with fail
 simp only [List.append_eq, List.cons_append, List.nil_append]
 refine Xk.reg 151 (Xk.w2 HB1.out HB2.out fun p => ?_)
 go_wp2_with fail
 go_ret
 exact ⟨rfl, preExt.trans hxW.out (Xk.xt : Xk.Ext W _)⟩
def EC (g : Nat) (T : TypeId) (L : Array Value) (w w' : World) : Prop := w'.os = w.os ∧ w'.tape = w.tape ∧ w'.output = w.output ∧ w.heap.size ≤ w'.heap.size ∧
 ∀ b, b < w.heap.size → w'.heap[b]? = w.heap[b]? ∨ (b = g ∧ ∃ c c', w.heap[b]? = some (.cells c T) ∧ w'.heap[b]? = some (.cells c' T) ∧ c'.size = c.size ∧ ∀ j : Nat, c'[j]? = c[j]? ∨ c'[j]? = L[j]?)
theorem pre_EC (g : Nat) (T : TypeId) (L : Array Value) : Xe.Pre (EC g T L) := by
 refine ⟨fun w => ⟨rfl, rfl, rfl, Nat.le_refl _, fun b _ => .inl rfl⟩, ?_, ?_, fun h => h.2.2.2.1⟩
 ·rintro a b c ⟨h1, h2, h3, h4, h5⟩ ⟨g1, g2, g3, g4, g5⟩
  refine ⟨g1.trans h1, g2.trans h2, g3.trans h3, Nat.le_trans h4 g4, fun x hx => ?_⟩
  rcases g5 x (Nat.lt_of_lt_of_le hx h4) with e | ⟨hb, c1, c2, e1, e2, e3, e4⟩
  ·rw [e]; exact h5 x hx
  ·rcases h5 x hx with f | ⟨-, d1, d2, f1, f2, f3, f4⟩
   ·exact .inr ⟨hb, c1, c2, by rw [← f]; exact e1, e2, e3, e4⟩
   ·rw [f2] at e1
    cases e1
    refine .inr ⟨hb, d1, c2, f1, e2, e3.trans f3, fun j => ?_⟩
    rcases e4 j with e | e
    ·rw [e]; exact f4 j
    ·exact .inr e
 ·intro a b h
  exact ⟨h.os, h.tape, h.output, h.size, fun x hx => .inl (h.block x hx)⟩
def CellsAt (g : Nat) (T : TypeId) (L : Array Value) (o k : Nat) (_ : Value) (W : World) : Prop := ∃ c, W.heap[g]? = some (.cells c T) ∧ ∀ j : Nat, o ≤ j → j < o + k → c[j]? = L[j]?
theorem CellsAt.ec {g : Nat} {T : TypeId} {L : Array Value} {o k : Nat} : ∀ v w w', EC g T L w w' → CellsAt g T L o k v w → CellsAt g T L o k v w' := by
 rintro v w w' h ⟨c, hc, hj⟩
 rcases h.2.2.2.2 g (Array.getElem?_eq_some_iff.1 hc).1 with e | ⟨-, c1, c2, e1, e2, -, e4⟩
 ·exact ⟨c, e.trans hc, hj⟩
 ·rw [hc] at e1
  cases e1
  refine ⟨c2, e2, fun j h1 h2 => ?_⟩
  rcases e4 j with e | e
  ·rw [e]; exact hj j h1 h2
  ·exact e
theorem ec_row {g : Nat} {T : TypeId} {L : Array Value} {w w' : World} (h : EC g T L w w') {c : Array Value} (hc : w.heap[g]? = some (.cells c T)) : ∃ c', w'.heap[g]? = some (.cells c' T) ∧ c'.size = c.size ∧ ∀ j : Nat, c'[j]? = c[j]? ∨ c'[j]? = L[j]? := by
 rcases h.2.2.2.2 g (Array.getElem?_eq_some_iff.1 hc).1 with e | ⟨-, c1, c2, e1, e2, e3, e4⟩
 ·exact ⟨c, e.trans hc, rfl, fun j => .inl rfl⟩
 ·rw [hc] at e1
  cases e1
  exact ⟨c2, e2, e3, e4⟩
theorem ec_off {g : Nat} {T : TypeId} {L : Array Value} {w w' : World} (h : EC g T L w w') {b : Nat} (hb : b < w.heap.size) (hn : b ≠ g) : w'.heap[b]? = w.heap[b]? := (h.2.2.2.2 b hb).resolve_right fun e => hn e.1
theorem ec_set {g : Nat} {T : TypeId} {L : Array Value} {W : World} {c : Array Value} (hg : W.heap[g]? = some (.cells c T)) (vs : List Value) (o : Nat) (hs : o + vs.length ≤ c.size) (hL : ∀ j : Nat, j < vs.length → L[o + j]? = vs[j]?) :
  EC g T L W (W.setCells g o vs) ∧ ∀ v, CellsAt g T L o vs.length v (W.setCells g o vs) := by
 obtain ⟨c', e1, e2, e3, e4⟩ := setCells_same vs o W c hg hs
 obtain ⟨h1, h2, h3⟩ := setCells_os g vs o W
 refine ⟨⟨h1, h2, h3, Nat.le_of_eq (setCells_size g vs o W).symm, fun b hb => ?_⟩, fun v => ⟨c', e1, fun j h1 h2 => ?_⟩⟩
 ·by_cases hbg : b = g
  ·subst hbg
   refine .inr ⟨rfl, c, c', hg, e1, e2, fun j => ?_⟩
   by_cases hj : o ≤ j ∧ j < o + vs.length
   ·have := e3 (j - o) (by omega)
    rw [show o + (j - o) = j by omega] at this
    have hl := hL (j - o) (by omega)
    rw [show o + (j - o) = j by omega] at hl
    exact .inr (this.trans hl.symm)
   ·exact .inl (e4 j (by omega))
  ·exact .inl (setCells_other g vs o W hbg)
 ·have := e3 (j - o) (by omega)
  rw [show o + (j - o) = j by omega] at this
  have hl := hL (j - o) (by omega)
  rw [show o + (j - o) = j by omega] at hl
  exact this.trans hl.symm
theorem store_cell {g : Nat} {T : TypeId} {L : Array Value} {W : World} {c : Array Value} {o : Nat} {v : Value} (hg : W.heap[g]? = some (.cells c T)) (hs : o < c.size) (hL : L[o]? = some v) :
  Xe.newPost (EC g T L) W none (CellsAt g T L o 1) undef (W.setCell ⟨g, o, none⟩ v) := by
 obtain ⟨h1, h2⟩ := ec_set (L := L) hg [v] o (by simp; omega) (fun j hj => by
  have : j = 0 := by simpa using hj
  subst this
  simpa using hL)
 exact ⟨h1, h2 _, fun b hb => by cases hb⟩
theorem store_cells {P : Program} {o : Oper} {a : Act} {g : Nat} {T : TypeId} {L : Array Value} {w : World} (t : TypeId) (x y : Operand) (ho : o.op = .store t x y) (off : Nat) (c c' : Array Value) (hx : a.eval x = .pointer (some ⟨g, off, none⟩)) (hy : a.eval y = .agg c')
  (hg : w.heap[g]? = some (.cells c T)) (hs : off + c'.size ≤ c.size) (hi : (P.info? t).map (·.size) = some c'.size) (h1 : c'.all (·.oneCell') = true) (hL : ∀ j : Nat, j < c'.size → L[off + j]? = c'[j]?) : Xe.makeRun (EC g T L) P o a w none (CellsAt g T L off c'.size) := by
 have ht : w.there g off c'.size := fun j hj => ⟨by simp [World.cell?, hg, show off + j < c.size by omega], frozen_of_row w g (off + j) _ _ hg⟩
 obtain ⟨e1, e2⟩ := ec_set (L := L) hg c'.toList off (by simpa using hs) (fun j hj => by simpa using hL j (by simpa using hj))
 unfold Xe.makeRun execOp
 simp only [ho, hx, hy, Instr.storeAt, Instr.sureAddr, Sem.run_bind, Sem.run_pure, Result.andThen_ok, run_storeVar_mid w g off t c' ht hi h1]
 exact ⟨e1, by simpa using e2 undef, fun b hb => by cases hb⟩
theorem wpList_built {P : Program} {ops : Array Oper} {rest : List Oper} {o : Oper} {a : Act} {w : World} {Q : Exit → Act → World → Prop} (hgd : o.guard = none) (t : TypeId) (x : Operand) (ho : o.op = .build t #[(0, x)])
  (u v : Value) (hx : a.eval x = u) (hb : (Instr.build t #[(0, u)]).run P w = .ok v w)
  (h : wpList P ops Q rest (a.put o.dst v) w) : wpList P ops Q (o :: rest) a w :=
 wpList_plain hgd fun _ hK => by
  unfold Oper.wp execOp
  simp only [ho, List.map_toArray, List.map_cons, List.map_nil, hx, Sem.run_bind, Sem.run_pure, hb, Result.andThen_ok]
  exact hK _ _ h
structure KI (w : World) (l : List Value) (g1 g2 g3 : Nat) (s : List Nat) (W : World) : Prop where
 x : Xk.Ext w W
 g : w.heap.size ≤ g1 ∧ g1 < g2 ∧ g2 < g3 ∧ g3 < W.heap.size
 len : l.length = 37
 b1 : W.heap[g1]? = some (stmtO l)
 b2 : ∃ c : List Value, W.heap[g2]? = some (stmtO c) ∧ c.length = 37
 b3 : ∃ c : List Value, W.heap[g3]? = some (stmtO c) ∧ c.length = 37 ∧ ∀ j ∈ s, c[j]? = l[j]?
theorem KI.cell {w W : World} {l : List Value} {g1 g2 g3 : Nat} {s : List Nat} (h : KI w l g1 g2 g3 s W) {j : Nat} {v : Value} (hv : l[j]? = some v) : W.cell? ⟨g1, j, none⟩ = some v := by
 simp [World.cell?, h.b1, hv]
theorem KI.cell3 {w W : World} {l : List Value} {g1 g2 g3 : Nat} {s : List Nat} (h : KI w l g1 g2 g3 s W) {j : Nat} (hj : j < 37) : (∃ v, W.cell? ⟨g3, j, none⟩ = some v) ∧ W.frozen? ⟨g3, j, none⟩ = false := by
 obtain ⟨c, h1, h2, -⟩ := h.b3
 exact ⟨⟨c[j], by simp [World.cell?, h1, show j < c.length by omega]⟩, frozen_of_row W g3 j _ _ h1⟩
theorem KI.lt1 {w W : World} {l : List Value} {g1 g2 g3 : Nat} {s : List Nat} (h : KI w l g1 g2 g3 s W) : g1 < W.heap.size := (Array.getElem?_eq_some_iff.1 h.b1).1
theorem KI.ec {w W W' : World} {l : List Value} {g1 g2 g3 : Nat} {s : List Nat} (h : KI w l g1 g2 g3 s W) (he : EC g3 46 l.toArray W.drew W') : KI w l g1 g2 g3 s W' := by
 obtain ⟨k1, k2, k3, k4⟩ := h.g
 have hs : W.heap.size ≤ W'.heap.size := by have := he.2.2.2.1; rwa [World.size_drew] at this
 have hoff : ∀ b, b < W.heap.size → b ≠ g3 → W'.heap[b]? = W.heap[b]? := fun b hb hn => ec_off he (by rwa [World.size_drew]) hn
 have hxs := h.x.size
 refine ⟨⟨he.1.trans h.x.os, he.2.1.trans h.x.tape, he.2.2.1.trans h.x.output, Nat.le_trans h.x.size hs, fun b hb => (hoff b (by omega) (by omega)).trans (h.x.block b hb)⟩, ⟨k1, k2, k3, by omega⟩, h.len, (hoff g1 (by omega) (by omega)).trans h.b1, ?_, ?_⟩
 ·obtain ⟨c, e, hc⟩ := h.b2
  exact ⟨c, (hoff g2 (by omega) (by omega)).trans e, hc⟩
 ·obtain ⟨c, e, hc, hj⟩ := h.b3
  obtain ⟨c', e', hc', hj'⟩ := ec_row he (w := W.drew) e
  refine ⟨c'.toList, by simpa using e', by simpa [hc] using hc', fun j hjs => ?_⟩
  have hL : l.toArray[j]? = l[j]? := by simp
  rcases hj' j with q | q
  ·rw [Array.getElem?_toList, q]; simpa using hj j hjs
  ·rw [Array.getElem?_toList, q, hL]
theorem KI.more {w W : World} {l : List Value} {g1 g2 g3 : Nat} {s : List Nat} {o k : Nat} (h : KI w l g1 g2 g3 s W) (hc : CellsAt g3 46 l.toArray o k undef W) : KI w l g1 g2 g3 (List.range' o k ++ s) W := by
 refine ⟨h.x, h.g, h.len, h.b1, h.b2, ?_⟩
 obtain ⟨c, e, hl, hj⟩ := h.b3
 obtain ⟨c', e', hj'⟩ := hc
 rw [e] at e'
 cases e'
 refine ⟨c, e, hl, fun j hjs => ?_⟩
 rcases List.mem_append.1 hjs with q | q
 ·have := List.mem_range'_1.1 q
  simpa using hj' j this.1 (by omega)
 ·exact hj j q
theorem KI.puts {w W W' : World} {l c : List Value} {g1 g2 g3 : Nat} {s : List Nat} (h : KI w l g1 g2 g3 s W) (hb : W.heap[g3]? = some (stmtO c)) (vs : List Value) (o : Nat) (hp : Puts g3 (writeAt c.toArray o vs) 46 W W') (hv : ∀ (j : Nat) v, vs[j]? = some v → l[o + j]? = some v) : KI w l g1 g2 g3 (List.range' o vs.length ++ s) W' := by
 obtain ⟨k1, k2, k3, k4⟩ := h.g
 obtain ⟨c1, e, hl, hj⟩ := h.b3
 obtain rfl : c1 = c := by
  rw [e] at hb
  simpa using hb
 have hs := hp.size
 have hxs := h.x.size
 have hvl : vs ≠ [] → o + vs.length ≤ 37 := fun hne => by
  have hpos : 0 < vs.length := List.length_pos_iff.2 hne
  have := hv (vs.length - 1) vs[vs.length - 1] (by simp)
  have := (List.getElem?_eq_some_iff.1 this).1
  have := h.len
  omega
 refine ⟨⟨hp.os.trans h.x.os, hp.tape.trans h.x.tape, hp.output.trans h.x.output, by omega, fun b hb => (hp.rest b (by omega)).trans (h.x.block b hb)⟩, ⟨k1, k2, k3, by omega⟩, h.len, (hp.rest g1 (by omega)).trans h.b1, ?_, ?_⟩
 ·obtain ⟨c2, e2, hc2⟩ := h.b2
  exact ⟨c2, (hp.rest g2 (by omega)).trans e2, hc2⟩
 ·by_cases hne : vs = []
  ·subst hne
   exact ⟨c1, by simpa [writeAt] using hp.blk, hl, fun j hjs => hj j (by simpa using hjs)⟩
  ·have hle := hvl hne
   obtain ⟨c', e1, e2, e3, e4⟩ := setCells_same (T := 46) vs o W c1.toArray e (by simpa [hl] using hle)
   have ew := (setCells_write vs o e).symm.trans e1
   have ew2 : c' = writeAt c1.toArray o vs := by
    have := Option.some.inj ew
    injection this with h1
    exact h1.symm
   refine ⟨c'.toList, by rw [ew2]; simpa using hp.blk, by simpa [hl] using e2, fun j hjs => ?_⟩
   by_cases hj2 : o ≤ j ∧ j < o + vs.length
   ·have q := e3 (j - o) (by omega)
    rw [show o + (j - o) = j by omega] at q
    have q2 := hv (j - o) vs[j - o]! (by rw [List.getElem?_eq_getElem (by omega)]; simp [show j - o < vs.length by omega])
    rw [show o + (j - o) = j by omega] at q2
    rw [Array.getElem?_toList, q, q2, List.getElem?_eq_getElem (by omega)]
    simp [show j - o < vs.length by omega]
   ·have q := e4 j (by omega)
    rw [Array.getElem?_toList, q]
    rcases List.mem_append.1 hjs with q | q
    ·have := List.mem_range'_1.1 q; omega
    ·simpa using hj j q
theorem KI.set {w W : World} {l : List Value} {g1 g2 g3 : Nat} {s : List Nat} (h : KI w l g1 g2 g3 s W) (o : Nat) (v : Value) (hv : l[o]? = some v) : KI w l g1 g2 g3 (o :: s) (W.setCell ⟨g3, o, none⟩ v) := by
 obtain ⟨c, e, hl, hj⟩ := h.b3
 have := h.puts e [v] o (puts_set e [v] o) (fun j u hu => by
  have : j = 0 := by have := (List.getElem?_eq_some_iff.1 hu).1; simp at this; omega
  subst this
  simp at hu
  subst hu
  exact hv)
 exact this
theorem KI.done {w W : World} {l : List Value} {g1 g2 g3 : Nat} {s : List Nat} (h : KI w l g1 g2 g3 s W) (hs : ∀ j, j < 37 → j ∈ s) : W.heap[g3]? = some (stmtO l) := by
 obtain ⟨c, e, hl, hj⟩ := h.b3
 rw [e]
 have : c = l := List.ext_getElem? fun j => by
  by_cases hjl : j < 37
  ·exact hj j (hs j hjl)
  ·rw [List.getElem?_eq_none (by omega), List.getElem?_eq_none (by have := h.len; omega)]
 rw [this]
theorem stable_ec {g : Nat} {T : TypeId} {L : Array Value} {Ψ : List (Nat × (Value → World → Prop))} (h : ∀ x ∈ Ψ, ∀ v w w', EC g T L w w' → x.2 v w → x.2 v w') : ∀ i φ, Xk.tells Ψ i = some φ → ∀ v w w', EC g T L w w' → φ v w → φ v w' := by
 intro i φ ht
 induction Ψ with
 | nil => cases ht
 | cons x r ih =>
  unfold Xk.tells at ht
  split at ht
  ·cases ht; exact h x (List.mem_cons_self ..)
  ·exact ih (fun y hy => h y (List.mem_cons_of_mem _ hy)) ht
theorem cellsAt_ec {g : Nat} {T : TypeId} {L : Array Value} {Ψ : List (Nat × (Value → World → Prop))} (h : ∀ x ∈ Ψ, ∃ o k, x.2 = CellsAt g T L o k) : ∀ i φ, Xk.tells Ψ i = some φ → ∀ v w w', EC g T L w w' → φ v w → φ v w' :=
 stable_ec fun x hx => by
  obtain ⟨o, k, e⟩ := h x hx
  rw [e]
  exact CellsAt.ec
theorem KI.start {w W W3 : World} {l z c0 : List Value} (hl : l.length = 37) {s : List Nat} (hW : W = (w.alloc (stmtO l)).alloc (stmtO zero37)) (hp : Puts W.heap.size z.toArray 46 (W.alloc (stmtO c0)) W3) (hz : z.length = 37) (hs : ∀ j ∈ s, z[j]? = l[j]?) :
  KI w l w.heap.size (w.heap.size + 1) W.heap.size s W3 := by
 have hsz : W.heap.size = w.heap.size + 2 := by rw [hW, World.size_alloc, World.size_alloc]
 have hx : Xk.Ext w W := by rw [hW]; exact ((Below.refl _ _).alloc (Nat.le_refl _) _).alloc (by rw [World.size_alloc]; omega) _
 have hx2 : Xk.Ext W (W.alloc (stmtO c0)) := (Below.refl _ _).alloc (Nat.le_refl _) _
 have h1 : W.heap[w.heap.size]? = some (stmtO l) := by
  rw [hW]
  exact (((Below.refl _ _).alloc (Nat.le_refl _) _ : Xk.Ext (w.alloc (stmtO l)) _).block _ (by rw [World.size_alloc]; omega)).trans (heap_new w _)
 have h2 : W.heap[w.heap.size + 1]? = some (stmtO zero37) := by
  rw [hW]
  have := heap_new (w.alloc (stmtO l)) (stmtO zero37)
  rwa [World.size_alloc] at this
 have hs3 := hp.size
 rw [World.size_alloc] at hs3
 refine ⟨puts_ext hp (Xk.Ext.trans hx hx2) (by omega), ⟨Nat.le_refl _, by omega, by omega, by omega⟩, hl, (hp.rest _ (by omega)).trans ((hx2.block _ (by omega)).trans h1), ⟨zero37, (hp.rest _ (by omega)).trans ((hx2.block _ (by omega)).trans h2), rfl⟩, ⟨z, hp.blk, hz, hs⟩⟩
theorem kept_tab (kind : Int) (hkd : kind = 1) (tn : P12.T) (p1 p2 p3 p4 : Option Addr) (n1 n2 n3 n4 c1 c2 c3 c4 : Nat) (l : List Value) (hl : l = stmtL kind tn (.slice p1 n1 c1) (.slice p2 n2 c2) (.slice p3 n3 c3) (.slice p4 n4 c4) [] [] false nilS nilS nilS noE nilS nilS noE nilS nilS 0) (w : World) :
    Calls Tryz.prog 14 #[.agg l.toArray] w fun e w' => e = .returned (.agg l.toArray) ∧ Xk.Ext w w' := by
  have hn1 : (kind == 1) = true := by subst hkd; rfl
  clear hkd
  have HCT : Hid (∀ (s : List Nat) (W' : World) {g2 g3 : Nat}, KI w l w.heap.size g2 g3 s W' → W'.cell? ⟨w.heap.size, 1, none⟩ = some (bs tn) ∧ W'.cell? ⟨w.heap.size, 2, none⟩ = some (.slice p1 n1 c1) ∧ W'.cell? ⟨w.heap.size, 3, none⟩ = some (.slice p2 n2 c2) ∧ W'.cell? ⟨w.heap.size, 4, none⟩ = some (.slice p3 n3 c3)) := Lib.hid fun s W' g2 g3 hk => ⟨hk.cell (by rw [hl]; rfl), hk.cell (by rw [hl]; rfl), hk.cell (by rw [hl]; rfl), hk.cell (by rw [hl]; rfl)⟩
  have HCK : Hid (∀ (s : List Nat) (W' : World) {g2 g3 : Nat}, KI w l w.heap.size g2 g3 s W' → W'.cell? ⟨w.heap.size, 5, none⟩ = some (.slice p4 n4 c4)) := Lib.hid fun s W' g2 g3 hk => hk.cell (by rw [hl]; rfl)
  have HTL : Hid (∀ j : Nat, j < ([bs tn, .slice p1 n1 c1, .slice p2 n2 c2, .slice p3 n3 c3] : List Value).toArray.size → l.toArray[1 + j]? = ([bs tn, .slice p1 n1 c1, .slice p2 n2 c2, .slice p3 n3 c3] : List Value).toArray[j]?) := Lib.hid (by
    rw [hl]
    intro j hj
    rcases j with _ | _ | _ | _ | j
    all_goals first | rfl | (simp at hj; omega))
  have hlen : l.length = 37 := by rw [hl]; rfl
  have HONE : Hid (l.toArray.all (·.oneCell') = true) := Lib.hid (by rw [hl]; kernel_rfl)
  have HSZ : Hid ((Tryz.prog.info? 46).map (·.size) = some l.toArray.size) := Lib.hid (by rw [List.size_toArray, hlen]; kernel_rfl)
  have c0 : l[0]? = some (.int .i64 kind) := by rw [hl]; rfl
  obtain ⟨z, hz⟩ : ∃ z, z = stmt0 kind 0 := ⟨_, rfl⟩
  have HBD : Hid (∀ W, (Instr.build 46 #[(0, Value.int .i64 kind)]).run Tryz.prog W = .ok (.agg z.toArray) W) := Lib.hid fun W => by rw [hz]; kernel_rfl
  have hzl : z.length = 37 := by rw [hz]; rfl
  have HZS : Hid ((Tryz.prog.info? 46).map (·.size) = some z.toArray.size) := Lib.hid (by rw [List.size_toArray, hzl]; kernel_rfl)
  have HZO : Hid (z.toArray.all (·.oneCell') = true) := Lib.hid (by rw [hz]; kernel_rfl)
  have HS0 : Hid (∀ j ∈ ([0, 6, 7, 8, 9, 10, 11, 12, 13, 14, 15, 16, 17, 18, 19, 20, 21, 22, 23, 24, 25, 26, 27, 28, 29, 30, 31, 32, 33, 34, 35, 36] : List Nat), z[j]? = l[j]?) := Lib.hid (by
    rw [hz, hl]
    intro j hj
    first
      | rfl
      | (simp only [List.mem_cons, List.not_mem_nil, or_false] at hj
         repeat (rcases hj with rfl | hj; · rfl)
         first | done | (subst hj; rfl)))
  have HZL := Lib.hid hzl
  have HLEN := Lib.hid hlen
  have HL := Lib.hid hl
  have HB1 := Lib.hid (show ((w.alloc (.cells l.toArray 46)).alloc (stmtO zero37)).cell? ⟨w.heap.size, 0, none⟩ = some (.int .i64 kind) by
    have : ((w.alloc (.cells l.toArray 46)).alloc (stmtO zero37)).heap[w.heap.size]? = some (stmtO l) := (((Below.refl _ _).alloc (Nat.le_refl _) _ : Xk.Ext (w.alloc (stmtO l)) _).block _ (by rw [World.size_alloc]; omega)).trans (heap_new w _)
    simp [World.cell?, this, c0])
  clear hz hzl hlen hl c0
  go_enter Tryz.func14, Tryz.ntmps14
  go_upto_region 1 with fail
  have hc0 := HB1.out
  have hlt0 : w.heap.size < ((w.alloc (.cells l.toArray 46)).alloc (stmtO zero37)).heap.size := by rw [World.size_alloc, World.size_alloc]; omega
  obtain ⟨W, hW⟩ : ∃ W, W = (w.alloc (.cells l.toArray 46)).alloc (stmtO zero37) := ⟨_, rfl⟩
  rw [← hW] at hc0 hlt0 ⊢
  have HW := Lib.hid hW
  clear hW HB1
  go_wp2_with (first | (refine wpList_built rfl 46 _ rfl (.int .i64 kind) _ rfl (HBD.out _) ?_) | ((refine wpList_putRow rfl 46 _ _ rfl (W.heap.size) _ _ 46 rfl rfl ((heap_new W _)) ((by rw [show z.toArray.size = 37 by rw [List.size_toArray, HZL.out]]; rfl)) (HZS.out) (HZO.out) ?_; intro w3 hp3); have HK := Lib.hid (KI.start HLEN.out HW.out hp3 HZL.out HS0.out); clear hp3; have c0 := HK.out.cell (j := 0) (v := .int .i64 kind) (by rw [HL.out]; rfl); have l1 := HK.out.lt1; have l3 := HK.out.g.2.2.2; skip))
  refine Xe.wp_region_rel (E := EC W.heap.size 46 l.toArray) (pre_EC _ _ _) 8 (fun _ => none) (fun _ _ h => by cases h) (fun _ _ _ _ h => by cases h) [(5, CellsAt W.heap.size 46 l.toArray 1 4), (7, CellsAt W.heap.size 46 l.toArray 5 1)] (by kernel_rfl) (by kernel_rfl) (cellsAt_ec (by
    intro y hy
    simp only [List.mem_cons, List.not_mem_nil, or_false] at hy
    repeat (rcases hy with rfl | hy; · exact ⟨_, _, rfl⟩)
    first | done | (subst hy; exact ⟨_, _, rfl⟩))) ?_
  simp only [List.take_succ_cons, List.take_zero, List.drop_succ_cons, List.drop_zero]
  (refine Xs.e ?_)
  (refine Xe.rel_det (pre_EC _ _ _) (Xk.wanted_none (by rfl)) (by rfl) (fun K hK => ?_); apply Exists.intro; refine ⟨fun W' hx hp => ?_, ?_⟩; (have hk := HK.out.ec hx; have q1 := hk.lt1; have q0 := HCT.out _ _ hk; obtain ⟨q2, q3, q4, q5⟩ := q0; clear hx hp hk; go_simp; exact ⟨rfl, rfl⟩); (go_simp; refine hK _ ?_; clear hK K))
  (refine Xs.e ?_)
  (refine Xe.rel_det (pre_EC _ _ _) (Xk.wanted_none (by rfl)) (by rfl) (fun K hK => ?_); apply Exists.intro; refine ⟨fun W' hx hp => ?_, ?_⟩; (have hk := HK.out.ec hx; have q1 := hk.lt1; have q0 := HCK.out _ _ hk; obtain q2 := q0; clear hx hp hk; go_simp; exact ⟨rfl, rfl⟩); (go_simp; refine hK _ ?_; clear hK K))
  (refine Xs.e ?_)
  (refine Xe.rel_make (pre_EC _ _ _) (by rfl) (by rfl) (fun W' hx hp => ?_) (fun _ K hK => ?_); (have hk := HK.out.ec hx; obtain ⟨cq3, hc3, hcl3, -⟩ := hk.b3; exact store_cells _ _ _ rfl 1 _ ([bs tn, .slice p1 n1 c1, .slice p2 n2 c2, .slice p3 n3 c3]).toArray rfl rfl hc3 (by simp [hcl3]) (by kernel_rfl) (by kernel_rfl) HTL.out); (go_simp; refine hK _ ?_; clear hK K))
  (refine Xs.e ?_)
  (refine Xe.rel_make (pre_EC _ _ _) (by rfl) (by rfl) (fun W' hx hp => ?_) (fun _ K hK => ?_); (have hk := HK.out.ec hx; have q1 := hk.g.2.2.2; obtain ⟨⟨v3, d3⟩, e3⟩ := hk.cell3 (j := 5) (by decide); obtain ⟨cq3, hc3, hcl3, -⟩ := hk.b3; clear hx hp; go_simp; exact store_cell hc3 (by simp only [List.size_toArray, hcl3]; decide) (by rw [HL.out]; rfl)); (go_simp; refine hK _ ?_; clear hK K))
  refine Xe.rel_nil (fun W4 hx hp hG => ?_)
  obtain ⟨h7, h5, -⟩ := hp
  have HK1 := Lib.hid (((HK.out.ec hx).more h5).more h7)
  have hb3 := HK1.out.done (by decide)
  obtain ⟨cq2, hb2, hl2⟩ := HK1.out.b2
  clear h7 h5 hx hG
  go_wp2_with (first | (refine wpList_loadRow rfl 46 _ rfl W.heap.size _ 46 (0, 0) _ rfl hb3 Tryz.underlying46 rfl HSZ.out ?_) | (refine wpList_putRow rfl 46 _ _ rfl ((w.heap.size + 1)) _ _ 46 rfl rfl (hb2) ((by simp only [List.size_toArray, hl2, HLEN.out])) (HSZ.out) (HONE.out) ?_; intro w9 hp9))
  refine bodyPost_ret (results_row (fn := Tryz.f14) rfl rfl hp9.blk Tryz.underlying46 rfl HSZ.out) rfl ⟨rfl, puts_ext hp9 (HK1.out).x (by have := (HK1.out).g; omega)⟩
theorem kept_idx (kind : Int) (hkd : kind = 3) (nm on : P12.T) (un : Bool) (p1 : Option Addr) (n1 c1 : Nat) (l : List Value) (hl : l = stmtL kind [] nilS nilS nilS nilS nm on un (.slice p1 n1 c1) nilS nilS noE nilS nilS noE nilS nilS 0) (w : World) :
    Calls Tryz.prog 14 #[.agg l.toArray] w fun e w' => e = .returned (.agg l.toArray) ∧ Xk.Ext w w' := by
  have hn1 : (kind == 1) = false := by subst hkd; rfl
  have hn2 : (kind == 2) = false := by subst hkd; rfl
  have hn3 : (kind == 3) = true := by subst hkd; rfl
  clear hkd
  have HC7 : Hid (∀ (s : List Nat) (W' : World) {g2 g3 : Nat}, KI w l w.heap.size g2 g3 s W' → W'.cell? ⟨w.heap.size, 7, none⟩ = some (bs on)) := Lib.hid fun s W' g2 g3 hk => hk.cell (by rw [hl]; rfl)
  have HC8 : Hid (∀ (s : List Nat) (W' : World) {g2 g3 : Nat}, KI w l w.heap.size g2 g3 s W' → W'.cell? ⟨w.heap.size, 8, none⟩ = some (.bool un)) := Lib.hid fun s W' g2 g3 hk => hk.cell (by rw [hl]; rfl)
  have hlen : l.length = 37 := by rw [hl]; rfl
  have HONE : Hid (l.toArray.all (·.oneCell') = true) := Lib.hid (by rw [hl]; kernel_rfl)
  have HSZ : Hid ((Tryz.prog.info? 46).map (·.size) = some l.toArray.size) := Lib.hid (by rw [List.size_toArray, hlen]; kernel_rfl)
  have c0 : l[0]? = some (.int .i64 kind) := by rw [hl]; rfl
  obtain ⟨z, hz⟩ : ∃ z, z = stmt0 kind 0 := ⟨_, rfl⟩
  have HBD : Hid (∀ W, (Instr.build 46 #[(0, Value.int .i64 kind)]).run Tryz.prog W = .ok (.agg z.toArray) W) := Lib.hid fun W => by rw [hz]; kernel_rfl
  have hzl : z.length = 37 := by rw [hz]; rfl
  have HZS : Hid ((Tryz.prog.info? 46).map (·.size) = some z.toArray.size) := Lib.hid (by rw [List.size_toArray, hzl]; kernel_rfl)
  have HZO : Hid (z.toArray.all (·.oneCell') = true) := Lib.hid (by rw [hz]; kernel_rfl)
  have HS0 : Hid (∀ j ∈ ([0, 1, 2, 3, 4, 5, 10, 11, 12, 13, 14, 15, 16, 17, 18, 19, 20, 21, 22, 23, 24, 25, 26, 27, 28, 29, 30, 31, 32, 33, 34, 35, 36] : List Nat), z[j]? = l[j]?) := Lib.hid (by
    rw [hz, hl]
    intro j hj
    first
      | rfl
      | (simp only [List.mem_cons, List.not_mem_nil, or_false] at hj
         repeat (rcases hj with rfl | hj; · rfl)
         first | done | (subst hj; rfl)))
  have HZL := Lib.hid hzl
  have HLEN := Lib.hid hlen
  have HL := Lib.hid hl
  have HB1 := Lib.hid (show ((w.alloc (.cells l.toArray 46)).alloc (stmtO zero37)).cell? ⟨w.heap.size, 0, none⟩ = some (.int .i64 kind) by
    have : ((w.alloc (.cells l.toArray 46)).alloc (stmtO zero37)).heap[w.heap.size]? = some (stmtO l) := (((Below.refl _ _).alloc (Nat.le_refl _) _ : Xk.Ext (w.alloc (stmtO l)) _).block _ (by rw [World.size_alloc]; omega)).trans (heap_new w _)
    simp [World.cell?, this, c0])
  clear hz hzl hlen hl c0
  go_enter Tryz.func14, Tryz.ntmps14
  go_upto_region 1 with fail
  have hc0 := HB1.out
  have hlt0 : w.heap.size < ((w.alloc (.cells l.toArray 46)).alloc (stmtO zero37)).heap.size := by rw [World.size_alloc, World.size_alloc]; omega
  obtain ⟨W, hW⟩ : ∃ W, W = (w.alloc (.cells l.toArray 46)).alloc (stmtO zero37) := ⟨_, rfl⟩
  rw [← hW] at hc0 hlt0 ⊢
  have HW := Lib.hid hW
  clear hW HB1
  go_wp2_with (first | (refine wpList_built rfl 46 _ rfl (.int .i64 kind) _ rfl (HBD.out _) ?_) | ((refine wpList_putRow rfl 46 _ _ rfl (W.heap.size) _ _ 46 rfl rfl ((heap_new W _)) ((by rw [show z.toArray.size = 37 by rw [List.size_toArray, HZL.out]]; rfl)) (HZS.out) (HZO.out) ?_; intro w3 hp3); have HK := Lib.hid (KI.start HLEN.out HW.out hp3 HZL.out HS0.out); clear hp3; have c0 := HK.out.cell (j := 0) (v := .int .i64 kind) (by rw [HL.out]; rfl); have l1 := HK.out.lt1; have l3 := HK.out.g.2.2.2; skip))
  refine Xe.wp_region_rel (E := EC W.heap.size 46 l.toArray) (pre_EC _ _ _) 8 (fun _ => none) (fun _ _ h => by cases h) (fun _ _ _ _ h => by cases h) [(5, CellsAt W.heap.size 46 l.toArray 7 1), (7, CellsAt W.heap.size 46 l.toArray 8 1)] (by kernel_rfl) (by kernel_rfl) (cellsAt_ec (by
    intro y hy
    simp only [List.mem_cons, List.not_mem_nil, or_false] at hy
    repeat (rcases hy with rfl | hy; · exact ⟨_, _, rfl⟩)
    first | done | (subst hy; exact ⟨_, _, rfl⟩))) ?_
  simp only [List.take_succ_cons, List.take_zero, List.drop_succ_cons, List.drop_zero]
  (refine Xs.e ?_)
  (refine Xe.rel_det (pre_EC _ _ _) (Xk.wanted_none (by rfl)) (by rfl) (fun K hK => ?_); apply Exists.intro; refine ⟨fun W' hx hp => ?_, ?_⟩; (have hk := HK.out.ec hx; have q1 := hk.lt1; have q0 := HC7.out _ _ hk; obtain q2 := q0; clear hx hp hk; go_simp; exact ⟨rfl, rfl⟩); (go_simp; refine hK _ ?_; clear hK K))
  (refine Xs.e ?_)
  (refine Xe.rel_det (pre_EC _ _ _) (Xk.wanted_none (by rfl)) (by rfl) (fun K hK => ?_); apply Exists.intro; refine ⟨fun W' hx hp => ?_, ?_⟩; (have hk := HK.out.ec hx; have q1 := hk.lt1; have q0 := HC8.out _ _ hk; obtain q2 := q0; clear hx hp hk; go_simp; exact ⟨rfl, rfl⟩); (go_simp; refine hK _ ?_; clear hK K))
  (refine Xs.e ?_)
  (refine Xe.rel_make (pre_EC _ _ _) (by rfl) (by rfl) (fun W' hx hp => ?_) (fun _ K hK => ?_); (have hk := HK.out.ec hx; have q1 := hk.g.2.2.2; obtain ⟨⟨v3, d3⟩, e3⟩ := hk.cell3 (j := 7) (by decide); obtain ⟨cq3, hc3, hcl3, -⟩ := hk.b3; clear hx hp; go_simp; exact store_cell hc3 (by simp only [List.size_toArray, hcl3]; decide) (by rw [HL.out]; rfl)); (go_simp; refine hK _ ?_; clear hK K))
  (refine Xs.e ?_)
  (refine Xe.rel_make (pre_EC _ _ _) (by rfl) (by rfl) (fun W' hx hp => ?_) (fun _ K hK => ?_); (have hk := HK.out.ec hx; have q1 := hk.g.2.2.2; obtain ⟨⟨v3, d3⟩, e3⟩ := hk.cell3 (j := 8) (by decide); obtain ⟨cq3, hc3, hcl3, -⟩ := hk.b3; clear hx hp; go_simp; exact store_cell hc3 (by simp only [List.size_toArray, hcl3]; decide) (by rw [HL.out]; rfl)); (go_simp; refine hK _ ?_; clear hK K))
  refine Xe.rel_nil (fun W4 hx hp hG => ?_)
  obtain ⟨h7, h5, -⟩ := hp
  have HK1 := Lib.hid (((HK.out.ec hx).more h5).more h7)
  have c9 := HK1.out.cell (j := 9) (v := .slice p1 n1 c1) (by rw [HL.out]; rfl)
  have d9 := (HK1.out.cell3 (j := 9) (by decide)).1
  have e9 := (HK1.out.cell3 (j := 9) (by decide)).2
  obtain ⟨v9, d9⟩ := d9
  have c6 := HK1.out.cell (j := 6) (v := bs nm) (by rw [HL.out]; rfl)
  have d6 := (HK1.out.cell3 (j := 6) (by decide)).1
  have e6 := (HK1.out.cell3 (j := 6) (by decide)).2
  obtain ⟨v6, d6⟩ := d6
  have HK2 := Lib.hid ((HK1.out.set 9 (.slice p1 n1 c1) (by rw [HL.out]; rfl)).set 6 (bs nm) (by rw [HL.out]; rfl))
  have hb3 := HK2.out.done (by decide)
  obtain ⟨cq2, hb2, hl2⟩ := HK2.out.b2
  have hne : w.heap.size ≠ W.heap.size := by have := HK.out.g; omega
  have hne2 : W.heap.size ≠ w.heap.size := fun e => hne e.symm
  have l4 := HK1.out.lt1
  have l5 := HK1.out.g.2.2.2
  clear h7 h5 hx hG
  go_wp2_with (first | (refine wpList_loadRow rfl 46 _ rfl W.heap.size _ 46 (0, 0) _ rfl hb3 Tryz.underlying46 rfl HSZ.out ?_) | (refine wpList_putRow rfl 46 _ _ rfl ((w.heap.size + 1)) _ _ 46 rfl rfl (hb2) ((by simp only [List.size_toArray, hl2, HLEN.out])) (HSZ.out) (HONE.out) ?_; intro w9 hp9))
  refine bodyPost_ret (results_row (fn := Tryz.f14) rfl rfl hp9.blk Tryz.underlying46 rfl HSZ.out) rfl ⟨rfl, puts_ext hp9 (HK2.out).x (by have := (HK2.out).g; omega)⟩
theorem boxR {w w' : World} {l : List Value} {T : TypeId} (hx : Xk.Ext (w.alloc (.cells l.toArray T)) w') (j : Nat) (v : Value) (h : l[j]? = some v) : w'.cell? ⟨w.heap.size, j, none⟩ = some v := by
 have hb := (hx.block w.heap.size (by rw [World.size_alloc]; omega)).trans (heap_new w _)
 simp [World.cell?, hb, h]
theorem boxRow {w w' : World} {l : List Value} {T : TypeId} (hx : Xk.Ext (w.alloc (.cells l.toArray T)) w') : w'.heap[w.heap.size]? = some (.cells l.toArray T) := (hx.block w.heap.size (by rw [World.size_alloc]; omega)).trans (heap_new w _)
theorem boxX (w : World) (o : Obj) : Xk.Ext w (w.alloc o) := (Below.refl _ _).alloc (Nat.le_refl _) _
theorem box2 {w w' : World} {o : Obj} (hx : Xk.Ext (w.alloc o) w') : Xk.Ext w w' := Xk.Ext.trans (boxX w o) hx
theorem ExprAt.kind {S : Nat → Prop} {w : World} : ∀ {e : P12.E} {l : List Value}, ExprAt S w e l → P12.isE e = true → ∃ kd op vk vi vs tb nm pp pm pc, l = exprL kd op vk vi vs tb nm (.slice pp pm pc) ∧ kd ≠ 0
 | .none, _, _, he => by cases he
 | .val _ _ _, _, h, _ | .col _ _, _, h, _ | .all, _, h, _ => by unfold ExprAt at h; exact ⟨_, _, _, _, _, _, _, _, _, _, h, by decide⟩
 | .una _ _, _, h, _ | .call _ _, _, h, _ => by unfold ExprAt at h; obtain ⟨g, u, -, h, -⟩ := h; exact ⟨_, _, _, _, _, _, _, _, _, _, h, by decide⟩
 | .bin _ _ _, _, h, _ => by unfold ExprAt at h; obtain ⟨g, u, v, -, h, -⟩ := h; exact ⟨_, _, _, _, _, _, _, _, _, _, h, by decide⟩
theorem ent_col : Ent 49 := ⟨fun _ _ => by go_simp, by decide⟩
theorem is_col (a : P12.T) (ty : Int) (b : Bool) (ha : P12.isName a = true) (h1 : 1 ≤ ty) (h2 : ty ≤ 3) (w : World) :
  Calls Tryz.prog 49 #[.agg [bs a, .int .i64 ty, .bool b].toArray] w fun e w' => e = .returned (.bool true) ∧ Xk.Ext w w' := by
 have HN := Lib.hid fun W => isName_any a ha W
 clear ha
 go_enter Tryz.func49, Tryz.ntmps49
 go_wp2_with fail
 refine (HN.out _).mono ?_
 rintro e w1 ⟨rfl, hx1⟩
 have q1 : w1.cell? ⟨w.heap.size, 1, none⟩ = some (.int .i64 ty) := boxR (l := [bs a, .int .i64 ty, .bool b]) hx1 1 _ rfl
 go_wp2_with fail
 go_ret
 exact ⟨rfl, box2 hx1⟩
end Go.Proofs.YtlpcdpkgnfdpeaaGreatDoor
namespace Go.Xk
open Go.RowKit
theorem detRun_loadRow {P : Program} {o : Oper} {a : Act} {w : World} (t : TypeId) (x : Operand) (ho : o.op = .load t x) (g : Nat) (cs : Array Value) (T : TypeId) (fr : Nat × Nat) (d : TypeDesc) (hx : a.eval x = .pointer (some ⟨g, 0, none⟩)) (hg : w.heap[g]? = some (.cells cs T fr))
  (hu : P.underlying t = some d) (hd : (match d with | .struct _ | .array _ _ => true | _ => false) = true) (hi : (P.info? t).map (·.size) = some cs.size) : detRun P o a w (.agg cs) := by
 unfold detRun execOp
 simp only [ho, hx, Instr.loadAt, Instr.sureAddr, Sem.run_bind, Sem.run_pure, Result.andThen_ok, run_loadVar_row (P := P) w g T t cs fr d hg hu hd hi]
 exact ⟨rfl, rfl⟩
end Go.Xk
namespace Go.Proofs.YtlpcdpkgnfdpeaaGreatDoor
open Go.RowKit
theorem is_drop (kind : Int) (hk : kind = 2 ∨ kind = 4) (nm : P12.T) (hN : P12.isName nm = true) (l : List Value) (hl : l = stmtL kind [] nilS nilS nilS nilS nm [] false nilS nilS nilS noE nilS nilS noE nilS nilS 0)
  (hK : ∀ W, Calls Tryz.prog 14 #[.agg l.toArray] W fun e w' => e = .returned (.agg l.toArray) ∧ Xk.Ext W w')
  (hS : ∀ W, Calls Tryz.prog 13 #[.agg l.toArray, .agg l.toArray] W fun e w' => e = .returned (.bool true) ∧ Xk.Ext W w') (w : World) :
  Calls Tryz.prog 9 #[.agg l.toArray] w fun e w' => e = .returned (.bool true) ∧ Xk.Ext w w' := by
 have HK := Lib.hid hK
 have HS := Lib.hid hS
 have HN := Lib.hid fun W => isName_any nm hN W
 clear hK hS hN
 have hn1 : (kind == 1) = false := by rcases hk with rfl | rfl <;> rfl
 have ht : (kind == 2) = true ∨ ((kind == 2) = false ∧ (kind == 4) = true) := by
  rcases hk with rfl | rfl
  ·exact .inl rfl
  ·exact .inr ⟨rfl, rfl⟩
 clear hk
 have hlen : l.length = 37 := by rw [hl]; rfl
 have HSZ : Hid ((Tryz.prog.info? 46).map (·.size) = some l.toArray.size) := Lib.hid (by rw [List.size_toArray, hlen]; kernel_rfl)
 have HLEN := Lib.hid hlen
 have HL := Lib.hid hl
 have HG : Hid (∀ p, (Xk.exw (w.alloc (.cells l.toArray 46)).drew p).heap[w.heap.size]? = some (.cells l.toArray 46)) := Lib.hid fun p => ((Xk.ext_exw _ p).block _ (by rw [World.size_drew, World.size_alloc]; omega)).trans (heap_new w _)
 clear hl hlen
 go_enter Tryz.func9, Tryz.ntmps9
 go_upto_region 1 with fail
 refine Xk.wp_region_rel' 5 [] trivial (by kernel_rfl) (by kernel_rfl) ?_
 simp only [List.take_succ_cons, List.take_zero, List.drop_succ_cons, List.drop_zero]
 (refine Xk.rel_det (Xk.wanted_none (by rfl)) (by rfl) (fun K hK => ?_); refine ⟨.agg l.toArray, fun p hp => Xk.detRun_loadRow 46 _ rfl w.heap.size l.toArray 46 (0, 0) _ rfl (HG.out p) Tryz.underlying46 rfl HSZ.out, ?_⟩; (go_simp; refine hK _ ?_; clear hK K))
 (refine Xk.rel_det (Xk.wanted_none (by rfl)) (by rfl) (fun K hK => ?_); refine ⟨.agg l.toArray, fun p hp => Xk.detRun_loadRow 46 _ rfl w.heap.size l.toArray 46 (0, 0) _ rfl (HG.out p) Tryz.underlying46 rfl HSZ.out, ?_⟩; (go_simp; refine hK _ ?_; clear hK K))
 repeat (first
  | ((first | refine Xk.rel_det (Xk.wanted_none (by rfl)) (by rfl) (fun K hK => ?_) | refine Xk.rel_det (by rfl) (by rfl) (fun K hK => ?_)); apply Exists.intro; refine ⟨fun p hp => ?_, ?_⟩; (go_simp; first | exact ⟨rfl, rfl⟩ | ((try refine ⟨by kernel_rfl, ?_⟩); (first | (go_at_call 14; ((with_reducible refine (HK.out _).mono ?_); exact fun e w' h => h)) | (go_at_call 13; ((with_reducible refine (HS.out _).mono ?_); exact fun e w' h => h))))); (go_simp; refine hK _ ?_; clear hK K))
  | (refine Xk.rel_skip (by rfl) (fun K hK => ?_); go_simp; refine hK _ ?_; clear hK K))
 refine Xk.rel_nil (fun p _ => ?_)
 obtain ⟨W2, hW2⟩ : ∃ W2, W2 = Xk.exw (w.alloc (.cells l.toArray 46)).drew p := ⟨_, rfl⟩
 have hx1 : Xk.Ext (w.alloc (.cells l.toArray 46)) W2 := by rw [hW2]; exact Xk.xt
 rw [← hW2]
 clear hW2 HK HS HG
 have HX1 := Lib.hid hx1
 have lt2 : w.heap.size < W2.heap.size := by have := hx1.size; rw [World.size_alloc] at this; omega
 have kc := boxR hx1 0 (.int .i64 kind) (by rw [HL.out]; rfl)
 clear hx1
 have q6 := boxR HX1.out 6 (bs nm) (by rw [HL.out]; rfl)
 rcases ht with hn2 | ⟨hn2, hn4⟩
 all_goals
  go_wp2_with fail
  refine (HN.out _).mono ?_
  rintro e w1 ⟨rfl, hx3⟩
  go_wp2_with fail
  go_ret
  exact ⟨rfl, Xk.Ext.trans (box2 HX1.out) hx3⟩
theorem is_idx (kind : Int) (hkd : kind = 3) (nm on : P12.T) (un : Bool) (p1 : Option Addr) (n1 c1 : Nat) (hN : P12.isName nm = true) (hO : P12.isName on = true) (w : World) (l : List Value) (hl : l = stmtL kind [] nilS nilS nilS nilS nm on un (.slice p1 n1 c1) nilS nilS noE nilS nilS noE nilS nilS 0)
  (hC : ∀ W, Xk.Ext w W → Calls Tryz.prog 21 #[.slice p1 n1 c1, .int .i64 16, .func (.func 16) #[] #[]] W fun e w' => e = .returned (.bool true) ∧ Xk.Ext W w')
  (hK : ∀ W, Calls Tryz.prog 14 #[.agg l.toArray] W fun e w' => e = .returned (.agg l.toArray) ∧ Xk.Ext W w')
  (hS : ∀ W, Calls Tryz.prog 13 #[.agg l.toArray, .agg l.toArray] W fun e w' => e = .returned (.bool true) ∧ Xk.Ext W w') :
  Calls Tryz.prog 9 #[.agg l.toArray] w fun e w' => e = .returned (.bool true) ∧ Xk.Ext w w' := by
 have HK := Lib.hid hK
 have HS := Lib.hid hS
 have HC := Lib.hid hC
 clear hK hS hC
 have hn1 : (kind == 1) = false := by subst hkd; rfl
 have hn2 : (kind == 2) = false := by subst hkd; rfl
 have hn3 : (kind == 3) = true := by subst hkd; rfl
 clear hkd
 have hlen : l.length = 37 := by rw [hl]; rfl
 have HSZ : Hid ((Tryz.prog.info? 46).map (·.size) = some l.toArray.size) := Lib.hid (by rw [List.size_toArray, hlen]; kernel_rfl)
 have HLEN := Lib.hid hlen
 have HL := Lib.hid hl
 have HG : Hid (∀ p, (Xk.exw (w.alloc (.cells l.toArray 46)).drew p).heap[w.heap.size]? = some (.cells l.toArray 46)) := Lib.hid fun p => ((Xk.ext_exw _ p).block _ (by rw [World.size_drew, World.size_alloc]; omega)).trans (heap_new w _)
 clear hl hlen
 go_enter Tryz.func9, Tryz.ntmps9
 go_upto_region 1 with fail
 refine Xk.wp_region_rel' 5 [] trivial (by kernel_rfl) (by kernel_rfl) ?_
 simp only [List.take_succ_cons, List.take_zero, List.drop_succ_cons, List.drop_zero]
 (refine Xk.rel_det (Xk.wanted_none (by rfl)) (by rfl) (fun K hK => ?_); refine ⟨.agg l.toArray, fun p hp => Xk.detRun_loadRow 46 _ rfl w.heap.size l.toArray 46 (0, 0) _ rfl (HG.out p) Tryz.underlying46 rfl HSZ.out, ?_⟩; (go_simp; refine hK _ ?_; clear hK K))
 (refine Xk.rel_det (Xk.wanted_none (by rfl)) (by rfl) (fun K hK => ?_); refine ⟨.agg l.toArray, fun p hp => Xk.detRun_loadRow 46 _ rfl w.heap.size l.toArray 46 (0, 0) _ rfl (HG.out p) Tryz.underlying46 rfl HSZ.out, ?_⟩; (go_simp; refine hK _ ?_; clear hK K))
 repeat (first
  | ((first | refine Xk.rel_det (Xk.wanted_none (by rfl)) (by rfl) (fun K hK => ?_) | refine Xk.rel_det (by rfl) (by rfl) (fun K hK => ?_)); apply Exists.intro; refine ⟨fun p hp => ?_, ?_⟩; (go_simp; first | exact ⟨rfl, rfl⟩ | ((try refine ⟨by kernel_rfl, ?_⟩); (first | (go_at_call 14; ((with_reducible refine (HK.out _).mono ?_); exact fun e w' h => h)) | (go_at_call 13; ((with_reducible refine (HS.out _).mono ?_); exact fun e w' h => h))))); (go_simp; refine hK _ ?_; clear hK K))
  | (refine Xk.rel_skip (by rfl) (fun K hK => ?_); go_simp; refine hK _ ?_; clear hK K))
 refine Xk.rel_nil (fun p _ => ?_)
 obtain ⟨W2, hW2⟩ : ∃ W2, W2 = Xk.exw (w.alloc (.cells l.toArray 46)).drew p := ⟨_, rfl⟩
 have hx1 : Xk.Ext (w.alloc (.cells l.toArray 46)) W2 := by rw [hW2]; exact Xk.xt
 rw [← hW2]
 clear hW2 HK HS HG
 have HX1 := Lib.hid hx1
 have lt2 : w.heap.size < W2.heap.size := by have := hx1.size; rw [World.size_alloc] at this; omega
 have kc := boxR hx1 0 (.int .i64 kind) (by rw [HL.out]; rfl)
 clear hx1
 have HN := Lib.hid fun W => isName_any nm hN W
 have HO := Lib.hid fun W => isName_any on hO W
 clear hN hO
 have q6 := boxR HX1.out 6 (bs nm) (by rw [HL.out]; rfl)
 go_wp2_with fail
 refine (HN.out _).mono ?_
 rintro e w3 ⟨rfl, hx3⟩
 have HX3 := Lib.hid (Xk.Ext.trans HX1.out hx3)
 clear hx3
 have q7 := boxR HX3.out 7 (bs on) (by rw [HL.out]; rfl)
 go_wp2_with fail
 refine (HO.out _).mono ?_
 rintro e w4 ⟨rfl, hx4⟩
 have HX4 := Lib.hid (Xk.Ext.trans HX3.out hx4)
 clear hx4 q7
 have q9 := boxR HX4.out 9 (.slice p1 n1 c1) (by rw [HL.out]; rfl)
 go_wp2_with fail
 refine (HC.out _ (box2 HX4.out)).mono ?_
 rintro e w5 ⟨rfl, hx5⟩
 go_wp2_with fail
 go_ret
 exact ⟨rfl, Xk.Ext.trans (box2 HX4.out) hx5⟩
theorem is_tab (kind : Int) (hkd : kind = 1) (tn : P12.T) (p1 p2 p3 p4 : Option Addr) (n1 n2 n3 n4 c1 c2 c3 c4 : Nat) (w : World) (l : List Value) (hl : l = stmtL kind tn (.slice p1 n1 c1) (.slice p2 n2 c2) (.slice p3 n3 c3) (.slice p4 n4 c4) [] [] false nilS nilS nilS noE nilS nilS noE nilS nilS 0)
  (hT : ∀ W, Xk.Ext w W → Calls Tryz.prog 20 #[.agg #[bs tn, .slice p1 n1 c1, .slice p2 n2 c2, .slice p3 n3 c3], .slice p4 n4 c4] W fun e w' => e = .returned (.bool true) ∧ Xk.Ext W w')
  (hK : ∀ W, Calls Tryz.prog 14 #[.agg l.toArray] W fun e w' => e = .returned (.agg l.toArray) ∧ Xk.Ext W w')
  (hS : ∀ W, Calls Tryz.prog 13 #[.agg l.toArray, .agg l.toArray] W fun e w' => e = .returned (.bool true) ∧ Xk.Ext W w') :
  Calls Tryz.prog 9 #[.agg l.toArray] w fun e w' => e = .returned (.bool true) ∧ Xk.Ext w w' := by
 have HK := Lib.hid hK
 have HS := Lib.hid hS
 have HT := Lib.hid hT
 clear hK hS hT
 have hn1 : (kind == 1) = true := by subst hkd; rfl
 clear hkd
 have hlen : l.length = 37 := by rw [hl]; rfl
 have HSZ : Hid ((Tryz.prog.info? 46).map (·.size) = some l.toArray.size) := Lib.hid (by rw [List.size_toArray, hlen]; kernel_rfl)
 have HLEN := Lib.hid hlen
 have HL := Lib.hid hl
 have HG : Hid (∀ p, (Xk.exw (w.alloc (.cells l.toArray 46)).drew p).heap[w.heap.size]? = some (.cells l.toArray 46)) := Lib.hid fun p => ((Xk.ext_exw _ p).block _ (by rw [World.size_drew, World.size_alloc]; omega)).trans (heap_new w _)
 clear hl hlen
 go_enter Tryz.func9, Tryz.ntmps9
 go_upto_region 1 with fail
 refine Xk.wp_region_rel' 5 [] trivial (by kernel_rfl) (by kernel_rfl) ?_
 simp only [List.take_succ_cons, List.take_zero, List.drop_succ_cons, List.drop_zero]
 (refine Xk.rel_det (Xk.wanted_none (by rfl)) (by rfl) (fun K hK => ?_); refine ⟨.agg l.toArray, fun p hp => Xk.detRun_loadRow 46 _ rfl w.heap.size l.toArray 46 (0, 0) _ rfl (HG.out p) Tryz.underlying46 rfl HSZ.out, ?_⟩; (go_simp; refine hK _ ?_; clear hK K))
 (refine Xk.rel_det (Xk.wanted_none (by rfl)) (by rfl) (fun K hK => ?_); refine ⟨.agg l.toArray, fun p hp => Xk.detRun_loadRow 46 _ rfl w.heap.size l.toArray 46 (0, 0) _ rfl (HG.out p) Tryz.underlying46 rfl HSZ.out, ?_⟩; (go_simp; refine hK _ ?_; clear hK K))
 repeat (first
  | ((first | refine Xk.rel_det (Xk.wanted_none (by rfl)) (by rfl) (fun K hK => ?_) | refine Xk.rel_det (by rfl) (by rfl) (fun K hK => ?_)); apply Exists.intro; refine ⟨fun p hp => ?_, ?_⟩; (go_simp; first | exact ⟨rfl, rfl⟩ | ((try refine ⟨by kernel_rfl, ?_⟩); (first | (go_at_call 14; ((with_reducible refine (HK.out _).mono ?_); exact fun e w' h => h)) | (go_at_call 13; ((with_reducible refine (HS.out _).mono ?_); exact fun e w' h => h))))); (go_simp; refine hK _ ?_; clear hK K))
  | (refine Xk.rel_skip (by rfl) (fun K hK => ?_); go_simp; refine hK _ ?_; clear hK K))
 refine Xk.rel_nil (fun p _ => ?_)
 obtain ⟨W2, hW2⟩ : ∃ W2, W2 = Xk.exw (w.alloc (.cells l.toArray 46)).drew p := ⟨_, rfl⟩
 have hx1 : Xk.Ext (w.alloc (.cells l.toArray 46)) W2 := by rw [hW2]; exact Xk.xt
 rw [← hW2]
 clear hW2 HK HS HG
 have HX1 := Lib.hid hx1
 have lt2 : w.heap.size < W2.heap.size := by have := hx1.size; rw [World.size_alloc] at this; omega
 have kc := boxR hx1 0 (.int .i64 kind) (by rw [HL.out]; rfl)
 clear hx1
 have q1 := boxR HX1.out 1 (bs tn) (by rw [HL.out]; rfl)
 have q2 := boxR HX1.out 2 (.slice p1 n1 c1) (by rw [HL.out]; rfl)
 have q3 := boxR HX1.out 3 (.slice p2 n2 c2) (by rw [HL.out]; rfl)
 have q4 := boxR HX1.out 4 (.slice p3 n3 c3) (by rw [HL.out]; rfl)
 have q5 := boxR HX1.out 5 (.slice p4 n4 c4) (by rw [HL.out]; rfl)
 go_wp2_with fail
 refine (HT.out _ (box2 HX1.out)).mono ?_
 rintro e w5 ⟨rfl, hx5⟩
 go_wp2_with fail
 go_ret
 exact ⟨rfl, Xk.Ext.trans (box2 HX1.out) hx5⟩
theorem isTable_of (tn : P12.T) (hN : P12.isName tn = true) (p1 p2 p3 p4 : Option Addr) (n1 n2 n3 c1 c2 c3 c4 : Nat) (hlo : 1 ≤ n1 + n2 + n3) (hhi : n1 + n2 + n3 ≤ 16) (w : World)
  (hK : ∀ j, j < n2 → ∃ g pr, p2 = some ⟨g, 0, none⟩ ∧ w.rangeAt g (j * 4) [.string ⟨#[]⟩, nilS, .bool true, .bool pr])
  (hC : ∀ j, j < n2 → ∃ g p n c, p4 = some ⟨g, 0, none⟩ ∧ w.cell? ⟨g, j, none⟩ = some (.slice p n c) ∧ ∀ W, Xk.Ext w W → Calls Tryz.prog 21 #[.slice p n c, .int .i64 16, .func (.func 16) #[] #[]] W fun e w' => e = .returned (.bool true) ∧ Xk.Ext W w')
  (hQ : ∀ W, Xk.Ext w W → Calls Tryz.prog 47 #[.slice p3 n3 c3, .func (.func 17) #[] #[]] W fun e w' => e = .returned (.bool true) ∧ Xk.Ext W w')
  (hT : ∀ W, Xk.Ext w W → Calls Tryz.prog 48 #[.slice p1 n1 c1, .func (.func 49) #[] #[]] W fun e w' => e = .returned (.bool true) ∧ Xk.Ext W w') :
  Calls Tryz.prog 20 #[.agg #[bs tn, .slice p1 n1 c1, .slice p2 n2 c2, .slice p3 n3 c3], .slice p4 n2 c4] w fun e w' => e = .returned (.bool true) ∧ Xk.Ext w w' := by
 have HN := Lib.hid fun W => isName_any tn hN W
 have HK := Lib.hid hK
 have HC := Lib.hid hC
 have HQ := Lib.hid hQ
 have HT := Lib.hid hT
 obtain ⟨s, hs⟩ : ∃ s : Nat, s = n1 + n2 + n3 := ⟨_, rfl⟩
 have hw1 : IntKind.i64.wrap ((n1 : Int) + (n2 : Int)) = (n1 : Int) + (n2 : Int) := IntWalk.i64_in _ (by omega)
 have hw2 : IntKind.i64.wrap ((n1 : Int) + (n2 : Int) + (n3 : Int)) = (n1 : Int) + (n2 : Int) + (n3 : Int) := IntWalk.i64_in _ (by omega)
 have b1 : ¬ ((n1 : Int) + (n2 : Int) + (n3 : Int) < 1) := by omega
 have b2 : ¬ (16 < (n1 : Int) + (n2 : Int) + (n3 : Int)) := by omega
 clear hN hK hC hQ hT hs
 go_enter Tryz.func20, Tryz.ntmps20
 go_wp2_with fail
 clear hw1 hw2
 refine (HN.out _).mono ?_
 rintro e w1 ⟨rfl, hx1⟩
 have q0 := boxR (l := [bs tn, .slice p1 n1 c1, .slice p2 n2 c2, .slice p3 n3 c3]) hx1 2 (.slice p2 n2 c2) rfl
 have HX1 := Lib.hid hx1
 clear hx1
 go_wp2_with fail
 go_loopw [42] (fun x wr => ∃ q : Nat, q ≤ n2 ∧ x = .int .i64 q ∧ Xk.Ext (w.alloc (.cells [bs tn, .slice p1 n1 c1, .slice p2 n2 c2, .slice p3 n3 c3].toArray 33)) wr) (fun x _ => n2 - (intOf x).toNat)
 case atStart => exact ⟨0, by omega, rfl, HX1.out⟩
 case round =>
  obtain ⟨q, hq, rfl, hx⟩ := hrel
  have HX := Lib.hid hx
  clear hx q0
  by_cases hlt : q < n2
  ·obtain ⟨gk, pr, rfl, hrk⟩ := HK.out q hlt
   obtain ⟨gc, pc, nc, cc, rfl, hcc, hsm⟩ := HC.out q hlt
   have lk : gk < w.heap.size := World.block_lt_of_cell? _ _ (hrk 0 _ rfl)
   have lc : gc < w.heap.size := World.block_lt_of_cell? _ _ hcc
   have hsz := (box2 HX.out).size
   have lk2 : gk < wr.heap.size := by omega
   have lc2 : gc < wr.heap.size := by omega
   have HRJ := Lib.hid (range_same hrk ((box2 HX.out).block gk lk))
   have kc := Xk.ext_cell (box2 HX.out) hcc
   have hlb : (q : Int) < (n2 : Int) := by omega
   have HSM := Lib.hid hsm
   clear hsm hrk hcc
   go_wp2_with (refine wpList_load_mid rfl 100 _ rfl gk (q * 4) rfl _ _ HRJ.out Tryz.underlying100 rfl (by kernel_rfl) ?_)
   refine (HSM.out _ (Xk.Ext.trans (box2 HX.out) (boxX _ _))).mono ?_
   rintro e w2 ⟨rfl, hx2⟩
   go_wp2_with fail
   go_roundw
   case rel => exact ⟨q + 1, by omega, by go_num, Xk.Ext.trans HX.out (Xk.Ext.trans (boxX _ _) hx2)⟩
   case measure => simp [intOf]; omega
  ·have hlb : ¬ (q : Int) < (n2 : Int) := by omega
   have r3 := boxR HX.out 3 (.slice p3 n3 c3) rfl
   go_wp2_with fail
   refine (HQ.out _ (box2 HX.out)).mono ?_
   rintro e w2 ⟨rfl, hx2⟩
   have HX2 := Lib.hid (Xk.Ext.trans HX.out hx2)
   clear hx2 r3
   have r1 := boxR HX2.out 1 (.slice p1 n1 c1) rfl
   go_wp2_with fail
   refine (HT.out _ (box2 HX2.out)).mono ?_
   rintro e w3 ⟨rfl, hx3⟩
   go_wp2_with fail
   go_ret
   exact ⟨rfl, Xk.Ext.trans (box2 HX2.out) hx3⟩
theorem SlcAt.none {α : Type} {S : Nat → Prop} {w : World} {sz : Nat} {R : α → List Value → Prop} {v : Value} {l : List α} (h : SlcAt S w sz R l v) (hl : l = []) : v = nilS := by
 subst hl
 rcases h with ⟨-, rfl⟩ | ⟨g, c, us, -, -, h0, -⟩
 ·rfl
 ·simp at h0
theorem ExprAt.zero {S : Nat → Prop} {w : World} {e : P12.E} {l : List Value} (h : ExprAt S w e l) (he : e = .none) : l = noE := by
 subst he
 exact h
theorem SlcAt.ext1 {α : Type} {S : Nat → Prop} {w W : World} {sz : Nat} {R : α → List Value → Prop} {l : List α} {v : Value} (h : SlcAt S w sz R l v) (hx : Xk.Ext w W) : SlcAt S W sz R l v := h.keep (fun b _ hl => hx.block b hl) (fun b hb _ => hb) (fun _ _ h => h)
theorem some_parts {α : Type} {l : List α} {m : Nat} {p : α → Bool} (h : P12.some l m p = true) : (1 ≤ l.length ∧ l.length ≤ m) ∧ ∀ x ∈ l, p x = true := by
 simp only [P12.some, Bool.and_eq_true, decide_eq_true_eq, List.all_eq_true] at h
 exact ⟨h.1, h.2⟩
theorem names_some {S : Nat → Prop} {w : World} {l : List P12.T} {v : Value} (h : SlcAt S w 1 strR l v) (hs : P12.some l 16 P12.isName = true) (W : World) (hx : Xk.Ext w W) :
  Calls Tryz.prog 21 #[v, .int .i64 16, .func (.func 16) #[] #[]] W fun e w' => e = .returned (.bool true) ∧ Xk.Ext W w' := by
 obtain ⟨h1, h2⟩ := some_parts hs
 exact someStr ent_isName 16 W (h.ext1 hx) h1 (by omega) (fun x u _ hu => ⟨x, hu⟩) (fun x a hm hu W' _ => by
  have : bs a = bs x := by
   have hu' : [bs a] = [bs x] := hu
   injection hu'
  rw [this]
  exact isName_any x (h2 x hm) W')
theorem cols_all {S : Nat → Prop} {w : World} {l : List (P12.T × Int × Bool)} {v : Value} (h : SlcAt S w 3 colR l v) (hl : l.length ≤ 16) (hs : l.all (fun c => P12.isName c.1 && decide (1 ≤ c.2.1) && decide (c.2.1 ≤ 3)) = true) (W : World) (hx : Xk.Ext w W) :
  Calls Tryz.prog 48 #[v, .func (.func 49) #[] #[]] W fun e w' => e = .returned (.bool true) ∧ Xk.Ext W w' := by
 refine allOfCol ent_col W (h.ext1 hx) (by omega) (fun x u _ hu => ⟨x.1, x.2.1, x.2.2, hu⟩) (fun x a ty b hm hu W' hx' => ?_)
 have hp := List.all_eq_true.1 hs x hm
 simp only [Bool.and_eq_true, decide_eq_true_eq] at hp
 have hu' : [bs a, .int .i64 ty, .bool b] = [bs x.1, .int .i64 x.2.1, .bool x.2.2] := hu
 rw [hu']
 exact is_col x.1 x.2.1 x.2.2 hp.1.1 hp.1.2 hp.2 W'
theorem blank_of {S : Nat → Prop} {w : World} {e : P12.E} {l : List Value} (h : ExprAt S w e l) (hm : P12.maybeE e = true) : ∃ b, ∀ W, Calls Tryz.prog 39 #[.agg l.toArray] W fun r w' => r = .returned (.bool b) ∧ Xk.Ext W w' := by
 cases hn : P12.noE e
 ·have hE : P12.isE e = true := by simpa [P12.maybeE, hn] using hm
  obtain ⟨kd, op, vk, vi, vs, tb, nm, pp, pm, pc, rfl, hk⟩ := h.kind hE
  exact ⟨false, fun W => blank_some kd op vk vi vs tb nm pp pm pc hk W⟩
 ·cases e <;> first | cases hn | skip
  unfold ExprAt at h
  subst h
  exact ⟨true, fun W => blank_none W⟩
theorem form_1 {S : Nat → Prop} {w : World} {x : P12.St} {l : List Value} {tc tk tq kc cols rows sets : Value} {wh : List Value} {items frm : Value} {jn : List Value} {grp ord : Value} (h : StmtAt S w x l tc tk tq kc cols rows sets wh items frm jn grp ord) (hx : x = P12.keptOf x) (hk : x.kind = 1) : l = stmtL x.kind x.tb.name tc tk tq kc [] [] false nilS nilS nilS noE nilS nilS noE nilS nilS 0 := by
 have e : x = { kind := x.kind, tb := x.tb, keyCols := x.keyCols } := hx.trans (by
  unfold P12.keptOf
  rw [if_pos hk, hk])
 have z_name : x.name = [] := congrArg P12.St.name e
 have z_on : x.on = [] := congrArg P12.St.on e
 have z_unique : x.unique = false := congrArg P12.St.unique e
 have z_cols : x.cols = [] := congrArg P12.St.cols e
 have z_rows : x.rows = [] := congrArg P12.St.rows e
 have z_sets : x.sets = [] := congrArg P12.St.sets e
 have z_wher : x.wher = .none := congrArg P12.St.wher e
 have z_items : x.items = [] := congrArg P12.St.items e
 have z_frm : x.frm = [] := congrArg P12.St.frm e
 have z_join : x.join = .none := congrArg P12.St.join e
 have z_group : x.group = [] := congrArg P12.St.group e
 have z_order : x.order = [] := congrArg P12.St.order e
 have z_limit : x.limit = 0 := congrArg P12.St.limit e
 have s_cols : cols = nilS := h.cols.none (by rw [z_cols])
 have s_rows : rows = nilS := h.rows.none (by rw [z_rows])
 have s_sets : sets = nilS := h.sets.none (by rw [z_sets])
 have s_items : items = nilS := h.items.none (by rw [z_items])
 have s_frm : frm = nilS := h.frm.none (by rw [z_frm])
 have s_grp : grp = nilS := h.grp.none (by rw [z_group])
 have s_ord : ord = nilS := h.ord.none (by rw [z_order])
 have s_wh : wh = noE := h.wh.zero z_wher
 have s_jn : jn = noE := h.jn.zero z_join
 rw [h.form, s_cols, s_rows, s_sets, s_items, s_frm, s_grp, s_ord, s_wh, s_jn, z_name, z_on, z_unique, z_limit]
theorem form_3 {S : Nat → Prop} {w : World} {x : P12.St} {l : List Value} {tc tk tq kc cols rows sets : Value} {wh : List Value} {items frm : Value} {jn : List Value} {grp ord : Value} (h : StmtAt S w x l tc tk tq kc cols rows sets wh items frm jn grp ord) (hx : x = P12.keptOf x) (hk : x.kind = 3) : l = stmtL x.kind [] nilS nilS nilS nilS x.name x.on x.unique cols nilS nilS noE nilS nilS noE nilS nilS 0 := by
 have e : x = { kind := x.kind, name := x.name, on := x.on, unique := x.unique, cols := x.cols } := hx.trans (by
  unfold P12.keptOf
  rw [if_neg (by omega), if_pos hk, hk])
 have z_tb : x.tb = {} := congrArg P12.St.tb e
 have z_keyCols : x.keyCols = [] := congrArg P12.St.keyCols e
 have z_rows : x.rows = [] := congrArg P12.St.rows e
 have z_sets : x.sets = [] := congrArg P12.St.sets e
 have z_wher : x.wher = .none := congrArg P12.St.wher e
 have z_items : x.items = [] := congrArg P12.St.items e
 have z_frm : x.frm = [] := congrArg P12.St.frm e
 have z_join : x.join = .none := congrArg P12.St.join e
 have z_group : x.group = [] := congrArg P12.St.group e
 have z_order : x.order = [] := congrArg P12.St.order e
 have z_limit : x.limit = 0 := congrArg P12.St.limit e
 have s_tc : tc = nilS := h.tc.none (by rw [z_tb])
 have s_tk : tk = nilS := h.tk.none (by rw [z_tb])
 have s_tq : tq = nilS := h.tq.none (by rw [z_tb])
 have s_kc : kc = nilS := h.kc.none (by rw [z_keyCols])
 have s_rows : rows = nilS := h.rows.none (by rw [z_rows])
 have s_sets : sets = nilS := h.sets.none (by rw [z_sets])
 have s_items : items = nilS := h.items.none (by rw [z_items])
 have s_frm : frm = nilS := h.frm.none (by rw [z_frm])
 have s_grp : grp = nilS := h.grp.none (by rw [z_group])
 have s_ord : ord = nilS := h.ord.none (by rw [z_order])
 have s_wh : wh = noE := h.wh.zero z_wher
 have s_jn : jn = noE := h.jn.zero z_join
 rw [h.form, s_tc, s_tk, s_tq, s_kc, s_rows, s_sets, s_items, s_frm, s_grp, s_ord, s_wh, s_jn, z_tb, z_limit]
theorem same_at {S : Nat → Prop} {w : World} {x : P12.St} {l : List Value} {tc tk tq kc cols rows sets : Value} {wh : List Value} {items frm : Value} {jn : List Value} {grp ord : Value} (h : StmtAt S w x l tc tk tq kc cols rows sets wh items frm jn grp ord)
  (hw : P12.maybeE x.wher = true) (hj : P12.maybeE x.join = true) (W : World) : Calls Tryz.prog 13 #[.agg l.toArray, .agg l.toArray] W fun e w' => e = .returned (.bool true) ∧ Xk.Ext W w' := by
 obtain ⟨b1, hb1⟩ := blank_of h.wh hw
 obtain ⟨b2, hb2⟩ := blank_of h.jn hj
 have hl := h.form
 obtain ⟨p1, c1, rfl⟩ := h.tc.len
 obtain ⟨p2, c2, rfl⟩ := h.tk.len
 obtain ⟨p3, c3, rfl⟩ := h.tq.len
 obtain ⟨p4, c4, rfl⟩ := h.kc.len
 obtain ⟨p5, c5, rfl⟩ := h.cols.len
 obtain ⟨p6, c6, rfl⟩ := h.rows.len
 obtain ⟨p7, c7, rfl⟩ := h.sets.len
 obtain ⟨p8, c8, rfl⟩ := h.items.len
 obtain ⟨p9, c9, rfl⟩ := h.frm.len
 obtain ⟨p10, c10, rfl⟩ := h.grp.len
 obtain ⟨p11, c11, rfl⟩ := h.ord.len
 obtain ⟨k1, o1, vk1, vi1, vs1, tb1, nm1, q1, m1, d1, rfl⟩ := h.wh.form
 obtain ⟨k2, o2, vk2, vi2, vs2, tb2, nm2, q2, m2, d2, rfl⟩ := h.jn.form
 exact same_self _ _ _ _ _ _ p1 p2 p3 p4 p5 p6 p7 p8 p9 p10 p11 _ _ _ _ _ _ _ _ _ _ _ c1 c2 c3 c4 c5 c6 c7 c8 c9 c10 c11 k1 o1 vk1 vi1 vs1 tb1 nm1 q1 m1 d1 k2 o2 vk2 vi2 vs2 tb2 nm2 q2 m2 d2 b1 b2 l hl hb1 hb2 W
theorem slc_elem {α : Type} {S : Nat → Prop} {w : World} {sz : Nat} {R : α → List Value → Prop} {l : List α} {p : Option Addr} {n c : Nat} (h : SlcAt S w sz R l (.slice p n c)) {j : Nat} (hj : j < l.length) : ∃ g u, p = some ⟨g, 0, none⟩ ∧ R l[j] u ∧ w.rangeAt g (j * sz) u := by
 obtain ⟨g, rfl⟩ := h.root (by omega)
 obtain ⟨-, -, he⟩ := h.elem
 obtain ⟨u, hu, -, hr⟩ := he j _ (List.getElem?_eq_getElem hj)
 exact ⟨g, u, rfl, hu, hr⟩
theorem itself_any (s : P12.T) (w : World) : Calls Tryz.prog 87 #[bs s] w fun r w' => r = .returned (bs (s)) ∧ Xk.Ext w w' := by
 go_enter Tryz.func87, Tryz.ntmps87
 go_wp2_with fail
 go_ret
 exact ⟨rfl, Below.refl _ _⟩
theorem ent_itself : Ent 87 := ⟨fun _ _ => by go_simp, by decide⟩
theorem box_big {w W : World} {o : Obj} (hx : Xk.Ext (w.alloc o) W) : w.heap.size < W.heap.size := by have := hx.size; rw [World.size_alloc] at this; omega
theorem print_idxu (kind : Int) (hkd : kind = 3) (nm on : P12.T) (bnm : nm.length ≤ 1000000) (bon : on.length ≤ 1000000) (p1 : Option Addr) (n1 c1 : Nat) (hn1' : 0 < n1) (l : List Value) (hl : l = stmtL kind [] nilS nilS nilS nilS nm on true (.slice p1 n1 c1) nilS nilS noE nilS nilS noE nilS nilS 0) (w : World)
  (rc : P12.T) (brc : rc.length ≤ 1000000000)
  (hC : ∀ W, Xk.Ext w W → Calls Tryz.prog 86 #[.slice p1 n1 c1, .func (.func 87) #[] #[]] W fun r w' => r = .returned (bs rc) ∧ Xk.Ext W w')
  (hIs : ∀ W, Xk.Ext w W → Calls Tryz.prog 9 #[.agg l.toArray] W fun e w' => e = .returned (.bool true) ∧ Xk.Ext W w') :
  Calls Tryz.prog 36 #[.agg l.toArray] w fun r w' => r = .returned (.tuple #[bs ([67, 82, 69, 65, 84, 69, 32, 85, 78, 73, 81, 85, 69, 32, 73, 78, 68, 69, 88, 32] ++ nm ++ [32, 79, 78, 32] ++ on ++ ([32, 40] ++ rc ++ [41])), .int .i64 0]) ∧ Xk.Ext w w' := by
 have HC := Lib.hid hC
 have hn1 : (kind == 1) = false := by subst hkd; rfl
 have hn2 : (kind == 2) = false := by subst hkd; rfl
 have hn3 : (kind == 3) = true := by subst hkd; rfl
 clear hkd
 have z4 : (0 : Int) < (n1 : Int) := by omega
 have HIs := Lib.hid hIs
 have hlen : l.length = 37 := by rw [hl]; rfl
 have HSZ : Hid ((Tryz.prog.info? 46).map (·.size) = some l.toArray.size) := Lib.hid (by rw [List.size_toArray, hlen]; kernel_rfl)
 have HL := Lib.hid hl
 have hga := heap_new w (.cells l.toArray 46)
 clear hl hlen hIs hC
 obtain ⟨RS, hRS⟩ : ∃ R : P12.T, R = ([67, 82, 69, 65, 84, 69, 32, 85, 78, 73, 81, 85, 69, 32, 73, 78, 68, 69, 88, 32] ++ nm ++ [32, 79, 78, 32] ++ on ++ ([32, 40] ++ rc ++ [41])) := ⟨_, rfl⟩
 rw [← hRS]
 have HRS := Lib.hid hRS
 clear hRS
 go_enter Tryz.func36, Tryz.ntmps36
 go_wp2_with (refine wpList_loadRow rfl 46 _ rfl w.heap.size _ 46 (0, 0) _ rfl hga Tryz.underlying46 rfl HSZ.out ?_)
 refine (HIs.out _ (boxX _ _)).mono ?_
 rintro e w1 ⟨rfl, hx1⟩
 have HX1 := Lib.hid hx1
 have lt1 := box_big hx1
 have kc := boxR hx1 0 (.int .i64 kind) (by rw [HL.out]; rfl)
 clear hx1 hga
 have q9 := boxR HX1.out 9 (.slice p1 n1 c1) (by rw [HL.out]; rfl)
 go_wp2_with fail
 refine (HC.out _ (box2 HX1.out)).mono ?_
 rintro e w2 ⟨rfl, hx2⟩
 have HX2 := Lib.hid (Xk.Ext.trans HX1.out hx2)
 have lt2 := box_big (Xk.Ext.trans HX1.out hx2)
 clear hx2 kc q9
 have kc := boxR HX2.out 0 (.int .i64 kind) (by rw [HL.out]; rfl)
 have q6 := boxR HX2.out 6 (bs nm) (by rw [HL.out]; rfl)
 have q7 := boxR HX2.out 7 (bs on) (by rw [HL.out]; rfl)
 have q8 := boxR HX2.out 8 (.bool true) (by rw [HL.out]; rfl)
 go_wp2_with fail
 go_ret2
 refine ⟨?_, box2 HX2.out⟩
 exact congrArg (fun x => Ending.returned (.tuple #[.string x, .int .i64 0])) (by rw [HRS.out]; apply bytes_eq; simp)
theorem print_idxi (kind : Int) (hkd : kind = 3) (nm on : P12.T) (bnm : nm.length ≤ 1000000) (bon : on.length ≤ 1000000) (p1 : Option Addr) (n1 c1 : Nat) (hn1' : 0 < n1) (l : List Value) (hl : l = stmtL kind [] nilS nilS nilS nilS nm on false (.slice p1 n1 c1) nilS nilS noE nilS nilS noE nilS nilS 0) (w : World)
  (rc : P12.T) (brc : rc.length ≤ 1000000000)
  (hC : ∀ W, Xk.Ext w W → Calls Tryz.prog 86 #[.slice p1 n1 c1, .func (.func 87) #[] #[]] W fun r w' => r = .returned (bs rc) ∧ Xk.Ext W w')
  (hIs : ∀ W, Xk.Ext w W → Calls Tryz.prog 9 #[.agg l.toArray] W fun e w' => e = .returned (.bool true) ∧ Xk.Ext W w') :
  Calls Tryz.prog 36 #[.agg l.toArray] w fun r w' => r = .returned (.tuple #[bs ([67, 82, 69, 65, 84, 69, 32, 73, 78, 68, 69, 88, 32] ++ nm ++ [32, 79, 78, 32] ++ on ++ ([32, 40] ++ rc ++ [41])), .int .i64 0]) ∧ Xk.Ext w w' := by
 have HC := Lib.hid hC
 have hn1 : (kind == 1) = false := by subst hkd; rfl
 have hn2 : (kind == 2) = false := by subst hkd; rfl
 have hn3 : (kind == 3) = true := by subst hkd; rfl
 clear hkd
 have z4 : (0 : Int) < (n1 : Int) := by omega
 have HIs := Lib.hid hIs
 have hlen : l.length = 37 := by rw [hl]; rfl
 have HSZ : Hid ((Tryz.prog.info? 46).map (·.size) = some l.toArray.size) := Lib.hid (by rw [List.size_toArray, hlen]; kernel_rfl)
 have HL := Lib.hid hl
 have hga := heap_new w (.cells l.toArray 46)
 clear hl hlen hIs hC
 obtain ⟨RS, hRS⟩ : ∃ R : P12.T, R = ([67, 82, 69, 65, 84, 69, 32, 73, 78, 68, 69, 88, 32] ++ nm ++ [32, 79, 78, 32] ++ on ++ ([32, 40] ++ rc ++ [41])) := ⟨_, rfl⟩
 rw [← hRS]
 have HRS := Lib.hid hRS
 clear hRS
 go_enter Tryz.func36, Tryz.ntmps36
 go_wp2_with (refine wpList_loadRow rfl 46 _ rfl w.heap.size _ 46 (0, 0) _ rfl hga Tryz.underlying46 rfl HSZ.out ?_)
 refine (HIs.out _ (boxX _ _)).mono ?_
 rintro e w1 ⟨rfl, hx1⟩
 have HX1 := Lib.hid hx1
 have lt1 := box_big hx1
 have kc := boxR hx1 0 (.int .i64 kind) (by rw [HL.out]; rfl)
 clear hx1 hga
 have q9 := boxR HX1.out 9 (.slice p1 n1 c1) (by rw [HL.out]; rfl)
 go_wp2_with fail
 refine (HC.out _ (box2 HX1.out)).mono ?_
 rintro e w2 ⟨rfl, hx2⟩
 have HX2 := Lib.hid (Xk.Ext.trans HX1.out hx2)
 have lt2 := box_big (Xk.Ext.trans HX1.out hx2)
 clear hx2 kc q9
 have kc := boxR HX2.out 0 (.int .i64 kind) (by rw [HL.out]; rfl)
 have q6 := boxR HX2.out 6 (bs nm) (by rw [HL.out]; rfl)
 have q7 := boxR HX2.out 7 (bs on) (by rw [HL.out]; rfl)
 have q8 := boxR HX2.out 8 (.bool false) (by rw [HL.out]; rfl)
 go_wp2_with fail
 go_ret2
 refine ⟨?_, box2 HX2.out⟩
 exact congrArg (fun x => Ending.returned (.tuple #[.string x, .int .i64 0])) (by rw [HRS.out]; apply bytes_eq; simp)
theorem print_tab (kind : Int) (hkd : kind = 1) (tn : P12.T) (p1 p2 p3 p4 : Option Addr) (n1 n2 n3 n4 c1 c2 c3 c4 : Nat) (l : List Value) (hl : l = stmtL kind tn (.slice p1 n1 c1) (.slice p2 n2 c2) (.slice p3 n3 c3) (.slice p4 n4 c4) [] [] false nilS nilS nilS noE nilS nilS noE nilS nilS 0) (w : World)
  (tt : P12.T) (btt : tt.length ≤ 8000000000)
  (hQ : ∀ W, Xk.Ext w W → Calls Tryz.prog 88 #[.agg l.toArray] W fun r w' => r = .returned (bs tt) ∧ Xk.Ext W w')
  (hIs : ∀ W, Xk.Ext w W → Calls Tryz.prog 9 #[.agg l.toArray] W fun e w' => e = .returned (.bool true) ∧ Xk.Ext W w') :
  Calls Tryz.prog 36 #[.agg l.toArray] w fun r w' => r = .returned (.tuple #[bs (tt), .int .i64 0]) ∧ Xk.Ext w w' := by
 have HQ := Lib.hid hQ
 have hn1 : (kind == 1) = true := by subst hkd; rfl
 clear hkd
 have HIs := Lib.hid hIs
 have hlen : l.length = 37 := by rw [hl]; rfl
 have HSZ : Hid ((Tryz.prog.info? 46).map (·.size) = some l.toArray.size) := Lib.hid (by rw [List.size_toArray, hlen]; kernel_rfl)
 have HL := Lib.hid hl
 have hga := heap_new w (.cells l.toArray 46)
 clear hl hlen hIs hQ
 obtain ⟨RS, hRS⟩ : ∃ R : P12.T, R = (tt) := ⟨_, rfl⟩
 rw [← hRS]
 have HRS := Lib.hid hRS
 clear hRS
 go_enter Tryz.func36, Tryz.ntmps36
 go_wp2_with (refine wpList_loadRow rfl 46 _ rfl w.heap.size _ 46 (0, 0) _ rfl hga Tryz.underlying46 rfl HSZ.out ?_)
 refine (HIs.out _ (boxX _ _)).mono ?_
 rintro e w1 ⟨rfl, hx1⟩
 have HX1 := Lib.hid hx1
 have lt1 := box_big hx1
 have kc := boxR hx1 0 (.int .i64 kind) (by rw [HL.out]; rfl)
 clear hx1 hga
 have q9 := boxR HX1.out 9 (nilS) (by rw [HL.out]; rfl)
 have hb2 := boxRow HX1.out
 go_wp2_with (refine wpList_loadRow rfl 46 _ rfl w.heap.size _ 46 (0, 0) _ rfl hb2 Tryz.underlying46 rfl HSZ.out ?_)
 refine (HQ.out _ (box2 HX1.out)).mono ?_
 rintro e w2 ⟨rfl, hx2⟩
 go_wp2_with fail
 go_ret2
 refine ⟨?_, Xk.Ext.trans (box2 HX1.out) hx2⟩
 rw [HRS.out]; rfl
end Go.Proofs.YtlpcdpkgnfdpeaaGreatDoor
namespace P12
theorem join_cons (a b : T) (l : List T) : join (a :: b :: l) = a ++ [44, 32] ++ join (b :: l) := by simp [join, Go.Lib.join, List.intercalate, List.intersperse]
theorem join_one (a : T) : join [a] = a := by simp [join, Go.Lib.join, List.intercalate]
theorem join_mem : ∀ {l : List T} {a : T}, a ∈ l → a.length ≤ (join l).length
 | [b], a, h => by simp only [List.mem_singleton] at h; subst h; rw [join_one]; exact Nat.le_refl _
 | b :: c :: l, a, h => by
  rw [join_cons]
  simp only [List.length_append]
  rcases List.mem_cons.1 h with rfl | h
  ·omega
  ·have := join_mem h; omega
end P12
namespace Go.Proofs.YtlpcdpkgnfdpeaaGreatDoor
open Go.RowKit
theorem names_row {S : Nat → Prop} {w W : World} {l : List P12.T} {v : Value} (h : SlcAt S w 1 strR l v) (hl : l.length ≤ 16) (hj : (P12.join l).length ≤ 1000000) (hx : Xk.Ext w W) :
  Calls Tryz.prog 86 #[v, .func (.func 87) #[] #[]] W fun r w' => r = .returned (bs (P12.join l)) ∧ Xk.Ext W w' := by
 have := rowStr ent_itself (fun x : P12.T => x) W (h.ext1 hx) (by omega) (by simpa using Nat.le_trans hj (by omega)) (fun x u _ hu => ⟨x, hu⟩) (fun x a hm hu W' _ => by
  have hu' : [bs a] = [bs x] := hu
  have e : bs a = bs x := by injection hu'
  rw [e]
  exact itself_any x W')
 simpa using this
theorem StmtIn.at {S : Nat → Prop} {w W : World} {x : P12.St} {l : List Value} (h : StmtIn S w x l) (hx : Xk.Ext w W) : StmtIn S W x l := h.keep (fun b _ hl => hx.block b hl) (fun b hb _ => hb)
end Go.Proofs.YtlpcdpkgnfdpeaaGreatDoor
