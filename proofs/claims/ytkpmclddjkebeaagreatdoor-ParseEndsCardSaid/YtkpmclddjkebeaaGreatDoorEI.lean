/- What the claim's proof leans on, part 9: walks of functions and plain laws. -/
import Derived.Test.YtkpmclddjkebeaaGreatDoorEH
import Derived.Test.YtkpmclddjkebeaaGreatDoorEA
import Derived.Test.YtkpmclddjkebeaaGreatDoorEC
import Derived.Lib.Join
import Derived.Test.YtkpmclddjkebeaaGreatDoorEB
set_option linter.unusedSimpArgs false
set_option linter.unusedVariables false
set_option maxRecDepth 100000
set_option maxHeartbeats 8000000
namespace Go.Proofs.YtkpmclddjkebeaaGreatDoor
open Go.RowKit
theorem SlcAt.len {α : Type} {S : Nat → Prop} {w : World} {sz : Nat} {R : α → List Value → Prop} {l : List α} {v : Value} (h : SlcAt S w sz R l v) : ∃ p c, v = .slice p l.length c := by
 rcases h with ⟨rfl, rfl⟩ | ⟨g, c, us, rfl, -⟩
 ·exact ⟨_, _, rfl⟩
 ·exact ⟨_, _, rfl⟩
theorem SlcAt.root {α : Type} {S : Nat → Prop} {w : World} {sz : Nat} {R : α → List Value → Prop} {l : List α} {p : Option Addr} {n c : Nat} (h : SlcAt S w sz R l (.slice p n c)) (hl : 0 < l.length) : ∃ g, p = some ⟨g, 0, none⟩ := by
 rcases h with ⟨rfl, -⟩ | ⟨g, c, us, e, -⟩
 ·simp at hl
 ·cases e; exact ⟨g, rfl⟩
theorem allClExpr {FI : FuncId} (hent : Ent FI) (kd op vk vi : Int) (vs tb nm : P12.T) (pp : Option Addr) (pm pc : Nat) (bx : Nat) (W : World) (hb : W.cell? ⟨bx, 0, none⟩ = some (.func (.func FI) #[] #[])) (hF : ∀ W', Xk.Ext W W' → Calls Tryz.prog FI #[.agg (exprL kd op vk vi vs tb nm (.slice pp pm pc)).toArray] W' fun e w' => e = .returned (.bool true) ∧ Xk.Ext W' w') :
  Calls Tryz.prog 177 #[.agg (exprL kd op vk vi vs tb nm (.slice pp pm pc)).toArray, .pointer (some ⟨bx, 0, none⟩)] W fun e w' => e = .returned (.bool false) ∧ Xk.Ext W w' := by
 have hnot := notrun
 have HF := Lib.hid hF
 have hcf := hent.run
 have hci := hent.no
 have lb := World.block_lt_of_cell? _ _ hb
 clear hF hent
 go_enter Tryz.func177, Tryz.ntmps177
 go_wp2_with (first | (refine wpList_loadRow rfl 35 _ rfl (W.heap.size) _ 35 (0, 0) _ rfl (heap_new W _) Tryz.underlying35 rfl (by kernel_rfl) ?_) | fail)
 refine (HF.out _ Xk.xt).mono ?_
 rintro e w' ⟨rfl, hx⟩
 go_wp2_with fail
 go_ret
 exact ⟨rfl, Xk.Ext.trans Xk.xt hx⟩
theorem entClExpr : Ent 177 := ⟨fun _ _ => by go_simp, by decide⟩
theorem allIdxExpr {α : Type} {FI : FuncId} (hent : Ent FI) {S : Nat → Prop} {R : α → List Value → Prop} {l : List α} {v : Value} (w : World) (h : SlcAt S w 10 R l v) (hl : l.length ≤ 1000000) (hform : ∀ x u, x ∈ l → R x u → ∃ kd op vk vi : Int, ∃ vs tb nm : P12.T, ∃ pp : Option Addr, ∃ pm pc : Nat,  u = exprL kd op vk vi vs tb nm (.slice pp pm pc)) (bx : Nat) (hb : w.cell? ⟨bx, 0, none⟩ = some (.func (.func FI) #[] #[]))
  (hF : ∀ x (kd op vk vi : Int) (vs tb nm : P12.T) (pp : Option Addr) (pm pc : Nat), x ∈ l → R x (exprL kd op vk vi vs tb nm (.slice pp pm pc)) → ∀ W, Xk.Ext w W → Calls Tryz.prog FI #[.agg (exprL kd op vk vi vs tb nm (.slice pp pm pc)).toArray] W fun e w' => e = .returned (.bool true) ∧ Xk.Ext W w') :
  Calls Tryz.prog 220 #[v, .func (.func 177) #[] #[.pointer (some ⟨bx, 0, none⟩)]] w fun e w' => e = .returned (.int .i64 (-1)) ∧ Xk.Ext w w' := by
 have hcf := entClExpr.run
 have hci := entClExpr.no
 have HF := Lib.hid hF
 have HS := Lib.hid h
 have HFM := Lib.hid hform
 obtain ⟨p, c, rfl⟩ := h.len
 clear hF hform h
 go_enter Tryz.func220, Tryz.ntmps220
 go_wp2_with fail
 go_loopw [8] (fun x wr => ∃ q : Nat, q ≤ l.length ∧ x = .int .i64 q ∧ Xk.Ext w wr) (fun x _ => l.length - (intOf x).toNat)
 case atStart => exact ⟨0, by omega, rfl, Below.refl _ _⟩
 case round =>
  obtain ⟨q, hq, rfl, hx⟩ := hrel
  have HX := Lib.hid hx
  clear hx
  by_cases hlt : q < l.length
  ·obtain ⟨g, rfl⟩ := HS.out.root (by omega)
   obtain ⟨-, -, he⟩ := HS.out.elem
   obtain ⟨u, hu, -, hr⟩ := he q _ (List.getElem?_eq_getElem hlt)
   have hmem := List.getElem_mem hlt
   obtain ⟨kd, op, vk, vi, vs, tb, nm, pp, pm, pc, rfl⟩ := HFM.out _ _ hmem hu
   have hg := World.block_lt_of_cell? _ _ (hr 0 _ rfl)
   have HRJ := Lib.hid (range_same hr (HX.out.block g hg))
   have hbr := Xk.ext_cell HX.out hb
   have HC := Lib.hid (allClExpr hent kd op vk vi vs tb nm pp pm pc bx wr hbr (fun W' hx' => HF.out _ kd op vk vi vs tb nm pp pm pc hmem hu W' (Xk.Ext.trans HX.out hx')))
   have hlb : (q : Int) < (l.length : Int) := by omega
   have hwg : g < wr.heap.size := Nat.lt_of_lt_of_le hg HX.out.size
   
   clear hr hu he hbr
   go_wp2_with (first | (refine wpList_load_mid rfl 35 _ rfl g (q * 10) rfl _ _ HRJ.out Tryz.underlying35 rfl (by kernel_rfl) ?_))
   refine HC.out.mono ?_
   rintro e w' ⟨rfl, hx'⟩
   go_wp2_with fail
   go_roundw
   case rel => exact ⟨q + 1, by omega, by go_num, Xk.Ext.trans HX.out hx'⟩
   case measure => simp [intOf]; omega
  ·have hlb : ¬ (q : Int) < (l.length : Int) := by omega
   go_wp2_with fail
   go_ret
   exact ⟨rfl, HX.out⟩
theorem allOfExpr {α : Type} {FI : FuncId} (hent : Ent FI) {S : Nat → Prop} {R : α → List Value → Prop} {l : List α} {v : Value} (w : World) (h : SlcAt S w 10 R l v) (hl : l.length ≤ 1000000) (hform : ∀ x u, x ∈ l → R x u → ∃ kd op vk vi : Int, ∃ vs tb nm : P12.T, ∃ pp : Option Addr, ∃ pm pc : Nat,  u = exprL kd op vk vi vs tb nm (.slice pp pm pc))
  (hF : ∀ x (kd op vk vi : Int) (vs tb nm : P12.T) (pp : Option Addr) (pm pc : Nat), x ∈ l → R x (exprL kd op vk vi vs tb nm (.slice pp pm pc)) → ∀ W, Xk.Ext w W → Calls Tryz.prog FI #[.agg (exprL kd op vk vi vs tb nm (.slice pp pm pc)).toArray] W fun e w' => e = .returned (.bool true) ∧ Xk.Ext W w') :
  Calls Tryz.prog 101 #[v, .func (.func FI) #[] #[]] w fun e w' => e = .returned (.bool true) ∧ Xk.Ext w w' := by
 have hmf := mkfun
 have hnot := notrun
 have hxa : Xk.Ext w (w.alloc (.cells #[.func (.func FI) #[] #[]] 94)) := (Below.refl _ _).alloc (Nat.le_refl _) _
 have HI := Lib.hid (allIdxExpr hent (w.alloc (.cells #[.func (.func FI) #[] #[]] 94)) (h.keep (fun b _ hl => hxa.block b hl) (fun _ hb _ => hb) (fun _ _ h => h)) hl hform w.heap.size (cell_new w _ _)
  (fun x kd op vk vi vs tb nm pp pm pc hm hr W hx => hF x kd op vk vi vs tb nm pp pm pc hm hr W (Xk.Ext.trans hxa hx)))
 have HXA := Lib.hid hxa
 clear hF hform h hxa
 go_enter Tryz.func101, Tryz.ntmps101
 go_wp2_with (go_at_call 176; go_in)
 refine HI.out.mono ?_
 rintro e w' ⟨rfl, hx'⟩
 go_wp2_with fail
 go_ret
 exact ⟨rfl, Xk.Ext.trans HXA.out hx'⟩
theorem allClItem {FI : FuncId} (hent : Ent FI) (b : Bool) (kd op vk vi : Int) (vs tb nm : P12.T) (pp : Option Addr) (pm pc : Nat) (a : P12.T) (bx : Nat) (W : World) (hb : W.cell? ⟨bx, 0, none⟩ = some (.func (.func FI) #[] #[])) (hF : ∀ W', Xk.Ext W W' → Calls Tryz.prog FI #[.agg (Value.bool b :: (exprL kd op vk vi vs tb nm (.slice pp pm pc) ++ [bs a])).toArray] W' fun e w' => e = .returned (.bool true) ∧ Xk.Ext W' w') :
  Calls Tryz.prog 225 #[.agg (Value.bool b :: (exprL kd op vk vi vs tb nm (.slice pp pm pc) ++ [bs a])).toArray, .pointer (some ⟨bx, 0, none⟩)] W fun e w' => e = .returned (.bool false) ∧ Xk.Ext W w' := by
 have hnot := notrun
 have HF := Lib.hid hF
 have hcf := hent.run
 have hci := hent.no
 have lb := World.block_lt_of_cell? _ _ hb
 clear hF hent
 go_enter Tryz.func225, Tryz.ntmps225
 go_wp2_with (first | (refine wpList_loadRow rfl 88 _ rfl (W.heap.size) _ 88 (0, 0) _ rfl (heap_new W _) Tryz.underlying88 rfl (by kernel_rfl) ?_) | fail)
 refine (HF.out _ Xk.xt).mono ?_
 rintro e w' ⟨rfl, hx⟩
 go_wp2_with fail
 go_ret
 exact ⟨rfl, Xk.Ext.trans Xk.xt hx⟩
theorem entClItem : Ent 225 := ⟨fun _ _ => by go_simp, by decide⟩
theorem allIdxItem {α : Type} {FI : FuncId} (hent : Ent FI) {S : Nat → Prop} {R : α → List Value → Prop} {l : List α} {v : Value} (w : World) (h : SlcAt S w 12 R l v) (hl : l.length ≤ 1000000) (hform : ∀ x u, x ∈ l → R x u → ∃ b : Bool, ∃ kd op vk vi : Int, ∃ vs tb nm : P12.T, ∃ pp : Option Addr, ∃ pm pc : Nat, ∃ a : P12.T,  u = Value.bool b :: (exprL kd op vk vi vs tb nm (.slice pp pm pc) ++ [bs a])) (bx : Nat) (hb : w.cell? ⟨bx, 0, none⟩ = some (.func (.func FI) #[] #[]))
  (hF : ∀ x (b : Bool) (kd op vk vi : Int) (vs tb nm : P12.T) (pp : Option Addr) (pm pc : Nat) (a : P12.T), x ∈ l → R x (Value.bool b :: (exprL kd op vk vi vs tb nm (.slice pp pm pc) ++ [bs a])) → ∀ W, Xk.Ext w W → Calls Tryz.prog FI #[.agg (Value.bool b :: (exprL kd op vk vi vs tb nm (.slice pp pm pc) ++ [bs a])).toArray] W fun e w' => e = .returned (.bool true) ∧ Xk.Ext W w') :
  Calls Tryz.prog 249 #[v, .func (.func 225) #[] #[.pointer (some ⟨bx, 0, none⟩)]] w fun e w' => e = .returned (.int .i64 (-1)) ∧ Xk.Ext w w' := by
 have hcf := entClItem.run
 have hci := entClItem.no
 have HF := Lib.hid hF
 have HS := Lib.hid h
 have HFM := Lib.hid hform
 obtain ⟨p, c, rfl⟩ := h.len
 clear hF hform h
 go_enter Tryz.func249, Tryz.ntmps249
 go_wp2_with fail
 go_loopw [8] (fun x wr => ∃ q : Nat, q ≤ l.length ∧ x = .int .i64 q ∧ Xk.Ext w wr) (fun x _ => l.length - (intOf x).toNat)
 case atStart => exact ⟨0, by omega, rfl, Below.refl _ _⟩
 case round =>
  obtain ⟨q, hq, rfl, hx⟩ := hrel
  have HX := Lib.hid hx
  clear hx
  by_cases hlt : q < l.length
  ·obtain ⟨g, rfl⟩ := HS.out.root (by omega)
   obtain ⟨-, -, he⟩ := HS.out.elem
   obtain ⟨u, hu, -, hr⟩ := he q _ (List.getElem?_eq_getElem hlt)
   have hmem := List.getElem_mem hlt
   obtain ⟨b, kd, op, vk, vi, vs, tb, nm, pp, pm, pc, a, rfl⟩ := HFM.out _ _ hmem hu
   have hg := World.block_lt_of_cell? _ _ (hr 0 _ rfl)
   have HRJ := Lib.hid (range_same hr (HX.out.block g hg))
   have hbr := Xk.ext_cell HX.out hb
   have HC := Lib.hid (allClItem hent b kd op vk vi vs tb nm pp pm pc a bx wr hbr (fun W' hx' => HF.out _ b kd op vk vi vs tb nm pp pm pc a hmem hu W' (Xk.Ext.trans HX.out hx')))
   have hlb : (q : Int) < (l.length : Int) := by omega
   have hwg : g < wr.heap.size := Nat.lt_of_lt_of_le hg HX.out.size
   
   clear hr hu he hbr
   go_wp2_with (first | (refine wpList_load_mid rfl 88 _ rfl g (q * 12) rfl _ _ HRJ.out Tryz.underlying88 rfl (by kernel_rfl) ?_))
   refine HC.out.mono ?_
   rintro e w' ⟨rfl, hx'⟩
   go_wp2_with fail
   go_roundw
   case rel => exact ⟨q + 1, by omega, by go_num, Xk.Ext.trans HX.out hx'⟩
   case measure => simp [intOf]; omega
  ·have hlb : ¬ (q : Int) < (l.length : Int) := by omega
   go_wp2_with fail
   go_ret
   exact ⟨rfl, HX.out⟩
theorem allOfItem {α : Type} {FI : FuncId} (hent : Ent FI) {S : Nat → Prop} {R : α → List Value → Prop} {l : List α} {v : Value} (w : World) (h : SlcAt S w 12 R l v) (hl : l.length ≤ 1000000) (hform : ∀ x u, x ∈ l → R x u → ∃ b : Bool, ∃ kd op vk vi : Int, ∃ vs tb nm : P12.T, ∃ pp : Option Addr, ∃ pm pc : Nat, ∃ a : P12.T,  u = Value.bool b :: (exprL kd op vk vi vs tb nm (.slice pp pm pc) ++ [bs a]))
  (hF : ∀ x (b : Bool) (kd op vk vi : Int) (vs tb nm : P12.T) (pp : Option Addr) (pm pc : Nat) (a : P12.T), x ∈ l → R x (Value.bool b :: (exprL kd op vk vi vs tb nm (.slice pp pm pc) ++ [bs a])) → ∀ W, Xk.Ext w W → Calls Tryz.prog FI #[.agg (Value.bool b :: (exprL kd op vk vi vs tb nm (.slice pp pm pc) ++ [bs a])).toArray] W fun e w' => e = .returned (.bool true) ∧ Xk.Ext W w') :
  Calls Tryz.prog 186 #[v, .func (.func FI) #[] #[]] w fun e w' => e = .returned (.bool true) ∧ Xk.Ext w w' := by
 have hmf := mkfun
 have hnot := notrun
 have hxa : Xk.Ext w (w.alloc (.cells #[.func (.func FI) #[] #[]] 150)) := (Below.refl _ _).alloc (Nat.le_refl _) _
 have HI := Lib.hid (allIdxItem hent (w.alloc (.cells #[.func (.func FI) #[] #[]] 150)) (h.keep (fun b _ hl => hxa.block b hl) (fun _ hb _ => hb) (fun _ _ h => h)) hl hform w.heap.size (cell_new w _ _)
  (fun x b kd op vk vi vs tb nm pp pm pc a hm hr W hx => hF x b kd op vk vi vs tb nm pp pm pc a hm hr W (Xk.Ext.trans hxa hx)))
 have HXA := Lib.hid hxa
 clear hF hform h hxa
 go_enter Tryz.func186, Tryz.ntmps186
 go_wp2_with (go_at_call 224; go_in)
 refine HI.out.mono ?_
 rintro e w' ⟨rfl, hx'⟩
 go_wp2_with fail
 go_ret
 exact ⟨rfl, Xk.Ext.trans HXA.out hx'⟩
theorem allClSrc {FI : FuncId} (hent : Ent FI) (a b : P12.T) (bx : Nat) (W : World) (hb : W.cell? ⟨bx, 0, none⟩ = some (.func (.func FI) #[] #[])) (hF : ∀ W', Xk.Ext W W' → Calls Tryz.prog FI #[.agg ([bs a, bs b]).toArray] W' fun e w' => e = .returned (.bool true) ∧ Xk.Ext W' w') :
  Calls Tryz.prog 227 #[.agg ([bs a, bs b]).toArray, .pointer (some ⟨bx, 0, none⟩)] W fun e w' => e = .returned (.bool false) ∧ Xk.Ext W w' := by
 have hnot := notrun
 have HF := Lib.hid hF
 have hcf := hent.run
 have hci := hent.no
 have lb := World.block_lt_of_cell? _ _ hb
 clear hF hent
 go_enter Tryz.func227, Tryz.ntmps227
 go_wp2_with (first | (refine wpList_loadRow rfl 90 _ rfl (W.heap.size) _ 90 (0, 0) _ rfl (heap_new W _) Tryz.underlying90 rfl (by kernel_rfl) ?_) | fail)
 refine (HF.out _ Xk.xt).mono ?_
 rintro e w' ⟨rfl, hx⟩
 go_wp2_with fail
 go_ret
 exact ⟨rfl, Xk.Ext.trans Xk.xt hx⟩
theorem entClSrc : Ent 227 := ⟨fun _ _ => by go_simp, by decide⟩
theorem allIdxSrc {α : Type} {FI : FuncId} (hent : Ent FI) {S : Nat → Prop} {R : α → List Value → Prop} {l : List α} {v : Value} (w : World) (h : SlcAt S w 2 R l v) (hl : l.length ≤ 1000000) (hform : ∀ x u, x ∈ l → R x u → ∃ a b : P12.T,  u = [bs a, bs b]) (bx : Nat) (hb : w.cell? ⟨bx, 0, none⟩ = some (.func (.func FI) #[] #[]))
  (hF : ∀ x (a b : P12.T), x ∈ l → R x ([bs a, bs b]) → ∀ W, Xk.Ext w W → Calls Tryz.prog FI #[.agg ([bs a, bs b]).toArray] W fun e w' => e = .returned (.bool true) ∧ Xk.Ext W w') :
  Calls Tryz.prog 250 #[v, .func (.func 227) #[] #[.pointer (some ⟨bx, 0, none⟩)]] w fun e w' => e = .returned (.int .i64 (-1)) ∧ Xk.Ext w w' := by
 have hcf := entClSrc.run
 have hci := entClSrc.no
 have HF := Lib.hid hF
 have HS := Lib.hid h
 have HFM := Lib.hid hform
 obtain ⟨p, c, rfl⟩ := h.len
 clear hF hform h
 go_enter Tryz.func250, Tryz.ntmps250
 go_wp2_with fail
 go_loopw [8] (fun x wr => ∃ q : Nat, q ≤ l.length ∧ x = .int .i64 q ∧ Xk.Ext w wr) (fun x _ => l.length - (intOf x).toNat)
 case atStart => exact ⟨0, by omega, rfl, Below.refl _ _⟩
 case round =>
  obtain ⟨q, hq, rfl, hx⟩ := hrel
  have HX := Lib.hid hx
  clear hx
  by_cases hlt : q < l.length
  ·obtain ⟨g, rfl⟩ := HS.out.root (by omega)
   obtain ⟨-, -, he⟩ := HS.out.elem
   obtain ⟨u, hu, -, hr⟩ := he q _ (List.getElem?_eq_getElem hlt)
   have hmem := List.getElem_mem hlt
   obtain ⟨a, b, rfl⟩ := HFM.out _ _ hmem hu
   have hg := World.block_lt_of_cell? _ _ (hr 0 _ rfl)
   have HRJ := Lib.hid (range_same hr (HX.out.block g hg))
   have hbr := Xk.ext_cell HX.out hb
   have HC := Lib.hid (allClSrc hent a b bx wr hbr (fun W' hx' => HF.out _ a b hmem hu W' (Xk.Ext.trans HX.out hx')))
   have hlb : (q : Int) < (l.length : Int) := by omega
   have hwg : g < wr.heap.size := Nat.lt_of_lt_of_le hg HX.out.size
   
   clear hr hu he hbr
   go_wp2_with (first | (refine wpList_load_mid rfl 90 _ rfl g (q * 2) rfl _ _ HRJ.out Tryz.underlying90 rfl (by kernel_rfl) ?_))
   refine HC.out.mono ?_
   rintro e w' ⟨rfl, hx'⟩
   go_wp2_with fail
   go_roundw
   case rel => exact ⟨q + 1, by omega, by go_num, Xk.Ext.trans HX.out hx'⟩
   case measure => simp [intOf]; omega
  ·have hlb : ¬ (q : Int) < (l.length : Int) := by omega
   go_wp2_with fail
   go_ret
   exact ⟨rfl, HX.out⟩
theorem allOfSrc {α : Type} {FI : FuncId} (hent : Ent FI) {S : Nat → Prop} {R : α → List Value → Prop} {l : List α} {v : Value} (w : World) (h : SlcAt S w 2 R l v) (hl : l.length ≤ 1000000) (hform : ∀ x u, x ∈ l → R x u → ∃ a b : P12.T,  u = [bs a, bs b])
  (hF : ∀ x (a b : P12.T), x ∈ l → R x ([bs a, bs b]) → ∀ W, Xk.Ext w W → Calls Tryz.prog FI #[.agg ([bs a, bs b]).toArray] W fun e w' => e = .returned (.bool true) ∧ Xk.Ext W w') :
  Calls Tryz.prog 187 #[v, .func (.func FI) #[] #[]] w fun e w' => e = .returned (.bool true) ∧ Xk.Ext w w' := by
 have hmf := mkfun
 have hnot := notrun
 have hxa : Xk.Ext w (w.alloc (.cells #[.func (.func FI) #[] #[]] 151)) := (Below.refl _ _).alloc (Nat.le_refl _) _
 have HI := Lib.hid (allIdxSrc hent (w.alloc (.cells #[.func (.func FI) #[] #[]] 151)) (h.keep (fun b _ hl => hxa.block b hl) (fun _ hb _ => hb) (fun _ _ h => h)) hl hform w.heap.size (cell_new w _ _)
  (fun x a b hm hr W hx => hF x a b hm hr W (Xk.Ext.trans hxa hx)))
 have HXA := Lib.hid hxa
 clear hF hform h hxa
 go_enter Tryz.func187, Tryz.ntmps187
 go_wp2_with (go_at_call 226; go_in)
 refine HI.out.mono ?_
 rintro e w' ⟨rfl, hx'⟩
 go_wp2_with fail
 go_ret
 exact ⟨rfl, Xk.Ext.trans HXA.out hx'⟩
theorem allClOrd {FI : FuncId} (hent : Ent FI) (kd op vk vi : Int) (vs tb nm : P12.T) (pp : Option Addr) (pm pc : Nat) (b : Bool) (bx : Nat) (W : World) (hb : W.cell? ⟨bx, 0, none⟩ = some (.func (.func FI) #[] #[])) (hF : ∀ W', Xk.Ext W W' → Calls Tryz.prog FI #[.agg (exprL kd op vk vi vs tb nm (.slice pp pm pc) ++ [Value.bool b]).toArray] W' fun e w' => e = .returned (.bool true) ∧ Xk.Ext W' w') :
  Calls Tryz.prog 189 #[.agg (exprL kd op vk vi vs tb nm (.slice pp pm pc) ++ [Value.bool b]).toArray, .pointer (some ⟨bx, 0, none⟩)] W fun e w' => e = .returned (.bool false) ∧ Xk.Ext W w' := by
 have hnot := notrun
 have HF := Lib.hid hF
 have hcf := hent.run
 have hci := hent.no
 have lb := World.block_lt_of_cell? _ _ hb
 clear hF hent
 go_enter Tryz.func189, Tryz.ntmps189
 go_wp2_with (first | (refine wpList_loadRow rfl 92 _ rfl (W.heap.size) _ 92 (0, 0) _ rfl (heap_new W _) Tryz.underlying92 rfl (by kernel_rfl) ?_) | fail)
 refine (HF.out _ Xk.xt).mono ?_
 rintro e w' ⟨rfl, hx⟩
 go_wp2_with fail
 go_ret
 exact ⟨rfl, Xk.Ext.trans Xk.xt hx⟩
theorem entClOrd : Ent 189 := ⟨fun _ _ => by go_simp, by decide⟩
theorem allIdxOrd {α : Type} {FI : FuncId} (hent : Ent FI) {S : Nat → Prop} {R : α → List Value → Prop} {l : List α} {v : Value} (w : World) (h : SlcAt S w 11 R l v) (hl : l.length ≤ 1000000) (hform : ∀ x u, x ∈ l → R x u → ∃ kd op vk vi : Int, ∃ vs tb nm : P12.T, ∃ pp : Option Addr, ∃ pm pc : Nat, ∃ b : Bool,  u = exprL kd op vk vi vs tb nm (.slice pp pm pc) ++ [Value.bool b]) (bx : Nat) (hb : w.cell? ⟨bx, 0, none⟩ = some (.func (.func FI) #[] #[]))
  (hF : ∀ x (kd op vk vi : Int) (vs tb nm : P12.T) (pp : Option Addr) (pm pc : Nat) (b : Bool), x ∈ l → R x (exprL kd op vk vi vs tb nm (.slice pp pm pc) ++ [Value.bool b]) → ∀ W, Xk.Ext w W → Calls Tryz.prog FI #[.agg (exprL kd op vk vi vs tb nm (.slice pp pm pc) ++ [Value.bool b]).toArray] W fun e w' => e = .returned (.bool true) ∧ Xk.Ext W w') :
  Calls Tryz.prog 228 #[v, .func (.func 189) #[] #[.pointer (some ⟨bx, 0, none⟩)]] w fun e w' => e = .returned (.int .i64 (-1)) ∧ Xk.Ext w w' := by
 have hcf := entClOrd.run
 have hci := entClOrd.no
 have HF := Lib.hid hF
 have HS := Lib.hid h
 have HFM := Lib.hid hform
 obtain ⟨p, c, rfl⟩ := h.len
 clear hF hform h
 go_enter Tryz.func228, Tryz.ntmps228
 go_wp2_with fail
 go_loopw [8] (fun x wr => ∃ q : Nat, q ≤ l.length ∧ x = .int .i64 q ∧ Xk.Ext w wr) (fun x _ => l.length - (intOf x).toNat)
 case atStart => exact ⟨0, by omega, rfl, Below.refl _ _⟩
 case round =>
  obtain ⟨q, hq, rfl, hx⟩ := hrel
  have HX := Lib.hid hx
  clear hx
  by_cases hlt : q < l.length
  ·obtain ⟨g, rfl⟩ := HS.out.root (by omega)
   obtain ⟨-, -, he⟩ := HS.out.elem
   obtain ⟨u, hu, -, hr⟩ := he q _ (List.getElem?_eq_getElem hlt)
   have hmem := List.getElem_mem hlt
   obtain ⟨kd, op, vk, vi, vs, tb, nm, pp, pm, pc, b, rfl⟩ := HFM.out _ _ hmem hu
   have hg := World.block_lt_of_cell? _ _ (hr 0 _ rfl)
   have HRJ := Lib.hid (range_same hr (HX.out.block g hg))
   have hbr := Xk.ext_cell HX.out hb
   have HC := Lib.hid (allClOrd hent kd op vk vi vs tb nm pp pm pc b bx wr hbr (fun W' hx' => HF.out _ kd op vk vi vs tb nm pp pm pc b hmem hu W' (Xk.Ext.trans HX.out hx')))
   have hlb : (q : Int) < (l.length : Int) := by omega
   have hwg : g < wr.heap.size := Nat.lt_of_lt_of_le hg HX.out.size
   
   clear hr hu he hbr
   go_wp2_with (first | (refine wpList_load_mid rfl 92 _ rfl g (q * 11) rfl _ _ HRJ.out Tryz.underlying92 rfl (by kernel_rfl) ?_))
   refine HC.out.mono ?_
   rintro e w' ⟨rfl, hx'⟩
   go_wp2_with fail
   go_roundw
   case rel => exact ⟨q + 1, by omega, by go_num, Xk.Ext.trans HX.out hx'⟩
   case measure => simp [intOf]; omega
  ·have hlb : ¬ (q : Int) < (l.length : Int) := by omega
   go_wp2_with fail
   go_ret
   exact ⟨rfl, HX.out⟩
theorem allOfOrd {α : Type} {FI : FuncId} (hent : Ent FI) {S : Nat → Prop} {R : α → List Value → Prop} {l : List α} {v : Value} (w : World) (h : SlcAt S w 11 R l v) (hl : l.length ≤ 1000000) (hform : ∀ x u, x ∈ l → R x u → ∃ kd op vk vi : Int, ∃ vs tb nm : P12.T, ∃ pp : Option Addr, ∃ pm pc : Nat, ∃ b : Bool,  u = exprL kd op vk vi vs tb nm (.slice pp pm pc) ++ [Value.bool b])
  (hF : ∀ x (kd op vk vi : Int) (vs tb nm : P12.T) (pp : Option Addr) (pm pc : Nat) (b : Bool), x ∈ l → R x (exprL kd op vk vi vs tb nm (.slice pp pm pc) ++ [Value.bool b]) → ∀ W, Xk.Ext w W → Calls Tryz.prog FI #[.agg (exprL kd op vk vi vs tb nm (.slice pp pm pc) ++ [Value.bool b]).toArray] W fun e w' => e = .returned (.bool true) ∧ Xk.Ext W w') :
  Calls Tryz.prog 113 #[v, .func (.func FI) #[] #[]] w fun e w' => e = .returned (.bool true) ∧ Xk.Ext w w' := by
 have hmf := mkfun
 have hnot := notrun
 have hxa : Xk.Ext w (w.alloc (.cells #[.func (.func FI) #[] #[]] 152)) := (Below.refl _ _).alloc (Nat.le_refl _) _
 have HI := Lib.hid (allIdxOrd hent (w.alloc (.cells #[.func (.func FI) #[] #[]] 152)) (h.keep (fun b _ hl => hxa.block b hl) (fun _ hb _ => hb) (fun _ _ h => h)) hl hform w.heap.size (cell_new w _ _)
  (fun x kd op vk vi vs tb nm pp pm pc b hm hr W hx => hF x kd op vk vi vs tb nm pp pm pc b hm hr W (Xk.Ext.trans hxa hx)))
 have HXA := Lib.hid hxa
 clear hF hform h hxa
 go_enter Tryz.func113, Tryz.ntmps113
 go_wp2_with (go_at_call 188; go_in)
 refine HI.out.mono ?_
 rintro e w' ⟨rfl, hx'⟩
 go_wp2_with fail
 go_ret
 exact ⟨rfl, Xk.Ext.trans HXA.out hx'⟩
theorem someExpr {α : Type} {FI : FuncId} (hent : Ent FI) {S : Nat → Prop} {R : α → List Value → Prop} {l : List α} {v : Value} (most : Nat) (w : World) (h : SlcAt S w 10 R l v) (hl : 1 ≤ l.length ∧ l.length ≤ most) (hm : most ≤ 1000000) (hform : ∀ x u, x ∈ l → R x u → ∃ kd op vk vi : Int, ∃ vs tb nm : P12.T, ∃ pp : Option Addr, ∃ pm pc : Nat,  u = exprL kd op vk vi vs tb nm (.slice pp pm pc))
  (hF : ∀ x (kd op vk vi : Int) (vs tb nm : P12.T) (pp : Option Addr) (pm pc : Nat), x ∈ l → R x (exprL kd op vk vi vs tb nm (.slice pp pm pc)) → ∀ W, Xk.Ext w W → Calls Tryz.prog FI #[.agg (exprL kd op vk vi vs tb nm (.slice pp pm pc)).toArray] W fun e w' => e = .returned (.bool true) ∧ Xk.Ext W w') :
  Calls Tryz.prog 38 #[v, .int .i64 most, .func (.func FI) #[] #[]] w fun e w' => e = .returned (.bool true) ∧ Xk.Ext w w' := by
 have HA := Lib.hid (allOfExpr hent w h (by omega) hform hF)
 obtain ⟨p, c, rfl⟩ := h.len
 have h1 : (1 : Int) ≤ (l.length : Int) := by omega
 have h2 : (l.length : Int) ≤ (most : Int) := by omega
 clear hF hform h
 go_enter Tryz.func38, Tryz.ntmps38
 go_wp2_with fail
 refine HA.out.mono ?_
 rintro e w' ⟨rfl, hx'⟩
 go_wp2_with fail
 go_ret
 exact ⟨rfl, hx'⟩
theorem someItem {α : Type} {FI : FuncId} (hent : Ent FI) {S : Nat → Prop} {R : α → List Value → Prop} {l : List α} {v : Value} (most : Nat) (w : World) (h : SlcAt S w 12 R l v) (hl : 1 ≤ l.length ∧ l.length ≤ most) (hm : most ≤ 1000000) (hform : ∀ x u, x ∈ l → R x u → ∃ b : Bool, ∃ kd op vk vi : Int, ∃ vs tb nm : P12.T, ∃ pp : Option Addr, ∃ pm pc : Nat, ∃ a : P12.T,  u = Value.bool b :: (exprL kd op vk vi vs tb nm (.slice pp pm pc) ++ [bs a]))
  (hF : ∀ x (b : Bool) (kd op vk vi : Int) (vs tb nm : P12.T) (pp : Option Addr) (pm pc : Nat) (a : P12.T), x ∈ l → R x (Value.bool b :: (exprL kd op vk vi vs tb nm (.slice pp pm pc) ++ [bs a])) → ∀ W, Xk.Ext w W → Calls Tryz.prog FI #[.agg (Value.bool b :: (exprL kd op vk vi vs tb nm (.slice pp pm pc) ++ [bs a])).toArray] W fun e w' => e = .returned (.bool true) ∧ Xk.Ext W w') :
  Calls Tryz.prog 111 #[v, .int .i64 most, .func (.func FI) #[] #[]] w fun e w' => e = .returned (.bool true) ∧ Xk.Ext w w' := by
 have HA := Lib.hid (allOfItem hent w h (by omega) hform hF)
 obtain ⟨p, c, rfl⟩ := h.len
 have h1 : (1 : Int) ≤ (l.length : Int) := by omega
 have h2 : (l.length : Int) ≤ (most : Int) := by omega
 clear hF hform h
 go_enter Tryz.func111, Tryz.ntmps111
 go_wp2_with fail
 refine HA.out.mono ?_
 rintro e w' ⟨rfl, hx'⟩
 go_wp2_with fail
 go_ret
 exact ⟨rfl, hx'⟩
theorem someSrc {α : Type} {FI : FuncId} (hent : Ent FI) {S : Nat → Prop} {R : α → List Value → Prop} {l : List α} {v : Value} (most : Nat) (w : World) (h : SlcAt S w 2 R l v) (hl : 1 ≤ l.length ∧ l.length ≤ most) (hm : most ≤ 1000000) (hform : ∀ x u, x ∈ l → R x u → ∃ a b : P12.T,  u = [bs a, bs b])
  (hF : ∀ x (a b : P12.T), x ∈ l → R x ([bs a, bs b]) → ∀ W, Xk.Ext w W → Calls Tryz.prog FI #[.agg ([bs a, bs b]).toArray] W fun e w' => e = .returned (.bool true) ∧ Xk.Ext W w') :
  Calls Tryz.prog 112 #[v, .int .i64 most, .func (.func FI) #[] #[]] w fun e w' => e = .returned (.bool true) ∧ Xk.Ext w w' := by
 have HA := Lib.hid (allOfSrc hent w h (by omega) hform hF)
 obtain ⟨p, c, rfl⟩ := h.len
 have h1 : (1 : Int) ≤ (l.length : Int) := by omega
 have h2 : (l.length : Int) ≤ (most : Int) := by omega
 clear hF hform h
 go_enter Tryz.func112, Tryz.ntmps112
 go_wp2_with fail
 refine HA.out.mono ?_
 rintro e w' ⟨rfl, hx'⟩
 go_wp2_with fail
 go_ret
 exact ⟨rfl, hx'⟩
end Go.Proofs.YtkpmclddjkebeaaGreatDoor
namespace P12
theorem nameOk_at : ∀ (l : T) (i : Nat), nameOk i l = true → ∀ (j : Nat) (c : UInt8), l[j]? = Option.some c → nameC (i + j) c = true
 | [], _, _, j, c, h => by simp at h
 | x :: l, i, h, j, c, hj => by
  rw [nameOk, Bool.and_eq_true] at h
  cases j with
  | zero =>
   simp at hj
   subst hj
   exact h.1
  | succ j =>
   have := nameOk_at l (i + 1) h.2 j c (by simpa using hj)
   rwa [show i + (j + 1) = i + 1 + j by omega]
theorem isName_spec {s : T} (h : isName s = true) : s ≠ [] ∧ s.length ≤ 24 ∧ P11.words.contains (s.map Go.Lib.upperB) = false ∧ ∀ (j : Nat) (c : UInt8), s[j]? = Option.some c → nameC j c = true := by
 unfold isName at h
 simp only [Bool.and_eq_true, bne_iff_ne, ne_eq, decide_eq_true_eq, Bool.not_eq_true'] at h
 obtain ⟨⟨⟨h1, h2⟩, h3⟩, h4⟩ := h
 exact ⟨h1, h2, h3, fun j c hj => by have := nameOk_at s 0 h4 j c hj; rwa [Nat.zero_add] at this⟩
theorem nameC_ascii {i : Nat} {c : UInt8} (h : nameC i c = true) : c.toNat < 128 := by
 unfold nameC at h
 simp only [Bool.or_eq_true, Bool.and_eq_true, beq_iff_eq, decide_eq_true_eq, UInt8.le_iff_toNat_le] at h
 rcases h with (h | h) | h
 ·subst h; decide
 ·have := h.2; simp at this; omega
 ·have := h.1.2; simp at this; omega
end P12
namespace Go.Proofs.YtkpmclddjkebeaaGreatDoor
open Go.RowKit
theorem contains_words (x : List UInt8) (h : P11.words.contains x = false) (n : Nat) : Lib.containsS ((P11.words.map fun y => (⟨y.toArray⟩ : ByteArray)).take n) ⟨x.toArray⟩ = false := by
 rw [Bool.eq_false_iff]
 intro hc
 rw [Lib.containsS_iff] at hc
 have hm := List.mem_of_mem_take hc
 obtain ⟨y, hy, e⟩ := List.mem_map.1 hm
 have e2 : y = x := by
  have := congrArg (fun b : ByteArray => b.data.toList) e
  simpa using this
 subst e2
 have : P11.words.contains y = true := by simpa using hy
 rw [this] at h
 cases h
theorem isName_b (s : ByteArray) (h : P12.isName s.data.toList = true) (w : World) : Calls Tryz.prog 35 #[.string s] w fun e w' => e = .returned (.bool true) ∧ Xk.Ext w w' := by
 obtain ⟨hne, hlen, hw, hch⟩ := P12.isName_spec h
 have hsz : s.data.toList.length = s.size := rfl
 rw [hsz] at hlen
 have hasc : ∀ (j : Nat) (b : UInt8), s.data.toList[j]? = some b → b.toNat < 128 := fun j b hj => P12.nameC_ascii (hch j b hj)
 have HU := Lib.hid fun W => Tryz.strings_ToUpper_ascii s W (by omega) hasc
 have HW := Lib.hid fun W => words_at W
 have HCH : Hid (∀ (j : Nat) (hj : j < s.size), P12.nameC j s[j] = true) := Lib.hid fun j hj => hch j _ (List.getElem?_eq_getElem (show j < s.data.toList.length from hj))
 have hup : Lib.toUpperA s.data.toList = s.data.toList.map Lib.upperB := by simp [Lib.toUpperA]
 have HUP := Lib.hid hup
 have HCW := Lib.hid (contains_words _ hw 43)
 have he : s.data.toList.isEmpty = false := by
  cases hs : s.data.toList with
  | nil => exact absurd hs hne
  | cons a l => rfl
 have hs0 : s.size ≠ 0 := fun e => hne (List.eq_nil_of_length_eq_zero (by rw [hsz]; exact e))
 have he2 : s.isEmpty = false := by
  unfold ByteArray.isEmpty
  simpa using hs0
 have he3 : s.toList.isEmpty = false := by rw [ByteArray.toList_eq]; exact he
 have hlb : ¬ (24 : Int) < (s.size : Int) := by omega
 clear h hne hw hch hasc hup
 go_enter Tryz.func35, Tryz.ntmps35
 go_wp2_with fail
 go_at_call 56
 refine (HW.out _).mono ?_
 rintro e w1 ⟨rfl, hwc, hx1, hl1⟩
 go_wp2_with fail
 go_at_call 96
 refine (HU.out _).mono ?_
 rintro e w2 ⟨rfl, hx2⟩
 rw [HUP.out]
 have hx12 := Xk.Ext.trans hx1 hx2
 go_wp2_with fail
 refine (Tryz.slices_Contains_string w.heap.size 0 43 43 (P11.words.map fun y => (⟨y.toArray⟩ : ByteArray)) ⟨(s.data.toList.map Lib.upperB).toArray⟩ w2 (by decide) (by decide) (fun j hj => ?_)).mono ?_
 ·have hj' : j < P11.words.length := by simpa using hj
  rw [Nat.zero_add, Xk.ext_cell hx2 (hwc j _ (List.getElem?_eq_getElem hj'))]
  rw [List.getD_eq_getElem?_getD, List.getElem?_map, List.getElem?_eq_getElem hj']
  rfl
 rintro e w3 ⟨rfl, rfl⟩
 rw [HCW.out]
 have HX := Lib.hid hx12
 clear hx1 hx2 hwc hx12
 go_wp2_with fail
 go_loopw [20] (fun x wr => ∃ q : Nat, q ≤ s.size ∧ x = .int .i64 q ∧ Xk.Ext w wr) (fun x _ => s.size - (intOf x).toNat)
 case atStart => exact ⟨0, by omega, rfl, HX.out⟩
 case round =>
  obtain ⟨q, hq, rfl, hx⟩ := hrel
  have HXR := Lib.hid hx
  clear hx
  by_cases hlt : q < s.size
  ·have hc := HCH.out q hlt
   have hqb : (q : Int) < (s.size : Int) := by omega
   have h8 : (s[q].toNat : Int) < 256 := by have := s[q].toNat_lt; omega
   unfold P12.nameC at hc
   simp only [Bool.or_eq_true, Bool.and_eq_true, beq_iff_eq, decide_eq_true_eq, UInt8.le_iff_toNat_le, bne_iff_ne, ne_eq] at hc
   simp at hc
   rcases hc with (h95 | ⟨ha, hb⟩) | ⟨⟨ha, hb⟩, hq0⟩
   ·have t1 : ((s[q].toNat : Int) != 95) = false := by rw [h95]; rfl
    go_wp2_with fail
    go_roundw
    case rel => exact ⟨q + 1, by omega, by go_num, HXR.out⟩
    case measure => simp [intOf]; omega
   ·have t1 : ((s[q].toNat : Int) != 95) = true := by simp; omega
    have t2 : ¬ (s[q].toNat : Int) < 97 := by omega
    have t3 : ¬ (122 : Int) < (s[q].toNat : Int) := by omega
    have t4 : decide ((s[q].toNat : Int) < 97) = false := by simpa using t2
    have t5 : decide ((122 : Int) < (s[q].toNat : Int)) = false := by simpa using t3
    go_wp2_with fail
    go_roundw
    case rel => exact ⟨q + 1, by omega, by go_num, HXR.out⟩
    case measure => simp [intOf]; omega
   ·have t1 : ((s[q].toNat : Int) != 95) = true := by simp; omega
    have t2 : (s[q].toNat : Int) < 97 := by omega
    have t3 : ¬ (s[q].toNat : Int) < 48 := by omega
    have t4 : ¬ (57 : Int) < (s[q].toNat : Int) := by omega
    have t5 : ((q : Int) == 0) = false := by simpa using hq0
    have t6 : decide ((s[q].toNat : Int) < 97) = true := by simpa using t2
    have t7 : decide ((s[q].toNat : Int) < 48) = false := by simpa using t3
    have t8 : decide ((57 : Int) < (s[q].toNat : Int)) = false := by simpa using t4
    go_wp2_with fail
    go_roundw
    case rel => exact ⟨q + 1, by omega, by go_num, HXR.out⟩
    case measure => simp [intOf]; omega
  ·have hqb : ¬ (q : Int) < (s.size : Int) := by omega
   go_wp2_with fail
   go_ret
   exact ⟨rfl, HXR.out⟩
theorem isName_any (s : List UInt8) (h : P12.isName s = true) (w : World) : Calls Tryz.prog 35 #[bs s] w fun e w' => e = .returned (.bool true) ∧ Xk.Ext w w' :=
 isName_b ⟨s.toArray⟩ (by simpa using h) w
theorem maybeName_any (s : List UInt8) (h : P12.maybeName s = true) (w : World) : Calls Tryz.prog 99 #[bs s] w fun e w' => e = .returned (.bool true) ∧ Xk.Ext w w' := by
 cases he : s.isEmpty
 ·have h2 : P12.isName s = true := by
   unfold P12.maybeName at h
   cases s with
   | nil => cases he
   | cons a l => simpa using h
  have HI := Lib.hid fun W => isName_any s h2 W
  go_enter Tryz.func99, Tryz.ntmps99
  go_wp2_with fail
  refine (HI.out _).mono ?_
  rintro e w1 ⟨rfl, hx⟩
  go_wp2_with fail
  go_ret
  exact ⟨rfl, hx⟩
 ·go_enter Tryz.func99, Tryz.ntmps99
  go_wp2_with fail
  go_ret
  exact ⟨rfl, Below.refl _ _⟩
theorem bare_any (kd op : Int) (tb nm : P12.T) (pp : Option Addr) (pm pc : Nat) (w : World) : Calls Tryz.prog 98 #[.agg (exprL kd op 0 0 [] tb nm (.slice pp pm pc)).toArray, .int .i64 pm] w fun e w' => e = .returned (.bool true) ∧ Xk.Ext w w' := by
 go_enter Tryz.func98, Tryz.ntmps98
 go_wp2
 go_ret
 exact ⟨by simp, Xk.xt⟩
theorem blank_some (kd op vk vi : Int) (vs tb nm : P12.T) (pp : Option Addr) (pm pc : Nat) (hk : kd ≠ 0) (w : World) : Calls Tryz.prog 94 #[.agg (exprL kd op vk vi vs tb nm (.slice pp pm pc)).toArray] w fun e w' => e = .returned (.bool false) ∧ Xk.Ext w w' := by
 have hkb : (kd == 0) = false := by simpa using hk
 go_enter Tryz.func94, Tryz.ntmps94
 go_wp2_with fail
 go_ret
 exact ⟨rfl, Xk.xt⟩
theorem blank_none (w : World) : Calls Tryz.prog 94 #[.agg noE.toArray] w fun e w' => e = .returned (.bool true) ∧ Xk.Ext w w' := by
 have HB := Lib.hid fun W => bare_any 0 0 [] [] none 0 0 W
 have hxa : Xk.Ext w (w.alloc (exprO noE)) := (Below.refl _ _).alloc (Nat.le_refl _) _
 have hga := heap_new w (exprO noE)
 have HXA := Lib.hid hxa
 go_enter Tryz.func94, Tryz.ntmps94
 go_wp2_with (refine wpList_loadRow rfl 35 _ rfl (w.heap.size) _ 35 (0, 0) _ rfl hga Tryz.underlying35 rfl (by kernel_rfl) ?_)
 refine (HB.out _).mono ?_
 rintro e w1 ⟨rfl, hx1⟩
 have hg1 := (hx1.block _ (Array.getElem?_eq_some_iff.1 hga).1).trans hga
 have q1 : w1.cell? ⟨w.heap.size, 1, none⟩ = some (.int .i64 0) := by simp [World.cell?, hg1]
 have q3 : w1.cell? ⟨w.heap.size, 5, none⟩ = some (.string ⟨#[]⟩) := by simp [World.cell?, hg1]
 have q4 : w1.cell? ⟨w.heap.size, 6, none⟩ = some (.string ⟨#[]⟩) := by simp [World.cell?, hg1]
 go_wp2_with fail
 go_ret
 exact ⟨rfl, Xk.Ext.trans HXA.out hx1⟩
theorem arity_una (op : Int) (h1 : 15 ≤ op) (h2 : op ≤ 18) (w : World) : Calls Tryz.prog 100 #[.int .i64 3, .int .i64 op] w fun e w' => e = .returned (.int .i64 1) ∧ w = w' := by
 go_enter Tryz.func100, Tryz.ntmps100
 go_wp2_with fail
 go_ret
 exact ⟨rfl, rfl⟩
theorem arity_bin (op : Int) (h1 : 1 ≤ op) (h2 : op ≤ 14) (w : World) : Calls Tryz.prog 100 #[.int .i64 4, .int .i64 op] w fun e w' => e = .returned (.int .i64 2) ∧ w = w' := by
 go_enter Tryz.func100, Tryz.ntmps100
 go_wp2_with fail
 go_ret
 exact ⟨rfl, rfl⟩
theorem arity_all (w : World) : Calls Tryz.prog 100 #[.int .i64 5, .int .i64 19] w fun e w' => e = .returned (.int .i64 0) ∧ w = w' := by
 go_enter Tryz.func100, Tryz.ntmps100
 go_wp2_with fail
 go_ret
 exact ⟨rfl, rfl⟩
theorem arity_call (op : Int) (h1 : 20 ≤ op) (h2 : op ≤ 23) (w : World) : Calls Tryz.prog 100 #[.int .i64 5, .int .i64 op] w fun e w' => e = .returned (.int .i64 1) ∧ w = w' := by
 have h3 : (op == 19) = false := by simp; omega
 go_enter Tryz.func100, Tryz.ntmps100
 go_wp2_with fail
 go_ret
 exact ⟨rfl, rfl⟩
theorem expr_cells {w : World} {g : Nat} {kd op vk vi : Int} {vs tb nm : P12.T} {v : Value} (h : w.heap[g]? = some (exprO (exprL kd op vk vi vs tb nm v))) :
  w.cell? ⟨g, 0, none⟩ = some (.int .i64 kd) ∧ w.cell? ⟨g, 1, none⟩ = some (.int .i64 op) ∧ w.cell? ⟨g, 2, none⟩ = some (.int .i64 vk) ∧ w.cell? ⟨g, 3, none⟩ = some (.int .i64 vi) ∧ w.cell? ⟨g, 4, none⟩ = some (bs vs) ∧ w.cell? ⟨g, 5, none⟩ = some (bs tb) ∧
  w.cell? ⟨g, 6, none⟩ = some (bs nm) ∧ w.cell? ⟨g, 7, none⟩ = some (.int .i64 0) ∧ w.cell? ⟨g, 8, none⟩ = some (.int .i64 0) ∧ w.cell? ⟨g, 9, none⟩ = some v ∧ g < w.heap.size := by
 refine ⟨?_, ?_, ?_, ?_, ?_, ?_, ?_, ?_, ?_, ?_, (Array.getElem?_eq_some_iff.1 h).1⟩ <;> simp [World.cell?, h]
theorem ent_isExpr : Ent 36 := ⟨fun _ _ => by go_simp, by decide⟩
theorem isExpr_val (k i : Int) (s : P12.T) (h : P6.isV k i s = true) (w : World) : Calls Tryz.prog 36 #[.agg (exprL 1 0 k i s [] [] nilS).toArray] w fun e w' => e = .returned (.bool true) ∧ Xk.Ext w w' := by
 have HI := Lib.hid fun W => is_any k i ⟨s.toArray⟩ W
 have HB := Lib.hid fun W => bare_any 1 0 [] [] none 0 0 W
 have hx0 : Xk.Ext w ((w.alloc (exprO (exprL 1 0 0 0 [] [] [] nilS))).alloc (.cells #[.int .i64 k, .int .i64 i, bs s] 33)) := Xk.xt
 have hg0 : ((w.alloc (exprO (exprL 1 0 0 0 [] [] [] nilS))).alloc (.cells #[.int .i64 k, .int .i64 i, bs s] 33)).heap[w.heap.size]? = some (exprO (exprL 1 0 0 0 [] [] [] nilS)) := (Turn.alloc (Turn.refl (w.heap.size + 5) _) _).held (heap_new w _) (by omega)
 have HX0 := Lib.hid hx0
 have HG0 := Lib.hid hg0
 clear hx0 hg0
 go_enter Tryz.func36, Tryz.ntmps36
 go_wp2_with fail
 refine (HI.out _).mono ?_
 rintro e w1 ⟨rfl, hx1⟩
 rw [show P6.isV k i (⟨s.toArray⟩ : ByteArray).data.toList = true by simpa using h]
 have hg1 := (hx1.block _ (Array.getElem?_eq_some_iff.1 HG0.out).1).trans HG0.out
 have HX1 := Lib.hid (Xk.Ext.trans HX0.out hx1)
 clear hx1
 obtain ⟨z0, z1, z2, z3, z4, z5, z6, z7, z8, z9, z10⟩ := expr_cells hg1
 go_wp2_with fail
 refine (HB.out _).mono ?_
 rintro e w2 ⟨rfl, hx2⟩
 clear z0 z1 z2 z3 z4 z5 z6 z7 z8 z9 z10
 have hg2 := (hx2.block _ (Array.getElem?_eq_some_iff.1 hg1).1).trans hg1
 have q1 : w2.cell? ⟨w.heap.size, 1, none⟩ = some (.int .i64 0) := by simp [World.cell?, hg2]
 have q3 : w2.cell? ⟨w.heap.size, 5, none⟩ = some (.string ⟨#[]⟩) := by simp [World.cell?, hg2]
 have q4 : w2.cell? ⟨w.heap.size, 6, none⟩ = some (.string ⟨#[]⟩) := by simp [World.cell?, hg2]
 go_wp2_with fail
 go_ret
 exact ⟨rfl, Xk.Ext.trans HX1.out hx2⟩
theorem isExpr_col (t n : P12.T) (h1 : P12.isName n = true) (h2 : P12.maybeName t = true) (w : World) : Calls Tryz.prog 36 #[.agg (exprL 2 0 0 0 [] t n nilS).toArray] w fun e w' => e = .returned (.bool true) ∧ Xk.Ext w w' := by
 have HN := Lib.hid fun W => isName_any n h1 W
 have HM := Lib.hid fun W => maybeName_any t h2 W
 have HB := Lib.hid fun W => bare_any 2 0 t n none 0 0 W
 have hga := heap_new w (exprO (exprL 2 0 0 0 [] t n nilS))
 have HXA : Hid (Xk.Ext w (w.alloc (exprO (exprL 2 0 0 0 [] t n nilS)))) := Lib.hid ((Below.refl _ _).alloc (Nat.le_refl _) _)
 go_enter Tryz.func36, Tryz.ntmps36
 go_wp2_with (refine wpList_loadRow rfl 35 _ rfl (w.heap.size) _ 35 (0, 0) _ rfl hga Tryz.underlying35 rfl (by kernel_rfl) ?_)
 refine (HB.out _).mono ?_
 rintro e w1 ⟨rfl, hx1⟩
 have hg1 := (hx1.block _ (Array.getElem?_eq_some_iff.1 hga).1).trans hga
 have q1 : w1.cell? ⟨w.heap.size, 1, none⟩ = some (.int .i64 0) := by simp [World.cell?, hg1]
 have q4 : w1.cell? ⟨w.heap.size, 6, none⟩ = some (bs n) := by simp [World.cell?, hg1]
 go_wp2_with fail
 refine (HN.out _).mono ?_
 rintro e w2 ⟨rfl, hx2⟩
 have hg2 := (hx2.block _ (Array.getElem?_eq_some_iff.1 hg1).1).trans hg1
 have q3 : w2.cell? ⟨w.heap.size, 5, none⟩ = some (bs t) := by simp [World.cell?, hg2]
 have HX2 := Lib.hid (Xk.Ext.trans HXA.out (Xk.Ext.trans hx1 hx2))
 clear hx1 hx2 hg1 q1 q4 hga
 go_wp2_with fail
 refine (HM.out _).mono ?_
 rintro e w3 ⟨rfl, hx3⟩
 go_wp2_with fail
 go_ret
 exact ⟨rfl, Xk.Ext.trans HX2.out hx3⟩
theorem isExpr_op (kd op : Int) (p : Option Addr) (m c : Nat) (hk : kd ≠ 1 ∧ kd ≠ 2) (hA : ∀ W, Calls Tryz.prog 100 #[.int .i64 kd, .int .i64 op] W fun e w' => e = .returned (.int .i64 m) ∧ W = w') (w : World)
  (hL : ∀ W, Xk.Ext w W → Calls Tryz.prog 101 #[.slice p m c, .func (.func 36) #[] #[]] W fun e w' => e = .returned (.bool true) ∧ Xk.Ext W w') :
  Calls Tryz.prog 36 #[.agg (exprL kd op 0 0 [] [] [] (.slice p m c)).toArray] w fun e w' => e = .returned (.bool true) ∧ Xk.Ext w w' := by
 have hga := heap_new w (exprO (exprL kd op 0 0 [] [] [] (.slice p m c)))
 have HXA : Hid (Xk.Ext w (w.alloc (exprO (exprL kd op 0 0 [] [] [] (.slice p m c))))) := Lib.hid ((Below.refl _ _).alloc (Nat.le_refl _) _)
 have HA := Lib.hid hA
 have HL := Lib.hid hL
 have HB := Lib.hid fun W => bare_any kd op [] [] p m c W
 have k1 : (kd == 1) = false := by simpa using hk.1
 have k2 : (kd == 2) = false := by simpa using hk.2
 have hm : (0 : Int) ≤ (m : Int) := by omega
 clear hA hL hk
 go_enter Tryz.func36, Tryz.ntmps36
 go_wp2_with fail
 refine (HA.out _).mono ?_
 rintro e w0 ⟨rfl, rfl⟩
 go_wp2_with (refine wpList_loadRow rfl 35 _ rfl (w.heap.size) _ 35 (0, 0) _ rfl hga Tryz.underlying35 rfl (by kernel_rfl) ?_)
 refine (HB.out _).mono ?_
 rintro e w1 ⟨rfl, hx1⟩
 have hg1 := (hx1.block _ (Array.getElem?_eq_some_iff.1 hga).1).trans hga
 have q3 : w1.cell? ⟨w.heap.size, 5, none⟩ = some (.string ⟨#[]⟩) := by simp [World.cell?, hg1]
 have q4 : w1.cell? ⟨w.heap.size, 6, none⟩ = some (.string ⟨#[]⟩) := by simp [World.cell?, hg1]
 have q9 : w1.cell? ⟨w.heap.size, 9, none⟩ = some (.slice p m c) := by simp [World.cell?, hg1]
 have HX1 := Lib.hid (Xk.Ext.trans HXA.out hx1)
 clear hx1 hga
 go_wp2_with fail
 refine (HL.out _ HX1.out).mono ?_
 rintro e w2 ⟨rfl, hx2⟩
 go_wp2_with fail
 go_ret
 exact ⟨rfl, Xk.Ext.trans HX1.out hx2⟩
theorem args1 {S : Nat → Prop} {w : World} {a : P12.E} {g : Nat} {u : List Value} (hg : S g) (hr : w.rangeAt g 0 u) (hl : u.length = 10) (he : ExprAt S w a u) : SlcAt S w 10 (exprR S w) [a] (.slice (some ⟨g, 0, none⟩) 1 1) := by
 refine .inr ⟨g, 1, [u], rfl, hg, by simp, by simp, rfl, by simpa using hl, by decide, by simpa using hr, fun j x y hx hy => ?_⟩
 match j, hx, hy with
 | 0, hx, hy => cases hx; cases hy; exact he
theorem args2 {S : Nat → Prop} {w : World} {a b : P12.E} {g : Nat} {u v : List Value} (hg : S g) (hr : w.rangeAt g 0 (u ++ v)) (hl : u.length = 10) (hl2 : v.length = 10) (he : ExprAt S w a u) (he2 : ExprAt S w b v) : SlcAt S w 10 (exprR S w) [a, b] (.slice (some ⟨g, 0, none⟩) 2 2) := by
 refine .inr ⟨g, 2, [u, v], rfl, hg, by simp, by simp, rfl, ?_, by decide, by simpa using hr, fun j x y hx hy => ?_⟩
 ·intro x hx
  simp only [List.mem_cons, List.not_mem_nil, or_false] at hx
  rcases hx with rfl | rfl
  ·exact hl
  ·exact hl2
 match j, hx, hy with
 | 0, hx, hy => cases hx; cases hy; exact he
 | 1, hx, hy => cases hx; cases hy; exact he2
theorem ExprAt.extS {S : Nat → Prop} {w w' : World} {e : P12.E} {l : List Value} (h : ExprAt S w e l) (hx : Xk.Ext w w') : ExprAt S w' e l := h.keep (fun b _ hl => hx.block b hl) (fun b hb _ => hb)
theorem SlcAt.extE {S : Nat → Prop} {w w' : World} {es : List P12.E} {v : Value} (h : SlcAt S w 10 (exprR S w) es v) (hx : Xk.Ext w w') : SlcAt S w' 10 (exprR S w') es v := h.keep (fun b _ hl => hx.block b hl) (fun b hb _ => hb) (fun x u hu => ExprAt.extS hu hx)
theorem isExpr_any : ∀ (e : P12.E), P12.isE e = true → ∀ (S : Nat → Prop) (w : World) (l : List Value), ExprAt S w e l → Calls Tryz.prog 36 #[.agg l.toArray] w fun e w' => e = .returned (.bool true) ∧ Xk.Ext w w'
 | .none, h, _, _, _, _ => by cases h
 | .val k i s, h, _, w, _, rfl => isExpr_val k i s (by simp only [P12.isE, Bool.and_eq_true] at h; exact h.1.1) w
 | .col t n, h, _, w, _, rfl => by
  simp only [P12.isE, Bool.and_eq_true] at h
  exact isExpr_col t n h.1 h.2 w
 | .all, h, _, w, _, rfl => isExpr_op 5 19 none 0 0 (by decide) (fun W => arity_all W) w (fun W hx => allOfExpr (S := fun _ => True) (R := fun (_ : P12.E) _ => True) (l := []) ent_isExpr W (SlcAt.nil _ _ _ _) (by simp) (fun x u hx => by simp at hx) (fun x _ _ _ _ _ _ _ _ _ _ hx => by simp at hx))
 | .una op a, h, S, w, l, he => by
  simp only [P12.isE, Bool.and_eq_true, decide_eq_true_eq] at h
  unfold ExprAt at he
  obtain ⟨g, u, hg, rfl, hr, hl, he⟩ := he
  exact isExpr_op 3 op _ 1 1 (by decide) (fun W => arity_una op h.1.1 h.1.2 W) w (fun W hx => allOfExpr ent_isExpr W ((args1 hg hr hl he).extE hx) (by simp) (fun x u _ hu => ExprAt.form hu)
   (fun x _ _ _ _ _ _ _ _ _ _ hm hu W' hx' => by
    simp only [List.mem_singleton] at hm
    have hu' : ExprAt S W a _ := hm ▸ hu
    exact isExpr_any a h.2 S W' _ (ExprAt.extS hu' hx')))
 | .call op a, h, S, w, l, he => by
  simp only [P12.isE, Bool.and_eq_true, decide_eq_true_eq] at h
  unfold ExprAt at he
  obtain ⟨g, u, hg, rfl, hr, hl, he⟩ := he
  exact isExpr_op 5 op _ 1 1 (by decide) (fun W => arity_call op h.1.1 h.1.2 W) w (fun W hx => allOfExpr ent_isExpr W ((args1 hg hr hl he).extE hx) (by simp) (fun x u _ hu => ExprAt.form hu)
   (fun x _ _ _ _ _ _ _ _ _ _ hm hu W' hx' => by
    simp only [List.mem_singleton] at hm
    have hu' : ExprAt S W a _ := hm ▸ hu
    exact isExpr_any a h.2 S W' _ (ExprAt.extS hu' hx')))
 | .bin op a b, h, S, w, l, he => by
  simp only [P12.isE, Bool.and_eq_true, decide_eq_true_eq] at h
  unfold ExprAt at he
  obtain ⟨g, u, v, hg, rfl, hr, hl, hl2, he, he2⟩ := he
  exact isExpr_op 4 op _ 2 2 (by decide) (fun W => arity_bin op h.1.1.1 h.1.1.2 W) w (fun W hx => allOfExpr ent_isExpr W ((args2 hg hr hl hl2 he he2).extE hx) (by simp) (fun x u _ hu => ExprAt.form hu)
   (fun x _ _ _ _ _ _ _ _ _ _ hm hu W' hx' => by
    simp only [List.mem_cons, List.not_mem_nil, or_false] at hm
    rcases hm with hm | hm
    ·have hu' : ExprAt S W a _ := hm ▸ hu
     exact isExpr_any a h.1.2 S W' _ (ExprAt.extS hu' hx')
    ·have hu' : ExprAt S W b _ := hm ▸ hu
     exact isExpr_any b h.2 S W' _ (ExprAt.extS hu' hx')))
theorem str_cat (a b : List UInt8) : (⟨a.toArray⟩ ++ ⟨b.toArray⟩ : ByteArray) = ⟨(a ++ b).toArray⟩ := by
 apply bytes_eq
 simp
theorem sign_any (op : Int) (h1 : 1 ≤ op) (h2 : op ≤ 14) (w : World) : Calls Tryz.prog 117 #[.int .i64 op] w fun e w' => e = .returned (bs (P12.signOf op)) ∧ Xk.Ext w w' := by
 have hop : op = 1 ∨ op = 2 ∨ op = 3 ∨ op = 4 ∨ op = 5 ∨ op = 6 ∨ op = 7 ∨ op = 8 ∨ op = 9 ∨ op = 10 ∨ op = 11 ∨ op = 12 ∨ op = 13 ∨ op = 14 := by omega
 clear h1 h2
 rcases hop with rfl | rfl | rfl | rfl | rfl | rfl | rfl | rfl | rfl | rfl | rfl | rfl | rfl | rfl
 ·go_enter Tryz.func117, Tryz.ntmps117
  go_wp2
  go_ret
  exact ⟨rfl, Below.refl _ _⟩
 ·go_enter Tryz.func117, Tryz.ntmps117
  go_wp2
  go_ret
  exact ⟨rfl, Below.refl _ _⟩
 ·go_enter Tryz.func117, Tryz.ntmps117
  go_wp2
  go_ret
  exact ⟨rfl, Below.refl _ _⟩
 ·go_enter Tryz.func117, Tryz.ntmps117
  go_wp2
  go_ret
  exact ⟨rfl, Below.refl _ _⟩
 ·go_enter Tryz.func117, Tryz.ntmps117
  go_wp2
  go_ret
  exact ⟨rfl, Below.refl _ _⟩
 ·go_enter Tryz.func117, Tryz.ntmps117
  go_wp2
  go_ret
  exact ⟨rfl, Below.refl _ _⟩
 ·go_enter Tryz.func117, Tryz.ntmps117
  go_wp2
  go_ret
  exact ⟨rfl, Below.refl _ _⟩
 ·go_enter Tryz.func117, Tryz.ntmps117
  go_wp2
  go_ret
  exact ⟨rfl, Below.refl _ _⟩
 ·go_enter Tryz.func117, Tryz.ntmps117
  go_wp2
  go_ret
  exact ⟨rfl, Below.refl _ _⟩
 ·go_enter Tryz.func117, Tryz.ntmps117
  go_wp2
  go_ret
  exact ⟨rfl, Below.refl _ _⟩
 ·go_enter Tryz.func117, Tryz.ntmps117
  go_wp2
  go_ret
  exact ⟨rfl, Below.refl _ _⟩
 ·go_enter Tryz.func117, Tryz.ntmps117
  go_wp2
  go_ret
  exact ⟨rfl, Below.refl _ _⟩
 ·go_enter Tryz.func117, Tryz.ntmps117
  go_wp2
  go_ret
  exact ⟨rfl, Below.refl _ _⟩
 ·go_enter Tryz.func117, Tryz.ntmps117
  go_wp2
  go_ret
  exact ⟨rfl, Below.refl _ _⟩
theorem closed_op (op kd o2 vk vi : Int) (vs tb nm : P12.T) (p : Option Addr) (m c : Nat) (hk : kd = 3 ∨ kd = 4) (w : World) : Calls Tryz.prog 191 #[.int .i64 op, .agg (exprL kd o2 vk vi vs tb nm (.slice p m c)).toArray] w fun e w' => e = .returned (.bool true) ∧ Xk.Ext w w' := by
 rcases hk with rfl | rfl
 ·go_enter Tryz.func191, Tryz.ntmps191
  go_wp2
  go_ret
  exact ⟨rfl, Xk.xt⟩
 ·go_enter Tryz.func191, Tryz.ntmps191
  go_wp2
  go_ret
  exact ⟨rfl, Xk.xt⟩
theorem closed_no (op kd o2 vk vi : Int) (vs tb nm : P12.T) (p : Option Addr) (m c : Nat) (hk : kd = 2 ∨ kd = 5) (w : World) : Calls Tryz.prog 191 #[.int .i64 op, .agg (exprL kd o2 vk vi vs tb nm (.slice p m c)).toArray] w fun e w' => e = .returned (.bool false) ∧ Xk.Ext w w' := by
 by_cases ho : op = 16
 ·subst ho
  rcases hk with rfl | rfl
  ·go_enter Tryz.func191, Tryz.ntmps191
   go_wp2
   go_ret
   exact ⟨rfl, Xk.xt⟩
  ·go_enter Tryz.func191, Tryz.ntmps191
   go_wp2
   go_ret
   exact ⟨rfl, Xk.xt⟩
 ·have hob : (op == 16) = false := by simpa using ho
  rcases hk with rfl | rfl
  ·go_enter Tryz.func191, Tryz.ntmps191
   go_wp2
   go_ret
   exact ⟨rfl, Xk.xt⟩
  ·go_enter Tryz.func191, Tryz.ntmps191
   go_wp2
   go_ret
   exact ⟨rfl, Xk.xt⟩
theorem closed_val (op k i : Int) (s : P12.T) (w : World) : Calls Tryz.prog 191 #[.int .i64 op, .agg (exprL 1 0 k i s [] [] nilS).toArray] w fun e w' => e = .returned (.bool (op == 16 && k == 2)) ∧ Xk.Ext w w' := by
 cases ho : (op == 16)
 ·go_enter Tryz.func191, Tryz.ntmps191
  go_wp2
  go_ret
  exact ⟨rfl, Xk.xt⟩
 ·go_enter Tryz.func191, Tryz.ntmps191
  go_wp2
  go_ret
  exact ⟨by simp, Xk.xt⟩
theorem closed_any (op : Int) (e : P12.E) (he : e ≠ .none) (S : Nat → Prop) (w : World) (l : List Value) (h : ExprAt S w e l) (W : World) : Calls Tryz.prog 191 #[.int .i64 op, .agg l.toArray] W fun r w' => r = .returned (.bool (P12.closed op e)) ∧ Xk.Ext W w' := by
 cases e with
 | none => exact absurd rfl he
 | val k i s => cases h; exact closed_val op k i s W
 | col t n => cases h; exact closed_no op 2 0 0 0 [] t n none 0 0 (.inl rfl) W
 | all => cases h; exact closed_no op 5 19 0 0 [] [] [] none 0 0 (.inr rfl) W
 | una o a =>
  unfold ExprAt at h
  obtain ⟨g, u, -, rfl, -⟩ := h
  exact closed_op op 3 o 0 0 [] [] [] _ 1 1 (.inl rfl) W
 | call o a =>
  unfold ExprAt at h
  obtain ⟨g, u, -, rfl, -⟩ := h
  exact closed_no op 5 o 0 0 [] [] [] _ 1 1 (.inr rfl) W
 | bin o a b =>
  unfold ExprAt at h
  obtain ⟨g, u, v, -, rfl, -⟩ := h
  exact closed_op op 4 o 0 0 [] [] [] _ 2 2 (.inr rfl) W
theorem argument_of (op : Int) (kd o2 vk vi : Int) (vs tb nm : P12.T) (p : Option Addr) (m c : Nat) (b : Bool) (t : P12.T) (ht : t.length ≤ 1000000) (w : World)
  (hC : ∀ W, Calls Tryz.prog 191 #[.int .i64 op, .agg (exprL kd o2 vk vi vs tb nm (.slice p m c)).toArray] W fun r w' => r = .returned (.bool b) ∧ Xk.Ext W w')
  (hT : ∀ W, Xk.Ext w W → Calls Tryz.prog 51 #[.agg (exprL kd o2 vk vi vs tb nm (.slice p m c)).toArray] W fun r w' => r = .returned (bs t) ∧ Xk.Ext W w') :
  Calls Tryz.prog 116 #[.int .i64 op, .agg (exprL kd o2 vk vi vs tb nm (.slice p m c)).toArray] w fun r w' => r = .returned (bs (P12.inBr b t)) ∧ Xk.Ext w w' := by
 have hga := heap_new w (exprO (exprL kd o2 vk vi vs tb nm (.slice p m c)))
 have HXA : Hid (Xk.Ext w (w.alloc (exprO (exprL kd o2 vk vi vs tb nm (.slice p m c))))) := Lib.hid ((Below.refl _ _).alloc (Nat.le_refl _) _)
 have HC := Lib.hid hC
 have HT := Lib.hid hT
 clear hC hT
 cases b
 ·go_enter Tryz.func116, Tryz.ntmps116
  go_wp2_with (refine wpList_loadRow rfl 35 _ rfl (w.heap.size) _ 35 (0, 0) _ rfl hga Tryz.underlying35 rfl (by kernel_rfl) ?_)
  refine (HC.out _).mono ?_
  rintro e w1 ⟨rfl, hx1⟩
  have hg1 := (hx1.block _ (Array.getElem?_eq_some_iff.1 hga).1).trans hga
  have HX1 := Lib.hid (Xk.Ext.trans HXA.out hx1)
  clear hx1 hga
  go_wp2_with (refine wpList_loadRow rfl 35 _ rfl (w.heap.size) _ 35 (0, 0) _ rfl hg1 Tryz.underlying35 rfl (by kernel_rfl) ?_)
  refine (HT.out _ HX1.out).mono ?_
  rintro e w2 ⟨rfl, hx2⟩
  go_wp2_with fail
  go_ret
  exact ⟨rfl, Xk.Ext.trans HX1.out hx2⟩
 ·go_enter Tryz.func116, Tryz.ntmps116
  go_wp2_with (refine wpList_loadRow rfl 35 _ rfl (w.heap.size) _ 35 (0, 0) _ rfl hga Tryz.underlying35 rfl (by kernel_rfl) ?_)
  refine (HC.out _).mono ?_
  rintro e w1 ⟨rfl, hx1⟩
  have hg1 := (hx1.block _ (Array.getElem?_eq_some_iff.1 hga).1).trans hga
  have HX1 := Lib.hid (Xk.Ext.trans HXA.out hx1)
  clear hx1 hga
  go_wp2_with (refine wpList_loadRow rfl 35 _ rfl (w.heap.size) _ 35 (0, 0) _ rfl hg1 Tryz.underlying35 rfl (by kernel_rfl) ?_)
  refine (HT.out _ HX1.out).mono ?_
  rintro e w2 ⟨rfl, hx2⟩
  go_wp2_with fail
  go_ret
  refine ⟨?_, Xk.Ext.trans HX1.out hx2⟩
  have e : (⟨#[40]⟩ ++ ⟨t.toArray⟩ ++ ⟨#[41]⟩ : ByteArray) = ⟨(P12.inBr true t).toArray⟩ := by
   apply bytes_eq
   simp [P12.inBr]
  exact congrArg (fun x => Ending.returned (.string x)) e
theorem text_val (k i : Int) (s : P12.T) (h0 : -9223372036854775808 ≤ i) (h1 : i ≤ 9223372036854775807) (w : World) (hE : Env w) : Calls Tryz.prog 51 #[.agg (exprL 1 0 k i s [] [] nilS).toArray] w fun r w' => r = .returned (bs (P6.printV k i s)) ∧ Xk.Ext w w' := by
 have HXA : Hid (Xk.Ext w (w.alloc (exprO (exprL 1 0 k i s [] [] nilS)))) := Lib.hid ((Below.refl _ _).alloc (Nat.le_refl _) _)
 have HP := Lib.hid (print_any k i ⟨s.toArray⟩ h0 h1 (w.alloc (exprO (exprL 1 0 k i s [] [] nilS))) (hE.ext HXA.out))
 clear hE
 go_enter Tryz.func51, Tryz.ntmps51
 go_wp2_with fail
 refine HP.out.mono ?_
 rintro e w1 ⟨rfl, hx1⟩
 go_wp2_with fail
 go_ret
 exact ⟨by simp, Xk.Ext.trans HXA.out hx1⟩
theorem text_col (t n : P12.T) (ht : t.length ≤ 1000000) (hn : n.length ≤ 1000000) (w : World) : Calls Tryz.prog 51 #[.agg (exprL 2 0 0 0 [] t n nilS).toArray] w fun r w' => r = .returned (bs (P12.text (.col t n))) ∧ Xk.Ext w w' := by
 cases hte : t.isEmpty
 ·have hne : t ≠ [] := fun e => by rw [e] at hte; cases hte
  have e1 : (⟨t.toArray⟩ ++ ⟨#[46]⟩ ++ ⟨n.toArray⟩ : ByteArray) = ⟨(P12.text (.col t n)).toArray⟩ := by
   apply bytes_eq
   simp [P12.text, hne]
  have HE := Lib.hid e1
  have hlt : ({ data := t.toArray } ++ { data := #[46] } : ByteArray).size = t.length + 1 := by
   rw [ByteArray.size_append]; simp [ByteArray.size]
  clear e1 hne
  go_enter Tryz.func51, Tryz.ntmps51
  go_wp2_with fail
  go_ret
  exact ⟨congrArg (fun x => Ending.returned (.string x)) HE.out, Xk.xt⟩
 ·have hne : t = [] := List.isEmpty_iff.1 hte
  go_enter Tryz.func51, Tryz.ntmps51
  go_wp2_with fail
  go_ret
  exact ⟨by simp [P12.text, hne], Xk.xt⟩
theorem text_all (w : World) : Calls Tryz.prog 51 #[.agg (exprL 5 19 0 0 [] [] [] nilS).toArray] w fun r w' => r = .returned (bs (P12.text .all)) ∧ Xk.Ext w w' := by
 go_enter Tryz.func51, Tryz.ntmps51
 go_wp2_with fail
 go_ret
 exact ⟨rfl, Xk.xt⟩
theorem text_una (op : Int) (g : Nat) (kd o2 vk vi : Int) (vs tb nm : P12.T) (p : Option Addr) (m c : Nat) (t : P12.T) (ht : t.length ≤ 1000000) (h1 : 15 ≤ op) (h2 : op ≤ 18) (w : World)
  (hr : w.rangeAt g 0 (exprL kd o2 vk vi vs tb nm (.slice p m c)))
  (hA : ∀ W, Xk.Ext w W → Calls Tryz.prog 116 #[.int .i64 op, .agg (exprL kd o2 vk vi vs tb nm (.slice p m c)).toArray] W fun r w' => r = .returned (bs t) ∧ Xk.Ext W w') :
  Calls Tryz.prog 51 #[.agg (exprL 3 op 0 0 [] [] [] (.slice (some ⟨g, 0, none⟩) 1 1)).toArray] w fun r w' => r = .returned (bs (if op = 15 then [78, 79, 84, 32] ++ t else if op = 16 then [45, 32] ++ t else if op = 17 then t ++ [32, 73, 83, 32, 78, 85, 76, 76] else t ++ [32, 73, 83, 32, 78, 79, 84, 32, 78, 85, 76, 76])) ∧ Xk.Ext w w' := by
 have hga := heap_new w (exprO (exprL 3 op 0 0 [] [] [] (.slice (some ⟨g, 0, none⟩) 1 1)))
 have HXA : Hid (Xk.Ext w (w.alloc (exprO (exprL 3 op 0 0 [] [] [] (.slice (some ⟨g, 0, none⟩) 1 1))))) := Lib.hid ((Below.refl _ _).alloc (Nat.le_refl _) _)
 have lg : g < w.heap.size := World.block_lt_of_cell? _ _ (hr 0 _ rfl)
 have hcell : ∀ j v, (exprL kd o2 vk vi vs tb nm (.slice p m c))[j]? = some v → (w.alloc (exprO (exprL 3 op 0 0 [] [] [] (.slice (some ⟨g, 0, none⟩) 1 1)))).cell? ⟨g, j, none⟩ = some v := fun j v hj => by
  have := Xk.ext_cell HXA.out (hr j v hj)
  rwa [Nat.zero_add] at this
 have u0 := hcell 0 _ rfl
 have u1 := hcell 1 _ rfl
 have u2 := hcell 2 _ rfl
 have u3 := hcell 3 _ rfl
 have u4 := hcell 4 _ rfl
 have u5 := hcell 5 _ rfl
 have u6 := hcell 6 _ rfl
 have u7 := hcell 7 _ rfl
 have u8 := hcell 8 _ rfl
 have u9 := hcell 9 _ rfl
 obtain ⟨z0, z1, z2, z3, z4, z5, z6, z7, z8, z9, z10⟩ := expr_cells hga
 have lg2 : g < (w.alloc (exprO (exprL 3 op 0 0 [] [] [] (.slice (some ⟨g, 0, none⟩) 1 1)))).heap.size := by rw [World.size_alloc]; omega
 have HA := Lib.hid fun W (hx : Xk.Ext (w.alloc (exprO (exprL 3 op 0 0 [] [] [] (.slice (some ⟨g, 0, none⟩) 1 1)))) W) => hA W (Xk.Ext.trans HXA.out hx)
 clear hcell hr hA
 have hop : op = 15 ∨ op = 16 ∨ op = 17 ∨ op = 18 := by omega
 clear h1 h2 hga
 rcases hop with rfl | rfl | rfl | rfl
 ·have HQ : Hid ((⟨#[78, 79, 84, 32]⟩ ++ ⟨t.toArray⟩ : ByteArray) = ⟨([78, 79, 84, 32] ++ t).toArray⟩) := Lib.hid (str_cat _ _)
  have hsum : ¬ 9223372036854775807 < 4 + t.length := by omega
  go_enter Tryz.func51, Tryz.ntmps51
  go_wp2_with fail
  refine Xk.reg 8 (Xk.w1 HA.out fun p => ?_)
  go_wp2_with fail
  go_ret
  exact ⟨congrArg (fun x => Ending.returned (.string x)) HQ.out, Xk.Ext.trans HXA.out Xk.xt⟩
 ·have HQ : Hid ((⟨#[45, 32]⟩ ++ ⟨t.toArray⟩ : ByteArray) = ⟨([45, 32] ++ t).toArray⟩) := Lib.hid (str_cat _ _)
  have hsum : ¬ 9223372036854775807 < 2 + t.length := by omega
  go_enter Tryz.func51, Tryz.ntmps51
  go_wp2_with fail
  refine Xk.reg 8 (Xk.w1 HA.out fun p => ?_)
  go_wp2_with fail
  go_ret
  exact ⟨congrArg (fun x => Ending.returned (.string x)) HQ.out, Xk.Ext.trans HXA.out Xk.xt⟩
 ·have HQ : Hid ((⟨t.toArray⟩ ++ ⟨#[32, 73, 83, 32, 78, 85, 76, 76]⟩ : ByteArray) = ⟨(t ++ [32, 73, 83, 32, 78, 85, 76, 76]).toArray⟩) := Lib.hid (str_cat _ _)
  have hsum : ¬ 9223372036854775807 < t.length + 8 := by omega
  go_enter Tryz.func51, Tryz.ntmps51
  go_wp2_with fail
  refine Xk.reg 8 (Xk.w1 HA.out fun p => ?_)
  go_wp2_with fail
  go_ret
  exact ⟨congrArg (fun x => Ending.returned (.string x)) HQ.out, Xk.Ext.trans HXA.out Xk.xt⟩
 ·have HQ : Hid ((⟨t.toArray⟩ ++ ⟨#[32, 73, 83, 32, 78, 79, 84, 32, 78, 85, 76, 76]⟩ : ByteArray) = ⟨(t ++ [32, 73, 83, 32, 78, 79, 84, 32, 78, 85, 76, 76]).toArray⟩) := Lib.hid (str_cat _ _)
  have hsum : ¬ 9223372036854775807 < t.length + 12 := by omega
  go_enter Tryz.func51, Tryz.ntmps51
  go_wp2_with fail
  refine Xk.reg 8 (Xk.w1 HA.out fun p => ?_)
  go_wp2_with fail
  go_ret
  exact ⟨congrArg (fun x => Ending.returned (.string x)) HQ.out, Xk.Ext.trans HXA.out Xk.xt⟩
theorem text_bin (op : Int) (g : Nat) (kd o2 vk vi : Int) (vs tb nm : P12.T) (p : Option Addr) (m c : Nat) (kd' o2' vk' vi' : Int) (vs' tb' nm' : P12.T) (p' : Option Addr) (m' c' : Nat) (t sg t' : P12.T) (ht : t.length ≤ 1000000) (ht' : t'.length ≤ 1000000) (hsg : sg.length ≤ 1000) (w : World)
  (hr : w.rangeAt g 0 (exprL kd o2 vk vi vs tb nm (.slice p m c) ++ exprL kd' o2' vk' vi' vs' tb' nm' (.slice p' m' c')))
  (hS : ∀ W, Calls Tryz.prog 117 #[.int .i64 op] W fun r w' => r = .returned (bs sg) ∧ Xk.Ext W w')
  (hA : ∀ W, Xk.Ext w W → Calls Tryz.prog 116 #[.int .i64 op, .agg (exprL kd o2 vk vi vs tb nm (.slice p m c)).toArray] W fun r w' => r = .returned (bs t) ∧ Xk.Ext W w')
  (hB : ∀ W, Xk.Ext w W → Calls Tryz.prog 116 #[.int .i64 op, .agg (exprL kd' o2' vk' vi' vs' tb' nm' (.slice p' m' c')).toArray] W fun r w' => r = .returned (bs t') ∧ Xk.Ext W w') :
  Calls Tryz.prog 51 #[.agg (exprL 4 op 0 0 [] [] [] (.slice (some ⟨g, 0, none⟩) 2 2)).toArray] w fun r w' => r = .returned (bs (t ++ [32] ++ sg ++ [32] ++ t')) ∧ Xk.Ext w w' := by
 have hga := heap_new w (exprO (exprL 4 op 0 0 [] [] [] (.slice (some ⟨g, 0, none⟩) 2 2)))
 have HXA : Hid (Xk.Ext w (w.alloc (exprO (exprL 4 op 0 0 [] [] [] (.slice (some ⟨g, 0, none⟩) 2 2))))) := Lib.hid ((Below.refl _ _).alloc (Nat.le_refl _) _)
 have lg : g < w.heap.size := World.block_lt_of_cell? _ _ (hr 0 _ rfl)
 have hcell : ∀ j v, (exprL kd o2 vk vi vs tb nm (.slice p m c) ++ exprL kd' o2' vk' vi' vs' tb' nm' (.slice p' m' c'))[j]? = some v → (w.alloc (exprO (exprL 4 op 0 0 [] [] [] (.slice (some ⟨g, 0, none⟩) 2 2)))).cell? ⟨g, j, none⟩ = some v := fun j v hj => by
  have := Xk.ext_cell HXA.out (hr j v hj)
  rwa [Nat.zero_add] at this
 have u0 := hcell 0 _ rfl
 have u1 := hcell 1 _ rfl
 have u2 := hcell 2 _ rfl
 have u3 := hcell 3 _ rfl
 have u4 := hcell 4 _ rfl
 have u5 := hcell 5 _ rfl
 have u6 := hcell 6 _ rfl
 have u7 := hcell 7 _ rfl
 have u8 := hcell 8 _ rfl
 have u9 := hcell 9 _ rfl
 have v0 := hcell 10 _ rfl
 have v1 := hcell 11 _ rfl
 have v2 := hcell 12 _ rfl
 have v3 := hcell 13 _ rfl
 have v4 := hcell 14 _ rfl
 have v5 := hcell 15 _ rfl
 have v6 := hcell 16 _ rfl
 have v7 := hcell 17 _ rfl
 have v8 := hcell 18 _ rfl
 have v9 := hcell 19 _ rfl
 obtain ⟨z0, z1, z2, z3, z4, z5, z6, z7, z8, z9, z10⟩ := expr_cells hga
 have lg2 : g < (w.alloc (exprO (exprL 4 op 0 0 [] [] [] (.slice (some ⟨g, 0, none⟩) 2 2)))).heap.size := by rw [World.size_alloc]; omega
 have HA := Lib.hid fun W (hx : Xk.Ext (w.alloc (exprO (exprL 4 op 0 0 [] [] [] (.slice (some ⟨g, 0, none⟩) 2 2)))) W) => hA W (Xk.Ext.trans HXA.out hx)
 have HB := Lib.hid fun W (hx : Xk.Ext (w.alloc (exprO (exprL 4 op 0 0 [] [] [] (.slice (some ⟨g, 0, none⟩) 2 2)))) W) => hB W (Xk.Ext.trans HXA.out hx)
 have HS := Lib.hid hS
 clear hcell hr hA hB hS hga
 have HQ : Hid ((⟨t.toArray⟩ ++ ⟨#[32]⟩ ++ ⟨sg.toArray⟩ ++ ⟨#[32]⟩ ++ ⟨t'.toArray⟩ : ByteArray) = ⟨(t ++ [32] ++ sg ++ [32] ++ t').toArray⟩) := Lib.hid (by apply bytes_eq; simp)
 have n1 : ¬ 9223372036854775807 < t.length + 1 := by omega
 have n2 : ¬ 9223372036854775807 < t.length + 1 + sg.length := by omega
 have n3 : ¬ 9223372036854775807 < t.length + 1 + sg.length + 1 := by omega
 have n4 : ¬ 9223372036854775807 < t.length + 1 + sg.length + 1 + t'.length := by omega
 go_enter Tryz.func51, Tryz.ntmps51
 go_wp2_with fail
 refine Xk.reg 21 (Xk.w3 HA.out HB.out HS.out fun p => ?_)
 go_wp2_with fail
 go_ret
 exact ⟨congrArg (fun x => Ending.returned (.string x)) HQ.out, Xk.Ext.trans HXA.out Xk.xt⟩
theorem text_call (op : Int) (g : Nat) (kd o2 vk vi : Int) (vs tb nm : P12.T) (p : Option Addr) (m c : Nat) (t : P12.T) (ht : t.length ≤ 1000000) (h1 : 20 ≤ op) (h2 : op ≤ 23) (w : World)
  (hr : w.rangeAt g 0 (exprL kd o2 vk vi vs tb nm (.slice p m c)))
  (hT : ∀ W, Xk.Ext w W → Calls Tryz.prog 51 #[.agg (exprL kd o2 vk vi vs tb nm (.slice p m c)).toArray] W fun r w' => r = .returned (bs t) ∧ Xk.Ext W w') :
  Calls Tryz.prog 51 #[.agg (exprL 5 op 0 0 [] [] [] (.slice (some ⟨g, 0, none⟩) 1 1)).toArray] w fun r w' => r = .returned (bs (P12.fnWord op ++ [40] ++ t ++ [41])) ∧ Xk.Ext w w' := by
 have HXA : Hid (Xk.Ext w (w.alloc (exprO (exprL 5 op 0 0 [] [] [] (.slice (some ⟨g, 0, none⟩) 1 1))))) := Lib.hid ((Below.refl _ _).alloc (Nat.le_refl _) _)
 have lg : g < w.heap.size := World.block_lt_of_cell? _ _ (hr 0 _ rfl)
 have HR := Lib.hid (range_same hr (HXA.out.block g lg))
 have HT := Lib.hid fun W (hx : Xk.Ext (w.alloc (exprO (exprL 5 op 0 0 [] [] [] (.slice (some ⟨g, 0, none⟩) 1 1)))) W) => hT W (Xk.Ext.trans HXA.out hx)
 have hop : op = 20 ∨ op = 21 ∨ op = 22 ∨ op = 23 := by omega
 clear h1 h2 hr hT
 rcases hop with rfl | rfl | rfl | rfl
 ·have HQ : Hid ((⟨#[67, 79, 85, 78, 84]⟩ ++ ⟨#[40]⟩ ++ ⟨t.toArray⟩ ++ ⟨#[41]⟩ : ByteArray) = ⟨(P12.fnWord 20 ++ [40] ++ t ++ [41]).toArray⟩) := Lib.hid (by apply bytes_eq; simp [P12.fnWord])
  go_enter Tryz.func51, Tryz.ntmps51
  go_wp2_with (first | (refine wpList_load_mid rfl 35 _ rfl g 0 rfl _ _ HR.out Tryz.underlying35 rfl (by kernel_rfl) ?_))
  refine (HT.out _ Xk.xt).mono ?_
  rintro e w1 ⟨rfl, hx1⟩
  go_wp2_with fail
  go_ret
  exact ⟨congrArg (fun x => Ending.returned (.string x)) HQ.out, Xk.Ext.trans HXA.out hx1⟩
 ·have HQ : Hid ((⟨#[83, 85, 77]⟩ ++ ⟨#[40]⟩ ++ ⟨t.toArray⟩ ++ ⟨#[41]⟩ : ByteArray) = ⟨(P12.fnWord 21 ++ [40] ++ t ++ [41]).toArray⟩) := Lib.hid (by apply bytes_eq; simp [P12.fnWord])
  go_enter Tryz.func51, Tryz.ntmps51
  go_wp2_with (first | (refine wpList_load_mid rfl 35 _ rfl g 0 rfl _ _ HR.out Tryz.underlying35 rfl (by kernel_rfl) ?_))
  refine (HT.out _ Xk.xt).mono ?_
  rintro e w1 ⟨rfl, hx1⟩
  go_wp2_with fail
  go_ret
  exact ⟨congrArg (fun x => Ending.returned (.string x)) HQ.out, Xk.Ext.trans HXA.out hx1⟩
 ·have HQ : Hid ((⟨#[77, 73, 78]⟩ ++ ⟨#[40]⟩ ++ ⟨t.toArray⟩ ++ ⟨#[41]⟩ : ByteArray) = ⟨(P12.fnWord 22 ++ [40] ++ t ++ [41]).toArray⟩) := Lib.hid (by apply bytes_eq; simp [P12.fnWord])
  go_enter Tryz.func51, Tryz.ntmps51
  go_wp2_with (first | (refine wpList_load_mid rfl 35 _ rfl g 0 rfl _ _ HR.out Tryz.underlying35 rfl (by kernel_rfl) ?_))
  refine (HT.out _ Xk.xt).mono ?_
  rintro e w1 ⟨rfl, hx1⟩
  go_wp2_with fail
  go_ret
  exact ⟨congrArg (fun x => Ending.returned (.string x)) HQ.out, Xk.Ext.trans HXA.out hx1⟩
 ·have HQ : Hid ((⟨#[77, 65, 88]⟩ ++ ⟨#[40]⟩ ++ ⟨t.toArray⟩ ++ ⟨#[41]⟩ : ByteArray) = ⟨(P12.fnWord 23 ++ [40] ++ t ++ [41]).toArray⟩) := Lib.hid (by apply bytes_eq; simp [P12.fnWord])
  go_enter Tryz.func51, Tryz.ntmps51
  go_wp2_with (first | (refine wpList_load_mid rfl 35 _ rfl g 0 rfl _ _ HR.out Tryz.underlying35 rfl (by kernel_rfl) ?_))
  refine (HT.out _ Xk.xt).mono ?_
  rintro e w1 ⟨rfl, hx1⟩
  go_wp2_with fail
  go_ret
  exact ⟨congrArg (fun x => Ending.returned (.string x)) HQ.out, Xk.Ext.trans HXA.out hx1⟩
theorem inBr_len {b : Bool} {t : P12.T} : t.length ≤ (P12.inBr b t).length := by
 cases b <;> simp [P12.inBr]
 omega
theorem isE_some {e : P12.E} (h : P12.isE e = true) : e ≠ .none := fun h2 => by rw [h2] at h; cases h
theorem textE_any : ∀ (e : P12.E), P12.isE e = true → (P12.text e).length ≤ 1000000 → ∀ (S : Nat → Prop) (w : World) (l : List Value), Env w → ExprAt S w e l → Calls Tryz.prog 51 #[.agg l.toArray] w fun r w' => r = .returned (bs (P12.text e)) ∧ Xk.Ext w w'
 | .none, h, _, _, _, _, _, _ => by cases h
 | .val k i s, h, _, _, w, _, hE, rfl => by
  simp only [P12.isE, Bool.and_eq_true, decide_eq_true_eq] at h
  exact text_val k i s h.1.2 h.2 w hE
 | .col t n, h, hb, _, w, _, hE, rfl => text_col t n (by unfold P12.text at hb; split at hb <;> simp_all <;> omega) (by unfold P12.text at hb; split at hb <;> simp_all <;> omega) w
 | .all, h, _, _, w, _, hE, rfl => text_all w
 | .una op a, h, hb, S, w, l, hE, he => by
  simp only [P12.isE, Bool.and_eq_true, decide_eq_true_eq] at h
  unfold ExprAt at he
  obtain ⟨g, u, hg, rfl, hr, hl, he⟩ := he
  have hlen : (P12.inBr (P12.closed op a) (P12.text a)).length ≤ 1000000 := by
   unfold P12.text at hb
   split at hb
   ·simp at hb; omega
   ·split at hb
    ·simp at hb; omega
    ·split at hb <;> simp at hb <;> omega
  have hlt := Nat.le_trans (inBr_len (b := P12.closed op a) (t := P12.text a)) hlen
  obtain ⟨kd, o2, vk, vi, vs, tb, nm, p, m, c, rfl⟩ := he.form
  exact text_una op g kd o2 vk vi vs tb nm p m c _ hlen h.1.1 h.1.2 w hr (fun W hx => argument_of op kd o2 vk vi vs tb nm p m c (P12.closed op a) (P12.text a) hlt W
   (fun W2 => closed_any op a (isE_some h.2) S w _ he W2) (fun W2 hx2 => textE_any a h.2 hlt S W2 _ (hE.ext (Xk.Ext.trans hx hx2)) (ExprAt.extS he (Xk.Ext.trans hx hx2))))
 | .call op a, h, hb, S, w, l, hE, he => by
  simp only [P12.isE, Bool.and_eq_true, decide_eq_true_eq] at h
  unfold ExprAt at he
  obtain ⟨g, u, hg, rfl, hr, hl, he⟩ := he
  have hlt : (P12.text a).length ≤ 1000000 := by unfold P12.text at hb; simp at hb; omega
  obtain ⟨kd, o2, vk, vi, vs, tb, nm, p, m, c, rfl⟩ := he.form
  exact text_call op g kd o2 vk vi vs tb nm p m c _ hlt h.1.1 h.1.2 w hr (fun W hx => textE_any a h.2 hlt S W _ (hE.ext hx) (ExprAt.extS he hx))
 | .bin op a b, h, hb, S, w, l, hE, he => by
  simp only [P12.isE, Bool.and_eq_true, decide_eq_true_eq] at h
  unfold ExprAt at he
  obtain ⟨g, u, v, hg, rfl, hr, hl, hl2, he, he2⟩ := he
  have hla : (P12.inBr (P12.closed op a) (P12.text a)).length ≤ 1000000 := by unfold P12.text at hb; simp at hb; omega
  have hlb : (P12.inBr (P12.closed op b) (P12.text b)).length ≤ 1000000 := by unfold P12.text at hb; simp at hb; omega
  have hsg : (P12.signOf op).length ≤ 1000 := by
   have hop : op = 1 ∨ op = 2 ∨ op = 3 ∨ op = 4 ∨ op = 5 ∨ op = 6 ∨ op = 7 ∨ op = 8 ∨ op = 9 ∨ op = 10 ∨ op = 11 ∨ op = 12 ∨ op = 13 ∨ op = 14 := by omega
   rcases hop with rfl | rfl | rfl | rfl | rfl | rfl | rfl | rfl | rfl | rfl | rfl | rfl | rfl | rfl <;> decide
  have hlta := Nat.le_trans (inBr_len (b := P12.closed op a) (t := P12.text a)) hla
  have hltb := Nat.le_trans (inBr_len (b := P12.closed op b) (t := P12.text b)) hlb
  obtain ⟨kd, o2, vk, vi, vs, tb, nm, p, m, c, rfl⟩ := he.form
  obtain ⟨kd', o2', vk', vi', vs', tb', nm', p', m', c', rfl⟩ := he2.form
  exact text_bin op g kd o2 vk vi vs tb nm p m c kd' o2' vk' vi' vs' tb' nm' p' m' c' _ (P12.signOf op) _ hla hlb hsg w hr (fun W => sign_any op h.1.1.1 h.1.1.2 W)
   (fun W hx => argument_of op kd o2 vk vi vs tb nm p m c (P12.closed op a) (P12.text a) hlta W (fun W2 => closed_any op a (isE_some h.1.2) S w _ he W2) (fun W2 hx2 => textE_any a h.1.2 hlta S W2 _ (hE.ext (Xk.Ext.trans hx hx2)) (ExprAt.extS he (Xk.Ext.trans hx hx2))))
   (fun W hx => argument_of op kd' o2' vk' vi' vs' tb' nm' p' m' c' (P12.closed op b) (P12.text b) hltb W (fun W2 => closed_any op b (isE_some h.2) S w _ he2 W2) (fun W2 hx2 => textE_any b h.2 hltb S W2 _ (hE.ext (Xk.Ext.trans hx hx2)) (ExprAt.extS he2 (Xk.Ext.trans hx hx2))))
theorem Tryz.infoString : (Tryz.prog.info? 9).map (fun i => (i.zero, i.size, i.bytes)) = some (some (.string ⟨#[]⟩), 1, 16) := by kernel_rfl
theorem own_slice {w : World} {B : Nat} {e : TypeId} {size n : Nat} {v : Value} {xs : List Value} (h : w.ownsRow B e size v n xs) : ∃ p c, v = .slice p n c := by
 rcases h.2 with ⟨rfl, rfl⟩ | ⟨g, cap, cur, rfl, -⟩
 ·exact ⟨_, _, rfl⟩
 ·exact ⟨_, _, rfl⟩
theorem take_map_succ {α β : Type} {l : List α} {q : Nat} {x : α} (h : l[q]? = some x) (f : α → β) : (l.take q).map f ++ [f x] = (l.take (q + 1)).map f := by
 rw [List.take_add_one, h]; simp
theorem joinOwn (v : Value) (B : Nat) (l : List P12.T) (w : World) (h : w.ownsRow B 9 1 v l.length (l.map bs)) (hn : l.length ≤ 1000000) (hj : (P12.join l).length ≤ 140737488355328) :
  Calls Tryz.prog 114 #[v, .string ⟨#[44, 32]⟩] w fun e w' => e = .returned (bs (P12.join l)) ∧ Xk.Ext w w' := by
 rcases h.2 with ⟨rfl, h0⟩ | ⟨g, cap, cur, rfl, hB, hg, hcap, hmx, hcs, htk⟩
 ·have hl0 : l = [] := List.eq_nil_of_length_eq_zero h0
  subst hl0
  exact (Tryz.strings_Join_none none 0 _ w).mono fun e w' ⟨he, hw⟩ => ⟨he, by rw [hw]; exact Below.refl _ _⟩
 ·cases hl : l with
  | nil =>
   exact (Tryz.strings_Join_none _ _ _ w).mono fun e w' ⟨he, hw⟩ => ⟨he, by rw [hw]; exact Below.refl _ _⟩
  | cons x r =>
   rw [← hl]
   have hm : (l.map fun y => (⟨y.toArray⟩ : ByteArray)).map (·.data.toList) = l := by
    rw [List.map_map]
    exact (List.map_congr_left (fun y _ => by simp)).trans (List.map_id _)
   have hlt := (Array.getElem?_eq_some_iff.1 hg).1
   have hJ := Tryz.strings_Join g 0 cap (l.map fun y => ⟨y.toArray⟩) ⟨#[44, 32]⟩ w (fun j y hj => by
    rw [List.getElem?_map, Option.map_eq_some_iff] at hj
    obtain ⟨z, hz, rfl⟩ := hj
    have hc : (cur.toList.take (l.length * 1))[j]? = some (bs z) := by rw [htk, List.getElem?_map, hz]; rfl
    rw [List.getElem?_take] at hc
    split at hc
    ·simp only [World.cell?, hg, Nat.zero_add, Option.isSome_none, Bool.false_eq_true, if_false]
     simpa using hc
    ·cases hc) hlt (by rw [List.length_map]; omega) (by rw [List.length_map]; exact hcap) (by rw [hm]; exact hj)
   rw [hm, List.length_map] at hJ
   exact hJ
theorem rowExpr {α : Type} {FI : FuncId} (hent : Ent FI) {S : Nat → Prop} {R : α → List Value → Prop} {l : List α} {v : Value} (f : α → P12.T) (w : World) (h : SlcAt S w 10 R l v) (hl : l.length ≤ 100000) (hj : (P12.join (l.map f)).length ≤ 1000000000) (hform : ∀ x u, x ∈ l → R x u → ∃ kd op vk vi : Int, ∃ vs tb nm : P12.T, ∃ pp : Option Addr, ∃ pm pc : Nat,  u = exprL kd op vk vi vs tb nm (.slice pp pm pc))
  (hF : ∀ x (kd op vk vi : Int) (vs tb nm : P12.T) (pp : Option Addr) (pm pc : Nat), x ∈ l → R x (exprL kd op vk vi vs tb nm (.slice pp pm pc)) → ∀ W, Xk.Ext w W → Calls Tryz.prog FI #[.agg (exprL kd op vk vi vs tb nm (.slice pp pm pc)).toArray] W fun e w' => e = .returned (bs (f x)) ∧ Xk.Ext W w') :
  Calls Tryz.prog 50 #[v, .func (.func FI) #[] #[]] w fun e w' => e = .returned (bs (P12.join (l.map f))) ∧ Xk.Ext w w' := by
 have hcf := hent.run
 have hci := hent.no
 have HF := Lib.hid hF
 have HS := Lib.hid h
 have HFM := Lib.hid hform
 have HJ := Lib.hid hj
 obtain ⟨p, c, rfl⟩ := h.len
 obtain ⟨i0, hi, hz0, hz1, hz2⟩ := infoParts Tryz.infoString
 have Hi := Lib.hid hi
 have Hz0 := Lib.hid hz0
 have Hz1 := Lib.hid hz1
 have Hz2 := Lib.hid hz2
 clear hi hz0 hz1 hz2
 clear hF hform h hj
 go_enter Tryz.func50, Tryz.ntmps50
 go_wp2_with fail
 go_loopw [5, 10] (fun s x wr => ∃ q : Nat, q ≤ l.length ∧ x = .int .i64 q ∧ Xk.Ext w wr ∧ wr.ownsRow w.heap.size 9 1 s q ((l.take q).map fun y => bs (f y))) (fun _ x _ => l.length - (intOf x).toNat)
 case atStart => exact ⟨0, by omega, rfl, Below.refl _ _, World.ownsRow_nil _ _ _ _⟩
 case round =>
  obtain ⟨q, hq, rfl, hx, ho⟩ := hrel
  obtain ⟨ps, cs, rfl⟩ := own_slice ho
  have HX := Lib.hid hx
  have HO := Lib.hid ho
  have hws := hx.size
  clear hx ho
  by_cases hlt : q < l.length
  ·obtain ⟨g, rfl⟩ := HS.out.root (by omega)
   obtain ⟨-, -, he⟩ := HS.out.elem
   have hget : l[q]? = some l[q] := List.getElem?_eq_getElem hlt
   obtain ⟨u, hu, -, hr⟩ := he q _ hget
   have hmem := List.getElem_mem hlt
   obtain ⟨kd, op, vk, vi, vs, tb, nm, pp, pm, pc, rfl⟩ := HFM.out _ _ hmem hu
   have hg := World.block_lt_of_cell? _ _ (hr 0 _ rfl)
   have HRJ := Lib.hid (range_same hr (HX.out.block g hg))
   have hwg : g < wr.heap.size := Nat.lt_of_lt_of_le hg HX.out.size
   have hlb : (q : Int) < (l.length : Int) := by omega
   
   have hxb : Xk.Ext wr (wr.alloc (.cells (exprL kd op vk vi vs tb nm (.slice pp pm pc)).toArray 35)) := (Below.refl _ _).alloc (Nat.le_refl _) _
   have HC := Lib.hid (HF.out _ kd op vk vi vs tb nm pp pm pc hmem hu (wr.alloc (.cells (exprL kd op vk vi vs tb nm (.slice pp pm pc)).toArray 35)) (Xk.Ext.trans HX.out hxb))
   have HXB := Lib.hid hxb
   have HGET := Lib.hid hget
   clear hr hu he hxb hget
   generalize l[q] = x at *
   go_wp2_with (first | (refine wpList_load_mid rfl 35 _ rfl g (q * 10) rfl _ _ HRJ.out Tryz.underlying35 rfl (by kernel_rfl) ?_) | (refine wpList_loadRow rfl 35 _ rfl (wr.heap.size) _ 35 (0, 0) _ rfl (heap_new wr _) Tryz.underlying35 rfl (by kernel_rfl) ?_))
   refine HC.out.mono ?_
   rintro e wf ⟨rfl, hx'⟩
   have hxf := Xk.Ext.trans HXB.out hx'
   have hlf := hxf.size
   have HOF := Lib.hid (own_same HO.out (fun b hb => hxf.block b (HO.out.lt b hb).2))
   have HXF := Lib.hid (Xk.Ext.trans HX.out hxf)
   clear hx' hxf
   go_wp2_with (at_builtin; refine Xo.wpList_appb w.heap.size rfl _ _ 29 rfl 9 i0 _ 1 16 Tryz.underlying29 Hi.out Hz0.out Hz1.out Hz2.out rfl (by decide) (.slice ps q cs) q _ rfl (own_same HOF.out (fun b hb => (show Xk.Ext wf (wf.alloc (.cells #[bs (f x)] 9)) from (Below.refl _ _).alloc (Nat.le_refl _) _).block b (HOF.out.lt b hb).2)) wf.heap.size 0 1 1 [bs (f x)] rfl (by decide) rfl (cells_list wf _ _ rfl) (one_all (by kernel_rfl)) (by omega) (by rw [World.size_alloc]; omega) ?_; intro v' w7 ho' hg' hk')
   have hx7 : Xk.Ext w w7 := Below.grown (Xk.Ext.trans HXF.out ((Below.refl _ _).alloc (Nat.le_refl _) _)) hg' (by rw [World.size_alloc]; omega) (fun j hj => (HOF.out.lt j hj).1)
   have HX7 := Lib.hid hx7
   have HO7 : Hid (w7.ownsRow w.heap.size 9 1 v' (q + 1) ((l.take (q + 1)).map fun y => bs (f y))) := Lib.hid (by rw [← take_map_succ HGET.out]; exact ho')
   clear ho' hg' hk' hx7
   go_wp2_with fail
   go_roundw
   case rel => exact ⟨q + 1, by omega, by go_num, HX7.out, HO7.out⟩
   case measure => simp [intOf]; omega
  ·have hlb : ¬ (q : Int) < (l.length : Int) := by omega
   obtain rfl : q = l.length := by omega
   have HJN := Lib.hid (joinOwn (.slice ps l.length cs) w.heap.size (l.map f) wr (by have := HO.out; rw [List.take_length] at this; rw [List.length_map, List.map_map]; exact this) (by rw [List.length_map]; omega) (by have := HJ.out; omega))
   go_wp2_with fail
   refine HJN.out.mono ?_
   rintro e wf ⟨rfl, hx'⟩
   go_wp2_with fail
   go_ret
   exact ⟨rfl, Xk.Ext.trans HX.out hx'⟩
theorem rowItem {α : Type} {FI : FuncId} (hent : Ent FI) {S : Nat → Prop} {R : α → List Value → Prop} {l : List α} {v : Value} (f : α → P12.T) (w : World) (h : SlcAt S w 12 R l v) (hl : l.length ≤ 100000) (hj : (P12.join (l.map f)).length ≤ 1000000000) (hform : ∀ x u, x ∈ l → R x u → ∃ b : Bool, ∃ kd op vk vi : Int, ∃ vs tb nm : P12.T, ∃ pp : Option Addr, ∃ pm pc : Nat, ∃ a : P12.T,  u = Value.bool b :: (exprL kd op vk vi vs tb nm (.slice pp pm pc) ++ [bs a]))
  (hF : ∀ x (b : Bool) (kd op vk vi : Int) (vs tb nm : P12.T) (pp : Option Addr) (pm pc : Nat) (a : P12.T), x ∈ l → R x (Value.bool b :: (exprL kd op vk vi vs tb nm (.slice pp pm pc) ++ [bs a])) → ∀ W, Xk.Ext w W → Calls Tryz.prog FI #[.agg (Value.bool b :: (exprL kd op vk vi vs tb nm (.slice pp pm pc) ++ [bs a])).toArray] W fun e w' => e = .returned (bs (f x)) ∧ Xk.Ext W w') :
  Calls Tryz.prog 118 #[v, .func (.func FI) #[] #[]] w fun e w' => e = .returned (bs (P12.join (l.map f))) ∧ Xk.Ext w w' := by
 have hcf := hent.run
 have hci := hent.no
 have HF := Lib.hid hF
 have HS := Lib.hid h
 have HFM := Lib.hid hform
 have HJ := Lib.hid hj
 obtain ⟨p, c, rfl⟩ := h.len
 obtain ⟨i0, hi, hz0, hz1, hz2⟩ := infoParts Tryz.infoString
 have Hi := Lib.hid hi
 have Hz0 := Lib.hid hz0
 have Hz1 := Lib.hid hz1
 have Hz2 := Lib.hid hz2
 clear hi hz0 hz1 hz2
 clear hF hform h hj
 go_enter Tryz.func118, Tryz.ntmps118
 go_wp2_with fail
 go_loopw [5, 10] (fun s x wr => ∃ q : Nat, q ≤ l.length ∧ x = .int .i64 q ∧ Xk.Ext w wr ∧ wr.ownsRow w.heap.size 9 1 s q ((l.take q).map fun y => bs (f y))) (fun _ x _ => l.length - (intOf x).toNat)
 case atStart => exact ⟨0, by omega, rfl, Below.refl _ _, World.ownsRow_nil _ _ _ _⟩
 case round =>
  obtain ⟨q, hq, rfl, hx, ho⟩ := hrel
  obtain ⟨ps, cs, rfl⟩ := own_slice ho
  have HX := Lib.hid hx
  have HO := Lib.hid ho
  have hws := hx.size
  clear hx ho
  by_cases hlt : q < l.length
  ·obtain ⟨g, rfl⟩ := HS.out.root (by omega)
   obtain ⟨-, -, he⟩ := HS.out.elem
   have hget : l[q]? = some l[q] := List.getElem?_eq_getElem hlt
   obtain ⟨u, hu, -, hr⟩ := he q _ hget
   have hmem := List.getElem_mem hlt
   obtain ⟨b, kd, op, vk, vi, vs, tb, nm, pp, pm, pc, a, rfl⟩ := HFM.out _ _ hmem hu
   have hg := World.block_lt_of_cell? _ _ (hr 0 _ rfl)
   have HRJ := Lib.hid (range_same hr (HX.out.block g hg))
   have hwg : g < wr.heap.size := Nat.lt_of_lt_of_le hg HX.out.size
   have hlb : (q : Int) < (l.length : Int) := by omega
   
   have hxb : Xk.Ext wr (wr.alloc (.cells (Value.bool b :: (exprL kd op vk vi vs tb nm (.slice pp pm pc) ++ [bs a])).toArray 88)) := (Below.refl _ _).alloc (Nat.le_refl _) _
   have HC := Lib.hid (HF.out _ b kd op vk vi vs tb nm pp pm pc a hmem hu (wr.alloc (.cells (Value.bool b :: (exprL kd op vk vi vs tb nm (.slice pp pm pc) ++ [bs a])).toArray 88)) (Xk.Ext.trans HX.out hxb))
   have HXB := Lib.hid hxb
   have HGET := Lib.hid hget
   clear hr hu he hxb hget
   generalize l[q] = x at *
   go_wp2_with (first | (refine wpList_load_mid rfl 88 _ rfl g (q * 12) rfl _ _ HRJ.out Tryz.underlying88 rfl (by kernel_rfl) ?_) | (refine wpList_loadRow rfl 88 _ rfl (wr.heap.size) _ 88 (0, 0) _ rfl (heap_new wr _) Tryz.underlying88 rfl (by kernel_rfl) ?_))
   refine HC.out.mono ?_
   rintro e wf ⟨rfl, hx'⟩
   have hxf := Xk.Ext.trans HXB.out hx'
   have hlf := hxf.size
   have HOF := Lib.hid (own_same HO.out (fun b hb => hxf.block b (HO.out.lt b hb).2))
   have HXF := Lib.hid (Xk.Ext.trans HX.out hxf)
   clear hx' hxf
   go_wp2_with (at_builtin; refine Xo.wpList_appb w.heap.size rfl _ _ 29 rfl 9 i0 _ 1 16 Tryz.underlying29 Hi.out Hz0.out Hz1.out Hz2.out rfl (by decide) (.slice ps q cs) q _ rfl (own_same HOF.out (fun b hb => (show Xk.Ext wf (wf.alloc (.cells #[bs (f x)] 9)) from (Below.refl _ _).alloc (Nat.le_refl _) _).block b (HOF.out.lt b hb).2)) wf.heap.size 0 1 1 [bs (f x)] rfl (by decide) rfl (cells_list wf _ _ rfl) (one_all (by kernel_rfl)) (by omega) (by rw [World.size_alloc]; omega) ?_; intro v' w7 ho' hg' hk')
   have hx7 : Xk.Ext w w7 := Below.grown (Xk.Ext.trans HXF.out ((Below.refl _ _).alloc (Nat.le_refl _) _)) hg' (by rw [World.size_alloc]; omega) (fun j hj => (HOF.out.lt j hj).1)
   have HX7 := Lib.hid hx7
   have HO7 : Hid (w7.ownsRow w.heap.size 9 1 v' (q + 1) ((l.take (q + 1)).map fun y => bs (f y))) := Lib.hid (by rw [← take_map_succ HGET.out]; exact ho')
   clear ho' hg' hk' hx7
   go_wp2_with fail
   go_roundw
   case rel => exact ⟨q + 1, by omega, by go_num, HX7.out, HO7.out⟩
   case measure => simp [intOf]; omega
  ·have hlb : ¬ (q : Int) < (l.length : Int) := by omega
   obtain rfl : q = l.length := by omega
   have HJN := Lib.hid (joinOwn (.slice ps l.length cs) w.heap.size (l.map f) wr (by have := HO.out; rw [List.take_length] at this; rw [List.length_map, List.map_map]; exact this) (by rw [List.length_map]; omega) (by have := HJ.out; omega))
   go_wp2_with fail
   refine HJN.out.mono ?_
   rintro e wf ⟨rfl, hx'⟩
   go_wp2_with fail
   go_ret
   exact ⟨rfl, Xk.Ext.trans HX.out hx'⟩
theorem rowOrd {α : Type} {FI : FuncId} (hent : Ent FI) {S : Nat → Prop} {R : α → List Value → Prop} {l : List α} {v : Value} (f : α → P12.T) (w : World) (h : SlcAt S w 11 R l v) (hl : l.length ≤ 100000) (hj : (P12.join (l.map f)).length ≤ 1000000000) (hform : ∀ x u, x ∈ l → R x u → ∃ kd op vk vi : Int, ∃ vs tb nm : P12.T, ∃ pp : Option Addr, ∃ pm pc : Nat, ∃ b : Bool,  u = exprL kd op vk vi vs tb nm (.slice pp pm pc) ++ [Value.bool b])
  (hF : ∀ x (kd op vk vi : Int) (vs tb nm : P12.T) (pp : Option Addr) (pm pc : Nat) (b : Bool), x ∈ l → R x (exprL kd op vk vi vs tb nm (.slice pp pm pc) ++ [Value.bool b]) → ∀ W, Xk.Ext w W → Calls Tryz.prog FI #[.agg (exprL kd op vk vi vs tb nm (.slice pp pm pc) ++ [Value.bool b]).toArray] W fun e w' => e = .returned (bs (f x)) ∧ Xk.Ext W w') :
  Calls Tryz.prog 121 #[v, .func (.func FI) #[] #[]] w fun e w' => e = .returned (bs (P12.join (l.map f))) ∧ Xk.Ext w w' := by
 have hcf := hent.run
 have hci := hent.no
 have HF := Lib.hid hF
 have HS := Lib.hid h
 have HFM := Lib.hid hform
 have HJ := Lib.hid hj
 obtain ⟨p, c, rfl⟩ := h.len
 obtain ⟨i0, hi, hz0, hz1, hz2⟩ := infoParts Tryz.infoString
 have Hi := Lib.hid hi
 have Hz0 := Lib.hid hz0
 have Hz1 := Lib.hid hz1
 have Hz2 := Lib.hid hz2
 clear hi hz0 hz1 hz2
 clear hF hform h hj
 go_enter Tryz.func121, Tryz.ntmps121
 go_wp2_with fail
 go_loopw [5, 10] (fun s x wr => ∃ q : Nat, q ≤ l.length ∧ x = .int .i64 q ∧ Xk.Ext w wr ∧ wr.ownsRow w.heap.size 9 1 s q ((l.take q).map fun y => bs (f y))) (fun _ x _ => l.length - (intOf x).toNat)
 case atStart => exact ⟨0, by omega, rfl, Below.refl _ _, World.ownsRow_nil _ _ _ _⟩
 case round =>
  obtain ⟨q, hq, rfl, hx, ho⟩ := hrel
  obtain ⟨ps, cs, rfl⟩ := own_slice ho
  have HX := Lib.hid hx
  have HO := Lib.hid ho
  have hws := hx.size
  clear hx ho
  by_cases hlt : q < l.length
  ·obtain ⟨g, rfl⟩ := HS.out.root (by omega)
   obtain ⟨-, -, he⟩ := HS.out.elem
   have hget : l[q]? = some l[q] := List.getElem?_eq_getElem hlt
   obtain ⟨u, hu, -, hr⟩ := he q _ hget
   have hmem := List.getElem_mem hlt
   obtain ⟨kd, op, vk, vi, vs, tb, nm, pp, pm, pc, b, rfl⟩ := HFM.out _ _ hmem hu
   have hg := World.block_lt_of_cell? _ _ (hr 0 _ rfl)
   have HRJ := Lib.hid (range_same hr (HX.out.block g hg))
   have hwg : g < wr.heap.size := Nat.lt_of_lt_of_le hg HX.out.size
   have hlb : (q : Int) < (l.length : Int) := by omega
   
   have hxb : Xk.Ext wr (wr.alloc (.cells (exprL kd op vk vi vs tb nm (.slice pp pm pc) ++ [Value.bool b]).toArray 92)) := (Below.refl _ _).alloc (Nat.le_refl _) _
   have HC := Lib.hid (HF.out _ kd op vk vi vs tb nm pp pm pc b hmem hu (wr.alloc (.cells (exprL kd op vk vi vs tb nm (.slice pp pm pc) ++ [Value.bool b]).toArray 92)) (Xk.Ext.trans HX.out hxb))
   have HXB := Lib.hid hxb
   have HGET := Lib.hid hget
   clear hr hu he hxb hget
   generalize l[q] = x at *
   go_wp2_with (first | (refine wpList_load_mid rfl 92 _ rfl g (q * 11) rfl _ _ HRJ.out Tryz.underlying92 rfl (by kernel_rfl) ?_) | (refine wpList_loadRow rfl 92 _ rfl (wr.heap.size) _ 92 (0, 0) _ rfl (heap_new wr _) Tryz.underlying92 rfl (by kernel_rfl) ?_))
   refine HC.out.mono ?_
   rintro e wf ⟨rfl, hx'⟩
   have hxf := Xk.Ext.trans HXB.out hx'
   have hlf := hxf.size
   have HOF := Lib.hid (own_same HO.out (fun b hb => hxf.block b (HO.out.lt b hb).2))
   have HXF := Lib.hid (Xk.Ext.trans HX.out hxf)
   clear hx' hxf
   go_wp2_with (at_builtin; refine Xo.wpList_appb w.heap.size rfl _ _ 29 rfl 9 i0 _ 1 16 Tryz.underlying29 Hi.out Hz0.out Hz1.out Hz2.out rfl (by decide) (.slice ps q cs) q _ rfl (own_same HOF.out (fun b hb => (show Xk.Ext wf (wf.alloc (.cells #[bs (f x)] 9)) from (Below.refl _ _).alloc (Nat.le_refl _) _).block b (HOF.out.lt b hb).2)) wf.heap.size 0 1 1 [bs (f x)] rfl (by decide) rfl (cells_list wf _ _ rfl) (one_all (by kernel_rfl)) (by omega) (by rw [World.size_alloc]; omega) ?_; intro v' w7 ho' hg' hk')
   have hx7 : Xk.Ext w w7 := Below.grown (Xk.Ext.trans HXF.out ((Below.refl _ _).alloc (Nat.le_refl _) _)) hg' (by rw [World.size_alloc]; omega) (fun j hj => (HOF.out.lt j hj).1)
   have HX7 := Lib.hid hx7
   have HO7 : Hid (w7.ownsRow w.heap.size 9 1 v' (q + 1) ((l.take (q + 1)).map fun y => bs (f y))) := Lib.hid (by rw [← take_map_succ HGET.out]; exact ho')
   clear ho' hg' hk' hx7
   go_wp2_with fail
   go_roundw
   case rel => exact ⟨q + 1, by omega, by go_num, HX7.out, HO7.out⟩
   case measure => simp [intOf]; omega
  ·have hlb : ¬ (q : Int) < (l.length : Int) := by omega
   obtain rfl : q = l.length := by omega
   have HJN := Lib.hid (joinOwn (.slice ps l.length cs) w.heap.size (l.map f) wr (by have := HO.out; rw [List.take_length] at this; rw [List.length_map, List.map_map]; exact this) (by rw [List.length_map]; omega) (by have := HJ.out; omega))
   go_wp2_with fail
   refine HJN.out.mono ?_
   rintro e wf ⟨rfl, hx'⟩
   go_wp2_with fail
   go_ret
   exact ⟨rfl, Xk.Ext.trans HX.out hx'⟩
abbrev tabO (l : List Value) : Obj := .cells l.toArray 27
def ET (B : Nat) (o : Obj) (w w' : World) : Prop := w'.os = w.os ∧ w'.tape = w.tape ∧ w'.output = w.output ∧ w.heap.size ≤ w'.heap.size ∧ ∀ b, b < w.heap.size → w'.heap[b]? = w.heap[b]? ∨ (B ≤ b ∧ w'.heap[b]? = some o)
theorem pre_ET (B : Nat) (o : Obj) : Xe.Pre (ET B o) := by
 refine ⟨fun w => ⟨rfl, rfl, rfl, Nat.le_refl _, fun b _ => .inl rfl⟩, ?_, ?_, fun h => h.2.2.2.1⟩
 ·rintro a b c ⟨h1, h2, h3, h4, h5⟩ ⟨g1, g2, g3, g4, g5⟩
  refine ⟨g1.trans h1, g2.trans h2, g3.trans h3, Nat.le_trans h4 g4, fun x hx => ?_⟩
  rcases g5 x (Nat.lt_of_lt_of_le hx h4) with e | e
  ·rw [e]; exact h5 x hx
  ·exact .inr e
 ·intro a b h
  exact ⟨h.os, h.tape, h.output, h.size, fun x hx => .inl (h.block x hx)⟩
theorem ext_et {w w2 W : World} {o : Obj} (h2 : Xk.Ext w w2) (h : ET w2.heap.size o w2.drew W) : Xk.Ext w W :=
 ⟨h.1.trans h2.os, h.2.1.trans h2.tape, h.2.2.1.trans h2.output, Nat.le_trans h2.size (by have := h.2.2.2.1; rwa [World.size_drew] at this), fun b hb => by
  have hs := h2.size
  have := (h.2.2.2.2 b (by rw [World.size_drew]; omega)).resolve_right (fun e => by omega)
  exact this.trans (h2.block b hb)⟩
def tabF (B : Nat) (_ : List Value) (v : Value) (W : World) : Prop := ∃ g c, v = .pointer (some ⟨g, 0, none⟩) ∧ B ≤ g ∧ c.size = 4 ∧ W.heap[g]? = some (.cells c 27)
def tabS (B : Nat) (l : List Value) (ls : List Value) (_ : Value) (W : World) : Prop := ∀ g, ls.head? = some (.pointer (some ⟨g, 0, none⟩)) → B ≤ g → W.heap[g]? = some (tabO l)
theorem tabF.et {B : Nat} {l : List Value} (hl : l.length = 4) : ∀ ls v w w', ET B (tabO l) w w' → tabF B ls v w → tabF B ls v w' := by
 rintro ls v w w' h ⟨g, c, rfl, hg, hc, hw⟩
 rcases h.2.2.2.2 g (Array.getElem?_eq_some_iff.1 hw).1 with e | ⟨-, e⟩
 ·exact ⟨g, c, rfl, hg, hc, e.trans hw⟩
 ·exact ⟨g, l.toArray, rfl, hg, by simpa using hl, e⟩
theorem tabS.et {B : Nat} {l : List Value} : ∀ ls v w w', ET B (tabO l) w w' → tabS B l ls v w → tabS B l ls v w' := by
 intro ls v w w' h hs g hg hb
 have hw := hs g hg hb
 rcases h.2.2.2.2 g (Array.getElem?_eq_some_iff.1 hw).1 with e | ⟨-, e⟩
 ·exact e.trans hw
 ·exact e
theorem store_tab {P : Program} {o : Oper} {a : Act} {B : Nat} {w : World} {φ : Value → World → Prop} (t : TypeId) (x y : Operand) (ho : o.op = .store t x y) (g : Nat) (c c' : Array Value) (T : TypeId) (hx : a.eval x = .pointer (some ⟨g, 0, none⟩)) (hy : a.eval y = .agg c')
  (hg : w.heap[g]? = some (.cells c T)) (hs : c.size = c'.size) (hi : (P.info? t).map (·.size) = some c'.size) (h1 : c'.all (·.oneCell') = true) (hb : B ≤ g) (hφ : ∀ W, W.heap[g]? = some (.cells c' T) → φ undef W) : Xe.makeRun (ET B (.cells c' T)) P o a w none φ := by
 have ht : w.there g 0 c'.size := fun j hj => by
  rw [Nat.zero_add]
  exact ⟨by simp [World.cell?, hg, show j < c.size by omega], frozen_of_row w g j _ _ hg⟩
 have hp := puts_set hg c'.toList 0
 have hw : (w.setCells g 0 c'.toList).heap[g]? = some (.cells c' T) := by simpa using setCells_all hg c'.toList (by simpa using hs.symm)
 unfold Xe.makeRun execOp
 simp only [ho, hx, hy, Instr.storeAt, Instr.sureAddr, Sem.run_bind, Sem.run_pure, Result.andThen_ok, run_storeVar_mid w g 0 t c' ht hi h1]
 refine ⟨⟨hp.os, hp.tape, hp.output, Nat.le_of_eq hp.size.symm, fun b hbb => ?_⟩, hφ _ hw, fun b hb => by cases hb⟩
 by_cases hbg : b = g
 ·subst hbg; exact .inr ⟨hb, hw⟩
 ·exact .inl (hp.rest b hbg)
theorem stmt_cells {kind lim : Int} {tn nm on : P12.T} {un : Bool} {p1 p2 p3 p4 p5 p6 p7 p8 p9 p10 p11 : Option Addr} {n1 n2 n3 n4 n5 n6 n7 n8 n9 n10 n11 c1 c2 c3 c4 c5 c6 c7 c8 c9 c10 c11 : Nat}
  {k1 o1 vk1 vi1 : Int} {vs1 tb1 nm1 : P12.T} {q1 : Option Addr} {m1 d1 : Nat} {k2 o2 vk2 vi2 : Int} {vs2 tb2 nm2 : P12.T} {q2 : Option Addr} {m2 d2 : Nat} {W : World} {g : Nat}
  (h : W.heap[g]? = some (stmtO (stmtL kind tn (.slice p1 n1 c1) (.slice p2 n2 c2) (.slice p3 n3 c3) (.slice p4 n4 c4) nm on un (.slice p5 n5 c5) (.slice p6 n6 c6) (.slice p7 n7 c7) (exprL k1 o1 vk1 vi1 vs1 tb1 nm1 (.slice q1 m1 d1)) (.slice p8 n8 c8) (.slice p9 n9 c9) (exprL k2 o2 vk2 vi2 vs2 tb2 nm2 (.slice q2 m2 d2)) (.slice p10 n10 c10) (.slice p11 n11 c11) lim))) :
  g < W.heap.size ∧ W.cell? ⟨g, 1, none⟩ = some (bs tn) ∧ W.cell? ⟨g, 2, none⟩ = some ((.slice p1 n1 c1)) ∧ W.cell? ⟨g, 3, none⟩ = some ((.slice p2 n2 c2)) ∧ W.cell? ⟨g, 4, none⟩ = some ((.slice p3 n3 c3)) ∧ W.cell? ⟨g, 5, none⟩ = some ((.slice p4 n4 c4)) ∧ W.cell? ⟨g, 6, none⟩ = some (bs nm) ∧ W.cell? ⟨g, 7, none⟩ = some (bs on) ∧ W.cell? ⟨g, 8, none⟩ = some (.bool un) ∧ W.cell? ⟨g, 9, none⟩ = some ((.slice p5 n5 c5)) ∧ W.cell? ⟨g, 10, none⟩ = some ((.slice p6 n6 c6)) ∧ W.cell? ⟨g, 11, none⟩ = some ((.slice p7 n7 c7)) ∧ W.cell? ⟨g, 12, none⟩ = some (.int .i64 k1) ∧ W.cell? ⟨g, 13, none⟩ = some (.int .i64 o1) ∧ W.cell? ⟨g, 14, none⟩ = some (.int .i64 vk1) ∧ W.cell? ⟨g, 15, none⟩ = some (.int .i64 vi1) ∧ W.cell? ⟨g, 16, none⟩ = some (bs vs1) ∧ W.cell? ⟨g, 17, none⟩ = some (bs tb1) ∧ W.cell? ⟨g, 18, none⟩ = some (bs nm1) ∧ W.cell? ⟨g, 19, none⟩ = some (.int .i64 0) ∧ W.cell? ⟨g, 20, none⟩ = some (.int .i64 0) ∧ W.cell? ⟨g, 21, none⟩ = some (.slice q1 m1 d1) ∧ W.cell? ⟨g, 22, none⟩ = some ((.slice p8 n8 c8)) ∧ W.cell? ⟨g, 23, none⟩ = some ((.slice p9 n9 c9)) ∧ W.cell? ⟨g, 24, none⟩ = some (.int .i64 k2) ∧ W.cell? ⟨g, 25, none⟩ = some (.int .i64 o2) ∧ W.cell? ⟨g, 26, none⟩ = some (.int .i64 vk2) ∧ W.cell? ⟨g, 27, none⟩ = some (.int .i64 vi2) ∧ W.cell? ⟨g, 28, none⟩ = some (bs vs2) ∧ W.cell? ⟨g, 29, none⟩ = some (bs tb2) ∧ W.cell? ⟨g, 30, none⟩ = some (bs nm2) ∧ W.cell? ⟨g, 31, none⟩ = some (.int .i64 0) ∧ W.cell? ⟨g, 32, none⟩ = some (.int .i64 0) ∧ W.cell? ⟨g, 33, none⟩ = some (.slice q2 m2 d2) ∧ W.cell? ⟨g, 34, none⟩ = some ((.slice p10 n10 c10)) ∧ W.cell? ⟨g, 35, none⟩ = some ((.slice p11 n11 c11)) ∧ W.cell? ⟨g, 36, none⟩ = some (.int .i64 lim) := by
 refine ⟨(Array.getElem?_eq_some_iff.1 h).1, ?_, ?_, ?_, ?_, ?_, ?_, ?_, ?_, ?_, ?_, ?_, ?_, ?_, ?_, ?_, ?_, ?_, ?_, ?_, ?_, ?_, ?_, ?_, ?_, ?_, ?_, ?_, ?_, ?_, ?_, ?_, ?_, ?_, ?_, ?_, ?_⟩ <;> simp [World.cell?, h]
theorem tab_cells {tn : P12.T} {p1 p2 p3 : Option Addr} {n1 n2 n3 c1 c2 c3 : Nat} {W : World} {g : Nat} (h : W.heap[g]? = some (tabO [bs tn, .slice p1 n1 c1, .slice p2 n2 c2, .slice p3 n3 c3])) :
  g < W.heap.size ∧ W.cell? ⟨g, 0, none⟩ = some (bs tn) ∧ W.cell? ⟨g, 1, none⟩ = some (.slice p1 n1 c1) ∧ W.cell? ⟨g, 2, none⟩ = some (.slice p2 n2 c2) ∧ W.cell? ⟨g, 3, none⟩ = some (.slice p3 n3 c3) := by
 refine ⟨(Array.getElem?_eq_some_iff.1 h).1, ?_, ?_, ?_, ?_⟩ <;> simp [World.cell?, h]
theorem same_self (kind lim : Int) (tn nm on : P12.T) (un : Bool) (p1 p2 p3 p4 p5 p6 p7 p8 p9 p10 p11 : Option Addr) (n1 n2 n3 n4 n5 n6 n7 n8 n9 n10 n11 c1 c2 c3 c4 c5 c6 c7 c8 c9 c10 c11 : Nat)
  (k1 o1 vk1 vi1 : Int) (vs1 tb1 nm1 : P12.T) (q1 : Option Addr) (m1 d1 : Nat) (k2 o2 vk2 vi2 : Int) (vs2 tb2 nm2 : P12.T) (q2 : Option Addr) (m2 d2 : Nat) (b1 b2 : Bool) (l : List Value)
  (hl : l = stmtL kind tn (.slice p1 n1 c1) (.slice p2 n2 c2) (.slice p3 n3 c3) (.slice p4 n4 c4) nm on un (.slice p5 n5 c5) (.slice p6 n6 c6) (.slice p7 n7 c7) (exprL k1 o1 vk1 vi1 vs1 tb1 nm1 (.slice q1 m1 d1)) (.slice p8 n8 c8) (.slice p9 n9 c9) (exprL k2 o2 vk2 vi2 vs2 tb2 nm2 (.slice q2 m2 d2)) (.slice p10 n10 c10) (.slice p11 n11 c11) lim)
  (hB1 : ∀ W, Calls Tryz.prog 94 #[.agg (exprL k1 o1 vk1 vi1 vs1 tb1 nm1 (.slice q1 m1 d1)).toArray] W fun e w' => e = .returned (.bool b1) ∧ Xk.Ext W w')
  (hB2 : ∀ W, Calls Tryz.prog 94 #[.agg (exprL k2 o2 vk2 vi2 vs2 tb2 nm2 (.slice q2 m2 d2)).toArray] W fun e w' => e = .returned (.bool b2) ∧ Xk.Ext W w')
  (w : World) : Calls Tryz.prog 32 #[.agg l.toArray, .agg l.toArray] w fun e w' => e = .returned (.bool true) ∧ Xk.Ext w w' := by
 subst hl
 have HB1 := Lib.hid hB1
 have HB2 := Lib.hid hB2
 clear hB1 hB2
 go_enter Tryz.func32, Tryz.ntmps32
 obtain ⟨lv, hlv⟩ : ∃ lv, lv = stmtL kind tn (.slice p1 n1 c1) (.slice p2 n2 c2) (.slice p3 n3 c3) (.slice p4 n4 c4) nm on un (.slice p5 n5 c5) (.slice p6 n6 c6) (.slice p7 n7 c7) (exprL k1 o1 vk1 vi1 vs1 tb1 nm1 (.slice q1 m1 d1)) (.slice p8 n8 c8) (.slice p9 n9 c9) (exprL k2 o2 vk2 vi2 vs2 tb2 nm2 (.slice q2 m2 d2)) (.slice p10 n10 c10) (.slice p11 n11 c11) lim := ⟨_, rfl⟩
 have hg1 : ((w.alloc (stmtO lv)).alloc (stmtO lv)).heap[w.heap.size]? = some (stmtO lv) := (((Below.refl _ _).alloc (Nat.le_refl _) _ : Xk.Ext (w.alloc (stmtO lv)) _).block _ (by rw [World.size_alloc]; omega)).trans (heap_new w _)
 have hg2 : ((w.alloc (stmtO lv)).alloc (stmtO lv)).heap[w.heap.size + 1]? = some (stmtO lv) := by
  have := heap_new (w.alloc (stmtO lv)) (stmtO lv)
  rwa [World.size_alloc] at this
 have hsz : ((w.alloc (stmtO lv)).alloc (stmtO lv)).heap.size = w.heap.size + 2 := by simp
 rw [← hlv]
 have HLV := Lib.hid hlv
 clear hlv
 go_wp2_with fail
 have hx2 : Xk.Ext w ((w.alloc (stmtO lv)).alloc (stmtO lv)) := ((Below.refl _ _).alloc (Nat.le_refl _) _).alloc (by rw [World.size_alloc]; omega) _
 generalize (w.alloc (stmtO lv)).alloc (stmtO lv) = w2 at *
 obtain ⟨tl, htl⟩ : ∃ tl : List Value, tl = [bs tn, .slice p1 n1 c1, .slice p2 n2 c2, .slice p3 n3 c3] := ⟨_, rfl⟩
 have hlv := HLV.out
 have hcl : ∀ g W, (W : World).heap[g]? = some (stmtO lv) → W.cell? ⟨g, 1, none⟩ = some (bs tn) ∧ W.cell? ⟨g, 2, none⟩ = some (.slice p1 n1 c1) ∧ W.cell? ⟨g, 3, none⟩ = some (.slice p2 n2 c2) ∧ W.cell? ⟨g, 4, none⟩ = some (.slice p3 n3 c3) ∧ W.cell? ⟨g, 5, none⟩ = some (.slice p4 n4 c4) := fun g W h => by
  rw [hlv] at h
  refine ⟨?_, ?_, ?_, ?_, ?_⟩ <;> simp [World.cell?, h]
 clear hlv
 refine Xd.wp_region_rel (E := ET w2.heap.size (tabO tl)) (pre_ET _ _) 8 (fun _ => none) (fun _ _ h => by cases h) (fun _ _ _ _ h => by cases h) [(4, tabF w2.heap.size), (5, tabF w2.heap.size), (6, tabS w2.heap.size tl), (7, tabS w2.heap.size tl)] (by kernel_rfl) (by kernel_rfl) (Xd.stable_all ?_) ?_
 ·intro y hy
  simp only [List.mem_cons, List.not_mem_nil, or_false] at hy
  rcases hy with rfl | rfl | rfl | rfl
  ·exact tabF.et (by rw [htl]; rfl)
  ·exact tabF.et (by rw [htl]; rfl)
  ·exact tabS.et
  ·exact tabS.et
 simp only [List.take_succ_cons, List.take_zero, List.drop_succ_cons, List.drop_zero]
 (refine Xd.rel_det (pre_ET _ _) (Xk.wanted_none (by rfl)) (by rfl) (fun K hK => ?_); apply Exists.intro; refine ⟨fun W hx hp => ?_, ?_⟩; (skip; go_simp; first | exact ⟨rfl, rfl⟩ | ((try refine ⟨by kernel_rfl, ?_⟩); (fail))); (go_simp; refine hK _ ?_; clear hK K))
 (refine Xd.rel_det (pre_ET _ _) (Xk.wanted_none (by rfl)) (by rfl) (fun K hK => ?_); apply Exists.intro; refine ⟨fun W hx hp => ?_, ?_⟩; ((have hb := ((hx.2.2.2.2 w.heap.size (by have := hsz; simp; omega)).resolve_right (fun h => by have := h.1; omega)).trans hg1; obtain ⟨k1, k2, k3, k4, k5⟩ := hcl _ _ hb); go_simp; first | exact ⟨rfl, rfl⟩ | ((try refine ⟨by kernel_rfl, ?_⟩); (fail))); (go_simp; refine hK _ ?_; clear hK K))
 (refine Xd.rel_det (pre_ET _ _) (Xk.wanted_none (by rfl)) (by rfl) (fun K hK => ?_); apply Exists.intro; refine ⟨fun W hx hp => ?_, ?_⟩; (skip; go_simp; first | exact ⟨rfl, rfl⟩ | ((try refine ⟨by kernel_rfl, ?_⟩); (fail))); (go_simp; refine hK _ ?_; clear hK K))
 (refine Xd.rel_det (pre_ET _ _) (Xk.wanted_none (by rfl)) (by rfl) (fun K hK => ?_); apply Exists.intro; refine ⟨fun W hx hp => ?_, ?_⟩; ((have hb := ((hx.2.2.2.2 (w.heap.size + 1) (by have := hsz; simp; omega)).resolve_right (fun h => by have := h.1; omega)).trans hg2; obtain ⟨k1, k2, k3, k4, k5⟩ := hcl _ _ hb); go_simp; first | exact ⟨rfl, rfl⟩ | ((try refine ⟨by kernel_rfl, ?_⟩); (fail))); (go_simp; refine hK _ ?_; clear hK K))
 (refine Xd.rel_make (pre_ET _ _) (by rfl) (by rfl) (fun W hx hp => ?_) (fun u5 K hK => ?_); ((go_simp; exact ⟨(pre_ET _ _).ext ((Below.refl _ _).alloc (Nat.le_refl _) _), ⟨W.heap.size, _, rfl, by have h1 := hx.2.2.2.1; rw [World.size_drew] at h1; have h2 := hsz; omega, rfl, heap_new W _⟩, fun b hb => by cases hb⟩)); (go_simp; refine hK _ ?_; clear hK K))
 (refine Xd.rel_make (pre_ET _ _) (by rfl) (by rfl) (fun W hx hp => ?_) (fun u6 K hK => ?_); ((go_simp; exact ⟨(pre_ET _ _).ext ((Below.refl _ _).alloc (Nat.le_refl _) _), ⟨W.heap.size, _, rfl, by have h1 := hx.2.2.2.1; rw [World.size_drew] at h1; have h2 := hsz; omega, rfl, heap_new W _⟩, fun b hb => by cases hb⟩)); (go_simp; refine hK _ ?_; clear hK K))
 (refine Xd.rel_make (pre_ET _ _) (by rfl) (by rfl) (fun W hx hp => ?_) (fun u7 K hK => ?_); ((obtain ⟨g, c, rfl, hg, hc, hw⟩ := Xd.facts_head (Xe.facts_tail hp) (by kernel_rfl); rw [htl] at hx ⊢; exact store_tab _ _ _ rfl g c _ _ rfl rfl hw hc (by kernel_rfl) (by kernel_rfl) hg (fun W hW g' hg' _ => by cases hg'; exact hW))); (go_simp; refine hK _ ?_; clear hK K))
 (refine Xd.rel_make (pre_ET _ _) (by rfl) (by rfl) (fun W hx hp => ?_) (fun u8 K hK => ?_); ((obtain ⟨g, c, rfl, hg, hc, hw⟩ := Xd.facts_head (Xe.facts_tail hp) (by kernel_rfl); rw [htl] at hx ⊢; exact store_tab _ _ _ rfl g c _ _ rfl rfl hw hc (by kernel_rfl) (by kernel_rfl) hg (fun W hW g' hg' _ => by cases hg'; exact hW))); (go_simp; refine hK _ ?_; clear hK K))
 refine Xd.rel_nil (fun W hx hp hG => ?_)
 obtain ⟨h8, h7, h6, h5, -⟩ := hp
 obtain ⟨g6, c6', rfl, hg6, -, -⟩ := h6
 obtain ⟨g5, c5', rfl, hg5, -, -⟩ := h5
 have hT5 := h7 g5 rfl hg5
 have hT6 := h8 g6 rfl hg6
 clear h7 h8 hG
 have hs1 := ((hx.2.2.2.2 w.heap.size (by have := hsz; simp; omega)).resolve_right (fun h => by have := h.1; omega)).trans hg1
 have hs2 := ((hx.2.2.2.2 (w.heap.size + 1) (by have := hsz; simp; omega)).resolve_right (fun h => by have := h.1; omega)).trans hg2
 have hxW := Lib.hid (ext_et hx2 hx)
 rw [HLV.out] at hs1 hs2
 rw [htl] at hT5 hT6
 obtain ⟨ha0, x1, x2, x3, x4, x5, x6, x7, x8, x9, x10, x11, x12, x13, x14, x15, x16, x17, x18, x19, x20, x21, x22, x23, x24, x25, x26, x27, x28, x29, x30, x31, x32, x33, x34, x35, x36⟩ := stmt_cells hs1
 obtain ⟨hb0, y1, y2, y3, y4, y5, y6, y7, y8, y9, y10, y11, y12, y13, y14, y15, y16, y17, y18, y19, y20, y21, y22, y23, y24, y25, y26, y27, y28, y29, y30, y31, y32, y33, y34, y35, y36⟩ := stmt_cells hs2
 obtain ⟨hc0, u0, u1, u2, u3⟩ := tab_cells hT5
 obtain ⟨hd0, v0, v1, v2, v3⟩ := tab_cells hT6
 clear hs1 hs2 hT5 hT6 hcl htl hx hg1 hg2 hg5 hg6 hsz hx2
 go_wp2_with fail
 simp only [List.append_eq, List.cons_append, List.nil_append]
 refine Xk.reg 151 (Xk.w2 HB1.out HB2.out fun p => ?_)
 go_wp2_with fail
 go_ret
 exact ⟨rfl, preExt.trans hxW.out (Xk.xt : Xk.Ext W _)⟩
def EC (g : Nat) (T : TypeId) (L : Array Value) (w w' : World) : Prop := w'.os = w.os ∧ w'.tape = w.tape ∧ w'.output = w.output ∧ w.heap.size ≤ w'.heap.size ∧
 ∀ b, b < w.heap.size → w'.heap[b]? = w.heap[b]? ∨ (b = g ∧ ∃ c c', w.heap[b]? = some (.cells c T) ∧ w'.heap[b]? = some (.cells c' T) ∧ c'.size = c.size ∧ ∀ j : Nat, c'[j]? = c[j]? ∨ c'[j]? = L[j]?)
theorem pre_EC (g : Nat) (T : TypeId) (L : Array Value) : Xe.Pre (EC g T L) := by
 refine ⟨fun w => ⟨rfl, rfl, rfl, Nat.le_refl _, fun b _ => .inl rfl⟩, ?_, ?_, fun h => h.2.2.2.1⟩
 ·rintro a b c ⟨h1, h2, h3, h4, h5⟩ ⟨g1, g2, g3, g4, g5⟩
  refine ⟨g1.trans h1, g2.trans h2, g3.trans h3, Nat.le_trans h4 g4, fun x hx => ?_⟩
  rcases g5 x (Nat.lt_of_lt_of_le hx h4) with e | ⟨hb, c1, c2, e1, e2, e3, e4⟩
  ·rw [e]; exact h5 x hx
  ·rcases h5 x hx with f | ⟨-, d1, d2, f1, f2, f3, f4⟩
   ·exact .inr ⟨hb, c1, c2, by rw [← f]; exact e1, e2, e3, e4⟩
   ·rw [f2] at e1
    cases e1
    refine .inr ⟨hb, d1, c2, f1, e2, e3.trans f3, fun j => ?_⟩
    rcases e4 j with e | e
    ·rw [e]; exact f4 j
    ·exact .inr e
 ·intro a b h
  exact ⟨h.os, h.tape, h.output, h.size, fun x hx => .inl (h.block x hx)⟩
def CellsAt (g : Nat) (T : TypeId) (L : Array Value) (o k : Nat) (_ : Value) (W : World) : Prop := ∃ c, W.heap[g]? = some (.cells c T) ∧ ∀ j : Nat, o ≤ j → j < o + k → c[j]? = L[j]?
theorem CellsAt.ec {g : Nat} {T : TypeId} {L : Array Value} {o k : Nat} : ∀ v w w', EC g T L w w' → CellsAt g T L o k v w → CellsAt g T L o k v w' := by
 rintro v w w' h ⟨c, hc, hj⟩
 rcases h.2.2.2.2 g (Array.getElem?_eq_some_iff.1 hc).1 with e | ⟨-, c1, c2, e1, e2, -, e4⟩
 ·exact ⟨c, e.trans hc, hj⟩
 ·rw [hc] at e1
  cases e1
  refine ⟨c2, e2, fun j h1 h2 => ?_⟩
  rcases e4 j with e | e
  ·rw [e]; exact hj j h1 h2
  ·exact e
theorem ec_row {g : Nat} {T : TypeId} {L : Array Value} {w w' : World} (h : EC g T L w w') {c : Array Value} (hc : w.heap[g]? = some (.cells c T)) : ∃ c', w'.heap[g]? = some (.cells c' T) ∧ c'.size = c.size ∧ ∀ j : Nat, c'[j]? = c[j]? ∨ c'[j]? = L[j]? := by
 rcases h.2.2.2.2 g (Array.getElem?_eq_some_iff.1 hc).1 with e | ⟨-, c1, c2, e1, e2, e3, e4⟩
 ·exact ⟨c, e.trans hc, rfl, fun j => .inl rfl⟩
 ·rw [hc] at e1
  cases e1
  exact ⟨c2, e2, e3, e4⟩
theorem ec_off {g : Nat} {T : TypeId} {L : Array Value} {w w' : World} (h : EC g T L w w') {b : Nat} (hb : b < w.heap.size) (hn : b ≠ g) : w'.heap[b]? = w.heap[b]? := (h.2.2.2.2 b hb).resolve_right fun e => hn e.1
theorem ec_set {g : Nat} {T : TypeId} {L : Array Value} {W : World} {c : Array Value} (hg : W.heap[g]? = some (.cells c T)) (vs : List Value) (o : Nat) (hs : o + vs.length ≤ c.size) (hL : ∀ j : Nat, j < vs.length → L[o + j]? = vs[j]?) :
  EC g T L W (W.setCells g o vs) ∧ ∀ v, CellsAt g T L o vs.length v (W.setCells g o vs) := by
 obtain ⟨c', e1, e2, e3, e4⟩ := setCells_same vs o W c hg hs
 obtain ⟨h1, h2, h3⟩ := setCells_os g vs o W
 refine ⟨⟨h1, h2, h3, Nat.le_of_eq (setCells_size g vs o W).symm, fun b hb => ?_⟩, fun v => ⟨c', e1, fun j h1 h2 => ?_⟩⟩
 ·by_cases hbg : b = g
  ·subst hbg
   refine .inr ⟨rfl, c, c', hg, e1, e2, fun j => ?_⟩
   by_cases hj : o ≤ j ∧ j < o + vs.length
   ·have := e3 (j - o) (by omega)
    rw [show o + (j - o) = j by omega] at this
    have hl := hL (j - o) (by omega)
    rw [show o + (j - o) = j by omega] at hl
    exact .inr (this.trans hl.symm)
   ·exact .inl (e4 j (by omega))
  ·exact .inl (setCells_other g vs o W hbg)
 ·have := e3 (j - o) (by omega)
  rw [show o + (j - o) = j by omega] at this
  have hl := hL (j - o) (by omega)
  rw [show o + (j - o) = j by omega] at hl
  exact this.trans hl.symm
theorem store_cell {g : Nat} {T : TypeId} {L : Array Value} {W : World} {c : Array Value} {o : Nat} {v : Value} (hg : W.heap[g]? = some (.cells c T)) (hs : o < c.size) (hL : L[o]? = some v) :
  Xe.newPost (EC g T L) W none (CellsAt g T L o 1) undef (W.setCell ⟨g, o, none⟩ v) := by
 obtain ⟨h1, h2⟩ := ec_set (L := L) hg [v] o (by simp; omega) (fun j hj => by
  have : j = 0 := by simpa using hj
  subst this
  simpa using hL)
 exact ⟨h1, h2 _, fun b hb => by cases hb⟩
theorem store_cells {P : Program} {o : Oper} {a : Act} {g : Nat} {T : TypeId} {L : Array Value} {w : World} (t : TypeId) (x y : Operand) (ho : o.op = .store t x y) (off : Nat) (c c' : Array Value) (hx : a.eval x = .pointer (some ⟨g, off, none⟩)) (hy : a.eval y = .agg c')
  (hg : w.heap[g]? = some (.cells c T)) (hs : off + c'.size ≤ c.size) (hi : (P.info? t).map (·.size) = some c'.size) (h1 : c'.all (·.oneCell') = true) (hL : ∀ j : Nat, j < c'.size → L[off + j]? = c'[j]?) : Xe.makeRun (EC g T L) P o a w none (CellsAt g T L off c'.size) := by
 have ht : w.there g off c'.size := fun j hj => ⟨by simp [World.cell?, hg, show off + j < c.size by omega], frozen_of_row w g (off + j) _ _ hg⟩
 obtain ⟨e1, e2⟩ := ec_set (L := L) hg c'.toList off (by simpa using hs) (fun j hj => by simpa using hL j (by simpa using hj))
 unfold Xe.makeRun execOp
 simp only [ho, hx, hy, Instr.storeAt, Instr.sureAddr, Sem.run_bind, Sem.run_pure, Result.andThen_ok, run_storeVar_mid w g off t c' ht hi h1]
 exact ⟨e1, by simpa using e2 undef, fun b hb => by cases hb⟩
theorem wpList_built {P : Program} {ops : Array Oper} {rest : List Oper} {o : Oper} {a : Act} {w : World} {Q : Exit → Act → World → Prop} (hgd : o.guard = none) (t : TypeId) (x : Operand) (ho : o.op = .build t #[(0, x)])
  (u v : Value) (hx : a.eval x = u) (hb : (Instr.build t #[(0, u)]).run P w = .ok v w)
  (h : wpList P ops Q rest (a.put o.dst v) w) : wpList P ops Q (o :: rest) a w :=
 wpList_plain hgd fun _ hK => by
  unfold Oper.wp execOp
  simp only [ho, List.map_toArray, List.map_cons, List.map_nil, hx, Sem.run_bind, Sem.run_pure, hb, Result.andThen_ok]
  exact hK _ _ h
structure KI (w : World) (l : List Value) (g1 g2 g3 : Nat) (s : List Nat) (W : World) : Prop where
 x : Xk.Ext w W
 g : w.heap.size ≤ g1 ∧ g1 < g2 ∧ g2 < g3 ∧ g3 < W.heap.size
 len : l.length = 37
 b1 : W.heap[g1]? = some (stmtO l)
 b2 : ∃ c : List Value, W.heap[g2]? = some (stmtO c) ∧ c.length = 37
 b3 : ∃ c : List Value, W.heap[g3]? = some (stmtO c) ∧ c.length = 37 ∧ ∀ j ∈ s, c[j]? = l[j]?
theorem KI.cell {w W : World} {l : List Value} {g1 g2 g3 : Nat} {s : List Nat} (h : KI w l g1 g2 g3 s W) {j : Nat} {v : Value} (hv : l[j]? = some v) : W.cell? ⟨g1, j, none⟩ = some v := by
 simp [World.cell?, h.b1, hv]
theorem KI.cell3 {w W : World} {l : List Value} {g1 g2 g3 : Nat} {s : List Nat} (h : KI w l g1 g2 g3 s W) {j : Nat} (hj : j < 37) : (∃ v, W.cell? ⟨g3, j, none⟩ = some v) ∧ W.frozen? ⟨g3, j, none⟩ = false := by
 obtain ⟨c, h1, h2, -⟩ := h.b3
 exact ⟨⟨c[j], by simp [World.cell?, h1, show j < c.length by omega]⟩, frozen_of_row W g3 j _ _ h1⟩
theorem KI.lt1 {w W : World} {l : List Value} {g1 g2 g3 : Nat} {s : List Nat} (h : KI w l g1 g2 g3 s W) : g1 < W.heap.size := (Array.getElem?_eq_some_iff.1 h.b1).1
theorem KI.ec {w W W' : World} {l : List Value} {g1 g2 g3 : Nat} {s : List Nat} (h : KI w l g1 g2 g3 s W) (he : EC g3 40 l.toArray W.drew W') : KI w l g1 g2 g3 s W' := by
 obtain ⟨k1, k2, k3, k4⟩ := h.g
 have hs : W.heap.size ≤ W'.heap.size := by have := he.2.2.2.1; rwa [World.size_drew] at this
 have hoff : ∀ b, b < W.heap.size → b ≠ g3 → W'.heap[b]? = W.heap[b]? := fun b hb hn => ec_off he (by rwa [World.size_drew]) hn
 have hxs := h.x.size
 refine ⟨⟨he.1.trans h.x.os, he.2.1.trans h.x.tape, he.2.2.1.trans h.x.output, Nat.le_trans h.x.size hs, fun b hb => (hoff b (by omega) (by omega)).trans (h.x.block b hb)⟩, ⟨k1, k2, k3, by omega⟩, h.len, (hoff g1 (by omega) (by omega)).trans h.b1, ?_, ?_⟩
 ·obtain ⟨c, e, hc⟩ := h.b2
  exact ⟨c, (hoff g2 (by omega) (by omega)).trans e, hc⟩
 ·obtain ⟨c, e, hc, hj⟩ := h.b3
  obtain ⟨c', e', hc', hj'⟩ := ec_row he (w := W.drew) e
  refine ⟨c'.toList, by simpa using e', by simpa [hc] using hc', fun j hjs => ?_⟩
  have hL : l.toArray[j]? = l[j]? := by simp
  rcases hj' j with q | q
  ·rw [Array.getElem?_toList, q]; simpa using hj j hjs
  ·rw [Array.getElem?_toList, q, hL]
theorem KI.more {w W : World} {l : List Value} {g1 g2 g3 : Nat} {s : List Nat} {o k : Nat} (h : KI w l g1 g2 g3 s W) (hc : CellsAt g3 40 l.toArray o k undef W) : KI w l g1 g2 g3 (List.range' o k ++ s) W := by
 refine ⟨h.x, h.g, h.len, h.b1, h.b2, ?_⟩
 obtain ⟨c, e, hl, hj⟩ := h.b3
 obtain ⟨c', e', hj'⟩ := hc
 rw [e] at e'
 cases e'
 refine ⟨c, e, hl, fun j hjs => ?_⟩
 rcases List.mem_append.1 hjs with q | q
 ·have := List.mem_range'_1.1 q
  simpa using hj' j this.1 (by omega)
 ·exact hj j q
theorem KI.done {w W : World} {l : List Value} {g1 g2 g3 : Nat} {s : List Nat} (h : KI w l g1 g2 g3 s W) (hs : ∀ j, j < 37 → j ∈ s) : W.heap[g3]? = some (stmtO l) := by
 obtain ⟨c, e, hl, hj⟩ := h.b3
 rw [e]
 have : c = l := List.ext_getElem? fun j => by
  by_cases hjl : j < 37
  ·exact hj j (hs j hjl)
  ·rw [List.getElem?_eq_none (by omega), List.getElem?_eq_none (by have := h.len; omega)]
 rw [this]
theorem stable_ec {g : Nat} {T : TypeId} {L : Array Value} {Ψ : List (Nat × (Value → World → Prop))} (h : ∀ x ∈ Ψ, ∀ v w w', EC g T L w w' → x.2 v w → x.2 v w') : ∀ i φ, Xk.tells Ψ i = some φ → ∀ v w w', EC g T L w w' → φ v w → φ v w' := by
 intro i φ ht
 induction Ψ with
 | nil => cases ht
 | cons x r ih =>
  unfold Xk.tells at ht
  split at ht
  ·cases ht; exact h x (List.mem_cons_self ..)
  ·exact ih (fun y hy => h y (List.mem_cons_of_mem _ hy)) ht
theorem cellsAt_ec {g : Nat} {T : TypeId} {L : Array Value} {Ψ : List (Nat × (Value → World → Prop))} (h : ∀ x ∈ Ψ, ∃ o k, x.2 = CellsAt g T L o k) : ∀ i φ, Xk.tells Ψ i = some φ → ∀ v w w', EC g T L w w' → φ v w → φ v w' :=
 stable_ec fun x hx => by
  obtain ⟨o, k, e⟩ := h x hx
  rw [e]
  exact CellsAt.ec
theorem KI.start {w W W3 : World} {l z c0 : List Value} (hl : l.length = 37) {s : List Nat} (hW : W = (w.alloc (stmtO l)).alloc (stmtO zero37)) (hp : Puts W.heap.size z.toArray 40 (W.alloc (stmtO c0)) W3) (hz : z.length = 37) (hs : ∀ j ∈ s, z[j]? = l[j]?) :
  KI w l w.heap.size (w.heap.size + 1) W.heap.size s W3 := by
 have hsz : W.heap.size = w.heap.size + 2 := by rw [hW, World.size_alloc, World.size_alloc]
 have hx : Xk.Ext w W := by rw [hW]; exact ((Below.refl _ _).alloc (Nat.le_refl _) _).alloc (by rw [World.size_alloc]; omega) _
 have hx2 : Xk.Ext W (W.alloc (stmtO c0)) := (Below.refl _ _).alloc (Nat.le_refl _) _
 have h1 : W.heap[w.heap.size]? = some (stmtO l) := by
  rw [hW]
  exact (((Below.refl _ _).alloc (Nat.le_refl _) _ : Xk.Ext (w.alloc (stmtO l)) _).block _ (by rw [World.size_alloc]; omega)).trans (heap_new w _)
 have h2 : W.heap[w.heap.size + 1]? = some (stmtO zero37) := by
  rw [hW]
  have := heap_new (w.alloc (stmtO l)) (stmtO zero37)
  rwa [World.size_alloc] at this
 have hs3 := hp.size
 rw [World.size_alloc] at hs3
 refine ⟨puts_ext hp (Xk.Ext.trans hx hx2) (by omega), ⟨Nat.le_refl _, by omega, by omega, by omega⟩, hl, (hp.rest _ (by omega)).trans ((hx2.block _ (by omega)).trans h1), ⟨zero37, (hp.rest _ (by omega)).trans ((hx2.block _ (by omega)).trans h2), rfl⟩, ⟨z, hp.blk, hz, hs⟩⟩
theorem fst_some {l m : List Value} (o : Nat) (h : ∀ j : Nat, j < m.length → l[o + j]? = m[j]?) : ∀ (j : Nat) v, m[j]? = some v → l[o + j]? = some v := fun j v hj => by
 rw [h j (List.getElem?_eq_some_iff.1 hj).1]; exact hj
theorem kept_sel (kind lim : Int) (hkd : kind = 8) (p1 p2 p3 p4 : Option Addr) (n1 c1 n2 c2 n3 c3 n4 c4 : Nat) (kdw opw vkw viw : Int) (vsw tbw nnw : P12.T) (qw : Option Addr) (mw dw : Nat) (kdj opj vkj vij : Int) (vsj tbj nnj : P12.T) (qj : Option Addr) (mj dj : Nat) (l : List Value)
    (hl : l = stmtL kind [] nilS nilS nilS nilS [] [] false nilS nilS nilS (exprL kdw opw vkw viw vsw tbw nnw (.slice qw mw dw)) (.slice p1 n1 c1) (.slice p2 n2 c2) (exprL kdj opj vkj vij vsj tbj nnj (.slice qj mj dj)) (.slice p3 n3 c3) (.slice p4 n4 c4) lim) (w : World) :
    Calls Tryz.prog 33 #[.agg l.toArray] w fun e w' => e = .returned (.agg l.toArray) ∧ Xk.Ext w w' := by
  have hn1 : (kind == 1) = false := by subst hkd; rfl
  have hn2 : (kind == 2) = false := by subst hkd; rfl
  have hn3 : (kind == 3) = false := by subst hkd; rfl
  have hn4 : (kind == 4) = false := by subst hkd; rfl
  have hn5 : (kind == 5) = false := by subst hkd; rfl
  have hn6 : (kind == 6) = false := by subst hkd; rfl
  have hn7 : (kind == 7) = false := by subst hkd; rfl
  have hn8 : (kind == 8) = true := by subst hkd; rfl
  clear hkd
  have HC22 : Hid (∀ (s : List Nat) (W' : World) {g2 g3 : Nat}, KI w l w.heap.size g2 g3 s W' → W'.cell? ⟨w.heap.size, 22, none⟩ = some (.slice p1 n1 c1)) := Lib.hid fun s W' g2 g3 hk => hk.cell (by rw [hl]; rfl)
  have HC23 : Hid (∀ (s : List Nat) (W' : World) {g2 g3 : Nat}, KI w l w.heap.size g2 g3 s W' → W'.cell? ⟨w.heap.size, 23, none⟩ = some (.slice p2 n2 c2)) := Lib.hid fun s W' g2 g3 hk => hk.cell (by rw [hl]; rfl)
  have HC34 : Hid (∀ (s : List Nat) (W' : World) {g2 g3 : Nat}, KI w l w.heap.size g2 g3 s W' → W'.cell? ⟨w.heap.size, 34, none⟩ = some (.slice p3 n3 c3)) := Lib.hid fun s W' g2 g3 hk => hk.cell (by rw [hl]; rfl)
  have HC35 : Hid (∀ (s : List Nat) (W' : World) {g2 g3 : Nat}, KI w l w.heap.size g2 g3 s W' → W'.cell? ⟨w.heap.size, 35, none⟩ = some (.slice p4 n4 c4)) := Lib.hid fun s W' g2 g3 hk => hk.cell (by rw [hl]; rfl)
  have HC36 : Hid (∀ (s : List Nat) (W' : World) {g2 g3 : Nat}, KI w l w.heap.size g2 g3 s W' → W'.cell? ⟨w.heap.size, 36, none⟩ = some (.int .i64 lim)) := Lib.hid fun s W' g2 g3 hk => hk.cell (by rw [hl]; rfl)
  have HCW : Hid (∀ (s : List Nat) (W' : World) {g2 g3 : Nat}, KI w l w.heap.size g2 g3 s W' → W'.cell? ⟨w.heap.size, 12, none⟩ = some (.int .i64 kdw) ∧ W'.cell? ⟨w.heap.size, 13, none⟩ = some (.int .i64 opw) ∧ W'.cell? ⟨w.heap.size, 14, none⟩ = some (.int .i64 vkw) ∧ W'.cell? ⟨w.heap.size, 15, none⟩ = some (.int .i64 viw) ∧ W'.cell? ⟨w.heap.size, 16, none⟩ = some (bs vsw) ∧ W'.cell? ⟨w.heap.size, 17, none⟩ = some (bs tbw) ∧ W'.cell? ⟨w.heap.size, 18, none⟩ = some (bs nnw) ∧ W'.cell? ⟨w.heap.size, 19, none⟩ = some (.int .i64 0) ∧ W'.cell? ⟨w.heap.size, 20, none⟩ = some (.int .i64 0) ∧ W'.cell? ⟨w.heap.size, 21, none⟩ = some (.slice qw mw dw)) := Lib.hid fun s W' g2 g3 hk => ⟨hk.cell (by rw [hl]; rfl), hk.cell (by rw [hl]; rfl), hk.cell (by rw [hl]; rfl), hk.cell (by rw [hl]; rfl), hk.cell (by rw [hl]; rfl), hk.cell (by rw [hl]; rfl), hk.cell (by rw [hl]; rfl), hk.cell (by rw [hl]; rfl), hk.cell (by rw [hl]; rfl), hk.cell (by rw [hl]; rfl)⟩
  have HCJ : Hid (∀ (s : List Nat) (W' : World) {g2 g3 : Nat}, KI w l w.heap.size g2 g3 s W' → W'.cell? ⟨w.heap.size, 24, none⟩ = some (.int .i64 kdj) ∧ W'.cell? ⟨w.heap.size, 25, none⟩ = some (.int .i64 opj) ∧ W'.cell? ⟨w.heap.size, 26, none⟩ = some (.int .i64 vkj) ∧ W'.cell? ⟨w.heap.size, 27, none⟩ = some (.int .i64 vij) ∧ W'.cell? ⟨w.heap.size, 28, none⟩ = some (bs vsj) ∧ W'.cell? ⟨w.heap.size, 29, none⟩ = some (bs tbj) ∧ W'.cell? ⟨w.heap.size, 30, none⟩ = some (bs nnj) ∧ W'.cell? ⟨w.heap.size, 31, none⟩ = some (.int .i64 0) ∧ W'.cell? ⟨w.heap.size, 32, none⟩ = some (.int .i64 0) ∧ W'.cell? ⟨w.heap.size, 33, none⟩ = some (.slice qj mj dj)) := Lib.hid fun s W' g2 g3 hk => ⟨hk.cell (by rw [hl]; rfl), hk.cell (by rw [hl]; rfl), hk.cell (by rw [hl]; rfl), hk.cell (by rw [hl]; rfl), hk.cell (by rw [hl]; rfl), hk.cell (by rw [hl]; rfl), hk.cell (by rw [hl]; rfl), hk.cell (by rw [hl]; rfl), hk.cell (by rw [hl]; rfl), hk.cell (by rw [hl]; rfl)⟩
  have HTW : Hid (∀ j : Nat, j < ([.int .i64 kdw, .int .i64 opw, .int .i64 vkw, .int .i64 viw, bs vsw, bs tbw, bs nnw, .int .i64 0, .int .i64 0, .slice qw mw dw] : List Value).toArray.size → l.toArray[12 + j]? = ([.int .i64 kdw, .int .i64 opw, .int .i64 vkw, .int .i64 viw, bs vsw, bs tbw, bs nnw, .int .i64 0, .int .i64 0, .slice qw mw dw] : List Value).toArray[j]?) := Lib.hid (by
    rw [hl]
    intro j hj
    rcases j with _ | _ | _ | _ | _ | _ | _ | _ | _ | _ | j
    all_goals first | rfl | (simp at hj; omega))
  have HTJ : Hid (∀ j : Nat, j < ([.int .i64 kdj, .int .i64 opj, .int .i64 vkj, .int .i64 vij, bs vsj, bs tbj, bs nnj, .int .i64 0, .int .i64 0, .slice qj mj dj] : List Value).toArray.size → l.toArray[24 + j]? = ([.int .i64 kdj, .int .i64 opj, .int .i64 vkj, .int .i64 vij, bs vsj, bs tbj, bs nnj, .int .i64 0, .int .i64 0, .slice qj mj dj] : List Value).toArray[j]?) := Lib.hid (by
    rw [hl]
    intro j hj
    rcases j with _ | _ | _ | _ | _ | _ | _ | _ | _ | _ | j
    all_goals first | rfl | (simp at hj; omega))
  have hlen : l.length = 37 := by rw [hl]; rfl
  have HONE : Hid (l.toArray.all (·.oneCell') = true) := Lib.hid (by rw [hl]; kernel_rfl)
  have HSZ : Hid ((Tryz.prog.info? 40).map (·.size) = some l.toArray.size) := Lib.hid (by rw [List.size_toArray, hlen]; kernel_rfl)
  have c0 : l[0]? = some (.int .i64 kind) := by rw [hl]; rfl
  obtain ⟨z, hz⟩ : ∃ z, z = stmt0 kind 0 := ⟨_, rfl⟩
  have HBD : Hid (∀ W, (Instr.build 40 #[(0, Value.int .i64 kind)]).run Tryz.prog W = .ok (.agg z.toArray) W) := Lib.hid fun W => by rw [hz]; kernel_rfl
  have hzl : z.length = 37 := by rw [hz]; rfl
  have HZS : Hid ((Tryz.prog.info? 40).map (·.size) = some z.toArray.size) := Lib.hid (by rw [List.size_toArray, hzl]; kernel_rfl)
  have HZO : Hid (z.toArray.all (·.oneCell') = true) := Lib.hid (by rw [hz]; kernel_rfl)
  have HS0 : Hid (∀ j ∈ ([0, 1, 2, 3, 4, 5, 6, 7, 8, 9, 10, 11] : List Nat), z[j]? = l[j]?) := Lib.hid (by
    rw [hz, hl]
    intro j hj
    first
      | rfl
      | (simp only [List.mem_cons, List.not_mem_nil, or_false] at hj
         repeat (rcases hj with rfl | hj; · rfl)
         first | done | (subst hj; rfl)))
  have HZL := Lib.hid hzl
  have HLEN := Lib.hid hlen
  have HL := Lib.hid hl
  have HB1 := Lib.hid (show ((w.alloc (.cells l.toArray 40)).alloc (stmtO zero37)).cell? ⟨w.heap.size, 0, none⟩ = some (.int .i64 kind) by
    have : ((w.alloc (.cells l.toArray 40)).alloc (stmtO zero37)).heap[w.heap.size]? = some (stmtO l) := (((Below.refl _ _).alloc (Nat.le_refl _) _ : Xk.Ext (w.alloc (stmtO l)) _).block _ (by rw [World.size_alloc]; omega)).trans (heap_new w _)
    simp [World.cell?, this, c0])
  clear hz hzl hlen hl c0
  go_enter Tryz.func33, Tryz.ntmps33
  go_upto_region 1 with fail
  have hc0 := HB1.out
  have hlt0 : w.heap.size < ((w.alloc (.cells l.toArray 40)).alloc (stmtO zero37)).heap.size := by rw [World.size_alloc, World.size_alloc]; omega
  obtain ⟨W, hW⟩ : ∃ W, W = (w.alloc (.cells l.toArray 40)).alloc (stmtO zero37) := ⟨_, rfl⟩
  rw [← hW] at hc0 hlt0 ⊢
  have HW := Lib.hid hW
  clear hW HB1
  go_wp2_with (first | (refine wpList_built rfl 40 _ rfl (.int .i64 kind) _ rfl (HBD.out _) ?_) | ((refine wpList_putRow rfl 40 _ _ rfl (W.heap.size) _ _ 40 rfl rfl ((heap_new W _)) ((by rw [show z.toArray.size = 37 by rw [List.size_toArray, HZL.out]]; rfl)) (HZS.out) (HZO.out) ?_; intro w3 hp3); have HK := Lib.hid (KI.start HLEN.out HW.out hp3 HZL.out HS0.out); clear hp3; have c0 := HK.out.cell (j := 0) (v := .int .i64 kind) (by rw [HL.out]; rfl); have l1 := HK.out.lt1; have l3 := HK.out.g.2.2.2; skip))
  refine Xe.wp_region_rel (E := EC W.heap.size 40 l.toArray) (pre_EC _ _ _) 28 (fun _ => none) (fun _ _ h => by cases h) (fun _ _ _ _ h => by cases h) [(15, CellsAt W.heap.size 40 l.toArray 22 1), (17, CellsAt W.heap.size 40 l.toArray 23 1), (19, CellsAt W.heap.size 40 l.toArray 24 10), (21, CellsAt W.heap.size 40 l.toArray 12 10), (23, CellsAt W.heap.size 40 l.toArray 34 1), (25, CellsAt W.heap.size 40 l.toArray 35 1), (27, CellsAt W.heap.size 40 l.toArray 36 1)] (by kernel_rfl) (by kernel_rfl) (cellsAt_ec (by
    intro y hy
    simp only [List.mem_cons, List.not_mem_nil, or_false] at hy
    repeat (rcases hy with rfl | hy; · exact ⟨_, _, rfl⟩)
    first | done | (subst hy; exact ⟨_, _, rfl⟩))) ?_
  simp only [List.take_succ_cons, List.take_zero, List.drop_succ_cons, List.drop_zero]
  (refine Xe.rel_det (pre_EC _ _ _) (Xk.wanted_none (by rfl)) (by rfl) (fun K hK => ?_); apply Exists.intro; refine ⟨fun W' hx hp => ?_, ?_⟩; (skip; go_simp; exact ⟨rfl, rfl⟩); (go_simp; refine hK _ ?_; clear hK K))
  (refine Xe.rel_det (pre_EC _ _ _) (Xk.wanted_none (by rfl)) (by rfl) (fun K hK => ?_); apply Exists.intro; refine ⟨fun W' hx hp => ?_, ?_⟩; (have hk := HK.out.ec hx; have q1 := hk.lt1; have q0 := HC22.out _ _ hk; obtain q2 := q0; clear hx hp hk; go_simp; exact ⟨rfl, rfl⟩); (go_simp; refine hK _ ?_; clear hK K))
  (refine Xe.rel_det (pre_EC _ _ _) (Xk.wanted_none (by rfl)) (by rfl) (fun K hK => ?_); apply Exists.intro; refine ⟨fun W' hx hp => ?_, ?_⟩; (skip; go_simp; exact ⟨rfl, rfl⟩); (go_simp; refine hK _ ?_; clear hK K))
  (refine Xe.rel_det (pre_EC _ _ _) (Xk.wanted_none (by rfl)) (by rfl) (fun K hK => ?_); apply Exists.intro; refine ⟨fun W' hx hp => ?_, ?_⟩; (have hk := HK.out.ec hx; have q1 := hk.lt1; have q0 := HC23.out _ _ hk; obtain q2 := q0; clear hx hp hk; go_simp; exact ⟨rfl, rfl⟩); (go_simp; refine hK _ ?_; clear hK K))
  (refine Xe.rel_det (pre_EC _ _ _) (Xk.wanted_none (by rfl)) (by rfl) (fun K hK => ?_); apply Exists.intro; refine ⟨fun W' hx hp => ?_, ?_⟩; (skip; go_simp; exact ⟨rfl, rfl⟩); (go_simp; refine hK _ ?_; clear hK K))
  (refine Xe.rel_det (pre_EC _ _ _) (Xk.wanted_none (by rfl)) (by rfl) (fun K hK => ?_); apply Exists.intro; refine ⟨fun W' hx hp => ?_, ?_⟩; (have hk := HK.out.ec hx; have q1 := hk.lt1; have q0 := HCJ.out _ _ hk; obtain ⟨q2, q3, q4, q5, q6, q7, q8, q9, q10, q11⟩ := q0; clear hx hp hk; go_simp; exact ⟨rfl, rfl⟩); (go_simp; refine hK _ ?_; clear hK K))
  (refine Xe.rel_det (pre_EC _ _ _) (Xk.wanted_none (by rfl)) (by rfl) (fun K hK => ?_); apply Exists.intro; refine ⟨fun W' hx hp => ?_, ?_⟩; (skip; go_simp; exact ⟨rfl, rfl⟩); (go_simp; refine hK _ ?_; clear hK K))
  (refine Xe.rel_det (pre_EC _ _ _) (Xk.wanted_none (by rfl)) (by rfl) (fun K hK => ?_); apply Exists.intro; refine ⟨fun W' hx hp => ?_, ?_⟩; (have hk := HK.out.ec hx; have q1 := hk.lt1; have q0 := HCW.out _ _ hk; obtain ⟨q2, q3, q4, q5, q6, q7, q8, q9, q10, q11⟩ := q0; clear hx hp hk; go_simp; exact ⟨rfl, rfl⟩); (go_simp; refine hK _ ?_; clear hK K))
  (refine Xe.rel_det (pre_EC _ _ _) (Xk.wanted_none (by rfl)) (by rfl) (fun K hK => ?_); apply Exists.intro; refine ⟨fun W' hx hp => ?_, ?_⟩; (skip; go_simp; exact ⟨rfl, rfl⟩); (go_simp; refine hK _ ?_; clear hK K))
  (refine Xe.rel_det (pre_EC _ _ _) (Xk.wanted_none (by rfl)) (by rfl) (fun K hK => ?_); apply Exists.intro; refine ⟨fun W' hx hp => ?_, ?_⟩; (have hk := HK.out.ec hx; have q1 := hk.lt1; have q0 := HC34.out _ _ hk; obtain q2 := q0; clear hx hp hk; go_simp; exact ⟨rfl, rfl⟩); (go_simp; refine hK _ ?_; clear hK K))
  (refine Xe.rel_det (pre_EC _ _ _) (Xk.wanted_none (by rfl)) (by rfl) (fun K hK => ?_); apply Exists.intro; refine ⟨fun W' hx hp => ?_, ?_⟩; (skip; go_simp; exact ⟨rfl, rfl⟩); (go_simp; refine hK _ ?_; clear hK K))
  (refine Xe.rel_det (pre_EC _ _ _) (Xk.wanted_none (by rfl)) (by rfl) (fun K hK => ?_); apply Exists.intro; refine ⟨fun W' hx hp => ?_, ?_⟩; (have hk := HK.out.ec hx; have q1 := hk.lt1; have q0 := HC35.out _ _ hk; obtain q2 := q0; clear hx hp hk; go_simp; exact ⟨rfl, rfl⟩); (go_simp; refine hK _ ?_; clear hK K))
  (refine Xe.rel_det (pre_EC _ _ _) (Xk.wanted_none (by rfl)) (by rfl) (fun K hK => ?_); apply Exists.intro; refine ⟨fun W' hx hp => ?_, ?_⟩; (skip; go_simp; exact ⟨rfl, rfl⟩); (go_simp; refine hK _ ?_; clear hK K))
  (refine Xe.rel_det (pre_EC _ _ _) (Xk.wanted_none (by rfl)) (by rfl) (fun K hK => ?_); apply Exists.intro; refine ⟨fun W' hx hp => ?_, ?_⟩; (have hk := HK.out.ec hx; have q1 := hk.lt1; have q0 := HC36.out _ _ hk; obtain q2 := q0; clear hx hp hk; go_simp; exact ⟨rfl, rfl⟩); (go_simp; refine hK _ ?_; clear hK K))
  (refine Xe.rel_det (pre_EC _ _ _) (Xk.wanted_none (by rfl)) (by rfl) (fun K hK => ?_); apply Exists.intro; refine ⟨fun W' hx hp => ?_, ?_⟩; (skip; go_simp; exact ⟨rfl, rfl⟩); (go_simp; refine hK _ ?_; clear hK K))
  (refine Xe.rel_make (pre_EC _ _ _) (by rfl) (by rfl) (fun W' hx hp => ?_) (fun _ K hK => ?_); (have hk := HK.out.ec hx; have q1 := hk.g.2.2.2; obtain ⟨⟨v3, d3⟩, e3⟩ := hk.cell3 (j := 22) (by decide); obtain ⟨cq3, hc3, hcl3, -⟩ := hk.b3; clear hx hp; go_simp; exact store_cell hc3 (by simp only [List.size_toArray, hcl3]; decide) (by rw [HL.out]; rfl)); (go_simp; refine hK _ ?_; clear hK K))
  (refine Xe.rel_det (pre_EC _ _ _) (Xk.wanted_none (by rfl)) (by rfl) (fun K hK => ?_); apply Exists.intro; refine ⟨fun W' hx hp => ?_, ?_⟩; (skip; go_simp; exact ⟨rfl, rfl⟩); (go_simp; refine hK _ ?_; clear hK K))
  (refine Xe.rel_make (pre_EC _ _ _) (by rfl) (by rfl) (fun W' hx hp => ?_) (fun _ K hK => ?_); (have hk := HK.out.ec hx; have q1 := hk.g.2.2.2; obtain ⟨⟨v3, d3⟩, e3⟩ := hk.cell3 (j := 23) (by decide); obtain ⟨cq3, hc3, hcl3, -⟩ := hk.b3; clear hx hp; go_simp; exact store_cell hc3 (by simp only [List.size_toArray, hcl3]; decide) (by rw [HL.out]; rfl)); (go_simp; refine hK _ ?_; clear hK K))
  (refine Xe.rel_det (pre_EC _ _ _) (Xk.wanted_none (by rfl)) (by rfl) (fun K hK => ?_); apply Exists.intro; refine ⟨fun W' hx hp => ?_, ?_⟩; (skip; go_simp; exact ⟨rfl, rfl⟩); (go_simp; refine hK _ ?_; clear hK K))
  (refine Xe.rel_make (pre_EC _ _ _) (by rfl) (by rfl) (fun W' hx hp => ?_) (fun _ K hK => ?_); (have hk := HK.out.ec hx; obtain ⟨cq3, hc3, hcl3, -⟩ := hk.b3; exact store_cells _ _ _ rfl 24 _ ([.int .i64 kdj, .int .i64 opj, .int .i64 vkj, .int .i64 vij, bs vsj, bs tbj, bs nnj, .int .i64 0, .int .i64 0, .slice qj mj dj]).toArray rfl rfl hc3 (by simp [hcl3]) (by kernel_rfl) (by kernel_rfl) HTJ.out); (go_simp; refine hK _ ?_; clear hK K))
  (refine Xe.rel_det (pre_EC _ _ _) (Xk.wanted_none (by rfl)) (by rfl) (fun K hK => ?_); apply Exists.intro; refine ⟨fun W' hx hp => ?_, ?_⟩; (skip; go_simp; exact ⟨rfl, rfl⟩); (go_simp; refine hK _ ?_; clear hK K))
  (refine Xe.rel_make (pre_EC _ _ _) (by rfl) (by rfl) (fun W' hx hp => ?_) (fun _ K hK => ?_); (have hk := HK.out.ec hx; obtain ⟨cq3, hc3, hcl3, -⟩ := hk.b3; exact store_cells _ _ _ rfl 12 _ ([.int .i64 kdw, .int .i64 opw, .int .i64 vkw, .int .i64 viw, bs vsw, bs tbw, bs nnw, .int .i64 0, .int .i64 0, .slice qw mw dw]).toArray rfl rfl hc3 (by simp [hcl3]) (by kernel_rfl) (by kernel_rfl) HTW.out); (go_simp; refine hK _ ?_; clear hK K))
  (refine Xe.rel_det (pre_EC _ _ _) (Xk.wanted_none (by rfl)) (by rfl) (fun K hK => ?_); apply Exists.intro; refine ⟨fun W' hx hp => ?_, ?_⟩; (skip; go_simp; exact ⟨rfl, rfl⟩); (go_simp; refine hK _ ?_; clear hK K))
  (refine Xe.rel_make (pre_EC _ _ _) (by rfl) (by rfl) (fun W' hx hp => ?_) (fun _ K hK => ?_); (have hk := HK.out.ec hx; have q1 := hk.g.2.2.2; obtain ⟨⟨v3, d3⟩, e3⟩ := hk.cell3 (j := 34) (by decide); obtain ⟨cq3, hc3, hcl3, -⟩ := hk.b3; clear hx hp; go_simp; exact store_cell hc3 (by simp only [List.size_toArray, hcl3]; decide) (by rw [HL.out]; rfl)); (go_simp; refine hK _ ?_; clear hK K))
  (refine Xe.rel_det (pre_EC _ _ _) (Xk.wanted_none (by rfl)) (by rfl) (fun K hK => ?_); apply Exists.intro; refine ⟨fun W' hx hp => ?_, ?_⟩; (skip; go_simp; exact ⟨rfl, rfl⟩); (go_simp; refine hK _ ?_; clear hK K))
  (refine Xe.rel_make (pre_EC _ _ _) (by rfl) (by rfl) (fun W' hx hp => ?_) (fun _ K hK => ?_); (have hk := HK.out.ec hx; have q1 := hk.g.2.2.2; obtain ⟨⟨v3, d3⟩, e3⟩ := hk.cell3 (j := 35) (by decide); obtain ⟨cq3, hc3, hcl3, -⟩ := hk.b3; clear hx hp; go_simp; exact store_cell hc3 (by simp only [List.size_toArray, hcl3]; decide) (by rw [HL.out]; rfl)); (go_simp; refine hK _ ?_; clear hK K))
  (refine Xe.rel_det (pre_EC _ _ _) (Xk.wanted_none (by rfl)) (by rfl) (fun K hK => ?_); apply Exists.intro; refine ⟨fun W' hx hp => ?_, ?_⟩; (skip; go_simp; exact ⟨rfl, rfl⟩); (go_simp; refine hK _ ?_; clear hK K))
  (refine Xe.rel_make (pre_EC _ _ _) (by rfl) (by rfl) (fun W' hx hp => ?_) (fun _ K hK => ?_); (have hk := HK.out.ec hx; have q1 := hk.g.2.2.2; obtain ⟨⟨v3, d3⟩, e3⟩ := hk.cell3 (j := 36) (by decide); obtain ⟨cq3, hc3, hcl3, -⟩ := hk.b3; clear hx hp; go_simp; exact store_cell hc3 (by simp only [List.size_toArray, hcl3]; decide) (by rw [HL.out]; rfl)); (go_simp; refine hK _ ?_; clear hK K))
  refine Xe.rel_nil (fun W4 hx hp hG => ?_)
  obtain ⟨h27, h25, h23, h21, h19, h17, h15, -⟩ := hp
  have HK2 := Lib.hid ((((((((HK.out.ec hx).more h15).more h17).more h19).more h21).more h23).more h25).more h27)
  have hb3 := HK2.out.done (by decide)
  obtain ⟨cq2, hb2, hl2⟩ := HK2.out.b2
  clear h15 h17 h19 h21 h23 h25 h27 hx hG
  go_wp2_with (first | (refine wpList_loadRow rfl 40 _ rfl W.heap.size _ 40 (0, 0) _ rfl hb3 Tryz.underlying40 rfl HSZ.out ?_) | (refine wpList_putRow rfl 40 _ _ rfl ((w.heap.size + 1)) _ _ 40 rfl rfl (hb2) ((by simp only [List.size_toArray, hl2, HLEN.out])) (HSZ.out) (HONE.out) ?_; intro w9 hp9))
  refine bodyPost_ret (results_row (fn := Tryz.f33) rfl rfl hp9.blk Tryz.underlying40 rfl HSZ.out) rfl ⟨rfl, puts_ext hp9 (HK2.out).x (by have := (HK2.out).g; omega)⟩
theorem boxR {w w' : World} {l : List Value} {T : TypeId} (hx : Xk.Ext (w.alloc (.cells l.toArray T)) w') (j : Nat) (v : Value) (h : l[j]? = some v) : w'.cell? ⟨w.heap.size, j, none⟩ = some v := by
 have hb := (hx.block w.heap.size (by rw [World.size_alloc]; omega)).trans (heap_new w _)
 simp [World.cell?, hb, h]
theorem boxRange {w w' : World} {l : List Value} {T : TypeId} (hx : Xk.Ext (w.alloc (.cells l.toArray T)) w') (o : Nat) (m : List Value) (h : ∀ j : Nat, j < m.length → l[o + j]? = m[j]?) : w'.rangeAt w.heap.size o m := fun j v hj => boxR hx (o + j) v (fst_some o h j v hj)
theorem boxRow {w w' : World} {l : List Value} {T : TypeId} (hx : Xk.Ext (w.alloc (.cells l.toArray T)) w') : w'.heap[w.heap.size]? = some (.cells l.toArray T) := (hx.block w.heap.size (by rw [World.size_alloc]; omega)).trans (heap_new w _)
theorem boxX (w : World) (o : Obj) : Xk.Ext w (w.alloc o) := (Below.refl _ _).alloc (Nat.le_refl _) _
theorem box2 {w w' : World} {o : Obj} (hx : Xk.Ext (w.alloc o) w') : Xk.Ext w w' := Xk.Ext.trans (boxX w o) hx
theorem ten_cells {l m : List Value} {o : Nat} (hm : m.length = 10) (h0 : l[o]? = m[0]?) (h1 : l[o + 1]? = m[1]?) (h2 : l[o + 2]? = m[2]?) (h3 : l[o + 3]? = m[3]?) (h4 : l[o + 4]? = m[4]?) (h5 : l[o + 5]? = m[5]?) (h6 : l[o + 6]? = m[6]?) (h7 : l[o + 7]? = m[7]?) (h8 : l[o + 8]? = m[8]?) (h9 : l[o + 9]? = m[9]?) : ∀ j : Nat, j < m.length → l[o + j]? = m[j]? := fun j hj => by
 rw [hm] at hj
 rcases j with _ | _ | _ | _ | _ | _ | _ | _ | _ | _ | j
 ·exact h0
 ·exact h1
 ·exact h2
 ·exact h3
 ·exact h4
 ·exact h5
 ·exact h6
 ·exact h7
 ·exact h8
 ·exact h9
 ·omega
theorem ExprAt.kind {S : Nat → Prop} {w : World} : ∀ {e : P12.E} {l : List Value}, ExprAt S w e l → P12.isE e = true → ∃ kd op vk vi vs tb nm pp pm pc, l = exprL kd op vk vi vs tb nm (.slice pp pm pc) ∧ kd ≠ 0
 | .none, _, _, he => by cases he
 | .val _ _ _, _, h, _ | .col _ _, _, h, _ | .all, _, h, _ => by unfold ExprAt at h; exact ⟨_, _, _, _, _, _, _, _, _, _, h, by decide⟩
 | .una _ _, _, h, _ | .call _ _, _, h, _ => by unfold ExprAt at h; obtain ⟨g, u, -, h, -⟩ := h; exact ⟨_, _, _, _, _, _, _, _, _, _, h, by decide⟩
 | .bin _ _ _, _, h, _ => by unfold ExprAt at h; obtain ⟨g, u, v, -, h, -⟩ := h; exact ⟨_, _, _, _, _, _, _, _, _, _, h, by decide⟩
theorem maybe_none (w : World) : Calls Tryz.prog 43 #[.agg noE.toArray] w fun e w' => e = .returned (.bool true) ∧ Xk.Ext w w' := by
 have hga := heap_new w (exprO noE)
 have HB := Lib.hid fun W => blank_none W
 go_enter Tryz.func43, Tryz.ntmps43
 go_wp2_with (refine wpList_loadRow rfl 35 _ rfl (w.heap.size) _ 35 (0, 0) _ rfl hga Tryz.underlying35 rfl (by kernel_rfl) ?_)
 refine (HB.out _).mono ?_
 rintro e w1 ⟨rfl, hx1⟩
 go_wp2_with fail
 go_ret
 exact ⟨rfl, box2 hx1⟩
theorem maybe_some (kd op vk vi : Int) (vs tb nm : P12.T) (pp : Option Addr) (pm pc : Nat) (hk : kd ≠ 0) (w : World) (hE : ∀ W, Xk.Ext w W → Calls Tryz.prog 36 #[.agg (exprL kd op vk vi vs tb nm (.slice pp pm pc)).toArray] W fun e w' => e = .returned (.bool true) ∧ Xk.Ext W w') : Calls Tryz.prog 43 #[.agg (exprL kd op vk vi vs tb nm (.slice pp pm pc)).toArray] w fun e w' => e = .returned (.bool true) ∧ Xk.Ext w w' := by
 have hga := heap_new w (exprO (exprL kd op vk vi vs tb nm (.slice pp pm pc)))
 have HB := Lib.hid fun W => blank_some kd op vk vi vs tb nm pp pm pc hk W
 have HE := Lib.hid hE
 clear hk hE
 go_enter Tryz.func43, Tryz.ntmps43
 go_wp2_with (refine wpList_loadRow rfl 35 _ rfl (w.heap.size) _ 35 (0, 0) _ rfl hga Tryz.underlying35 rfl (by kernel_rfl) ?_)
 refine (HB.out _).mono ?_
 rintro e w1 ⟨rfl, hx1⟩
 have hgb := boxRow hx1
 obtain ⟨z0, z1, z2, z3, z4, z5, z6, z7, z8, z9, z10⟩ := expr_cells hgb
 go_wp2_with fail
 refine (HE.out _ (box2 hx1)).mono ?_
 rintro e w2 ⟨rfl, hx2⟩
 go_wp2_with fail
 go_ret
 exact ⟨rfl, Xk.Ext.trans (box2 hx1) hx2⟩
theorem maybeE_any (e : P12.E) (h : P12.maybeE e = true) (S : Nat → Prop) (w : World) (l : List Value) (he : ExprAt S w e l) : Calls Tryz.prog 43 #[.agg l.toArray] w fun e w' => e = .returned (.bool true) ∧ Xk.Ext w w' := by
 cases hn : P12.noE e
 ·have hE : P12.isE e = true := by simpa [P12.maybeE, hn] using h
  obtain ⟨kd, op, vk, vi, vs, tb, nm, pp, pm, pc, rfl, hk⟩ := he.kind hE
  exact maybe_some kd op vk vi vs tb nm pp pm pc hk w fun W hx => isExpr_any e hE S W _ (he.extS hx)
 ·cases e <;> first | cases hn | skip
  unfold ExprAt at he
  subst he
  exact maybe_none w
theorem ent_item : Ent 107 := ⟨fun _ _ => by go_simp, by decide⟩
theorem ent_group : Ent 108 := ⟨fun _ _ => by go_simp, by decide⟩
theorem ent_src : Ent 109 := ⟨fun _ _ => by go_simp, by decide⟩
theorem ent_ord : Ent 110 := ⟨fun _ _ => by go_simp, by decide⟩
theorem is_star (w : World) : Calls Tryz.prog 107 #[.agg (Value.bool true :: (noE ++ [bs []])).toArray] w fun e w' => e = .returned (.bool true) ∧ Xk.Ext w w' := by
 have HB := Lib.hid fun W => blank_none W
 have HR := Lib.hid (boxRange (l := Value.bool true :: (noE ++ [bs []])) (Below.refl _ _ : Xk.Ext (w.alloc (.cells (Value.bool true :: (noE ++ [bs []])).toArray 88)) _) 1 noE (ten_cells rfl rfl rfl rfl rfl rfl rfl rfl rfl rfl rfl))
 go_enter Tryz.func107, Tryz.ntmps107
 go_wp2_with (refine wpList_load_mid rfl 35 _ rfl w.heap.size 1 rfl _ _ HR.out Tryz.underlying35 rfl (by kernel_rfl) ?_)
 refine (HB.out _).mono ?_
 rintro e w1 ⟨rfl, hx1⟩
 have q1 : w1.cell? ⟨w.heap.size, 11, none⟩ = some (.string ⟨#[]⟩) := boxR (l := Value.bool true :: (noE ++ [bs []])) hx1 11 _ rfl
 go_wp2_with fail
 go_ret
 exact ⟨rfl, box2 hx1⟩
theorem is_item (a : P12.T) (kd op vk vi : Int) (vs tb nm : P12.T) (pp : Option Addr) (pm pc : Nat) (ha : P12.maybeName a = true) (w : World) (hE : ∀ W, Xk.Ext w W → Calls Tryz.prog 36 #[.agg (exprL kd op vk vi vs tb nm (.slice pp pm pc)).toArray] W fun e w' => e = .returned (.bool true) ∧ Xk.Ext W w') :
  Calls Tryz.prog 107 #[.agg (Value.bool false :: ((exprL kd op vk vi vs tb nm (.slice pp pm pc)) ++ [bs a])).toArray] w fun e w' => e = .returned (.bool true) ∧ Xk.Ext w w' := by
 have HN := Lib.hid fun W => maybeName_any a ha W
 have HE := Lib.hid hE
 clear ha hE
 have HR := Lib.hid (boxRange (l := Value.bool false :: ((exprL kd op vk vi vs tb nm (.slice pp pm pc)) ++ [bs a])) (Below.refl _ _ : Xk.Ext (w.alloc (.cells (Value.bool false :: ((exprL kd op vk vi vs tb nm (.slice pp pm pc)) ++ [bs a])).toArray 88)) _) 1 (exprL kd op vk vi vs tb nm (.slice pp pm pc)) (ten_cells rfl rfl rfl rfl rfl rfl rfl rfl rfl rfl rfl))
 go_enter Tryz.func107, Tryz.ntmps107
 go_wp2_with (refine wpList_load_mid rfl 35 _ rfl w.heap.size 1 rfl _ _ HR.out Tryz.underlying35 rfl (by kernel_rfl) ?_)
 refine (HE.out _ (boxX _ _)).mono ?_
 rintro e w1 ⟨rfl, hx1⟩
 have q1 : w1.cell? ⟨w.heap.size, 11, none⟩ = some (bs a) := boxR (l := Value.bool false :: ((exprL kd op vk vi vs tb nm (.slice pp pm pc)) ++ [bs a])) hx1 11 _ rfl
 go_wp2_with fail
 refine (HN.out _).mono ?_
 rintro e w2 ⟨rfl, hx2⟩
 go_wp2_with fail
 go_ret
 exact ⟨rfl, Xk.Ext.trans (box2 hx1) hx2⟩
theorem is_group (t n : P12.T) (h : P12.isE (.col t n) = true) (w : World) : Calls Tryz.prog 108 #[.agg (exprL 2 0 0 0 [] t n nilS).toArray] w fun e w' => e = .returned (.bool true) ∧ Xk.Ext w w' := by
 have hga := heap_new w (exprO (exprL 2 0 0 0 [] t n nilS))
 have HE := Lib.hid fun W => isExpr_any (.col t n) h (fun _ => True) W _ rfl
 clear h
 go_enter Tryz.func108, Tryz.ntmps108
 go_wp2_with (refine wpList_loadRow rfl 35 _ rfl (w.heap.size) _ 35 (0, 0) _ rfl hga Tryz.underlying35 rfl (by kernel_rfl) ?_)
 refine (HE.out _).mono ?_
 rintro e w1 ⟨rfl, hx1⟩
 go_wp2_with fail
 go_ret
 exact ⟨rfl, box2 hx1⟩
theorem is_src (a b : P12.T) (ha : P12.isName a = true) (hb : P12.maybeName b = true) (w : World) : Calls Tryz.prog 109 #[.agg [bs a, bs b].toArray] w fun e w' => e = .returned (.bool true) ∧ Xk.Ext w w' := by
 have HN := Lib.hid fun W => isName_any a ha W
 have HM := Lib.hid fun W => maybeName_any b hb W
 clear ha hb
 go_enter Tryz.func109, Tryz.ntmps109
 go_wp2_with fail
 refine (HN.out _).mono ?_
 rintro e w1 ⟨rfl, hx1⟩
 have q1 : w1.cell? ⟨w.heap.size, 1, none⟩ = some (bs b) := boxR (l := [bs a, bs b]) hx1 1 _ rfl
 go_wp2_with fail
 refine (HM.out _).mono ?_
 rintro e w2 ⟨rfl, hx2⟩
 go_wp2_with fail
 go_ret
 exact ⟨rfl, Xk.Ext.trans (box2 hx1) hx2⟩
theorem is_ord (b : Bool) (kd op vk vi : Int) (vs tb nm : P12.T) (pp : Option Addr) (pm pc : Nat) (w : World) (hE : ∀ W, Xk.Ext w W → Calls Tryz.prog 36 #[.agg (exprL kd op vk vi vs tb nm (.slice pp pm pc)).toArray] W fun e w' => e = .returned (.bool true) ∧ Xk.Ext W w') :
  Calls Tryz.prog 110 #[.agg ((exprL kd op vk vi vs tb nm (.slice pp pm pc)) ++ [Value.bool b]).toArray] w fun e w' => e = .returned (.bool true) ∧ Xk.Ext w w' := by
 have HE := Lib.hid hE
 clear hE
 have HR := Lib.hid (boxRange (l := (exprL kd op vk vi vs tb nm (.slice pp pm pc)) ++ [Value.bool b]) (Below.refl _ _ : Xk.Ext (w.alloc (.cells ((exprL kd op vk vi vs tb nm (.slice pp pm pc)) ++ [Value.bool b]).toArray 92)) _) 0 (exprL kd op vk vi vs tb nm (.slice pp pm pc)) (ten_cells rfl rfl rfl rfl rfl rfl rfl rfl rfl rfl rfl))
 go_enter Tryz.func110, Tryz.ntmps110
 go_wp2_with (refine wpList_load_mid rfl 35 _ rfl w.heap.size 0 rfl _ _ HR.out Tryz.underlying35 rfl (by kernel_rfl) ?_)
 refine (HE.out _ (boxX _ _)).mono ?_
 rintro e w1 ⟨rfl, hx1⟩
 go_wp2_with fail
 go_ret
 exact ⟨rfl, box2 hx1⟩
end Go.Proofs.YtkpmclddjkebeaaGreatDoor
namespace Go.Xk
open Go.RowKit
theorem detRun_loadRow {P : Program} {o : Oper} {a : Act} {w : World} (t : TypeId) (x : Operand) (ho : o.op = .load t x) (g : Nat) (cs : Array Value) (T : TypeId) (fr : Nat × Nat) (d : TypeDesc) (hx : a.eval x = .pointer (some ⟨g, 0, none⟩)) (hg : w.heap[g]? = some (.cells cs T fr))
  (hu : P.underlying t = some d) (hd : (match d with | .struct _ | .array _ _ => true | _ => false) = true) (hi : (P.info? t).map (·.size) = some cs.size) : detRun P o a w (.agg cs) := by
 unfold detRun execOp
 simp only [ho, hx, Instr.loadAt, Instr.sureAddr, Sem.run_bind, Sem.run_pure, Result.andThen_ok, run_loadVar_row (P := P) w g T t cs fr d hg hu hd hi]
 exact ⟨rfl, rfl⟩
end Go.Xk
namespace Go.Proofs.YtkpmclddjkebeaaGreatDoor
open Go.RowKit
theorem isSelect_two (kind lim : Int) (p1 p2 p3 p4 : Option Addr) (n1 c1 c2 n3 c3 n4 c4 : Nat) (kdw opw vkw viw : Int) (vsw tbw nnw : P12.T) (qw : Option Addr) (mw dw : Nat) (kdj opj vkj vij : Int) (vsj tbj nnj : P12.T) (qj : Option Addr) (mj dj : Nat) (h3 : n3 ≤ 16) (h4 : n4 ≤ 16) (hlim : -1 ≤ lim) (l : List Value) (hl : l = stmtL kind [] nilS nilS nilS nilS [] [] false nilS nilS nilS (exprL kdw opw vkw viw vsw tbw nnw (.slice qw mw dw)) (.slice p1 n1 c1) (.slice p2 2 c2) (exprL kdj opj vkj vij vsj tbj nnj (.slice qj mj dj)) (.slice p3 n3 c3) (.slice p4 n4 c4) lim) (w : World)
  (hI : ∀ W, Xk.Ext w W → Calls Tryz.prog 111 #[.slice p1 n1 c1, .int .i64 16, .func (.func 107) #[] #[]] W fun e w' => e = .returned (.bool true) ∧ Xk.Ext W w')
  (hF : ∀ W, Xk.Ext w W → Calls Tryz.prog 112 #[.slice p2 2 c2, .int .i64 2, .func (.func 109) #[] #[]] W fun e w' => e = .returned (.bool true) ∧ Xk.Ext W w')
  (hW : ∀ W, Xk.Ext w W → Calls Tryz.prog 43 #[.agg (exprL kdw opw vkw viw vsw tbw nnw (.slice qw mw dw)).toArray] W fun e w' => e = .returned (.bool true) ∧ Xk.Ext W w')
  (hJ : ∀ W, Xk.Ext w W → Calls Tryz.prog 36 #[.agg (exprL kdj opj vkj vij vsj tbj nnj (.slice qj mj dj)).toArray] W fun e w' => e = .returned (.bool true) ∧ Xk.Ext W w')
  (hG : ∀ W, Xk.Ext w W → Calls Tryz.prog 101 #[.slice p3 n3 c3, .func (.func 108) #[] #[]] W fun e w' => e = .returned (.bool true) ∧ Xk.Ext W w')
  (hO : ∀ W, Xk.Ext w W → Calls Tryz.prog 113 #[.slice p4 n4 c4, .func (.func 110) #[] #[]] W fun e w' => e = .returned (.bool true) ∧ Xk.Ext W w') :
  Calls Tryz.prog 44 #[.agg l.toArray] w fun e w' => e = .returned (.bool true) ∧ Xk.Ext w w' := by
 have HI := Lib.hid hI
 have HF := Lib.hid hF
 have HW := Lib.hid hW
 have HJ := Lib.hid hJ
 have HG := Lib.hid hG
 have HO := Lib.hid hO
 have HL := Lib.hid hl
 clear hl hI hF hW hJ hG hO
 have i3 : (n3 : Int) ≤ 16 := by omega
 have j3 : decide ((n3 : Int) ≤ 16) = true := decide_eq_true i3
 have j4 : decide ((n4 : Int) ≤ 16) = true := decide_eq_true (by omega)
 have i4 : (n4 : Int) ≤ 16 := by omega

 have HX1 : Hid (Xk.Ext (w.alloc (.cells l.toArray 40)) (w.alloc (.cells l.toArray 40))) := Lib.hid (Below.refl _ _)
 have lt1 : w.heap.size < (w.alloc (.cells l.toArray 40)).heap.size := by rw [World.size_alloc]; omega
 go_enter Tryz.func44, Tryz.ntmps44
 have q22 := boxR HX1.out 22 (.slice p1 n1 c1) (by rw [HL.out]; rfl)
 go_wp2_with fail
 refine (HI.out _ (box2 HX1.out)).mono ?_
 rintro e w2 ⟨rfl, hx2⟩
 have HX2 := Lib.hid (Xk.Ext.trans HX1.out hx2)
 clear hx2 q22
 have q23 := boxR HX2.out 23 (.slice p2 2 c2) (by rw [HL.out]; rfl)
 go_wp2_with fail
 refine (HF.out _ (box2 HX2.out)).mono ?_
 rintro e w3 ⟨rfl, hx3⟩
 have HX3 := Lib.hid (Xk.Ext.trans HX2.out hx3)
 clear hx3 q23
 have q12 := boxR HX3.out 12 _ (by rw [HL.out]; rfl)
 have q13 := boxR HX3.out 13 _ (by rw [HL.out]; rfl)
 have q14 := boxR HX3.out 14 _ (by rw [HL.out]; rfl)
 have q15 := boxR HX3.out 15 _ (by rw [HL.out]; rfl)
 have q16 := boxR HX3.out 16 _ (by rw [HL.out]; rfl)
 have q17 := boxR HX3.out 17 _ (by rw [HL.out]; rfl)
 have q18 := boxR HX3.out 18 _ (by rw [HL.out]; rfl)
 have q19 := boxR HX3.out 19 _ (by rw [HL.out]; rfl)
 have q20 := boxR HX3.out 20 _ (by rw [HL.out]; rfl)
 have q21 := boxR HX3.out 21 _ (by rw [HL.out]; rfl)
 have lt12 := World.block_lt_of_cell? _ _ q12
 go_wp2_with fail
 refine (HW.out _ (box2 HX3.out)).mono ?_
 rintro e w4 ⟨rfl, hx4⟩
 have HX4 := Lib.hid (Xk.Ext.trans HX3.out hx4)
 clear hx4 q12 q13 q14 q15 q16 q17 q18 q19 q20 q21 lt12
 have q23 := boxR HX4.out 23 (.slice p2 2 c2) (by rw [HL.out]; rfl)
 have q24 := boxR HX4.out 24 _ (by rw [HL.out]; rfl)
 have q25 := boxR HX4.out 25 _ (by rw [HL.out]; rfl)
 have q26 := boxR HX4.out 26 _ (by rw [HL.out]; rfl)
 have q27 := boxR HX4.out 27 _ (by rw [HL.out]; rfl)
 have q28 := boxR HX4.out 28 _ (by rw [HL.out]; rfl)
 have q29 := boxR HX4.out 29 _ (by rw [HL.out]; rfl)
 have q30 := boxR HX4.out 30 _ (by rw [HL.out]; rfl)
 have q31 := boxR HX4.out 31 _ (by rw [HL.out]; rfl)
 have q32 := boxR HX4.out 32 _ (by rw [HL.out]; rfl)
 have q33 := boxR HX4.out 33 _ (by rw [HL.out]; rfl)
 have lt24 := World.block_lt_of_cell? _ _ q24
 dsimp only
 iterate 3 (first | go_values | go_skip | go_guarded | go_step | go_upon)
 simp only [List.append_eq, List.cons_append, List.nil_append]
 go_wp2_with fail
 refine (HJ.out _ (box2 HX4.out)).mono ?_
 rintro e w5 ⟨rfl, hx5⟩
 have HX5 := Lib.hid (Xk.Ext.trans HX4.out hx5)
 clear hx5 q23 q24 q25 q26 q27 q28 q29 q30 q31 q32 q33 lt24
 have q34 := boxR HX5.out 34 (.slice p3 n3 c3) (by rw [HL.out]; rfl)
 go_wp2_with fail
 refine (HG.out _ (box2 HX5.out)).mono ?_
 rintro e w6 ⟨rfl, hx6⟩
 have HX6 := Lib.hid (Xk.Ext.trans HX5.out hx6)
 clear hx6 q34
 have q35 := boxR HX6.out 35 (.slice p4 n4 c4) (by rw [HL.out]; rfl)
 go_wp2_with fail
 refine (HO.out _ (box2 HX6.out)).mono ?_
 rintro e w7 ⟨rfl, hx7⟩
 have HX7 := Lib.hid (Xk.Ext.trans HX6.out hx7)
 clear hx7 q35
 have q36 := boxR HX7.out 36 (.int .i64 lim) (by rw [HL.out]; rfl)
 go_wp2_with fail
 go_ret
 exact ⟨rfl, box2 HX7.out⟩
theorem isSelect_one (kind lim : Int) (p1 p2 p3 p4 : Option Addr) (n1 c1 c2 n3 c3 n4 c4 : Nat) (kdw opw vkw viw : Int) (vsw tbw nnw : P12.T) (qw : Option Addr) (mw dw : Nat)  (h3 : n3 ≤ 16) (h4 : n4 ≤ 16) (hlim : -1 ≤ lim) (l : List Value) (hl : l = stmtL kind [] nilS nilS nilS nilS [] [] false nilS nilS nilS (exprL kdw opw vkw viw vsw tbw nnw (.slice qw mw dw)) (.slice p1 n1 c1) (.slice p2 1 c2) noE (.slice p3 n3 c3) (.slice p4 n4 c4) lim) (w : World)
  (hI : ∀ W, Xk.Ext w W → Calls Tryz.prog 111 #[.slice p1 n1 c1, .int .i64 16, .func (.func 107) #[] #[]] W fun e w' => e = .returned (.bool true) ∧ Xk.Ext W w')
  (hF : ∀ W, Xk.Ext w W → Calls Tryz.prog 112 #[.slice p2 1 c2, .int .i64 2, .func (.func 109) #[] #[]] W fun e w' => e = .returned (.bool true) ∧ Xk.Ext W w')
  (hW : ∀ W, Xk.Ext w W → Calls Tryz.prog 43 #[.agg (exprL kdw opw vkw viw vsw tbw nnw (.slice qw mw dw)).toArray] W fun e w' => e = .returned (.bool true) ∧ Xk.Ext W w')
  (hG : ∀ W, Xk.Ext w W → Calls Tryz.prog 101 #[.slice p3 n3 c3, .func (.func 108) #[] #[]] W fun e w' => e = .returned (.bool true) ∧ Xk.Ext W w')
  (hO : ∀ W, Xk.Ext w W → Calls Tryz.prog 113 #[.slice p4 n4 c4, .func (.func 110) #[] #[]] W fun e w' => e = .returned (.bool true) ∧ Xk.Ext W w') :
  Calls Tryz.prog 44 #[.agg l.toArray] w fun e w' => e = .returned (.bool true) ∧ Xk.Ext w w' := by
 have HI := Lib.hid hI
 have HF := Lib.hid hF
 have HW := Lib.hid hW
 have HG := Lib.hid hG
 have HO := Lib.hid hO
 have HB : Hid (∀ W, Xk.Ext w W → Calls Tryz.prog 94 #[.agg noE.toArray] W fun e w' => e = .returned (.bool true) ∧ Xk.Ext W w') := Lib.hid fun W _ => blank_none W
 have HL := Lib.hid hl
 clear hl hI hF hW hG hO
 have i3 : (n3 : Int) ≤ 16 := by omega
 have j3 : decide ((n3 : Int) ≤ 16) = true := decide_eq_true i3
 have j4 : decide ((n4 : Int) ≤ 16) = true := decide_eq_true (by omega)
 have i4 : (n4 : Int) ≤ 16 := by omega

 have HX1 : Hid (Xk.Ext (w.alloc (.cells l.toArray 40)) (w.alloc (.cells l.toArray 40))) := Lib.hid (Below.refl _ _)
 have lt1 : w.heap.size < (w.alloc (.cells l.toArray 40)).heap.size := by rw [World.size_alloc]; omega
 go_enter Tryz.func44, Tryz.ntmps44
 have q22 := boxR HX1.out 22 (.slice p1 n1 c1) (by rw [HL.out]; rfl)
 go_wp2_with fail
 refine (HI.out _ (box2 HX1.out)).mono ?_
 rintro e w2 ⟨rfl, hx2⟩
 have HX2 := Lib.hid (Xk.Ext.trans HX1.out hx2)
 clear hx2 q22
 have q23 := boxR HX2.out 23 (.slice p2 1 c2) (by rw [HL.out]; rfl)
 go_wp2_with fail
 refine (HF.out _ (box2 HX2.out)).mono ?_
 rintro e w3 ⟨rfl, hx3⟩
 have HX3 := Lib.hid (Xk.Ext.trans HX2.out hx3)
 clear hx3 q23
 have q12 := boxR HX3.out 12 _ (by rw [HL.out]; rfl)
 have q13 := boxR HX3.out 13 _ (by rw [HL.out]; rfl)
 have q14 := boxR HX3.out 14 _ (by rw [HL.out]; rfl)
 have q15 := boxR HX3.out 15 _ (by rw [HL.out]; rfl)
 have q16 := boxR HX3.out 16 _ (by rw [HL.out]; rfl)
 have q17 := boxR HX3.out 17 _ (by rw [HL.out]; rfl)
 have q18 := boxR HX3.out 18 _ (by rw [HL.out]; rfl)
 have q19 := boxR HX3.out 19 _ (by rw [HL.out]; rfl)
 have q20 := boxR HX3.out 20 _ (by rw [HL.out]; rfl)
 have q21 := boxR HX3.out 21 _ (by rw [HL.out]; rfl)
 have lt12 := World.block_lt_of_cell? _ _ q12
 go_wp2_with fail
 refine (HW.out _ (box2 HX3.out)).mono ?_
 rintro e w4 ⟨rfl, hx4⟩
 have HX4 := Lib.hid (Xk.Ext.trans HX3.out hx4)
 clear hx4 q12 q13 q14 q15 q16 q17 q18 q19 q20 q21 lt12
 have q23 := boxR HX4.out 23 (.slice p2 1 c2) (by rw [HL.out]; rfl)
 have q24 := boxR HX4.out 24 _ (by rw [HL.out]; rfl)
 have q25 := boxR HX4.out 25 _ (by rw [HL.out]; rfl)
 have q26 := boxR HX4.out 26 _ (by rw [HL.out]; rfl)
 have q27 := boxR HX4.out 27 _ (by rw [HL.out]; rfl)
 have q28 := boxR HX4.out 28 _ (by rw [HL.out]; rfl)
 have q29 := boxR HX4.out 29 _ (by rw [HL.out]; rfl)
 have q30 := boxR HX4.out 30 _ (by rw [HL.out]; rfl)
 have q31 := boxR HX4.out 31 _ (by rw [HL.out]; rfl)
 have q32 := boxR HX4.out 32 _ (by rw [HL.out]; rfl)
 have q33 := boxR HX4.out 33 _ (by rw [HL.out]; rfl)
 have lt24 := World.block_lt_of_cell? _ _ q24
 dsimp only
 iterate 3 (first | go_values | go_skip | go_guarded | go_step | go_upon)
 simp only [List.append_eq, List.cons_append, List.nil_append]
 go_wp2_with fail
 refine (HB.out _ (box2 HX4.out)).mono ?_
 rintro e w5 ⟨rfl, hx5⟩
 have HX5 := Lib.hid (Xk.Ext.trans HX4.out hx5)
 clear hx5 q23 q24 q25 q26 q27 q28 q29 q30 q31 q32 q33 lt24
 have q34 := boxR HX5.out 34 (.slice p3 n3 c3) (by rw [HL.out]; rfl)
 go_wp2_with fail
 refine (HG.out _ (box2 HX5.out)).mono ?_
 rintro e w6 ⟨rfl, hx6⟩
 have HX6 := Lib.hid (Xk.Ext.trans HX5.out hx6)
 clear hx6 q34
 have q35 := boxR HX6.out 35 (.slice p4 n4 c4) (by rw [HL.out]; rfl)
 go_wp2_with fail
 refine (HO.out _ (box2 HX6.out)).mono ?_
 rintro e w7 ⟨rfl, hx7⟩
 have HX7 := Lib.hid (Xk.Ext.trans HX6.out hx7)
 clear hx7 q35
 have q36 := boxR HX7.out 36 (.int .i64 lim) (by rw [HL.out]; rfl)
 go_wp2_with fail
 go_ret
 exact ⟨rfl, box2 HX7.out⟩
theorem is_sel (kind lim : Int) (hkd : kind = 8) (p1 p2 p3 p4 : Option Addr) (n1 c1 n2 c2 n3 c3 n4 c4 : Nat) (kdw opw vkw viw : Int) (vsw tbw nnw : P12.T) (qw : Option Addr) (mw dw : Nat) (kdj opj vkj vij : Int) (vsj tbj nnj : P12.T) (qj : Option Addr) (mj dj : Nat) (l : List Value) (hl : l = stmtL kind [] nilS nilS nilS nilS [] [] false nilS nilS nilS (exprL kdw opw vkw viw vsw tbw nnw (.slice qw mw dw)) (.slice p1 n1 c1) (.slice p2 n2 c2) (exprL kdj opj vkj vij vsj tbj nnj (.slice qj mj dj)) (.slice p3 n3 c3) (.slice p4 n4 c4) lim) (w : World)
  (hQ : ∀ W, Xk.Ext w W → Calls Tryz.prog 44 #[.agg l.toArray] W fun e w' => e = .returned (.bool true) ∧ Xk.Ext W w')
  (hK : ∀ W, Calls Tryz.prog 33 #[.agg l.toArray] W fun e w' => e = .returned (.agg l.toArray) ∧ Xk.Ext W w')
  (hS : ∀ W, Calls Tryz.prog 32 #[.agg l.toArray, .agg l.toArray] W fun e w' => e = .returned (.bool true) ∧ Xk.Ext W w') :
  Calls Tryz.prog 14 #[.agg l.toArray] w fun e w' => e = .returned (.bool true) ∧ Xk.Ext w w' := by
 have HK := Lib.hid hK
 have HS := Lib.hid hS
 have HQ := Lib.hid hQ
 clear hK hS hQ
 have hn1 : (kind == 1) = false := by subst hkd; rfl
 have hn2 : (kind == 2) = false := by subst hkd; rfl
 have hn3 : (kind == 3) = false := by subst hkd; rfl
 have hn4 : (kind == 4) = false := by subst hkd; rfl
 have hn5 : (kind == 5) = false := by subst hkd; rfl
 have hn6 : (kind == 6) = false := by subst hkd; rfl
 have hn7 : (kind == 7) = false := by subst hkd; rfl
 have hn8 : (kind == 8) = true := by subst hkd; rfl
 clear hkd
 have hlen : l.length = 37 := by rw [hl]; rfl
 have HSZ : Hid ((Tryz.prog.info? 40).map (·.size) = some l.toArray.size) := Lib.hid (by rw [List.size_toArray, hlen]; kernel_rfl)
 have HLEN := Lib.hid hlen
 have HL := Lib.hid hl
 have HG : Hid (∀ p, (Xk.exw (w.alloc (.cells l.toArray 40)).drew p).heap[w.heap.size]? = some (.cells l.toArray 40)) := Lib.hid fun p => ((Xk.ext_exw _ p).block _ (by rw [World.size_drew, World.size_alloc]; omega)).trans (heap_new w _)
 clear hl hlen
 go_enter Tryz.func14, Tryz.ntmps14
 go_upto_region 1 with fail
 refine Xk.wp_region_rel' 5 [] trivial (by kernel_rfl) (by kernel_rfl) ?_
 simp only [List.take_succ_cons, List.take_zero, List.drop_succ_cons, List.drop_zero]
 (refine Xk.rel_det (Xk.wanted_none (by rfl)) (by rfl) (fun K hK => ?_); refine ⟨.agg l.toArray, fun p hp => Xk.detRun_loadRow 40 _ rfl w.heap.size l.toArray 40 (0, 0) _ rfl (HG.out p) Tryz.underlying40 rfl HSZ.out, ?_⟩; (go_simp; refine hK _ ?_; clear hK K))
 (refine Xk.rel_det (Xk.wanted_none (by rfl)) (by rfl) (fun K hK => ?_); refine ⟨.agg l.toArray, fun p hp => Xk.detRun_loadRow 40 _ rfl w.heap.size l.toArray 40 (0, 0) _ rfl (HG.out p) Tryz.underlying40 rfl HSZ.out, ?_⟩; (go_simp; refine hK _ ?_; clear hK K))
 repeat (first
  | (refine Xk.rel_det (Xk.wanted_none (by rfl)) (by rfl) (fun K hK => ?_); apply Exists.intro; refine ⟨fun p hp => ?_, ?_⟩; (go_simp; first | exact ⟨rfl, rfl⟩ | ((try refine ⟨by kernel_rfl, ?_⟩); (first | (go_at_call 33; ((with_reducible refine (HK.out _).mono ?_); exact fun e w' h => h)) | (go_at_call 32; ((with_reducible refine (HS.out _).mono ?_); exact fun e w' h => h))))); (go_simp; refine hK _ ?_; clear hK K))
  | (refine Xk.rel_skip (by rfl) (fun K hK => ?_); go_simp; refine hK _ ?_; clear hK K)
  | (refine Xk.rel_det (by rfl) (by rfl) (fun K hK => ?_); apply Exists.intro; refine ⟨fun p hp => ?_, ?_⟩; (go_simp; first | exact ⟨rfl, rfl⟩ | ((try refine ⟨by kernel_rfl, ?_⟩); (first | (go_at_call 33; ((with_reducible refine (HK.out _).mono ?_); exact fun e w' h => h)) | (go_at_call 32; ((with_reducible refine (HS.out _).mono ?_); exact fun e w' h => h))))); (go_simp; refine hK _ ?_; clear hK K)))
 refine Xk.rel_nil (fun p _ => ?_)
 obtain ⟨W2, hW2⟩ : ∃ W2, W2 = Xk.exw (w.alloc (.cells l.toArray 40)).drew p := ⟨_, rfl⟩
 have hx1 : Xk.Ext (w.alloc (.cells l.toArray 40)) W2 := by rw [hW2]; exact Xk.xt
 rw [← hW2]
 clear hW2 HK HS HG
 have HX1 := Lib.hid hx1
 have lt2 : w.heap.size < W2.heap.size := by have := hx1.size; rw [World.size_alloc] at this; omega
 have kc := boxR hx1 0 (.int .i64 kind) (by rw [HL.out]; rfl)
 clear hx1
 have hb2 := boxRow HX1.out
 go_wp2_with (refine wpList_loadRow rfl 40 _ rfl w.heap.size _ 40 (0, 0) _ rfl hb2 Tryz.underlying40 rfl HSZ.out ?_)
 refine (HQ.out _ (box2 HX1.out)).mono ?_
 rintro e w5 ⟨rfl, hx5⟩
 go_wp2_with fail
 go_ret
 exact ⟨rfl, Xk.Ext.trans (box2 HX1.out) hx5⟩
theorem SlcAt.none {α : Type} {S : Nat → Prop} {w : World} {sz : Nat} {R : α → List Value → Prop} {v : Value} {l : List α} (h : SlcAt S w sz R l v) (hl : l = []) : v = nilS := by
 subst hl
 rcases h with ⟨-, rfl⟩ | ⟨g, c, us, -, -, h0, -⟩
 ·rfl
 ·simp at h0
theorem ExprAt.zero {S : Nat → Prop} {w : World} {e : P12.E} {l : List Value} (h : ExprAt S w e l) (he : e = .none) : l = noE := by
 subst he
 exact h
theorem SlcAt.ext1 {α : Type} {S : Nat → Prop} {w W : World} {sz : Nat} {R : α → List Value → Prop} {l : List α} {v : Value} (h : SlcAt S w sz R l v) (hx : Xk.Ext w W) : SlcAt S W sz R l v := h.keep (fun b _ hl => hx.block b hl) (fun b hb _ => hb) (fun _ _ h => h)
theorem some_parts {α : Type} {l : List α} {m : Nat} {p : α → Bool} (h : P12.some l m p = true) : (1 ≤ l.length ∧ l.length ≤ m) ∧ ∀ x ∈ l, p x = true := by
 simp only [P12.some, Bool.and_eq_true, decide_eq_true_eq, List.all_eq_true] at h
 exact ⟨h.1, h.2⟩
theorem srcs_some {S : Nat → Prop} {w : World} {l : List (P12.T × P12.T)} {v : Value} (h : SlcAt S w 2 srcR l v) (hs : P12.some l 2 (fun s => P12.isName s.1 && P12.maybeName s.2) = true) (W : World) (hx : Xk.Ext w W) :
  Calls Tryz.prog 112 #[v, .int .i64 2, .func (.func 109) #[] #[]] W fun e w' => e = .returned (.bool true) ∧ Xk.Ext W w' := by
 obtain ⟨h1, h2⟩ := some_parts hs
 exact someSrc ent_src 2 W (h.ext1 hx) h1 (by omega) (fun x u _ hu => ⟨x.1, x.2, hu⟩) (fun x a b hm hu W' _ => by
  have e1 : bs a = bs x.1 := by injection hu
  have e2 : bs b = bs x.2 := by
   have h := congrArg (List.drop 1) hu
   injection h
  have hp := h2 x hm
  simp only [Bool.and_eq_true] at hp
  rw [e1, e2]
  exact is_src x.1 x.2 hp.1 hp.2 W')
theorem bool_of {a b : Bool} (h : Value.bool a = Value.bool b) : a = b := by injection h
theorem items_some {S : Nat → Prop} {w : World} {l : List (Bool × P12.E × P12.T)} {v : Value} (h : SlcAt S w 12 (itemR S w) l v) (hs : P12.some l 16 P12.itemOk = true) (W : World) (hx : Xk.Ext w W) :
  Calls Tryz.prog 111 #[v, .int .i64 16, .func (.func 107) #[] #[]] W fun e w' => e = .returned (.bool true) ∧ Xk.Ext W w' := by
 obtain ⟨h1, h2⟩ := some_parts hs
 exact someItem ent_item 16 W (h.ext1 hx) h1 (by omega) (fun x u _ hu => by
  obtain ⟨l, rfl, hl⟩ := hu
  obtain ⟨kd, op, vk, vi, vs, tb, nm, pp, pm, pc, rfl⟩ := hl.form
  exact ⟨x.1, kd, op, vk, vi, vs, tb, nm, pp, pm, pc, x.2.2, rfl⟩) (fun x b kd op vk vi vs tb nm pp pm pc a hm hu W' hx' => by
  obtain ⟨l, e, hl⟩ := hu
  have e1 : b = x.1 := bool_of (by injection e)
  have e3 : exprL kd op vk vi vs tb nm (.slice pp pm pc) ++ [bs a] = l ++ [bs x.2.2] := by
   have h := congrArg (List.drop 1) e
   exact h
  obtain ⟨e2, e4⟩ := List.append_inj' e3 rfl
  have e5 : bs a = bs x.2.2 := by injection e4
  subst e2
  have hp := h2 x hm
  obtain ⟨xb, xe, xn⟩ := x
  simp only at e1 e5 hl hp
  subst e1
  rw [e5]
  cases b
  ·simp only [P12.itemOk, Bool.false_eq_true, if_false, Bool.and_eq_true] at hp
   exact is_item xn kd op vk vi vs tb nm pp pm pc hp.2 W' fun W2 hx2 => isExpr_any xe hp.1 S W2 _ (ExprAt.extS hl (Xk.Ext.trans (Xk.Ext.trans hx hx') hx2))
  ·simp only [P12.itemOk, if_true, Bool.and_eq_true, beq_iff_eq] at hp
   obtain ⟨hp1, rfl⟩ := hp
   cases xe <;> first | cases hp1 | skip
   unfold ExprAt at hl
   rw [hl]
   exact is_star W')
theorem group_all {S : Nat → Prop} {w : World} {l : List P12.E} {v : Value} (h : SlcAt S w 10 (exprR S w) l v) (hl : l.length ≤ 16) (hs : l.all P12.isCol = true) (W : World) (hx : Xk.Ext w W) :
  Calls Tryz.prog 101 #[v, .func (.func 108) #[] #[]] W fun e w' => e = .returned (.bool true) ∧ Xk.Ext W w' := by
 refine allOfExpr ent_group W (h.ext1 hx) (by omega) (fun x u _ hu => ExprAt.form hu) (fun x kd op vk vi vs tb nm pp pm pc hm hu W' hx' => ?_)
 have hp := List.all_eq_true.1 hs x hm
 cases x <;> first | cases hp | skip
 rename_i t n
 have hu' : exprL kd op vk vi vs tb nm (.slice pp pm pc) = exprL 2 0 0 0 [] t n nilS := hu
 rw [hu']
 exact is_group t n hp W'
theorem ords_all {S : Nat → Prop} {w : World} {l : List (P12.E × Bool)} {v : Value} (h : SlcAt S w 11 (ordR S w) l v) (hl : l.length ≤ 16) (hs : l.all (fun o => P12.isE o.1) = true) (W : World) (hx : Xk.Ext w W) :
  Calls Tryz.prog 113 #[v, .func (.func 110) #[] #[]] W fun e w' => e = .returned (.bool true) ∧ Xk.Ext W w' := by
 refine allOfOrd ent_ord W (h.ext1 hx) (by omega) (fun x u _ hu => by
  obtain ⟨l, rfl, hl⟩ := hu
  obtain ⟨kd, op, vk, vi, vs, tb, nm, pp, pm, pc, rfl⟩ := hl.form
  exact ⟨kd, op, vk, vi, vs, tb, nm, pp, pm, pc, x.2, rfl⟩) (fun x kd op vk vi vs tb nm pp pm pc b hm hu W' hx' => ?_)
 obtain ⟨l, e, hl⟩ := hu
 obtain ⟨e2, -⟩ := List.append_inj' e rfl
 subst e2
 exact is_ord b kd op vk vi vs tb nm pp pm pc W' fun W2 hx2 => isExpr_any x.1 (List.all_eq_true.1 hs x hm) S W2 _ (ExprAt.extS hl (Xk.Ext.trans (Xk.Ext.trans hx hx') hx2))
theorem blank_of {S : Nat → Prop} {w : World} {e : P12.E} {l : List Value} (h : ExprAt S w e l) (hm : P12.maybeE e = true) : ∃ b, ∀ W, Calls Tryz.prog 94 #[.agg l.toArray] W fun r w' => r = .returned (.bool b) ∧ Xk.Ext W w' := by
 cases hn : P12.noE e
 ·have hE : P12.isE e = true := by simpa [P12.maybeE, hn] using hm
  obtain ⟨kd, op, vk, vi, vs, tb, nm, pp, pm, pc, rfl, hk⟩ := h.kind hE
  exact ⟨false, fun W => blank_some kd op vk vi vs tb nm pp pm pc hk W⟩
 ·cases e <;> first | cases hn | skip
  unfold ExprAt at h
  subst h
  exact ⟨true, fun W => blank_none W⟩
theorem form_8 {S : Nat → Prop} {w : World} {x : P12.St} {l : List Value} {tc tk tq kc cols rows sets : Value} {wh : List Value} {items frm : Value} {jn : List Value} {grp ord : Value} (h : StmtAt S w x l tc tk tq kc cols rows sets wh items frm jn grp ord) (hx : x = P12.keptOf x) (hk : x.kind = 8) : l = stmtL x.kind [] nilS nilS nilS nilS [] [] false nilS nilS nilS wh items frm jn grp ord x.limit := by
 have e : x = { kind := x.kind, items := x.items, frm := x.frm, join := x.join, wher := x.wher, group := x.group, order := x.order, limit := x.limit } := hx.trans (by
  unfold P12.keptOf
  rw [if_neg (by omega), if_neg (by omega), if_neg (by omega), if_neg (by omega), if_neg (by omega), if_pos hk, hk])
 have z_tb : x.tb = {} := congrArg P12.St.tb e
 have z_keyCols : x.keyCols = [] := congrArg P12.St.keyCols e
 have z_name : x.name = [] := congrArg P12.St.name e
 have z_on : x.on = [] := congrArg P12.St.on e
 have z_unique : x.unique = false := congrArg P12.St.unique e
 have z_cols : x.cols = [] := congrArg P12.St.cols e
 have z_rows : x.rows = [] := congrArg P12.St.rows e
 have z_sets : x.sets = [] := congrArg P12.St.sets e
 have s_tc : tc = nilS := h.tc.none (by rw [z_tb])
 have s_tk : tk = nilS := h.tk.none (by rw [z_tb])
 have s_tq : tq = nilS := h.tq.none (by rw [z_tb])
 have s_kc : kc = nilS := h.kc.none (by rw [z_keyCols])
 have s_cols : cols = nilS := h.cols.none (by rw [z_cols])
 have s_rows : rows = nilS := h.rows.none (by rw [z_rows])
 have s_sets : sets = nilS := h.sets.none (by rw [z_sets])
 rw [h.form, s_tc, s_tk, s_tq, s_kc, s_cols, s_rows, s_sets, z_tb, z_name, z_on, z_unique]
theorem same_at {S : Nat → Prop} {w : World} {x : P12.St} {l : List Value} {tc tk tq kc cols rows sets : Value} {wh : List Value} {items frm : Value} {jn : List Value} {grp ord : Value} (h : StmtAt S w x l tc tk tq kc cols rows sets wh items frm jn grp ord)
  (hw : P12.maybeE x.wher = true) (hj : P12.maybeE x.join = true) (W : World) : Calls Tryz.prog 32 #[.agg l.toArray, .agg l.toArray] W fun e w' => e = .returned (.bool true) ∧ Xk.Ext W w' := by
 obtain ⟨b1, hb1⟩ := blank_of h.wh hw
 obtain ⟨b2, hb2⟩ := blank_of h.jn hj
 have hl := h.form
 obtain ⟨p1, c1, rfl⟩ := h.tc.len
 obtain ⟨p2, c2, rfl⟩ := h.tk.len
 obtain ⟨p3, c3, rfl⟩ := h.tq.len
 obtain ⟨p4, c4, rfl⟩ := h.kc.len
 obtain ⟨p5, c5, rfl⟩ := h.cols.len
 obtain ⟨p6, c6, rfl⟩ := h.rows.len
 obtain ⟨p7, c7, rfl⟩ := h.sets.len
 obtain ⟨p8, c8, rfl⟩ := h.items.len
 obtain ⟨p9, c9, rfl⟩ := h.frm.len
 obtain ⟨p10, c10, rfl⟩ := h.grp.len
 obtain ⟨p11, c11, rfl⟩ := h.ord.len
 obtain ⟨k1, o1, vk1, vi1, vs1, tb1, nm1, q1, m1, d1, rfl⟩ := h.wh.form
 obtain ⟨k2, o2, vk2, vi2, vs2, tb2, nm2, q2, m2, d2, rfl⟩ := h.jn.form
 exact same_self _ _ _ _ _ _ p1 p2 p3 p4 p5 p6 p7 p8 p9 p10 p11 _ _ _ _ _ _ _ _ _ _ _ c1 c2 c3 c4 c5 c6 c7 c8 c9 c10 c11 k1 o1 vk1 vi1 vs1 tb1 nm1 q1 m1 d1 k2 o2 vk2 vi2 vs2 tb2 nm2 q2 m2 d2 b1 b2 l hl hb1 hb2 W
theorem maybe_of_none {e : P12.E} (h : e = .none) : P12.maybeE e = true := by subst h; rfl
theorem maybe_of_is {e : P12.E} (h : P12.isE e = true) : P12.maybeE e = true := by simp [P12.maybeE, h]
theorem slc_elem {α : Type} {S : Nat → Prop} {w : World} {sz : Nat} {R : α → List Value → Prop} {l : List α} {p : Option Addr} {n c : Nat} (h : SlcAt S w sz R l (.slice p n c)) {j : Nat} (hj : j < l.length) : ∃ g u, p = some ⟨g, 0, none⟩ ∧ R l[j] u ∧ w.rangeAt g (j * sz) u := by
 obtain ⟨g, rfl⟩ := h.root (by omega)
 obtain ⟨-, -, he⟩ := h.elem
 obtain ⟨u, hu, -, hr⟩ := he j _ (List.getElem?_eq_getElem hj)
 exact ⟨g, u, rfl, hu, hr⟩
theorem isS_maybe {x : P12.St} (hs : P12.isS x) : P12.maybeE x.wher = true ∧ P12.maybeE x.join = true := by
 obtain ⟨hx, hk⟩ := hs
 have hz : x.kind ≠ 6 → x.kind ≠ 7 → x.kind ≠ 8 → x.wher = .none := fun h6 h7 h8 => by
  rw [hx]; unfold P12.keptOf; (repeat' split) <;> first | rfl | (exfalso; omega)
 have hz2 : x.kind ≠ 8 → x.join = .none := fun h8 => by
  rw [hx]; unfold P12.keptOf; (repeat' split) <;> first | rfl | (exfalso; omega)
 rcases hk with ⟨hk, -⟩ | ⟨hk, -⟩ | ⟨hk, -⟩ | ⟨hk, -⟩ | ⟨hk, -⟩ | ⟨hk, -, -, h⟩ | ⟨hk, -, h⟩ | ⟨hk, h⟩ | hk | hk | hk
 all_goals first
  | exact ⟨maybe_of_none (hz (by omega) (by omega) (by omega)), maybe_of_none (hz2 (by omega))⟩
  | exact ⟨h, maybe_of_none (hz2 (by omega))⟩
  | skip
 simp only [P12.selOk, Bool.and_eq_true] at h
 refine ⟨h.1.1.1.1.1.1.1.2, ?_⟩
 have hj := h.1.1.1.1.1.1.2
 split at hj
 ·exact maybe_of_is hj
 ·cases hj2 : x.join <;> rw [hj2] at hj <;> first | rfl | cases hj
theorem sel_ok {x : P12.St} (hs : P12.isS x) (hk : x.kind = 8) : P12.selOk x = true := by
 obtain ⟨-, h⟩ := hs
 rcases h with ⟨hk', -⟩ | ⟨hk', -⟩ | ⟨hk', -⟩ | ⟨hk', -⟩ | ⟨hk', -⟩ | ⟨hk', -⟩ | ⟨hk', -⟩ | ⟨hk', h⟩ | hk' | hk' | hk'
 all_goals first | exact h | (exfalso; omega)
theorem is_k8 (x : P12.St) (hs : P12.isS x) (hk : x.kind = 8) (S : Nat → Prop) (w : World) (l : List Value) (h : StmtIn S w x l) : Calls Tryz.prog 14 #[.agg l.toArray] w fun e w' => e = .returned (.bool true) ∧ Xk.Ext w w' := by
 obtain ⟨hwm, hjm⟩ := isS_maybe hs
 have ho := sel_ok hs hk
 obtain ⟨tc, tk, tq, kc, cols, rows, sets, wh, items, frm, jn, grp, ord, h⟩ := h
 have hSame := fun W => same_at h hwm hjm W
 have hx := hs.1
 have hl := form_8 h hx hk
 simp only [P12.selOk, Bool.and_eq_true, decide_eq_true_eq] at ho
 obtain ⟨⟨⟨⟨⟨⟨⟨⟨⟨a1, a2⟩, a3⟩, a4⟩, a5⟩, a6⟩, a7⟩, a8⟩, a9⟩, a10⟩ := ho
 have e1 := fun W hx' => items_some h.items a1 W hx'
 have e2 := fun W hx' => srcs_some h.frm a2 W hx'
 have e3 := fun W (hx' : Xk.Ext w W) => maybeE_any x.wher a3 S W wh (ExprAt.extS h.wh hx')
 have e5 := fun W hx' => group_all h.grp a5 a6 W hx'
 have e6 := fun W hx' => ords_all h.ord a7 a8 W hx'
 have e7 := (some_parts a2).1
 have e8 := h.jn
 obtain ⟨p1, c1, rfl⟩ := h.items.len
 obtain ⟨p2, c2, rfl⟩ := h.frm.len
 obtain ⟨p3, c3, rfl⟩ := h.grp.len
 obtain ⟨p4, c4, rfl⟩ := h.ord.len
 obtain ⟨kw, ow, vkw, viw, vsw, tbw, nmw, qw, mw, dw, rfl⟩ := h.wh.form
 by_cases h2 : x.frm.length = 2
 ·rw [if_pos h2] at a4
  have e4 := fun W (hx' : Xk.Ext w W) => isExpr_any x.join a4 S W jn (ExprAt.extS h.jn hx')
  obtain ⟨kj, oj, vkj, vij, vsj, tbj, nmj, qj, mj, dj, rfl⟩ := h.jn.form
  rw [h2] at hl e2
  exact is_sel _ _ hk p1 p2 p3 p4 _ c1 2 c2 _ c3 _ c4 kw ow vkw viw vsw tbw nmw qw mw dw kj oj vkj vij vsj tbj nmj qj mj dj l hl w
   (fun W hx' => isSelect_two _ _ p1 p2 p3 p4 _ c1 c2 _ c3 _ c4 kw ow vkw viw vsw tbw nmw qw mw dw kj oj vkj vij vsj tbj nmj qj mj dj a5 a7 a9 l hl W (fun W2 h2 => e1 W2 (Xk.Ext.trans hx' h2)) (fun W2 h2 => e2 W2 (Xk.Ext.trans hx' h2)) (fun W2 h2 => e3 W2 (Xk.Ext.trans hx' h2)) (fun W2 h2 => e4 W2 (Xk.Ext.trans hx' h2)) (fun W2 h2 => e5 W2 (Xk.Ext.trans hx' h2)) (fun W2 h2 => e6 W2 (Xk.Ext.trans hx' h2)))
   (fun W => kept_sel _ _ hk p1 p2 p3 p4 _ c1 2 c2 _ c3 _ c4 kw ow vkw viw vsw tbw nmw qw mw dw kj oj vkj vij vsj tbj nmj qj mj dj l hl W) hSame
 ·rw [if_neg h2] at a4
  have h1 : x.frm.length = 1 := by omega
  have hj : x.join = .none := by cases hj2 : x.join <;> rw [hj2] at a4 <;> first | rfl | cases a4
  have hjn := h.jn.zero hj
  subst hjn
  rw [h1] at hl e2
  exact is_sel _ _ hk p1 p2 p3 p4 _ c1 1 c2 _ c3 _ c4 kw ow vkw viw vsw tbw nmw qw mw dw 0 0 0 0 [] [] [] none 0 0 l hl w
   (fun W hx' => isSelect_one _ _ p1 p2 p3 p4 _ c1 c2 _ c3 _ c4 kw ow vkw viw vsw tbw nmw qw mw dw a5 a7 a9 l hl W (fun W2 h2 => e1 W2 (Xk.Ext.trans hx' h2)) (fun W2 h2 => e2 W2 (Xk.Ext.trans hx' h2)) (fun W2 h2 => e3 W2 (Xk.Ext.trans hx' h2)) (fun W2 h2 => e5 W2 (Xk.Ext.trans hx' h2)) (fun W2 h2 => e6 W2 (Xk.Ext.trans hx' h2)))
   (fun W => kept_sel _ _ hk p1 p2 p3 p4 _ c1 1 c2 _ c3 _ c4 kw ow vkw viw vsw tbw nmw qw mw dw 0 0 0 0 [] [] [] none 0 0 l hl W) hSame
theorem where_none (w : World) : Calls Tryz.prog 54 #[.agg noE.toArray] w fun r w' => r = .returned (bs ([])) ∧ Xk.Ext w w' := by
 go_enter Tryz.func54, Tryz.ntmps54
 go_wp2_with fail
 go_ret
 exact ⟨rfl, boxX _ _⟩
theorem where_some (kd op vk vi : Int) (vs tb nm : P12.T) (pp : Option Addr) (pm pc : Nat) (hk : kd ≠ 0) (t : P12.T) (ht : t.length ≤ 1000000) (w : World) (hT : ∀ W, Xk.Ext w W → Calls Tryz.prog 51 #[.agg (exprL kd op vk vi vs tb nm (.slice pp pm pc)).toArray] W fun r w' => r = .returned (bs (t)) ∧ Xk.Ext W w') : Calls Tryz.prog 54 #[.agg (exprL kd op vk vi vs tb nm (.slice pp pm pc)).toArray] w fun r w' => r = .returned (bs ([32, 87, 72, 69, 82, 69, 32] ++ t)) ∧ Xk.Ext w w' := by
 have hga := heap_new w (exprO (exprL kd op vk vi vs tb nm (.slice pp pm pc)))
 have k0 : (kd == 0) = false := by simpa using hk
 have HT := Lib.hid hT
 clear hk hT
 go_enter Tryz.func54, Tryz.ntmps54
 go_wp2_with (refine wpList_loadRow rfl 35 _ rfl (w.heap.size) _ 35 (0, 0) _ rfl hga Tryz.underlying35 rfl (by kernel_rfl) ?_)
 refine (HT.out _ (boxX _ _)).mono ?_
 rintro e w1 ⟨rfl, hx1⟩
 go_wp2_with fail
 go_ret
 refine ⟨?_, box2 hx1⟩
 exact congrArg (fun x => Ending.returned (.string x)) (show (⟨#[32, 87, 72, 69, 82, 69, 32]⟩ ++ ⟨t.toArray⟩ : ByteArray) = ⟨([32, 87, 72, 69, 82, 69, 32] ++ t).toArray⟩ by apply bytes_eq; simp)
theorem source_one (a : P12.T) (w : World) : Calls Tryz.prog 120 #[.agg [bs a, bs []].toArray] w fun r w' => r = .returned (bs (a)) ∧ Xk.Ext w w' := by
 go_enter Tryz.func120, Tryz.ntmps120
 go_wp2_with fail
 go_ret
 exact ⟨rfl, boxX _ _⟩
theorem source_two (a b : P12.T) (ha : a.length ≤ 1000000) (hb : b.length ≤ 1000000) (hn : b ≠ []) (w : World) : Calls Tryz.prog 120 #[.agg [bs a, bs b].toArray] w fun r w' => r = .returned (bs (a ++ [32] ++ b)) ∧ Xk.Ext w w' := by
 have hb2 : b.isEmpty = false := by cases b <;> first | rfl | exact absurd rfl hn
 clear hn
 go_enter Tryz.func120, Tryz.ntmps120
 go_wp2_with fail
 go_ret
 refine ⟨?_, boxX _ _⟩
 exact congrArg (fun x => Ending.returned (.string x)) (show (⟨a.toArray⟩ ++ ⟨#[32]⟩ ++ ⟨b.toArray⟩ : ByteArray) = ⟨(a ++ [32] ++ b).toArray⟩ by apply bytes_eq; simp)
theorem ord_asc (kd op vk vi : Int) (vs tb nm : P12.T) (pp : Option Addr) (pm pc : Nat) (t : P12.T) (ht : t.length ≤ 1000000) (w : World) (hT : ∀ W, Xk.Ext w W → Calls Tryz.prog 51 #[.agg (exprL kd op vk vi vs tb nm (.slice pp pm pc)).toArray] W fun r w' => r = .returned (bs (t)) ∧ Xk.Ext W w') : Calls Tryz.prog 122 #[.agg ((exprL kd op vk vi vs tb nm (.slice pp pm pc)) ++ [Value.bool false]).toArray] w fun r w' => r = .returned (bs (t)) ∧ Xk.Ext w w' := by
 have HT := Lib.hid hT
 clear hT
 have HR := Lib.hid (boxRange (l := (exprL kd op vk vi vs tb nm (.slice pp pm pc)) ++ [Value.bool false]) (Below.refl _ _ : Xk.Ext (w.alloc (.cells ((exprL kd op vk vi vs tb nm (.slice pp pm pc)) ++ [Value.bool false]).toArray 92)) _) 0 (exprL kd op vk vi vs tb nm (.slice pp pm pc)) (ten_cells rfl rfl rfl rfl rfl rfl rfl rfl rfl rfl rfl))
 go_enter Tryz.func122, Tryz.ntmps122
 go_wp2_with (refine wpList_load_mid rfl 35 _ rfl w.heap.size 0 rfl _ _ HR.out Tryz.underlying35 rfl (by kernel_rfl) ?_)
 refine (HT.out _ (boxX _ _)).mono ?_
 rintro e w1 ⟨rfl, hx1⟩
 go_wp2_with fail
 go_ret
 exact ⟨rfl, box2 hx1⟩
theorem ord_desc (kd op vk vi : Int) (vs tb nm : P12.T) (pp : Option Addr) (pm pc : Nat) (t : P12.T) (ht : t.length ≤ 1000000) (w : World) (hT : ∀ W, Xk.Ext w W → Calls Tryz.prog 51 #[.agg (exprL kd op vk vi vs tb nm (.slice pp pm pc)).toArray] W fun r w' => r = .returned (bs (t)) ∧ Xk.Ext W w') : Calls Tryz.prog 122 #[.agg ((exprL kd op vk vi vs tb nm (.slice pp pm pc)) ++ [Value.bool true]).toArray] w fun r w' => r = .returned (bs (t ++ [32, 68, 69, 83, 67])) ∧ Xk.Ext w w' := by
 have HT := Lib.hid hT
 clear hT
 have HR := Lib.hid (boxRange (l := (exprL kd op vk vi vs tb nm (.slice pp pm pc)) ++ [Value.bool true]) (Below.refl _ _ : Xk.Ext (w.alloc (.cells ((exprL kd op vk vi vs tb nm (.slice pp pm pc)) ++ [Value.bool true]).toArray 92)) _) 0 (exprL kd op vk vi vs tb nm (.slice pp pm pc)) (ten_cells rfl rfl rfl rfl rfl rfl rfl rfl rfl rfl rfl))
 go_enter Tryz.func122, Tryz.ntmps122
 go_wp2_with (refine wpList_load_mid rfl 35 _ rfl w.heap.size 0 rfl _ _ HR.out Tryz.underlying35 rfl (by kernel_rfl) ?_)
 refine (HT.out _ (boxX _ _)).mono ?_
 rintro e w1 ⟨rfl, hx1⟩
 go_wp2_with fail
 go_ret
 refine ⟨?_, box2 hx1⟩
 exact congrArg (fun x => Ending.returned (.string x)) (show (⟨t.toArray⟩ ++ ⟨#[32, 68, 69, 83, 67]⟩ : ByteArray) = ⟨(t ++ [32, 68, 69, 83, 67]).toArray⟩ by apply bytes_eq; simp)
theorem ent_qord : Ent 122 := ⟨fun _ _ => by go_simp, by decide⟩
theorem ent_pitem : Ent 119 := ⟨fun _ _ => by go_simp, by decide⟩
theorem ent_text : Ent 51 := ⟨fun _ _ => by go_simp, by decide⟩
theorem item_star (w : World) : Calls Tryz.prog 119 #[.agg (Value.bool true :: (noE ++ [bs []])).toArray] w fun r w' => r = .returned (bs ([42])) ∧ Xk.Ext w w' := by
 go_enter Tryz.func119, Tryz.ntmps119
 go_wp2_with fail
 go_ret
 exact ⟨rfl, boxX _ _⟩
theorem item_bare (kd op vk vi : Int) (vs tb nm : P12.T) (pp : Option Addr) (pm pc : Nat) (t : P12.T) (ht : t.length ≤ 1000000) (w : World) (hT : ∀ W, Xk.Ext w W → Calls Tryz.prog 51 #[.agg (exprL kd op vk vi vs tb nm (.slice pp pm pc)).toArray] W fun r w' => r = .returned (bs (t)) ∧ Xk.Ext W w') : Calls Tryz.prog 119 #[.agg (Value.bool false :: ((exprL kd op vk vi vs tb nm (.slice pp pm pc)) ++ [bs []])).toArray] w fun r w' => r = .returned (bs (t)) ∧ Xk.Ext w w' := by
 have HT := Lib.hid hT
 clear hT
 have HR := Lib.hid (boxRange (l := Value.bool false :: ((exprL kd op vk vi vs tb nm (.slice pp pm pc)) ++ [bs []])) (Below.refl _ _ : Xk.Ext (w.alloc (.cells (Value.bool false :: ((exprL kd op vk vi vs tb nm (.slice pp pm pc)) ++ [bs []])).toArray 88)) _) 1 (exprL kd op vk vi vs tb nm (.slice pp pm pc)) (ten_cells rfl rfl rfl rfl rfl rfl rfl rfl rfl rfl rfl))
 go_enter Tryz.func119, Tryz.ntmps119
 go_wp2_with (refine wpList_load_mid rfl 35 _ rfl w.heap.size 1 rfl _ _ HR.out Tryz.underlying35 rfl (by kernel_rfl) ?_)
 refine (HT.out _ (boxX _ _)).mono ?_
 rintro e w1 ⟨rfl, hx1⟩
 go_wp2_with fail
 go_ret
 exact ⟨rfl, box2 hx1⟩
theorem item_as (a : P12.T) (ha : a.length ≤ 1000000) (hn : a ≠ []) (kd op vk vi : Int) (vs tb nm : P12.T) (pp : Option Addr) (pm pc : Nat) (t : P12.T) (ht : t.length ≤ 1000000) (w : World) (hT : ∀ W, Xk.Ext w W → Calls Tryz.prog 51 #[.agg (exprL kd op vk vi vs tb nm (.slice pp pm pc)).toArray] W fun r w' => r = .returned (bs (t)) ∧ Xk.Ext W w') : Calls Tryz.prog 119 #[.agg (Value.bool false :: ((exprL kd op vk vi vs tb nm (.slice pp pm pc)) ++ [bs a])).toArray] w fun r w' => r = .returned (bs (t ++ [32, 65, 83, 32] ++ a)) ∧ Xk.Ext w w' := by
 have HT := Lib.hid fun W (hx : Xk.Ext (w.alloc (.cells #[Value.bool false, .int .i64 kd, .int .i64 op, .int .i64 vk, .int .i64 vi, bs vs, bs tb, bs nm, .int .i64 0, .int .i64 0, .slice pp pm pc, bs a] 88)) W) => hT W (box2 hx)
 have hb2 : a.isEmpty = false := by cases a <;> first | rfl | exact absurd rfl hn
 clear hn hT
 have n1 : ¬ 9223372036854775807 < t.length + 4 := by omega
 have n2 : ¬ 9223372036854775807 < t.length + 4 + a.length := by omega
 go_enter Tryz.func119, Tryz.ntmps119
 go_wp2_with fail
 refine Xk.reg 8 (Xk.w1 HT.out fun p => ?_)
 go_wp2_with fail
 go_ret
 refine ⟨?_, Xk.xt⟩
 exact congrArg (fun x => Ending.returned (.string x)) (show (⟨t.toArray⟩ ++ ⟨#[32, 65, 83, 32]⟩ ++ ⟨a.toArray⟩ : ByteArray) = ⟨(t ++ [32, 65, 83, 32] ++ a).toArray⟩ by apply bytes_eq; simp)
theorem itoa_len {n : Int} (h0 : -9223372036854775808 ≤ n) (h1 : n ≤ 9223372036854775807) : (Lib.itoa n).length ≤ 50 := by
 unfold Lib.itoa
 split
 ·have := P12.decDigits_len (u := n.natAbs) (by omega)
  simp only [List.length_cons]; omega
 ·have := P12.decDigits_len (u := n.toNat) (by omega)
  omega
theorem box_big {w W : World} {o : Obj} (hx : Xk.Ext (w.alloc o) W) : w.heap.size < W.heap.size := by have := hx.size; rw [World.size_alloc] at this; omega
theorem query_one (kind lim : Int) (h0 : -1 ≤ lim) (h1 : lim ≤ 9223372036854775807) (p1 p3 p4 : Option Addr) (g2 n1 c1 c2 n3 c3 n4 c4 : Nat) (a1 b1 : P12.T) (kdw opw vkw viw : Int) (vsw tbw nnw : P12.T) (qw : Option Addr) (mw dw : Nat)  (l : List Value) (hl : l = stmtL kind [] nilS nilS nilS nilS [] [] false nilS nilS nilS (exprL kdw opw vkw viw vsw tbw nnw (.slice qw mw dw)) (.slice p1 n1 c1) (.slice (some ⟨g2, 0, none⟩) 1 c2) noE (.slice p3 n3 c3) (.slice p4 n4 c4) lim) (w : World) (hE : Env w)
  (rI s1 tw rg ro : P12.T)
  (brI : rI.length ≤ 1000000000)
  (bs1 : s1.length ≤ 1000000000)
  (btw : tw.length ≤ 1000000000)
  (brg : rg.length ≤ 1000000000)
  (bro : ro.length ≤ 1000000000)
  (hr : w.rangeAt g2 0 [bs a1, bs b1])
  (hI : ∀ W, Xk.Ext w W → Calls Tryz.prog 118 #[.slice p1 n1 c1, .func (.func 119) #[] #[]] W fun r w' => r = .returned (bs rI) ∧ Xk.Ext W w')
  (hS : ∀ W, Xk.Ext w W → Calls Tryz.prog 120 #[.agg #[bs a1, bs b1]] W fun r w' => r = .returned (bs s1) ∧ Xk.Ext W w')
  (hW : ∀ W, Xk.Ext w W → Calls Tryz.prog 54 #[.agg (exprL kdw opw vkw viw vsw tbw nnw (.slice qw mw dw)).toArray] W fun r w' => r = .returned (bs tw) ∧ Xk.Ext W w')
  (hG : n3 ≠ 0 → ∀ W, Xk.Ext w W → Calls Tryz.prog 50 #[.slice p3 n3 c3, .func (.func 51) #[] #[]] W fun r w' => r = .returned (bs rg) ∧ Xk.Ext W w')
  (hO : n4 ≠ 0 → ∀ W, Xk.Ext w W → Calls Tryz.prog 121 #[.slice p4 n4 c4, .func (.func 122) #[] #[]] W fun r w' => r = .returned (bs ro) ∧ Xk.Ext W w') :
  Calls Tryz.prog 55 #[.agg l.toArray] w fun r w' => r = .returned (bs ([83, 69, 76, 69, 67, 84, 32] ++ rI ++ [32, 70, 82, 79, 77, 32] ++ s1 ++ tw ++ (if n3 = 0 then [] else [32, 71, 82, 79, 85, 80, 32, 66, 89, 32] ++ rg) ++ (if n4 = 0 then [] else [32, 79, 82, 68, 69, 82, 32, 66, 89, 32] ++ ro) ++ (if lim < 0 then [] else [32, 76, 73, 77, 73, 84, 32] ++ Lib.itoa lim))) ∧ Xk.Ext w w' := by
 have HI := Lib.hid hI
 have HS := Lib.hid hS
 have HW := Lib.hid hW
 have HG := Lib.hid hG
 have HO := Lib.hid hO
 have HE := Lib.hid hE
 have HL := Lib.hid hl
 have lg : g2 < w.heap.size := World.block_lt_of_cell? _ _ (hr 0 _ rfl)
 have HR := Lib.hid hr
 clear hl hr hE hI hS hW hG hO
 have HXA : Hid (Xk.Ext (w.alloc (.cells l.toArray 40)) (w.alloc (.cells l.toArray 40))) := Lib.hid (Below.refl _ _)
 have q22 := boxR HXA.out 22 (.slice p1 n1 c1) (by rw [HL.out]; rfl)
 have q23 := boxR HXA.out 23 (.slice (some ⟨g2, 0, none⟩) 1 c2) (by rw [HL.out]; rfl)
 have ltA := box_big HXA.out
 have lgA : g2 < (w.alloc (.cells l.toArray 40)).heap.size := by rw [World.size_alloc]; omega
 have r0 : (w.alloc (.cells l.toArray 40)).cell? ⟨g2, 0, none⟩ = some (bs a1) := Xk.ext_cell (boxX w _) (HR.out 0 _ rfl)
 have r1 : (w.alloc (.cells l.toArray 40)).cell? ⟨g2, 1, none⟩ = some (bs b1) := Xk.ext_cell (boxX w _) (HR.out 1 _ rfl)
 have m1 : ¬ 9223372036854775807 < 7 + rI.length := by omega
 have m2 : ¬ 9223372036854775807 < 7 + rI.length + 6 := by omega
 have m3 : ¬ 9223372036854775807 < 7 + rI.length + 6 + s1.length := by omega
 obtain ⟨RS, hRS⟩ : ∃ R, R = ([83, 69, 76, 69, 67, 84, 32] ++ rI ++ [32, 70, 82, 79, 77, 32] ++ s1 ++ tw ++ (if n3 = 0 then [] else [32, 71, 82, 79, 85, 80, 32, 66, 89, 32] ++ rg) ++ (if n4 = 0 then [] else [32, 79, 82, 68, 69, 82, 32, 66, 89, 32] ++ ro) ++ (if lim < 0 then [] else [32, 76, 73, 77, 73, 84, 32] ++ Lib.itoa lim)) := ⟨_, rfl⟩
 rw [← hRS]
 have HRS := Lib.hid hRS
 clear hRS
 go_enter Tryz.func55, Tryz.ntmps55
 go_wp2_with fail
 refine Xk.reg 12 (Xk.w2 HI.out HS.out fun p => ?_)
 obtain ⟨W1, hW1⟩ : ∃ W', W' = Xk.exw (w.alloc (.cells l.toArray 40)).drew p := ⟨_, rfl⟩
 have hx1 : Xk.Ext (w.alloc (.cells l.toArray 40)) W1 := by rw [hW1]; exact Xk.xt
 rw [← hW1]
 clear hW1
 have HX1 := Lib.hid hx1
 clear hx1
 rw [show (⟨#[83, 69, 76, 69, 67, 84, 32]⟩ ++ ⟨rI.toArray⟩ ++ ⟨#[32, 70, 82, 79, 77, 32]⟩ ++ ⟨s1.toArray⟩ : ByteArray) = ⟨([83, 69, 76, 69, 67, 84, 32] ++ rI ++ [32, 70, 82, 79, 77, 32] ++ s1).toArray⟩ by apply bytes_eq; simp]
 have bo : ([83, 69, 76, 69, 67, 84, 32] ++ rI ++ [32, 70, 82, 79, 77, 32] ++ s1).length ≤ 3000000000 := by simp; omega
 obtain ⟨o1, ho1⟩ : ∃ o, o = [83, 69, 76, 69, 67, 84, 32] ++ rI ++ [32, 70, 82, 79, 77, 32] ++ s1 := ⟨_, rfl⟩
 rw [← ho1] at bo ⊢
 have HO1 := Lib.hid ho1
 clear ho1
 clear q22 q23 r0 r1 ltA lgA m1 m2 m3
 have q23 := boxR HX1.out 23 (.slice (some ⟨g2, 0, none⟩) 1 c2) (by rw [HL.out]; rfl)
 have HRW := Lib.hid (boxRange HX1.out 12 _ (ten_cells (m := (exprL kdw opw vkw viw vsw tbw nnw (.slice qw mw dw))) rfl (by rw [HL.out]; rfl) (by rw [HL.out]; rfl) (by rw [HL.out]; rfl) (by rw [HL.out]; rfl) (by rw [HL.out]; rfl) (by rw [HL.out]; rfl) (by rw [HL.out]; rfl) (by rw [HL.out]; rfl) (by rw [HL.out]; rfl) (by rw [HL.out]; rfl)))
 go_wp2_with (refine wpList_load_mid rfl 35 _ rfl w.heap.size 12 rfl _ _ HRW.out Tryz.underlying35 rfl (by kernel_rfl) ?_)
 refine (HW.out _ (box2 HX1.out)).mono ?_
 rintro e w3 ⟨rfl, hx3⟩
 have HX3 := Lib.hid (Xk.Ext.trans HX1.out hx3)
 clear hx3 q23
 have q34 := boxR HX3.out 34 (.slice p3 n3 c3) (by rw [HL.out]; rfl)
 by_cases hn3 : n3 = 0
 ·have y3 : ¬ (0 < n3) := by omega
  have z0 : ¬ ((0 : Int) < (n3 : Int)) := by omega
  have HN3 := Lib.hid hn3
  clear hn3
  have q35 := boxR HX3.out 35 (.slice p4 n4 c4) (by rw [HL.out]; rfl)
  by_cases hn4 : n4 = 0
  ·have y4 : ¬ (0 < n4) := by omega
   have z4 : ¬ ((0 : Int) < (n4 : Int)) := by omega
   have HN4 := Lib.hid hn4
   clear hn4
   have q36 := boxR HX3.out 36 (.int .i64 lim) (by rw [HL.out]; rfl)
   by_cases hl : lim < 0
   ·have HLM := Lib.hid hl
    have z3 : ¬ (0 ≤ lim) := by omega
    go_wp2_with fail
    go_ret
    refine ⟨?_, box2 HX3.out⟩
    skip
    exact congrArg (fun x => Ending.returned (.string x)) (by rw [HRS.out]; apply bytes_eq; simp [HN3.out, HN4.out, HLM.out, HO1.out])
   ·have HLM := Lib.hid hl
    have z3 : 0 ≤ lim := by omega
    have bl := itoa_len (n := lim) (by omega) (by omega)
    go_wp2_with fail
    refine (format_any lim (by omega) h1 _ (HE.out.ext (box2 HX3.out))).mono ?_
    rintro e w9 ⟨rfl, hx9⟩
    go_wp2_with fail
    go_ret
    refine ⟨?_, Xk.Ext.trans (box2 HX3.out) hx9⟩
    skip
    exact congrArg (fun x => Ending.returned (.string x)) (by rw [HRS.out]; apply bytes_eq; simp [HN3.out, HN4.out, HLM.out, HO1.out])
  ·have y4 : 0 < n4 := by omega
   have z4 : (0 : Int) < (n4 : Int) := by omega
   go_wp2_with fail
   refine (HO.out hn4 _ (box2 HX3.out)).mono ?_
   rintro e w5 ⟨rfl, hx5⟩
   have HX5 := Lib.hid (Xk.Ext.trans HX3.out hx5)
   clear hx5 q35
   have HN4 := Lib.hid hn4
   clear hn4
   have q36 := boxR HX5.out 36 (.int .i64 lim) (by rw [HL.out]; rfl)
   by_cases hl : lim < 0
   ·have HLM := Lib.hid hl
    have z3 : ¬ (0 ≤ lim) := by omega
    go_wp2_with fail
    go_ret
    refine ⟨?_, box2 HX5.out⟩
    skip
    exact congrArg (fun x => Ending.returned (.string x)) (by rw [HRS.out]; apply bytes_eq; simp [HN3.out, HN4.out, HLM.out, HO1.out])
   ·have HLM := Lib.hid hl
    have z3 : 0 ≤ lim := by omega
    have bl := itoa_len (n := lim) (by omega) (by omega)
    go_wp2_with fail
    refine (format_any lim (by omega) h1 _ (HE.out.ext (box2 HX5.out))).mono ?_
    rintro e w9 ⟨rfl, hx9⟩
    go_wp2_with fail
    go_ret
    refine ⟨?_, Xk.Ext.trans (box2 HX5.out) hx9⟩
    skip
    exact congrArg (fun x => Ending.returned (.string x)) (by rw [HRS.out]; apply bytes_eq; simp [HN3.out, HN4.out, HLM.out, HO1.out])
 ·have y3 : 0 < n3 := by omega
  have z0 : (0 : Int) < (n3 : Int) := by omega
  go_wp2_with fail
  refine (HG.out hn3 _ (box2 HX3.out)).mono ?_
  rintro e w4 ⟨rfl, hx4⟩
  have HX4 := Lib.hid (Xk.Ext.trans HX3.out hx4)
  clear hx4 q34
  have HN3 := Lib.hid hn3
  clear hn3
  have q35 := boxR HX4.out 35 (.slice p4 n4 c4) (by rw [HL.out]; rfl)
  by_cases hn4 : n4 = 0
  ·have y4 : ¬ (0 < n4) := by omega
   have z4 : ¬ ((0 : Int) < (n4 : Int)) := by omega
   have HN4 := Lib.hid hn4
   clear hn4
   have q36 := boxR HX4.out 36 (.int .i64 lim) (by rw [HL.out]; rfl)
   by_cases hl : lim < 0
   ·have HLM := Lib.hid hl
    have z3 : ¬ (0 ≤ lim) := by omega
    go_wp2_with fail
    go_ret
    refine ⟨?_, box2 HX4.out⟩
    skip
    exact congrArg (fun x => Ending.returned (.string x)) (by rw [HRS.out]; apply bytes_eq; simp [HN3.out, HN4.out, HLM.out, HO1.out])
   ·have HLM := Lib.hid hl
    have z3 : 0 ≤ lim := by omega
    have bl := itoa_len (n := lim) (by omega) (by omega)
    go_wp2_with fail
    refine (format_any lim (by omega) h1 _ (HE.out.ext (box2 HX4.out))).mono ?_
    rintro e w9 ⟨rfl, hx9⟩
    go_wp2_with fail
    go_ret
    refine ⟨?_, Xk.Ext.trans (box2 HX4.out) hx9⟩
    skip
    exact congrArg (fun x => Ending.returned (.string x)) (by rw [HRS.out]; apply bytes_eq; simp [HN3.out, HN4.out, HLM.out, HO1.out])
  ·have y4 : 0 < n4 := by omega
   have z4 : (0 : Int) < (n4 : Int) := by omega
   go_wp2_with fail
   refine (HO.out hn4 _ (box2 HX4.out)).mono ?_
   rintro e w5 ⟨rfl, hx5⟩
   have HX5 := Lib.hid (Xk.Ext.trans HX4.out hx5)
   clear hx5 q35
   have HN4 := Lib.hid hn4
   clear hn4
   have q36 := boxR HX5.out 36 (.int .i64 lim) (by rw [HL.out]; rfl)
   by_cases hl : lim < 0
   ·have HLM := Lib.hid hl
    have z3 : ¬ (0 ≤ lim) := by omega
    go_wp2_with fail
    go_ret
    refine ⟨?_, box2 HX5.out⟩
    skip
    exact congrArg (fun x => Ending.returned (.string x)) (by rw [HRS.out]; apply bytes_eq; simp [HN3.out, HN4.out, HLM.out, HO1.out])
   ·have HLM := Lib.hid hl
    have z3 : 0 ≤ lim := by omega
    have bl := itoa_len (n := lim) (by omega) (by omega)
    go_wp2_with fail
    refine (format_any lim (by omega) h1 _ (HE.out.ext (box2 HX5.out))).mono ?_
    rintro e w9 ⟨rfl, hx9⟩
    go_wp2_with fail
    go_ret
    refine ⟨?_, Xk.Ext.trans (box2 HX5.out) hx9⟩
    skip
    exact congrArg (fun x => Ending.returned (.string x)) (by rw [HRS.out]; apply bytes_eq; simp [HN3.out, HN4.out, HLM.out, HO1.out])
theorem query_two (kind lim : Int) (h0 : -1 ≤ lim) (h1 : lim ≤ 9223372036854775807) (p1 p3 p4 : Option Addr) (g2 n1 c1 c2 n3 c3 n4 c4 : Nat) (a1 b1 a2 b2 : P12.T) (kdw opw vkw viw : Int) (vsw tbw nnw : P12.T) (qw : Option Addr) (mw dw : Nat) (kdj opj vkj vij : Int) (vsj tbj nnj : P12.T) (qj : Option Addr) (mj dj : Nat) (l : List Value) (hl : l = stmtL kind [] nilS nilS nilS nilS [] [] false nilS nilS nilS (exprL kdw opw vkw viw vsw tbw nnw (.slice qw mw dw)) (.slice p1 n1 c1) (.slice (some ⟨g2, 0, none⟩) 2 c2) (exprL kdj opj vkj vij vsj tbj nnj (.slice qj mj dj)) (.slice p3 n3 c3) (.slice p4 n4 c4) lim) (w : World) (hE : Env w)
  (rI s1 tw rg ro s2 tj : P12.T)
  (brI : rI.length ≤ 1000000000)
  (bs1 : s1.length ≤ 1000000000)
  (btw : tw.length ≤ 1000000000)
  (brg : rg.length ≤ 1000000000)
  (bro : ro.length ≤ 1000000000)
  (bs2 : s2.length ≤ 1000000000)
  (btj : tj.length ≤ 1000000000)
  (hr : w.rangeAt g2 0 [bs a1, bs b1, bs a2, bs b2])
  (hI : ∀ W, Xk.Ext w W → Calls Tryz.prog 118 #[.slice p1 n1 c1, .func (.func 119) #[] #[]] W fun r w' => r = .returned (bs rI) ∧ Xk.Ext W w')
  (hS : ∀ W, Xk.Ext w W → Calls Tryz.prog 120 #[.agg #[bs a1, bs b1]] W fun r w' => r = .returned (bs s1) ∧ Xk.Ext W w')
  (hS2 : ∀ W, Xk.Ext w W → Calls Tryz.prog 120 #[.agg #[bs a2, bs b2]] W fun r w' => r = .returned (bs s2) ∧ Xk.Ext W w')
  (hJ : ∀ W, Xk.Ext w W → Calls Tryz.prog 51 #[.agg (exprL kdj opj vkj vij vsj tbj nnj (.slice qj mj dj)).toArray] W fun r w' => r = .returned (bs tj) ∧ Xk.Ext W w')
  (hW : ∀ W, Xk.Ext w W → Calls Tryz.prog 54 #[.agg (exprL kdw opw vkw viw vsw tbw nnw (.slice qw mw dw)).toArray] W fun r w' => r = .returned (bs tw) ∧ Xk.Ext W w')
  (hG : n3 ≠ 0 → ∀ W, Xk.Ext w W → Calls Tryz.prog 50 #[.slice p3 n3 c3, .func (.func 51) #[] #[]] W fun r w' => r = .returned (bs rg) ∧ Xk.Ext W w')
  (hO : n4 ≠ 0 → ∀ W, Xk.Ext w W → Calls Tryz.prog 121 #[.slice p4 n4 c4, .func (.func 122) #[] #[]] W fun r w' => r = .returned (bs ro) ∧ Xk.Ext W w') :
  Calls Tryz.prog 55 #[.agg l.toArray] w fun r w' => r = .returned (bs ([83, 69, 76, 69, 67, 84, 32] ++ rI ++ [32, 70, 82, 79, 77, 32] ++ s1 ++ ([32, 74, 79, 73, 78, 32] ++ s2 ++ [32, 79, 78, 32] ++ tj) ++ tw ++ (if n3 = 0 then [] else [32, 71, 82, 79, 85, 80, 32, 66, 89, 32] ++ rg) ++ (if n4 = 0 then [] else [32, 79, 82, 68, 69, 82, 32, 66, 89, 32] ++ ro) ++ (if lim < 0 then [] else [32, 76, 73, 77, 73, 84, 32] ++ Lib.itoa lim))) ∧ Xk.Ext w w' := by
 have HI := Lib.hid hI
 have HS := Lib.hid hS
 have HS2 := Lib.hid hS2
 have HJ := Lib.hid hJ
 have HW := Lib.hid hW
 have HG := Lib.hid hG
 have HO := Lib.hid hO
 have HE := Lib.hid hE
 have HL := Lib.hid hl
 have lg : g2 < w.heap.size := World.block_lt_of_cell? _ _ (hr 0 _ rfl)
 have HR := Lib.hid hr
 clear hl hr hE hI hS hS2 hJ hW hG hO
 have HXA : Hid (Xk.Ext (w.alloc (.cells l.toArray 40)) (w.alloc (.cells l.toArray 40))) := Lib.hid (Below.refl _ _)
 have q22 := boxR HXA.out 22 (.slice p1 n1 c1) (by rw [HL.out]; rfl)
 have q23 := boxR HXA.out 23 (.slice (some ⟨g2, 0, none⟩) 2 c2) (by rw [HL.out]; rfl)
 have ltA := box_big HXA.out
 have lgA : g2 < (w.alloc (.cells l.toArray 40)).heap.size := by rw [World.size_alloc]; omega
 have r0 : (w.alloc (.cells l.toArray 40)).cell? ⟨g2, 0, none⟩ = some (bs a1) := Xk.ext_cell (boxX w _) (HR.out 0 _ rfl)
 have r1 : (w.alloc (.cells l.toArray 40)).cell? ⟨g2, 1, none⟩ = some (bs b1) := Xk.ext_cell (boxX w _) (HR.out 1 _ rfl)
 have m1 : ¬ 9223372036854775807 < 7 + rI.length := by omega
 have m2 : ¬ 9223372036854775807 < 7 + rI.length + 6 := by omega
 have m3 : ¬ 9223372036854775807 < 7 + rI.length + 6 + s1.length := by omega
 obtain ⟨RS, hRS⟩ : ∃ R, R = ([83, 69, 76, 69, 67, 84, 32] ++ rI ++ [32, 70, 82, 79, 77, 32] ++ s1 ++ ([32, 74, 79, 73, 78, 32] ++ s2 ++ [32, 79, 78, 32] ++ tj) ++ tw ++ (if n3 = 0 then [] else [32, 71, 82, 79, 85, 80, 32, 66, 89, 32] ++ rg) ++ (if n4 = 0 then [] else [32, 79, 82, 68, 69, 82, 32, 66, 89, 32] ++ ro) ++ (if lim < 0 then [] else [32, 76, 73, 77, 73, 84, 32] ++ Lib.itoa lim)) := ⟨_, rfl⟩
 rw [← hRS]
 have HRS := Lib.hid hRS
 clear hRS
 go_enter Tryz.func55, Tryz.ntmps55
 go_wp2_with fail
 refine Xk.reg 12 (Xk.w2 HI.out HS.out fun p => ?_)
 obtain ⟨W1, hW1⟩ : ∃ W', W' = Xk.exw (w.alloc (.cells l.toArray 40)).drew p := ⟨_, rfl⟩
 have hx1 : Xk.Ext (w.alloc (.cells l.toArray 40)) W1 := by rw [hW1]; exact Xk.xt
 rw [← hW1]
 clear hW1
 have HX1 := Lib.hid hx1
 clear hx1
 rw [show (⟨#[83, 69, 76, 69, 67, 84, 32]⟩ ++ ⟨rI.toArray⟩ ++ ⟨#[32, 70, 82, 79, 77, 32]⟩ ++ ⟨s1.toArray⟩ : ByteArray) = ⟨([83, 69, 76, 69, 67, 84, 32] ++ rI ++ [32, 70, 82, 79, 77, 32] ++ s1).toArray⟩ by apply bytes_eq; simp]
 have bo : ([83, 69, 76, 69, 67, 84, 32] ++ rI ++ [32, 70, 82, 79, 77, 32] ++ s1).length ≤ 3000000000 := by simp; omega
 obtain ⟨o1, ho1⟩ : ∃ o, o = [83, 69, 76, 69, 67, 84, 32] ++ rI ++ [32, 70, 82, 79, 77, 32] ++ s1 := ⟨_, rfl⟩
 rw [← ho1] at bo ⊢
 have HO1 := Lib.hid ho1
 clear ho1
 clear q22 q23 r0 r1 ltA lgA m1 m2 m3
 have q23 := boxR HX1.out 23 (.slice (some ⟨g2, 0, none⟩) 2 c2) (by rw [HL.out]; rfl)
 have q24 := boxR HX1.out 24 _ (by rw [HL.out]; rfl)
 have q25 := boxR HX1.out 25 _ (by rw [HL.out]; rfl)
 have q26 := boxR HX1.out 26 _ (by rw [HL.out]; rfl)
 have q27 := boxR HX1.out 27 _ (by rw [HL.out]; rfl)
 have q28 := boxR HX1.out 28 _ (by rw [HL.out]; rfl)
 have q29 := boxR HX1.out 29 _ (by rw [HL.out]; rfl)
 have q30 := boxR HX1.out 30 _ (by rw [HL.out]; rfl)
 have q31 := boxR HX1.out 31 _ (by rw [HL.out]; rfl)
 have q32 := boxR HX1.out 32 _ (by rw [HL.out]; rfl)
 have q33 := boxR HX1.out 33 _ (by rw [HL.out]; rfl)
 have lt1 := World.block_lt_of_cell? _ _ q24
 have lg1 : g2 < W1.heap.size := by have := (box2 HX1.out).size; omega
 have r2 : W1.cell? ⟨g2, 2, none⟩ = some (bs a2) := Xk.ext_cell (box2 HX1.out) (HR.out 2 _ rfl)
 have r3 : W1.cell? ⟨g2, 3, none⟩ = some (bs b2) := Xk.ext_cell (box2 HX1.out) (HR.out 3 _ rfl)
 have m1 : ¬ 9223372036854775807 < 6 + s2.length := by omega
 have m2 : ¬ 9223372036854775807 < 6 + s2.length + 4 := by omega
 have m3 : ¬ 9223372036854775807 < 6 + s2.length + 4 + tj.length := by omega
 have m4 : ¬ 9223372036854775807 < o1.length + (6 + s2.length + 4 + tj.length) := by omega
 go_wp2_with fail
 refine Xk.wp_region_rel' 14 [] trivial (by kernel_rfl) (by kernel_rfl) ?_
 simp only [List.take_succ_cons, List.take_zero, List.drop_succ_cons, List.drop_zero]
 repeat (first
  | (refine Xk.rel_det (Xk.wanted_none (by rfl)) (by rfl) (fun K hK => ?_); apply Exists.intro; refine ⟨fun p hp => ?_, ?_⟩; (go_simp; first | exact ⟨rfl, rfl⟩ | ((try refine ⟨by kernel_rfl, ?_⟩); (first | (go_at_call 51; ((with_reducible refine (HJ.out _ (Xk.Ext.trans (box2 HX1.out) Xk.xt)).mono ?_); exact fun e w' h => h)) | (go_at_call 120; ((with_reducible refine (HS2.out _ (Xk.Ext.trans (box2 HX1.out) Xk.xt)).mono ?_); exact fun e w' h => h))))); (go_simp; refine hK _ ?_; clear hK K))
  | (refine Xk.rel_skip (by rfl) (fun K hK => ?_); go_simp; refine hK _ ?_; clear hK K)
  | (refine Xk.rel_det (by rfl) (by rfl) (fun K hK => ?_); apply Exists.intro; refine ⟨fun p hp => ?_, ?_⟩; (go_simp; first | exact ⟨rfl, rfl⟩ | ((try refine ⟨by kernel_rfl, ?_⟩); (first | (go_at_call 51; ((with_reducible refine (HJ.out _ (Xk.Ext.trans (box2 HX1.out) Xk.xt)).mono ?_); exact fun e w' h => h)) | (go_at_call 120; ((with_reducible refine (HS2.out _ (Xk.Ext.trans (box2 HX1.out) Xk.xt)).mono ?_); exact fun e w' h => h))))); (go_simp; refine hK _ ?_; clear hK K)))
 refine Xk.rel_nil (fun p _ => ?_)
 obtain ⟨W2, hW2⟩ : ∃ W', W' = Xk.exw W1.drew p := ⟨_, rfl⟩
 have hx2 : Xk.Ext W1 W2 := by rw [hW2]; exact Xk.xt
 rw [← hW2]
 clear hW2
 have HX2 := Lib.hid (Xk.Ext.trans HX1.out hx2)
 clear hx2
 rw [show (⟨o1.toArray⟩ ++ (⟨#[32, 74, 79, 73, 78, 32]⟩ ++ ⟨s2.toArray⟩ ++ ⟨#[32, 79, 78, 32]⟩ ++ ⟨tj.toArray⟩) : ByteArray) = ⟨(o1 ++ ([32, 74, 79, 73, 78, 32] ++ s2 ++ [32, 79, 78, 32] ++ tj)).toArray⟩ by apply bytes_eq; simp]
 have bo2 : (o1 ++ ([32, 74, 79, 73, 78, 32] ++ s2 ++ [32, 79, 78, 32] ++ tj)).length ≤ 6000000000 := by simp; omega
 obtain ⟨o2, ho2⟩ : ∃ o, o = o1 ++ ([32, 74, 79, 73, 78, 32] ++ s2 ++ [32, 79, 78, 32] ++ tj) := ⟨_, rfl⟩
 rw [← ho2] at bo2 ⊢
 have HO2 := Lib.hid ho2
 clear ho2
 clear r2 r3 m1 m2 m3 m4 lg1 lt1 bo q24 q25 q26 q27 q28 q29 q30 q31 q32 q33
 clear q23
 have HRW := Lib.hid (boxRange HX2.out 12 _ (ten_cells (m := (exprL kdw opw vkw viw vsw tbw nnw (.slice qw mw dw))) rfl (by rw [HL.out]; rfl) (by rw [HL.out]; rfl) (by rw [HL.out]; rfl) (by rw [HL.out]; rfl) (by rw [HL.out]; rfl) (by rw [HL.out]; rfl) (by rw [HL.out]; rfl) (by rw [HL.out]; rfl) (by rw [HL.out]; rfl) (by rw [HL.out]; rfl)))
 go_wp2_with (refine wpList_load_mid rfl 35 _ rfl w.heap.size 12 rfl _ _ HRW.out Tryz.underlying35 rfl (by kernel_rfl) ?_)
 refine (HW.out _ (box2 HX2.out)).mono ?_
 rintro e w3 ⟨rfl, hx3⟩
 have HX3 := Lib.hid (Xk.Ext.trans HX2.out hx3)
 clear hx3
 have q34 := boxR HX3.out 34 (.slice p3 n3 c3) (by rw [HL.out]; rfl)
 by_cases hn3 : n3 = 0
 ·have y3 : ¬ (0 < n3) := by omega
  have z0 : ¬ ((0 : Int) < (n3 : Int)) := by omega
  have HN3 := Lib.hid hn3
  clear hn3
  have q35 := boxR HX3.out 35 (.slice p4 n4 c4) (by rw [HL.out]; rfl)
  by_cases hn4 : n4 = 0
  ·have y4 : ¬ (0 < n4) := by omega
   have z4 : ¬ ((0 : Int) < (n4 : Int)) := by omega
   have HN4 := Lib.hid hn4
   clear hn4
   have q36 := boxR HX3.out 36 (.int .i64 lim) (by rw [HL.out]; rfl)
   by_cases hl : lim < 0
   ·have HLM := Lib.hid hl
    have z3 : ¬ (0 ≤ lim) := by omega
    go_wp2_with fail
    go_ret
    refine ⟨?_, box2 HX3.out⟩
    skip
    exact congrArg (fun x => Ending.returned (.string x)) (by rw [HRS.out]; apply bytes_eq; simp [HN3.out, HN4.out, HO2.out, HLM.out, HO1.out])
   ·have HLM := Lib.hid hl
    have z3 : 0 ≤ lim := by omega
    have bl := itoa_len (n := lim) (by omega) (by omega)
    go_wp2_with fail
    refine (format_any lim (by omega) h1 _ (HE.out.ext (box2 HX3.out))).mono ?_
    rintro e w9 ⟨rfl, hx9⟩
    go_wp2_with fail
    go_ret
    refine ⟨?_, Xk.Ext.trans (box2 HX3.out) hx9⟩
    skip
    exact congrArg (fun x => Ending.returned (.string x)) (by rw [HRS.out]; apply bytes_eq; simp [HN3.out, HN4.out, HO2.out, HLM.out, HO1.out])
  ·have y4 : 0 < n4 := by omega
   have z4 : (0 : Int) < (n4 : Int) := by omega
   go_wp2_with fail
   refine (HO.out hn4 _ (box2 HX3.out)).mono ?_
   rintro e w5 ⟨rfl, hx5⟩
   have HX5 := Lib.hid (Xk.Ext.trans HX3.out hx5)
   clear hx5 q35
   have HN4 := Lib.hid hn4
   clear hn4
   have q36 := boxR HX5.out 36 (.int .i64 lim) (by rw [HL.out]; rfl)
   by_cases hl : lim < 0
   ·have HLM := Lib.hid hl
    have z3 : ¬ (0 ≤ lim) := by omega
    go_wp2_with fail
    go_ret
    refine ⟨?_, box2 HX5.out⟩
    skip
    exact congrArg (fun x => Ending.returned (.string x)) (by rw [HRS.out]; apply bytes_eq; simp [HN3.out, HN4.out, HO2.out, HLM.out, HO1.out])
   ·have HLM := Lib.hid hl
    have z3 : 0 ≤ lim := by omega
    have bl := itoa_len (n := lim) (by omega) (by omega)
    go_wp2_with fail
    refine (format_any lim (by omega) h1 _ (HE.out.ext (box2 HX5.out))).mono ?_
    rintro e w9 ⟨rfl, hx9⟩
    go_wp2_with fail
    go_ret
    refine ⟨?_, Xk.Ext.trans (box2 HX5.out) hx9⟩
    skip
    exact congrArg (fun x => Ending.returned (.string x)) (by rw [HRS.out]; apply bytes_eq; simp [HN3.out, HN4.out, HO2.out, HLM.out, HO1.out])
 ·have y3 : 0 < n3 := by omega
  have z0 : (0 : Int) < (n3 : Int) := by omega
  go_wp2_with fail
  refine (HG.out hn3 _ (box2 HX3.out)).mono ?_
  rintro e w4 ⟨rfl, hx4⟩
  have HX4 := Lib.hid (Xk.Ext.trans HX3.out hx4)
  clear hx4 q34
  have HN3 := Lib.hid hn3
  clear hn3
  have q35 := boxR HX4.out 35 (.slice p4 n4 c4) (by rw [HL.out]; rfl)
  by_cases hn4 : n4 = 0
  ·have y4 : ¬ (0 < n4) := by omega
   have z4 : ¬ ((0 : Int) < (n4 : Int)) := by omega
   have HN4 := Lib.hid hn4
   clear hn4
   have q36 := boxR HX4.out 36 (.int .i64 lim) (by rw [HL.out]; rfl)
   by_cases hl : lim < 0
   ·have HLM := Lib.hid hl
    have z3 : ¬ (0 ≤ lim) := by omega
    go_wp2_with fail
    go_ret
    refine ⟨?_, box2 HX4.out⟩
    skip
    exact congrArg (fun x => Ending.returned (.string x)) (by rw [HRS.out]; apply bytes_eq; simp [HN3.out, HN4.out, HO2.out, HLM.out, HO1.out])
   ·have HLM := Lib.hid hl
    have z3 : 0 ≤ lim := by omega
    have bl := itoa_len (n := lim) (by omega) (by omega)
    go_wp2_with fail
    refine (format_any lim (by omega) h1 _ (HE.out.ext (box2 HX4.out))).mono ?_
    rintro e w9 ⟨rfl, hx9⟩
    go_wp2_with fail
    go_ret
    refine ⟨?_, Xk.Ext.trans (box2 HX4.out) hx9⟩
    skip
    exact congrArg (fun x => Ending.returned (.string x)) (by rw [HRS.out]; apply bytes_eq; simp [HN3.out, HN4.out, HO2.out, HLM.out, HO1.out])
  ·have y4 : 0 < n4 := by omega
   have z4 : (0 : Int) < (n4 : Int) := by omega
   go_wp2_with fail
   refine (HO.out hn4 _ (box2 HX4.out)).mono ?_
   rintro e w5 ⟨rfl, hx5⟩
   have HX5 := Lib.hid (Xk.Ext.trans HX4.out hx5)
   clear hx5 q35
   have HN4 := Lib.hid hn4
   clear hn4
   have q36 := boxR HX5.out 36 (.int .i64 lim) (by rw [HL.out]; rfl)
   by_cases hl : lim < 0
   ·have HLM := Lib.hid hl
    have z3 : ¬ (0 ≤ lim) := by omega
    go_wp2_with fail
    go_ret
    refine ⟨?_, box2 HX5.out⟩
    skip
    exact congrArg (fun x => Ending.returned (.string x)) (by rw [HRS.out]; apply bytes_eq; simp [HN3.out, HN4.out, HO2.out, HLM.out, HO1.out])
   ·have HLM := Lib.hid hl
    have z3 : 0 ≤ lim := by omega
    have bl := itoa_len (n := lim) (by omega) (by omega)
    go_wp2_with fail
    refine (format_any lim (by omega) h1 _ (HE.out.ext (box2 HX5.out))).mono ?_
    rintro e w9 ⟨rfl, hx9⟩
    go_wp2_with fail
    go_ret
    refine ⟨?_, Xk.Ext.trans (box2 HX5.out) hx9⟩
    skip
    exact congrArg (fun x => Ending.returned (.string x)) (by rw [HRS.out]; apply bytes_eq; simp [HN3.out, HN4.out, HO2.out, HLM.out, HO1.out])
theorem print_sel (kind : Int) (lim : Int) (hkd : kind = 8) (p1 p2 p3 p4 : Option Addr) (n1 c1 n2 c2 n3 c3 n4 c4 : Nat) (kdw opw vkw viw : Int) (vsw tbw nnw : P12.T) (qw : Option Addr) (mw dw : Nat) (kdj opj vkj vij : Int) (vsj tbj nnj : P12.T) (qj : Option Addr) (mj dj : Nat) (l : List Value) (hl : l = stmtL kind [] nilS nilS nilS nilS [] [] false nilS nilS nilS (exprL kdw opw vkw viw vsw tbw nnw (.slice qw mw dw)) (.slice p1 n1 c1) (.slice p2 n2 c2) (exprL kdj opj vkj vij vsj tbj nnj (.slice qj mj dj)) (.slice p3 n3 c3) (.slice p4 n4 c4) lim) (w : World)
  (tq : P12.T) (btq : tq.length ≤ 8000000000)
  (hQ : ∀ W, Xk.Ext w W → Calls Tryz.prog 55 #[.agg l.toArray] W fun r w' => r = .returned (bs tq) ∧ Xk.Ext W w')
  (hIs : ∀ W, Xk.Ext w W → Calls Tryz.prog 14 #[.agg l.toArray] W fun e w' => e = .returned (.bool true) ∧ Xk.Ext W w') :
  Calls Tryz.prog 15 #[.agg l.toArray] w fun r w' => r = .returned (.tuple #[bs (tq), .int .i64 0]) ∧ Xk.Ext w w' := by
 have HQ := Lib.hid hQ
 have hn1 : (kind == 1) = false := by subst hkd; rfl
 have hn2 : (kind == 2) = false := by subst hkd; rfl
 have hn3 : (kind == 3) = false := by subst hkd; rfl
 have hn4 : (kind == 4) = false := by subst hkd; rfl
 have hn5 : (kind == 5) = false := by subst hkd; rfl
 have hn6 : (kind == 6) = false := by subst hkd; rfl
 have hn7 : (kind == 7) = false := by subst hkd; rfl
 have hn8 : (kind == 8) = true := by subst hkd; rfl
 clear hkd
 have HIs := Lib.hid hIs
 have hlen : l.length = 37 := by rw [hl]; rfl
 have HSZ : Hid ((Tryz.prog.info? 40).map (·.size) = some l.toArray.size) := Lib.hid (by rw [List.size_toArray, hlen]; kernel_rfl)
 have HL := Lib.hid hl
 have hga := heap_new w (.cells l.toArray 40)
 clear hl hlen hIs hQ
 obtain ⟨RS, hRS⟩ : ∃ R : P12.T, R = (tq) := ⟨_, rfl⟩
 rw [← hRS]
 have HRS := Lib.hid hRS
 clear hRS
 go_enter Tryz.func15, Tryz.ntmps15
 go_wp2_with (refine wpList_loadRow rfl 40 _ rfl w.heap.size _ 40 (0, 0) _ rfl hga Tryz.underlying40 rfl HSZ.out ?_)
 refine (HIs.out _ (boxX _ _)).mono ?_
 rintro e w1 ⟨rfl, hx1⟩
 have HX1 := Lib.hid hx1
 have lt1 := box_big hx1
 have kc := boxR hx1 0 (.int .i64 kind) (by rw [HL.out]; rfl)
 clear hx1 hga
 have q9 := boxR HX1.out 9 (nilS) (by rw [HL.out]; rfl)
 have hb2 := boxRow HX1.out
 go_wp2_with (refine wpList_loadRow rfl 40 _ rfl w.heap.size _ 40 (0, 0) _ rfl hb2 Tryz.underlying40 rfl HSZ.out ?_)
 refine (HQ.out _ (box2 HX1.out)).mono ?_
 rintro e w2 ⟨rfl, hx2⟩
 go_wp2_with fail
 go_ret2
 refine ⟨?_, Xk.Ext.trans (box2 HX1.out) hx2⟩
 rw [HRS.out]; rfl
end Go.Proofs.YtkpmclddjkebeaaGreatDoor
namespace P12
theorem join_cons (a b : T) (l : List T) : join (a :: b :: l) = a ++ [44, 32] ++ join (b :: l) := by simp [join, Go.Lib.join, List.intercalate, List.intersperse]
theorem join_one (a : T) : join [a] = a := by simp [join, Go.Lib.join, List.intercalate]
theorem join_mem : ∀ {l : List T} {a : T}, a ∈ l → a.length ≤ (join l).length
 | [b], a, h => by simp only [List.mem_singleton] at h; subst h; rw [join_one]; exact Nat.le_refl _
 | b :: c :: l, a, h => by
  rw [join_cons]
  simp only [List.length_append]
  rcases List.mem_cons.1 h with rfl | h
  ·omega
  ·have := join_mem h; omega
theorem join_map {α : Type} {l : List α} {f : α → T} {x : α} (h : x ∈ l) {n : Nat} (hn : (join (l.map f)).length ≤ n) : (f x).length ≤ n := Nat.le_trans (join_mem (List.mem_map_of_mem h)) hn
theorem itemText_len (x : Bool × E × T) (h : x.1 = false) : (text x.2.1).length ≤ (itemText x).length ∧ (x.2.2 ≠ [] → x.2.2.length ≤ (itemText x).length) := by
 unfold itemText
 rw [if_neg (by rw [h]; simp)]
 split
 ·exact ⟨Nat.le_refl _, fun h2 => absurd ‹_› h2⟩
 ·exact ⟨by simp only [List.length_append, List.length_cons, List.length_nil]; omega, fun _ => by simp only [List.length_append, List.length_cons, List.length_nil]; omega⟩
theorem ordText_len (o : E × Bool) : (text o.1).length ≤ (ordText o).length := by
 unfold ordText; split
 ·simp
 ·exact Nat.le_refl _
theorem srcText_len (s : T × T) : s.1.length ≤ (srcText s).length ∧ (s.2 ≠ [] → s.2.length ≤ (srcText s).length) := by
 unfold srcText; split
 ·exact ⟨Nat.le_refl _, fun h => absurd ‹_› h⟩
 ·exact ⟨by simp only [List.length_append, List.length_cons, List.length_nil]; omega, fun _ => by simp only [List.length_append, List.length_cons, List.length_nil]; omega⟩
theorem whereText_len {e : E} (h : noE e = false) : (text e).length ≤ (whereText e).length := by
 unfold whereText; rw [if_neg (by rw [h]; simp)]; simp only [List.length_append, List.length_cons, List.length_nil]; omega
end P12
namespace Go.Proofs.YtkpmclddjkebeaaGreatDoor
open Go.RowKit
theorem text_at {S : Nat → Prop} {w W : World} {e : P12.E} {l : List Value} (hE : Env w) (h : ExprAt S w e l) (hi : P12.isE e = true) (hb : (P12.text e).length ≤ 1000000) (hx : Xk.Ext w W) : Calls Tryz.prog 51 #[.agg l.toArray] W fun r w' => r = .returned (bs (P12.text e)) ∧ Xk.Ext W w' :=
 textE_any e hi hb S W l (hE.ext hx) (h.extS hx)
theorem where_at {S : Nat → Prop} {w W : World} {e : P12.E} {l : List Value} (hE : Env w) (h : ExprAt S w e l) (hm : P12.maybeE e = true) (hb : (P12.whereText e).length ≤ 1000000) (hx : Xk.Ext w W) : Calls Tryz.prog 54 #[.agg l.toArray] W fun r w' => r = .returned (bs (P12.whereText e)) ∧ Xk.Ext W w' := by
 cases hn : P12.noE e
 ·have hi : P12.isE e = true := by simpa [P12.maybeE, hn] using hm
  have hl := P12.whereText_len hn
  have hT := fun W2 (hx2 : Xk.Ext W W2) => text_at (W := W2) hE h hi (by omega) (Xk.Ext.trans hx hx2)
  obtain ⟨kd, op, vk, vi, vs, tb, nm, pp, pm, pc, rfl, hk⟩ := h.kind hi
  have := where_some kd op vk vi vs tb nm pp pm pc hk (P12.text e) (by omega) W hT
  unfold P12.whereText
  rw [hn]
  exact this
 ·cases e <;> first | cases hn | skip
  unfold ExprAt at h
  subst h
  exact where_none W
theorem exprs_row {S : Nat → Prop} {w W : World} {l : List P12.E} {v : Value} (hE : Env w) (h : SlcAt S w 10 (exprR S w) l v) (hl : l.length ≤ 16) (hi : ∀ x ∈ l, P12.isE x = true) (hj : (P12.join (l.map P12.text)).length ≤ 1000000) (hx : Xk.Ext w W) :
  Calls Tryz.prog 50 #[v, .func (.func 51) #[] #[]] W fun r w' => r = .returned (bs (P12.join (l.map P12.text))) ∧ Xk.Ext W w' :=
 rowExpr ent_text P12.text W (h.ext1 hx) (by omega) (by omega) (fun x u _ hu => ExprAt.form hu) (fun x _ _ _ _ _ _ _ _ _ _ hm hu W' hx' => text_at hE hu (hi x hm) (P12.join_map hm hj) (Xk.Ext.trans hx hx'))
theorem items_row {S : Nat → Prop} {w W : World} {l : List (Bool × P12.E × P12.T)} {v : Value} (hE : Env w) (h : SlcAt S w 12 (itemR S w) l v) (hl : l.length ≤ 16) (hi : ∀ x ∈ l, P12.itemOk x = true) (hj : (P12.join (l.map P12.itemText)).length ≤ 1000000) (hx : Xk.Ext w W) :
  Calls Tryz.prog 118 #[v, .func (.func 119) #[] #[]] W fun r w' => r = .returned (bs (P12.join (l.map P12.itemText))) ∧ Xk.Ext W w' :=
 rowItem ent_pitem P12.itemText W (h.ext1 hx) (by omega) (by omega) (fun x u _ hu => by
  obtain ⟨l, rfl, hl⟩ := hu
  obtain ⟨kd, op, vk, vi, vs, tb, nm, pp, pm, pc, rfl⟩ := hl.form
  exact ⟨x.1, kd, op, vk, vi, vs, tb, nm, pp, pm, pc, x.2.2, rfl⟩) (fun x b kd op vk vi vs tb nm pp pm pc a hm hu W' hx' => by
  obtain ⟨l, e, hl⟩ := hu
  have e1 : b = x.1 := bool_of (by injection e)
  have e3 : exprL kd op vk vi vs tb nm (.slice pp pm pc) ++ [bs a] = l ++ [bs x.2.2] := by
   have h := congrArg (List.drop 1) e
   exact h
  obtain ⟨e2, e4⟩ := List.append_inj' e3 rfl
  have e5 : bs a = bs x.2.2 := by injection e4
  subst e2
  have hp := hi x hm
  have hlen := P12.join_map hm hj
  have hl2 := P12.itemText_len x
  obtain ⟨xb, xe, xn⟩ := x
  simp only at e1 e5 hl hp hl2
  subst e1
  rw [e5]
  cases b
  ·simp only [P12.itemOk, Bool.false_eq_true, if_false, Bool.and_eq_true] at hp
   obtain ⟨h1, h2⟩ := hl2 rfl
   have hT := fun W2 (hx2 : Xk.Ext W' W2) => text_at (W := W2) hE hl hp.1 (by omega) (Xk.Ext.trans (Xk.Ext.trans hx hx') hx2)
   by_cases hn : xn = []
   ·subst hn
    have := item_bare kd op vk vi vs tb nm pp pm pc (P12.text xe) (by omega) W' hT
    exact this
   ·have := item_as xn (by have := h2 hn; omega) hn kd op vk vi vs tb nm pp pm pc (P12.text xe) (by omega) W' hT
    unfold P12.itemText
    rw [if_neg (by simp), if_neg hn]
    exact this
  ·simp only [P12.itemOk, if_true, Bool.and_eq_true, beq_iff_eq] at hp
   obtain ⟨hp1, rfl⟩ := hp
   cases xe <;> first | cases hp1 | skip
   unfold ExprAt at hl
   rw [hl]
   exact item_star W')
theorem ords_row {S : Nat → Prop} {w W : World} {l : List (P12.E × Bool)} {v : Value} (hE : Env w) (h : SlcAt S w 11 (ordR S w) l v) (hl : l.length ≤ 16) (hi : ∀ x ∈ l, P12.isE x.1 = true) (hj : (P12.join (l.map P12.ordText)).length ≤ 1000000) (hx : Xk.Ext w W) :
  Calls Tryz.prog 121 #[v, .func (.func 122) #[] #[]] W fun r w' => r = .returned (bs (P12.join (l.map P12.ordText))) ∧ Xk.Ext W w' := by
 refine rowOrd ent_qord P12.ordText W (h.ext1 hx) (by omega) (by omega) (fun x u _ hu => by
  obtain ⟨l, rfl, hl⟩ := hu
  obtain ⟨kd, op, vk, vi, vs, tb, nm, pp, pm, pc, rfl⟩ := hl.form
  exact ⟨kd, op, vk, vi, vs, tb, nm, pp, pm, pc, x.2, rfl⟩) (fun x kd op vk vi vs tb nm pp pm pc b hm hu W' hx' => ?_)
 obtain ⟨l, e, hl⟩ := hu
 obtain ⟨e2, e3⟩ := List.append_inj' e rfl
 subst e2
 have e4 : b = x.2 := bool_of (by injection e3)
 have hlen := P12.join_map hm hj
 have hl2 := P12.ordText_len x
 have hT := fun W2 (hx2 : Xk.Ext W' W2) => text_at (W := W2) hE hl (hi x hm) (by omega) (Xk.Ext.trans (Xk.Ext.trans hx hx') hx2)
 obtain ⟨xe, xb⟩ := x
 simp only at e4 hl2
 subst e4
 cases b
 ·exact ord_asc kd op vk vi vs tb nm pp pm pc (P12.text xe) (by omega) W' hT
 ·exact ord_desc kd op vk vi vs tb nm pp pm pc (P12.text xe) (by omega) W' hT
theorem source_at (s : P12.T × P12.T) (hb : (P12.srcText s).length ≤ 1000000) (W : World) : Calls Tryz.prog 120 #[.agg #[bs s.1, bs s.2]] W fun r w' => r = .returned (bs (P12.srcText s)) ∧ Xk.Ext W w' := by
 obtain ⟨h1, h2⟩ := P12.srcText_len s
 obtain ⟨a, b⟩ := s
 by_cases hn : b = []
 ·subst hn
  exact source_one a W
 ·have := source_two a b (by simp only at h1; omega) (by have := h2 hn; simp only at this; omega) hn W
  unfold P12.srcText
  rw [if_neg hn]
  exact this
theorem query_at {S : Nat → Prop} {w : World} {x : P12.St} {l : List Value} (hk : x.kind = 8) (hx : x = P12.keptOf x) (ho : P12.selOk x = true) (hE : Env w) (h : StmtIn S w x l) (hb : (P12.selText x).length ≤ 1000000) (W : World) (hxW : Xk.Ext w W) :
  Calls Tryz.prog 55 #[.agg l.toArray] W fun r w' => r = .returned (bs (P12.selText x)) ∧ Xk.Ext W w' := by
 have h := h.keep (S' := S) (w' := W) (fun b _ hl => hxW.block b hl) (fun b hb _ => hb)
 have hE := hE.ext hxW
 obtain ⟨tc, tk, tq, kc, cols, rows, sets, wh, items, frm, jn, grp, ord, h⟩ := h
 have hl := form_8 h hx hk
 simp only [P12.selOk, Bool.and_eq_true, decide_eq_true_eq] at ho
 obtain ⟨⟨⟨⟨⟨⟨⟨⟨⟨a1, a2⟩, a3⟩, a4⟩, a5⟩, a6⟩, a7⟩, a8⟩, a9⟩, a10⟩ := ho
 obtain ⟨b1, b1'⟩ := some_parts a1
 obtain ⟨b2, b2'⟩ := some_parts a2
 have a6' := List.all_eq_true.1 a6
 have a8' := List.all_eq_true.1 a8
 have hgE : ∀ e ∈ x.group, P12.isE e = true := fun e he => by
  have := a6' e he
  cases e <;> first | cases this | exact this
 have lI : (P12.join (x.items.map P12.itemText)).length ≤ 1000000 := by unfold P12.selText at hb; simp only [List.length_append] at hb; omega
 have lW : (P12.whereText x.wher).length ≤ 1000000 := by unfold P12.selText at hb; simp only [List.length_append] at hb; omega
 have lG : x.group ≠ [] → (P12.join (x.group.map P12.text)).length ≤ 1000000 := fun hn => by unfold P12.selText at hb; rw [if_neg hn] at hb; simp only [List.length_append] at hb; omega
 have lO : x.order ≠ [] → (P12.join (x.order.map P12.ordText)).length ≤ 1000000 := fun hn => by unfold P12.selText at hb; rw [if_neg hn (c := x.order = [])] at hb; simp only [List.length_append] at hb; omega
 have lS : (P12.srcText (x.frm.headD ([], []))).length ≤ 1000000 := by unfold P12.selText at hb; simp only [List.length_append] at hb; omega
 have e1 := fun W2 hx' => items_row (W := W2) hE h.items b1.2 b1' lI hx'
 have e3 := fun W2 hx' => where_at (W := W2) hE h.wh a3 lW hx'
 have e5 := fun W2 hx' hn => exprs_row (W := W2) hE h.grp a5 hgE (lG hn) hx'
 have e6 := fun W2 hx' hn => ords_row (W := W2) hE h.ord a7 (fun o ho => a8' o ho) (lO hn) hx'
 have hfr := h.frm
 obtain ⟨p1, c1, rfl⟩ := h.items.len
 obtain ⟨p2, c2, rfl⟩ := h.frm.len
 obtain ⟨p3, c3, rfl⟩ := h.grp.len
 obtain ⟨p4, c4, rfl⟩ := h.ord.len
 obtain ⟨kw, ow, vkw, viw, vsw, tbw, nmw, qw, mw, dw, rfl⟩ := h.wh.form
 have hgl : ∀ {α : Type} {l : List α}, l.length ≠ 0 → l ≠ [] := fun h e => h (by rw [e]; rfl)
 have hifg : (if x.group.length = 0 then ([] : P12.T) else [32, 71, 82, 79, 85, 80, 32, 66, 89, 32] ++ P12.join (x.group.map P12.text)) = (if x.group = [] then [] else [32, 71, 82, 79, 85, 80, 32, 66, 89, 32] ++ P12.join (x.group.map P12.text)) := by
  cases x.group <;> rfl
 have hifo : (if x.order.length = 0 then ([] : P12.T) else [32, 79, 82, 68, 69, 82, 32, 66, 89, 32] ++ P12.join (x.order.map P12.ordText)) = (if x.order = [] then [] else [32, 79, 82, 68, 69, 82, 32, 66, 89, 32] ++ P12.join (x.order.map P12.ordText)) := by
  cases x.order <;> rfl
 match hf : x.frm, b2 with
 | [s], _ =>
  rw [hf] at hfr hl a4 lS
  have hj : x.join = .none := by
   rw [if_neg (by simp)] at a4
   cases hj2 : x.join <;> rw [hj2] at a4 <;> first | rfl | cases a4
  have hjn := h.jn.zero hj
  subst hjn
  obtain ⟨g, u, rfl, hu, hr⟩ := slc_elem hfr (j := 0) (by simp)
  have hu' : u = [bs s.1, bs s.2] := hu
  subst hu'
  rw [Nat.zero_mul] at hr
  have e2 := fun W2 (_ : Xk.Ext W W2) => source_at s lS W2
  by_cases hgz : x.group.length = 0 <;> by_cases hoz : x.order.length = 0
  all_goals
   have := query_one _ _ a9 a10 p1 p3 p4 g _ c1 c2 _ c3 _ c4 s.1 s.2 kw ow vkw viw vsw tbw nmw qw mw dw l hl W hE (P12.join (x.items.map P12.itemText)) (P12.srcText s) (P12.whereText x.wher) (if x.group.length = 0 then [] else P12.join (x.group.map P12.text)) (if x.order.length = 0 then [] else P12.join (x.order.map P12.ordText)) (by omega) (by simp only [List.headD_cons] at lS; omega) (by omega)
    (by first | (rw [if_pos hgz]; simp) | (rw [if_neg hgz]; have := lG (hgl hgz); omega)) (by first | (rw [if_pos hoz]; simp) | (rw [if_neg hoz]; have := lO (hgl hoz); omega)) hr e1 e2 e3
    (fun hn W2 hx' => by rw [if_neg hn]; exact e5 W2 hx' (hgl hn)) (fun hn W2 hx' => by rw [if_neg hn]; exact e6 W2 hx' (hgl hn))
   refine this.mono ?_
   rintro r w' ⟨rfl, hw⟩
   refine ⟨congrArg (fun t => Ending.returned (bs t)) ?_, hw⟩
   unfold P12.selText
   rw [← hifg, ← hifo, hf]
   simp [hgz, hoz]
 | [s, s'], _ =>
  rw [hf] at hfr hl a4 lS
  rw [if_pos (by simp)] at a4
  have lS2 : (P12.srcText s').length ≤ 1000000 := by unfold P12.selText at hb; rw [hf, if_neg (by simp)] at hb; simp only [List.length_append, List.tail_cons, List.headD_cons] at hb; omega
  have lJ : (P12.text x.join).length ≤ 1000000 := by unfold P12.selText at hb; rw [hf, if_neg (by simp)] at hb; simp only [List.length_append, List.tail_cons, List.headD_cons] at hb; omega
  have e4 := fun W2 hx' => text_at (W := W2) hE h.jn a4 lJ hx'
  obtain ⟨kj, oj, vkj, vij, vsj, tbj, nmj, qj, mj, dj, rfl⟩ := h.jn.form
  obtain ⟨g, u, hp, hu, hr⟩ := slc_elem hfr (j := 0) (by simp)
  obtain ⟨g', u', hp', hu', hr'⟩ := slc_elem hfr (j := 1) (by simp)
  subst hp
  cases hp'
  have hu1 : u = [bs s.1, bs s.2] := hu
  have hu2 : u' = [bs s'.1, bs s'.2] := hu'
  subst hu1 hu2
  have hrr : W.rangeAt g 0 [bs s.1, bs s.2, bs s'.1, bs s'.2] := fun j v hj => by
   match j, hj with
   | 0, hj => simpa using hr 0 v hj
   | 1, hj => simpa using hr 1 v hj
   | 2, hj => simpa using hr' 0 v hj
   | 3, hj => simpa using hr' 1 v hj
  have e2 := fun W2 (_ : Xk.Ext W W2) => source_at s lS W2
  have e2' := fun W2 (_ : Xk.Ext W W2) => source_at s' lS2 W2
  by_cases hgz : x.group.length = 0 <;> by_cases hoz : x.order.length = 0
  all_goals
   have := query_two _ _ a9 a10 p1 p3 p4 g _ c1 c2 _ c3 _ c4 s.1 s.2 s'.1 s'.2 kw ow vkw viw vsw tbw nmw qw mw dw kj oj vkj vij vsj tbj nmj qj mj dj l hl W hE (P12.join (x.items.map P12.itemText)) (P12.srcText s) (P12.whereText x.wher) (if x.group.length = 0 then [] else P12.join (x.group.map P12.text)) (if x.order.length = 0 then [] else P12.join (x.order.map P12.ordText)) (P12.srcText s') (P12.text x.join) (by omega) (by simp only [List.headD_cons] at lS; omega) (by omega)
    (by first | (rw [if_pos hgz]; simp) | (rw [if_neg hgz]; have := lG (hgl hgz); omega)) (by first | (rw [if_pos hoz]; simp) | (rw [if_neg hoz]; have := lO (hgl hoz); omega)) (by omega) (by omega) hrr e1 e2 e2' e4 e3
    (fun hn W2 hx' => by rw [if_neg hn]; exact e5 W2 hx' (hgl hn)) (fun hn W2 hx' => by rw [if_neg hn]; exact e6 W2 hx' (hgl hn))
   refine this.mono ?_
   rintro r w' ⟨rfl, hw⟩
   refine ⟨congrArg (fun t => Ending.returned (bs t)) ?_, hw⟩
   unfold P12.selText
   rw [← hifg, ← hifo, hf]
   simp [hgz, hoz]
theorem stmt_one {S : Nat → Prop} {w : World} {x : P12.St} {l : List Value} (h : StmtIn S w x l) : l.toArray.all (·.oneCell') = true ∧ (Tryz.prog.info? 40).map (·.size) = some l.toArray.size := by
 have hlen := h.length
 refine ⟨?_, by rw [List.size_toArray, hlen]; kernel_rfl⟩
 obtain ⟨tc, tk, tq, kc, cols, rows, sets, wh, items, frm, jn, grp, ord, h⟩ := h
 rw [h.form]
 obtain ⟨p1, c1, rfl⟩ := h.tc.len
 obtain ⟨p2, c2, rfl⟩ := h.tk.len
 obtain ⟨p3, c3, rfl⟩ := h.tq.len
 obtain ⟨p4, c4, rfl⟩ := h.kc.len
 obtain ⟨p5, c5, rfl⟩ := h.cols.len
 obtain ⟨p6, c6, rfl⟩ := h.rows.len
 obtain ⟨p7, c7, rfl⟩ := h.sets.len
 obtain ⟨p8, c8, rfl⟩ := h.items.len
 obtain ⟨p9, c9, rfl⟩ := h.frm.len
 obtain ⟨p10, c10, rfl⟩ := h.grp.len
 obtain ⟨p11, c11, rfl⟩ := h.ord.len
 obtain ⟨k1, o1, vk1, vi1, vs1, tb1, nm1, q1, m1, d1, rfl⟩ := h.wh.form
 obtain ⟨k2, o2, vk2, vi2, vs2, tb2, nm2, q2, m2, d2, rfl⟩ := h.jn.form
 kernel_rfl
theorem StmtIn.at {S : Nat → Prop} {w W : World} {x : P12.St} {l : List Value} (h : StmtIn S w x l) (hx : Xk.Ext w W) : StmtIn S W x l := h.keep (fun b _ hl => hx.block b hl) (fun b hb _ => hb)
theorem printSel_at {S : Nat → Prop} {w : World} {x : P12.St} {l : List Value} (hs : P12.isS x) (hk : x.kind = 8) (hE : Env w) (h : StmtIn S w x l) (hb : (P12.print x).length ≤ 1000000) :
  Calls Tryz.prog 15 #[.agg l.toArray] w fun r w' => r = .returned (.tuple #[bs (P12.print x), .int .i64 0]) ∧ Xk.Ext w w' := by
 have hp : P12.print x = P12.selText x := by unfold P12.print; rw [if_neg (by omega), if_neg (by omega), if_neg (by omega), if_neg (by omega), if_neg (by omega), if_neg (by omega), if_neg (by omega), if_pos hk]
 rw [hp] at hb ⊢
 have hQ := fun W hx => query_at hk hs.1 (sel_ok hs hk) hE h hb W hx
 have hI : ∀ W, Xk.Ext w W → Calls Tryz.prog 14 #[.agg l.toArray] W fun e w' => e = .returned (.bool true) ∧ Xk.Ext W w' := fun W hx => is_k8 x hs hk S W l (h.at hx)
 obtain ⟨tc, tk, tq, kc, cols, rows, sets, wh, items, frm, jn, grp, ord, h⟩ := h
 have hl := form_8 h hs.1 hk
 obtain ⟨p1, c1, rfl⟩ := h.items.len
 obtain ⟨p2, c2, rfl⟩ := h.frm.len
 obtain ⟨p3, c3, rfl⟩ := h.grp.len
 obtain ⟨p4, c4, rfl⟩ := h.ord.len
 obtain ⟨k1, o1, vk1, vi1, vs1, tb1, nm1, q1, m1, d1, rfl⟩ := h.wh.form
 obtain ⟨k2, o2, vk2, vi2, vs2, tb2, nm2, q2, m2, d2, rfl⟩ := h.jn.form
 exact print_sel _ _ hk p1 p2 p3 p4 _ c1 _ c2 _ c3 _ c4 k1 o1 vk1 vi1 vs1 tb1 nm1 q1 m1 d1 k2 o2 vk2 vi2 vs2 tb2 nm2 q2 m2 d2 l hl w (P12.selText x) (by omega) hQ hI
theorem knownS_is : P12.isS P12.knownS := ⟨rfl, .inr (.inr (.inr (.inr (.inr (.inr (.inr (.inl ⟨rfl, by kernel_rfl⟩)))))))⟩
theorem known_12 (w : World) (hE : Env w) (hP : EnvP w) : Calls Tryz.prog 10 #[] w fun e w' => e = .returned (.bool true) ∧ Xk.Ext w w' := by
 have HP1 : Hid (∀ W, Xk.Ext w W → Calls Tryz.prog 11 #[.string ⟨#[115, 101, 108, 101, 99, 116, 32, 97, 46, 120, 43, 49, 32, 97, 115, 32, 121, 32, 102, 114, 111, 109, 32, 116, 32, 97, 32, 119, 104, 101, 114, 101, 32, 110, 111, 116, 32, 120, 32, 61, 32, 39, 98, 39, 32, 108, 105, 109, 105, 116, 32, 51]⟩] W fun e w' => ∃ l, e = .returned (.tuple #[.agg l.toArray, .int .i64 0, .int .i64 0]) ∧ Xk.Ext W w' ∧ StmtIn (fun b => W.heap.size ≤ b) w' P12.knownS l) := Lib.hid fun W hx => by
  have h := parse_any ⟨#[115, 101, 108, 101, 99, 116, 32, 97, 46, 120, 43, 49, 32, 97, 115, 32, 121, 32, 102, 114, 111, 109, 32, 116, 32, 97, 32, 119, 104, 101, 114, 101, 32, 110, 111, 116, 32, 120, 32, 61, 32, 39, 98, 39, 32, 108, 105, 109, 105, 116, 32, 51]⟩ W (hP.ext hx)
  rw [show P12.parse (⟨#[115, 101, 108, 101, 99, 116, 32, 97, 46, 120, 43, 49, 32, 97, 115, 32, 121, 32, 102, 114, 111, 109, 32, 116, 32, 97, 32, 119, 104, 101, 114, 101, 32, 110, 111, 116, 32, 120, 32, 61, 32, 39, 98, 39, 32, 108, 105, 109, 105, 116, 32, 51]⟩ : ByteArray).data.toList = .ok P12.knownS from P12.known1] at h
  exact h.mono fun e w' ⟨hb, l, he, hs⟩ => ⟨l, he, hb, hs⟩
 have HP3 : Hid (∀ W, Xk.Ext w W → Calls Tryz.prog 11 #[.string ⟨#[83, 69, 76, 69, 67, 84, 32, 49, 32, 61, 32, 50, 32, 61, 32, 51, 32, 70, 82, 79, 77, 32, 116]⟩] W fun e w' => ∃ l : List Value, e = .returned (.tuple #[.agg l.toArray, .int .i64 13, .int .i64 120]) ∧ Xk.Ext W w' ∧ l = zero37) := Lib.hid fun W hx => by
  have h := parse_any ⟨#[83, 69, 76, 69, 67, 84, 32, 49, 32, 61, 32, 50, 32, 61, 32, 51, 32, 70, 82, 79, 77, 32, 116]⟩ W (hP.ext hx)
  rw [show P12.parse (⟨#[83, 69, 76, 69, 67, 84, 32, 49, 32, 61, 32, 50, 32, 61, 32, 51, 32, 70, 82, 79, 77, 32, 116]⟩ : ByteArray).data.toList = .error (13, 120) from P12.known3] at h
  exact h.mono fun e w' ⟨hb, he⟩ => ⟨zero37, he, hb, rfl⟩
 have HPR : Hid (∀ (S : Nat → Prop) l W, Xk.Ext w W → StmtIn S W P12.knownS l → Calls Tryz.prog 15 #[.agg l.toArray] W fun r w' => r = .returned (.tuple #[.string ⟨#[83, 69, 76, 69, 67, 84, 32, 97, 46, 120, 32, 43, 32, 49, 32, 65, 83, 32, 121, 32, 70, 82, 79, 77, 32, 116, 32, 97, 32, 87, 72, 69, 82, 69, 32, 78, 79, 84, 32, 40, 120, 32, 61, 32, 39, 98, 39, 41, 32, 76, 73, 77, 73, 84, 32, 51]⟩, .int .i64 0]) ∧ Xk.Ext W w') := Lib.hid fun S l W hx hs => by
  have h := printSel_at knownS_is rfl (hE.ext hx) hs (by rw [P12.known2]; decide)
  rw [P12.known2] at h
  exact h
 clear hE hP
 go_enter Tryz.func10, Tryz.ntmps10
 go_wp2_with fail
 refine (HP1.out _ (Below.refl _ _)).mono ?_
 rintro e w1 ⟨l1, rfl, hx1, hs1⟩
 obtain ⟨h1, h2⟩ := stmt_one hs1
 have hl1 := hs1.length
 have HX1 := Lib.hid hx1
 have HS1 := Lib.hid hs1
 have H1 := Lib.hid h1
 have H2 := Lib.hid h2
 have HL1 := Lib.hid hl1
 clear hx1 hs1 h1 h2 hl1
 go_wp2_with (first | ((refine wpList_putRow rfl 40 _ _ rfl (w1.heap.size) _ _ 40 rfl rfl ((heap_new w1 _)) ((by rw [show l1.toArray.size = 37 by rw [List.size_toArray, HL1.out]]; rfl)) (H2.out) (H1.out) ?_; intro w2 hp2); have hb2 := hp2.blk; have HX2 := Lib.hid (Xk.Ext.trans HX1.out (puts_ext hp2 (boxX w1 _) (Nat.le_refl _))); have HX12 := Lib.hid (puts_ext hp2 (boxX w1 _) (Nat.le_refl _)); clear hp2) | (refine wpList_loadRow rfl 40 _ rfl w1.heap.size _ 40 (0, 0) _ rfl hb2 Tryz.underlying40 rfl H2.out ?_))
 refine (HPR.out _ l1 _ HX2.out (HS1.out.at HX12.out)).mono ?_
 rintro e w3 ⟨rfl, hx3⟩
 have HX3 := Lib.hid (Xk.Ext.trans HX2.out hx3)
 clear hx3 hb2
 go_wp2_with fail
 refine (HP3.out _ HX3.out).mono ?_
 rintro e w4 ⟨l4, rfl, hx4, hl4⟩
 have HX4 := Lib.hid (Xk.Ext.trans HX3.out hx4)
 have G1 : Hid (l4.toArray.all (·.oneCell') = true) := Lib.hid (by rw [hl4]; kernel_rfl)
 have G2 : Hid ((Tryz.prog.info? 40).map (·.size) = some l4.toArray.size) := Lib.hid (by rw [hl4]; kernel_rfl)
 have G3 : Hid (l4.toArray.size = 37) := Lib.hid (by rw [hl4]; rfl)
 clear hx4 hl4
 go_wp2_with ((refine wpList_putRow rfl 40 _ _ rfl (w4.heap.size) _ _ 40 rfl rfl ((heap_new w4 _)) ((by rw [G3.out]; rfl)) (G2.out) (G1.out) ?_; intro w5 hp5))
 go_ret
 exact ⟨rfl, Xk.Ext.trans HX4.out (puts_ext hp5 (boxX w4 _) (Nat.le_refl _))⟩
end Go.Proofs.YtkpmclddjkebeaaGreatDoor
