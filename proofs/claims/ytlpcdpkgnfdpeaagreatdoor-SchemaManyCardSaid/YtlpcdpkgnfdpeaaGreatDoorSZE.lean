/- Walks: pantileref12's sameTexts, sameAll, Same, SameTable and SameStmt, of two that are the same. -/
import Derived.Test.YtlpcdpkgnfdpeaaGreatDoorSI
set_option linter.unusedSimpArgs false
set_option linter.unusedVariables false
set_option maxRecDepth 100000
set_option maxHeartbeats 80000000
namespace Go.Xk
open Go.RowKit
theorem detRun_loadMid {P : Program} {o : Oper} {a : Act} {w : World} (t : TypeId) (x : Operand) (ho : o.op = .load t x) (b off : Nat) (cs : List Value) (d : TypeDesc) (hx : a.eval x = .pointer (some ⟨b, off, none⟩)) (hc : w.rangeAt b off cs)
  (hu : P.underlying t = some d) (hd : d.isRow = true) (hi : (P.info? t).map (·.size) = some cs.length) : detRun P o a w (.agg cs.toArray) := by
 unfold detRun execOp
 simp only [ho, hx, Instr.loadAt, Instr.sureAddr, Sem.run_bind, Sem.run_pure, Result.andThen_ok, run_loadVar_mid (P := P) w b off t cs d hc hu hd hi]
 exact ⟨rfl, rfl⟩
theorem s0 {P Q : Prop} (k : Q) (h : Q → P := by
 intro k
 have KQ := Lib.hid k
 clear k
 try simp only [List.take_succ_cons, List.take_zero, List.drop_succ_cons, List.drop_zero]
 repeat (first
  | (refine Go.Xk.rel_det (Go.Xk.wanted_none (by rfl)) (by rfl) (fun K hK => ?_); apply Exists.intro; refine ⟨fun p hp => ?_, ?_⟩; (go_simp; exact ⟨rfl, rfl⟩); (go_simp; refine hK _ ?_; clear hK K))
  | (refine Go.Xk.rel_skip (by rfl) (fun K hK => ?_); go_simp; refine hK _ ?_; clear hK K)
  | (refine Go.Xk.rel_det (by rfl) (by rfl) (fun K hK => ?_); apply Exists.intro; refine ⟨fun p hp => ?_, ?_⟩; (go_simp; exact ⟨rfl, rfl⟩); (go_simp; refine hK _ ?_; clear hK K)))
 exact KQ.out) : P := h k
theorem ld {P : Program} {ops : Array Oper} {w0 : World} {Ψ : List (Nat × Fct)} {Q : Act → World → Prop} {o : Oper} {r : List Oper} {i : Nat} {a : Act} {F : Facts} (t : TypeId) (b off : Nat) (cs : List Value) {d : TypeDesc} (hu : P.underlying t = some d) (hc : w0.rangeAt b off cs) (hb : b < w0.heap.size) {x : Operand} (k : wpRel P ops w0 Ψ Q r (i + 1) (a.put o.dst (.agg cs.toArray)) F)
  (hg : Region.wanted o (yielded ops a.tmps) = true := by first | exact Go.Xk.wanted_none (by rfl) | rfl) (ho : o.op = .load t x := by rfl) (ht : tells Ψ i = none := by rfl) (hx : a.eval x = .pointer (some ⟨b, off, none⟩) := by rfl) (hd : d.isRow = true := by rfl) (hi : (P.info? t).map (·.size) = some cs.length := by kernel_rfl) : wpRel P ops w0 Ψ Q (o :: r) i a F :=
 rel_det hg ht fun K hK => ⟨.agg cs.toArray, fun p _ => detRun_loadMid t x ho b off cs d hx (fun j v hj => ext_cell (ext_exw w0 p) (hc j v hj)) hu hd hi, hK _ k⟩
theorem dp {P : Program} {f : FuncId} {args : Array Value} {w : World} {v : Value} (h : Calls P f args w fun e w' => e = .returned v ∧ Ext w w') : Calls P f args w (detPost w v) := h
theorem s1 {A P Q : Prop} (a : A) (k : Q) (h : A → Q → P := by
 intro a k
 have AH := Lib.hid a
 have KQ := Lib.hid k
 clear a k
 try simp only [List.take_succ_cons, List.take_zero, List.drop_succ_cons, List.drop_zero]
 repeat (first
  | (refine Go.Xk.rel_det (Go.Xk.wanted_none (by rfl)) (by rfl) (fun K hK => ?_); apply Exists.intro; refine ⟨fun p hp => ?_, ?_⟩; (go_simp; first | exact ⟨rfl, rfl⟩ | ((try refine ⟨by kernel_rfl, ?_⟩); first | (with_reducible exact Go.Xk.dp (AH.out _)) | (with_reducible exact Go.Xk.dp (AH.out _ Go.Xk.xt)))); (go_simp; refine hK _ ?_; clear hK K))
  | (refine Go.Xk.rel_skip (by rfl) (fun K hK => ?_); go_simp; refine hK _ ?_; clear hK K)
  | (refine Go.Xk.rel_det (by rfl) (by rfl) (fun K hK => ?_); apply Exists.intro; refine ⟨fun p hp => ?_, ?_⟩; (go_simp; first | exact ⟨rfl, rfl⟩ | ((try refine ⟨by kernel_rfl, ?_⟩); first | (with_reducible exact Go.Xk.dp (AH.out _)) | (with_reducible exact Go.Xk.dp (AH.out _ Go.Xk.xt)))); (go_simp; refine hK _ ?_; clear hK K)))
 exact KQ.out) : P := h a k
end Go.Xk
namespace Go.Proofs.YtlpcdpkgnfdpeaaGreatDoor
open Go.RowKit
theorem slc_nth {α : Type} {S : Nat → Prop} {w wr : World} {sz : Nat} {R : α → List Value → Prop} {l : List α} {p : Option Addr} {n c q : Nat} (h : SlcAt S w sz R l (.slice p n c)) (hq : q < l.length) (hx : Xk.Ext w wr) :
  ∃ g u, p = some ⟨g, 0, none⟩ ∧ g < wr.heap.size ∧ R l[q] u ∧ wr.rangeAt g (q * sz) u := by
 obtain ⟨g, rfl⟩ := h.root (by omega)
 obtain ⟨-, -, he⟩ := h.elem
 obtain ⟨u, hu, hul, hr⟩ := he q _ (List.getElem?_eq_getElem hq)
 have hsz : 0 < sz := by
  rcases h with ⟨-, h⟩ | ⟨g', c', us, h1, h2, h3, h4, h5, h6, h7, h8, h9⟩
  ·cases h
  ·exact h7
 have hg := World.block_lt_of_cell? _ _ (hr 0 _ (List.getElem?_eq_getElem (by omega)))
 exact ⟨g, u, rfl, Nat.lt_of_lt_of_le hg hx.size, hu, range_same hr (hx.block g hg)⟩
end Go.Proofs.YtlpcdpkgnfdpeaaGreatDoor
