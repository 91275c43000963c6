/- From a walk to the row: what every statement of this seat shares. -/
import Derived.Test.YtlpcdpkgnfdpeaaGreatDoorRows
import Derived.Test.YtlpcdpkgnfdpeaaGreatDoorSH
import Derived.Test.YtlpcdpkgnfdpeaaGreatDoorSC
import Derived.Stop.LaidErr
import Derived.ProofKit
import Derived.Deep.DeepHandedRow
import Derived.Lib.LaidTab
import Derived.Lib.LaidU8
import Derived.Lay
import Derived.LaidHandle
import Derived.Shelf.Vars
import Derived.OpenShut
set_option linter.unusedSimpArgs false
set_option linter.unusedVariables false
set_option maxRecDepth 100000
set_option maxHeartbeats 80000000
namespace Go.Proofs.YtlpcdpkgnfdpeaaGreatDoor
open Go.ChangeShapes Go.WideShapes Go.ChangeAt Go.RowKit
theorem Tryz.own : ownKnob Tryz.prog.godebug = none := by kernel_rfl
theorem Tryz.laidOut : laidOutB Tryz.prog = true := by kernel_rfl
theorem trodAll_below {H : Type} {enc : TypeId × Value → H} {P : Program} (hl : laidOutB P = true) {W W' : World} (hb : Below W.heap.size W W') :
  ∀ {ts : List TypeId} {vs : List Value} {ds : List (DataW H)} {ps : List MemPlace}, ts.all (fun t => P.readableRec t && decide (t < P.types.size)) = true →
   DataW.TrodAll enc P W 0 (fun _ => true) true ts vs ds ps → DataW.TrodAll enc P W' 0 (fun b => decide (b < W.heap.size)) true ts vs ds ps
 | [], [], [], _, _, h => h
 | t :: ts, v :: vs, d :: ds, ps, hr, h => by
  have hlt := h.lt
  obtain ⟨p, q, h1, h2, rfl⟩ := h
  simp only [List.all_cons, Bool.and_eq_true, decide_eq_true_eq] at hr
  exact ⟨p, q, Below.trod hl hr.1.1 hr.1.2 h1 hb (fun x hx => hlt x (List.mem_append_left _ hx)), trodAll_below hl hb hr.2 h2, rfl⟩
 | [], [], _ :: _, _, _, h => h.elim
 | [], _ :: _, _, _, _, h => h.elim
 | _ :: _, [], _, _, _, h => h.elim
 | _ :: _, _ :: _, [], _, _, h => h.elim
theorem post_true {H : Type} {enc : TypeId × Value → H} {f : Func} {s : ChangeSpec} {W W' : World} {args : Array Value} {ds : List (DataW H)} {before p : List MemPlace}
  (hs : s.vars = []) (hfn : s.fn H (ds ++ []) = { results := [.lit (.bool true)], args := ds }) (hr : f.resultTypes = #[4])
  (ht : f.params.toList.all (fun t => Tryz.prog.readableRec t && decide (t < Tryz.prog.types.size)) = true)
  (hW : DataW.Whole enc Tryz.prog f.params.toList s.vars false W args.toList ds [] before) (hA : DataW.TrodAll enc Tryz.prog W 0 (fun _ => true) true f.params.toList args.toList ds p)
  (hb : Below W.heap.size W W') : s.post enc Tryz.prog f false true false false W args (.bool true) W' := by
 refine ⟨ds, [], before, [], p, [], hW, ?_, ?_, ?_, hb.frame _, fun h => by cases h⟩
 ·rw [hfn, hr]; exact trodAll_mk1 (shut_bool Tryz.underlying4 true)
 ·rw [hfn]; exact trodAll_below Tryz.laidOut hb ht hA
 ·rw [hfn, hs]; rfl
theorem Tryz.star : "*" ++ "errors.errorString" = "*errors.errorString" := by decide
theorem Tryz.row_err (u : TypeId) (h : Tryz.prog.typeName? 3 u = some "*errors.errorString") : u = 323 :=
 typeName_ptr_named (nm := "errors.errorString") (by rw [Tryz.star]; kernel_rfl) (by kernel_rfl) (by decide) u (by rw [Tryz.star]; exact h)
theorem Tryz.cells_err : Tryz.prog.cellsOf 325 = 1 := by kernel_rfl
theorem Tryz.cells_str : Tryz.prog.cellsOf 9 = 1 := by kernel_rfl
theorem Tryz.g_ran : Tryz.prog.globalNamed "strconv.ErrRange" = some 8 := by kernel_rfl
theorem Tryz.g_ranType : (Tryz.prog.globals[8]?).map (·.type) = some 170 := by kernel_rfl
theorem err_of {n : String} {g : Nat} {text : List UInt8} {r : List (String × DataW Unit)} {W : World} (h : laidMet Tryz.prog ((n, .iface "*errors.errorString" (.ptr (.agg [.lit (.string text)]))) :: r) W)
  (hg : Tryz.prog.globalNamed n = some g) (ht : (Tryz.prog.globals[g]?).map (·.type) = some 170) : ∃ tp p, W.var? Tryz.prog n = some #[.iface tp p] := by
 obtain ⟨a, s, hv, -⟩ := laid_sentinel h hg ht Tryz.underlying170 Tryz.row_err Tryz.underlying323 Tryz.underlying325 rfl rfl Tryz.underlying9 Tryz.cells_err Tryz.cells_str
 exact ⟨_, _, hv⟩
theorem env0_of {W : World} {laid : List (String × DataW Unit)} (hm : ("internal/strconv.uint64pow10", Rows.laid_internal_strconv_uint64pow10) ∈ laid) (h : laidMet Tryz.prog laid W) (hs : W.ShapedOpen Tryz.prog) : Env W := by
 refine ⟨?_, ?_⟩
 ·obtain ⟨g, t, cs, fuel, p, h1, h2, h3, h4⟩ := Lib.laidMet.reads h hm
  obtain rfl := Option.some.inj (Tryz.g_pow.symm.trans h1)
  obtain rfl := Option.some.inj ((show (Tryz.prog.globals[4]?).map (·.type) = some 297 by kernel_rfl).symm.trans h2)
  have e : (Rows.laid_internal_strconv_uint64pow10 : DataW Unit) = Lib.tabData .u64 Lib.pow10Tab := by kernel_rfl
  rw [e] at h4
  unfold Lib.TabIs
  rw [h3, ← Lib.cells_of_tab Tryz.underlying297 Tryz.underlying56 (by kernel_rfl) (by kernel_rfl) h4]
 ·exact cell_of_shapedOpen_int (t := 3) (zero := #[.int .i64 0]) hs (of_decide_eq_true (by kernel_rfl)) (by kernel_rfl) rfl (by kernel_rfl) (by kernel_rfl) Tryz.underlying3
theorem env_of {W : World} {a b c d e f g h : String × DataW Unit} (hl : c = ("internal/strconv.uint64pow10", Rows.laid_internal_strconv_uint64pow10)) (he : e = ("strconv.ErrRange", Rows.laid_strconv_ErrRange))
  (hm : laidMet Tryz.prog [a, b, c, d, e, f, g, h] W) (hs : W.ShapedOpen Tryz.prog) : Env W ∧ EnvP W := by
 subst hl; subst he
 refine ⟨env0_of (laid := [a, b, _, d, _, f, g, h]) (by simp) hm hs, ?_⟩
 obtain ⟨tp, p, hv⟩ := err_of hm.tail.tail.tail.tail Tryz.g_ran Tryz.g_ranType
 refine ⟨tp, p, ?_⟩
 unfold World.var? at hv
 simp only [Tryz.g_ran, Option.bind_some] at hv
 unfold World.cell?
 cases hb : W.heap[8]? with
 | none => rw [hb] at hv; simp at hv
 | some o =>
  rw [hb] at hv
  cases o <;> simp at hv
  subst hv
  rfl
theorem witness_law {H : Type} {enc : TypeId × Value → H} (os : Os) {f : FuncId} {fn : Func} {s : OpenSpec} {laid : List (String × DataW Unit)} (args : Array Value) (x : List (DataW H) × List (DataW H) × List MemPlace)
  (hv : ((World.laidAll Tryz.prog os laid).forCall (fun _ _ => 0) ⟨#[], args, []⟩).variablesZipB Tryz.prog = true)
  (hr : (((World.laidAll Tryz.prog os laid).forCall (fun _ _ => 0) ⟨#[], args, []⟩).heap.toList.drop Tryz.prog.globals.size).take ((begin Tryz.prog (fun _ _ => 0) default).world.heap.size - Tryz.prog.globals.size) =
   (begin Tryz.prog (fun _ _ => 0) default).world.heap.toList.drop Tryz.prog.globals.size)
  (hok : Input.okWideB Tryz.prog ((World.laidAll Tryz.prog os laid).forCall (fun _ _ => 0) ⟨#[], args, []⟩) f ⟨#[], args, []⟩ = true)
  (hx : DataW.whole enc Tryz.prog ((World.laidAll Tryz.prog os laid).forCall (fun _ _ => 0) ⟨#[], args, []⟩).memory fn.params.toList s.vars false args.toList 8 = some x)
  (hkk : ∀ k, s.cond = some k → k H (x.1 ++ x.2.1) = true)
  (hsz : s.bare.sizedB enc Tryz.prog fn false ((World.laidAll Tryz.prog os laid).forCall (fun _ _ => 0) ⟨#[], args, []⟩).memory args 8 = true)
  (hf : (World.holding Tryz.prog os ⟨#[], #[], []⟩).layFits Tryz.prog laid [] = true)
  (hi : (World.holding Tryz.prog os ⟨#[], #[], []⟩).layIfaces Tryz.prog laid (World.laidAll Tryz.prog os laid) = true)
  (hp : (laid.filter fun x => x.2.handleName?.isSome) = []) :
  ∃ (w : World) (tape : Tape) (i : Input), w.os = os ∧ (w.forCall tape i).Shaped Tryz.prog ∧ i.vars = [] ∧ Input.okWide Tryz.prog (w.forCall tape i) .any w.heap.size f i ∧
   s.preRow enc Tryz.prog fn [] false laid (w.forCall tape i).memory i.args ∧ ({} : Assume).holds Tryz.prog (lone (Frame.enter Tryz.prog f i.args .normal) [] (w.forCall tape i)) := by
 refine ⟨World.laidAll Tryz.prog os laid, fun _ _ => 0, ⟨#[], args, []⟩, World.laidAll_os _ _ _, World.shaped_of_ZipB hv hr, (Input.okWide_of_okWideB (base := 0) hok).1, (Input.okWide_of_okWideB hok).2, OpenSpec.preRow_of_cond 8 hx rfl hkk hsz ?_, ?_⟩
 ·unfold laidMetH
  rw [hp]
  exact laidMet_laidAll args hf hi
 ·simp only [Assume.holds]
  exact ⟨by simp, by simp, by simp, by simp, by simp⟩
end Go.Proofs.YtlpcdpkgnfdpeaaGreatDoor
