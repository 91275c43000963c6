/- Walks: pantilelaw12.ParseNumbers. -/
import Derived.Test.YtkpmclddjkebeaaGreatDoorRZH
set_option linter.unusedSimpArgs false
set_option linter.unusedVariables false
set_option maxRecDepth 100000
set_option maxHeartbeats 80000000
open Go.Region renaming wanted→bV
open Go.Result renaming andThen_ok→oZ
namespace Go.Proofs.YtkpmclddjkebeaaGreatDoor
open Go.RowKit
theorem pP{P:Program}{ops:Array Oper}{rest:List Oper}{o:Oper}{a:Act}{w:World}{Q:Exit->Act->World->Prop}(hgd:bV o (yielded ops a.tmps)=true)(t:TypeId)(x:Operand)(ho:o.op = .load t x)
  (g:Nat) (cs:Array Value) (T:TypeId) (fr:Nat×Nat) (d:TypeDesc) (hx:a.eval x = .pointer (some ⟨g,0,none⟩)) (hg:w.heap[g]?=some (.cells cs T fr))
  (hu:P.underlying t=some d) (hd:(match d with | .struct _ | .array _ _=>true|_=>false)=true) (hi:(P.info? t).map (·.size)=some cs.size)
  (h:wpList P ops Q rest (a.put o.dst (.agg cs)) w):wpList P ops Q (o::rest) a w:=
 wpList_step λ_ hK=>by
  rw[if_pos hgd];unfold Oper.wp execOp;simp only[ho,hx,Instr.loadAt,Instr.sureAddr,Sem.run_bind,Sem.run_pure,oZ,run_loadVar_row (P:=P) w g T t cs fr d hg hu hd hi];exact hK _ _ h
end Go.Proofs.YtkpmclddjkebeaaGreatDoor
