/- What reading a table computes: plain functions on lists of bytes. -/
import Derived.Test.YtmoippbmnanajaaGreatDoorRK
import Derived.Lib.ParseIntB
import Derived.Lib.Split
import Derived.Lib.LastIndexByte
set_option linter.unusedSimpArgs false
set_option linter.unusedVariables false
namespace P25
open Go.Lib
/-- What is left of a line ahead of its k-th cell. -/
def rest (k : Nat) (s : List UInt8) : Option (List UInt8) :=
  if k = 0 then some s else if hasPrefix s bar then some (s.drop 3) else if trimB s 32 = [] ∨ trimB s 32 = [124] then some [] else none
/-- A line cut into cells, by how wide they are. -/
def cut : Nat → List UInt8 → List Nat → Option (List (List UInt8))
  | _, s, [] => if s = [] then some [] else none
  | k, s, n :: r => match rest k s with
    | none => none
    | some t => (cut (k + 1) (t.drop n) r).map fun l => t.take n :: l
def blank (s : List UInt8) : Bool := trimB s 32 == []
def dropBlank (l : List (List UInt8)) : List (List UInt8) := (l.reverse.dropWhile blank).reverse
/-- What stands in a cell of a row. -/
def inner (s : List UInt8) : List UInt8 :=
  if hasPrefix (trimLeftB s 32) [39] then (trimLeftB s 32).take (lastIndexByte ⟨(trimLeftB s 32).toArray⟩ 39 + 1).toNat else trimB s 32
end P25
namespace Go.Proofs.YtmoippbmnanajaaGreatDoor
open Go.RowKit Go.Lib
/-- The value that a print may be of. -/
def cand (t : List UInt8) : Option V :=
  if t = [78, 85, 76, 76] then some ⟨0, 0, ⟨#[]⟩⟩
  else if t = [84, 82, 85, 69] then some ⟨1, 1, ⟨#[]⟩⟩
  else if t = [70, 65, 76, 83, 69] then some ⟨1, 0, ⟨#[]⟩⟩
  else if hasPrefix t [39] then (if t.length < 2 then none else some ⟨3, 0, ⟨(replaceAll ((t.drop 1).take (t.length - 2)) [39, 39] [39]).toArray⟩⟩)
  else match parseIntB 64 t with
    | .ok n => some ⟨2, n, ⟨#[]⟩⟩
    | _ => none
def isX (x : V) : Bool := P6.isV x.k x.i x.s.data.toList
def printX (x : V) : List UInt8 := P6.printV x.k x.i x.s.data.toList
def lit (t : List UInt8) : Option V := match cand t with
  | none => none
  | some x => if isX x = true ∧ printX x = t then some x else none
/-- The values of cells, or none. -/
def vals : List (List UInt8) → Option (List V)
  | [] => some []
  | s :: l => match lit (P25.inner s) with
    | none => none
    | some x => (vals l).map fun r => x :: r
def rowIn (l : List (List UInt8)) : Option (List V) := vals (P25.dropBlank l)
def rowsIn (wide : List Nat) : List (List UInt8) → Option (List (List V))
  | [] => some []
  | s :: l => match P25.cut 0 s wide with
    | none => none
    | some c => match rowIn c with
      | none => none
      | some r => (rowsIn wide l).map fun t => r :: t
/-- An answer: names, rows, how many. -/
structure Ans where
  names : List (List UInt8)
  rows : List (List V)
  n : Int
def linesOf (s : List UInt8) : List (List UInt8) := split s [10]
def widths (s : List UInt8) : List Nat := (split s P25.cross).map List.length
def guess (s : List UInt8) : Option Ans :=
  if (linesOf s).length = 2 then (match atoiAll ((linesOf s).getD 0 []) with | .ok n => some ⟨[], [], n⟩ | _ => none)
  else if (linesOf s).length < 3 then none
  else match P25.cut 0 ((linesOf s).getD 0 []) (widths ((linesOf s).getD 1 [])) with
    | none => none
    | some names => match rowsIn (widths ((linesOf s).getD 1 [])) (((linesOf s).drop 2).take ((linesOf s).length - 3)) with
      | none => none
      | some rows => some ⟨names.map fun x => trimB x 32, rows, 0⟩
def tableA (a : Ans) : List UInt8 := P25.table a.names (a.rows.map rowOf) a.n
def partX (x : V) : Bool := contains x.s.data.toList P25.bar || contains x.s.data.toList [10]
def parse (s : List UInt8) : Option Ans := match guess s with
  | none => none
  | some a => if tableA a = s ∧ (a.names.any fun x => contains x [32]) = false ∧ (a.rows.any fun r => r.any partX) = false then some a else none
def known_s : List UInt8 := [32, 97, 10, 45, 45, 10, 32, 49, 10, 49, 48, 10]
def known_a : Ans := ⟨[[97]], [[⟨2, 1, ⟨#[]⟩⟩], [⟨2, 10, ⟨#[]⟩⟩]], 0⟩
theorem known_table : tableA known_a = known_s := by kernel_rfl
theorem known_parse : parse known_s = some known_a := by kernel_rfl
end Go.Proofs.YtmoippbmnanajaaGreatDoor
