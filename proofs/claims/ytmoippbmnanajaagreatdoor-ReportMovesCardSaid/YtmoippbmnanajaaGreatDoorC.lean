/- Walks: the tests and truths of package value. -/
import Derived.Test.YtmoippbmnanajaaGreatDoorB
set_option linter.unusedSimpArgs false
set_option linter.unusedVariables false
namespace Go.Proofs.YtmoippbmnanajaaGreatDoor
open Go.RowKit

theorem ret2 {t : Int × Int} {a b : Int} {j q : IntKind} (h : t = (a, b)) : Ending.returned (.tuple #[.int j a, .int q b]) = .returned (.tuple #[.int j t.1, .int q t.2]) := by rw [h]
def testT (op k i : Int) (s : ByteArray) (k' i' : Int) (s' : ByteArray) : Int × Int :=
  if !P6.isV k i s.data.toList || !P6.isV k' i' s'.data.toList || decide (op < 3) || decide (8 < op) || (!(decide (k = 0) || decide (k' = 0)) && !decide (k = k')) then (0, 60)
  else if decide (k = 0) || decide (k' = 0) then (2, 0) else (P6.truthI (P6.holdsV op (cmpV k i s k' i' s')), 0)

def truthT (k i : Int) (s : ByteArray) : Int × Int :=
  if !P6.isV k i s.data.toList || decide (1 < k) then (0, 60) else if k = 0 then (2, 0) else (P6.truthI (i == 1), 0)

def ofV (t : Int) : Value := if t = 0 ∨ t = 1 then vv 1 t ⟨#[]⟩ else vv 0 0 ⟨#[]⟩
def andI (a b : Int) : Int := if P6.knownI a = 0 then 0 else if P6.knownI a = 1 then P6.knownI b else if P6.knownI b = 0 then 0 else 2
def orTI (a b : Int) : Int := if P6.knownI a = 1 then 1 else if P6.knownI a = 0 then P6.knownI b else if P6.knownI b = 1 then 1 else 2
def notI (a : Int) : Int := if P6.knownI a = 0 then 1 else if P6.knownI a = 1 then 0 else 2
theorem known_012 (t : Int) : P6.knownI t = 0 ∨ P6.knownI t = 1 ∨ P6.knownI t = 2 := by unfold P6.knownI; split <;> omega

end Go.Proofs.YtmoippbmnanajaaGreatDoor
