/- Walks: the reference's values. -/
import Derived.Test.YtmoippbmnanajaaGreatDoorC
set_option linter.unusedSimpArgs false
set_option linter.unusedVariables false
namespace Go.Proofs.YtmoippbmnanajaaGreatDoor
open Go.RowKit

theorem known_and (a b : Int) : P6.knownI (andI a b) = andI a b := by
  unfold andI
  rcases known_012 a with h | h | h <;> rcases known_012 b with h' | h' | h' <;> rw [h, h'] <;> rfl
theorem orTI_eq (a b : Int) : notI (andI (notI a) (notI b)) = orTI a b := by
  unfold orTI andI notI
  rcases known_012 a with h | h | h <;> rcases known_012 b with h' | h' | h' <;> rw [h, h'] <;> rfl
end Go.Proofs.YtmoippbmnanajaaGreatDoor
