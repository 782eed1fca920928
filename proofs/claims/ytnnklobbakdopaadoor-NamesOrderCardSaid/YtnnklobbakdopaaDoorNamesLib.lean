/- Plain words on letters and parts of names. -/
import Derived.Below
import Derived.Lib.SplitLaws
import Derived.Lib.IndexMore
import Derived.ChangeAgain
import Derived.WalkKit
namespace Go.Proofs.YtnnklobbakdopaaDoor
set_option linter.unusedVariables false
set_option linter.unusedSimpArgs false
open Go.RowKit

/-- may a letter be in a reference's name? -/
def letterB (c : Int) : Bool := decide (97 ≤ c ∧ c ≤ 122) || decide (65 ≤ c ∧ c ≤ 90) || decide (48 ≤ c ∧ c ≤ 57) || decide (c = 45) || decide (c = 95) || decide (c = 46)

theorem shaped_below {P : Program} {w w' : World} (h : w.ShapedOpen P) (hb : Below w.heap.size w w') : w'.ShapedOpen P :=
  h.keptBut (hb.frame (fun _ => False)) (fun _ h => h.elim)

theorem contains_marks (c : UInt8) : Lib.contains [45, 95, 46] [c] = (decide (c = 45) || decide (c = 95) || decide (c = 46)) := by
  unfold Lib.contains
  by_cases h1 : c = 45
  · subst h1; decide
  by_cases h2 : c = 95
  · subst h2; decide
  by_cases h3 : c = 46
  · subst h3; decide
  simp [Lib.index, List.isPrefixOf, h1, h2, h3]

end Go.Proofs.YtnnklobbakdopaaDoor
