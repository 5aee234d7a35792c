/-
  One question, asked of both readers.
  Conditions: both readers lie in blocks of their own; their bytes lie in memory as lists, below B.
-/
import Derived.Test.YtaadfalklddhcaaCodeR1
import Derived.BigQuiet
import Derived.BigRegion
namespace Go.Proofs.Ytaadfalklddhcaa
open Go.RowKit Go.Sort Go.Lib
set_option linter.unusedVariables false
/-- Both readers are the same. -/
def Two (B : Nat) (w : World) (g g2 : Nat) (r : CodeM.Rd) : Prop := RdIn B 111 w g r ∧ RdIn B 73 w g2 r
/-- What a question answers. -/
def AskPost (B C g g2 : Nat) (w : World) (e : Ending) (w' : World) : Prop := e = .returned (.bool true) ∧ (∃ r, Two B w' g g2 r) ∧ Below C w w'
theorem Two.below {B g g2 : Nat} {w w' : World} {r : CodeM.Rd} (h : Two B w g g2 r) (hb : Below w.heap.size w w') : Two B w' g g2 r := ⟨h.1.below hb, h.2.below hb⟩
theorem Two.above {B g g2 b : Nat} {w w' : World} {r : CodeM.Rd} (h : Two B w g g2 r) (hg : w.grownBy w' (some b)) (h1 : b ≠ g) (h2 : b ≠ g2) (hb : B ≤ b) : Two B w' g g2 r := ⟨h.1.above hg h1 hb, h.2.above hg h2 hb⟩
end Go.Proofs.Ytaadfalklddhcaa
