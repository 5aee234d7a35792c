/-
  The frames with which bytes begin, one after the other; no program in sight.
  Conditions: none.
-/
import Derived.Test.YtgcognefggbpjaaFrmM
namespace Go.Proofs.Ytgcognefggbpjaa
open Go.RowKit
set_option linter.unusedVariables false
namespace FrmM
/-- What is left behind k frames. -/
def it (b : List UInt8) : Nat → List UInt8
  | 0 => b
  | k + 1 => (it b k).drop (4 + (sz (it b k)).1)
/-- The k-th frame. -/
def pc (b : List UInt8) (k : Nat) : List UInt8 := ((it b k).drop 4).take (sz (it b k)).1
theorem sz_ok {b : List UInt8} (h : (sz b).2 = 0) : (sz b).1 ≤ 20000 ∧ 4 + (sz b).1 ≤ b.length := by
  rcases sz_cases b with h1 | h1 | h1
  · omega
  · omega
  · exact h1.2
theorem it_len {b : List UInt8} : ∀ k : Nat, (∀ j, j < k → (sz (it b j)).2 = 0) → (it b k).length + 4 * k ≤ b.length
  | 0, _ => by simp [it]
  | k + 1, h => by
    have h1 := it_len k (fun j hj => h j (by omega))
    have h2 := sz_ok (h k (by omega))
    show ((it b k).drop _).length + _ ≤ _
    rw [List.length_drop]; omega
theorem pc_len {b : List UInt8} {k : Nat} (h : (sz (it b k)).2 = 0) : (pc b k).length = (sz (it b k)).1 := by
  have := sz_ok h
  unfold pc
  rw [List.length_take, List.length_drop]; omega
end FrmM
end Go.Proofs.Ytgcognefggbpjaa
