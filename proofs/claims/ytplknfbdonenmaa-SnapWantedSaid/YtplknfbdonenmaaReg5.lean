/-
  A guarded operation that is not wanted, in a region that draws its order.
  Conditions: the guard's value is known.
-/
import Derived.Test.YtplknfbdonenmaaReg4
namespace Go.Proofs.Ytplknfbdonenmaa
open Go.RowKit
set_option linter.unusedVariables false
theorem unwanted_of {ops : List Oper} {o : Oper} {tm : Array Value} (j d : Nat) (b b' : Bool) (hne : b' ≠ b) (hg : o.guard = some (j, b)) (ho : (ops[j]?).bind (·.dst) = some d) (hv : tm.getD d undef = .bool b') : Region.wanted o (yielded ops.toArray tm) = false := by
  have hlt : d < tm.size := by
    rcases Nat.lt_or_ge d tm.size with h | h
    · exact h
    · rw [Array.getD_eq_getD_getElem?, Array.getElem?_eq_none h] at hv; cases hv
  have h2 : tm[d]? = some (.bool b') := by
    rw [Array.getD_eq_getD_getElem?, Array.getElem?_eq_getElem hlt] at hv
    rw [Array.getElem?_eq_getElem hlt]
    exact congrArg some hv
  simp [Region.wanted, hg, yielded, ho, h2, hne]
theorem rstep_un {P : Program} {ops : Array Oper} {o : Oper} {a : Act} {w : World} {K : Act → World → Prop} {Q : Exit → Act → World → Prop} {E : Prop} (hw : Region.wanted o (yielded ops a.tmps) = false) (hK : E) : if Region.wanted o (yielded ops a.tmps) = true then Oper.wp P o a w K Q else E := by
  rw [if_neg (by rw [hw]; decide)]
  exact hK
end Go.Proofs.Ytplknfbdonenmaa
