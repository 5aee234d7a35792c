/-
  A frame, written out slot by slot.
  Conditions: none.
-/
import Derived.Test.YtplknfbdonenmaaReg
namespace Go.Proofs.Ytplknfbdonenmaa
open Go.RowKit
theorem act_list (a : Act) (n : Nat) (l : List Deferred) (hs : a.tmps.size = n) (hd : a.defers = l) : a = ⟨((List.range n).map fun t => a.tmps.getD t undef).toArray, l⟩ := by
  obtain ⟨tm, df⟩ := a
  dsimp only at hs hd ⊢
  subst hd hs
  congr 1
  apply Array.ext
  · simp
  · intro i h1 h2
    simp only [List.getElem_toArray, List.getElem_map, List.getElem_range, Array.getD, h1, dif_pos]
    rfl
end Go.Proofs.Ytplknfbdonenmaa
