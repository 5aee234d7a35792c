/-
  How slices of bytes among the arguments read.
  Conditions: none.
-/
import Derived.Test.YtgcognefggbpjaaFrmF
import Derived.Test.YtgcognefggbpjaaFrmQ2
namespace Go.Proofs.Ytgcognefggbpjaa
open Go.ChangeShapes Go.WideShapes Go.ChangeAt Go.RowKit Go.Deep
set_option linter.unusedVariables false
section
variable {H : Type} {enc : TypeId × Value → H} {w : World}
theorem rd_slv (fuel : Nat) (cs : List Value) (y : DataW H × List MemPlace) (h : DataW.trod enc Try.prog w 0 (fun _ => true) true fuel 22 cs = some y) : ∃ s : { s : Slv // s.At w }, cs = s.1.cells := by
  obtain ⟨A2, c2, l, i2, hr2, hlc2, hm2, _⟩ := read_slice (cells := fun u => [B u]) (size := 1) (fun _ => rfl) (by omega) Try.underlying22 (by kernel_rfl) rd_u8 h
  rw [bs_flat] at hr2
  exact ⟨⟨⟨A2, c2, l⟩, ⟨hr2, hlc2, hm2⟩⟩, i2⟩
set_option maxRecDepth 100000 in
theorem read_slvs {r : Reach} {b0 : Nat} {v : Value} {d : DataW H} {p : List MemPlace} (hv : Value.okWide Try.prog w r b0 68 v) (h : DataW.Trod enc Try.prog w 0 (fun _ => true) true 68 v d p) :
    ∃ (A : Option Addr) (c : Nat) (l : List Slv), v = .slice A l.length c ∧ Row w A (l.flatMap Slv.cells) ∧ (∀ s ∈ l, s.At w) ∧ l.length ≤ maxLen := by
  obtain ⟨a0, len, cap, rfl⟩ := okWide_slice Try.underlying68 hv
  obtain ⟨fuel, hf⟩ := h
  obtain ⟨A, c, xs, i3, hr, hlc, hm, _⟩ := read_slice (cells := fun s : { s : Slv // s.At w } => s.1.cells) (size := 1) (fun _ => rfl) (by omega) Try.underlying68 (by kernel_rfl) rd_slv hf
  simp [Value.cells] at i3
  obtain ⟨rfl, rfl, rfl⟩ := i3
  refine ⟨a0, cap, xs.map (·.1), by simp, ?_, fun s hs => ?_, by simpa using Nat.le_trans hlc hm⟩
  · have e : (xs.map (·.1)).flatMap Slv.cells = xs.flatMap fun s => s.1.cells := by
      rw [List.flatMap_map]
    rw [e]; exact hr
  · obtain ⟨s', _, rfl⟩ := List.mem_map.1 hs
    exact s'.2
end
end Go.Proofs.Ytgcognefggbpjaa
