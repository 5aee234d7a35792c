/-
  How questions among the arguments read.
  Conditions: none.
-/
import Derived.Test.YteanmmdlgolljaaFrame2
import Derived.Test.YteanmmdlgolljaaCodeR3
namespace Go.Proofs.Yteanmmdlgolljaa
open Go.ChangeShapes Go.WideShapes Go.ChangeAt Go.RowKit Go.Deep
set_option linter.unusedVariables false
section
variable {H : Type} {enc : TypeId × Value → H} {w : World}
theorem rd_que (fuel : Nat) (cs : List Value) (y : DataW H × List MemPlace) (h : DataW.trod enc Try.prog w 0 (fun _ => true) true fuel 50 cs = some y) : ∃ s : Que, cs = s.cells := by
  obtain ⟨hl, n, hf⟩ := read_struct Try.underlying50 (by kernel_rfl) (by kernel_rfl) h
  obtain ⟨v0, z0, e0, h0⟩ := hf 0 _ rfl
  obtain ⟨v1, z1, e1, h1⟩ := hf 1 _ rfl
  obtain ⟨a0, i0, _, w0⟩ := DataW.trod_int Try.underlying3 h0
  obtain ⟨a1, i1, _, w1⟩ := DataW.trod_int Try.underlying3 h1
  have g1 : -9223372036854775808 ≤ a1 ∧ a1 ≤ 9223372036854775807 := by simpa [Lit.wf, IntKind.min, IntKind.max, IntKind.signed, IntKind.bits] using w1
  simp only [List.cons.injEq, and_true] at i0 i1
  subst i0 i1
  match cs, hl with
  | [x0, x1], _ =>
    simp at e0 e1
    subst e0 e1
    exact ⟨⟨a0, a1, g1.1, by omega⟩, rfl⟩
set_option maxRecDepth 100000 in
theorem read_ques {r : Reach} {b0 : Nat} {v : Value} {d : DataW H} {p : List MemPlace} (hv : Value.okWide Try.prog w r b0 44 v) (h : DataW.Trod enc Try.prog w 0 (fun _ => true) true 44 v d p) :
    ∃ (A : Option Addr) (c : Nat) (l : List Que), v = .slice A l.length c ∧ Row w A (l.flatMap Que.cells) ∧ l.length ≤ maxLen := by
  obtain ⟨a0, len, cap, rfl⟩ := okWide_slice Try.underlying44 hv
  obtain ⟨fuel, hf⟩ := h
  obtain ⟨A, c, xs, i3, hr, hlc, hm, _⟩ := read_slice (cells := Que.cells) (size := 2) (fun _ => rfl) (by omega) Try.underlying44 (by kernel_rfl) rd_que hf
  simp [Value.cells] at i3
  obtain ⟨rfl, rfl, rfl⟩ := i3
  exact ⟨a0, cap, xs, rfl, hr, Nat.le_trans hlc hm⟩
end
end Go.Proofs.Yteanmmdlgolljaa
