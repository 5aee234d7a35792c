/-
  How changes of a slotted body among the arguments read.
  Conditions: none.
-/
import Derived.Test.YtofbfehpadjbbaaFrame2
import Derived.Test.YtofbfehpadjbbaaSltF
import Derived.Test.YtofbfehpadjbbaaSltP1
namespace Go.Proofs.Ytofbfehpadjbbaa
open Go.ChangeShapes Go.WideShapes Go.ChangeAt Go.RowKit Go.Deep
set_option linter.unusedVariables false
section
variable {H : Type} {enc : TypeId × Value → H} {w : World}
theorem rd_opk (fuel : Nat) (cs : List Value) (y : DataW H × List MemPlace) (h : DataW.trod enc Try.prog w 0 (fun _ => true) true fuel 45 cs = some y) : ∃ s : { s : Opk // s.At w }, cs = s.1.cells := by
  obtain ⟨hl, n, hf⟩ := read_struct Try.underlying45 (by kernel_rfl) (by kernel_rfl) h
  obtain ⟨v0, z0, e0, h0⟩ := hf 0 _ rfl
  obtain ⟨v1, z1, e1, h1⟩ := hf 1 _ rfl
  obtain ⟨v2, z2, e2, h2⟩ := hf 2 _ rfl
  obtain ⟨a0, i0, _, w0⟩ := DataW.trod_int Try.underlying3 h0
  have g0 : -9223372036854775808 ≤ a0 ∧ a0 ≤ 9223372036854775807 := by simpa [Lit.wf, IntKind.min, IntKind.max, IntKind.signed, IntKind.bits] using w0
  obtain ⟨a1, i1, _, w1⟩ := DataW.trod_int Try.underlying3 h1
  have g1 : -9223372036854775808 ≤ a1 ∧ a1 ≤ 9223372036854775807 := by simpa [Lit.wf, IntKind.min, IntKind.max, IntKind.signed, IntKind.bits] using w1
  obtain ⟨A2, c2, l, i2, hr2, hlc2, hm2, _⟩ := read_slice (cells := fun u => [B u]) (size := 1) (fun _ => rfl) (by omega) Try.underlying27 (by kernel_rfl) rd_u8 h2
  rw [bs_flat] at hr2
  simp only [List.cons.injEq, and_true] at i0 i1 i2
  subst i0 i1 i2
  match cs, hl with
  | [x0, x1, x2], _ =>
    simp at e0 e1 e2
    subst e0 e1 e2
    exact ⟨⟨⟨a0, a1, A2, c2, l⟩, ⟨hr2, hlc2, hm2, g0.1, by show a0 < _; omega, g1.1, by show a1 < _; omega⟩⟩, rfl⟩
set_option maxRecDepth 100000 in
theorem read_opks {r : Reach} {b0 : Nat} {v : Value} {d : DataW H} {p : List MemPlace} (hv : Value.okWide Try.prog w r b0 42 v) (h : DataW.Trod enc Try.prog w 0 (fun _ => true) true 42 v d p) :
    ∃ (A : Option Addr) (c : Nat) (l : List Opk), v = .slice A l.length c ∧ Row w A (l.flatMap Opk.cells) ∧ (∀ s ∈ l, s.At w) ∧ l.length ≤ maxLen ∧ l.length ≤ c := by
  obtain ⟨a0, len, cap, rfl⟩ := okWide_slice Try.underlying42 hv
  obtain ⟨fuel, hf⟩ := h
  obtain ⟨A, c, xs, i3, hr, hlc, hm, _⟩ := read_slice (cells := fun s : { s : Opk // s.At w } => s.1.cells) (size := 3) (fun _ => rfl) (by omega) Try.underlying42 (by kernel_rfl) rd_opk hf
  simp [Value.cells] at i3
  obtain ⟨rfl, rfl, rfl⟩ := i3
  refine ⟨a0, cap, xs.map (·.1), by simp, ?_, fun s hs => ?_, by simpa using Nat.le_trans hlc hm, by simpa using hlc⟩
  · have e : (xs.map (·.1)).flatMap Opk.cells = xs.flatMap fun s => s.1.cells := by
      rw [List.flatMap_map]
    rw [e]; exact hr
  · obtain ⟨s', _, rfl⟩ := List.mem_map.1 hs
    exact s'.2
end
end Go.Proofs.Ytofbfehpadjbbaa
