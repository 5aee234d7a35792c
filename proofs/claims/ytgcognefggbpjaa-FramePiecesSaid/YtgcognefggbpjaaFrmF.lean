/-
  How calls of a stream among the arguments read.
  Conditions: none.
-/
import Derived.Test.YtgcognefggbpjaaFrame2
import Derived.Test.YtgcognefggbpjaaFrmP3
namespace Go.Proofs.Ytgcognefggbpjaa
open Go.ChangeShapes Go.WideShapes Go.ChangeAt Go.RowKit Go.Deep
set_option linter.unusedVariables false
section
variable {H : Type} {enc : TypeId × Value → H} {w : World}
theorem rd_u8 (fuel : Nat) (cs : List Value) (y : DataW H × List MemPlace) (h : DataW.trod enc Try.prog w 0 (fun _ => true) true fuel 5 cs = some y) : ∃ s : UInt8, cs = [B s] := by
  obtain ⟨a, i, _, w0⟩ := DataW.trod_int Try.underlying5 h
  have g1 : 0 ≤ a ∧ a ≤ 255 := by simpa [Lit.wf, IntKind.min, IntKind.max, IntKind.signed, IntKind.bits] using w0
  refine ⟨UInt8.ofNat a.toNat, ?_⟩
  rw [i]
  unfold B
  congr 2
  rw [UInt8.toNat_ofNat']
  omega
theorem bs_flat (xs : List UInt8) : xs.flatMap (fun u => [B u]) = bs xs := by
  induction xs with
  | nil => rfl
  | cons a l ih => rw [List.flatMap_cons, ih]; rfl
theorem rd_opv (fuel : Nat) (cs : List Value) (y : DataW H × List MemPlace) (h : DataW.trod enc Try.prog w 0 (fun _ => true) true fuel 58 cs = some y) : ∃ s : { s : Opv // s.At w }, cs = s.1.cells := by
  obtain ⟨hl, n, hf⟩ := read_struct Try.underlying58 (by kernel_rfl) (by kernel_rfl) h
  obtain ⟨v0, z0, e0, h0⟩ := hf 0 _ rfl
  obtain ⟨v1, z1, e1, h1⟩ := hf 1 _ rfl
  obtain ⟨a0, i0, _, w0⟩ := DataW.trod_int Try.underlying3 h0
  have g0 : -9223372036854775808 ≤ a0 ∧ a0 ≤ 9223372036854775807 := by simpa [Lit.wf, IntKind.min, IntKind.max, IntKind.signed, IntKind.bits] using w0
  obtain ⟨A2, c2, l, i2, hr2, hlc2, hm2, _⟩ := read_slice (cells := fun u => [B u]) (size := 1) (fun _ => rfl) (by omega) Try.underlying22 (by kernel_rfl) rd_u8 h1
  rw [bs_flat] at hr2
  simp only [List.cons.injEq, and_true] at i0 i2
  subst i0 i2
  match cs, hl with
  | [x0, x1], _ =>
    simp at e0 e1
    subst e0 e1
    exact ⟨⟨⟨a0, A2, c2, l⟩, ⟨hr2, hlc2, hm2, g0.1, by show a0 < _; omega⟩⟩, rfl⟩
set_option maxRecDepth 100000 in
theorem read_opvs {r : Reach} {b0 : Nat} {v : Value} {d : DataW H} {p : List MemPlace} (hv : Value.okWide Try.prog w r b0 56 v) (h : DataW.Trod enc Try.prog w 0 (fun _ => true) true 56 v d p) :
    ∃ (A : Option Addr) (c : Nat) (l : List Opv), v = .slice A l.length c ∧ Row w A (l.flatMap Opv.cells) ∧ (∀ s ∈ l, s.At w) ∧ l.length ≤ maxLen := by
  obtain ⟨a0, len, cap, rfl⟩ := okWide_slice Try.underlying56 hv
  obtain ⟨fuel, hf⟩ := h
  obtain ⟨A, c, xs, i3, hr, hlc, hm, _⟩ := read_slice (cells := fun s : { s : Opv // s.At w } => s.1.cells) (size := 2) (fun _ => rfl) (by omega) Try.underlying56 (by kernel_rfl) rd_opv hf
  simp [Value.cells] at i3
  obtain ⟨rfl, rfl, rfl⟩ := i3
  refine ⟨a0, cap, xs.map (·.1), by simp, ?_, fun s hs => ?_, by simpa using Nat.le_trans hlc hm⟩
  · have e : (xs.map (·.1)).flatMap Opv.cells = xs.flatMap fun s => s.1.cells := by
      rw [List.flatMap_map]
    rw [e]; exact hr
  · obtain ⟨s', _, rfl⟩ := List.mem_map.1 hs
    exact s'.2
end
end Go.Proofs.Ytgcognefggbpjaa
