/-
  How a list of looks among the arguments reads.
  Conditions: none.
-/
import Derived.Test.YtplknfbdonenmaaSnapF
namespace Go.Proofs.Ytplknfbdonenmaa
open Go.ChangeShapes Go.WideShapes Go.ChangeAt Go.RowKit Go.Deep
set_option linter.unusedVariables false
section
variable {H : Type} {enc : TypeId × Value → H} {w : World}
set_option maxRecDepth 100000 in
theorem read_looks {r : Reach} {b0 : Nat} {v : Value} {d : DataW H} {p : List MemPlace} (hv : Value.okWide Try.prog w r b0 23 v) (h : DataW.Trod enc Try.prog w 0 (fun _ => true) true 23 v d p) :
    ∃ (A : Option Addr) (c : Nat) (ks : List Lkv), v = .slice A ks.length c ∧ Row w A (ks.flatMap Lkv.cells) ∧ ks.length ≤ maxLen ∧ (∀ s ∈ ks, Row w s.A (s.k.done.flatMap Stp.cells)) ∧ (∀ s ∈ ks, s.k.done.length ≤ maxLen) := by
  obtain ⟨a0, len, cap, rfl⟩ := okWide_slice Try.underlying23 hv
  obtain ⟨fuel, hf⟩ := h
  obtain ⟨A, c, xs, i3, hr, hlc, hm, _⟩ := read_slice (α := { s : Lkv // Row w s.A (s.k.done.flatMap Stp.cells) ∧ s.k.done.length ≤ maxLen }) (cells := fun x => x.1.cells) (size := 4) (fun _ => rfl) (by omega) Try.underlying23 (by kernel_rfl)
    (fun fuel cs y h => by obtain ⟨s, e, h1, h2⟩ := rd_lkv fuel cs y h; exact ⟨⟨s, h1, h2⟩, e⟩) hf
  simp [Value.cells] at i3
  obtain ⟨rfl, rfl, rfl⟩ := i3
  refine ⟨a0, cap, xs.map (·.1), by rw [List.length_map], by rw [List.flatMap_map]; exact hr, by rw [List.length_map]; exact Nat.le_trans hlc hm, ?_, ?_⟩
  · intro s hs
    obtain ⟨x, _, rfl⟩ := List.mem_map.1 hs
    exact x.2.1
  · intro s hs
    obtain ⟨x, _, rfl⟩ := List.mem_map.1 hs
    exact x.2.2
end
end Go.Proofs.Ytplknfbdonenmaa
