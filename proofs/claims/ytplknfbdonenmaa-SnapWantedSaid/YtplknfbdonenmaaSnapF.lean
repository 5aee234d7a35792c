/-
  How looks, stamps and heads among the arguments read.
  Conditions: none.
-/
import Derived.Test.YtplknfbdonenmaaFrame2
import Derived.Test.YtplknfbdonenmaaSnapW5
namespace Go.Proofs.Ytplknfbdonenmaa
open Go.ChangeShapes Go.WideShapes Go.ChangeAt Go.RowKit Go.Deep
set_option linter.unusedVariables false
section
variable {H : Type} {enc : TypeId × Value → H} {w : World}
theorem rd_stp (fuel : Nat) (cs : List Value) (y : DataW H × List MemPlace) (h : DataW.trod enc Try.prog w 0 (fun _ => true) true fuel 33 cs = some y) : ∃ s : Stp, cs = s.cells := by
  obtain ⟨hl, n, hf⟩ := read_struct Try.underlying33 (by kernel_rfl) (by kernel_rfl) h
  obtain ⟨v0, z0, e0, h0⟩ := hf 0 _ rfl
  obtain ⟨v1, z1, e1, h1⟩ := hf 1 _ rfl
  obtain ⟨a0, i0, _, w0⟩ := DataW.trod_int Try.underlying28 h0
  obtain ⟨a1, i1, _, w1⟩ := DataW.trod_int Try.underlying28 h1
  obtain ⟨k0, rfl, _⟩ := u64_nat w0
  obtain ⟨k1, rfl, _⟩ := u64_nat w1
  simp only [List.cons.injEq, and_true] at i0 i1
  subst i0 i1
  match cs, hl with
  | [x0, x1], _ =>
    simp at e0 e1
    subst e0 e1
    exact ⟨⟨k0, k1⟩, rfl⟩
theorem rd_hed (fuel : Nat) (cs : List Value) (y : DataW H × List MemPlace) (h : DataW.trod enc Try.prog w 0 (fun _ => true) true fuel 36 cs = some y) : ∃ s : Hed, cs = s.cells := by
  obtain ⟨hl, n, hf⟩ := read_struct Try.underlying36 (by kernel_rfl) (by kernel_rfl) h
  obtain ⟨v0, z0, e0, h0⟩ := hf 0 _ rfl
  obtain ⟨v1, z1, e1, h1⟩ := hf 1 _ rfl
  obtain ⟨v2, z2, e2, h2⟩ := hf 2 _ rfl
  obtain ⟨a0, i0, _, w0⟩ := DataW.trod_int Try.underlying28 h0
  obtain ⟨a1, i1, _⟩ := DataW.trod_bool Try.underlying4 h1
  obtain ⟨a2, i2, _⟩ := DataW.trod_bool Try.underlying4 h2
  obtain ⟨k0, rfl, _⟩ := u64_nat w0
  simp only [List.cons.injEq, and_true] at i0 i1 i2
  subst i0 i1 i2
  match cs, hl with
  | [x0, x1, x2], _ =>
    simp at e0 e1 e2
    subst e0 e1 e2
    exact ⟨⟨k0, a1, a2⟩, rfl⟩
theorem rd_lkv (fuel : Nat) (cs : List Value) (y : DataW H × List MemPlace) (h : DataW.trod enc Try.prog w 0 (fun _ => true) true fuel 31 cs = some y) : ∃ s : Lkv, cs = s.cells ∧ Row w s.A (s.k.done.flatMap Stp.cells) ∧ s.k.done.length ≤ maxLen := by
  obtain ⟨hl, n, hf⟩ := read_struct Try.underlying31 (by kernel_rfl) (by kernel_rfl) h
  obtain ⟨v0, z0, e0, h0⟩ := hf 0 _ rfl
  obtain ⟨v1, z1, e1, h1⟩ := hf 1 _ rfl
  obtain ⟨v2, z2, e2, h2⟩ := hf 2 _ rfl
  obtain ⟨v3, z3, e3, h3⟩ := hf 3 _ rfl
  obtain ⟨a0, i0, _, w0⟩ := DataW.trod_int Try.underlying28 h0
  obtain ⟨a1, i1, _, w1⟩ := DataW.trod_int Try.underlying28 h1
  obtain ⟨a2, i2, _, w2⟩ := DataW.trod_int Try.underlying28 h2
  obtain ⟨k0, rfl, _⟩ := u64_nat w0
  obtain ⟨k1, rfl, _⟩ := u64_nat w1
  obtain ⟨k2, rfl, _⟩ := u64_nat w2
  obtain ⟨A, c, xs, i3, hr, hlc, hm, _⟩ := read_slice (cells := Stp.cells) (size := 2) (fun _ => rfl) (by omega) Try.underlying29 (by kernel_rfl) rd_stp h3
  simp only [List.cons.injEq, and_true] at i0 i1 i2 i3
  subst i0 i1 i2 i3
  match cs, hl with
  | [x0, x1, x2, x3], _ =>
    simp at e0 e1 e2 e3
    subst e0 e1 e2 e3
    exact ⟨⟨⟨k0, k1, k2, xs⟩, A, c⟩, rfl, hr, Nat.le_trans hlc hm⟩
set_option maxRecDepth 100000 in
theorem read_look {r : Reach} {b0 : Nat} {v : Value} {d : DataW H} {p : List MemPlace} (hv : Value.okWide Try.prog w r b0 31 v) (h : DataW.Trod enc Try.prog w 0 (fun _ => true) true 31 v d p) :
    ∃ (k : Lok) (A : Option Addr) (c : Nat), v = .agg #[.int .u64 (k.self : Int), .int .u64 (k.start : Int), .int .u64 (k.base : Int), .slice A k.done.length c] ∧ Row w A (k.done.flatMap Stp.cells) ∧ k.done.length ≤ maxLen := by
  obtain ⟨cs, rfl, _⟩ := okWide_struct Try.underlying31 hv
  obtain ⟨fuel, hf⟩ := h
  obtain ⟨s, e, hr, hl⟩ := rd_lkv fuel _ _ hf
  have e' : cs.toList = s.cells := by simpa [Value.cells] using e
  refine ⟨s.k, s.A, s.c, ?_, hr, hl⟩
  congr 1
  exact Array.ext' e'
set_option maxRecDepth 100000 in
theorem read_heads {r : Reach} {b0 : Nat} {v : Value} {d : DataW H} {p : List MemPlace} (hv : Value.okWide Try.prog w r b0 22 v) (h : DataW.Trod enc Try.prog w 0 (fun _ => true) true 22 v d p) :
    ∃ (A : Option Addr) (c : Nat) (l : List Hed), v = .slice A l.length c ∧ Row w A (l.flatMap Hed.cells) ∧ l.length ≤ maxLen := by
  obtain ⟨a0, len, cap, rfl⟩ := okWide_slice Try.underlying22 hv
  obtain ⟨fuel, hf⟩ := h
  obtain ⟨A, c, xs, i3, hr, hlc, hm, _⟩ := read_slice (cells := Hed.cells) (size := 3) (fun _ => rfl) (by omega) Try.underlying22 (by kernel_rfl) rd_hed hf
  simp [Value.cells] at i3
  obtain ⟨rfl, rfl, rfl⟩ := i3
  exact ⟨a0, cap, xs, rfl, hr, Nat.le_trans hlc hm⟩
set_option maxRecDepth 100000 in
theorem read_stamps {r : Reach} {b0 : Nat} {v : Value} {d : DataW H} {p : List MemPlace} (hv : Value.okWide Try.prog w r b0 29 v) (h : DataW.Trod enc Try.prog w 0 (fun _ => true) true 29 v d p) :
    ∃ (A : Option Addr) (c : Nat) (l : List Stp), v = .slice A l.length c ∧ Row w A (l.flatMap Stp.cells) ∧ l.length ≤ maxLen := by
  obtain ⟨a0, len, cap, rfl⟩ := okWide_slice Try.underlying29 hv
  obtain ⟨fuel, hf⟩ := h
  obtain ⟨A, c, xs, i3, hr, hlc, hm, _⟩ := read_slice (cells := Stp.cells) (size := 2) (fun _ => rfl) (by omega) Try.underlying29 (by kernel_rfl) rd_stp hf
  simp [Value.cells] at i3
  obtain ⟨rfl, rfl, rfl⟩ := i3
  exact ⟨a0, cap, xs, rfl, hr, Nat.le_trans hlc hm⟩
end
end Go.Proofs.Ytplknfbdonenmaa
