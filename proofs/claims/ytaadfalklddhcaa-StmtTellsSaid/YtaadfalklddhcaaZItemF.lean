/-
  How records among the arguments read.
  Conditions: none.
-/
import Derived.Test.YtaadfalklddhcaaZFj
import Derived.Test.YtaadfalklddhcaaZEj
namespace Go.Proofs.Ytaadfalklddhcaa
open Go.ChangeShapes Go.WideShapes Go.ChangeAt Go.RowKit Go.Deep
set_option linter.unusedVariables false
section
variable {H : Type} {enc : TypeId × Value → H} {w : World}
/-- A component, in range. -/
def I32 := { v : Int // -2147483648 ≤ v ∧ v < 2147483648 }
def I32.cells (v : I32) : List Value := [.int .i32 v.1]
theorem rd_i32 (fuel : Nat) (cs : List Value) (y : DataW H × List MemPlace) (h : DataW.trod enc Try.prog w 0 (fun _ => true) true fuel 21 cs = some y) : ∃ s : I32, cs = s.cells := by
  obtain ⟨a, i, _, w0⟩ := DataW.trod_int Try.underlying21 h
  have g1 : -2147483648 ≤ a ∧ a ≤ 2147483647 := by simpa [Lit.wf, IntKind.min, IntKind.max, IntKind.signed, IntKind.bits] using w0
  exact ⟨⟨a, g1.1, by omega⟩, i⟩
theorem rd_u8 (fuel : Nat) (cs : List Value) (y : DataW H × List MemPlace) (h : DataW.trod enc Try.prog w 0 (fun _ => true) true fuel 5 cs = some y) : ∃ s : UInt8, cs = [B s] := by
  obtain ⟨a, i, _, w0⟩ := DataW.trod_int Try.underlying5 h
  have g1 : 0 ≤ a ∧ a ≤ 255 := by simpa [Lit.wf, IntKind.min, IntKind.max, IntKind.signed, IntKind.bits] using w0
  refine ⟨UInt8.ofNat a.toNat, ?_⟩
  rw [i]
  unfold B
  congr 2
  rw [UInt8.toNat_ofNat']
  omega
theorem i32s_flat (xs : List I32) : xs.flatMap I32.cells = i32s (xs.map (·.1)) := by
  induction xs with
  | nil => rfl
  | cons a l ih => rw [List.flatMap_cons, ih]; rfl
theorem bs_flat (xs : List UInt8) : xs.flatMap (fun u => [B u]) = bs xs := by
  induction xs with
  | nil => rfl
  | cons a l ih => rw [List.flatMap_cons, ih]; rfl
/-- A record with where its lists lie. -/
structure Itv where
  x : Itm
  A : Option Addr
  c : Nat
  A2 : Option Addr
  c2 : Nat
def Itv.cells (s : Itv) : List Value := [.int .u64 (s.x.key : Int), .slice s.A s.x.vec.length s.c, .slice s.A2 s.x.note.length s.c2]
structure Itv.At (s : Itv) (w : World) : Prop where
  r1 : Row w s.A (i32s s.x.vec)
  r2 : Row w s.A2 (bs s.x.note)
  ok : s.x.Ok
  l1 : s.x.vec.length ≤ s.c
  l2 : s.x.note.length ≤ s.c2
  m1 : s.c ≤ maxLen
  m2 : s.c2 ≤ maxLen
theorem rd_itv (fuel : Nat) (cs : List Value) (y : DataW H × List MemPlace) (h : DataW.trod enc Try.prog w 0 (fun _ => true) true fuel 30 cs = some y) : ∃ s : Itv, cs = s.cells ∧ s.At w := by
  obtain ⟨hl, n, hf⟩ := read_struct Try.underlying30 (by kernel_rfl) (by kernel_rfl) h
  obtain ⟨v0, z0, e0, h0⟩ := hf 0 _ rfl
  obtain ⟨v1, z1, e1, h1⟩ := hf 1 _ rfl
  obtain ⟨v2, z2, e2, h2⟩ := hf 2 _ rfl
  obtain ⟨a0, i0, _, w0⟩ := DataW.trod_int Try.underlying27 h0
  obtain ⟨k0, rfl, hk0⟩ := u64_nat w0
  obtain ⟨A, c, xs, i1, hr1, hlc1, hm1, _⟩ := read_slice (cells := I32.cells) (size := 1) (fun _ => rfl) (by omega) Try.underlying28 (by kernel_rfl) rd_i32 h1
  obtain ⟨A2, c2, l, i2, hr2, hlc2, hm2, _⟩ := read_slice (cells := fun u => [B u]) (size := 1) (fun _ => rfl) (by omega) Try.underlying22 (by kernel_rfl) rd_u8 h2
  rw [i32s_flat] at hr1
  rw [bs_flat] at hr2
  simp only [List.cons.injEq, and_true] at i0 i1 i2
  subst i0 i1 i2
  match cs, hl with
  | [x0, x1, x2], _ =>
    simp at e0 e1 e2
    subst e0 e1 e2
    refine ⟨⟨⟨k0, xs.map (·.1), l⟩, A, c, A2, c2⟩, by simp [Itv.cells], ⟨hr1, hr2, ⟨hk0, fun v hv => ?_⟩, by simpa using hlc1, hlc2, hm1, hm2⟩⟩
    obtain ⟨a, _, rfl⟩ := List.mem_map.1 hv
    exact a.2
set_option maxRecDepth 100000 in
theorem read_item {r : Reach} {b0 : Nat} {v : Value} {d : DataW H} {p : List MemPlace} (hv : Value.okWide Try.prog w r b0 30 v) (h : DataW.Trod enc Try.prog w 0 (fun _ => true) true 30 v d p) :
    ∃ (s : Itv), v = .agg #[.int .u64 (s.x.key : Int), .slice s.A s.x.vec.length s.c, .slice s.A2 s.x.note.length s.c2] ∧ s.At w := by
  obtain ⟨cs, rfl, _⟩ := okWide_struct Try.underlying30 hv
  obtain ⟨fuel, hf⟩ := h
  obtain ⟨s, e, hr⟩ := rd_itv fuel _ _ hf
  have e' : cs.toList = s.cells := by simpa [Value.cells] using e
  refine ⟨s, ?_, hr⟩
  congr 1
  exact Array.ext' e'
end
end Go.Proofs.Ytaadfalklddhcaa
