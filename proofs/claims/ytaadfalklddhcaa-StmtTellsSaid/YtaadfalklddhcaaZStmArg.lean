/-
  How a reply, or a request, among the arguments reads.
  Conditions: none.
-/
import Derived.Test.YtaadfalklddhcaaZItemF
import Derived.Test.YtaadfalklddhcaaZStmR2
import Derived.Test.YtaadfalklddhcaaZStmW8
namespace Go.Proofs.Ytaadfalklddhcaa
open Go.ChangeShapes Go.WideShapes Go.ChangeAt Go.RowKit Go.Deep
set_option linter.unusedVariables false
section
variable {P : Program} {H : Type} {enc : TypeId × Value → H} {w : World}
/-- A struct's cells, field by field (of any number of cells). -/
theorem read_structs {t : TypeId} {fs : Array Field} {fuel : Nat} {cs : List Value} {y : DataW H × List MemPlace} (ht : P.underlying t = some (.struct fs))
    (h : DataW.trod enc P w 0 (fun _ => true) true fuel t cs = some y) : cs.length = P.cellsOf t ∧ ∃ n, ∀ (j : Nat) (f : Field), fs[j]? = some f → ∃ (z : DataW H × List MemPlace), DataW.trod enc P w 0 (fun _ => true) true n f.type ((cs.drop f.offset).take (P.cellsOf f.type)) = some z := by
  obtain ⟨ys, n', hn', hy, hlen, hyl, hf⟩ := DataW.trod_struct ht h
  refine ⟨hlen, n', fun j f hj => ?_⟩
  have hjl : j < fs.size := (Array.getElem?_eq_some_iff.1 hj).1
  have h1 := hf j f hj
  have hys : ys[j]? = some (ys[j]'(by omega)) := List.getElem?_eq_getElem (by omega)
  exact ⟨_, h1.trans hys⟩
end
section
variable {H : Type} {enc : TypeId × Value → H} {w : World}
theorem i64_wf {a : Int} (h : (Lit.int .i64 a).wf = true) : -9223372036854775808 ≤ a ∧ a < 9223372036854775808 := by
  have hb : -9223372036854775808 ≤ a ∧ a ≤ 9223372036854775807 := by simpa [Lit.wf, IntKind.min, IntKind.max, IntKind.signed, IntKind.bits] using h
  omega
abbrev ItvS (w : World) := { s : Itv // s.At w }
abbrev HitS := { h : Nat × Int // h.1 < 18446744073709551616 ∧ -9223372036854775808 ≤ h.2 ∧ h.2 < 9223372036854775808 }
def U64 := { v : Nat // v < 18446744073709551616 }
def U64.cells (v : U64) : List Value := [.int .u64 (v.1 : Int)]
theorem itvS_flat (xs : List (ItvS w)) : xs.flatMap (fun s : ItvS w => s.1.cells) = (xs.map (·.1)).flatMap Itv.cells := by
  induction xs with
  | nil => rfl
  | cons a l ih => rw [List.flatMap_cons, ih, List.map_cons, List.flatMap_cons]
theorem hitS_flat (xs : List HitS) : xs.flatMap (fun s : HitS => hitC s.1) = (xs.map (·.1)).flatMap hitC := by
  induction xs with
  | nil => rfl
  | cons a l ih => rw [List.flatMap_cons, ih, List.map_cons, List.flatMap_cons]
theorem u64s_flat (xs : List U64) : xs.flatMap U64.cells = u64s (xs.map (·.1)) := by
  induction xs with
  | nil => rfl
  | cons a l ih => rw [List.flatMap_cons, ih]; rfl
theorem rd_itvS (fuel : Nat) (cs : List Value) (y : DataW H × List MemPlace) (h : DataW.trod enc Try.prog w 0 (fun _ => true) true fuel 30 cs = some y) : ∃ s : ItvS w, cs = s.1.cells := by
  obtain ⟨s, e, hs⟩ := rd_itv fuel cs y h
  exact ⟨⟨s, hs⟩, e⟩
theorem rd_u64s (fuel : Nat) (cs : List Value) (y : DataW H × List MemPlace) (h : DataW.trod enc Try.prog w 0 (fun _ => true) true fuel 27 cs = some y) : ∃ s : U64, cs = s.cells := by
  obtain ⟨a, i, _, w0⟩ := DataW.trod_int Try.underlying27 h
  obtain ⟨k, rfl, hk⟩ := u64_nat w0
  exact ⟨⟨k, hk⟩, i⟩
theorem rd_hitS (fuel : Nat) (cs : List Value) (y : DataW H × List MemPlace) (h : DataW.trod enc Try.prog w 0 (fun _ => true) true fuel 67 cs = some y) : ∃ s : HitS, cs = hitC s.1 := by
  obtain ⟨hl, n, hf⟩ := read_struct Try.underlying67 (by kernel_rfl) (by kernel_rfl) h
  obtain ⟨v0, z0, e0, h0⟩ := hf 0 _ rfl
  obtain ⟨v1, z1, e1, h1⟩ := hf 1 _ rfl
  obtain ⟨a0, i0, _, w0⟩ := DataW.trod_int Try.underlying27 h0
  obtain ⟨k0, rfl, b0⟩ := u64_nat w0
  obtain ⟨a1, i1, _, w1⟩ := DataW.trod_int Try.underlying2 h1
  simp only [List.cons.injEq, and_true] at i0 i1
  subst i0 i1
  match cs, hl with
  | [x0, x1], _ =>
    simp at e0 e1
    subst e0 e1
    exact ⟨⟨(k0, a1), b0, i64_wf w1⟩, rfl⟩
set_option maxRecDepth 100000 in
set_option maxHeartbeats 4000000 in
theorem rd_reply (fuel : Nat) (cs : List Value) (y : DataW H × List MemPlace) (h : DataW.trod enc Try.prog w 0 (fun _ => true) true fuel 34 cs = some y) : ∃ s : Rpv, cs = s.cells.toList ∧ s.At w := by
  obtain ⟨hl, n, hf⟩ := read_structs Try.underlying34 h
  have cR : Try.prog.cellsOf 34 = 9 := by kernel_rfl
  have c0 : Try.prog.cellsOf 24 = 1 := by kernel_rfl
  have c1 : Try.prog.cellsOf 25 = 1 := by kernel_rfl
  have c2 : Try.prog.cellsOf 26 = 1 := by kernel_rfl
  have c3 : Try.prog.cellsOf 3 = 1 := by kernel_rfl
  have c4 : Try.prog.cellsOf 30 = 3 := by kernel_rfl
  have c5 : Try.prog.cellsOf 31 = 1 := by kernel_rfl
  have c6 : Try.prog.cellsOf 32 = 1 := by kernel_rfl
  rw [cR] at hl
  match cs, hl with
  | [x0, x1, x2, x3, x4, x5, x6, x7, x8], _ =>
    obtain ⟨z0, h0⟩ := hf 0 _ rfl
    obtain ⟨z1, h1⟩ := hf 1 _ rfl
    obtain ⟨z2, h2⟩ := hf 2 _ rfl
    obtain ⟨z3, h3⟩ := hf 3 _ rfl
    obtain ⟨z4, h4⟩ := hf 4 _ rfl
    obtain ⟨z5, h5⟩ := hf 5 _ rfl
    obtain ⟨z6, h6⟩ := hf 6 _ rfl
    change DataW.trod enc Try.prog w 0 (fun _ => true) true n 24 (List.take (Try.prog.cellsOf 24) (List.drop 0 [x0, x1, x2, x3, x4, x5, x6, x7, x8])) = some z0 at h0
    rw [c0] at h0
    change DataW.trod enc Try.prog w 0 (fun _ => true) true n 24 [x0] = some z0 at h0
    change DataW.trod enc Try.prog w 0 (fun _ => true) true n 25 (List.take (Try.prog.cellsOf 25) (List.drop 1 [x0, x1, x2, x3, x4, x5, x6, x7, x8])) = some z1 at h1
    rw [c1] at h1
    change DataW.trod enc Try.prog w 0 (fun _ => true) true n 25 [x1] = some z1 at h1
    change DataW.trod enc Try.prog w 0 (fun _ => true) true n 26 (List.take (Try.prog.cellsOf 26) (List.drop 2 [x0, x1, x2, x3, x4, x5, x6, x7, x8])) = some z2 at h2
    rw [c2] at h2
    change DataW.trod enc Try.prog w 0 (fun _ => true) true n 26 [x2] = some z2 at h2
    change DataW.trod enc Try.prog w 0 (fun _ => true) true n 3 (List.take (Try.prog.cellsOf 3) (List.drop 3 [x0, x1, x2, x3, x4, x5, x6, x7, x8])) = some z3 at h3
    rw [c3] at h3
    change DataW.trod enc Try.prog w 0 (fun _ => true) true n 3 [x3] = some z3 at h3
    change DataW.trod enc Try.prog w 0 (fun _ => true) true n 30 (List.take (Try.prog.cellsOf 30) (List.drop 4 [x0, x1, x2, x3, x4, x5, x6, x7, x8])) = some z4 at h4
    rw [c4] at h4
    change DataW.trod enc Try.prog w 0 (fun _ => true) true n 30 [x4, x5, x6] = some z4 at h4
    change DataW.trod enc Try.prog w 0 (fun _ => true) true n 31 (List.take (Try.prog.cellsOf 31) (List.drop 7 [x0, x1, x2, x3, x4, x5, x6, x7, x8])) = some z5 at h5
    rw [c5] at h5
    change DataW.trod enc Try.prog w 0 (fun _ => true) true n 31 [x7] = some z5 at h5
    change DataW.trod enc Try.prog w 0 (fun _ => true) true n 32 (List.take (Try.prog.cellsOf 32) (List.drop 8 [x0, x1, x2, x3, x4, x5, x6, x7, x8])) = some z6 at h6
    rw [c6] at h6
    change DataW.trod enc Try.prog w 0 (fun _ => true) true n 32 [x8] = some z6 at h6
    obtain ⟨a0, i0, _, w0⟩ := DataW.trod_int Try.underlying24 h0
    obtain ⟨a1, i1, _, w1⟩ := DataW.trod_int Try.underlying25 h1
    obtain ⟨a2, i2, _, w2⟩ := DataW.trod_int Try.underlying26 h2
    obtain ⟨a3, i3, _, w3⟩ := DataW.trod_int Try.underlying3 h3
    obtain ⟨it, i4, hit⟩ := rd_itv n _ _ h4
    obtain ⟨IA, ic, xs, i5, r5, lc5, m5, _⟩ := read_slice (cells := fun s : ItvS w => s.1.cells) (size := 3) (fun _ => rfl) (by omega) Try.underlying31 (by kernel_rfl) rd_itvS h5
    obtain ⟨HA, hc, ys, i6, r6, lc6, m6, _⟩ := read_slice (cells := fun s : HitS => hitC s.1) (size := 2) (fun _ => rfl) (by omega) Try.underlying32 (by kernel_rfl) rd_hitS h6
    rw [itvS_flat] at r5
    rw [hitS_flat] at r6
    simp only [List.cons.injEq, and_true] at i0 i1 i2 i3 i5 i6
    subst i0 i1 i2 i3 i5 i6
    refine ⟨⟨a0, a1, a2, a3, it, IA, ic, xs.map (·.1), HA, hc, ys.map (·.1)⟩, ?_, ⟨hit, r5, fun i hi => ?_, r6, ⟨i64_wf w0, i64_wf w1, i64_wf w2, i64_wf w3, hit.ok, fun i hi => ?_, fun h hh => ?_⟩, by simpa using lc5, by simpa using lc6, m5, m6⟩⟩
    · simp only [Rpv.cells, List.length_map]
      simp only [Itv.cells, List.cons.injEq, and_true] at i4
      obtain ⟨j4, j5, j6⟩ := i4
      rw [j4, j5, j6]
    · obtain ⟨x, _, rfl⟩ := List.mem_map.1 hi
      exact x.2
    · simp only [Rpv.x, List.mem_map] at hi
      obtain ⟨s, ⟨x, _, rfl⟩, rfl⟩ := hi
      exact x.2.ok
    · simp only [Rpv.x, List.mem_map] at hh
      obtain ⟨x, _, rfl⟩ := hh
      exact x.2
set_option maxRecDepth 100000 in
theorem read_reply {r : Reach} {b0 : Nat} {v : Value} {d : DataW H} {p : List MemPlace} (hv : Value.okWide Try.prog w r b0 34 v) (h : DataW.Trod enc Try.prog w 0 (fun _ => true) true 34 v d p) :
    ∃ (s : Rpv), v = .agg s.cells ∧ s.At w := by
  obtain ⟨cs, rfl, _⟩ := okWide_struct Try.underlying34 hv
  obtain ⟨fuel, hf⟩ := h
  obtain ⟨s, e, hr⟩ := rd_reply fuel _ _ hf
  have e' : cs.toList = s.cells.toList := by simpa [Value.cells] using e
  refine ⟨s, ?_, hr⟩
  congr 1
  exact Array.ext' e'
set_option maxRecDepth 100000 in
set_option maxHeartbeats 4000000 in
theorem rd_request (fuel : Nat) (cs : List Value) (y : DataW H × List MemPlace) (h : DataW.trod enc Try.prog w 0 (fun _ => true) true fuel 42 cs = some y) : ∃ s : Rqv, cs = s.cells.toList ∧ s.At w := by
  obtain ⟨hl, n, hf⟩ := read_structs Try.underlying42 h
  have cR : Try.prog.cellsOf 42 = 10 := by kernel_rfl
  have c0 : Try.prog.cellsOf 39 = 1 := by kernel_rfl
  have c1 : Try.prog.cellsOf 30 = 3 := by kernel_rfl
  have c2 : Try.prog.cellsOf 27 = 1 := by kernel_rfl
  have c4 : Try.prog.cellsOf 3 = 1 := by kernel_rfl
  have c5 : Try.prog.cellsOf 28 = 1 := by kernel_rfl
  have c6 : Try.prog.cellsOf 40 = 1 := by kernel_rfl
  rw [cR] at hl
  match cs, hl with
  | [x0, x1, x2, x3, x4, x5, x6, x7, x8, x9], _ =>
    obtain ⟨z0, h0⟩ := hf 0 _ rfl
    obtain ⟨z1, h1⟩ := hf 1 _ rfl
    obtain ⟨z2, h2⟩ := hf 2 _ rfl
    obtain ⟨z3, h3⟩ := hf 3 _ rfl
    obtain ⟨z4, h4⟩ := hf 4 _ rfl
    obtain ⟨z5, h5⟩ := hf 5 _ rfl
    obtain ⟨z6, h6⟩ := hf 6 _ rfl
    obtain ⟨z7, h7⟩ := hf 7 _ rfl
    change DataW.trod enc Try.prog w 0 (fun _ => true) true n 39 (List.take (Try.prog.cellsOf 39) (List.drop 0 [x0, x1, x2, x3, x4, x5, x6, x7, x8, x9])) = some z0 at h0
    rw [c0] at h0
    change DataW.trod enc Try.prog w 0 (fun _ => true) true n 39 [x0] = some z0 at h0
    change DataW.trod enc Try.prog w 0 (fun _ => true) true n 30 (List.take (Try.prog.cellsOf 30) (List.drop 1 [x0, x1, x2, x3, x4, x5, x6, x7, x8, x9])) = some z1 at h1
    rw [c1] at h1
    change DataW.trod enc Try.prog w 0 (fun _ => true) true n 30 [x1, x2, x3] = some z1 at h1
    change DataW.trod enc Try.prog w 0 (fun _ => true) true n 27 (List.take (Try.prog.cellsOf 27) (List.drop 4 [x0, x1, x2, x3, x4, x5, x6, x7, x8, x9])) = some z2 at h2
    rw [c2] at h2
    change DataW.trod enc Try.prog w 0 (fun _ => true) true n 27 [x4] = some z2 at h2
    change DataW.trod enc Try.prog w 0 (fun _ => true) true n 27 (List.take (Try.prog.cellsOf 27) (List.drop 5 [x0, x1, x2, x3, x4, x5, x6, x7, x8, x9])) = some z3 at h3
    rw [c2] at h3
    change DataW.trod enc Try.prog w 0 (fun _ => true) true n 27 [x5] = some z3 at h3
    change DataW.trod enc Try.prog w 0 (fun _ => true) true n 3 (List.take (Try.prog.cellsOf 3) (List.drop 6 [x0, x1, x2, x3, x4, x5, x6, x7, x8, x9])) = some z4 at h4
    rw [c4] at h4
    change DataW.trod enc Try.prog w 0 (fun _ => true) true n 3 [x6] = some z4 at h4
    change DataW.trod enc Try.prog w 0 (fun _ => true) true n 28 (List.take (Try.prog.cellsOf 28) (List.drop 7 [x0, x1, x2, x3, x4, x5, x6, x7, x8, x9])) = some z5 at h5
    rw [c5] at h5
    change DataW.trod enc Try.prog w 0 (fun _ => true) true n 28 [x7] = some z5 at h5
    change DataW.trod enc Try.prog w 0 (fun _ => true) true n 40 (List.take (Try.prog.cellsOf 40) (List.drop 8 [x0, x1, x2, x3, x4, x5, x6, x7, x8, x9])) = some z6 at h6
    rw [c6] at h6
    change DataW.trod enc Try.prog w 0 (fun _ => true) true n 40 [x8] = some z6 at h6
    change DataW.trod enc Try.prog w 0 (fun _ => true) true n 3 (List.take (Try.prog.cellsOf 3) (List.drop 9 [x0, x1, x2, x3, x4, x5, x6, x7, x8, x9])) = some z7 at h7
    rw [c4] at h7
    change DataW.trod enc Try.prog w 0 (fun _ => true) true n 3 [x9] = some z7 at h7
    obtain ⟨a0, i0, _, w0⟩ := DataW.trod_int Try.underlying39 h0
    obtain ⟨it, i1, hit⟩ := rd_itv n _ _ h1
    obtain ⟨b2, i2, _, w2⟩ := DataW.trod_int Try.underlying27 h2
    obtain ⟨k2, rfl, b2⟩ := u64_nat w2
    obtain ⟨b3, i3, _, w3⟩ := DataW.trod_int Try.underlying27 h3
    obtain ⟨k3, rfl, b3⟩ := u64_nat w3
    obtain ⟨a4, i4, _, w4⟩ := DataW.trod_int Try.underlying3 h4
    obtain ⟨QA, qc, xs, i5, r5, lc5, m5, _⟩ := read_slice (cells := I32.cells) (size := 1) (fun _ => rfl) (by omega) Try.underlying28 (by kernel_rfl) rd_i32 h5
    obtain ⟨FA, fc, ys, i6, r6, lc6, m6, _⟩ := read_slice (cells := U64.cells) (size := 1) (fun _ => rfl) (by omega) Try.underlying40 (by kernel_rfl) rd_u64s h6
    obtain ⟨a7, i7, _, w7⟩ := DataW.trod_int Try.underlying3 h7
    rw [i32s_flat] at r5
    rw [u64s_flat] at r6
    simp only [List.cons.injEq, and_true] at i0 i2 i3 i4 i5 i6 i7
    subst i0 i2 i3 i4 i5 i6 i7
    refine ⟨⟨⟨a0, it.x, k2, k3, a4, xs.map (·.1), ys.map (·.1), a7⟩, it.A, it.c, it.A2, it.c2, QA, qc, FA, fc⟩, ?_, ⟨hit.r1, hit.r2, r5, r6, ⟨i64_wf w0, hit.ok, b2, b3, i64_wf w4, fun v hv => ?_, fun v hv => ?_, i64_wf w7⟩, hit.l1, hit.l2, by simpa using lc5, by simpa using lc6, hit.m1, hit.m2, m5, m6⟩⟩
    · simp only [Rqv.cells, rqC, List.length_map]
      simp only [Itv.cells, List.cons.injEq, and_true] at i1
      obtain ⟨j4, j5, j6⟩ := i1
      rw [j4, j5, j6]
    · obtain ⟨x, _, rfl⟩ := List.mem_map.1 hv
      exact x.2
    · obtain ⟨x, _, rfl⟩ := List.mem_map.1 hv
      exact x.2
set_option maxRecDepth 100000 in
theorem read_request {r : Reach} {b0 : Nat} {v : Value} {d : DataW H} {p : List MemPlace} (hv : Value.okWide Try.prog w r b0 42 v) (h : DataW.Trod enc Try.prog w 0 (fun _ => true) true 42 v d p) :
    ∃ (s : Rqv), v = .agg s.cells ∧ s.At w := by
  obtain ⟨cs, rfl, _⟩ := okWide_struct Try.underlying42 hv
  obtain ⟨fuel, hf⟩ := h
  obtain ⟨s, e, hr⟩ := rd_request fuel _ _ hf
  have e' : cs.toList = s.cells.toList := by simpa [Value.cells] using e
  refine ⟨s, ?_, hr⟩
  congr 1
  exact Array.ext' e'
end
end Go.Proofs.Ytaadfalklddhcaa
