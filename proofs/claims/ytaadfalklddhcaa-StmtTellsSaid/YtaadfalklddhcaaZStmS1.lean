/-
  The document's bare request: what its kind has.
  Conditions: the request's lists lie in memory.
-/
import Derived.Test.YtaadfalklddhcaaZStmW9
namespace Go.Proofs.Ytaadfalklddhcaa
open Go.RowKit Go.Sort Go.Lib
set_option linter.unusedVariables false
set_option linter.unusedSimpArgs false
theorem ret_cell1 {P : Program} {fn : Func} {R : Ending → World → Prop} {a : Act} {w : World} {p : Tmp} {ty : TypeId} (h : fn.results = #[.cell p ty]) (g : Nat) (cs : Array Value) (d : TypeDesc)
    (hp : a.tmps.getD p undef = .pointer (some ⟨g, 0, none⟩)) (hB : Blk w g ty cs) (hu : P.underlying ty = some d) (hd : (match d with | .struct _ | .array _ _ => true | _ => false) = true) (hi : (P.info? ty).map (·.size) = some cs.size)
    (hdf : a.defers = []) (hR : R (.returned (.agg cs)) w) : bodyPost P fn R .ret a w :=
  bodyPost_ret (results_cell_row h a.tmps w g ty cs (0, 0) d hp hB hu hd hi) hdf hR
/-- The bare request with where its lists lie. -/
def Rqv.bare (s : Rqv) : Rqv := ⟨StmM.bare s.x, if s.x.kind = 2 then s.A else none, if s.x.kind = 2 then s.c else 0, if s.x.kind = 2 ∨ s.x.kind = 10 then s.A2 else none, if s.x.kind = 2 ∨ s.x.kind = 10 then s.c2 else 0, if s.x.kind = 6 then s.QA else none, if s.x.kind = 6 then s.qc else 0, if s.x.kind = 10 ∨ s.x.kind = 11 then s.FA else none, if s.x.kind = 10 ∨ s.x.kind = 11 then s.fc else 0⟩
theorem bare_2 (ik : Nat) (vec : List Int) (note : List UInt8) (key till : Nat) (n : Int) (q : List Int) (fl : List Nat) (sc : Int) (A : Option Addr) (c : Nat) (A2 : Option Addr) (c2 : Nat) (QA : Option Addr) (qc : Nat) (FA : Option Addr) (fc : Nat) : Rqv.bare ⟨⟨2, ⟨ik, vec, note⟩, key, till, n, q, fl, sc⟩, A, c, A2, c2, QA, qc, FA, fc⟩ = ⟨⟨2, ⟨ik, vec, note⟩, 0, 0, 0, [], [], 0⟩, A, c, A2, c2, none, 0, none, 0⟩ := by simp [Rqv.bare, StmM.bare, StmM.no]
theorem bare_3 (ik : Nat) (vec : List Int) (note : List UInt8) (key till : Nat) (n : Int) (q : List Int) (fl : List Nat) (sc : Int) (A : Option Addr) (c : Nat) (A2 : Option Addr) (c2 : Nat) (QA : Option Addr) (qc : Nat) (FA : Option Addr) (fc : Nat) : Rqv.bare ⟨⟨3, ⟨ik, vec, note⟩, key, till, n, q, fl, sc⟩, A, c, A2, c2, QA, qc, FA, fc⟩ = ⟨⟨3, ⟨0, [], []⟩, key, 0, 0, [], [], 0⟩, none, 0, none, 0, none, 0, none, 0⟩ := by simp [Rqv.bare, StmM.bare, StmM.no]
theorem bare_4 (ik : Nat) (vec : List Int) (note : List UInt8) (key till : Nat) (n : Int) (q : List Int) (fl : List Nat) (sc : Int) (A : Option Addr) (c : Nat) (A2 : Option Addr) (c2 : Nat) (QA : Option Addr) (qc : Nat) (FA : Option Addr) (fc : Nat) : Rqv.bare ⟨⟨4, ⟨ik, vec, note⟩, key, till, n, q, fl, sc⟩, A, c, A2, c2, QA, qc, FA, fc⟩ = ⟨⟨4, ⟨0, [], []⟩, key, 0, 0, [], [], 0⟩, none, 0, none, 0, none, 0, none, 0⟩ := by simp [Rqv.bare, StmM.bare, StmM.no]
theorem bare_5 (ik : Nat) (vec : List Int) (note : List UInt8) (key till : Nat) (n : Int) (q : List Int) (fl : List Nat) (sc : Int) (A : Option Addr) (c : Nat) (A2 : Option Addr) (c2 : Nat) (QA : Option Addr) (qc : Nat) (FA : Option Addr) (fc : Nat) : Rqv.bare ⟨⟨5, ⟨ik, vec, note⟩, key, till, n, q, fl, sc⟩, A, c, A2, c2, QA, qc, FA, fc⟩ = ⟨⟨5, ⟨0, [], []⟩, key, till, n, [], [], 0⟩, none, 0, none, 0, none, 0, none, 0⟩ := by simp [Rqv.bare, StmM.bare, StmM.no]
theorem bare_6 (ik : Nat) (vec : List Int) (note : List UInt8) (key till : Nat) (n : Int) (q : List Int) (fl : List Nat) (sc : Int) (A : Option Addr) (c : Nat) (A2 : Option Addr) (c2 : Nat) (QA : Option Addr) (qc : Nat) (FA : Option Addr) (fc : Nat) : Rqv.bare ⟨⟨6, ⟨ik, vec, note⟩, key, till, n, q, fl, sc⟩, A, c, A2, c2, QA, qc, FA, fc⟩ = ⟨⟨6, ⟨0, [], []⟩, 0, 0, n, q, [], 0⟩, none, 0, none, 0, QA, qc, none, 0⟩ := by simp [Rqv.bare, StmM.bare, StmM.no]
theorem bare_10 (ik : Nat) (vec : List Int) (note : List UInt8) (key till : Nat) (n : Int) (q : List Int) (fl : List Nat) (sc : Int) (A : Option Addr) (c : Nat) (A2 : Option Addr) (c2 : Nat) (QA : Option Addr) (qc : Nat) (FA : Option Addr) (fc : Nat) : Rqv.bare ⟨⟨10, ⟨ik, vec, note⟩, key, till, n, q, fl, sc⟩, A, c, A2, c2, QA, qc, FA, fc⟩ = ⟨⟨10, ⟨ik, [], note⟩, 0, 0, 0, [], fl, sc⟩, none, 0, A2, c2, none, 0, FA, fc⟩ := by simp [Rqv.bare, StmM.bare, StmM.no]
theorem bare_11 (ik : Nat) (vec : List Int) (note : List UInt8) (key till : Nat) (n : Int) (q : List Int) (fl : List Nat) (sc : Int) (A : Option Addr) (c : Nat) (A2 : Option Addr) (c2 : Nat) (QA : Option Addr) (qc : Nat) (FA : Option Addr) (fc : Nat) : Rqv.bare ⟨⟨11, ⟨ik, vec, note⟩, key, till, n, q, fl, sc⟩, A, c, A2, c2, QA, qc, FA, fc⟩ = ⟨⟨11, ⟨0, [], []⟩, 0, 0, n, [], fl, sc⟩, none, 0, none, 0, none, 0, FA, fc⟩ := by simp [Rqv.bare, StmM.bare, StmM.no]
theorem bare_e (kind : Int) (h : kind ≠ 2 ∧ kind ≠ 3 ∧ kind ≠ 4 ∧ kind ≠ 5 ∧ kind ≠ 6 ∧ kind ≠ 10 ∧ kind ≠ 11) (ik : Nat) (vec : List Int) (note : List UInt8) (key till : Nat) (n : Int) (q : List Int) (fl : List Nat) (sc : Int) (A : Option Addr) (c : Nat) (A2 : Option Addr) (c2 : Nat) (QA : Option Addr) (qc : Nat) (FA : Option Addr) (fc : Nat) : Rqv.bare ⟨⟨kind, ⟨ik, vec, note⟩, key, till, n, q, fl, sc⟩, A, c, A2, c2, QA, qc, FA, fc⟩ = ⟨⟨kind, ⟨0, [], []⟩, 0, 0, 0, [], [], 0⟩, none, 0, none, 0, none, 0, none, 0⟩ := by
  obtain ⟨h2, h3, h4, h5, h6, h10, h11⟩ := h
  simp [Rqv.bare, StmM.bare, StmM.no, StmM.nil, h2, h3, h4, h5, h6, h10, h11]
theorem Rqv.At.bare_ {s : Rqv} {w : World} (hs : s.At w) : (Rqv.bare s).At w := by
  have RX := Lib.hid hs
  obtain ⟨⟨kind, ⟨ik, vec, note⟩, key, till, n, q, fl, sc⟩, A, c, A2, c2, QA, qc, FA, fc⟩ := s
  by_cases k2 : kind = 2
  · subst k2; rw [bare_2]; exact ⟨RX.out.r1, RX.out.r2, .inl rfl, .inl rfl, ⟨by simp, RX.out.ok.hit, by simp, by simp, by simp, (fun v hv => by cases hv), (fun v hv => by cases hv), by simp⟩, RX.out.l1, RX.out.l2, Nat.zero_le _, Nat.zero_le _, RX.out.m1, RX.out.m2, Nat.zero_le _, Nat.zero_le _⟩
  by_cases k3 : kind = 3
  · subst k3; rw [bare_3]; exact ⟨.inl rfl, .inl rfl, .inl rfl, .inl rfl, ⟨by simp, StmM.no_ok, RX.out.ok.hkey, by simp, by simp, (fun v hv => by cases hv), (fun v hv => by cases hv), by simp⟩, Nat.zero_le _, Nat.zero_le _, Nat.zero_le _, Nat.zero_le _, Nat.zero_le _, Nat.zero_le _, Nat.zero_le _, Nat.zero_le _⟩
  by_cases k4 : kind = 4
  · subst k4; rw [bare_4]; exact ⟨.inl rfl, .inl rfl, .inl rfl, .inl rfl, ⟨by simp, StmM.no_ok, RX.out.ok.hkey, by simp, by simp, (fun v hv => by cases hv), (fun v hv => by cases hv), by simp⟩, Nat.zero_le _, Nat.zero_le _, Nat.zero_le _, Nat.zero_le _, Nat.zero_le _, Nat.zero_le _, Nat.zero_le _, Nat.zero_le _⟩
  by_cases k5 : kind = 5
  · subst k5; rw [bare_5]; exact ⟨.inl rfl, .inl rfl, .inl rfl, .inl rfl, ⟨by simp, StmM.no_ok, RX.out.ok.hkey, RX.out.ok.hto, RX.out.ok.hn, (fun v hv => by cases hv), (fun v hv => by cases hv), by simp⟩, Nat.zero_le _, Nat.zero_le _, Nat.zero_le _, Nat.zero_le _, Nat.zero_le _, Nat.zero_le _, Nat.zero_le _, Nat.zero_le _⟩
  by_cases k6 : kind = 6
  · subst k6; rw [bare_6]; exact ⟨.inl rfl, .inl rfl, RX.out.r3, .inl rfl, ⟨by simp, StmM.no_ok, by simp, by simp, RX.out.ok.hn, RX.out.ok.hq, (fun v hv => by cases hv), by simp⟩, Nat.zero_le _, Nat.zero_le _, RX.out.l3, Nat.zero_le _, Nat.zero_le _, Nat.zero_le _, RX.out.m3, Nat.zero_le _⟩
  by_cases k10 : kind = 10
  · subst k10; rw [bare_10]; exact ⟨.inl rfl, RX.out.r2, .inl rfl, RX.out.r4, ⟨by simp, ⟨RX.out.ok.hit.hk, (fun v hv => by cases hv)⟩, by simp, by simp, by simp, (fun v hv => by cases hv), RX.out.ok.hfl, RX.out.ok.hsc⟩, Nat.zero_le _, RX.out.l2, Nat.zero_le _, RX.out.l4, Nat.zero_le _, RX.out.m2, Nat.zero_le _, RX.out.m4⟩
  by_cases k11 : kind = 11
  · subst k11; rw [bare_11]; exact ⟨.inl rfl, .inl rfl, .inl rfl, RX.out.r4, ⟨by simp, StmM.no_ok, by simp, by simp, RX.out.ok.hn, (fun v hv => by cases hv), RX.out.ok.hfl, RX.out.ok.hsc⟩, Nat.zero_le _, Nat.zero_le _, Nat.zero_le _, RX.out.l4, Nat.zero_le _, Nat.zero_le _, Nat.zero_le _, RX.out.m4⟩
  rw [bare_e kind ⟨k2, k3, k4, k5, k6, k10, k11⟩]; exact ⟨.inl rfl, .inl rfl, .inl rfl, .inl rfl, ⟨RX.out.ok.hkind, StmM.no_ok, by simp, by simp, by simp, (fun v hv => by cases hv), (fun v hv => by cases hv), by simp⟩, Nat.zero_le _, Nat.zero_le _, Nat.zero_le _, Nat.zero_le _, Nat.zero_le _, Nat.zero_le _, Nat.zero_le _, Nat.zero_le _⟩
theorem Rqv.bare_x (s : Rqv) : (Rqv.bare s).x = StmM.bare s.x := rfl
set_option maxRecDepth 100000 in
set_option maxHeartbeats 8000000 in
theorem bare_any (s : Rqv) (w : World) : Calls Try.prog 77 #[.agg s.cells] w fun e w' => e = .returned (.agg (Rqv.bare s).cells) ∧ Below w.heap.size w w' := by
  obtain ⟨⟨kind, ⟨ik, vec, note⟩, key, till, n, q, fl, sc⟩, A, c, A2, c2, QA, qc, FA, fc⟩ := s
  obtain ⟨BV, hBV⟩ : ∃ v, (Rqv.bare ⟨⟨kind, ⟨ik, vec, note⟩, key, till, n, q, fl, sc⟩, A, c, A2, c2, QA, qc, FA, fc⟩).cells = v := ⟨_, rfl⟩
  rw [hBV]
  have HBV := Lib.hid hBV
  clear hBV
  simp only [Rqv.cells, rqC]
  have b0 : Below w.heap.size w (((w.alloc (.cells #[.int .i64 kind, .int .u64 (ik : Int), .slice A vec.length c, .slice A2 note.length c2, .int .u64 (key : Int), .int .u64 (till : Int), .int .i64 n, .slice QA q.length qc, .slice FA fl.length fc, .int .i64 sc] 42)).alloc (.cells #[.int .i64 0, .int .u64 0, .slice none 0 0, .slice none 0 0, .int .u64 0, .int .u64 0, .int .i64 0, .slice none 0 0, .slice none 0 0, .int .i64 0] 42)).alloc (.cells #[.int .i64 kind, .int .u64 0, .slice none 0 0, .slice none 0 0, .int .u64 0, .int .u64 0, .int .i64 0, .slice none 0 0, .slice none 0 0, .int .i64 0] 42)) := (((Below.refl _ _).alloc (Nat.le_refl _) _).alloc (by simp) _).alloc (by simp; omega) _
  have U1 := ((Blk.new w 42 #[.int .i64 kind, .int .u64 (ik : Int), .slice A vec.length c, .slice A2 note.length c2, .int .u64 (key : Int), .int .u64 (till : Int), .int .i64 n, .slice QA q.length qc, .slice FA fl.length fc, .int .i64 sc]).alloc (.cells #[.int .i64 0, .int .u64 0, .slice none 0 0, .slice none 0 0, .int .u64 0, .int .u64 0, .int .i64 0, .slice none 0 0, .slice none 0 0, .int .i64 0] 42)).alloc (.cells #[.int .i64 kind, .int .u64 0, .slice none 0 0, .slice none 0 0, .int .u64 0, .int .u64 0, .int .i64 0, .slice none 0 0, .slice none 0 0, .int .i64 0] 42)
  have U3 := (Blk.new (w.alloc (.cells #[.int .i64 kind, .int .u64 (ik : Int), .slice A vec.length c, .slice A2 note.length c2, .int .u64 (key : Int), .int .u64 (till : Int), .int .i64 n, .slice QA q.length qc, .slice FA fl.length fc, .int .i64 sc] 42)) 42 #[.int .i64 0, .int .u64 0, .slice none 0 0, .slice none 0 0, .int .u64 0, .int .u64 0, .int .i64 0, .slice none 0 0, .slice none 0 0, .int .i64 0]).alloc (.cells #[.int .i64 kind, .int .u64 0, .slice none 0 0, .slice none 0 0, .int .u64 0, .int .u64 0, .int .i64 0, .slice none 0 0, .slice none 0 0, .int .i64 0] 42)
  have U2 := Blk.new ((w.alloc (.cells #[.int .i64 kind, .int .u64 (ik : Int), .slice A vec.length c, .slice A2 note.length c2, .int .u64 (key : Int), .int .u64 (till : Int), .int .i64 n, .slice QA q.length qc, .slice FA fl.length fc, .int .i64 sc] 42)).alloc (.cells #[.int .i64 0, .int .u64 0, .slice none 0 0, .slice none 0 0, .int .u64 0, .int .u64 0, .int .i64 0, .slice none 0 0, .slice none 0 0, .int .i64 0] 42)) 42 #[.int .i64 kind, .int .u64 0, .slice none 0 0, .slice none 0 0, .int .u64 0, .int .u64 0, .int .i64 0, .slice none 0 0, .slice none 0 0, .int .i64 0]
  have e1 : (w.alloc (.cells #[.int .i64 kind, .int .u64 (ik : Int), .slice A vec.length c, .slice A2 note.length c2, .int .u64 (key : Int), .int .u64 (till : Int), .int .i64 n, .slice QA q.length qc, .slice FA fl.length fc, .int .i64 sc] 42)).heap.size = w.heap.size + 1 := by simp
  have e2 : ((w.alloc (.cells #[.int .i64 kind, .int .u64 (ik : Int), .slice A vec.length c, .slice A2 note.length c2, .int .u64 (key : Int), .int .u64 (till : Int), .int .i64 n, .slice QA q.length qc, .slice FA fl.length fc, .int .i64 sc] 42)).alloc (.cells #[.int .i64 0, .int .u64 0, .slice none 0 0, .slice none 0 0, .int .u64 0, .int .u64 0, .int .i64 0, .slice none 0 0, .slice none 0 0, .int .i64 0] 42)).heap.size = w.heap.size + 1 + 1 := by simp
  rw [e1] at U3
  rw [e2] at U2
  clear e1 e2
  go_enter Try.func77, Try.ntmps77
  go_upto_region 2 with fail
  generalize ((w.alloc (.cells #[.int .i64 kind, .int .u64 (ik : Int), .slice A vec.length c, .slice A2 note.length c2, .int .u64 (key : Int), .int .u64 (till : Int), .int .i64 n, .slice QA q.length qc, .slice FA fl.length fc, .int .i64 sc] 42)).alloc (.cells #[.int .i64 0, .int .u64 0, .slice none 0 0, .slice none 0 0, .int .u64 0, .int .u64 0, .int .i64 0, .slice none 0 0, .slice none 0 0, .int .i64 0] 42)).alloc (.cells #[.int .i64 kind, .int .u64 0, .slice none 0 0, .slice none 0 0, .int .u64 0, .int .u64 0, .int .i64 0, .slice none 0 0, .slice none 0 0, .int .i64 0] 42) = V0 at *
  obtain ⟨g, hg⟩ : ∃ g, w.heap.size = g := ⟨_, rfl⟩
  have HG := Lib.hid hg
  rw [hg] at U1 U2 U3 b0
  simp only [hg]
  have B0 := Lib.hid b0
  clear hg b0
  have HU := Lib.hid (And.intro U1 (And.intro U2 U3))
  obtain ⟨d0, d1, d2, d3, d4, d5, d6, d7, d8, d9⟩ := U1.c10
  obtain ⟨e0, e1, e2, e3, e4, e5, e6, e7, e8, e9⟩ := U2.c10
  clear U1 U2 U3
  by_cases k2 : kind = 2
  · subst k2
    as_aux_lemma =>
    have hy : Blk (((V0.setCell ⟨g + 1 + 1, 1, none⟩ (.int .u64 (ik : Int))).setCell ⟨g + 1 + 1, 2, none⟩ (.slice A vec.length c)).setCell ⟨g + 1 + 1, 3, none⟩ (.slice A2 note.length c2)) (g + 1 + 1) 42 #[.int .i64 2, .int .u64 (ik : Int), .slice A vec.length c, .slice A2 note.length c2, .int .u64 0, .int .u64 0, .int .i64 0, .slice none 0 0, .slice none 0 0, .int .i64 0] := (((HU.out.2.1.set_ 1 (.int .u64 (ik : Int))).set_ 2 (.slice A vec.length c)).set_ 3 (.slice A2 note.length c2))
    have h3 : Blk (((V0.setCell ⟨g + 1 + 1, 1, none⟩ (.int .u64 (ik : Int))).setCell ⟨g + 1 + 1, 2, none⟩ (.slice A vec.length c)).setCell ⟨g + 1 + 1, 3, none⟩ (.slice A2 note.length c2)) (g + 1) 42 #[.int .i64 0, .int .u64 0, .slice none 0 0, .slice none 0 0, .int .u64 0, .int .u64 0, .int .i64 0, .slice none 0 0, .slice none 0 0, .int .i64 0] := (((HU.out.2.2.far (p := ⟨g + 1 + 1, 1, none⟩) (by simp) (.int .u64 (ik : Int))).far (p := ⟨g + 1 + 1, 2, none⟩) (by simp) (.slice A vec.length c)).far (p := ⟨g + 1 + 1, 3, none⟩) (by simp) (.slice A2 note.length c2))
    have hb1 : Below g w (((V0.setCell ⟨g + 1 + 1, 1, none⟩ (.int .u64 (ik : Int))).setCell ⟨g + 1 + 1, 2, none⟩ (.slice A vec.length c)).setCell ⟨g + 1 + 1, 3, none⟩ (.slice A2 note.length c2)) := sets_below B0.out (by have := HU.out.2.1.lt; omega) (by omega : g ≤ g + 1 + 1) [(1, .int .u64 (ik : Int)), (2, .slice A vec.length c), (3, .slice A2 note.length c2)]
    have fz1 := HU.out.2.1.frozen 1
    have fz2 := HU.out.2.1.frozen 2
    have fz3 := HU.out.2.1.frozen 3
    go_upto_region 24 with fail
    generalize (((V0.setCell ⟨g + 1 + 1, 1, none⟩ (.int .u64 (ik : Int))).setCell ⟨g + 1 + 1, 2, none⟩ (.slice A vec.length c)).setCell ⟨g + 1 + 1, 3, none⟩ (.slice A2 note.length c2)) = V1 at *
    have hbv : BV = #[.int .i64 2, .int .u64 (ik : Int), .slice A vec.length c, .slice A2 note.length c2, .int .u64 0, .int .u64 0, .int .i64 0, .slice none 0 0, .slice none 0 0, .int .i64 0] := HBV.out.symm.trans (by rw [bare_2]; rfl)
    subst hbv
    have B1 := Lib.hid hb1
    clear hb1
    go_wp2_with (first | (refine wpl_load_row rfl _ (.tmp 3) rfl (g + 1 + 1) (by go_simp) _ #[.int .i64 2, .int .u64 (ik : Int), .slice A vec.length c, .slice A2 note.length c2, .int .u64 0, .int .u64 0, .int .i64 0, .slice none 0 0, .slice none 0 0, .int .i64 0] (0, 0) _ hy Try.underlying42 rfl (by kernel_rfl) ?_) | (refine wpList_store_row rfl _ (.tmp 2) (.tmp 68) rfl (g + 1) #[.int .i64 2, .int .u64 (ik : Int), .slice A vec.length c, .slice A2 note.length c2, .int .u64 0, .int .u64 0, .int .i64 0, .slice none 0 0, .slice none 0 0, .int .i64 0] (by go_simp) (by go_simp) _ _ h3 (by kernel_rfl) rfl (by simp [Value.oneCell']) ?_))
    refine ret_cell1 rfl (g + 1) #[.int .i64 2, .int .u64 (ik : Int), .slice A vec.length c, .slice A2 note.length c2, .int .u64 0, .int .u64 0, .int .i64 0, .slice none 0 0, .slice none 0 0, .int .i64 0] _ rfl (h3.setRow_ _) Try.underlying42 rfl (by kernel_rfl) rfl ?_
    exact ⟨rfl, by rw [HG.out]; exact below_grown B1.out (grownBy_setRow _ _ _) (by have := h3.lt; omega) (by omega)⟩
  by_cases k3 : kind = 3
  · subst k3
    as_aux_lemma =>
    have hy : Blk (V0.setCell ⟨g + 1 + 1, 4, none⟩ (.int .u64 (key : Int))) (g + 1 + 1) 42 #[.int .i64 3, .int .u64 0, .slice none 0 0, .slice none 0 0, .int .u64 (key : Int), .int .u64 0, .int .i64 0, .slice none 0 0, .slice none 0 0, .int .i64 0] := (HU.out.2.1.set_ 4 (.int .u64 (key : Int)))
    have h3 : Blk (V0.setCell ⟨g + 1 + 1, 4, none⟩ (.int .u64 (key : Int))) (g + 1) 42 #[.int .i64 0, .int .u64 0, .slice none 0 0, .slice none 0 0, .int .u64 0, .int .u64 0, .int .i64 0, .slice none 0 0, .slice none 0 0, .int .i64 0] := (HU.out.2.2.far (p := ⟨g + 1 + 1, 4, none⟩) (by simp) (.int .u64 (key : Int)))
    have hb1 : Below g w (V0.setCell ⟨g + 1 + 1, 4, none⟩ (.int .u64 (key : Int))) := sets_below B0.out (by have := HU.out.2.1.lt; omega) (by omega : g ≤ g + 1 + 1) [(4, .int .u64 (key : Int))]
    have fz4 := HU.out.2.1.frozen 4
    go_upto_region 24 with fail
    generalize (V0.setCell ⟨g + 1 + 1, 4, none⟩ (.int .u64 (key : Int))) = V1 at *
    have hbv : BV = #[.int .i64 3, .int .u64 0, .slice none 0 0, .slice none 0 0, .int .u64 (key : Int), .int .u64 0, .int .i64 0, .slice none 0 0, .slice none 0 0, .int .i64 0] := HBV.out.symm.trans (by rw [bare_3]; rfl)
    subst hbv
    have B1 := Lib.hid hb1
    clear hb1
    go_wp2_with (first | (refine wpl_load_row rfl _ (.tmp 3) rfl (g + 1 + 1) (by go_simp) _ #[.int .i64 3, .int .u64 0, .slice none 0 0, .slice none 0 0, .int .u64 (key : Int), .int .u64 0, .int .i64 0, .slice none 0 0, .slice none 0 0, .int .i64 0] (0, 0) _ hy Try.underlying42 rfl (by kernel_rfl) ?_) | (refine wpList_store_row rfl _ (.tmp 2) (.tmp 68) rfl (g + 1) #[.int .i64 3, .int .u64 0, .slice none 0 0, .slice none 0 0, .int .u64 (key : Int), .int .u64 0, .int .i64 0, .slice none 0 0, .slice none 0 0, .int .i64 0] (by go_simp) (by go_simp) _ _ h3 (by kernel_rfl) rfl (by simp [Value.oneCell']) ?_))
    refine ret_cell1 rfl (g + 1) #[.int .i64 3, .int .u64 0, .slice none 0 0, .slice none 0 0, .int .u64 (key : Int), .int .u64 0, .int .i64 0, .slice none 0 0, .slice none 0 0, .int .i64 0] _ rfl (h3.setRow_ _) Try.underlying42 rfl (by kernel_rfl) rfl ?_
    exact ⟨rfl, by rw [HG.out]; exact below_grown B1.out (grownBy_setRow _ _ _) (by have := h3.lt; omega) (by omega)⟩
  by_cases k4 : kind = 4
  · subst k4
    as_aux_lemma =>
    have hy : Blk (V0.setCell ⟨g + 1 + 1, 4, none⟩ (.int .u64 (key : Int))) (g + 1 + 1) 42 #[.int .i64 4, .int .u64 0, .slice none 0 0, .slice none 0 0, .int .u64 (key : Int), .int .u64 0, .int .i64 0, .slice none 0 0, .slice none 0 0, .int .i64 0] := (HU.out.2.1.set_ 4 (.int .u64 (key : Int)))
    have h3 : Blk (V0.setCell ⟨g + 1 + 1, 4, none⟩ (.int .u64 (key : Int))) (g + 1) 42 #[.int .i64 0, .int .u64 0, .slice none 0 0, .slice none 0 0, .int .u64 0, .int .u64 0, .int .i64 0, .slice none 0 0, .slice none 0 0, .int .i64 0] := (HU.out.2.2.far (p := ⟨g + 1 + 1, 4, none⟩) (by simp) (.int .u64 (key : Int)))
    have hb1 : Below g w (V0.setCell ⟨g + 1 + 1, 4, none⟩ (.int .u64 (key : Int))) := sets_below B0.out (by have := HU.out.2.1.lt; omega) (by omega : g ≤ g + 1 + 1) [(4, .int .u64 (key : Int))]
    have fz4 := HU.out.2.1.frozen 4
    go_upto_region 24 with fail
    generalize (V0.setCell ⟨g + 1 + 1, 4, none⟩ (.int .u64 (key : Int))) = V1 at *
    have hbv : BV = #[.int .i64 4, .int .u64 0, .slice none 0 0, .slice none 0 0, .int .u64 (key : Int), .int .u64 0, .int .i64 0, .slice none 0 0, .slice none 0 0, .int .i64 0] := HBV.out.symm.trans (by rw [bare_4]; rfl)
    subst hbv
    have B1 := Lib.hid hb1
    clear hb1
    go_wp2_with (first | (refine wpl_load_row rfl _ (.tmp 3) rfl (g + 1 + 1) (by go_simp) _ #[.int .i64 4, .int .u64 0, .slice none 0 0, .slice none 0 0, .int .u64 (key : Int), .int .u64 0, .int .i64 0, .slice none 0 0, .slice none 0 0, .int .i64 0] (0, 0) _ hy Try.underlying42 rfl (by kernel_rfl) ?_) | (refine wpList_store_row rfl _ (.tmp 2) (.tmp 68) rfl (g + 1) #[.int .i64 4, .int .u64 0, .slice none 0 0, .slice none 0 0, .int .u64 (key : Int), .int .u64 0, .int .i64 0, .slice none 0 0, .slice none 0 0, .int .i64 0] (by go_simp) (by go_simp) _ _ h3 (by kernel_rfl) rfl (by simp [Value.oneCell']) ?_))
    refine ret_cell1 rfl (g + 1) #[.int .i64 4, .int .u64 0, .slice none 0 0, .slice none 0 0, .int .u64 (key : Int), .int .u64 0, .int .i64 0, .slice none 0 0, .slice none 0 0, .int .i64 0] _ rfl (h3.setRow_ _) Try.underlying42 rfl (by kernel_rfl) rfl ?_
    exact ⟨rfl, by rw [HG.out]; exact below_grown B1.out (grownBy_setRow _ _ _) (by have := h3.lt; omega) (by omega)⟩
  by_cases k5 : kind = 5
  · subst k5
    as_aux_lemma =>
    have hy : Blk (((V0.setCell ⟨g + 1 + 1, 4, none⟩ (.int .u64 (key : Int))).setCell ⟨g + 1 + 1, 5, none⟩ (.int .u64 (till : Int))).setCell ⟨g + 1 + 1, 6, none⟩ (.int .i64 n)) (g + 1 + 1) 42 #[.int .i64 5, .int .u64 0, .slice none 0 0, .slice none 0 0, .int .u64 (key : Int), .int .u64 (till : Int), .int .i64 n, .slice none 0 0, .slice none 0 0, .int .i64 0] := (((HU.out.2.1.set_ 4 (.int .u64 (key : Int))).set_ 5 (.int .u64 (till : Int))).set_ 6 (.int .i64 n))
    have h3 : Blk (((V0.setCell ⟨g + 1 + 1, 4, none⟩ (.int .u64 (key : Int))).setCell ⟨g + 1 + 1, 5, none⟩ (.int .u64 (till : Int))).setCell ⟨g + 1 + 1, 6, none⟩ (.int .i64 n)) (g + 1) 42 #[.int .i64 0, .int .u64 0, .slice none 0 0, .slice none 0 0, .int .u64 0, .int .u64 0, .int .i64 0, .slice none 0 0, .slice none 0 0, .int .i64 0] := (((HU.out.2.2.far (p := ⟨g + 1 + 1, 4, none⟩) (by simp) (.int .u64 (key : Int))).far (p := ⟨g + 1 + 1, 5, none⟩) (by simp) (.int .u64 (till : Int))).far (p := ⟨g + 1 + 1, 6, none⟩) (by simp) (.int .i64 n))
    have hb1 : Below g w (((V0.setCell ⟨g + 1 + 1, 4, none⟩ (.int .u64 (key : Int))).setCell ⟨g + 1 + 1, 5, none⟩ (.int .u64 (till : Int))).setCell ⟨g + 1 + 1, 6, none⟩ (.int .i64 n)) := sets_below B0.out (by have := HU.out.2.1.lt; omega) (by omega : g ≤ g + 1 + 1) [(4, .int .u64 (key : Int)), (5, .int .u64 (till : Int)), (6, .int .i64 n)]
    have fz4 := HU.out.2.1.frozen 4
    have fz5 := HU.out.2.1.frozen 5
    have fz6 := HU.out.2.1.frozen 6
    go_upto_region 24 with fail
    generalize (((V0.setCell ⟨g + 1 + 1, 4, none⟩ (.int .u64 (key : Int))).setCell ⟨g + 1 + 1, 5, none⟩ (.int .u64 (till : Int))).setCell ⟨g + 1 + 1, 6, none⟩ (.int .i64 n)) = V1 at *
    have hbv : BV = #[.int .i64 5, .int .u64 0, .slice none 0 0, .slice none 0 0, .int .u64 (key : Int), .int .u64 (till : Int), .int .i64 n, .slice none 0 0, .slice none 0 0, .int .i64 0] := HBV.out.symm.trans (by rw [bare_5]; rfl)
    subst hbv
    have B1 := Lib.hid hb1
    clear hb1
    go_wp2_with (first | (refine wpl_load_row rfl _ (.tmp 3) rfl (g + 1 + 1) (by go_simp) _ #[.int .i64 5, .int .u64 0, .slice none 0 0, .slice none 0 0, .int .u64 (key : Int), .int .u64 (till : Int), .int .i64 n, .slice none 0 0, .slice none 0 0, .int .i64 0] (0, 0) _ hy Try.underlying42 rfl (by kernel_rfl) ?_) | (refine wpList_store_row rfl _ (.tmp 2) (.tmp 68) rfl (g + 1) #[.int .i64 5, .int .u64 0, .slice none 0 0, .slice none 0 0, .int .u64 (key : Int), .int .u64 (till : Int), .int .i64 n, .slice none 0 0, .slice none 0 0, .int .i64 0] (by go_simp) (by go_simp) _ _ h3 (by kernel_rfl) rfl (by simp [Value.oneCell']) ?_))
    refine ret_cell1 rfl (g + 1) #[.int .i64 5, .int .u64 0, .slice none 0 0, .slice none 0 0, .int .u64 (key : Int), .int .u64 (till : Int), .int .i64 n, .slice none 0 0, .slice none 0 0, .int .i64 0] _ rfl (h3.setRow_ _) Try.underlying42 rfl (by kernel_rfl) rfl ?_
    exact ⟨rfl, by rw [HG.out]; exact below_grown B1.out (grownBy_setRow _ _ _) (by have := h3.lt; omega) (by omega)⟩
  by_cases k6 : kind = 6
  · subst k6
    as_aux_lemma =>
    have hy : Blk ((V0.setCell ⟨g + 1 + 1, 6, none⟩ (.int .i64 n)).setCell ⟨g + 1 + 1, 7, none⟩ (.slice QA q.length qc)) (g + 1 + 1) 42 #[.int .i64 6, .int .u64 0, .slice none 0 0, .slice none 0 0, .int .u64 0, .int .u64 0, .int .i64 n, .slice QA q.length qc, .slice none 0 0, .int .i64 0] := ((HU.out.2.1.set_ 6 (.int .i64 n)).set_ 7 (.slice QA q.length qc))
    have h3 : Blk ((V0.setCell ⟨g + 1 + 1, 6, none⟩ (.int .i64 n)).setCell ⟨g + 1 + 1, 7, none⟩ (.slice QA q.length qc)) (g + 1) 42 #[.int .i64 0, .int .u64 0, .slice none 0 0, .slice none 0 0, .int .u64 0, .int .u64 0, .int .i64 0, .slice none 0 0, .slice none 0 0, .int .i64 0] := ((HU.out.2.2.far (p := ⟨g + 1 + 1, 6, none⟩) (by simp) (.int .i64 n)).far (p := ⟨g + 1 + 1, 7, none⟩) (by simp) (.slice QA q.length qc))
    have hb1 : Below g w ((V0.setCell ⟨g + 1 + 1, 6, none⟩ (.int .i64 n)).setCell ⟨g + 1 + 1, 7, none⟩ (.slice QA q.length qc)) := sets_below B0.out (by have := HU.out.2.1.lt; omega) (by omega : g ≤ g + 1 + 1) [(6, .int .i64 n), (7, .slice QA q.length qc)]
    have fz6 := HU.out.2.1.frozen 6
    have fz7 := HU.out.2.1.frozen 7
    go_upto_region 24 with fail
    generalize ((V0.setCell ⟨g + 1 + 1, 6, none⟩ (.int .i64 n)).setCell ⟨g + 1 + 1, 7, none⟩ (.slice QA q.length qc)) = V1 at *
    have hbv : BV = #[.int .i64 6, .int .u64 0, .slice none 0 0, .slice none 0 0, .int .u64 0, .int .u64 0, .int .i64 n, .slice QA q.length qc, .slice none 0 0, .int .i64 0] := HBV.out.symm.trans (by rw [bare_6]; rfl)
    subst hbv
    have B1 := Lib.hid hb1
    clear hb1
    go_wp2_with (first | (refine wpl_load_row rfl _ (.tmp 3) rfl (g + 1 + 1) (by go_simp) _ #[.int .i64 6, .int .u64 0, .slice none 0 0, .slice none 0 0, .int .u64 0, .int .u64 0, .int .i64 n, .slice QA q.length qc, .slice none 0 0, .int .i64 0] (0, 0) _ hy Try.underlying42 rfl (by kernel_rfl) ?_) | (refine wpList_store_row rfl _ (.tmp 2) (.tmp 68) rfl (g + 1) #[.int .i64 6, .int .u64 0, .slice none 0 0, .slice none 0 0, .int .u64 0, .int .u64 0, .int .i64 n, .slice QA q.length qc, .slice none 0 0, .int .i64 0] (by go_simp) (by go_simp) _ _ h3 (by kernel_rfl) rfl (by simp [Value.oneCell']) ?_))
    refine ret_cell1 rfl (g + 1) #[.int .i64 6, .int .u64 0, .slice none 0 0, .slice none 0 0, .int .u64 0, .int .u64 0, .int .i64 n, .slice QA q.length qc, .slice none 0 0, .int .i64 0] _ rfl (h3.setRow_ _) Try.underlying42 rfl (by kernel_rfl) rfl ?_
    exact ⟨rfl, by rw [HG.out]; exact below_grown B1.out (grownBy_setRow _ _ _) (by have := h3.lt; omega) (by omega)⟩
  by_cases k10 : kind = 10
  · subst k10
    as_aux_lemma =>
    have hy : Blk ((((V0.setCell ⟨g + 1 + 1, 1, none⟩ (.int .u64 (ik : Int))).setCell ⟨g + 1 + 1, 3, none⟩ (.slice A2 note.length c2)).setCell ⟨g + 1 + 1, 8, none⟩ (.slice FA fl.length fc)).setCell ⟨g + 1 + 1, 9, none⟩ (.int .i64 sc)) (g + 1 + 1) 42 #[.int .i64 10, .int .u64 (ik : Int), .slice none 0 0, .slice A2 note.length c2, .int .u64 0, .int .u64 0, .int .i64 0, .slice none 0 0, .slice FA fl.length fc, .int .i64 sc] := ((((HU.out.2.1.set_ 1 (.int .u64 (ik : Int))).set_ 3 (.slice A2 note.length c2)).set_ 8 (.slice FA fl.length fc)).set_ 9 (.int .i64 sc))
    have h3 : Blk ((((V0.setCell ⟨g + 1 + 1, 1, none⟩ (.int .u64 (ik : Int))).setCell ⟨g + 1 + 1, 3, none⟩ (.slice A2 note.length c2)).setCell ⟨g + 1 + 1, 8, none⟩ (.slice FA fl.length fc)).setCell ⟨g + 1 + 1, 9, none⟩ (.int .i64 sc)) (g + 1) 42 #[.int .i64 0, .int .u64 0, .slice none 0 0, .slice none 0 0, .int .u64 0, .int .u64 0, .int .i64 0, .slice none 0 0, .slice none 0 0, .int .i64 0] := ((((HU.out.2.2.far (p := ⟨g + 1 + 1, 1, none⟩) (by simp) (.int .u64 (ik : Int))).far (p := ⟨g + 1 + 1, 3, none⟩) (by simp) (.slice A2 note.length c2)).far (p := ⟨g + 1 + 1, 8, none⟩) (by simp) (.slice FA fl.length fc)).far (p := ⟨g + 1 + 1, 9, none⟩) (by simp) (.int .i64 sc))
    have hb1 : Below g w ((((V0.setCell ⟨g + 1 + 1, 1, none⟩ (.int .u64 (ik : Int))).setCell ⟨g + 1 + 1, 3, none⟩ (.slice A2 note.length c2)).setCell ⟨g + 1 + 1, 8, none⟩ (.slice FA fl.length fc)).setCell ⟨g + 1 + 1, 9, none⟩ (.int .i64 sc)) := sets_below B0.out (by have := HU.out.2.1.lt; omega) (by omega : g ≤ g + 1 + 1) [(1, .int .u64 (ik : Int)), (3, .slice A2 note.length c2), (8, .slice FA fl.length fc), (9, .int .i64 sc)]
    have fz1 := HU.out.2.1.frozen 1
    have fz3 := HU.out.2.1.frozen 3
    have fz8 := HU.out.2.1.frozen 8
    have fz9 := HU.out.2.1.frozen 9
    go_upto_region 24 with fail
    generalize ((((V0.setCell ⟨g + 1 + 1, 1, none⟩ (.int .u64 (ik : Int))).setCell ⟨g + 1 + 1, 3, none⟩ (.slice A2 note.length c2)).setCell ⟨g + 1 + 1, 8, none⟩ (.slice FA fl.length fc)).setCell ⟨g + 1 + 1, 9, none⟩ (.int .i64 sc)) = V1 at *
    have hbv : BV = #[.int .i64 10, .int .u64 (ik : Int), .slice none 0 0, .slice A2 note.length c2, .int .u64 0, .int .u64 0, .int .i64 0, .slice none 0 0, .slice FA fl.length fc, .int .i64 sc] := HBV.out.symm.trans (by rw [bare_10]; rfl)
    subst hbv
    have B1 := Lib.hid hb1
    clear hb1
    go_wp2_with (first | (refine wpl_load_row rfl _ (.tmp 3) rfl (g + 1 + 1) (by go_simp) _ #[.int .i64 10, .int .u64 (ik : Int), .slice none 0 0, .slice A2 note.length c2, .int .u64 0, .int .u64 0, .int .i64 0, .slice none 0 0, .slice FA fl.length fc, .int .i64 sc] (0, 0) _ hy Try.underlying42 rfl (by kernel_rfl) ?_) | (refine wpList_store_row rfl _ (.tmp 2) (.tmp 68) rfl (g + 1) #[.int .i64 10, .int .u64 (ik : Int), .slice none 0 0, .slice A2 note.length c2, .int .u64 0, .int .u64 0, .int .i64 0, .slice none 0 0, .slice FA fl.length fc, .int .i64 sc] (by go_simp) (by go_simp) _ _ h3 (by kernel_rfl) rfl (by simp [Value.oneCell']) ?_))
    refine ret_cell1 rfl (g + 1) #[.int .i64 10, .int .u64 (ik : Int), .slice none 0 0, .slice A2 note.length c2, .int .u64 0, .int .u64 0, .int .i64 0, .slice none 0 0, .slice FA fl.length fc, .int .i64 sc] _ rfl (h3.setRow_ _) Try.underlying42 rfl (by kernel_rfl) rfl ?_
    exact ⟨rfl, by rw [HG.out]; exact below_grown B1.out (grownBy_setRow _ _ _) (by have := h3.lt; omega) (by omega)⟩
  by_cases k11 : kind = 11
  · subst k11
    as_aux_lemma =>
    have hy : Blk (((V0.setCell ⟨g + 1 + 1, 6, none⟩ (.int .i64 n)).setCell ⟨g + 1 + 1, 8, none⟩ (.slice FA fl.length fc)).setCell ⟨g + 1 + 1, 9, none⟩ (.int .i64 sc)) (g + 1 + 1) 42 #[.int .i64 11, .int .u64 0, .slice none 0 0, .slice none 0 0, .int .u64 0, .int .u64 0, .int .i64 n, .slice none 0 0, .slice FA fl.length fc, .int .i64 sc] := (((HU.out.2.1.set_ 6 (.int .i64 n)).set_ 8 (.slice FA fl.length fc)).set_ 9 (.int .i64 sc))
    have h3 : Blk (((V0.setCell ⟨g + 1 + 1, 6, none⟩ (.int .i64 n)).setCell ⟨g + 1 + 1, 8, none⟩ (.slice FA fl.length fc)).setCell ⟨g + 1 + 1, 9, none⟩ (.int .i64 sc)) (g + 1) 42 #[.int .i64 0, .int .u64 0, .slice none 0 0, .slice none 0 0, .int .u64 0, .int .u64 0, .int .i64 0, .slice none 0 0, .slice none 0 0, .int .i64 0] := (((HU.out.2.2.far (p := ⟨g + 1 + 1, 6, none⟩) (by simp) (.int .i64 n)).far (p := ⟨g + 1 + 1, 8, none⟩) (by simp) (.slice FA fl.length fc)).far (p := ⟨g + 1 + 1, 9, none⟩) (by simp) (.int .i64 sc))
    have hb1 : Below g w (((V0.setCell ⟨g + 1 + 1, 6, none⟩ (.int .i64 n)).setCell ⟨g + 1 + 1, 8, none⟩ (.slice FA fl.length fc)).setCell ⟨g + 1 + 1, 9, none⟩ (.int .i64 sc)) := sets_below B0.out (by have := HU.out.2.1.lt; omega) (by omega : g ≤ g + 1 + 1) [(6, .int .i64 n), (8, .slice FA fl.length fc), (9, .int .i64 sc)]
    have fz6 := HU.out.2.1.frozen 6
    have fz8 := HU.out.2.1.frozen 8
    have fz9 := HU.out.2.1.frozen 9
    go_upto_region 24 with fail
    generalize (((V0.setCell ⟨g + 1 + 1, 6, none⟩ (.int .i64 n)).setCell ⟨g + 1 + 1, 8, none⟩ (.slice FA fl.length fc)).setCell ⟨g + 1 + 1, 9, none⟩ (.int .i64 sc)) = V1 at *
    have hbv : BV = #[.int .i64 11, .int .u64 0, .slice none 0 0, .slice none 0 0, .int .u64 0, .int .u64 0, .int .i64 n, .slice none 0 0, .slice FA fl.length fc, .int .i64 sc] := HBV.out.symm.trans (by rw [bare_11]; rfl)
    subst hbv
    have B1 := Lib.hid hb1
    clear hb1
    go_wp2_with (first | (refine wpl_load_row rfl _ (.tmp 3) rfl (g + 1 + 1) (by go_simp) _ #[.int .i64 11, .int .u64 0, .slice none 0 0, .slice none 0 0, .int .u64 0, .int .u64 0, .int .i64 n, .slice none 0 0, .slice FA fl.length fc, .int .i64 sc] (0, 0) _ hy Try.underlying42 rfl (by kernel_rfl) ?_) | (refine wpList_store_row rfl _ (.tmp 2) (.tmp 68) rfl (g + 1) #[.int .i64 11, .int .u64 0, .slice none 0 0, .slice none 0 0, .int .u64 0, .int .u64 0, .int .i64 n, .slice none 0 0, .slice FA fl.length fc, .int .i64 sc] (by go_simp) (by go_simp) _ _ h3 (by kernel_rfl) rfl (by simp [Value.oneCell']) ?_))
    refine ret_cell1 rfl (g + 1) #[.int .i64 11, .int .u64 0, .slice none 0 0, .slice none 0 0, .int .u64 0, .int .u64 0, .int .i64 n, .slice none 0 0, .slice FA fl.length fc, .int .i64 sc] _ rfl (h3.setRow_ _) Try.underlying42 rfl (by kernel_rfl) rfl ?_
    exact ⟨rfl, by rw [HG.out]; exact below_grown B1.out (grownBy_setRow _ _ _) (by have := h3.lt; omega) (by omega)⟩
  have h2 : (kind == 2) = false := beq_eq_false_iff_ne.2 k2
  have h3 : (kind == 3) = false := beq_eq_false_iff_ne.2 k3
  have h4 : (kind == 4) = false := beq_eq_false_iff_ne.2 k4
  have h5 : (kind == 5) = false := beq_eq_false_iff_ne.2 k5
  have h6 : (kind == 6) = false := beq_eq_false_iff_ne.2 k6
  have h10 : (kind == 10) = false := beq_eq_false_iff_ne.2 k10
  have h11 : (kind == 11) = false := beq_eq_false_iff_ne.2 k11
  have hy := HU.out.2.1
  have h3 := HU.out.2.2
  have hb1 := B0.out
  go_upto_region 24 with fail
  generalize V0 = V1 at *
  have hbv : BV = #[.int .i64 kind, .int .u64 0, .slice none 0 0, .slice none 0 0, .int .u64 0, .int .u64 0, .int .i64 0, .slice none 0 0, .slice none 0 0, .int .i64 0] := HBV.out.symm.trans (by rw [bare_e kind ⟨k2, k3, k4, k5, k6, k10, k11⟩]; rfl)
  subst hbv
  have B1 := Lib.hid hb1
  clear hb1
  go_wp2_with (first | (refine wpl_load_row rfl _ (.tmp 3) rfl (g + 1 + 1) (by go_simp) _ #[.int .i64 kind, .int .u64 0, .slice none 0 0, .slice none 0 0, .int .u64 0, .int .u64 0, .int .i64 0, .slice none 0 0, .slice none 0 0, .int .i64 0] (0, 0) _ hy Try.underlying42 rfl (by kernel_rfl) ?_) | (refine wpList_store_row rfl _ (.tmp 2) (.tmp 68) rfl (g + 1) #[.int .i64 kind, .int .u64 0, .slice none 0 0, .slice none 0 0, .int .u64 0, .int .u64 0, .int .i64 0, .slice none 0 0, .slice none 0 0, .int .i64 0] (by go_simp) (by go_simp) _ _ h3 (by kernel_rfl) rfl (by simp [Value.oneCell']) ?_))
  refine ret_cell1 rfl (g + 1) #[.int .i64 kind, .int .u64 0, .slice none 0 0, .slice none 0 0, .int .u64 0, .int .u64 0, .int .i64 0, .slice none 0 0, .slice none 0 0, .int .i64 0] _ rfl (h3.setRow_ _) Try.underlying42 rfl (by kernel_rfl) rfl ?_
  exact ⟨rfl, by rw [HG.out]; exact below_grown B1.out (grownBy_setRow _ _ _) (by have := h3.lt; omega) (by omega)⟩
end Go.Proofs.Ytaadfalklddhcaa
