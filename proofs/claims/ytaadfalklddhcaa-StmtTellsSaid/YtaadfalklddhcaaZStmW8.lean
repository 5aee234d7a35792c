/-
  Requests in memory; whether two are alike.
  Conditions: the requests' lists lie in memory.
-/
import Derived.Test.YtaadfalklddhcaaZStmW7
import Derived.Test.YtaadfalklddhcaaZStmM
import Derived.BigQuiet
import Derived.BigRegion
import Derived.Lib.QuietBelow
import Derived.Deep.Cut
import Derived.Deep.CutBlock
import Derived.Deep.RegionHeld3
import Derived.Deep.RegionHeldLaw
import Derived.Lib.BufferOwn
namespace Go.Proofs.Ytaadfalklddhcaa
open Go.RowKit Go.Sort Go.Lib
set_option linter.unusedVariables false
set_option linter.unusedSimpArgs false
/-- A request with where its lists lie. -/
structure Rqv where
  x : Rq
  A : Option Addr
  c : Nat
  A2 : Option Addr
  c2 : Nat
  QA : Option Addr
  qc : Nat
  FA : Option Addr
  fc : Nat
def rqC (x : Rq) (A : Option Addr) (c : Nat) (A2 : Option Addr) (c2 : Nat) (QA : Option Addr) (qc : Nat) (FA : Option Addr) (fc : Nat) : Array Value :=
  #[.int .i64 x.kind, .int .u64 (x.it.key : Int), .slice A x.it.vec.length c, .slice A2 x.it.note.length c2, .int .u64 (x.key : Int), .int .u64 (x.till : Int), .int .i64 x.n, .slice QA x.q.length qc, .slice FA x.fl.length fc, .int .i64 x.scale]
def Rqv.cells (s : Rqv) : Array Value := rqC s.x s.A s.c s.A2 s.c2 s.QA s.qc s.FA s.fc
def Rqv.val (s : Rqv) : Value := .agg s.cells
structure Rqv.At (s : Rqv) (w : World) : Prop where
  r1 : Row w s.A (i32s s.x.it.vec)
  r2 : Row w s.A2 (bs s.x.it.note)
  r3 : Row w s.QA (i32s s.x.q)
  r4 : Row w s.FA (u64s s.x.fl)
  ok : s.x.Ok
  l1 : s.x.it.vec.length ≤ s.c
  l2 : s.x.it.note.length ≤ s.c2
  l3 : s.x.q.length ≤ s.qc
  l4 : s.x.fl.length ≤ s.fc
  m1 : s.c ≤ maxLen
  m2 : s.c2 ≤ maxLen
  m3 : s.qc ≤ maxLen
  m4 : s.fc ≤ maxLen
theorem Rqv.At.below {s : Rqv} {w w' : World} (h : s.At w) (hb : Below w.heap.size w w') : s.At w' :=
  ⟨h.r1.below hb, h.r2.below hb, h.r3.below hb, h.r4.below hb, h.ok, h.l1, h.l2, h.l3, h.l4, h.m1, h.m2, h.m3, h.m4⟩
theorem Blk.c10 {w : World} {g : Nat} {t : TypeId} {a b c d e f h i j k : Value} (hB : Blk w g t #[a, b, c, d, e, f, h, i, j, k]) :
    w.cell? ⟨g, 0, none⟩ = some a ∧ w.cell? ⟨g, 1, none⟩ = some b ∧ w.cell? ⟨g, 2, none⟩ = some c ∧ w.cell? ⟨g, 3, none⟩ = some d ∧ w.cell? ⟨g, 4, none⟩ = some e ∧ w.cell? ⟨g, 5, none⟩ = some f ∧ w.cell? ⟨g, 6, none⟩ = some h ∧ w.cell? ⟨g, 7, none⟩ = some i ∧ w.cell? ⟨g, 8, none⟩ = some j ∧ w.cell? ⟨g, 9, none⟩ = some k :=
  ⟨hB.cell 0, hB.cell 1, hB.cell 2, hB.cell 3, hB.cell 4, hB.cell 5, hB.cell 6, hB.cell 7, hB.cell 8, hB.cell 9⟩
set_option maxRecDepth 100000 in
set_option maxHeartbeats 8000000 in
theorem stmsame_any (s t : Rqv) (w : World) (hs : s.At w) (ht : t.At w) : Calls Try.prog 47 #[s.val, t.val] w (BoolP (StmM.same s.x t.x) w) := by
  obtain ⟨⟨kind, ⟨ik, vec, note⟩, key, till, n, q, fl, scale⟩, A, c, A2, c2, QA, qc, FA, fc⟩ := s
  obtain ⟨⟨kind', ⟨ik', vec', note'⟩, key', till', n', q', fl', scale'⟩, A', c', A2', c2', QA', qc', FA', fc'⟩ := t
  obtain ⟨r1, r2, r3, r4, ok, l1, l2, l3, l4, m1, m2, m3, m4⟩ := hs
  obtain ⟨r1', r2', r3', r4', ok', l1', l2', l3', l4', m1', m2', m3', m4'⟩ := ht
  have hsm : StmM.same ⟨kind, ⟨ik, vec, note⟩, key, till, n, q, fl, scale⟩ ⟨kind', ⟨ik', vec', note'⟩, key', till', n', q', fl', scale'⟩ = (decide (kind = kind') && (ItemM.same ⟨ik, vec, note⟩ ⟨ik', vec', note'⟩ && (decide (key = key') && (decide (till = till') && (decide (n = n') && (decide (scale = scale') && (decide (q = q') && decide (fl = fl')))))))) := rfl
  show Calls _ _ #[.agg (rqC _ _ _ _ _ _ _ _ _), .agg (rqC _ _ _ _ _ _ _ _ _)] _ _
  dsimp only at *
  clear ok ok'
  generalize StmM.same _ _ = r at hsm ⊢
  have HR := Lib.hid hsm
  clear hsm
  have hmx : maxLen ≤ 9223372036854775807 := by unfold maxLen; omega
  have HL : Hid ((vec.length ≤ 9223372036854775807 ∧ vec'.length ≤ 9223372036854775807) ∧ (q.length ≤ 9223372036854775807 ∧ q'.length ≤ 9223372036854775807) ∧ (fl.length ≤ 9223372036854775807 ∧ fl'.length ≤ 9223372036854775807)) := Lib.hid (by omega)
  clear hmx l1 l2 l3 l4 m1 m2 m3 m4 l1' l2' l3' l4' m1' m2' m3' m4'
  simp only [rqC]
  have b0 : Below w.heap.size w ((w.alloc (.cells #[.int .i64 kind, .int .u64 (ik : Int), .slice A vec.length c, .slice A2 note.length c2, .int .u64 (key : Int), .int .u64 (till : Int), .int .i64 n, .slice QA q.length qc, .slice FA fl.length fc, .int .i64 scale] 42)).alloc (.cells #[.int .i64 kind', .int .u64 (ik' : Int), .slice A' vec'.length c', .slice A2' note'.length c2', .int .u64 (key' : Int), .int .u64 (till' : Int), .int .i64 n', .slice QA' q'.length qc', .slice FA' fl'.length fc', .int .i64 scale'] 42)) := ((Below.refl _ _).alloc (Nat.le_refl _) _).alloc (by simp) _
  have U1 := (Blk.new w 42 #[.int .i64 kind, .int .u64 (ik : Int), .slice A vec.length c, .slice A2 note.length c2, .int .u64 (key : Int), .int .u64 (till : Int), .int .i64 n, .slice QA q.length qc, .slice FA fl.length fc, .int .i64 scale]).alloc (.cells #[.int .i64 kind', .int .u64 (ik' : Int), .slice A' vec'.length c', .slice A2' note'.length c2', .int .u64 (key' : Int), .int .u64 (till' : Int), .int .i64 n', .slice QA' q'.length qc', .slice FA' fl'.length fc', .int .i64 scale'] 42)
  have U2 := Blk.new (w.alloc (.cells #[.int .i64 kind, .int .u64 (ik : Int), .slice A vec.length c, .slice A2 note.length c2, .int .u64 (key : Int), .int .u64 (till : Int), .int .i64 n, .slice QA q.length qc, .slice FA fl.length fc, .int .i64 scale] 42)) 42 #[.int .i64 kind', .int .u64 (ik' : Int), .slice A' vec'.length c', .slice A2' note'.length c2', .int .u64 (key' : Int), .int .u64 (till' : Int), .int .i64 n', .slice QA' q'.length qc', .slice FA' fl'.length fc', .int .i64 scale']
  have e1 : (w.alloc (.cells #[.int .i64 kind, .int .u64 (ik : Int), .slice A vec.length c, .slice A2 note.length c2, .int .u64 (key : Int), .int .u64 (till : Int), .int .i64 n, .slice QA q.length qc, .slice FA fl.length fc, .int .i64 scale] 42)).heap.size = w.heap.size + 1 := by simp
  rw [e1] at U2
  clear e1
  have R1 := Lib.hid (And.intro (r1.below b0) (And.intro (r2.below b0) (And.intro (r1'.below b0) (r2'.below b0))))
  have R2 := Lib.hid (And.intro (r3.below b0) (And.intro (r4.below b0) (And.intro (r3'.below b0) (r4'.below b0))))
  clear r1 r2 r3 r4 r1' r2' r3' r4'
  go_enter Try.func47, Try.ntmps47
  go_upto_region 1 with fail
  generalize (w.alloc (.cells #[.int .i64 kind, .int .u64 (ik : Int), .slice A vec.length c, .slice A2 note.length c2, .int .u64 (key : Int), .int .u64 (till : Int), .int .i64 n, .slice QA q.length qc, .slice FA fl.length fc, .int .i64 scale] 42)).alloc (.cells #[.int .i64 kind', .int .u64 (ik' : Int), .slice A' vec'.length c', .slice A2' note'.length c2', .int .u64 (key' : Int), .int .u64 (till' : Int), .int .i64 n', .slice QA' q'.length qc', .slice FA' fl'.length fc', .int .i64 scale'] 42) = V0 at *
  obtain ⟨g, hg⟩ : ∃ g, w.heap.size = g := ⟨_, rfl⟩
  rw [hg] at U1 U2
  have B0 := Lib.hid b0
  simp only [hg]
  clear hg b0
  have HU := Lib.hid (And.intro U1 U2)
  obtain ⟨d0, d1, d2, d3, d4, d5, d6, d7, d8, d9⟩ := U1.c10
  obtain ⟨e0, e1, e2, e3, e4, e5, e6, e7, e8, e9⟩ := U2.c10
  clear U1 U2
  by_cases hkd : kind = kind'
  · subst hkd
    go_wp2_with fail
    refine (itemsame_any ⟨ik, vec, note⟩ ⟨ik', vec', note'⟩ A A2 A' A2' c c2 c' c2' V0 R1.out.1 R1.out.2.1 R1.out.2.2.1 R1.out.2.2.2 HL.out.1.1 HL.out.1.2).mono ?_
    rintro e w1 ⟨rfl, hb⟩
    clear d0 d1 d2 d3 d4 d5 d6 d7 d8 d9 e0 e1 e2 e3 e4 e5 e6 e7 e8 e9
    have B1 := Lib.hid (below_join B0.out hb)
    have HU1 := Lib.hid (And.intro (HU.out.1.below hb HU.out.1.lt) (HU.out.2.below hb HU.out.2.lt))
    have R3 := Lib.hid (And.intro (R2.out.1.below hb) (And.intro (R2.out.2.1.below hb) (And.intro (R2.out.2.2.1.below hb) (R2.out.2.2.2.below hb))))
    clear hb B0 HU R1 R2
    obtain ⟨d0, d1, d2, d3, d4, d5, d6, d7, d8, d9⟩ := HU1.out.1.c10
    obtain ⟨e0, e1, e2, e3, e4, e5, e6, e7, e8, e9⟩ := HU1.out.2.c10
    generalize ItemM.same ⟨ik, vec, note⟩ ⟨ik', vec', note'⟩ = bs1 at *
    cases bs1 with
    | false =>
      go_wp2
      go_ret
      exact ⟨by rw [HR.out]; simp [*], B1.out⟩
    | true =>
      by_cases h1 : key = key'
      · subst h1
        by_cases h2 : till = till'
        · subst h2
          by_cases h3 : n = n'
          · subst h3
            by_cases h4 : scale = scale'
            · subst h4
              go_wp2_with fail
              refine (equal32_any QA QA' qc qc' q q' w1 R3.out.1 R3.out.2.2.1 HL.out.2.1.1 HL.out.2.1.2).mono ?_
              rintro e w2 ⟨rfl, hb⟩
              clear d0 d1 d2 d3 d4 d5 d6 d7 d8 d9 e0 e1 e2 e3 e4 e5 e6 e7 e8 e9
              have B2 := Lib.hid (below_join B1.out hb)
              have HU2 := Lib.hid (And.intro (HU1.out.1.below hb HU1.out.1.lt) (HU1.out.2.below hb HU1.out.2.lt))
              have R4 := Lib.hid (And.intro (R3.out.2.1.below hb) (R3.out.2.2.2.below hb))
              clear hb B1 HU1 R3
              have d8 := HU2.out.1.c10.2.2.2.2.2.2.2.2.1
              have e8 := HU2.out.2.c10.2.2.2.2.2.2.2.2.1
              generalize decide (q = q') = bs2 at *
              cases bs2 with
              | false =>
                go_wp2
                go_ret
                exact ⟨by rw [HR.out]; simp [*], B2.out⟩
              | true =>
                go_wp2_with fail
                refine (equal64_any FA FA' fc fc' fl fl' w2 R4.out.1 R4.out.2 HL.out.2.2.1 HL.out.2.2.2).mono ?_
                rintro e w3 ⟨rfl, hb⟩
                have B3 := Lib.hid (below_join B2.out hb)
                clear hb B2
                generalize decide (fl = fl') = bs3 at *
                go_wp2
                go_ret
                exact ⟨by rw [HR.out]; simp [*], B3.out⟩
            · have hd : (scale == scale') = false := beq_eq_false_iff_ne.2 h4
              go_wp2
              go_ret
              exact ⟨by rw [HR.out]; simp [*], B1.out⟩
          · have hd : (n == n') = false := beq_eq_false_iff_ne.2 h3
            go_wp2
            go_ret
            exact ⟨by rw [HR.out]; simp [*], B1.out⟩
        · have hd : ((till : Int) == (till' : Int)) = false := beq_eq_false_iff_ne.2 (by omega)
          go_wp2
          go_ret
          exact ⟨by rw [HR.out]; simp [*], B1.out⟩
      · have hd : ((key : Int) == (key' : Int)) = false := beq_eq_false_iff_ne.2 (by omega)
        go_wp2
        go_ret
        exact ⟨by rw [HR.out]; simp [*], B1.out⟩
  · have hd : (kind == kind') = false := beq_eq_false_iff_ne.2 hkd
    go_wp2
    go_ret
    exact ⟨by rw [HR.out]; simp [*], B0.out⟩
end Go.Proofs.Ytaadfalklddhcaa
