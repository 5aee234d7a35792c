/-
  Replies in memory; whether two are alike, by the program's word and by the document's.
  Conditions: the replies' lists lie in memory.
-/
import Derived.Test.YtaadfalklddhcaaZStmR1
namespace Go.Proofs.Ytaadfalklddhcaa
open Go.RowKit Go.Sort Go.Lib
set_option linter.unusedVariables false
set_option linter.unusedSimpArgs false
/-- A reply with where its lists lie. -/
structure Rpv where
  kind : Int
  mark : Int
  errno : Int
  place : Int
  it : Itv
  IA : Option Addr
  ic : Nat
  its : List Itv
  HA : Option Addr
  hc : Nat
  hits : List (Nat × Int)
def Rpv.x (s : Rpv) : Rp := ⟨s.kind, s.mark, s.errno, s.place, s.it.x, s.its.map (·.x), s.hits⟩
def Rpv.cells (s : Rpv) : Array Value := #[.int .i64 s.kind, .int .i64 s.mark, .int .i64 s.errno, .int .i64 s.place, .int .u64 (s.it.x.key : Int), .slice s.it.A s.it.x.vec.length s.it.c, .slice s.it.A2 s.it.x.note.length s.it.c2, .slice s.IA s.its.length s.ic, .slice s.HA s.hits.length s.hc]
structure Rpv.At (s : Rpv) (w : World) : Prop where
  hi : s.it.At w
  rI : Row w s.IA (s.its.flatMap Itv.cells)
  aI : ∀ i ∈ s.its, i.At w
  rH : Row w s.HA (s.hits.flatMap hitC)
  ok : s.x.Ok
  lI : s.its.length ≤ s.ic
  lH : s.hits.length ≤ s.hc
  mI : s.ic ≤ maxLen
  mH : s.hc ≤ maxLen
theorem Rpv.At.below {s : Rpv} {w w' : World} (h : s.At w) (hb : Below w.heap.size w w') : s.At w' :=
  ⟨h.hi.below hb, h.rI.below hb, fun i hi => (h.aI i hi).below hb, h.rH.below hb, h.ok, h.lI, h.lH, h.mI, h.mH⟩
theorem Blk.c9 {w : World} {g : Nat} {t : TypeId} {a b c d e f h i j : Value} (hB : Blk w g t #[a, b, c, d, e, f, h, i, j]) :
    w.cell? ⟨g, 0, none⟩ = some a ∧ w.cell? ⟨g, 1, none⟩ = some b ∧ w.cell? ⟨g, 2, none⟩ = some c ∧ w.cell? ⟨g, 3, none⟩ = some d ∧ w.cell? ⟨g, 4, none⟩ = some e ∧ w.cell? ⟨g, 5, none⟩ = some f ∧ w.cell? ⟨g, 6, none⟩ = some h ∧ w.cell? ⟨g, 7, none⟩ = some i ∧ w.cell? ⟨g, 8, none⟩ = some j :=
  ⟨hB.cell 0, hB.cell 1, hB.cell 2, hB.cell 3, hB.cell 4, hB.cell 5, hB.cell 6, hB.cell 7, hB.cell 8⟩
set_option maxRecDepth 100000 in
set_option maxHeartbeats 8000000 in
theorem sametell_any (s t : Rpv) (w : World) (hs : s.At w) (ht : t.At w) : Calls Try.prog 20 #[.agg s.cells, .agg t.cells] w (BoolP (RepM.same s.x t.x) w) := by
  obtain ⟨kind, mark, err, pl, i, IA, ic, its, HA, hc, hits⟩ := s
  obtain ⟨kind', mark', err', pl', i', IA', ic', its', HA', hc', hits'⟩ := t
  obtain ⟨hi, rI, aI, rH, ok, lI, lH, mI, mH⟩ := hs
  obtain ⟨hi', rI', aI', rH', ok', lI', lH', mI', mH'⟩ := ht
  have hsm : RepM.same (Rpv.x ⟨kind, mark, err, pl, i, IA, ic, its, HA, hc, hits⟩) (Rpv.x ⟨kind', mark', err', pl', i', IA', ic', its', HA', hc', hits'⟩) = (decide (kind = kind') && (decide (mark = mark') && (decide (err = err') && (decide (pl = pl') && (ItemM.same i.x i'.x && (decide (its.map (·.x) = its'.map (·.x)) && decide (hits = hits'))))))) := rfl
  dsimp only at *
  clear ok ok'
  generalize RepM.same _ _ = r at hsm ⊢
  have HR := Lib.hid hsm
  clear hsm
  simp only [Rpv.cells]
  have hmx : maxLen ≤ 9223372036854775807 := by unfold maxLen; omega
  have b0 : Below w.heap.size w ((w.alloc (.cells #[.int .i64 kind, .int .i64 mark, .int .i64 err, .int .i64 pl, .int .u64 (i.x.key : Int), .slice i.A i.x.vec.length i.c, .slice i.A2 i.x.note.length i.c2, .slice IA its.length ic, .slice HA hits.length hc] 34)).alloc (.cells #[.int .i64 kind', .int .i64 mark', .int .i64 err', .int .i64 pl', .int .u64 (i'.x.key : Int), .slice i'.A i'.x.vec.length i'.c, .slice i'.A2 i'.x.note.length i'.c2, .slice IA' its'.length ic', .slice HA' hits'.length hc'] 34)) := ((Below.refl _ _).alloc (Nat.le_refl _) _).alloc (by simp) _
  have U1 := (Blk.new w 34 #[.int .i64 kind, .int .i64 mark, .int .i64 err, .int .i64 pl, .int .u64 (i.x.key : Int), .slice i.A i.x.vec.length i.c, .slice i.A2 i.x.note.length i.c2, .slice IA its.length ic, .slice HA hits.length hc]).alloc (.cells #[.int .i64 kind', .int .i64 mark', .int .i64 err', .int .i64 pl', .int .u64 (i'.x.key : Int), .slice i'.A i'.x.vec.length i'.c, .slice i'.A2 i'.x.note.length i'.c2, .slice IA' its'.length ic', .slice HA' hits'.length hc'] 34)
  have U2 := Blk.new (w.alloc (.cells #[.int .i64 kind, .int .i64 mark, .int .i64 err, .int .i64 pl, .int .u64 (i.x.key : Int), .slice i.A i.x.vec.length i.c, .slice i.A2 i.x.note.length i.c2, .slice IA its.length ic, .slice HA hits.length hc] 34)) 34 #[.int .i64 kind', .int .i64 mark', .int .i64 err', .int .i64 pl', .int .u64 (i'.x.key : Int), .slice i'.A i'.x.vec.length i'.c, .slice i'.A2 i'.x.note.length i'.c2, .slice IA' its'.length ic', .slice HA' hits'.length hc']
  have e1 : (w.alloc (.cells #[.int .i64 kind, .int .i64 mark, .int .i64 err, .int .i64 pl, .int .u64 (i.x.key : Int), .slice i.A i.x.vec.length i.c, .slice i.A2 i.x.note.length i.c2, .slice IA its.length ic, .slice HA hits.length hc] 34)).heap.size = w.heap.size + 1 := by simp
  rw [e1] at U2
  clear e1
  have R1 : Hid (i.At w ∧ i'.At w) := Lib.hid ⟨hi, hi'⟩
  have R2 : Hid ((Row w IA (its.flatMap Itv.cells) ∧ (∀ i ∈ its, i.At w) ∧ Row w IA' (its'.flatMap Itv.cells) ∧ (∀ i ∈ its', i.At w)) ∧ its.length ≤ 9223372036854775807) := Lib.hid ⟨⟨rI, aI, rI', aI'⟩, by omega⟩
  have R3 : Hid ((Row w HA (hits.flatMap hitC) ∧ Row w HA' (hits'.flatMap hitC)) ∧ hits.length ≤ 9223372036854775807) := Lib.hid ⟨⟨rH, rH'⟩, by omega⟩
  clear hi hi' rI aI rH rI' aI' rH' lI lH mI mH lI' lH' mI' mH' hmx
  have B0 := Lib.hid b0
  go_enter Try.func20, Try.ntmps20
  go_upto_region 1 with fail
  generalize (w.alloc (.cells #[.int .i64 kind, .int .i64 mark, .int .i64 err, .int .i64 pl, .int .u64 (i.x.key : Int), .slice i.A i.x.vec.length i.c, .slice i.A2 i.x.note.length i.c2, .slice IA its.length ic, .slice HA hits.length hc] 34)).alloc (.cells #[.int .i64 kind', .int .i64 mark', .int .i64 err', .int .i64 pl', .int .u64 (i'.x.key : Int), .slice i'.A i'.x.vec.length i'.c, .slice i'.A2 i'.x.note.length i'.c2, .slice IA' its'.length ic', .slice HA' hits'.length hc'] 34) = V0 at *
  obtain ⟨g, hg⟩ : ∃ g, w.heap.size = g := ⟨_, rfl⟩
  rw [hg] at U1 U2
  simp only [hg]
  have HU := Lib.hid (And.intro U1 U2)
  have HG := Lib.hid hg
  clear U1 U2 b0 hg
  obtain ⟨d0, d1, d2, d3, d4, d5, d6, d7, d8⟩ := HU.out.1.c9
  obtain ⟨e0, e1, e2, e3, e4, e5, e6, e7, e8⟩ := HU.out.2.c9
  by_cases hkd : kind = kind'
  · subst hkd
    by_cases hmk : mark = mark'
    · subst hmk
      by_cases her : err = err'
      · subst her
        by_cases hpl : pl = pl'
        · subst hpl
          go_wp2_with fail
          refine (itemsame_any i.x i'.x i.A i.A2 i'.A i'.A2 i.c i.c2 i'.c i'.c2 V0 (R1.out.1.r1.below B0.out) (R1.out.1.r2.below B0.out) (R1.out.2.r1.below B0.out) (R1.out.2.r2.below B0.out) (Nat.le_trans R1.out.1.l1 R1.out.1.m1) (Nat.le_trans R1.out.2.l1 R1.out.2.m1)).mono ?_
          rintro e w1 ⟨rfl, hb⟩
          clear d0 d1 d2 d3 d4 d5 d6 d7 d8 e0 e1 e2 e3 e4 e5 e6 e7 e8
          have B1 := Lib.hid (below_join B0.out hb)
          have HU1 := Lib.hid (And.intro (HU.out.1.below hb HU.out.1.lt) (HU.out.2.below hb HU.out.2.lt))
          clear hb
          generalize ItemM.same i.x i'.x = q1 at *
          cases q1 with
          | false =>
            go_wp2
            go_ret
            exact ⟨by rw [HR.out]; simp [*], B1.out⟩
          | true =>
            obtain ⟨d0, d1, d2, d3, d4, d5, d6, d7, d8⟩ := HU1.out.1.c9
            obtain ⟨e0, e1, e2, e3, e4, e5, e6, e7, e8⟩ := HU1.out.2.c9
            go_wp2_with fail
            refine (efun_any IA IA' its.length its'.length ic ic' its its' w1 (R2.out.1.1.below B1.out) (fun i hi => (R2.out.1.2.1 i hi).below B1.out) rfl (R2.out.1.2.2.1.below B1.out) (fun i hi => (R2.out.1.2.2.2 i hi).below B1.out) rfl R2.out.2).mono ?_
            rintro e w2 ⟨rfl, hb⟩
            clear d0 d1 d2 d3 d4 d5 d6 d7 d8 e0 e1 e2 e3 e4 e5 e6 e7 e8
            have B2 := Lib.hid (below_join B1.out hb)
            have HU2 := Lib.hid (And.intro (HU1.out.1.below hb HU1.out.1.lt) (HU1.out.2.below hb HU1.out.2.lt))
            clear hb
            generalize decide (its.map (·.x) = its'.map (·.x)) = q2 at *
            cases q2 with
            | false =>
              go_wp2
              go_ret
              exact ⟨by rw [HR.out]; simp [*], B2.out⟩
            | true =>
              obtain ⟨d0, d1, d2, d3, d4, d5, d6, d7, d8⟩ := HU2.out.1.c9
              obtain ⟨e0, e1, e2, e3, e4, e5, e6, e7, e8⟩ := HU2.out.2.c9
              go_wp2_with fail
              refine (equalH_any HA HA' hits.length hits'.length hc hc' hits hits' w2 (R3.out.1.1.below B2.out) rfl (R3.out.1.2.below B2.out) rfl R3.out.2).mono ?_
              rintro e w3 ⟨rfl, hb⟩
              clear d0 d1 d2 d3 d4 d5 d6 d7 d8 e0 e1 e2 e3 e4 e5 e6 e7 e8
              have B3 := Lib.hid (below_join B2.out hb)
              clear hb
              generalize decide (hits = hits') = q3 at *
              go_wp2
              go_ret
              exact ⟨by rw [HR.out]; simp [*], B3.out⟩
        · have hd : (pl == pl') = false := beq_eq_false_iff_ne.2 hpl
          go_wp2
          go_ret
          exact ⟨by rw [HR.out]; simp [*], B0.out⟩
      · have hd : (err == err') = false := beq_eq_false_iff_ne.2 her
        go_wp2
        go_ret
        exact ⟨by rw [HR.out]; simp [*], B0.out⟩
    · have hd : (mark == mark') = false := beq_eq_false_iff_ne.2 hmk
      go_wp2
      go_ret
      exact ⟨by rw [HR.out]; simp [*], B0.out⟩
  · have hd : (kind == kind') = false := beq_eq_false_iff_ne.2 hkd
    go_wp2
    go_ret
    exact ⟨by rw [HR.out]; simp [*], B0.out⟩
set_option maxRecDepth 100000 in
set_option maxHeartbeats 8000000 in
theorem refsametell_any (s t : Rpv) (w : World) (hs : s.At w) (ht : t.At w) : Calls Try.prog 12 #[.agg s.cells, .agg t.cells] w (BoolP (RepM.same s.x t.x) w) := by
  obtain ⟨kind, mark, err, pl, i, IA, ic, its, HA, hc, hits⟩ := s
  obtain ⟨kind', mark', err', pl', i', IA', ic', its', HA', hc', hits'⟩ := t
  obtain ⟨hi, rI, aI, rH, ok, lI, lH, mI, mH⟩ := hs
  obtain ⟨hi', rI', aI', rH', ok', lI', lH', mI', mH'⟩ := ht
  have hsm : RepM.same (Rpv.x ⟨kind, mark, err, pl, i, IA, ic, its, HA, hc, hits⟩) (Rpv.x ⟨kind', mark', err', pl', i', IA', ic', its', HA', hc', hits'⟩) = (decide (kind = kind') && (decide (mark = mark') && (decide (err = err') && (decide (pl = pl') && (ItemM.same i.x i'.x && (decide (its.map (·.x) = its'.map (·.x)) && decide (hits = hits'))))))) := rfl
  dsimp only at *
  clear ok ok'
  generalize RepM.same _ _ = r at hsm ⊢
  have HR := Lib.hid hsm
  clear hsm
  simp only [Rpv.cells]
  have hmx : maxLen ≤ 9223372036854775807 := by unfold maxLen; omega
  have b0 : Below w.heap.size w ((w.alloc (.cells #[.int .i64 kind, .int .i64 mark, .int .i64 err, .int .i64 pl, .int .u64 (i.x.key : Int), .slice i.A i.x.vec.length i.c, .slice i.A2 i.x.note.length i.c2, .slice IA its.length ic, .slice HA hits.length hc] 34)).alloc (.cells #[.int .i64 kind', .int .i64 mark', .int .i64 err', .int .i64 pl', .int .u64 (i'.x.key : Int), .slice i'.A i'.x.vec.length i'.c, .slice i'.A2 i'.x.note.length i'.c2, .slice IA' its'.length ic', .slice HA' hits'.length hc'] 34)) := ((Below.refl _ _).alloc (Nat.le_refl _) _).alloc (by simp) _
  have U1 := (Blk.new w 34 #[.int .i64 kind, .int .i64 mark, .int .i64 err, .int .i64 pl, .int .u64 (i.x.key : Int), .slice i.A i.x.vec.length i.c, .slice i.A2 i.x.note.length i.c2, .slice IA its.length ic, .slice HA hits.length hc]).alloc (.cells #[.int .i64 kind', .int .i64 mark', .int .i64 err', .int .i64 pl', .int .u64 (i'.x.key : Int), .slice i'.A i'.x.vec.length i'.c, .slice i'.A2 i'.x.note.length i'.c2, .slice IA' its'.length ic', .slice HA' hits'.length hc'] 34)
  have U2 := Blk.new (w.alloc (.cells #[.int .i64 kind, .int .i64 mark, .int .i64 err, .int .i64 pl, .int .u64 (i.x.key : Int), .slice i.A i.x.vec.length i.c, .slice i.A2 i.x.note.length i.c2, .slice IA its.length ic, .slice HA hits.length hc] 34)) 34 #[.int .i64 kind', .int .i64 mark', .int .i64 err', .int .i64 pl', .int .u64 (i'.x.key : Int), .slice i'.A i'.x.vec.length i'.c, .slice i'.A2 i'.x.note.length i'.c2, .slice IA' its'.length ic', .slice HA' hits'.length hc']
  have e1 : (w.alloc (.cells #[.int .i64 kind, .int .i64 mark, .int .i64 err, .int .i64 pl, .int .u64 (i.x.key : Int), .slice i.A i.x.vec.length i.c, .slice i.A2 i.x.note.length i.c2, .slice IA its.length ic, .slice HA hits.length hc] 34)).heap.size = w.heap.size + 1 := by simp
  rw [e1] at U2
  clear e1
  have R1 : Hid (i.At w ∧ i'.At w) := Lib.hid ⟨hi, hi'⟩
  have R2 : Hid ((Row w IA (its.flatMap Itv.cells) ∧ (∀ i ∈ its, i.At w) ∧ Row w IA' (its'.flatMap Itv.cells) ∧ (∀ i ∈ its', i.At w)) ∧ its.length ≤ 9223372036854775807) := Lib.hid ⟨⟨rI, aI, rI', aI'⟩, by omega⟩
  have R3 : Hid ((Row w HA (hits.flatMap hitC) ∧ Row w HA' (hits'.flatMap hitC)) ∧ hits.length ≤ 9223372036854775807) := Lib.hid ⟨⟨rH, rH'⟩, by omega⟩
  clear hi hi' rI aI rH rI' aI' rH' lI lH mI mH lI' lH' mI' mH' hmx
  have B0 := Lib.hid b0
  go_enter Try.func12, Try.ntmps12
  go_upto_region 1 with fail
  generalize (w.alloc (.cells #[.int .i64 kind, .int .i64 mark, .int .i64 err, .int .i64 pl, .int .u64 (i.x.key : Int), .slice i.A i.x.vec.length i.c, .slice i.A2 i.x.note.length i.c2, .slice IA its.length ic, .slice HA hits.length hc] 34)).alloc (.cells #[.int .i64 kind', .int .i64 mark', .int .i64 err', .int .i64 pl', .int .u64 (i'.x.key : Int), .slice i'.A i'.x.vec.length i'.c, .slice i'.A2 i'.x.note.length i'.c2, .slice IA' its'.length ic', .slice HA' hits'.length hc'] 34) = V0 at *
  obtain ⟨g, hg⟩ : ∃ g, w.heap.size = g := ⟨_, rfl⟩
  rw [hg] at U1 U2
  simp only [hg]
  have HU := Lib.hid (And.intro U1 U2)
  have HG := Lib.hid hg
  clear U1 U2 b0 hg
  obtain ⟨d0, d1, d2, d3, d4, d5, d6, d7, d8⟩ := HU.out.1.c9
  obtain ⟨e0, e1, e2, e3, e4, e5, e6, e7, e8⟩ := HU.out.2.c9
  by_cases hkd : kind = kind'
  · subst hkd
    by_cases hmk : mark = mark'
    · subst hmk
      by_cases her : err = err'
      · subst her
        by_cases hpl : pl = pl'
        · subst hpl
          go_wp2_with fail
          refine (refsame_any i.x i'.x i.A i.A2 i'.A i'.A2 i.c i.c2 i'.c i'.c2 V0 (R1.out.1.r1.below B0.out) (R1.out.1.r2.below B0.out) (R1.out.2.r1.below B0.out) (R1.out.2.r2.below B0.out) (Nat.le_trans R1.out.1.l1 R1.out.1.m1) (Nat.le_trans R1.out.2.l1 R1.out.2.m1)).mono ?_
          rintro e w1 ⟨rfl, hb⟩
          clear d0 d1 d2 d3 d4 d5 d6 d7 d8 e0 e1 e2 e3 e4 e5 e6 e7 e8
          have B1 := Lib.hid (below_join B0.out hb)
          have HU1 := Lib.hid (And.intro (HU.out.1.below hb HU.out.1.lt) (HU.out.2.below hb HU.out.2.lt))
          clear hb
          generalize ItemM.same i.x i'.x = q1 at *
          cases q1 with
          | false =>
            go_wp2
            go_ret
            exact ⟨by rw [HR.out]; simp [*], B1.out⟩
          | true =>
            obtain ⟨d0, d1, d2, d3, d4, d5, d6, d7, d8⟩ := HU1.out.1.c9
            obtain ⟨e0, e1, e2, e3, e4, e5, e6, e7, e8⟩ := HU1.out.2.c9
            go_wp2_with fail
            refine (refsames_any IA IA' its.length its'.length ic ic' its its' w1 (R2.out.1.1.below B1.out) (fun i hi => (R2.out.1.2.1 i hi).below B1.out) rfl (R2.out.1.2.2.1.below B1.out) (fun i hi => (R2.out.1.2.2.2 i hi).below B1.out) rfl R2.out.2).mono ?_
            rintro e w2 ⟨rfl, hb⟩
            clear d0 d1 d2 d3 d4 d5 d6 d7 d8 e0 e1 e2 e3 e4 e5 e6 e7 e8
            have B2 := Lib.hid (below_join B1.out hb)
            have HU2 := Lib.hid (And.intro (HU1.out.1.below hb HU1.out.1.lt) (HU1.out.2.below hb HU1.out.2.lt))
            clear hb
            generalize decide (its.map (·.x) = its'.map (·.x)) = q2 at *
            cases q2 with
            | false =>
              go_wp2
              go_ret
              exact ⟨by rw [HR.out]; simp [*], B2.out⟩
            | true =>
              obtain ⟨d0, d1, d2, d3, d4, d5, d6, d7, d8⟩ := HU2.out.1.c9
              obtain ⟨e0, e1, e2, e3, e4, e5, e6, e7, e8⟩ := HU2.out.2.c9
              go_wp2_with fail
              refine (refsameH_any HA HA' hits.length hits'.length hc hc' hits hits' w2 (R3.out.1.1.below B2.out) rfl (R3.out.1.2.below B2.out) rfl R3.out.2).mono ?_
              rintro e w3 ⟨rfl, hb⟩
              clear d0 d1 d2 d3 d4 d5 d6 d7 d8 e0 e1 e2 e3 e4 e5 e6 e7 e8
              have B3 := Lib.hid (below_join B2.out hb)
              clear hb
              generalize decide (hits = hits') = q3 at *
              go_wp2
              go_ret
              exact ⟨by rw [HR.out]; simp [*], B3.out⟩
        · have hd : (pl == pl') = false := beq_eq_false_iff_ne.2 hpl
          go_wp2
          go_ret
          exact ⟨by rw [HR.out]; simp [*], B0.out⟩
      · have hd : (err == err') = false := beq_eq_false_iff_ne.2 her
        go_wp2
        go_ret
        exact ⟨by rw [HR.out]; simp [*], B0.out⟩
    · have hd : (mark == mark') = false := beq_eq_false_iff_ne.2 hmk
      go_wp2
      go_ret
      exact ⟨by rw [HR.out]; simp [*], B0.out⟩
  · have hd : (kind == kind') = false := beq_eq_false_iff_ne.2 hkd
    go_wp2
    go_ret
    exact ⟨by rw [HR.out]; simp [*], B0.out⟩
end Go.Proofs.Ytaadfalklddhcaa
