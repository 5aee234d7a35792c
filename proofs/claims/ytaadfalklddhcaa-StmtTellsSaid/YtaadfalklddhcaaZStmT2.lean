/-
  Whether a reply may be (stmt.MayTell).
  Conditions: the reply's lists lie in memory.
-/
import Derived.Test.YtaadfalklddhcaaZStmT1
import Derived.Test.YtaadfalklddhcaaZStmR2
import Derived.Test.YtaadfalklddhcaaZStmW9
namespace Go.Proofs.Ytaadfalklddhcaa
open Go.RowKit Go.Sort Go.Lib
set_option linter.unusedVariables false
set_option linter.unusedSimpArgs false
theorem drew_below {g : Nat} {w V : World} (h : Below g w V) : Below g w V.drew := ⟨h.os, h.tape, h.output, h.size, h.block⟩
theorem nilItv_at (w : World) : Itv.At ⟨⟨0, [], []⟩, none, 0, none, 0⟩ w := ⟨.inl rfl, .inl rfl, StmM.no_ok, Nat.le_refl _, Nat.le_refl _, Nat.zero_le _, Nat.zero_le _⟩
theorem RepM.mayR_no {x : Rp} (h : ¬ RepM.kOk x) : RepM.mayR x = false := by
  cases q : RepM.mayR x with
  | false => rfl
  | true => exact absurd ((RepM.mayR_iff x).1 q).1 h
/-- Ahead of the last question: the fields that the kind has (y), and whether they are in range. -/
def MtDone (x : Rp) (xc : Array Value) (g : Nat) (w : World) (y : Rpv) (ok : Bool) (wc : World) : Prop := (ok = true ↔ RepM.kOk x) ∧ y.x = RepM.bareR x ∧ y.At wc ∧ Blk wc g 34 xc ∧ Blk wc (g + 1) 34 y.cells ∧ Below g w wc
set_option maxRecDepth 100000 in
set_option maxHeartbeats 16000000 in
theorem maytell_any (s : Rpv) (w : World) (hs : s.At w) : Calls Try.prog 16 #[.agg s.cells] w (BoolP (RepM.mayR s.x) w) := by
  obtain ⟨kind, mark, err, pl, i, IA, ic, its, HA, hc, hits⟩ := s
  have HS0 := Lib.hid hs
  have hmx : maxLen ≤ 9223372036854775807 := by unfold maxLen; omega
  clear hs
  simp only [Rpv.cells]
  have b0 : Below w.heap.size w ((w.alloc (.cells #[.int .i64 kind, .int .i64 mark, .int .i64 err, .int .i64 pl, .int .u64 (i.x.key : Int), .slice i.A i.x.vec.length i.c, .slice i.A2 i.x.note.length i.c2, .slice IA its.length ic, .slice HA hits.length hc] 34)).alloc (.cells #[.int .i64 kind, .int .i64 0, .int .i64 0, .int .i64 0, .int .u64 0, .slice none 0 0, .slice none 0 0, .slice none 0 0, .slice none 0 0] 34)) := ((Below.refl _ _).alloc (Nat.le_refl _) _).alloc (by simp) _
  have U1 := (Blk.new w 34 #[.int .i64 kind, .int .i64 mark, .int .i64 err, .int .i64 pl, .int .u64 (i.x.key : Int), .slice i.A i.x.vec.length i.c, .slice i.A2 i.x.note.length i.c2, .slice IA its.length ic, .slice HA hits.length hc]).alloc (.cells #[.int .i64 kind, .int .i64 0, .int .i64 0, .int .i64 0, .int .u64 0, .slice none 0 0, .slice none 0 0, .slice none 0 0, .slice none 0 0] 34)
  have U2 := Blk.new (w.alloc (.cells #[.int .i64 kind, .int .i64 mark, .int .i64 err, .int .i64 pl, .int .u64 (i.x.key : Int), .slice i.A i.x.vec.length i.c, .slice i.A2 i.x.note.length i.c2, .slice IA its.length ic, .slice HA hits.length hc] 34)) 34 #[.int .i64 kind, .int .i64 0, .int .i64 0, .int .i64 0, .int .u64 0, .slice none 0 0, .slice none 0 0, .slice none 0 0, .slice none 0 0]
  have e1 : (w.alloc (.cells #[.int .i64 kind, .int .i64 mark, .int .i64 err, .int .i64 pl, .int .u64 (i.x.key : Int), .slice i.A i.x.vec.length i.c, .slice i.A2 i.x.note.length i.c2, .slice IA its.length ic, .slice HA hits.length hc] 34)).heap.size = w.heap.size + 1 := by simp
  rw [e1] at U2
  clear e1
  go_enter Try.func16, Try.ntmps16
  go_upto_region 2 with fail
  generalize (w.alloc (.cells #[.int .i64 kind, .int .i64 mark, .int .i64 err, .int .i64 pl, .int .u64 (i.x.key : Int), .slice i.A i.x.vec.length i.c, .slice i.A2 i.x.note.length i.c2, .slice IA its.length ic, .slice HA hits.length hc] 34)).alloc (.cells #[.int .i64 kind, .int .i64 0, .int .i64 0, .int .i64 0, .int .u64 0, .slice none 0 0, .slice none 0 0, .slice none 0 0, .slice none 0 0] 34) = V0 at *
  obtain ⟨g, hg⟩ : ∃ g, w.heap.size = g := ⟨_, rfl⟩
  have HG := Lib.hid hg
  rw [hg] at U1 U2 b0
  simp only [hg]
  have B0 := Lib.hid b0
  have HSA : Hid (∀ (w' : World), Below g w w' → Rpv.At ⟨kind, mark, err, pl, i, IA, ic, its, HA, hc, hits⟩ w') := Lib.hid fun w' h => HS0.out.below (by rw [HG.out]; exact h)
  clear hg b0 hmx
  have HU := Lib.hid (And.intro U1 U2)
  have d0 := U1.c9.1
  go_upto_region 3 with fail
  go_cut [9] from 8 to 87 (fun v9 wc => v9 = .int .i64 kind ∧ wc = V0)
  case first =>
    go_wp2
    go_meet
    case rel => exact ⟨rfl, rfl⟩
  obtain ⟨rfl, hwc⟩ := hcut
  obtain rfl : V0 = wc := hwc.symm
  clear d0
  obtain ⟨d0, d1, d2, d3, d4, d5, d6, d7, d8⟩ := U1.c9
  obtain ⟨e0, e1, e2, e3, e4, e5, e6, e7, e8⟩ := U2.c9
  clear U1 U2
  go_step
  go_cut [4] from 10 to 87 (fun v4 wc => ∃ (y : Rpv) (ok : Bool), v4 = .bool ok ∧ MtDone (Rpv.x ⟨kind, mark, err, pl, i, IA, ic, its, HA, hc, hits⟩) #[.int .i64 kind, .int .i64 mark, .int .i64 err, .int .i64 pl, .int .u64 (i.x.key : Int), .slice i.A i.x.vec.length i.c, .slice i.A2 i.x.note.length i.c2, .slice IA its.length ic, .slice HA hits.length hc] g w y ok wc)
  case first =>
    by_cases k1 : kind = 1
    · subst k1
      as_aux_lemma =>
      have hy : Blk (V0.setCell ⟨g + 1, 1, none⟩ (.int .i64 mark)) (g + 1) 34 #[.int .i64 1, .int .i64 mark, .int .i64 0, .int .i64 0, .int .u64 0, .slice none 0 0, .slice none 0 0, .slice none 0 0, .slice none 0 0] := (HU.out.2.set_ 1 (.int .i64 mark))
      have hx : Blk (V0.setCell ⟨g + 1, 1, none⟩ (.int .i64 mark)) g 34 #[.int .i64 1, .int .i64 mark, .int .i64 err, .int .i64 pl, .int .u64 (i.x.key : Int), .slice i.A i.x.vec.length i.c, .slice i.A2 i.x.note.length i.c2, .slice IA its.length ic, .slice HA hits.length hc] := (HU.out.1.far (p := ⟨g + 1, 1, none⟩) (by show g ≠ g + 1; omega) (.int .i64 mark))
      have hb : Below g w (V0.setCell ⟨g + 1, 1, none⟩ (.int .i64 mark)) := sets_below B0.out (by have := HU.out.2.lt; omega) (by omega : g ≤ g + 1) [(1, .int .i64 mark)]
      have fz1 := HU.out.2.frozen 1
      have HX1 := Lib.hid hx
      have HY1 := Lib.hid hy
      have B1 := Lib.hid hb
      clear hx hy hb
      go_upto_region 7 with fail
      clear fz1
      generalize (V0.setCell ⟨g + 1, 1, none⟩ (.int .i64 mark)) = V1 at *
      clear d0 d1 d2 d3 d4 d5 d6 d7 d8 e0 e1 e2 e3 e4 e5 e6 e7 e8
      have d1 := HX1.out.c9.2.1
      by_cases p1 : 0 ≤ mark
      · go_wp2_with fail
        go_meet
        case rel => exact ⟨⟨1, mark, 0, 0, ⟨⟨0, [], []⟩, none, 0, none, 0⟩, none, 0, [], none, 0, []⟩, _, rfl, (by unfold RepM.kOk; simp [Rpv.x] <;> omega), rfl, ⟨nilItv_at _, .inl rfl, (fun j hj => by cases hj), .inl rfl, ⟨(by simp [Rpv.x]), HS0.out.ok.hmark, (by simp [Rpv.x]), (by simp [Rpv.x]), StmM.no_ok, (by simp [Rpv.x]), (by simp [Rpv.x])⟩, Nat.le_refl _, Nat.le_refl _, Nat.zero_le _, Nat.zero_le _⟩, HX1.out, HY1.out, B1.out⟩
      · go_wp2_with fail
        go_meet
        case rel => exact ⟨⟨1, mark, 0, 0, ⟨⟨0, [], []⟩, none, 0, none, 0⟩, none, 0, [], none, 0, []⟩, _, rfl, (by unfold RepM.kOk; simp [Rpv.x] <;> omega), rfl, ⟨nilItv_at _, .inl rfl, (fun j hj => by cases hj), .inl rfl, ⟨(by simp [Rpv.x]), HS0.out.ok.hmark, (by simp [Rpv.x]), (by simp [Rpv.x]), StmM.no_ok, (by simp [Rpv.x]), (by simp [Rpv.x])⟩, Nat.le_refl _, Nat.le_refl _, Nat.zero_le _, Nat.zero_le _⟩, HX1.out, HY1.out, B1.out⟩
    by_cases k2 : kind = 2
    · subst k2
      as_aux_lemma =>
      go_upto_region 9 with fail
      have hy : Blk ((V0.setCell ⟨g + 1, 2, none⟩ (.int .i64 err)).setCell ⟨g + 1, 3, none⟩ (.int .i64 pl)) (g + 1) 34 #[.int .i64 2, .int .i64 0, .int .i64 err, .int .i64 pl, .int .u64 0, .slice none 0 0, .slice none 0 0, .slice none 0 0, .slice none 0 0] := ((HU.out.2.set_ 2 (.int .i64 err)).set_ 3 (.int .i64 pl))
      have hx : Blk ((V0.setCell ⟨g + 1, 2, none⟩ (.int .i64 err)).setCell ⟨g + 1, 3, none⟩ (.int .i64 pl)) g 34 #[.int .i64 2, .int .i64 mark, .int .i64 err, .int .i64 pl, .int .u64 (i.x.key : Int), .slice i.A i.x.vec.length i.c, .slice i.A2 i.x.note.length i.c2, .slice IA its.length ic, .slice HA hits.length hc] := ((HU.out.1.far (p := ⟨g + 1, 2, none⟩) (by show g ≠ g + 1; omega) (.int .i64 err)).far (p := ⟨g + 1, 3, none⟩) (by show g ≠ g + 1; omega) (.int .i64 pl))
      have hb : Below g w ((V0.setCell ⟨g + 1, 2, none⟩ (.int .i64 err)).setCell ⟨g + 1, 3, none⟩ (.int .i64 pl)) := sets_below B0.out (by have := HU.out.2.lt; omega) (by omega : g ≤ g + 1) [(2, .int .i64 err), (3, .int .i64 pl)]
      have fz2 := HU.out.2.frozen 2
      have fz3 := HU.out.2.frozen 3
      have HX1 := Lib.hid hx
      have HY1 := Lib.hid hy
      have B1 := Lib.hid hb
      clear hx hy hb
      go_region
      go_upto_region 10 with fail
      clear fz2 fz3
      generalize ((V0.setCell ⟨g + 1, 2, none⟩ (.int .i64 err)).setCell ⟨g + 1, 3, none⟩ (.int .i64 pl)) = V1 at *
      clear d0 d1 d2 d3 d4 d5 d6 d7 d8 e0 e1 e2 e3 e4 e5 e6 e7 e8
      have d2 := HX1.out.c9.2.2.1
      have d3 := HX1.out.c9.2.2.2.1
      by_cases p3 : 1 ≤ err
      · by_cases p2 : err ≤ 255
        · by_cases p1 : 0 ≤ pl
          · go_wp2_with fail
            go_meet
            case rel => exact ⟨⟨2, 0, err, pl, ⟨⟨0, [], []⟩, none, 0, none, 0⟩, none, 0, [], none, 0, []⟩, _, rfl, (by unfold RepM.kOk; simp [Rpv.x] <;> omega), rfl, ⟨nilItv_at _, .inl rfl, (fun j hj => by cases hj), .inl rfl, ⟨(by simp [Rpv.x]), (by simp [Rpv.x]), HS0.out.ok.herr, HS0.out.ok.hplace, StmM.no_ok, (by simp [Rpv.x]), (by simp [Rpv.x])⟩, Nat.le_refl _, Nat.le_refl _, Nat.zero_le _, Nat.zero_le _⟩, HX1.out, HY1.out, (drew_below B1.out)⟩
          · go_wp2_with fail
            go_meet
            case rel => exact ⟨⟨2, 0, err, pl, ⟨⟨0, [], []⟩, none, 0, none, 0⟩, none, 0, [], none, 0, []⟩, _, rfl, (by unfold RepM.kOk; simp [Rpv.x] <;> omega), rfl, ⟨nilItv_at _, .inl rfl, (fun j hj => by cases hj), .inl rfl, ⟨(by simp [Rpv.x]), (by simp [Rpv.x]), HS0.out.ok.herr, HS0.out.ok.hplace, StmM.no_ok, (by simp [Rpv.x]), (by simp [Rpv.x])⟩, Nat.le_refl _, Nat.le_refl _, Nat.zero_le _, Nat.zero_le _⟩, HX1.out, HY1.out, (drew_below B1.out)⟩
        · go_wp2_with fail
          go_meet
          case rel => exact ⟨⟨2, 0, err, pl, ⟨⟨0, [], []⟩, none, 0, none, 0⟩, none, 0, [], none, 0, []⟩, _, rfl, (by unfold RepM.kOk; simp [Rpv.x] <;> omega), rfl, ⟨nilItv_at _, .inl rfl, (fun j hj => by cases hj), .inl rfl, ⟨(by simp [Rpv.x]), (by simp [Rpv.x]), HS0.out.ok.herr, HS0.out.ok.hplace, StmM.no_ok, (by simp [Rpv.x]), (by simp [Rpv.x])⟩, Nat.le_refl _, Nat.le_refl _, Nat.zero_le _, Nat.zero_le _⟩, HX1.out, HY1.out, (drew_below B1.out)⟩
      · go_wp2_with fail
        go_meet
        case rel => exact ⟨⟨2, 0, err, pl, ⟨⟨0, [], []⟩, none, 0, none, 0⟩, none, 0, [], none, 0, []⟩, _, rfl, (by unfold RepM.kOk; simp [Rpv.x] <;> omega), rfl, ⟨nilItv_at _, .inl rfl, (fun j hj => by cases hj), .inl rfl, ⟨(by simp [Rpv.x]), (by simp [Rpv.x]), HS0.out.ok.herr, HS0.out.ok.hplace, StmM.no_ok, (by simp [Rpv.x]), (by simp [Rpv.x])⟩, Nat.le_refl _, Nat.le_refl _, Nat.zero_le _, Nat.zero_le _⟩, HX1.out, HY1.out, (drew_below B1.out)⟩
    by_cases k3 : kind = 3
    · subst k3
      as_aux_lemma =>
      have hy : Blk (((V0.setCell ⟨g + 1, 4, none⟩ (.int .u64 (i.x.key : Int))).setCell ⟨g + 1, 5, none⟩ (.slice i.A i.x.vec.length i.c)).setCell ⟨g + 1, 6, none⟩ (.slice i.A2 i.x.note.length i.c2)) (g + 1) 34 #[.int .i64 3, .int .i64 0, .int .i64 0, .int .i64 0, .int .u64 (i.x.key : Int), .slice i.A i.x.vec.length i.c, .slice i.A2 i.x.note.length i.c2, .slice none 0 0, .slice none 0 0] := (((HU.out.2.set_ 4 (.int .u64 (i.x.key : Int))).set_ 5 (.slice i.A i.x.vec.length i.c)).set_ 6 (.slice i.A2 i.x.note.length i.c2))
      have hx : Blk (((V0.setCell ⟨g + 1, 4, none⟩ (.int .u64 (i.x.key : Int))).setCell ⟨g + 1, 5, none⟩ (.slice i.A i.x.vec.length i.c)).setCell ⟨g + 1, 6, none⟩ (.slice i.A2 i.x.note.length i.c2)) g 34 #[.int .i64 3, .int .i64 mark, .int .i64 err, .int .i64 pl, .int .u64 (i.x.key : Int), .slice i.A i.x.vec.length i.c, .slice i.A2 i.x.note.length i.c2, .slice IA its.length ic, .slice HA hits.length hc] := (((HU.out.1.far (p := ⟨g + 1, 4, none⟩) (by show g ≠ g + 1; omega) (.int .u64 (i.x.key : Int))).far (p := ⟨g + 1, 5, none⟩) (by show g ≠ g + 1; omega) (.slice i.A i.x.vec.length i.c)).far (p := ⟨g + 1, 6, none⟩) (by show g ≠ g + 1; omega) (.slice i.A2 i.x.note.length i.c2))
      have hb : Below g w (((V0.setCell ⟨g + 1, 4, none⟩ (.int .u64 (i.x.key : Int))).setCell ⟨g + 1, 5, none⟩ (.slice i.A i.x.vec.length i.c)).setCell ⟨g + 1, 6, none⟩ (.slice i.A2 i.x.note.length i.c2)) := sets_below B0.out (by have := HU.out.2.lt; omega) (by omega : g ≤ g + 1) [(4, .int .u64 (i.x.key : Int)), (5, .slice i.A i.x.vec.length i.c), (6, .slice i.A2 i.x.note.length i.c2)]
      have fz4 := HU.out.2.frozen 4
      have fz5 := HU.out.2.frozen 5
      have fz6 := HU.out.2.frozen 6
      have HX1 := Lib.hid hx
      have HY1 := Lib.hid hy
      have B1 := Lib.hid hb
      clear hx hy hb
      go_upto_region 13 with fail
      clear fz4 fz5 fz6
      generalize (((V0.setCell ⟨g + 1, 4, none⟩ (.int .u64 (i.x.key : Int))).setCell ⟨g + 1, 5, none⟩ (.slice i.A i.x.vec.length i.c)).setCell ⟨g + 1, 6, none⟩ (.slice i.A2 i.x.note.length i.c2)) = V1 at *
      clear d0 d1 d2 d3 d4 d5 d6 d7 d8 e0 e1 e2 e3 e4 e5 e6 e7 e8
      obtain ⟨d0, d1, d2, d3, d4, d5, d6, d7, d8⟩ := HX1.out.c9
      clear d0 d1 d2 d3 d7 d8
      go_wp2_with fail
      refine (may_any i.x.key i.A i.A2 i.x.vec.length i.c i.x.note.length i.c2 V1 (Nat.le_trans (Nat.le_trans HS0.out.hi.l1 HS0.out.hi.m1) (by unfold maxLen; omega)) (Nat.le_trans (Nat.le_trans HS0.out.hi.l2 HS0.out.hi.m2) (by unfold maxLen; omega))).mono ?_
      rintro e V2 ⟨rfl, hb⟩
      clear d4 d5 d6
      generalize hmm : (if i.x.vec.length = 0 ∨ 4096 < i.x.vec.length then 9 else if 1024 < i.x.note.length then 3 else 0 : Nat) = mm
      have HMM : Hid (ItemM.may i.x = mm) := Lib.hid hmm
      have HX2 := Lib.hid (HX1.out.below hb HX1.out.lt)
      have HY2 := Lib.hid (HY1.out.below hb HY1.out.lt)
      have B2 := Lib.hid (below_step B1.out hb (Nat.le_of_eq HG.out.symm))
      clear hmm hb HX1 HY1 B1
      go_wp2_with fail
      go_meet
      case rel => exact ⟨⟨3, 0, 0, 0, i, none, 0, [], none, 0, []⟩, ((mm : Int) == 0), rfl, (by unfold RepM.kOk; simp [Rpv.x, HMM.out]), rfl, ⟨(HSA.out _ B2.out).hi, .inl rfl, (fun j hj => by cases hj), .inl rfl, ⟨(by simp [Rpv.x]), (by simp [Rpv.x]), (by simp [Rpv.x]), (by simp [Rpv.x]), HS0.out.ok.hit, (by simp [Rpv.x]), (by simp [Rpv.x])⟩, Nat.le_refl _, Nat.le_refl _, Nat.zero_le _, Nat.zero_le _⟩, HX2.out, HY2.out, B2.out⟩
    by_cases k4 : kind = 4
    · subst k4
      as_aux_lemma =>
      have hy : Blk (V0.setCell ⟨g + 1, 7, none⟩ (.slice IA its.length ic)) (g + 1) 34 #[.int .i64 4, .int .i64 0, .int .i64 0, .int .i64 0, .int .u64 0, .slice none 0 0, .slice none 0 0, .slice IA its.length ic, .slice none 0 0] := (HU.out.2.set_ 7 (.slice IA its.length ic))
      have hx : Blk (V0.setCell ⟨g + 1, 7, none⟩ (.slice IA its.length ic)) g 34 #[.int .i64 4, .int .i64 mark, .int .i64 err, .int .i64 pl, .int .u64 (i.x.key : Int), .slice i.A i.x.vec.length i.c, .slice i.A2 i.x.note.length i.c2, .slice IA its.length ic, .slice HA hits.length hc] := (HU.out.1.far (p := ⟨g + 1, 7, none⟩) (by show g ≠ g + 1; omega) (.slice IA its.length ic))
      have hb : Below g w (V0.setCell ⟨g + 1, 7, none⟩ (.slice IA its.length ic)) := sets_below B0.out (by have := HU.out.2.lt; omega) (by omega : g ≤ g + 1) [(7, .slice IA its.length ic)]
      have fz7 := HU.out.2.frozen 7
      have HX1 := Lib.hid hx
      have HY1 := Lib.hid hy
      have B1 := Lib.hid hb
      clear hx hy hb
      go_upto_region 16 with fail
      clear fz7
      generalize (V0.setCell ⟨g + 1, 7, none⟩ (.slice IA its.length ic)) = V1 at *
      clear d0 d1 d2 d3 d4 d5 d6 d7 d8 e0 e1 e2 e3 e4 e5 e6 e7 e8
      obtain ⟨d0, d1, d2, d3, d4, d5, d6, d7, d8⟩ := HX1.out.c9
      clear d0 d1 d2 d3 d4 d5 d6 d8
      by_cases hln : its.length ≤ 50
      · have HLN := Lib.hid hln
        have hzi : decide ((its.length : Int) ≤ 50) = true := decide_eq_true (by omega)
        go_wp2_with fail
        refine (containsItem_any IA its.length ic its V1 (HSA.out _ B1.out).rI (HSA.out _ B1.out).aI rfl (by omega)).mono ?_
        rintro e V2 ⟨rfl, hb⟩
        obtain ⟨bq, hbq⟩ : ∃ bq : Bool, decide (∀ s ∈ its, ItemM.may s.x = 0) = bq := ⟨_, rfl⟩
        have HBQ := Lib.hid hbq
        simp only [hbq]
        have HX2 := Lib.hid (HX1.out.below hb HX1.out.lt)
        have HY2 := Lib.hid (HY1.out.below hb HY1.out.lt)
        have B2 := Lib.hid (below_step B1.out hb (Nat.le_of_eq HG.out.symm))
        clear hbq hb HX1 HY1 B1
        go_wp2_with fail
        go_meet
        case rel => exact ⟨⟨4, 0, 0, 0, ⟨⟨0, [], []⟩, none, 0, none, 0⟩, IA, ic, its, none, 0, []⟩, _, rfl, (by unfold RepM.kOk; simp [Rpv.x, HLN.out, HBQ.out.symm]), rfl, ⟨nilItv_at _, (HSA.out _ B2.out).rI, (HSA.out _ B2.out).aI, .inl rfl, ⟨(by simp [Rpv.x]), (by simp [Rpv.x]), (by simp [Rpv.x]), (by simp [Rpv.x]), StmM.no_ok, HS0.out.ok.hits_, (by simp [Rpv.x])⟩, (HSA.out _ B2.out).lI, Nat.le_refl _, (HSA.out _ B2.out).mI, Nat.zero_le _⟩, HX2.out, HY2.out, B2.out⟩
      · have HLN := Lib.hid hln
        have hzi : decide ((its.length : Int) ≤ 50) = false := decide_eq_false (by omega)
        go_wp2_with fail
        go_meet
        case rel => exact ⟨⟨4, 0, 0, 0, ⟨⟨0, [], []⟩, none, 0, none, 0⟩, IA, ic, its, none, 0, []⟩, false, rfl, (by unfold RepM.kOk; simp [Rpv.x]; intro q; exact absurd q HLN.out), rfl, ⟨nilItv_at _, (HSA.out _ B1.out).rI, (HSA.out _ B1.out).aI, .inl rfl, ⟨(by simp [Rpv.x]), (by simp [Rpv.x]), (by simp [Rpv.x]), (by simp [Rpv.x]), StmM.no_ok, HS0.out.ok.hits_, (by simp [Rpv.x])⟩, (HSA.out _ B1.out).lI, Nat.le_refl _, (HSA.out _ B1.out).mI, Nat.zero_le _⟩, HX1.out, HY1.out, B1.out⟩
    by_cases k5 : kind = 5
    · subst k5
      as_aux_lemma =>
      have hy : Blk (V0.setCell ⟨g + 1, 8, none⟩ (.slice HA hits.length hc)) (g + 1) 34 #[.int .i64 5, .int .i64 0, .int .i64 0, .int .i64 0, .int .u64 0, .slice none 0 0, .slice none 0 0, .slice none 0 0, .slice HA hits.length hc] := (HU.out.2.set_ 8 (.slice HA hits.length hc))
      have hx : Blk (V0.setCell ⟨g + 1, 8, none⟩ (.slice HA hits.length hc)) g 34 #[.int .i64 5, .int .i64 mark, .int .i64 err, .int .i64 pl, .int .u64 (i.x.key : Int), .slice i.A i.x.vec.length i.c, .slice i.A2 i.x.note.length i.c2, .slice IA its.length ic, .slice HA hits.length hc] := (HU.out.1.far (p := ⟨g + 1, 8, none⟩) (by show g ≠ g + 1; omega) (.slice HA hits.length hc))
      have hb : Below g w (V0.setCell ⟨g + 1, 8, none⟩ (.slice HA hits.length hc)) := sets_below B0.out (by have := HU.out.2.lt; omega) (by omega : g ≤ g + 1) [(8, .slice HA hits.length hc)]
      have fz8 := HU.out.2.frozen 8
      have HX1 := Lib.hid hx
      have HY1 := Lib.hid hy
      have B1 := Lib.hid hb
      clear hx hy hb
      go_upto_region 19 with fail
      clear fz8
      generalize (V0.setCell ⟨g + 1, 8, none⟩ (.slice HA hits.length hc)) = V1 at *
      clear d0 d1 d2 d3 d4 d5 d6 d7 d8 e0 e1 e2 e3 e4 e5 e6 e7 e8
      obtain ⟨d0, d1, d2, d3, d4, d5, d6, d7, d8⟩ := HX1.out.c9
      clear d0 d1 d2 d3 d4 d5 d6 d7
      by_cases hln : hits.length ≤ 50
      · have HLN := Lib.hid hln
        have hzi : decide ((hits.length : Int) ≤ 50) = true := decide_eq_true (by omega)
        go_wp2_with fail
        refine (containsHit_any HA hits.length hc hits V1 (HSA.out _ B1.out).rH rfl (by omega)).mono ?_
        rintro e V2 ⟨rfl, hb⟩
        obtain ⟨bq, hbq⟩ : ∃ bq : Bool, decide (∀ s ∈ hits, 0 ≤ s.2) = bq := ⟨_, rfl⟩
        have HBQ := Lib.hid hbq
        simp only [hbq]
        have HX2 := Lib.hid (HX1.out.below hb HX1.out.lt)
        have HY2 := Lib.hid (HY1.out.below hb HY1.out.lt)
        have B2 := Lib.hid (below_step B1.out hb (Nat.le_of_eq HG.out.symm))
        clear hbq hb HX1 HY1 B1
        go_wp2_with fail
        go_meet
        case rel => exact ⟨⟨5, 0, 0, 0, ⟨⟨0, [], []⟩, none, 0, none, 0⟩, none, 0, [], HA, hc, hits⟩, _, rfl, (by unfold RepM.kOk; simp [Rpv.x, HLN.out, HBQ.out.symm]), rfl, ⟨nilItv_at _, .inl rfl, (fun j hj => by cases hj), (HSA.out _ B2.out).rH, ⟨(by simp [Rpv.x]), (by simp [Rpv.x]), (by simp [Rpv.x]), (by simp [Rpv.x]), StmM.no_ok, (by simp [Rpv.x]), HS0.out.ok.hh⟩, Nat.le_refl _, (HSA.out _ B2.out).lH, Nat.zero_le _, (HSA.out _ B2.out).mH⟩, HX2.out, HY2.out, B2.out⟩
      · have HLN := Lib.hid hln
        have hzi : decide ((hits.length : Int) ≤ 50) = false := decide_eq_false (by omega)
        go_wp2_with fail
        go_meet
        case rel => exact ⟨⟨5, 0, 0, 0, ⟨⟨0, [], []⟩, none, 0, none, 0⟩, none, 0, [], HA, hc, hits⟩, false, rfl, (by unfold RepM.kOk; simp [Rpv.x]; intro q; exact absurd q HLN.out), rfl, ⟨nilItv_at _, .inl rfl, (fun j hj => by cases hj), (HSA.out _ B1.out).rH, ⟨(by simp [Rpv.x]), (by simp [Rpv.x]), (by simp [Rpv.x]), (by simp [Rpv.x]), StmM.no_ok, (by simp [Rpv.x]), HS0.out.ok.hh⟩, Nat.le_refl _, (HSA.out _ B1.out).lH, Nat.zero_le _, (HSA.out _ B1.out).mH⟩, HX1.out, HY1.out, B1.out⟩
    have h1 : (kind == 1) = false := beq_eq_false_iff_ne.2 k1
    have h2 : (kind == 2) = false := beq_eq_false_iff_ne.2 k2
    have h3 : (kind == 3) = false := beq_eq_false_iff_ne.2 k3
    have h4 : (kind == 4) = false := beq_eq_false_iff_ne.2 k4
    have h5 : (kind == 5) = false := beq_eq_false_iff_ne.2 k5
    clear d0 d1 d2 d3 d4 d5 d6 d7 d8 e0 e1 e2 e3 e4 e5 e6 e7 e8
    have HN : Hid (RepM.mayR (Rpv.x ⟨kind, mark, err, pl, i, IA, ic, its, HA, hc, hits⟩) = false) := Lib.hid (RepM.mayR_no (fun h => by have := RepM.kOk_kind h; simp only [Rpv.x] at this; omega))
    clear k1 k2 k3 k4 k5
    go_wp2
    go_ret
    exact ⟨by rw [HN.out]; rfl, by rw [HG.out]; exact B0.out⟩
  obtain ⟨y, ok, rfl, hok, hyx, hya, hx, hy, hb⟩ := hcut
  clear d0 d1 d2 d3 d4 d5 d6 d7 d8 e0 e1 e2 e3 e4 e5 e6 e7 e8
  cases ok with
  | false =>
    have HN : Hid (RepM.mayR (Rpv.x ⟨kind, mark, err, pl, i, IA, ic, its, HA, hc, hits⟩) = false) := Lib.hid (RepM.mayR_no (fun q => by have := hok.2 q; cases this))
    have B1 := Lib.hid hb
    clear hok hyx hya hx hy hb
    go_wp2
    go_ret
    exact ⟨by rw [HN.out]; rfl, by rw [HG.out]; exact B1.out⟩
  | true =>
    have HK := Lib.hid (hok.1 rfl)
    have HYX := Lib.hid hyx
    have B1 := Lib.hid hb
    have HA1 := Lib.hid (HSA.out _ hb)
    have HYA := Lib.hid hya
    clear hok hyx hya hb
    go_wp2_with (first | (refine wpl_load_row rfl _ (.tmp 1) rfl (g) (by go_simp) _ #[.int .i64 kind, .int .i64 mark, .int .i64 err, .int .i64 pl, .int .u64 (i.x.key : Int), .slice i.A i.x.vec.length i.c, .slice i.A2 i.x.note.length i.c2, .slice IA its.length ic, .slice HA hits.length hc] (0, 0) _ hx Try.underlying34 rfl (by kernel_rfl) ?_) | (refine wpl_load_row rfl _ (.tmp 3) rfl (g + 1) (by go_simp) _ y.cells (0, 0) _ hy Try.underlying34 rfl (by kernel_rfl) ?_))
    refine (sametell_any ⟨kind, mark, err, pl, i, IA, ic, its, HA, hc, hits⟩ y wc HA1.out HYA.out).mono ?_
    rintro e w2 ⟨rfl, hb⟩
    have B2 := Lib.hid (below_step B1.out hb (Nat.le_of_eq HG.out.symm))
    clear hb hx hy
    go_wp2
    go_ret
    have hq : RepM.same (Rpv.x ⟨kind, mark, err, pl, i, IA, ic, its, HA, hc, hits⟩) y.x = RepM.mayR (Rpv.x ⟨kind, mark, err, pl, i, IA, ic, its, HA, hc, hits⟩) := by
      rw [HYX.out]
      unfold RepM.mayR
      simp [HK.out]
    exact ⟨by rw [← hq]; rfl, by rw [HG.out]; exact B2.out⟩
end Go.Proofs.Ytaadfalklddhcaa
