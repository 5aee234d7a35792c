/-
  Whether two requests are alike, by the document's word.
  Conditions: the requests' lists lie in memory.
-/
import Derived.Test.YtaadfalklddhcaaZStmW8
namespace Go.Proofs.Ytaadfalklddhcaa
open Go.RowKit Go.Sort Go.Lib
set_option linter.unusedVariables false
set_option linter.unusedSimpArgs false
set_option maxRecDepth 100000 in
set_option maxHeartbeats 16000000 in
theorem refsame22_any (s t : Rqv) (w : World) (hs : s.At w) (ht : t.At w) : Calls Try.prog 23 #[.agg s.cells, .agg t.cells] w (BoolP (StmM.same s.x t.x) w) := by
  obtain ⟨⟨kind, i, key, till, n, q, fl, sc⟩, A, c, A2, c2, QA, qc, FA, fc⟩ := s
  obtain ⟨⟨kind', i', key', till', n', q', fl', sc'⟩, A', c', A2', c2', QA', qc', FA', fc'⟩ := t
  obtain ⟨r1, r2, r3, r4, ok, l1, l2, l3, l4, m1, m2, m3, m4⟩ := hs
  obtain ⟨r1', r2', r3', r4', ok', l1', l2', l3', l4', m1', m2', m3', m4'⟩ := ht
  have hsm : StmM.same ⟨kind, i, key, till, n, q, fl, sc⟩ ⟨kind', i', key', till', n', q', fl', sc'⟩ = (decide (kind = kind') && (ItemM.same i i' && (decide (key = key') && (decide (till = till') && (decide (n = n') && (decide (sc = sc') && (decide (q = q') && decide (fl = fl')))))))) := rfl
  dsimp only at *
  clear ok ok'
  generalize StmM.same _ _ = r at hsm ⊢
  have HR := Lib.hid hsm
  clear hsm
  simp only [Rqv.cells, rqC]
  have hmx : maxLen ≤ 9223372036854775807 := by unfold maxLen; omega
  have HI : Hid (i.vec.length ≤ 9223372036854775807 ∧ i'.vec.length ≤ 9223372036854775807) := Lib.hid (by omega)
  obtain ⟨nq, hnq⟩ : ∃ n, q.length = n := ⟨_, rfl⟩
  obtain ⟨nq', hnq'⟩ : ∃ n, q'.length = n := ⟨_, rfl⟩
  obtain ⟨nf, hnf⟩ : ∃ n, fl.length = n := ⟨_, rfl⟩
  obtain ⟨nf', hnf'⟩ : ∃ n, fl'.length = n := ⟨_, rfl⟩
  have HN : Hid ((q.length = nq ∧ q'.length = nq') ∧ (fl.length = nf ∧ fl'.length = nf')) := Lib.hid ⟨⟨hnq, hnq'⟩, ⟨hnf, hnf'⟩⟩
  simp only [hnq, hnq', hnf, hnf'] at l3 l4 l3' l4' ⊢
  have bq : nq ≤ 9223372036854775807 := by omega
  have bq' : nq' ≤ 9223372036854775807 := by omega
  have bf : nf ≤ 9223372036854775807 := by omega
  have bf' : nf' ≤ 9223372036854775807 := by omega
  clear l1 l2 l3 l4 m1 m2 m3 m4 l1' l2' l3' l4' m1' m2' m3' m4' hmx hnq hnq' hnf hnf'
  have b0 : Below w.heap.size w ((w.alloc (.cells #[.int .i64 kind, .int .u64 (i.key : Int), .slice A i.vec.length c, .slice A2 i.note.length c2, .int .u64 (key : Int), .int .u64 (till : Int), .int .i64 n, .slice QA nq qc, .slice FA nf fc, .int .i64 sc] 42)).alloc (.cells #[.int .i64 kind', .int .u64 (i'.key : Int), .slice A' i'.vec.length c', .slice A2' i'.note.length c2', .int .u64 (key' : Int), .int .u64 (till' : Int), .int .i64 n', .slice QA' nq' qc', .slice FA' nf' fc', .int .i64 sc'] 42)) := ((Below.refl _ _).alloc (Nat.le_refl _) _).alloc (by simp) _
  have U1 := (Blk.new w 42 #[.int .i64 kind, .int .u64 (i.key : Int), .slice A i.vec.length c, .slice A2 i.note.length c2, .int .u64 (key : Int), .int .u64 (till : Int), .int .i64 n, .slice QA nq qc, .slice FA nf fc, .int .i64 sc]).alloc (.cells #[.int .i64 kind', .int .u64 (i'.key : Int), .slice A' i'.vec.length c', .slice A2' i'.note.length c2', .int .u64 (key' : Int), .int .u64 (till' : Int), .int .i64 n', .slice QA' nq' qc', .slice FA' nf' fc', .int .i64 sc'] 42)
  have U2 := Blk.new (w.alloc (.cells #[.int .i64 kind, .int .u64 (i.key : Int), .slice A i.vec.length c, .slice A2 i.note.length c2, .int .u64 (key : Int), .int .u64 (till : Int), .int .i64 n, .slice QA nq qc, .slice FA nf fc, .int .i64 sc] 42)) 42 #[.int .i64 kind', .int .u64 (i'.key : Int), .slice A' i'.vec.length c', .slice A2' i'.note.length c2', .int .u64 (key' : Int), .int .u64 (till' : Int), .int .i64 n', .slice QA' nq' qc', .slice FA' nf' fc', .int .i64 sc']
  have e1 : (w.alloc (.cells #[.int .i64 kind, .int .u64 (i.key : Int), .slice A i.vec.length c, .slice A2 i.note.length c2, .int .u64 (key : Int), .int .u64 (till : Int), .int .i64 n, .slice QA nq qc, .slice FA nf fc, .int .i64 sc] 42)).heap.size = w.heap.size + 1 := by simp
  rw [e1] at U2
  clear e1
  have R1 : Hid ((Row w A (i32s i.vec) ∧ Row w A2 (bs i.note)) ∧ (Row w A' (i32s i'.vec) ∧ Row w A2' (bs i'.note))) := Lib.hid ⟨⟨r1, r2⟩, ⟨r1', r2'⟩⟩
  have R2 : Hid ((Row w QA (i32s q) ∧ Row w QA' (i32s q')) ∧ (Row w FA (u64s fl) ∧ Row w FA' (u64s fl'))) := Lib.hid ⟨⟨r3, r3'⟩, ⟨r4, r4'⟩⟩
  have B0 := Lib.hid b0
  clear r1 r2 r3 r4 r1' r2' r3' r4' b0
  go_enter Try.func23, Try.ntmps23
  go_upto_region 1 with fail
  generalize (w.alloc (.cells #[.int .i64 kind, .int .u64 (i.key : Int), .slice A i.vec.length c, .slice A2 i.note.length c2, .int .u64 (key : Int), .int .u64 (till : Int), .int .i64 n, .slice QA nq qc, .slice FA nf fc, .int .i64 sc] 42)).alloc (.cells #[.int .i64 kind', .int .u64 (i'.key : Int), .slice A' i'.vec.length c', .slice A2' i'.note.length c2', .int .u64 (key' : Int), .int .u64 (till' : Int), .int .i64 n', .slice QA' nq' qc', .slice FA' nf' fc', .int .i64 sc'] 42) = V0 at *
  obtain ⟨g, hg⟩ : ∃ g, w.heap.size = g := ⟨_, rfl⟩
  rw [hg] at U1 U2
  simp only [hg]
  clear hg
  have HU := Lib.hid (And.intro U1 U2)
  clear U1 U2
  obtain ⟨d0, d1, d2, d3, d4, d5, d6, d7, d8, d9⟩ := HU.out.1.c10
  obtain ⟨e0, e1, e2, e3, e4, e5, e6, e7, e8, e9⟩ := HU.out.2.c10
  by_cases hk : kind = kind'
  · subst hk
    go_wp2_with fail
    refine (refsame_any i i' A A2 A' A2' c c2 c' c2' V0 (R1.out.1.1.below B0.out) (R1.out.1.2.below B0.out) (R1.out.2.1.below B0.out) (R1.out.2.2.below B0.out) HI.out.1 HI.out.2).mono ?_
    rintro e w1 ⟨rfl, hb⟩
    clear d0 d1 d2 d3 d4 d5 d6 d7 d8 d9 e0 e1 e2 e3 e4 e5 e6 e7 e8 e9
    have B1 := Lib.hid (below_join B0.out hb)
    have HU1 := Lib.hid (And.intro (HU.out.1.below hb HU.out.1.lt) (HU.out.2.below hb HU.out.2.lt))
    clear hb HU
    obtain ⟨d0, d1, d2, d3, d4, d5, d6, d7, d8, d9⟩ := HU1.out.1.c10
    obtain ⟨e0, e1, e2, e3, e4, e5, e6, e7, e8, e9⟩ := HU1.out.2.c10
    generalize ItemM.same i i' = q1 at *
    cases q1 with
    | false =>
      go_wp2
      go_ret
      exact ⟨by rw [HR.out]; simp [*], B1.out⟩
    | true =>
      by_cases h1 : key = key'
      · subst h1
        by_cases h2 : till = till'
        · subst h2
          by_cases h3 : n = n'
          · subst h3
            by_cases h4 : sc = sc'
            · subst h4
              by_cases h5 : nq = nq'
              · subst h5
                by_cases h6 : nf = nf'
                · subst h6
                  go_wp2
                  clear d0 d1 d2 d3 d4 d5 d6 d7 d8 d9 e0 e1 e2 e3 e4 e5 e6 e7 e8 e9
                  go_loopw [5] (fun a wr => ∃ j : Nat, a = .int .i64 j ∧ j ≤ nq ∧ q.take j = q'.take j ∧ Below w1.heap.size w1 wr) (fun a _ => nq - (RowKit.intOf a).toNat)
                  case atStart => exact ⟨0, rfl, by omega, rfl, Below.refl _ _⟩
                  case round =>
                    obtain ⟨j, rfl, hj, heq, hbel⟩ := hrel
                    have HE := Lib.hid heq
                    have d7 := (HU1.out.1.below hbel HU1.out.1.lt).c10.2.2.2.2.2.2.2.1
                    have e7 := (HU1.out.2.below hbel HU1.out.2.lt).c10.2.2.2.2.2.2.2.1
                    clear heq
                    by_cases hlt : j < nq
                    · obtain ⟨u, hu⟩ : ∃ u, q[j]? = some u := ⟨_, List.getElem?_eq_getElem (by have := HN.out.1.1; omega)⟩
                      obtain ⟨v, hv⟩ : ∃ u, q'[j]? = some u := ⟨_, List.getElem?_eq_getElem (by have := HN.out.1.2; omega)⟩
                      obtain ⟨b1, o1, rfl, e1⟩ := row_i32 ((R2.out.1.1.below B1.out).below hbel) hu
                      obtain ⟨b2, o2, rfl, e2⟩ := row_i32 ((R2.out.1.2.below B1.out).below hbel) hv
                      have HV := Lib.hid (And.intro hu hv)
                      have HQ := Lib.hid hbel
                      clear hu hv hbel
                      by_cases huv : u = v
                      · subst huv
                        have HT := Lib.hid (take_next HE.out HV.out.1 HV.out.2)
                        go_wp2
                        go_quiet (fail)
                        go_wp2
                        go_roundw
                        case rel => exact ⟨j + 1, by go_num, by omega, HT.out, ⟨HQ.out.os, HQ.out.tape, HQ.out.output, HQ.out.size, HQ.out.block⟩⟩
                        case measure => simp [RowKit.intOf]; omega
                      · have hd : (u == v) = false := beq_eq_false_iff_ne.2 huv
                        have HF := Lib.hid (ne_at HV.out.1 HV.out.2 huv)
                        have HQ2 := Lib.hid (below_join B1.out HQ.out)
                        go_wp2
                        go_quiet (fail)
                        go_wp2
                        go_ret
                        exact ⟨by rw [HR.out, decide_eq_false HF.out]; simp, ⟨HQ2.out.os, HQ2.out.tape, HQ2.out.output, HQ2.out.size, HQ2.out.block⟩⟩
                    · obtain rfl : j = nq := by omega
                      have HT : Hid (q = q') := Lib.hid (by
                        have := HE.out
                        rwa [List.take_of_length_le (by rw [HN.out.1.1]; omega), List.take_of_length_le (by rw [HN.out.1.2]; omega)] at this)
                      have B2 := Lib.hid (below_join B1.out hbel)
                      have HU2 := Lib.hid (And.intro (HU1.out.1.below hbel HU1.out.1.lt) (HU1.out.2.below hbel HU1.out.2.lt))
                      clear hbel HU1 B1 HE
                      go_wp2
                      clear d7 e7
                      go_loopw [6] (fun a wr => ∃ z : Nat, a = .int .i64 z ∧ z ≤ nf ∧ fl.take z = fl'.take z ∧ Hid (Below w.heap.size w wr) ∧ Hid (Blk wr g 42 #[.int .i64 kind, .int .u64 (i.key : Int), .slice A i.vec.length c, .slice A2 i.note.length c2, .int .u64 (key : Int), .int .u64 (till : Int), .int .i64 n, .slice QA j qc, .slice FA nf fc, .int .i64 sc] ∧ Blk wr (g + 1) 42 #[.int .i64 kind, .int .u64 (i'.key : Int), .slice A' i'.vec.length c', .slice A2' i'.note.length c2', .int .u64 (key : Int), .int .u64 (till : Int), .int .i64 n, .slice QA' j qc', .slice FA' nf fc', .int .i64 sc])) (fun a _ => nf - (RowKit.intOf a).toNat)
                      case atStart => exact ⟨0, rfl, by omega, rfl, B2, HU2⟩
                      case round =>
                        clear B2 HU2
                        obtain ⟨jj, rfl, hjj, heq, B3, HU3⟩ := hrel
                        have HE := Lib.hid heq
                        have d8 := HU3.out.1.c10.2.2.2.2.2.2.2.2.1
                        have e8 := HU3.out.2.c10.2.2.2.2.2.2.2.2.1
                        clear heq
                        by_cases hlt2 : jj < nf
                        · obtain ⟨u, hu⟩ : ∃ u, fl[jj]? = some u := ⟨_, List.getElem?_eq_getElem (by have := HN.out.2.1; omega)⟩
                          obtain ⟨v, hv⟩ : ∃ u, fl'[jj]? = some u := ⟨_, List.getElem?_eq_getElem (by have := HN.out.2.2; omega)⟩
                          obtain ⟨b1, o1, rfl, e1⟩ := row_u64 (R2.out.2.1.below B3.out) hu
                          obtain ⟨b2, o2, rfl, e2⟩ := row_u64 (R2.out.2.2.below B3.out) hv
                          have HV := Lib.hid (And.intro hu hv)
                          clear hu hv
                          by_cases huv : u = v
                          · subst huv
                            have HT2 := Lib.hid (take_next64 HE.out HV.out.1 HV.out.2)
                            go_wp2
                            go_quiet (fail)
                            go_wp2
                            go_roundw
                            case rel => exact ⟨jj + 1, by go_num, by omega, HT2.out, Lib.hid ⟨B3.out.os, B3.out.tape, B3.out.output, B3.out.size, B3.out.block⟩, Lib.hid ⟨Blk.drewN HU3.out.1 _, Blk.drewN HU3.out.2 _⟩⟩
                            case measure => simp [RowKit.intOf]; omega
                          · have hd : ((u : Int) == (v : Int)) = false := beq_eq_false_iff_ne.2 (by omega)
                            have HF := Lib.hid (ne_at64 HV.out.1 HV.out.2 huv)
                            go_wp2
                            go_quiet (fail)
                            go_wp2
                            go_ret
                            exact ⟨by rw [HR.out, decide_eq_false HF.out]; simp, ⟨B3.out.os, B3.out.tape, B3.out.output, B3.out.size, B3.out.block⟩⟩
                        · obtain rfl : jj = nf := by omega
                          have HT2 : Hid (fl = fl') := Lib.hid (by
                            have := HE.out
                            rwa [List.take_of_length_le (by rw [HN.out.2.1]; omega), List.take_of_length_le (by rw [HN.out.2.2]; omega)] at this)
                          go_wp2
                          go_ret
                          exact ⟨by rw [HR.out, decide_eq_true HT.out, decide_eq_true HT2.out]; simp, B3.out⟩
                · have hd : ((nf : Int) == (nf' : Int)) = false := beq_eq_false_iff_ne.2 (by omega)
                  have hne : ¬ fl = fl' := fun e => h6 (by rw [← HN.out.2.1, ← HN.out.2.2, e])
                  go_wp2
                  go_ret
                  exact ⟨by rw [HR.out]; simp [*], B1.out⟩
              · have hd : ((nq : Int) == (nq' : Int)) = false := beq_eq_false_iff_ne.2 (by omega)
                have hne : ¬ q = q' := fun e => h5 (by rw [← HN.out.1.1, ← HN.out.1.2, e])
                go_wp2
                go_ret
                exact ⟨by rw [HR.out]; simp [*], B1.out⟩
            · have hd : (sc == sc') = false := beq_eq_false_iff_ne.2 h4
              go_wp2
              go_ret
              exact ⟨by rw [HR.out]; simp [*], B1.out⟩
          · have hd : (n == n') = false := beq_eq_false_iff_ne.2 h3
            go_wp2
            go_ret
            exact ⟨by rw [HR.out]; simp [*], B1.out⟩
        · have hd : ((till : Int) == (till' : Int)) = false := beq_eq_false_iff_ne.2 (by omega)
          go_wp2
          go_ret
          exact ⟨by rw [HR.out]; simp [*], B1.out⟩
      · have hd : ((key : Int) == (key' : Int)) = false := beq_eq_false_iff_ne.2 (by omega)
        go_wp2
        go_ret
        exact ⟨by rw [HR.out]; simp [*], B1.out⟩
  · have hd : (kind == kind') = false := beq_eq_false_iff_ne.2 hk
    go_wp2
    go_ret
    exact ⟨by rw [HR.out]; simp [*], B0.out⟩
end Go.Proofs.Ytaadfalklddhcaa
