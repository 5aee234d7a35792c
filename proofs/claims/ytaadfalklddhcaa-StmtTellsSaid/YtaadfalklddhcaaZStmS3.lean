/-
  Whether a request may be, by the document's word.
  Conditions: the request's lists lie in memory.
-/
import Derived.Test.YtaadfalklddhcaaZStmS1
import Derived.Test.YtaadfalklddhcaaZStmS2
namespace Go.Proofs.Ytaadfalklddhcaa
open Go.RowKit Go.Sort Go.Lib
set_option linter.unusedVariables false
set_option linter.unusedSimpArgs false
def rmP (g : Nat) (s : Rqv) (P1 P2 P3 P4 P5 P6 P7 P8 P9 : Bool) : List (Nat × Nat × Value) := [(0, 3, (.pointer (some ⟨g, 0, none⟩))), (1, 4, (.int .i64 s.x.kind)), (2, 5, (.bool P1)), (3, 6, (.bool P1)), (4, 7, (bif P1 then undef else (.pointer (some ⟨g, 0, none⟩)))), (5, 8, (bif P1 then undef else (.int .i64 s.x.kind))), (6, 9, (bif P1 then undef else (.bool P2))), (7, 10, (.bool P2)), (8, 11, (.bool P2)), (9, 12, (bif P2 then undef else (.agg s.cells))), (10, 13, (bif P2 then undef else (.agg s.cells))), (11, 14, (bif P2 then undef else (.agg (Rqv.bare s).cells))), (12, 15, (bif P2 then undef else (.bool (!P3)))), (13, 16, (bif P2 then undef else (.bool P3))), (14, 17, (.bool P3)), (15, 18, (.bool P3)), (16, 19, (bif P3 then undef else (.pointer (some ⟨g, 6, none⟩)))), (17, 20, (bif P3 then undef else (.int .i64 s.x.n))), (18, 21, (bif P3 then undef else (.bool P4))), (19, 22, (.bool P4)), (20, 23, (.bool P4)), (21, 24, (bif P4 then undef else (.pointer (some ⟨g, 6, none⟩)))), (22, 25, (bif P4 then undef else (.int .i64 s.x.n))), (23, 26, (bif P4 then undef else (.bool P5))), (24, 27, (.bool P5)), (25, 28, (.bool P5)), (26, 29, (bif P5 then undef else (.pointer (some ⟨g, 7, none⟩)))), (27, 30, (bif P5 then undef else (.slice s.QA s.x.q.length s.qc))), (28, 31, (bif P5 then undef else (.int .i64 (s.x.q.length : Int)))), (29, 32, (bif P5 then undef else (.bool P6))), (30, 33, (.bool P6)), (31, 34, (.bool P6)), (32, 35, (bif P6 then undef else (.pointer (some ⟨g, 8, none⟩)))), (33, 36, (bif P6 then undef else (.slice s.FA s.x.fl.length s.fc))), (34, 37, (bif P6 then undef else (.int .i64 (s.x.fl.length : Int)))), (35, 38, (bif P6 then undef else (.bool P7))), (36, 39, (.bool P7)), (37, 40, (.bool P7)), (38, 41, (bif P7 then undef else (.pointer (some ⟨g, 9, none⟩)))), (39, 42, (bif P7 then undef else (.int .i64 s.x.scale))), (40, 43, (bif P7 then undef else (.bool P8))), (41, 44, (.bool P8)), (42, 45, (.bool P8)), (43, 46, (bif P8 then undef else (.pointer (some ⟨g, 9, none⟩)))), (44, 47, (bif P8 then undef else (.int .i64 s.x.scale))), (45, 48, (bif P8 then undef else (.bool P9))), (46, 49, (.bool P9))]
theorem or_letter (p q : Bool) : ∃ r : Bool, ((p = true → r = true) ∧ (p = false → q = r)) ∧ (r = false ↔ (p = false ∧ q = false)) := ⟨p || q, by cases p <;> cases q <;> decide⟩
theorem may_letters (x : Rq) : ∃ P1 P2 P3 P4 P5 P6 P7 P8 P9 : Bool, (decide (x.kind < 1) = P1) ∧ ((P1 = true → P2 = true) ∧ (P1 = false → decide (11 < x.kind) = P2)) ∧ ((P2 = true → P3 = true) ∧ (P2 = false → StmM.same x (StmM.bare x) = !P3)) ∧ ((P3 = true → P4 = true) ∧ (P3 = false → decide (x.n < 0) = P4)) ∧ ((P4 = true → P5 = true) ∧ (P4 = false → decide (50 < x.n) = P5)) ∧
    ((P5 = true → P6 = true) ∧ (P5 = false → decide ((4096 : Int) < x.q.length) = P6)) ∧ ((P6 = true → P7 = true) ∧ (P6 = false → decide ((4096 : Int) < x.fl.length) = P7)) ∧ ((P7 = true → P8 = true) ∧ (P7 = false → decide (x.scale < -64) = P8)) ∧ ((P8 = true → P9 = true) ∧ (P8 = false → decide (64 < x.scale) = P9)) ∧ (StmM.may x = true ↔ (P9 = false ∧ StmM.itOk x)) := by
  obtain ⟨p2, h2, k2⟩ := or_letter (decide (x.kind < 1)) (decide (11 < x.kind))
  obtain ⟨p3, h3, k3⟩ := or_letter p2 (!StmM.same x (StmM.bare x))
  obtain ⟨p4, h4, k4⟩ := or_letter p3 (decide (x.n < 0))
  obtain ⟨p5, h5, k5⟩ := or_letter p4 (decide (50 < x.n))
  obtain ⟨p6, h6, k6⟩ := or_letter p5 (decide ((4096 : Int) < x.q.length))
  obtain ⟨p7, h7, k7⟩ := or_letter p6 (decide ((4096 : Int) < x.fl.length))
  obtain ⟨p8, h8, k8⟩ := or_letter p7 (decide (x.scale < -64))
  obtain ⟨p9, h9, k9⟩ := or_letter p8 (decide (64 < x.scale))
  refine ⟨_, p2, p3, p4, p5, p6, p7, p8, p9, rfl, h2, ⟨h3.1, fun h => by rw [← h3.2 h, Bool.not_not]⟩, h4, h5, h6, h7, h8, h9, ?_⟩
  rw [StmM.may_iff, k9, k8, k7, k6, k5, k4, k3, k2]
  simp only [decide_eq_false_iff_not, Bool.not_eq_false']
  constructor
  · rintro ⟨q1, q2, q3, q4, q5, q6, q7, q8, q9, q10⟩
    exact ⟨⟨⟨⟨⟨⟨⟨⟨⟨by omega, by omega⟩, q3⟩, by omega⟩, by omega⟩, by omega⟩, by omega⟩, by omega⟩, by omega⟩, q10⟩
  · rintro ⟨⟨⟨⟨⟨⟨⟨⟨⟨q1, q2⟩, q3⟩, q4⟩, q5⟩, q6⟩, q7⟩, q8⟩, q9⟩, q10⟩
    exact ⟨by omega, by omega, q3, by omega, by omega, by omega, by omega, by omega, by omega, q10⟩
set_option maxRecDepth 100000 in
set_option maxHeartbeats 16000000 in
theorem refmay22_any (s : Rqv) (w : World) (hs : s.At w) : Calls Try.prog 22 #[.agg s.cells] w (BoolP (StmM.may s.x) w) := by
  have HS0 := Lib.hid hs
  obtain ⟨P1, P2, P3, P4, P5, P6, P7, P8, P9, h0, h1, h2, h3, h4, h5, h6, h7, h8, h9⟩ := may_letters s.x
  have H0 := Lib.hid h0
  have H1 := Lib.hid h1
  have H2 := Lib.hid h2
  have H3 := Lib.hid h3
  have H4 := Lib.hid h4
  have H5 := Lib.hid h5
  have H6 := Lib.hid h6
  have H7 := Lib.hid h7
  have H8 := Lib.hid h8
  have H9 := Lib.hid h9
  obtain ⟨bm, hbm⟩ : ∃ b, StmM.may s.x = b := ⟨_, rfl⟩
  rw [hbm]
  have HBM := Lib.hid hbm
  clear h0 h1 h2 h3 h4 h5 h6 h7 h8 h9 hbm hs
  have b0 : Below w.heap.size w (w.alloc (.cells s.cells 42)) := (Below.refl _ _).alloc (Nat.le_refl _) _
  have U1 := Blk.new w 42 s.cells
  go_enter Try.func22, Try.ntmps22
  go_upto_region 1 with fail
  generalize w.alloc (.cells s.cells 42) = V0 at *
  obtain ⟨g, hg⟩ : ∃ g, w.heap.size = g := ⟨_, rfl⟩
  rw [hg] at U1
  simp only [hg]
  clear hg
  have HX := Lib.hid U1
  have HS := Lib.hid (HS0.out.below b0)
  have B0 := Lib.hid b0
  clear U1 b0 HS0
  refine wp_named fun a0 ha0 => ?_
  have z1 : a0.tmps.getD 1 undef = (.pointer (some ⟨g, 0, none⟩)) := by rw [ha0.out]; rfl
  have hsz0 : a0.tmps.size = 62 := by rw [ha0.out]; rfl
  refine wp_region_invB _ (by kernel_rfl) (fun L a wv => PIF a0 [3, 4, 5, 6, 7, 8, 9, 10, 11, 12, 13, 14, 15, 16, 17, 18, 19, 20, 21, 22, 23, 24, 25, 26, 27, 28, 29, 30, 31, 32, 33, 34, 35, 36, 37, 38, 39, 40, 41, 42, 43, 44, 45, 46, 47, 48, 49] (rmP g s P1 P2 P3 P4 P5 P6 P7 P8 P9) L a ∧ Below V0.heap.size V0 wv) (by kernel_rfl) ?_ ?_ ?_
  · exact ⟨PIF.start _ _ _, ⟨rfl, rfl, rfl, Nat.le_refl _, fun _ _ => rfl⟩⟩
  rotate_left
  · as_aux_lemma =>
    refine ⟨?_, ?_, ?_, ?_, ?_, ?_, ?_, ?_, ?_, ?_, ?_, ?_, ?_, ?_, ?_, ?_, ?_, ?_, ?_, ?_, ?_, ?_, ?_, ?_, ?_, ?_, ?_, ?_, ?_, ?_, ?_, ?_, ?_, ?_, ?_, ?_, ?_, ?_, ?_, ?_, ?_, ?_, ?_, ?_, ?_, ?_, ?_, trivial⟩
    · intro L a w1 hI hi hd
      obtain ⟨hp, hw⟩ := hI
      have t1 := hp.at_ 1 _ rfl z1
      have t1' := t1
      rw [Array.getD_eq_getD_getElem?] at t1'
      exact rstep_valW (wanted_none rfl _) (.pointer (some ⟨g, 0, none⟩)) w1 (by go_simp) ⟨(hp.put 0 3 (.pointer (some ⟨g, 0, none⟩)) (by simp [rmP]) (by simp [rmP]) rfl (by rw [hsz0]; exact (by decide : 3 < 62))), hw⟩
    · intro L a w1 hI hi hd
      obtain ⟨hp, hw⟩ := hI
      simp [Region.binds] at hd
      have e0 : a.tmps.getD 3 undef = (.pointer (some ⟨g, 0, none⟩)) := hp.pu (0, 3, (.pointer (some ⟨g, 0, none⟩))) (by simp [rmP]) (by simp [hd])
      have f0 : a.tmps[3]?.getD undef = (.pointer (some ⟨g, 0, none⟩)) := by rw [← Array.getD_eq_getD_getElem?]; exact e0
      obtain ⟨d0, d1, d2, d3, d4, d5, d6, d7, d8, d9⟩ := (HX.out.below hw HX.out.lt).c10
      exact rstep_valW (wanted_none rfl _) (.int .i64 s.x.kind) w1 (by go_simp) ⟨(hp.put 1 4 (.int .i64 s.x.kind) (by simp [rmP]) (by simp [rmP]) rfl (by rw [hsz0]; exact (by decide : 4 < 62))), hw⟩
    · intro L a w1 hI hi hd
      obtain ⟨hp, hw⟩ := hI
      simp [Region.binds] at hd
      have e1 : a.tmps.getD 4 undef = (.int .i64 s.x.kind) := hp.pu (1, 4, (.int .i64 s.x.kind)) (by simp [rmP]) (by simp [hd])
      have f1 : a.tmps[4]?.getD undef = (.int .i64 s.x.kind) := by rw [← Array.getD_eq_getD_getElem?]; exact e1
      have hq := H0.out
      exact rstep_valW (wanted_none rfl _) (.bool P1) w1 (by go_simp) ⟨(hp.put 2 5 (.bool P1) (by simp [rmP]) (by simp [rmP]) rfl (by rw [hsz0]; exact (by decide : 5 < 62))), hw⟩
    · intro L a w1 hI hi hd
      obtain ⟨hp, hw⟩ := hI
      simp [Region.binds] at hd
      have e2 : a.tmps.getD 5 undef = (.bool P1) := hp.pu (2, 5, (.bool P1)) (by simp [rmP]) (by simp [hd])
      have f2 : a.tmps[5]?.getD undef = (.bool P1) := by rw [← Array.getD_eq_getD_getElem?]; exact e2
      exact rstep_valW (wanted_none rfl _) (.bool P1) w1 (by go_simp) ⟨(hp.put 3 6 (.bool P1) (by simp [rmP]) (by simp [rmP]) rfl (by rw [hsz0]; exact (by decide : 6 < 62))), hw⟩
    · intro L a w1 hI hi hd
      obtain ⟨hp, hw⟩ := hI
      simp [Region.binds] at hd
      have e3 : a.tmps.getD 6 undef = (.bool P1) := hp.pu (3, 6, (.bool P1)) (by simp [rmP]) (by simp [hd])
      have f3 : a.tmps[6]?.getD undef = (.bool P1) := by rw [← Array.getD_eq_getD_getElem?]; exact e3
      have t1 := hp.at_ 1 _ rfl z1
      have t1' := t1
      rw [Array.getD_eq_getD_getElem?] at t1'
      cases P1 with
      | true =>
        try simp only [cond_true, cond_false] at e3 f3
        exact rstep_un (unwanted_of 3 6 false true (by decide) rfl rfl e3) ⟨(hp.put 4 7 undef (by simp [rmP]) (by simp [rmP]) rfl (by rw [hsz0]; exact (by decide : 7 < 62))), hw⟩
      | false =>
        try simp only [cond_true, cond_false] at e3 f3
        exact rstep_valW (wanted_of 3 6 false rfl rfl e3) (.pointer (some ⟨g, 0, none⟩)) w1 (by go_simp) ⟨(hp.put 4 7 (.pointer (some ⟨g, 0, none⟩)) (by simp [rmP]) (by simp [rmP]) rfl (by rw [hsz0]; exact (by decide : 7 < 62))), hw⟩
    · intro L a w1 hI hi hd
      obtain ⟨hp, hw⟩ := hI
      simp [Region.binds] at hd
      have e3 : a.tmps.getD 6 undef = (.bool P1) := hp.pu (3, 6, (.bool P1)) (by simp [rmP]) (by simp [hd])
      have f3 : a.tmps[6]?.getD undef = (.bool P1) := by rw [← Array.getD_eq_getD_getElem?]; exact e3
      have e4 : a.tmps.getD 7 undef = (bif P1 then undef else (.pointer (some ⟨g, 0, none⟩))) := hp.pu (4, 7, (bif P1 then undef else (.pointer (some ⟨g, 0, none⟩)))) (by simp [rmP]) (by simp [hd])
      have f4 : a.tmps[7]?.getD undef = (bif P1 then undef else (.pointer (some ⟨g, 0, none⟩))) := by rw [← Array.getD_eq_getD_getElem?]; exact e4
      cases P1 with
      | true =>
        try simp only [cond_true, cond_false] at e3 f3 e4 f4
        exact rstep_un (unwanted_of 3 6 false true (by decide) rfl rfl e3) ⟨(hp.put 5 8 undef (by simp [rmP]) (by simp [rmP]) rfl (by rw [hsz0]; exact (by decide : 8 < 62))), hw⟩
      | false =>
        try simp only [cond_true, cond_false] at e3 f3 e4 f4
        obtain ⟨d0, d1, d2, d3, d4, d5, d6, d7, d8, d9⟩ := (HX.out.below hw HX.out.lt).c10
        exact rstep_valW (wanted_of 3 6 false rfl rfl e3) (.int .i64 s.x.kind) w1 (by go_simp) ⟨(hp.put 5 8 (.int .i64 s.x.kind) (by simp [rmP]) (by simp [rmP]) rfl (by rw [hsz0]; exact (by decide : 8 < 62))), hw⟩
    · intro L a w1 hI hi hd
      obtain ⟨hp, hw⟩ := hI
      simp [Region.binds] at hd
      have e3 : a.tmps.getD 6 undef = (.bool P1) := hp.pu (3, 6, (.bool P1)) (by simp [rmP]) (by simp [hd])
      have f3 : a.tmps[6]?.getD undef = (.bool P1) := by rw [← Array.getD_eq_getD_getElem?]; exact e3
      have e5 : a.tmps.getD 8 undef = (bif P1 then undef else (.int .i64 s.x.kind)) := hp.pu (5, 8, (bif P1 then undef else (.int .i64 s.x.kind))) (by simp [rmP]) (by simp [hd])
      have f5 : a.tmps[8]?.getD undef = (bif P1 then undef else (.int .i64 s.x.kind)) := by rw [← Array.getD_eq_getD_getElem?]; exact e5
      cases P1 with
      | true =>
        try simp only [cond_true, cond_false] at e3 f3 e5 f5
        exact rstep_un (unwanted_of 3 6 false true (by decide) rfl rfl e3) ⟨(hp.put 6 9 undef (by simp [rmP]) (by simp [rmP]) rfl (by rw [hsz0]; exact (by decide : 9 < 62))), hw⟩
      | false =>
        try simp only [cond_true, cond_false] at e3 f3 e5 f5
        have hq := H1.out.2 rfl
        exact rstep_valW (wanted_of 3 6 false rfl rfl e3) (.bool P2) w1 (by go_simp) ⟨(hp.put 6 9 (.bool P2) (by simp [rmP]) (by simp [rmP]) rfl (by rw [hsz0]; exact (by decide : 9 < 62))), hw⟩
    · intro L a w1 hI hi hd
      obtain ⟨hp, hw⟩ := hI
      simp [Region.binds] at hd
      have e3 : a.tmps.getD 6 undef = (.bool P1) := hp.pu (3, 6, (.bool P1)) (by simp [rmP]) (by simp [hd])
      have f3 : a.tmps[6]?.getD undef = (.bool P1) := by rw [← Array.getD_eq_getD_getElem?]; exact e3
      have e6 : a.tmps.getD 9 undef = (bif P1 then undef else (.bool P2)) := hp.pu (6, 9, (bif P1 then undef else (.bool P2))) (by simp [rmP]) (by simp [hd])
      have f6 : a.tmps[9]?.getD undef = (bif P1 then undef else (.bool P2)) := by rw [← Array.getD_eq_getD_getElem?]; exact e6
      cases P1 with
      | true =>
        try simp only [cond_true, cond_false] at e3 f3 e6 f6
        obtain rfl : P2 = true := H1.out.1 rfl
        exact rstep_valW (wanted_none rfl _) (.bool true) w1 (by go_simp) ⟨(hp.put 7 10 (.bool true) (by simp [rmP]) (by simp [rmP]) rfl (by rw [hsz0]; exact (by decide : 10 < 62))), hw⟩
      | false =>
        try simp only [cond_true, cond_false] at e3 f3 e6 f6
        exact rstep_valW (wanted_none rfl _) (.bool P2) w1 (by go_simp) ⟨(hp.put 7 10 (.bool P2) (by simp [rmP]) (by simp [rmP]) rfl (by rw [hsz0]; exact (by decide : 10 < 62))), hw⟩
    · intro L a w1 hI hi hd
      obtain ⟨hp, hw⟩ := hI
      simp [Region.binds] at hd
      have e7 : a.tmps.getD 10 undef = (.bool P2) := hp.pu (7, 10, (.bool P2)) (by simp [rmP]) (by simp [hd])
      have f7 : a.tmps[10]?.getD undef = (.bool P2) := by rw [← Array.getD_eq_getD_getElem?]; exact e7
      exact rstep_valW (wanted_none rfl _) (.bool P2) w1 (by go_simp) ⟨(hp.put 8 11 (.bool P2) (by simp [rmP]) (by simp [rmP]) rfl (by rw [hsz0]; exact (by decide : 11 < 62))), hw⟩
    · intro L a w1 hI hi hd
      obtain ⟨hp, hw⟩ := hI
      simp [Region.binds] at hd
      have e8 : a.tmps.getD 11 undef = (.bool P2) := hp.pu (8, 11, (.bool P2)) (by simp [rmP]) (by simp [hd])
      have f8 : a.tmps[11]?.getD undef = (.bool P2) := by rw [← Array.getD_eq_getD_getElem?]; exact e8
      have t1 := hp.at_ 1 _ rfl z1
      have t1' := t1
      rw [Array.getD_eq_getD_getElem?] at t1'
      cases P2 with
      | true =>
        try simp only [cond_true, cond_false] at e8 f8
        exact rstep_un (unwanted_of 8 11 false true (by decide) rfl rfl e8) ⟨(hp.put 9 12 undef (by simp [rmP]) (by simp [rmP]) rfl (by rw [hsz0]; exact (by decide : 12 < 62))), hw⟩
      | false =>
        try simp only [cond_true, cond_false] at e8 f8
        exact rstep_valW (wanted_of 8 11 false rfl rfl e8) (.agg s.cells) w1 (exec_load_row _ (.tmp 1) rfl g t1 _ _ _ (HX.out.below hw HX.out.lt) Try.underlying42 rfl (by kernel_rfl)) ⟨(hp.put 9 12 (.agg s.cells) (by simp [rmP]) (by simp [rmP]) rfl (by rw [hsz0]; exact (by decide : 12 < 62))), hw⟩
    · intro L a w1 hI hi hd
      obtain ⟨hp, hw⟩ := hI
      simp [Region.binds] at hd
      have e8 : a.tmps.getD 11 undef = (.bool P2) := hp.pu (8, 11, (.bool P2)) (by simp [rmP]) (by simp [hd])
      have f8 : a.tmps[11]?.getD undef = (.bool P2) := by rw [← Array.getD_eq_getD_getElem?]; exact e8
      have t1 := hp.at_ 1 _ rfl z1
      have t1' := t1
      rw [Array.getD_eq_getD_getElem?] at t1'
      cases P2 with
      | true =>
        try simp only [cond_true, cond_false] at e8 f8
        exact rstep_un (unwanted_of 8 11 false true (by decide) rfl rfl e8) ⟨(hp.put 10 13 undef (by simp [rmP]) (by simp [rmP]) rfl (by rw [hsz0]; exact (by decide : 13 < 62))), hw⟩
      | false =>
        try simp only [cond_true, cond_false] at e8 f8
        exact rstep_valW (wanted_of 8 11 false rfl rfl e8) (.agg s.cells) w1 (exec_load_row _ (.tmp 1) rfl g t1 _ _ _ (HX.out.below hw HX.out.lt) Try.underlying42 rfl (by kernel_rfl)) ⟨(hp.put 10 13 (.agg s.cells) (by simp [rmP]) (by simp [rmP]) rfl (by rw [hsz0]; exact (by decide : 13 < 62))), hw⟩
    · intro L a w1 hI hi hd
      obtain ⟨hp, hw⟩ := hI
      simp [Region.binds] at hd
      have e8 : a.tmps.getD 11 undef = (.bool P2) := hp.pu (8, 11, (.bool P2)) (by simp [rmP]) (by simp [hd])
      have f8 : a.tmps[11]?.getD undef = (.bool P2) := by rw [← Array.getD_eq_getD_getElem?]; exact e8
      have e10 : a.tmps.getD 13 undef = (bif P2 then undef else (.agg s.cells)) := hp.pu (10, 13, (bif P2 then undef else (.agg s.cells))) (by simp [rmP]) (by simp [hd])
      have f10 : a.tmps[13]?.getD undef = (bif P2 then undef else (.agg s.cells)) := by rw [← Array.getD_eq_getD_getElem?]; exact e10
      cases P2 with
      | true =>
        try simp only [cond_true, cond_false] at e8 f8 e10 f10
        exact rstep_un (unwanted_of 8 11 false true (by decide) rfl rfl e8) ⟨(hp.put 11 14 undef (by simp [rmP]) (by simp [rmP]) rfl (by rw [hsz0]; exact (by decide : 14 < 62))), hw⟩
      | false =>
        try simp only [cond_true, cond_false] at e8 f8 e10 f10
        refine rstep_callW (wanted_of 8 11 false rfl rfl e8) 77 #[(.agg s.cells)] (by go_simp) ?_
        refine (bare_any s w1).mono ?_
        rintro e w2 ⟨rfl, hb2⟩
        exact ⟨(hp.put 11 14 (.agg (Rqv.bare s).cells) (by simp [rmP]) (by simp [rmP]) rfl (by rw [hsz0]; exact (by decide : 14 < 62))), hw.trans (hb2.mono hw.size)⟩
    · intro L a w1 hI hi hd
      obtain ⟨hp, hw⟩ := hI
      simp [Region.binds] at hd
      have e8 : a.tmps.getD 11 undef = (.bool P2) := hp.pu (8, 11, (.bool P2)) (by simp [rmP]) (by simp [hd])
      have f8 : a.tmps[11]?.getD undef = (.bool P2) := by rw [← Array.getD_eq_getD_getElem?]; exact e8
      have e9 : a.tmps.getD 12 undef = (bif P2 then undef else (.agg s.cells)) := hp.pu (9, 12, (bif P2 then undef else (.agg s.cells))) (by simp [rmP]) (by simp [hd])
      have f9 : a.tmps[12]?.getD undef = (bif P2 then undef else (.agg s.cells)) := by rw [← Array.getD_eq_getD_getElem?]; exact e9
      have e11 : a.tmps.getD 14 undef = (bif P2 then undef else (.agg (Rqv.bare s).cells)) := hp.pu (11, 14, (bif P2 then undef else (.agg (Rqv.bare s).cells))) (by simp [rmP]) (by simp [hd])
      have f11 : a.tmps[14]?.getD undef = (bif P2 then undef else (.agg (Rqv.bare s).cells)) := by rw [← Array.getD_eq_getD_getElem?]; exact e11
      cases P2 with
      | true =>
        try simp only [cond_true, cond_false] at e8 f8 e9 f9 e11 f11
        exact rstep_un (unwanted_of 8 11 false true (by decide) rfl rfl e8) ⟨(hp.put 12 15 undef (by simp [rmP]) (by simp [rmP]) rfl (by rw [hsz0]; exact (by decide : 15 < 62))), hw⟩
      | false =>
        try simp only [cond_true, cond_false] at e8 f8 e9 f9 e11 f11
        refine rstep_callW (wanted_of 8 11 false rfl rfl e8) 23 #[(.agg s.cells), (.agg (Rqv.bare s).cells)] (by go_simp) ?_
        refine (refsame22_any s (Rqv.bare s) w1 (HS.out.below hw) (HS.out.below hw).bare_).mono ?_
        rintro e w2 ⟨rfl, hb2⟩
        rw [Rqv.bare_x, show StmM.same s.x (StmM.bare s.x) = !P3 from H2.out.2 rfl]
        exact ⟨(hp.put 12 15 (.bool (!P3)) (by simp [rmP]) (by simp [rmP]) rfl (by rw [hsz0]; exact (by decide : 15 < 62))), hw.trans (hb2.mono hw.size)⟩
    · intro L a w1 hI hi hd
      obtain ⟨hp, hw⟩ := hI
      simp [Region.binds] at hd
      have e8 : a.tmps.getD 11 undef = (.bool P2) := hp.pu (8, 11, (.bool P2)) (by simp [rmP]) (by simp [hd])
      have f8 : a.tmps[11]?.getD undef = (.bool P2) := by rw [← Array.getD_eq_getD_getElem?]; exact e8
      have e12 : a.tmps.getD 15 undef = (bif P2 then undef else (.bool (!P3))) := hp.pu (12, 15, (bif P2 then undef else (.bool (!P3)))) (by simp [rmP]) (by simp [hd])
      have f12 : a.tmps[15]?.getD undef = (bif P2 then undef else (.bool (!P3))) := by rw [← Array.getD_eq_getD_getElem?]; exact e12
      cases P2 with
      | true =>
        try simp only [cond_true, cond_false] at e8 f8 e12 f12
        exact rstep_un (unwanted_of 8 11 false true (by decide) rfl rfl e8) ⟨(hp.put 13 16 undef (by simp [rmP]) (by simp [rmP]) rfl (by rw [hsz0]; exact (by decide : 16 < 62))), hw⟩
      | false =>
        try simp only [cond_true, cond_false] at e8 f8 e12 f12
        exact rstep_valW (wanted_of 8 11 false rfl rfl e8) (.bool P3) w1 (by go_simp) ⟨(hp.put 13 16 (.bool P3) (by simp [rmP]) (by simp [rmP]) rfl (by rw [hsz0]; exact (by decide : 16 < 62))), hw⟩
    · intro L a w1 hI hi hd
      obtain ⟨hp, hw⟩ := hI
      simp [Region.binds] at hd
      have e8 : a.tmps.getD 11 undef = (.bool P2) := hp.pu (8, 11, (.bool P2)) (by simp [rmP]) (by simp [hd])
      have f8 : a.tmps[11]?.getD undef = (.bool P2) := by rw [← Array.getD_eq_getD_getElem?]; exact e8
      have e13 : a.tmps.getD 16 undef = (bif P2 then undef else (.bool P3)) := hp.pu (13, 16, (bif P2 then undef else (.bool P3))) (by simp [rmP]) (by simp [hd])
      have f13 : a.tmps[16]?.getD undef = (bif P2 then undef else (.bool P3)) := by rw [← Array.getD_eq_getD_getElem?]; exact e13
      cases P2 with
      | true =>
        try simp only [cond_true, cond_false] at e8 f8 e13 f13
        obtain rfl : P3 = true := H2.out.1 rfl
        exact rstep_valW (wanted_none rfl _) (.bool true) w1 (by go_simp) ⟨(hp.put 14 17 (.bool true) (by simp [rmP]) (by simp [rmP]) rfl (by rw [hsz0]; exact (by decide : 17 < 62))), hw⟩
      | false =>
        try simp only [cond_true, cond_false] at e8 f8 e13 f13
        exact rstep_valW (wanted_none rfl _) (.bool P3) w1 (by go_simp) ⟨(hp.put 14 17 (.bool P3) (by simp [rmP]) (by simp [rmP]) rfl (by rw [hsz0]; exact (by decide : 17 < 62))), hw⟩
    · intro L a w1 hI hi hd
      obtain ⟨hp, hw⟩ := hI
      simp [Region.binds] at hd
      have e14 : a.tmps.getD 17 undef = (.bool P3) := hp.pu (14, 17, (.bool P3)) (by simp [rmP]) (by simp [hd])
      have f14 : a.tmps[17]?.getD undef = (.bool P3) := by rw [← Array.getD_eq_getD_getElem?]; exact e14
      exact rstep_valW (wanted_none rfl _) (.bool P3) w1 (by go_simp) ⟨(hp.put 15 18 (.bool P3) (by simp [rmP]) (by simp [rmP]) rfl (by rw [hsz0]; exact (by decide : 18 < 62))), hw⟩
    · intro L a w1 hI hi hd
      obtain ⟨hp, hw⟩ := hI
      simp [Region.binds] at hd
      have e15 : a.tmps.getD 18 undef = (.bool P3) := hp.pu (15, 18, (.bool P3)) (by simp [rmP]) (by simp [hd])
      have f15 : a.tmps[18]?.getD undef = (.bool P3) := by rw [← Array.getD_eq_getD_getElem?]; exact e15
      have t1 := hp.at_ 1 _ rfl z1
      have t1' := t1
      rw [Array.getD_eq_getD_getElem?] at t1'
      cases P3 with
      | true =>
        try simp only [cond_true, cond_false] at e15 f15
        exact rstep_un (unwanted_of 15 18 false true (by decide) rfl rfl e15) ⟨(hp.put 16 19 undef (by simp [rmP]) (by simp [rmP]) rfl (by rw [hsz0]; exact (by decide : 19 < 62))), hw⟩
      | false =>
        try simp only [cond_true, cond_false] at e15 f15
        exact rstep_valW (wanted_of 15 18 false rfl rfl e15) (.pointer (some ⟨g, 6, none⟩)) w1 (by go_simp) ⟨(hp.put 16 19 (.pointer (some ⟨g, 6, none⟩)) (by simp [rmP]) (by simp [rmP]) rfl (by rw [hsz0]; exact (by decide : 19 < 62))), hw⟩
    · intro L a w1 hI hi hd
      obtain ⟨hp, hw⟩ := hI
      simp [Region.binds] at hd
      have e15 : a.tmps.getD 18 undef = (.bool P3) := hp.pu (15, 18, (.bool P3)) (by simp [rmP]) (by simp [hd])
      have f15 : a.tmps[18]?.getD undef = (.bool P3) := by rw [← Array.getD_eq_getD_getElem?]; exact e15
      have e16 : a.tmps.getD 19 undef = (bif P3 then undef else (.pointer (some ⟨g, 6, none⟩))) := hp.pu (16, 19, (bif P3 then undef else (.pointer (some ⟨g, 6, none⟩)))) (by simp [rmP]) (by simp [hd])
      have f16 : a.tmps[19]?.getD undef = (bif P3 then undef else (.pointer (some ⟨g, 6, none⟩))) := by rw [← Array.getD_eq_getD_getElem?]; exact e16
      cases P3 with
      | true =>
        try simp only [cond_true, cond_false] at e15 f15 e16 f16
        exact rstep_un (unwanted_of 15 18 false true (by decide) rfl rfl e15) ⟨(hp.put 17 20 undef (by simp [rmP]) (by simp [rmP]) rfl (by rw [hsz0]; exact (by decide : 20 < 62))), hw⟩
      | false =>
        try simp only [cond_true, cond_false] at e15 f15 e16 f16
        obtain ⟨d0, d1, d2, d3, d4, d5, d6, d7, d8, d9⟩ := (HX.out.below hw HX.out.lt).c10
        exact rstep_valW (wanted_of 15 18 false rfl rfl e15) (.int .i64 s.x.n) w1 (by go_simp) ⟨(hp.put 17 20 (.int .i64 s.x.n) (by simp [rmP]) (by simp [rmP]) rfl (by rw [hsz0]; exact (by decide : 20 < 62))), hw⟩
    · intro L a w1 hI hi hd
      obtain ⟨hp, hw⟩ := hI
      simp [Region.binds] at hd
      have e15 : a.tmps.getD 18 undef = (.bool P3) := hp.pu (15, 18, (.bool P3)) (by simp [rmP]) (by simp [hd])
      have f15 : a.tmps[18]?.getD undef = (.bool P3) := by rw [← Array.getD_eq_getD_getElem?]; exact e15
      have e17 : a.tmps.getD 20 undef = (bif P3 then undef else (.int .i64 s.x.n)) := hp.pu (17, 20, (bif P3 then undef else (.int .i64 s.x.n))) (by simp [rmP]) (by simp [hd])
      have f17 : a.tmps[20]?.getD undef = (bif P3 then undef else (.int .i64 s.x.n)) := by rw [← Array.getD_eq_getD_getElem?]; exact e17
      cases P3 with
      | true =>
        try simp only [cond_true, cond_false] at e15 f15 e17 f17
        exact rstep_un (unwanted_of 15 18 false true (by decide) rfl rfl e15) ⟨(hp.put 18 21 undef (by simp [rmP]) (by simp [rmP]) rfl (by rw [hsz0]; exact (by decide : 21 < 62))), hw⟩
      | false =>
        try simp only [cond_true, cond_false] at e15 f15 e17 f17
        have hq := H3.out.2 rfl
        exact rstep_valW (wanted_of 15 18 false rfl rfl e15) (.bool P4) w1 (by go_simp) ⟨(hp.put 18 21 (.bool P4) (by simp [rmP]) (by simp [rmP]) rfl (by rw [hsz0]; exact (by decide : 21 < 62))), hw⟩
    · intro L a w1 hI hi hd
      obtain ⟨hp, hw⟩ := hI
      simp [Region.binds] at hd
      have e15 : a.tmps.getD 18 undef = (.bool P3) := hp.pu (15, 18, (.bool P3)) (by simp [rmP]) (by simp [hd])
      have f15 : a.tmps[18]?.getD undef = (.bool P3) := by rw [← Array.getD_eq_getD_getElem?]; exact e15
      have e18 : a.tmps.getD 21 undef = (bif P3 then undef else (.bool P4)) := hp.pu (18, 21, (bif P3 then undef else (.bool P4))) (by simp [rmP]) (by simp [hd])
      have f18 : a.tmps[21]?.getD undef = (bif P3 then undef else (.bool P4)) := by rw [← Array.getD_eq_getD_getElem?]; exact e18
      cases P3 with
      | true =>
        try simp only [cond_true, cond_false] at e15 f15 e18 f18
        obtain rfl : P4 = true := H3.out.1 rfl
        exact rstep_valW (wanted_none rfl _) (.bool true) w1 (by go_simp) ⟨(hp.put 19 22 (.bool true) (by simp [rmP]) (by simp [rmP]) rfl (by rw [hsz0]; exact (by decide : 22 < 62))), hw⟩
      | false =>
        try simp only [cond_true, cond_false] at e15 f15 e18 f18
        exact rstep_valW (wanted_none rfl _) (.bool P4) w1 (by go_simp) ⟨(hp.put 19 22 (.bool P4) (by simp [rmP]) (by simp [rmP]) rfl (by rw [hsz0]; exact (by decide : 22 < 62))), hw⟩
    · intro L a w1 hI hi hd
      obtain ⟨hp, hw⟩ := hI
      simp [Region.binds] at hd
      have e19 : a.tmps.getD 22 undef = (.bool P4) := hp.pu (19, 22, (.bool P4)) (by simp [rmP]) (by simp [hd])
      have f19 : a.tmps[22]?.getD undef = (.bool P4) := by rw [← Array.getD_eq_getD_getElem?]; exact e19
      exact rstep_valW (wanted_none rfl _) (.bool P4) w1 (by go_simp) ⟨(hp.put 20 23 (.bool P4) (by simp [rmP]) (by simp [rmP]) rfl (by rw [hsz0]; exact (by decide : 23 < 62))), hw⟩
    · intro L a w1 hI hi hd
      obtain ⟨hp, hw⟩ := hI
      simp [Region.binds] at hd
      have e20 : a.tmps.getD 23 undef = (.bool P4) := hp.pu (20, 23, (.bool P4)) (by simp [rmP]) (by simp [hd])
      have f20 : a.tmps[23]?.getD undef = (.bool P4) := by rw [← Array.getD_eq_getD_getElem?]; exact e20
      have t1 := hp.at_ 1 _ rfl z1
      have t1' := t1
      rw [Array.getD_eq_getD_getElem?] at t1'
      cases P4 with
      | true =>
        try simp only [cond_true, cond_false] at e20 f20
        exact rstep_un (unwanted_of 20 23 false true (by decide) rfl rfl e20) ⟨(hp.put 21 24 undef (by simp [rmP]) (by simp [rmP]) rfl (by rw [hsz0]; exact (by decide : 24 < 62))), hw⟩
      | false =>
        try simp only [cond_true, cond_false] at e20 f20
        exact rstep_valW (wanted_of 20 23 false rfl rfl e20) (.pointer (some ⟨g, 6, none⟩)) w1 (by go_simp) ⟨(hp.put 21 24 (.pointer (some ⟨g, 6, none⟩)) (by simp [rmP]) (by simp [rmP]) rfl (by rw [hsz0]; exact (by decide : 24 < 62))), hw⟩
    · intro L a w1 hI hi hd
      obtain ⟨hp, hw⟩ := hI
      simp [Region.binds] at hd
      have e20 : a.tmps.getD 23 undef = (.bool P4) := hp.pu (20, 23, (.bool P4)) (by simp [rmP]) (by simp [hd])
      have f20 : a.tmps[23]?.getD undef = (.bool P4) := by rw [← Array.getD_eq_getD_getElem?]; exact e20
      have e21 : a.tmps.getD 24 undef = (bif P4 then undef else (.pointer (some ⟨g, 6, none⟩))) := hp.pu (21, 24, (bif P4 then undef else (.pointer (some ⟨g, 6, none⟩)))) (by simp [rmP]) (by simp [hd])
      have f21 : a.tmps[24]?.getD undef = (bif P4 then undef else (.pointer (some ⟨g, 6, none⟩))) := by rw [← Array.getD_eq_getD_getElem?]; exact e21
      cases P4 with
      | true =>
        try simp only [cond_true, cond_false] at e20 f20 e21 f21
        exact rstep_un (unwanted_of 20 23 false true (by decide) rfl rfl e20) ⟨(hp.put 22 25 undef (by simp [rmP]) (by simp [rmP]) rfl (by rw [hsz0]; exact (by decide : 25 < 62))), hw⟩
      | false =>
        try simp only [cond_true, cond_false] at e20 f20 e21 f21
        obtain ⟨d0, d1, d2, d3, d4, d5, d6, d7, d8, d9⟩ := (HX.out.below hw HX.out.lt).c10
        exact rstep_valW (wanted_of 20 23 false rfl rfl e20) (.int .i64 s.x.n) w1 (by go_simp) ⟨(hp.put 22 25 (.int .i64 s.x.n) (by simp [rmP]) (by simp [rmP]) rfl (by rw [hsz0]; exact (by decide : 25 < 62))), hw⟩
    · intro L a w1 hI hi hd
      obtain ⟨hp, hw⟩ := hI
      simp [Region.binds] at hd
      have e20 : a.tmps.getD 23 undef = (.bool P4) := hp.pu (20, 23, (.bool P4)) (by simp [rmP]) (by simp [hd])
      have f20 : a.tmps[23]?.getD undef = (.bool P4) := by rw [← Array.getD_eq_getD_getElem?]; exact e20
      have e22 : a.tmps.getD 25 undef = (bif P4 then undef else (.int .i64 s.x.n)) := hp.pu (22, 25, (bif P4 then undef else (.int .i64 s.x.n))) (by simp [rmP]) (by simp [hd])
      have f22 : a.tmps[25]?.getD undef = (bif P4 then undef else (.int .i64 s.x.n)) := by rw [← Array.getD_eq_getD_getElem?]; exact e22
      cases P4 with
      | true =>
        try simp only [cond_true, cond_false] at e20 f20 e22 f22
        exact rstep_un (unwanted_of 20 23 false true (by decide) rfl rfl e20) ⟨(hp.put 23 26 undef (by simp [rmP]) (by simp [rmP]) rfl (by rw [hsz0]; exact (by decide : 26 < 62))), hw⟩
      | false =>
        try simp only [cond_true, cond_false] at e20 f20 e22 f22
        have hq := H4.out.2 rfl
        exact rstep_valW (wanted_of 20 23 false rfl rfl e20) (.bool P5) w1 (by go_simp) ⟨(hp.put 23 26 (.bool P5) (by simp [rmP]) (by simp [rmP]) rfl (by rw [hsz0]; exact (by decide : 26 < 62))), hw⟩
    · intro L a w1 hI hi hd
      obtain ⟨hp, hw⟩ := hI
      simp [Region.binds] at hd
      have e20 : a.tmps.getD 23 undef = (.bool P4) := hp.pu (20, 23, (.bool P4)) (by simp [rmP]) (by simp [hd])
      have f20 : a.tmps[23]?.getD undef = (.bool P4) := by rw [← Array.getD_eq_getD_getElem?]; exact e20
      have e23 : a.tmps.getD 26 undef = (bif P4 then undef else (.bool P5)) := hp.pu (23, 26, (bif P4 then undef else (.bool P5))) (by simp [rmP]) (by simp [hd])
      have f23 : a.tmps[26]?.getD undef = (bif P4 then undef else (.bool P5)) := by rw [← Array.getD_eq_getD_getElem?]; exact e23
      cases P4 with
      | true =>
        try simp only [cond_true, cond_false] at e20 f20 e23 f23
        obtain rfl : P5 = true := H4.out.1 rfl
        exact rstep_valW (wanted_none rfl _) (.bool true) w1 (by go_simp) ⟨(hp.put 24 27 (.bool true) (by simp [rmP]) (by simp [rmP]) rfl (by rw [hsz0]; exact (by decide : 27 < 62))), hw⟩
      | false =>
        try simp only [cond_true, cond_false] at e20 f20 e23 f23
        exact rstep_valW (wanted_none rfl _) (.bool P5) w1 (by go_simp) ⟨(hp.put 24 27 (.bool P5) (by simp [rmP]) (by simp [rmP]) rfl (by rw [hsz0]; exact (by decide : 27 < 62))), hw⟩
    · intro L a w1 hI hi hd
      obtain ⟨hp, hw⟩ := hI
      simp [Region.binds] at hd
      have e24 : a.tmps.getD 27 undef = (.bool P5) := hp.pu (24, 27, (.bool P5)) (by simp [rmP]) (by simp [hd])
      have f24 : a.tmps[27]?.getD undef = (.bool P5) := by rw [← Array.getD_eq_getD_getElem?]; exact e24
      exact rstep_valW (wanted_none rfl _) (.bool P5) w1 (by go_simp) ⟨(hp.put 25 28 (.bool P5) (by simp [rmP]) (by simp [rmP]) rfl (by rw [hsz0]; exact (by decide : 28 < 62))), hw⟩
    · intro L a w1 hI hi hd
      obtain ⟨hp, hw⟩ := hI
      simp [Region.binds] at hd
      have e25 : a.tmps.getD 28 undef = (.bool P5) := hp.pu (25, 28, (.bool P5)) (by simp [rmP]) (by simp [hd])
      have f25 : a.tmps[28]?.getD undef = (.bool P5) := by rw [← Array.getD_eq_getD_getElem?]; exact e25
      have t1 := hp.at_ 1 _ rfl z1
      have t1' := t1
      rw [Array.getD_eq_getD_getElem?] at t1'
      cases P5 with
      | true =>
        try simp only [cond_true, cond_false] at e25 f25
        exact rstep_un (unwanted_of 25 28 false true (by decide) rfl rfl e25) ⟨(hp.put 26 29 undef (by simp [rmP]) (by simp [rmP]) rfl (by rw [hsz0]; exact (by decide : 29 < 62))), hw⟩
      | false =>
        try simp only [cond_true, cond_false] at e25 f25
        exact rstep_valW (wanted_of 25 28 false rfl rfl e25) (.pointer (some ⟨g, 7, none⟩)) w1 (by go_simp) ⟨(hp.put 26 29 (.pointer (some ⟨g, 7, none⟩)) (by simp [rmP]) (by simp [rmP]) rfl (by rw [hsz0]; exact (by decide : 29 < 62))), hw⟩
    · intro L a w1 hI hi hd
      obtain ⟨hp, hw⟩ := hI
      simp [Region.binds] at hd
      have e25 : a.tmps.getD 28 undef = (.bool P5) := hp.pu (25, 28, (.bool P5)) (by simp [rmP]) (by simp [hd])
      have f25 : a.tmps[28]?.getD undef = (.bool P5) := by rw [← Array.getD_eq_getD_getElem?]; exact e25
      have e26 : a.tmps.getD 29 undef = (bif P5 then undef else (.pointer (some ⟨g, 7, none⟩))) := hp.pu (26, 29, (bif P5 then undef else (.pointer (some ⟨g, 7, none⟩)))) (by simp [rmP]) (by simp [hd])
      have f26 : a.tmps[29]?.getD undef = (bif P5 then undef else (.pointer (some ⟨g, 7, none⟩))) := by rw [← Array.getD_eq_getD_getElem?]; exact e26
      cases P5 with
      | true =>
        try simp only [cond_true, cond_false] at e25 f25 e26 f26
        exact rstep_un (unwanted_of 25 28 false true (by decide) rfl rfl e25) ⟨(hp.put 27 30 undef (by simp [rmP]) (by simp [rmP]) rfl (by rw [hsz0]; exact (by decide : 30 < 62))), hw⟩
      | false =>
        try simp only [cond_true, cond_false] at e25 f25 e26 f26
        obtain ⟨d0, d1, d2, d3, d4, d5, d6, d7, d8, d9⟩ := (HX.out.below hw HX.out.lt).c10
        exact rstep_valW (wanted_of 25 28 false rfl rfl e25) (.slice s.QA s.x.q.length s.qc) w1 (by go_simp) ⟨(hp.put 27 30 (.slice s.QA s.x.q.length s.qc) (by simp [rmP]) (by simp [rmP]) rfl (by rw [hsz0]; exact (by decide : 30 < 62))), hw⟩
    · intro L a w1 hI hi hd
      obtain ⟨hp, hw⟩ := hI
      simp [Region.binds] at hd
      have e25 : a.tmps.getD 28 undef = (.bool P5) := hp.pu (25, 28, (.bool P5)) (by simp [rmP]) (by simp [hd])
      have f25 : a.tmps[28]?.getD undef = (.bool P5) := by rw [← Array.getD_eq_getD_getElem?]; exact e25
      have e27 : a.tmps.getD 30 undef = (bif P5 then undef else (.slice s.QA s.x.q.length s.qc)) := hp.pu (27, 30, (bif P5 then undef else (.slice s.QA s.x.q.length s.qc))) (by simp [rmP]) (by simp [hd])
      have f27 : a.tmps[30]?.getD undef = (bif P5 then undef else (.slice s.QA s.x.q.length s.qc)) := by rw [← Array.getD_eq_getD_getElem?]; exact e27
      cases P5 with
      | true =>
        try simp only [cond_true, cond_false] at e25 f25 e27 f27
        exact rstep_un (unwanted_of 25 28 false true (by decide) rfl rfl e25) ⟨(hp.put 28 31 undef (by simp [rmP]) (by simp [rmP]) rfl (by rw [hsz0]; exact (by decide : 31 < 62))), hw⟩
      | false =>
        try simp only [cond_true, cond_false] at e25 f25 e27 f27
        exact rstep_valW (wanted_of 25 28 false rfl rfl e25) (.int .i64 (s.x.q.length : Int)) w1 (by go_simp) ⟨(hp.put 28 31 (.int .i64 (s.x.q.length : Int)) (by simp [rmP]) (by simp [rmP]) rfl (by rw [hsz0]; exact (by decide : 31 < 62))), hw⟩
    · intro L a w1 hI hi hd
      obtain ⟨hp, hw⟩ := hI
      simp [Region.binds] at hd
      have e25 : a.tmps.getD 28 undef = (.bool P5) := hp.pu (25, 28, (.bool P5)) (by simp [rmP]) (by simp [hd])
      have f25 : a.tmps[28]?.getD undef = (.bool P5) := by rw [← Array.getD_eq_getD_getElem?]; exact e25
      have e28 : a.tmps.getD 31 undef = (bif P5 then undef else (.int .i64 (s.x.q.length : Int))) := hp.pu (28, 31, (bif P5 then undef else (.int .i64 (s.x.q.length : Int)))) (by simp [rmP]) (by simp [hd])
      have f28 : a.tmps[31]?.getD undef = (bif P5 then undef else (.int .i64 (s.x.q.length : Int))) := by rw [← Array.getD_eq_getD_getElem?]; exact e28
      cases P5 with
      | true =>
        try simp only [cond_true, cond_false] at e25 f25 e28 f28
        exact rstep_un (unwanted_of 25 28 false true (by decide) rfl rfl e25) ⟨(hp.put 29 32 undef (by simp [rmP]) (by simp [rmP]) rfl (by rw [hsz0]; exact (by decide : 32 < 62))), hw⟩
      | false =>
        try simp only [cond_true, cond_false] at e25 f25 e28 f28
        have hq := H5.out.2 rfl
        exact rstep_valW (wanted_of 25 28 false rfl rfl e25) (.bool P6) w1 (by go_simp) ⟨(hp.put 29 32 (.bool P6) (by simp [rmP]) (by simp [rmP]) rfl (by rw [hsz0]; exact (by decide : 32 < 62))), hw⟩
    · intro L a w1 hI hi hd
      obtain ⟨hp, hw⟩ := hI
      simp [Region.binds] at hd
      have e25 : a.tmps.getD 28 undef = (.bool P5) := hp.pu (25, 28, (.bool P5)) (by simp [rmP]) (by simp [hd])
      have f25 : a.tmps[28]?.getD undef = (.bool P5) := by rw [← Array.getD_eq_getD_getElem?]; exact e25
      have e29 : a.tmps.getD 32 undef = (bif P5 then undef else (.bool P6)) := hp.pu (29, 32, (bif P5 then undef else (.bool P6))) (by simp [rmP]) (by simp [hd])
      have f29 : a.tmps[32]?.getD undef = (bif P5 then undef else (.bool P6)) := by rw [← Array.getD_eq_getD_getElem?]; exact e29
      cases P5 with
      | true =>
        try simp only [cond_true, cond_false] at e25 f25 e29 f29
        obtain rfl : P6 = true := H5.out.1 rfl
        exact rstep_valW (wanted_none rfl _) (.bool true) w1 (by go_simp) ⟨(hp.put 30 33 (.bool true) (by simp [rmP]) (by simp [rmP]) rfl (by rw [hsz0]; exact (by decide : 33 < 62))), hw⟩
      | false =>
        try simp only [cond_true, cond_false] at e25 f25 e29 f29
        exact rstep_valW (wanted_none rfl _) (.bool P6) w1 (by go_simp) ⟨(hp.put 30 33 (.bool P6) (by simp [rmP]) (by simp [rmP]) rfl (by rw [hsz0]; exact (by decide : 33 < 62))), hw⟩
    · intro L a w1 hI hi hd
      obtain ⟨hp, hw⟩ := hI
      simp [Region.binds] at hd
      have e30 : a.tmps.getD 33 undef = (.bool P6) := hp.pu (30, 33, (.bool P6)) (by simp [rmP]) (by simp [hd])
      have f30 : a.tmps[33]?.getD undef = (.bool P6) := by rw [← Array.getD_eq_getD_getElem?]; exact e30
      exact rstep_valW (wanted_none rfl _) (.bool P6) w1 (by go_simp) ⟨(hp.put 31 34 (.bool P6) (by simp [rmP]) (by simp [rmP]) rfl (by rw [hsz0]; exact (by decide : 34 < 62))), hw⟩
    · intro L a w1 hI hi hd
      obtain ⟨hp, hw⟩ := hI
      simp [Region.binds] at hd
      have e31 : a.tmps.getD 34 undef = (.bool P6) := hp.pu (31, 34, (.bool P6)) (by simp [rmP]) (by simp [hd])
      have f31 : a.tmps[34]?.getD undef = (.bool P6) := by rw [← Array.getD_eq_getD_getElem?]; exact e31
      have t1 := hp.at_ 1 _ rfl z1
      have t1' := t1
      rw [Array.getD_eq_getD_getElem?] at t1'
      cases P6 with
      | true =>
        try simp only [cond_true, cond_false] at e31 f31
        exact rstep_un (unwanted_of 31 34 false true (by decide) rfl rfl e31) ⟨(hp.put 32 35 undef (by simp [rmP]) (by simp [rmP]) rfl (by rw [hsz0]; exact (by decide : 35 < 62))), hw⟩
      | false =>
        try simp only [cond_true, cond_false] at e31 f31
        exact rstep_valW (wanted_of 31 34 false rfl rfl e31) (.pointer (some ⟨g, 8, none⟩)) w1 (by go_simp) ⟨(hp.put 32 35 (.pointer (some ⟨g, 8, none⟩)) (by simp [rmP]) (by simp [rmP]) rfl (by rw [hsz0]; exact (by decide : 35 < 62))), hw⟩
    · intro L a w1 hI hi hd
      obtain ⟨hp, hw⟩ := hI
      simp [Region.binds] at hd
      have e31 : a.tmps.getD 34 undef = (.bool P6) := hp.pu (31, 34, (.bool P6)) (by simp [rmP]) (by simp [hd])
      have f31 : a.tmps[34]?.getD undef = (.bool P6) := by rw [← Array.getD_eq_getD_getElem?]; exact e31
      have e32 : a.tmps.getD 35 undef = (bif P6 then undef else (.pointer (some ⟨g, 8, none⟩))) := hp.pu (32, 35, (bif P6 then undef else (.pointer (some ⟨g, 8, none⟩)))) (by simp [rmP]) (by simp [hd])
      have f32 : a.tmps[35]?.getD undef = (bif P6 then undef else (.pointer (some ⟨g, 8, none⟩))) := by rw [← Array.getD_eq_getD_getElem?]; exact e32
      cases P6 with
      | true =>
        try simp only [cond_true, cond_false] at e31 f31 e32 f32
        exact rstep_un (unwanted_of 31 34 false true (by decide) rfl rfl e31) ⟨(hp.put 33 36 undef (by simp [rmP]) (by simp [rmP]) rfl (by rw [hsz0]; exact (by decide : 36 < 62))), hw⟩
      | false =>
        try simp only [cond_true, cond_false] at e31 f31 e32 f32
        obtain ⟨d0, d1, d2, d3, d4, d5, d6, d7, d8, d9⟩ := (HX.out.below hw HX.out.lt).c10
        exact rstep_valW (wanted_of 31 34 false rfl rfl e31) (.slice s.FA s.x.fl.length s.fc) w1 (by go_simp) ⟨(hp.put 33 36 (.slice s.FA s.x.fl.length s.fc) (by simp [rmP]) (by simp [rmP]) rfl (by rw [hsz0]; exact (by decide : 36 < 62))), hw⟩
    · intro L a w1 hI hi hd
      obtain ⟨hp, hw⟩ := hI
      simp [Region.binds] at hd
      have e31 : a.tmps.getD 34 undef = (.bool P6) := hp.pu (31, 34, (.bool P6)) (by simp [rmP]) (by simp [hd])
      have f31 : a.tmps[34]?.getD undef = (.bool P6) := by rw [← Array.getD_eq_getD_getElem?]; exact e31
      have e33 : a.tmps.getD 36 undef = (bif P6 then undef else (.slice s.FA s.x.fl.length s.fc)) := hp.pu (33, 36, (bif P6 then undef else (.slice s.FA s.x.fl.length s.fc))) (by simp [rmP]) (by simp [hd])
      have f33 : a.tmps[36]?.getD undef = (bif P6 then undef else (.slice s.FA s.x.fl.length s.fc)) := by rw [← Array.getD_eq_getD_getElem?]; exact e33
      cases P6 with
      | true =>
        try simp only [cond_true, cond_false] at e31 f31 e33 f33
        exact rstep_un (unwanted_of 31 34 false true (by decide) rfl rfl e31) ⟨(hp.put 34 37 undef (by simp [rmP]) (by simp [rmP]) rfl (by rw [hsz0]; exact (by decide : 37 < 62))), hw⟩
      | false =>
        try simp only [cond_true, cond_false] at e31 f31 e33 f33
        exact rstep_valW (wanted_of 31 34 false rfl rfl e31) (.int .i64 (s.x.fl.length : Int)) w1 (by go_simp) ⟨(hp.put 34 37 (.int .i64 (s.x.fl.length : Int)) (by simp [rmP]) (by simp [rmP]) rfl (by rw [hsz0]; exact (by decide : 37 < 62))), hw⟩
    · intro L a w1 hI hi hd
      obtain ⟨hp, hw⟩ := hI
      simp [Region.binds] at hd
      have e31 : a.tmps.getD 34 undef = (.bool P6) := hp.pu (31, 34, (.bool P6)) (by simp [rmP]) (by simp [hd])
      have f31 : a.tmps[34]?.getD undef = (.bool P6) := by rw [← Array.getD_eq_getD_getElem?]; exact e31
      have e34 : a.tmps.getD 37 undef = (bif P6 then undef else (.int .i64 (s.x.fl.length : Int))) := hp.pu (34, 37, (bif P6 then undef else (.int .i64 (s.x.fl.length : Int)))) (by simp [rmP]) (by simp [hd])
      have f34 : a.tmps[37]?.getD undef = (bif P6 then undef else (.int .i64 (s.x.fl.length : Int))) := by rw [← Array.getD_eq_getD_getElem?]; exact e34
      cases P6 with
      | true =>
        try simp only [cond_true, cond_false] at e31 f31 e34 f34
        exact rstep_un (unwanted_of 31 34 false true (by decide) rfl rfl e31) ⟨(hp.put 35 38 undef (by simp [rmP]) (by simp [rmP]) rfl (by rw [hsz0]; exact (by decide : 38 < 62))), hw⟩
      | false =>
        try simp only [cond_true, cond_false] at e31 f31 e34 f34
        have hq := H6.out.2 rfl
        exact rstep_valW (wanted_of 31 34 false rfl rfl e31) (.bool P7) w1 (by go_simp) ⟨(hp.put 35 38 (.bool P7) (by simp [rmP]) (by simp [rmP]) rfl (by rw [hsz0]; exact (by decide : 38 < 62))), hw⟩
    · intro L a w1 hI hi hd
      obtain ⟨hp, hw⟩ := hI
      simp [Region.binds] at hd
      have e31 : a.tmps.getD 34 undef = (.bool P6) := hp.pu (31, 34, (.bool P6)) (by simp [rmP]) (by simp [hd])
      have f31 : a.tmps[34]?.getD undef = (.bool P6) := by rw [← Array.getD_eq_getD_getElem?]; exact e31
      have e35 : a.tmps.getD 38 undef = (bif P6 then undef else (.bool P7)) := hp.pu (35, 38, (bif P6 then undef else (.bool P7))) (by simp [rmP]) (by simp [hd])
      have f35 : a.tmps[38]?.getD undef = (bif P6 then undef else (.bool P7)) := by rw [← Array.getD_eq_getD_getElem?]; exact e35
      cases P6 with
      | true =>
        try simp only [cond_true, cond_false] at e31 f31 e35 f35
        obtain rfl : P7 = true := H6.out.1 rfl
        exact rstep_valW (wanted_none rfl _) (.bool true) w1 (by go_simp) ⟨(hp.put 36 39 (.bool true) (by simp [rmP]) (by simp [rmP]) rfl (by rw [hsz0]; exact (by decide : 39 < 62))), hw⟩
      | false =>
        try simp only [cond_true, cond_false] at e31 f31 e35 f35
        exact rstep_valW (wanted_none rfl _) (.bool P7) w1 (by go_simp) ⟨(hp.put 36 39 (.bool P7) (by simp [rmP]) (by simp [rmP]) rfl (by rw [hsz0]; exact (by decide : 39 < 62))), hw⟩
    · intro L a w1 hI hi hd
      obtain ⟨hp, hw⟩ := hI
      simp [Region.binds] at hd
      have e36 : a.tmps.getD 39 undef = (.bool P7) := hp.pu (36, 39, (.bool P7)) (by simp [rmP]) (by simp [hd])
      have f36 : a.tmps[39]?.getD undef = (.bool P7) := by rw [← Array.getD_eq_getD_getElem?]; exact e36
      exact rstep_valW (wanted_none rfl _) (.bool P7) w1 (by go_simp) ⟨(hp.put 37 40 (.bool P7) (by simp [rmP]) (by simp [rmP]) rfl (by rw [hsz0]; exact (by decide : 40 < 62))), hw⟩
    · intro L a w1 hI hi hd
      obtain ⟨hp, hw⟩ := hI
      simp [Region.binds] at hd
      have e37 : a.tmps.getD 40 undef = (.bool P7) := hp.pu (37, 40, (.bool P7)) (by simp [rmP]) (by simp [hd])
      have f37 : a.tmps[40]?.getD undef = (.bool P7) := by rw [← Array.getD_eq_getD_getElem?]; exact e37
      have t1 := hp.at_ 1 _ rfl z1
      have t1' := t1
      rw [Array.getD_eq_getD_getElem?] at t1'
      cases P7 with
      | true =>
        try simp only [cond_true, cond_false] at e37 f37
        exact rstep_un (unwanted_of 37 40 false true (by decide) rfl rfl e37) ⟨(hp.put 38 41 undef (by simp [rmP]) (by simp [rmP]) rfl (by rw [hsz0]; exact (by decide : 41 < 62))), hw⟩
      | false =>
        try simp only [cond_true, cond_false] at e37 f37
        exact rstep_valW (wanted_of 37 40 false rfl rfl e37) (.pointer (some ⟨g, 9, none⟩)) w1 (by go_simp) ⟨(hp.put 38 41 (.pointer (some ⟨g, 9, none⟩)) (by simp [rmP]) (by simp [rmP]) rfl (by rw [hsz0]; exact (by decide : 41 < 62))), hw⟩
    · intro L a w1 hI hi hd
      obtain ⟨hp, hw⟩ := hI
      simp [Region.binds] at hd
      have e37 : a.tmps.getD 40 undef = (.bool P7) := hp.pu (37, 40, (.bool P7)) (by simp [rmP]) (by simp [hd])
      have f37 : a.tmps[40]?.getD undef = (.bool P7) := by rw [← Array.getD_eq_getD_getElem?]; exact e37
      have e38 : a.tmps.getD 41 undef = (bif P7 then undef else (.pointer (some ⟨g, 9, none⟩))) := hp.pu (38, 41, (bif P7 then undef else (.pointer (some ⟨g, 9, none⟩)))) (by simp [rmP]) (by simp [hd])
      have f38 : a.tmps[41]?.getD undef = (bif P7 then undef else (.pointer (some ⟨g, 9, none⟩))) := by rw [← Array.getD_eq_getD_getElem?]; exact e38
      cases P7 with
      | true =>
        try simp only [cond_true, cond_false] at e37 f37 e38 f38
        exact rstep_un (unwanted_of 37 40 false true (by decide) rfl rfl e37) ⟨(hp.put 39 42 undef (by simp [rmP]) (by simp [rmP]) rfl (by rw [hsz0]; exact (by decide : 42 < 62))), hw⟩
      | false =>
        try simp only [cond_true, cond_false] at e37 f37 e38 f38
        obtain ⟨d0, d1, d2, d3, d4, d5, d6, d7, d8, d9⟩ := (HX.out.below hw HX.out.lt).c10
        exact rstep_valW (wanted_of 37 40 false rfl rfl e37) (.int .i64 s.x.scale) w1 (by go_simp) ⟨(hp.put 39 42 (.int .i64 s.x.scale) (by simp [rmP]) (by simp [rmP]) rfl (by rw [hsz0]; exact (by decide : 42 < 62))), hw⟩
    · intro L a w1 hI hi hd
      obtain ⟨hp, hw⟩ := hI
      simp [Region.binds] at hd
      have e37 : a.tmps.getD 40 undef = (.bool P7) := hp.pu (37, 40, (.bool P7)) (by simp [rmP]) (by simp [hd])
      have f37 : a.tmps[40]?.getD undef = (.bool P7) := by rw [← Array.getD_eq_getD_getElem?]; exact e37
      have e39 : a.tmps.getD 42 undef = (bif P7 then undef else (.int .i64 s.x.scale)) := hp.pu (39, 42, (bif P7 then undef else (.int .i64 s.x.scale))) (by simp [rmP]) (by simp [hd])
      have f39 : a.tmps[42]?.getD undef = (bif P7 then undef else (.int .i64 s.x.scale)) := by rw [← Array.getD_eq_getD_getElem?]; exact e39
      cases P7 with
      | true =>
        try simp only [cond_true, cond_false] at e37 f37 e39 f39
        exact rstep_un (unwanted_of 37 40 false true (by decide) rfl rfl e37) ⟨(hp.put 40 43 undef (by simp [rmP]) (by simp [rmP]) rfl (by rw [hsz0]; exact (by decide : 43 < 62))), hw⟩
      | false =>
        try simp only [cond_true, cond_false] at e37 f37 e39 f39
        have hq := H7.out.2 rfl
        exact rstep_valW (wanted_of 37 40 false rfl rfl e37) (.bool P8) w1 (by go_simp) ⟨(hp.put 40 43 (.bool P8) (by simp [rmP]) (by simp [rmP]) rfl (by rw [hsz0]; exact (by decide : 43 < 62))), hw⟩
    · intro L a w1 hI hi hd
      obtain ⟨hp, hw⟩ := hI
      simp [Region.binds] at hd
      have e37 : a.tmps.getD 40 undef = (.bool P7) := hp.pu (37, 40, (.bool P7)) (by simp [rmP]) (by simp [hd])
      have f37 : a.tmps[40]?.getD undef = (.bool P7) := by rw [← Array.getD_eq_getD_getElem?]; exact e37
      have e40 : a.tmps.getD 43 undef = (bif P7 then undef else (.bool P8)) := hp.pu (40, 43, (bif P7 then undef else (.bool P8))) (by simp [rmP]) (by simp [hd])
      have f40 : a.tmps[43]?.getD undef = (bif P7 then undef else (.bool P8)) := by rw [← Array.getD_eq_getD_getElem?]; exact e40
      cases P7 with
      | true =>
        try simp only [cond_true, cond_false] at e37 f37 e40 f40
        obtain rfl : P8 = true := H7.out.1 rfl
        exact rstep_valW (wanted_none rfl _) (.bool true) w1 (by go_simp) ⟨(hp.put 41 44 (.bool true) (by simp [rmP]) (by simp [rmP]) rfl (by rw [hsz0]; exact (by decide : 44 < 62))), hw⟩
      | false =>
        try simp only [cond_true, cond_false] at e37 f37 e40 f40
        exact rstep_valW (wanted_none rfl _) (.bool P8) w1 (by go_simp) ⟨(hp.put 41 44 (.bool P8) (by simp [rmP]) (by simp [rmP]) rfl (by rw [hsz0]; exact (by decide : 44 < 62))), hw⟩
    · intro L a w1 hI hi hd
      obtain ⟨hp, hw⟩ := hI
      simp [Region.binds] at hd
      have e41 : a.tmps.getD 44 undef = (.bool P8) := hp.pu (41, 44, (.bool P8)) (by simp [rmP]) (by simp [hd])
      have f41 : a.tmps[44]?.getD undef = (.bool P8) := by rw [← Array.getD_eq_getD_getElem?]; exact e41
      exact rstep_valW (wanted_none rfl _) (.bool P8) w1 (by go_simp) ⟨(hp.put 42 45 (.bool P8) (by simp [rmP]) (by simp [rmP]) rfl (by rw [hsz0]; exact (by decide : 45 < 62))), hw⟩
    · intro L a w1 hI hi hd
      obtain ⟨hp, hw⟩ := hI
      simp [Region.binds] at hd
      have e42 : a.tmps.getD 45 undef = (.bool P8) := hp.pu (42, 45, (.bool P8)) (by simp [rmP]) (by simp [hd])
      have f42 : a.tmps[45]?.getD undef = (.bool P8) := by rw [← Array.getD_eq_getD_getElem?]; exact e42
      have t1 := hp.at_ 1 _ rfl z1
      have t1' := t1
      rw [Array.getD_eq_getD_getElem?] at t1'
      cases P8 with
      | true =>
        try simp only [cond_true, cond_false] at e42 f42
        exact rstep_un (unwanted_of 42 45 false true (by decide) rfl rfl e42) ⟨(hp.put 43 46 undef (by simp [rmP]) (by simp [rmP]) rfl (by rw [hsz0]; exact (by decide : 46 < 62))), hw⟩
      | false =>
        try simp only [cond_true, cond_false] at e42 f42
        exact rstep_valW (wanted_of 42 45 false rfl rfl e42) (.pointer (some ⟨g, 9, none⟩)) w1 (by go_simp) ⟨(hp.put 43 46 (.pointer (some ⟨g, 9, none⟩)) (by simp [rmP]) (by simp [rmP]) rfl (by rw [hsz0]; exact (by decide : 46 < 62))), hw⟩
    · intro L a w1 hI hi hd
      obtain ⟨hp, hw⟩ := hI
      simp [Region.binds] at hd
      have e42 : a.tmps.getD 45 undef = (.bool P8) := hp.pu (42, 45, (.bool P8)) (by simp [rmP]) (by simp [hd])
      have f42 : a.tmps[45]?.getD undef = (.bool P8) := by rw [← Array.getD_eq_getD_getElem?]; exact e42
      have e43 : a.tmps.getD 46 undef = (bif P8 then undef else (.pointer (some ⟨g, 9, none⟩))) := hp.pu (43, 46, (bif P8 then undef else (.pointer (some ⟨g, 9, none⟩)))) (by simp [rmP]) (by simp [hd])
      have f43 : a.tmps[46]?.getD undef = (bif P8 then undef else (.pointer (some ⟨g, 9, none⟩))) := by rw [← Array.getD_eq_getD_getElem?]; exact e43
      cases P8 with
      | true =>
        try simp only [cond_true, cond_false] at e42 f42 e43 f43
        exact rstep_un (unwanted_of 42 45 false true (by decide) rfl rfl e42) ⟨(hp.put 44 47 undef (by simp [rmP]) (by simp [rmP]) rfl (by rw [hsz0]; exact (by decide : 47 < 62))), hw⟩
      | false =>
        try simp only [cond_true, cond_false] at e42 f42 e43 f43
        obtain ⟨d0, d1, d2, d3, d4, d5, d6, d7, d8, d9⟩ := (HX.out.below hw HX.out.lt).c10
        exact rstep_valW (wanted_of 42 45 false rfl rfl e42) (.int .i64 s.x.scale) w1 (by go_simp) ⟨(hp.put 44 47 (.int .i64 s.x.scale) (by simp [rmP]) (by simp [rmP]) rfl (by rw [hsz0]; exact (by decide : 47 < 62))), hw⟩
    · intro L a w1 hI hi hd
      obtain ⟨hp, hw⟩ := hI
      simp [Region.binds] at hd
      have e42 : a.tmps.getD 45 undef = (.bool P8) := hp.pu (42, 45, (.bool P8)) (by simp [rmP]) (by simp [hd])
      have f42 : a.tmps[45]?.getD undef = (.bool P8) := by rw [← Array.getD_eq_getD_getElem?]; exact e42
      have e44 : a.tmps.getD 47 undef = (bif P8 then undef else (.int .i64 s.x.scale)) := hp.pu (44, 47, (bif P8 then undef else (.int .i64 s.x.scale))) (by simp [rmP]) (by simp [hd])
      have f44 : a.tmps[47]?.getD undef = (bif P8 then undef else (.int .i64 s.x.scale)) := by rw [← Array.getD_eq_getD_getElem?]; exact e44
      cases P8 with
      | true =>
        try simp only [cond_true, cond_false] at e42 f42 e44 f44
        exact rstep_un (unwanted_of 42 45 false true (by decide) rfl rfl e42) ⟨(hp.put 45 48 undef (by simp [rmP]) (by simp [rmP]) rfl (by rw [hsz0]; exact (by decide : 48 < 62))), hw⟩
      | false =>
        try simp only [cond_true, cond_false] at e42 f42 e44 f44
        have hq := H8.out.2 rfl
        exact rstep_valW (wanted_of 42 45 false rfl rfl e42) (.bool P9) w1 (by go_simp) ⟨(hp.put 45 48 (.bool P9) (by simp [rmP]) (by simp [rmP]) rfl (by rw [hsz0]; exact (by decide : 48 < 62))), hw⟩
    · intro L a w1 hI hi hd
      obtain ⟨hp, hw⟩ := hI
      simp [Region.binds] at hd
      have e42 : a.tmps.getD 45 undef = (.bool P8) := hp.pu (42, 45, (.bool P8)) (by simp [rmP]) (by simp [hd])
      have f42 : a.tmps[45]?.getD undef = (.bool P8) := by rw [← Array.getD_eq_getD_getElem?]; exact e42
      have e45 : a.tmps.getD 48 undef = (bif P8 then undef else (.bool P9)) := hp.pu (45, 48, (bif P8 then undef else (.bool P9))) (by simp [rmP]) (by simp [hd])
      have f45 : a.tmps[48]?.getD undef = (bif P8 then undef else (.bool P9)) := by rw [← Array.getD_eq_getD_getElem?]; exact e45
      cases P8 with
      | true =>
        try simp only [cond_true, cond_false] at e42 f42 e45 f45
        obtain rfl : P9 = true := H8.out.1 rfl
        exact rstep_valW (wanted_none rfl _) (.bool true) w1 (by go_simp) ⟨(hp.put 46 49 (.bool true) (by simp [rmP]) (by simp [rmP]) rfl (by rw [hsz0]; exact (by decide : 49 < 62))), hw⟩
      | false =>
        try simp only [cond_true, cond_false] at e42 f42 e45 f45
        exact rstep_valW (wanted_none rfl _) (.bool P9) w1 (by go_simp) ⟨(hp.put 46 49 (.bool P9) (by simp [rmP]) (by simp [rmP]) rfl (by rw [hsz0]; exact (by decide : 49 < 62))), hw⟩
  rintro L a W0 ⟨hp, hw⟩ hL
  have e46 : a.tmps.getD 49 undef = (.bool P9) := hp.pu (46, 49, _) (by simp [rmP]) (hL 46 (by simp))
  have HXW := Lib.hid (HX.out.below hw HX.out.lt)
  have B1 := Lib.hid (below_join B0.out hw)
  clear hw HX
  rw [hp.eq]
  refine of_assigns (P := Try.prog) _ _ _ _ ?_
  rw [ha0.out]
  simp only [asgs, List.map, e46]
  generalize a.tmps.getD 3 undef = u3
  generalize a.tmps.getD 4 undef = u4
  generalize a.tmps.getD 5 undef = u5
  generalize a.tmps.getD 6 undef = u6
  generalize a.tmps.getD 7 undef = u7
  generalize a.tmps.getD 8 undef = u8
  generalize a.tmps.getD 9 undef = u9
  generalize a.tmps.getD 10 undef = u10
  generalize a.tmps.getD 11 undef = u11
  generalize a.tmps.getD 12 undef = u12
  generalize a.tmps.getD 13 undef = u13
  generalize a.tmps.getD 14 undef = u14
  generalize a.tmps.getD 15 undef = u15
  generalize a.tmps.getD 16 undef = u16
  generalize a.tmps.getD 17 undef = u17
  generalize a.tmps.getD 18 undef = u18
  generalize a.tmps.getD 19 undef = u19
  generalize a.tmps.getD 20 undef = u20
  generalize a.tmps.getD 21 undef = u21
  generalize a.tmps.getD 22 undef = u22
  generalize a.tmps.getD 23 undef = u23
  generalize a.tmps.getD 24 undef = u24
  generalize a.tmps.getD 25 undef = u25
  generalize a.tmps.getD 26 undef = u26
  generalize a.tmps.getD 27 undef = u27
  generalize a.tmps.getD 28 undef = u28
  generalize a.tmps.getD 29 undef = u29
  generalize a.tmps.getD 30 undef = u30
  generalize a.tmps.getD 31 undef = u31
  generalize a.tmps.getD 32 undef = u32
  generalize a.tmps.getD 33 undef = u33
  generalize a.tmps.getD 34 undef = u34
  generalize a.tmps.getD 35 undef = u35
  generalize a.tmps.getD 36 undef = u36
  generalize a.tmps.getD 37 undef = u37
  generalize a.tmps.getD 38 undef = u38
  generalize a.tmps.getD 39 undef = u39
  generalize a.tmps.getD 40 undef = u40
  generalize a.tmps.getD 41 undef = u41
  generalize a.tmps.getD 42 undef = u42
  generalize a.tmps.getD 43 undef = u43
  generalize a.tmps.getD 44 undef = u44
  generalize a.tmps.getD 45 undef = u45
  generalize a.tmps.getD 46 undef = u46
  generalize a.tmps.getD 47 undef = u47
  generalize a.tmps.getD 48 undef = u48
  clear hp hL hsz0 e46 z1
  clear ha0
  obtain ⟨d0, d1, d2, d3, d4, d5, d6, d7, d8, d9⟩ := HXW.out.c10
  cases P9 with
  | true =>
    obtain rfl : bm = false := by
      rw [← HBM.out]
      cases h : StmM.may s.x with
      | false => rfl
      | true => exact absurd (H9.out.1 h).1 (by decide)
    go_wp2
    go_ret
    exact ⟨rfl, B1.out⟩
  | false =>
    by_cases hk : s.x.kind = 2
    · have hb : bm = decide (ItemM.may s.x.it = 0) := by
        rw [← HBM.out]
        exact Bool.eq_iff_iff.2 (H9.out.trans ⟨fun q => decide_eq_true (q.2.1 hk), fun q => ⟨rfl, fun _ => of_decide_eq_true q, fun q2 => absurd hk q2⟩⟩)
      have HB := Lib.hid hb
      have hkk : (s.x.kind == 2) = true := by simpa using hk
      have hmx : maxLen ≤ 9223372036854775807 := by unfold maxLen; omega
      have HLN : Hid (s.x.it.vec.length ≤ 9223372036854775807 ∧ s.x.it.note.length ≤ 9223372036854775807) := Lib.hid ⟨Nat.le_trans (Nat.le_trans HS.out.l1 HS.out.m1) hmx, Nat.le_trans (Nat.le_trans HS.out.l2 HS.out.m2) hmx⟩
      clear hk hb hmx
      go_wp2_with fail
      refine (refmay_any (s.x.it.key : Int) s.A s.A2 s.x.it.vec.length s.c s.x.it.note.length s.c2 W0 HLN.out.1 HLN.out.2).mono ?_
      rintro e W1 ⟨rfl, hb⟩
      rw [show (if s.x.it.vec.length = 0 ∨ 4096 < s.x.it.vec.length then 9 else if 1024 < s.x.it.note.length then 3 else 0 : Nat) = ItemM.may s.x.it from rfl]
      generalize ItemM.may s.x.it = mm at *
      have B2 := Lib.hid (below_join B1.out hb)
      clear hb
      by_cases hz : mm = 0
      · subst hz
        go_wp2
        go_ret
        exact ⟨by rw [HB.out]; simp, B2.out⟩
      · have hzz : ((mm : Int) == 0) = false := beq_eq_false_iff_ne.2 (by omega)
        have HZ := Lib.hid hz
        go_wp2
        go_ret
        exact ⟨by rw [HB.out, decide_eq_false HZ.out]; rfl, B2.out⟩
    · have hb : bm = decide (s.x.it.note.length ≤ 1024) := by
        rw [← HBM.out]
        exact Bool.eq_iff_iff.2 (H9.out.trans ⟨fun q => decide_eq_true (q.2.2 hk), fun q => ⟨rfl, fun q2 => absurd q2 hk, fun _ => of_decide_eq_true q⟩⟩)
      have hkk : (s.x.kind == 2) = false := beq_eq_false_iff_ne.2 hk
      have HB := Lib.hid hb
      clear hk hb
      go_wp2
      go_ret
      exact ⟨by rw [HB.out]; simp; omega, B1.out⟩
end Go.Proofs.Ytaadfalklddhcaa
