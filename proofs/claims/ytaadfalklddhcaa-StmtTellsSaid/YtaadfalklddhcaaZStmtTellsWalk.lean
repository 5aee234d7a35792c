/-
  The walk of StmtTells: it returns true and changes nothing that was there.
  Conditions: the reply's lists lie in memory.
-/
import Derived.Test.YtaadfalklddhcaaZStmK1
import Derived.Test.YtaadfalklddhcaaZStmR3
import Derived.Test.YtaadfalklddhcaaZStmT7
import Derived.Test.YtaadfalklddhcaaZStmT8
import Derived.Test.YtaadfalklddhcaaZStmT9
namespace Go.Proofs.Ytaadfalklddhcaa
open Go.RowKit Go.Sort Go.Lib
set_option linter.unusedVariables false
set_option linter.unusedSimpArgs false
def st4P (g : Nat) (s : Rpv) (bv : Bool) : List (Nat × Nat × Value) := [(0, 15, (.agg s.cells)), (1, 16, (.bool bv)), (2, 17, (.agg s.cells)), (3, 18, (.bool bv)), (4, 19, (.bool false))]
def st9P (g g6 : Nat) (s y : Rpv) (bA : Option Addr) (bc : Nat) (FM : List UInt8) (fA : Option Addr) (fn fc : Nat) : List (Nat × Nat × Value) := [(0, 38, (.int .i64 0)), (1, 39, (.bool true)), (2, 40, (.bool true)), (3, 41, (.int .i64 0)), (4, 42, (.bool true)), (5, 43, (.bool true)), (6, 44, (.bool true)), (7, 45, (.slice bA FM.length bc)), (8, 46, (.string (str FM))), (9, 47, (.agg s.cells)), (10, 48, (.slice fA fn fc)), (11, 49, (.string (str FM))), (12, 50, (.bool true)), (13, 51, (.bool true)), (14, 52, (.bool true)), (15, 53, (.agg s.cells)), (16, 54, (.agg y.cells)), (17, 55, (.bool true)), (18, 56, (.bool true)), (19, 57, (.bool true)), (20, 58, (.agg s.cells)), (21, 59, (.agg y.cells)), (22, 60, (.bool true)), (23, 61, (.bool true)), (24, 62, (.bool true)), (25, 63, (.bool true)), (26, 64, (.bool true)), (27, 2, (.bool true))]
set_option maxRecDepth 100000 in
set_option maxHeartbeats 16000000 in
theorem stmtTells_walk (s : Rpv) (w : World) (hs : s.At w) :
    Calls Try.prog 8 #[.agg s.cells] w fun e w' => e = .returned (.bool true) ∧ Below w.heap.size w w' := by
  have HS0 := Lib.hid hs
  clear hs
  have b0 : Below w.heap.size w (w.alloc (.cells s.cells 34)) := (Below.refl _ _).alloc (Nat.le_refl _) _
  have U1 := Blk.new w 34 s.cells
  go_enter Try.func8, Try.ntmps8
  go_upto_region 1 with fail
  have HS1 := Lib.hid (HS0.out.below b0)
  generalize w.alloc (.cells s.cells 34) = w0 at *
  obtain ⟨g, hg⟩ : ∃ g, w.heap.size = g := ⟨_, rfl⟩
  rw [hg] at U1
  simp only [hg]
  have HG := Lib.hid hg
  have B0 := Lib.hid b0
  clear hg b0
  go_wp2_with (first | (refine wpl_load_row rfl _ (.tmp 1) rfl (g) (by go_simp) _ s.cells (0, 0) _ U1 Try.underlying34 rfl (by kernel_rfl) ?_))
  refine (heavy_any s w0 HS1.out).mono ?_
  rintro e w1 ⟨r, rfl, hb⟩
  have X1 := U1.below hb U1.lt
  have B1 := Lib.hid (below_join B0.out hb)
  have HS3 := Lib.hid (HS1.out.below hb)
  clear hb U1 B0 HS1
  cases r with
  | true =>
    go_wp2_with fail
    refine (known22_any _).mono ?_
    rintro e wz ⟨rfl, hbz⟩
    go_wp2
    go_ret
    exact ⟨rfl, below_join B1.out hbz⟩
  | false =>
    go_wp2_with (first | (refine wpl_load_row rfl _ (.tmp 1) rfl (g) (by go_simp) _ s.cells (0, 0) _ X1 Try.underlying34 rfl (by kernel_rfl) ?_))
    obtain ⟨bv, hbv⟩ : ∃ bv, RepM.mayR s.x = bv := ⟨_, rfl⟩
    have HMB := Lib.hid hbv
    have HTEL := tell_any s w1 HS3.out
    rw [hbv] at HTEL
    clear hbv
    refine HTEL.mono ?_
    clear HTEL
    cases bv with
    | false =>
      rintro e w4 ⟨rfl, hb⟩
      have HX := Lib.hid (X1.below hb X1.lt)
      have B4 := Lib.hid (below_join B1.out hb)
      have HS := Lib.hid (HS3.out.below hb)
      clear hb X1 B1 HS3
      go_upto_region 4 with fail
      refine wp_named fun a0 ha0 => ?_
      have z1 : a0.tmps.getD 1 undef = (.pointer (some ⟨g, 0, none⟩)) := by rw [ha0.out]; rfl
      have hsz0 : a0.tmps.size = 65 := by rw [ha0.out]; rfl
      refine wp_region_invB _ (by kernel_rfl) (fun L a wv => PIF a0 [15, 16, 17, 18, 19] (st4P g s false) L a ∧ Below w4.heap.size w4 wv) (by kernel_rfl) ?_ ?_ ?_
      · exact ⟨PIF.start _ _ _, ⟨rfl, rfl, rfl, Nat.le_refl _, fun _ _ => rfl⟩⟩
      rotate_left
      · as_aux_lemma =>
        refine ⟨?_, ?_, ?_, ?_, ?_, trivial⟩
        · intro L a w1 hI hi hd
          obtain ⟨hp, hw⟩ := hI
          have t1 := hp.at_ 1 _ rfl z1
          have t1' := t1
          rw [Array.getD_eq_getD_getElem?] at t1'
          exact rstep_valW (wanted_none rfl _) (.agg s.cells) w1 (exec_load_row _ (.tmp 1) rfl (g) t1 _ _ _ (HX.out.below hw HX.out.lt) Try.underlying34 rfl (by kernel_rfl)) ⟨(hp.put 0 15 (.agg s.cells) (by simp [st4P]) (by simp [st4P]) rfl (by rw [hsz0]; exact (by decide : 15 < 65))), hw⟩
        · intro L a w1 hI hi hd
          obtain ⟨hp, hw⟩ := hI
          simp [Region.binds] at hd
          have e0 : a.tmps.getD 15 undef = (.agg s.cells) := hp.pu (0, 15, (.agg s.cells)) (by simp [st4P]) (by simp [hd])
          have f0 : a.tmps[15]?.getD undef = (.agg s.cells) := by rw [← Array.getD_eq_getD_getElem?]; exact e0
          refine rstep_callW (wanted_none rfl _) 16 #[(.agg s.cells)] (by go_simp) ?_
          refine (maytell_any s w1 (HS.out.below hw)).mono ?_
          rintro e w2 ⟨rfl, hb2⟩
          rw [HMB.out]
          exact ⟨(hp.put 1 16 (.bool false) (by simp [st4P]) (by simp [st4P]) rfl (by rw [hsz0]; exact (by decide : 16 < 65))), hw.trans (hb2.mono hw.size)⟩
        · intro L a w1 hI hi hd
          obtain ⟨hp, hw⟩ := hI
          have t1 := hp.at_ 1 _ rfl z1
          have t1' := t1
          rw [Array.getD_eq_getD_getElem?] at t1'
          exact rstep_valW (wanted_none rfl _) (.agg s.cells) w1 (exec_load_row _ (.tmp 1) rfl (g) t1 _ _ _ (HX.out.below hw HX.out.lt) Try.underlying34 rfl (by kernel_rfl)) ⟨(hp.put 2 17 (.agg s.cells) (by simp [st4P]) (by simp [st4P]) rfl (by rw [hsz0]; exact (by decide : 17 < 65))), hw⟩
        · intro L a w1 hI hi hd
          obtain ⟨hp, hw⟩ := hI
          simp [Region.binds] at hd
          have e2 : a.tmps.getD 17 undef = (.agg s.cells) := hp.pu (2, 17, (.agg s.cells)) (by simp [st4P]) (by simp [hd])
          have f2 : a.tmps[17]?.getD undef = (.agg s.cells) := by rw [← Array.getD_eq_getD_getElem?]; exact e2
          refine rstep_callW (wanted_none rfl _) 26 #[(.agg s.cells)] (by go_simp) ?_
          refine (refmaytell_any s w1 (HS.out.below hw)).mono ?_
          rintro e w2 ⟨rfl, hb2⟩
          rw [HMB.out]
          exact ⟨(hp.put 3 18 (.bool false) (by simp [st4P]) (by simp [st4P]) rfl (by rw [hsz0]; exact (by decide : 18 < 65))), hw.trans (hb2.mono hw.size)⟩
        · intro L a w1 hI hi hd
          obtain ⟨hp, hw⟩ := hI
          simp [Region.binds] at hd
          have e1 : a.tmps.getD 16 undef = (.bool false) := hp.pu (1, 16, (.bool false)) (by simp [st4P]) (by simp [hd])
          have f1 : a.tmps[16]?.getD undef = (.bool false) := by rw [← Array.getD_eq_getD_getElem?]; exact e1
          have e3 : a.tmps.getD 18 undef = (.bool false) := hp.pu (3, 18, (.bool false)) (by simp [st4P]) (by simp [hd])
          have f3 : a.tmps[18]?.getD undef = (.bool false) := by rw [← Array.getD_eq_getD_getElem?]; exact e3
          have hbb : (false != false) = false := bne_self_eq_false false
          exact rstep_valW (wanted_none rfl _) (.bool false) w1 (by go_simp) ⟨(hp.put 4 19 (.bool false) (by simp [st4P]) (by simp [st4P]) rfl (by rw [hsz0]; exact (by decide : 19 < 65))), hw⟩
      rintro L a W0 ⟨hp, hw⟩ hL
      have e4 : a.tmps.getD 19 undef = (.bool false) := hp.pu (4, 19, _) (by simp [st4P]) (hL 4 (by simp))
      have B5 := Lib.hid (below_join B4.out hw)
      have HSz := Lib.hid (HS.out.below hw)
      have HXz := Lib.hid (HX.out.below hw HX.out.lt)
      clear hw
      rw [hp.eq]
      refine of_assigns (P := Try.prog) _ _ _ _ ?_
      rw [ha0.out]
      simp only [asgs, List.map, e4]
      generalize a.tmps.getD 15 undef = u15
      generalize a.tmps.getD 16 undef = u16
      generalize a.tmps.getD 17 undef = u17
      generalize a.tmps.getD 18 undef = u18
      clear hp hL hsz0 e4 z1
      clear ha0
      have hx := HXz.out
      go_wp2_with (first | (refine wpl_load_row rfl _ (.tmp 1) rfl (g) (by go_simp) _ s.cells (0, 0) _ hx Try.underlying34 rfl (by kernel_rfl) ?_))
      refine (refmaytell_any s _ HSz.out).mono ?_
      rw [HMB.out]
      rintro e w6 ⟨rfl, hb⟩
      have B6 := Lib.hid (below_join B5.out hb)
      clear hb hx HX HXz HS HSz B4 B5
      go_wp2_with fail
      refine (known22_any _).mono ?_
      rintro e wz ⟨rfl, hbz⟩
      go_wp2
      go_ret
      exact ⟨rfl, below_join B6.out hbz⟩
    | true =>
      obtain ⟨FM, hFM⟩ : ∃ l, RepM.formR s.x = l := ⟨_, rfl⟩
      rw [hFM]
      have HFM := Lib.hid hFM
      rintro e w4 ⟨bA, bn, bc, rfl, hn, hO, hb⟩
      obtain rfl : FM.length = bn := hn.out
      have HX := Lib.hid (X1.below hb X1.lt)
      have B4 := Lib.hid (below_join B1.out hb)
      have HS := Lib.hid (HS3.out.below hb)
      have HO := Lib.hid hO
      have HLN : Hid (FM.length ≤ 140737488355328) := Lib.hid (by rw [← hFM]; have := RepM.formR_small HMB.out; omega)
      clear hb X1 B1 HS3 hn hO hFM
      go_upto_region 4 with fail
      refine wp_named fun a0 ha0 => ?_
      have z1 : a0.tmps.getD 1 undef = (.pointer (some ⟨g, 0, none⟩)) := by rw [ha0.out]; rfl
      have hsz0 : a0.tmps.size = 65 := by rw [ha0.out]; rfl
      refine wp_region_invB _ (by kernel_rfl) (fun L a wv => PIF a0 [15, 16, 17, 18, 19] (st4P g s true) L a ∧ Below w4.heap.size w4 wv) (by kernel_rfl) ?_ ?_ ?_
      · exact ⟨PIF.start _ _ _, ⟨rfl, rfl, rfl, Nat.le_refl _, fun _ _ => rfl⟩⟩
      rotate_left
      · as_aux_lemma =>
        refine ⟨?_, ?_, ?_, ?_, ?_, trivial⟩
        · intro L a w1 hI hi hd
          obtain ⟨hp, hw⟩ := hI
          have t1 := hp.at_ 1 _ rfl z1
          have t1' := t1
          rw [Array.getD_eq_getD_getElem?] at t1'
          exact rstep_valW (wanted_none rfl _) (.agg s.cells) w1 (exec_load_row _ (.tmp 1) rfl (g) t1 _ _ _ (HX.out.below hw HX.out.lt) Try.underlying34 rfl (by kernel_rfl)) ⟨(hp.put 0 15 (.agg s.cells) (by simp [st4P]) (by simp [st4P]) rfl (by rw [hsz0]; exact (by decide : 15 < 65))), hw⟩
        · intro L a w1 hI hi hd
          obtain ⟨hp, hw⟩ := hI
          simp [Region.binds] at hd
          have e0 : a.tmps.getD 15 undef = (.agg s.cells) := hp.pu (0, 15, (.agg s.cells)) (by simp [st4P]) (by simp [hd])
          have f0 : a.tmps[15]?.getD undef = (.agg s.cells) := by rw [← Array.getD_eq_getD_getElem?]; exact e0
          refine rstep_callW (wanted_none rfl _) 16 #[(.agg s.cells)] (by go_simp) ?_
          refine (maytell_any s w1 (HS.out.below hw)).mono ?_
          rintro e w2 ⟨rfl, hb2⟩
          rw [HMB.out]
          exact ⟨(hp.put 1 16 (.bool true) (by simp [st4P]) (by simp [st4P]) rfl (by rw [hsz0]; exact (by decide : 16 < 65))), hw.trans (hb2.mono hw.size)⟩
        · intro L a w1 hI hi hd
          obtain ⟨hp, hw⟩ := hI
          have t1 := hp.at_ 1 _ rfl z1
          have t1' := t1
          rw [Array.getD_eq_getD_getElem?] at t1'
          exact rstep_valW (wanted_none rfl _) (.agg s.cells) w1 (exec_load_row _ (.tmp 1) rfl (g) t1 _ _ _ (HX.out.below hw HX.out.lt) Try.underlying34 rfl (by kernel_rfl)) ⟨(hp.put 2 17 (.agg s.cells) (by simp [st4P]) (by simp [st4P]) rfl (by rw [hsz0]; exact (by decide : 17 < 65))), hw⟩
        · intro L a w1 hI hi hd
          obtain ⟨hp, hw⟩ := hI
          simp [Region.binds] at hd
          have e2 : a.tmps.getD 17 undef = (.agg s.cells) := hp.pu (2, 17, (.agg s.cells)) (by simp [st4P]) (by simp [hd])
          have f2 : a.tmps[17]?.getD undef = (.agg s.cells) := by rw [← Array.getD_eq_getD_getElem?]; exact e2
          refine rstep_callW (wanted_none rfl _) 26 #[(.agg s.cells)] (by go_simp) ?_
          refine (refmaytell_any s w1 (HS.out.below hw)).mono ?_
          rintro e w2 ⟨rfl, hb2⟩
          rw [HMB.out]
          exact ⟨(hp.put 3 18 (.bool true) (by simp [st4P]) (by simp [st4P]) rfl (by rw [hsz0]; exact (by decide : 18 < 65))), hw.trans (hb2.mono hw.size)⟩
        · intro L a w1 hI hi hd
          obtain ⟨hp, hw⟩ := hI
          simp [Region.binds] at hd
          have e1 : a.tmps.getD 16 undef = (.bool true) := hp.pu (1, 16, (.bool true)) (by simp [st4P]) (by simp [hd])
          have f1 : a.tmps[16]?.getD undef = (.bool true) := by rw [← Array.getD_eq_getD_getElem?]; exact e1
          have e3 : a.tmps.getD 18 undef = (.bool true) := hp.pu (3, 18, (.bool true)) (by simp [st4P]) (by simp [hd])
          have f3 : a.tmps[18]?.getD undef = (.bool true) := by rw [← Array.getD_eq_getD_getElem?]; exact e3
          have hbb : (true != true) = false := bne_self_eq_false true
          exact rstep_valW (wanted_none rfl _) (.bool false) w1 (by go_simp) ⟨(hp.put 4 19 (.bool false) (by simp [st4P]) (by simp [st4P]) rfl (by rw [hsz0]; exact (by decide : 19 < 65))), hw⟩
      rintro L a W0 ⟨hp, hw⟩ hL
      have e4 : a.tmps.getD 19 undef = (.bool false) := hp.pu (4, 19, _) (by simp [st4P]) (hL 4 (by simp))
      have B5 := Lib.hid (below_join B4.out hw)
      have HSz := Lib.hid (HS.out.below hw)
      have HXz := Lib.hid (HX.out.below hw HX.out.lt)
      have HOz := Lib.hid (HO.out.below hw)
      clear hw
      rw [hp.eq]
      refine of_assigns (P := Try.prog) _ _ _ _ ?_
      rw [ha0.out]
      simp only [asgs, List.map, e4]
      generalize a.tmps.getD 15 undef = u15
      generalize a.tmps.getD 16 undef = u16
      generalize a.tmps.getD 17 undef = u17
      generalize a.tmps.getD 18 undef = u18
      clear hp hL hsz0 e4 z1
      clear ha0
      have hx := HXz.out
      go_wp2_with (first | (refine wpl_load_row rfl _ (.tmp 1) rfl (g) (by go_simp) _ s.cells (0, 0) _ hx Try.underlying34 rfl (by kernel_rfl) ?_))
      refine (refmaytell_any s _ HSz.out).mono ?_
      rw [HMB.out]
      rintro e w6 ⟨rfl, hb⟩
      have HX6 := Lib.hid (HXz.out.below hb HXz.out.lt)
      have B6 := Lib.hid (below_join B5.out hb)
      have HS6 := Lib.hid (HSz.out.below hb)
      have HO6 := Lib.hid (HOz.out.below hb)
      clear hb hx HX HXz HS HSz B4 B5 HO HOz
      go_wp2_with fail
      have HRD := readtell_any bA bc FM w6 HO6.out.row HO6.out.le.1 HO6.out.le.2 HLN.out
      rw [← HFM.out, RepM.readT_form HS6.out.ok HMB.out, HFM.out] at HRD
      refine HRD.mono ?_
      clear HRD
      rintro e w7 ⟨y, rfl, hyx, hya, hyf, hb⟩
      have HYX := Lib.hid hyx
      have h1 : y.cells.all (·.oneCell') = true := by simp [Rpv.cells, Value.oneCell']
      have V3 := Blk.new w7 34 #[.int .i64 0, .int .i64 0, .int .i64 0, .int .i64 0, .int .u64 0, .slice none 0 0, .slice none 0 0, .slice none 0 0, .slice none 0 0]
      have hba : Below w7.heap.size w7 (w7.alloc (.cells #[.int .i64 0, .int .i64 0, .int .i64 0, .int .i64 0, .int .u64 0, .slice none 0 0, .slice none 0 0, .slice none 0 0, .slice none 0 0] 34)) := (Below.refl _ _).alloc (Nat.le_refl _) _
      have hbs : Below w7.heap.size w7 ((w7.alloc (.cells #[.int .i64 0, .int .i64 0, .int .i64 0, .int .i64 0, .int .u64 0, .slice none 0 0, .slice none 0 0, .slice none 0 0, .slice none 0 0] 34)).setRow w7.heap.size y.cells) := below_grown hba (grownBy_setRow _ _ _) (by simp) (Nat.le_refl _)
      have hbb := below_join hb hbs
      have HX := Lib.hid (HX6.out.below hbb HX6.out.lt)
      have B9 := Lib.hid (below_join B6.out hbb)
      have HS := Lib.hid (HS6.out.below hbb)
      have HY := Lib.hid (hya.below hbs)
      have HY6 := Lib.hid (V3.setRow_ y.cells)
      have HO9 := Lib.hid (HO6.out.below hbb)
      have HB9 := Lib.hid HO9.out.row
      clear hyx hya hyf hb hba hbs hbb HX6 B6 HS6 HO6
      go_simp
      iterate 13 go_step
      refine wpList_store_row rfl _ (.tmp 5) (.tmp 36) rfl w7.heap.size y.cells (by go_simp) (by go_simp) _ _ V3 (by kernel_rfl) rfl h1 ?_
      go_upto_region 9 with fail
      clear V3 h1
      generalize (w7.alloc (.cells #[.int .i64 0, .int .i64 0, .int .i64 0, .int .i64 0, .int .u64 0, .slice none 0 0, .slice none 0 0, .slice none 0 0, .slice none 0 0] 34)).setRow w7.heap.size y.cells = w9 at *
      generalize w7.heap.size = g6 at *
      refine wp_named fun a0 ha0 => ?_
      have z3 : a0.tmps.getD 3 undef = (.slice bA FM.length bc) := by rw [ha0.out]; rfl
      have z4 : a0.tmps.getD 4 undef = (.int .i64 0) := by rw [ha0.out]; rfl
      have z6 : a0.tmps.getD 6 undef = (.int .i64 0) := by rw [ha0.out]; rfl
      have z1 : a0.tmps.getD 1 undef = (.pointer (some ⟨g, 0, none⟩)) := by rw [ha0.out]; rfl
      have z5 : a0.tmps.getD 5 undef = (.pointer (some ⟨g6, 0, none⟩)) := by rw [ha0.out]; rfl
      have hsz0 : a0.tmps.size = 65 := by rw [ha0.out]; rfl
      refine wp_region_invB _ (by kernel_rfl) (fun L a wv => ∃ fA fn fc, PIF a0 [38, 39, 40, 41, 42, 43, 44, 45, 46, 47, 48, 49, 50, 51, 52, 53, 54, 55, 56, 57, 58, 59, 60, 61, 62, 63, 64, 2] (st9P g g6 s y bA bc FM fA fn fc) L a ∧ (Below w9.heap.size w9 wv ∧ (L 10 = true → Row wv fA (bs FM) ∧ FM.length = fn))) (by kernel_rfl) ?_ ?_ ?_
      · exact ⟨none, 0, 0, PIF.start _ _ _, ⟨rfl, rfl, rfl, Nat.le_refl _, fun _ _ => rfl⟩, fun q => by cases q⟩
      rotate_left
      · as_aux_lemma =>
        refine ⟨?_, ?_, ?_, ?_, ?_, ?_, ?_, ?_, ?_, ?_, ?_, ?_, ?_, ?_, ?_, ?_, ?_, ?_, ?_, ?_, ?_, ?_, ?_, ?_, ?_, ?_, ?_, ?_, trivial⟩
        · intro L a w1 hI hi hd
          obtain ⟨fA, fn, fc, hp, hw⟩ := hI
          have t4 := hp.at_ 4 _ rfl z4
          have t4' := t4
          rw [Array.getD_eq_getD_getElem?] at t4'
          exact rstep_valW (wanted_none rfl _) (.int .i64 0) w1 (by go_simp) ⟨fA, fn, fc, (hp.put 0 38 (.int .i64 0) (by simp [st9P]) (by simp [st9P]) rfl (by rw [hsz0]; exact (by decide : 38 < 65))), ⟨hw.1, by rw [upd_ne L (show (10 : Nat) ≠ 0 by decide)]; exact hw.2⟩⟩
        · intro L a w1 hI hi hd
          obtain ⟨fA, fn, fc, hp, hw⟩ := hI
          simp [Region.binds] at hd
          have e0 : a.tmps.getD 38 undef = (.int .i64 0) := hp.pu (0, 38, (.int .i64 0)) (by simp [st9P]) (by simp [hd])
          have f0 : a.tmps[38]?.getD undef = (.int .i64 0) := by rw [← Array.getD_eq_getD_getElem?]; exact e0
          exact rstep_valW (wanted_none rfl _) (.bool true) w1 (by go_simp) ⟨fA, fn, fc, (hp.put 1 39 (.bool true) (by simp [st9P]) (by simp [st9P]) rfl (by rw [hsz0]; exact (by decide : 39 < 65))), ⟨hw.1, by rw [upd_ne L (show (10 : Nat) ≠ 1 by decide)]; exact hw.2⟩⟩
        · intro L a w1 hI hi hd
          obtain ⟨fA, fn, fc, hp, hw⟩ := hI
          simp [Region.binds] at hd
          have e1 : a.tmps.getD 39 undef = (.bool true) := hp.pu (1, 39, (.bool true)) (by simp [st9P]) (by simp [hd])
          have f1 : a.tmps[39]?.getD undef = (.bool true) := by rw [← Array.getD_eq_getD_getElem?]; exact e1
          exact rstep_valW (wanted_none rfl _) (.bool true) w1 (by go_simp) ⟨fA, fn, fc, (hp.put 2 40 (.bool true) (by simp [st9P]) (by simp [st9P]) rfl (by rw [hsz0]; exact (by decide : 40 < 65))), ⟨hw.1, by rw [upd_ne L (show (10 : Nat) ≠ 2 by decide)]; exact hw.2⟩⟩
        · intro L a w1 hI hi hd
          obtain ⟨fA, fn, fc, hp, hw⟩ := hI
          simp [Region.binds] at hd
          have e2 : a.tmps.getD 40 undef = (.bool true) := hp.pu (2, 40, (.bool true)) (by simp [st9P]) (by simp [hd])
          have f2 : a.tmps[40]?.getD undef = (.bool true) := by rw [← Array.getD_eq_getD_getElem?]; exact e2
          have t6 := hp.at_ 6 _ rfl z6
          have t6' := t6
          rw [Array.getD_eq_getD_getElem?] at t6'
          exact rstep_valW (wanted_of 2 40 true rfl rfl e2) (.int .i64 0) w1 (by go_simp) ⟨fA, fn, fc, (hp.put 3 41 (.int .i64 0) (by simp [st9P]) (by simp [st9P]) rfl (by rw [hsz0]; exact (by decide : 41 < 65))), ⟨hw.1, by rw [upd_ne L (show (10 : Nat) ≠ 3 by decide)]; exact hw.2⟩⟩
        · intro L a w1 hI hi hd
          obtain ⟨fA, fn, fc, hp, hw⟩ := hI
          simp [Region.binds] at hd
          have e2 : a.tmps.getD 40 undef = (.bool true) := hp.pu (2, 40, (.bool true)) (by simp [st9P]) (by simp [hd])
          have f2 : a.tmps[40]?.getD undef = (.bool true) := by rw [← Array.getD_eq_getD_getElem?]; exact e2
          have e3 : a.tmps.getD 41 undef = (.int .i64 0) := hp.pu (3, 41, (.int .i64 0)) (by simp [st9P]) (by simp [hd])
          have f3 : a.tmps[41]?.getD undef = (.int .i64 0) := by rw [← Array.getD_eq_getD_getElem?]; exact e3
          exact rstep_valW (wanted_of 2 40 true rfl rfl e2) (.bool true) w1 (by go_simp) ⟨fA, fn, fc, (hp.put 4 42 (.bool true) (by simp [st9P]) (by simp [st9P]) rfl (by rw [hsz0]; exact (by decide : 42 < 65))), ⟨hw.1, by rw [upd_ne L (show (10 : Nat) ≠ 4 by decide)]; exact hw.2⟩⟩
        · intro L a w1 hI hi hd
          obtain ⟨fA, fn, fc, hp, hw⟩ := hI
          simp [Region.binds] at hd
          have e2 : a.tmps.getD 40 undef = (.bool true) := hp.pu (2, 40, (.bool true)) (by simp [st9P]) (by simp [hd])
          have f2 : a.tmps[40]?.getD undef = (.bool true) := by rw [← Array.getD_eq_getD_getElem?]; exact e2
          have e4 : a.tmps.getD 42 undef = (.bool true) := hp.pu (4, 42, (.bool true)) (by simp [st9P]) (by simp [hd])
          have f4 : a.tmps[42]?.getD undef = (.bool true) := by rw [← Array.getD_eq_getD_getElem?]; exact e4
          exact rstep_valW (wanted_none rfl _) (.bool true) w1 (by go_simp) ⟨fA, fn, fc, (hp.put 5 43 (.bool true) (by simp [st9P]) (by simp [st9P]) rfl (by rw [hsz0]; exact (by decide : 43 < 65))), ⟨hw.1, by rw [upd_ne L (show (10 : Nat) ≠ 5 by decide)]; exact hw.2⟩⟩
        · intro L a w1 hI hi hd
          obtain ⟨fA, fn, fc, hp, hw⟩ := hI
          simp [Region.binds] at hd
          have e5 : a.tmps.getD 43 undef = (.bool true) := hp.pu (5, 43, (.bool true)) (by simp [st9P]) (by simp [hd])
          have f5 : a.tmps[43]?.getD undef = (.bool true) := by rw [← Array.getD_eq_getD_getElem?]; exact e5
          exact rstep_valW (wanted_none rfl _) (.bool true) w1 (by go_simp) ⟨fA, fn, fc, (hp.put 6 44 (.bool true) (by simp [st9P]) (by simp [st9P]) rfl (by rw [hsz0]; exact (by decide : 44 < 65))), ⟨hw.1, by rw [upd_ne L (show (10 : Nat) ≠ 6 by decide)]; exact hw.2⟩⟩
        · intro L a w1 hI hi hd
          obtain ⟨fA, fn, fc, hp, hw⟩ := hI
          simp [Region.binds] at hd
          have e6 : a.tmps.getD 44 undef = (.bool true) := hp.pu (6, 44, (.bool true)) (by simp [st9P]) (by simp [hd])
          have f6 : a.tmps[44]?.getD undef = (.bool true) := by rw [← Array.getD_eq_getD_getElem?]; exact e6
          have t3 := hp.at_ 3 _ rfl z3
          have t3' := t3
          rw [Array.getD_eq_getD_getElem?] at t3'
          exact rstep_valW (wanted_of 6 44 true rfl rfl e6) (.slice bA FM.length bc) w1 (by go_simp) ⟨fA, fn, fc, (hp.put 7 45 (.slice bA FM.length bc) (by simp [st9P]) (by simp [st9P]) rfl (by rw [hsz0]; exact (by decide : 45 < 65))), ⟨hw.1, by rw [upd_ne L (show (10 : Nat) ≠ 7 by decide)]; exact hw.2⟩⟩
        · intro L a w1 hI hi hd
          obtain ⟨fA, fn, fc, hp, hw⟩ := hI
          simp [Region.binds] at hd
          have e6 : a.tmps.getD 44 undef = (.bool true) := hp.pu (6, 44, (.bool true)) (by simp [st9P]) (by simp [hd])
          have f6 : a.tmps[44]?.getD undef = (.bool true) := by rw [← Array.getD_eq_getD_getElem?]; exact e6
          have e7 : a.tmps.getD 45 undef = (.slice bA FM.length bc) := hp.pu (7, 45, (.slice bA FM.length bc)) (by simp [st9P]) (by simp [hd])
          have f7 : a.tmps[45]?.getD undef = (.slice bA FM.length bc) := by rw [← Array.getD_eq_getD_getElem?]; exact e7
          have hsb : (convert 22 9 (.slice bA FM.length bc)).run Try.prog w1 = .ok (.string (str FM)) w1 := run_str w1 bc (HB9.out.below hw.1)
          exact rstep_valW (wanted_of 6 44 true rfl rfl e6) (.string (str FM)) w1 (by go_simp) ⟨fA, fn, fc, (hp.put 8 46 (.string (str FM)) (by simp [st9P]) (by simp [st9P]) rfl (by rw [hsz0]; exact (by decide : 46 < 65))), ⟨hw.1, by rw [upd_ne L (show (10 : Nat) ≠ 8 by decide)]; exact hw.2⟩⟩
        · intro L a w1 hI hi hd
          obtain ⟨fA, fn, fc, hp, hw⟩ := hI
          simp [Region.binds] at hd
          have e6 : a.tmps.getD 44 undef = (.bool true) := hp.pu (6, 44, (.bool true)) (by simp [st9P]) (by simp [hd])
          have f6 : a.tmps[44]?.getD undef = (.bool true) := by rw [← Array.getD_eq_getD_getElem?]; exact e6
          have t1 := hp.at_ 1 _ rfl z1
          have t1' := t1
          rw [Array.getD_eq_getD_getElem?] at t1'
          exact rstep_valW (wanted_of 6 44 true rfl rfl e6) (.agg s.cells) w1 (exec_load_row _ (.tmp 1) rfl (g) t1 _ _ _ (HX.out.below hw.1 HX.out.lt) Try.underlying34 rfl (by kernel_rfl)) ⟨fA, fn, fc, (hp.put 9 47 (.agg s.cells) (by simp [st9P]) (by simp [st9P]) rfl (by rw [hsz0]; exact (by decide : 47 < 65))), ⟨hw.1, by rw [upd_ne L (show (10 : Nat) ≠ 9 by decide)]; exact hw.2⟩⟩
        · intro L a w1 hI hi hd
          obtain ⟨fA, fn, fc, hp, hw⟩ := hI
          simp [Region.binds] at hd
          have e6 : a.tmps.getD 44 undef = (.bool true) := hp.pu (6, 44, (.bool true)) (by simp [st9P]) (by simp [hd])
          have f6 : a.tmps[44]?.getD undef = (.bool true) := by rw [← Array.getD_eq_getD_getElem?]; exact e6
          have e9 : a.tmps.getD 47 undef = (.agg s.cells) := hp.pu (9, 47, (.agg s.cells)) (by simp [st9P]) (by simp [hd])
          have f9 : a.tmps[47]?.getD undef = (.agg s.cells) := by rw [← Array.getD_eq_getD_getElem?]; exact e9
          have hi10 : L 10 = false := hi
          refine rstep_callW (wanted_of 6 44 true rfl rfl e6) 27 #[(.agg s.cells)] (by go_simp) ?_
          refine (refformtell_any s w1 (HS.out.below hw.1) HMB.out).mono ?_
          rw [HFM.out]
          rintro e w2 ⟨A9, n9, c9, rfl, hn9, hO9, hb2⟩
          exact ⟨A9, n9, c9, ((PIF.swap (p2 := (st9P g g6 s y bA bc FM A9 n9 c9)) hp (by intro q hq hL; simp only [st9P, List.mem_cons, List.not_mem_nil, or_false] at hq; rcases hq with rfl | rfl | rfl | rfl | rfl | rfl | rfl | rfl | rfl | rfl | rfl | rfl | rfl | rfl | rfl | rfl | rfl | rfl | rfl | rfl | rfl | rfl | rfl | rfl | rfl | rfl | rfl | rfl <;> first | (simp [st9P]; done) | exact absurd hL (by show ¬ L 10 = true; rw [hi10]; simp))).put 10 48 (.slice A9 n9 c9) (by simp [st9P]) (by simp [st9P]) rfl (by rw [hsz0]; exact (by decide : 48 < 65))), below_join hw.1 hb2, fun _ => ⟨hO9.row, hn9.out⟩⟩
        · intro L a w1 hI hi hd
          obtain ⟨fA, fn, fc, hp, hw⟩ := hI
          simp [Region.binds] at hd
          have e6 : a.tmps.getD 44 undef = (.bool true) := hp.pu (6, 44, (.bool true)) (by simp [st9P]) (by simp [hd])
          have f6 : a.tmps[44]?.getD undef = (.bool true) := by rw [← Array.getD_eq_getD_getElem?]; exact e6
          have e10 : a.tmps.getD 48 undef = (.slice fA fn fc) := hp.pu (10, 48, (.slice fA fn fc)) (by simp [st9P]) (by simp [hd])
          have f10 : a.tmps[48]?.getD undef = (.slice fA fn fc) := by rw [← Array.getD_eq_getD_getElem?]; exact e10
          have hfr := hw.2 (by simp [hd])
          have hsr : (convert 22 9 (.slice fA fn fc)).run Try.prog w1 = .ok (.string (str FM)) w1 := by rw [← hfr.2]; exact run_str w1 fc hfr.1
          exact rstep_valW (wanted_of 6 44 true rfl rfl e6) (.string (str FM)) w1 (by go_simp) ⟨fA, fn, fc, (hp.put 11 49 (.string (str FM)) (by simp [st9P]) (by simp [st9P]) rfl (by rw [hsz0]; exact (by decide : 49 < 65))), ⟨hw.1, by rw [upd_ne L (show (10 : Nat) ≠ 11 by decide)]; exact hw.2⟩⟩
        · intro L a w1 hI hi hd
          obtain ⟨fA, fn, fc, hp, hw⟩ := hI
          simp [Region.binds] at hd
          have e6 : a.tmps.getD 44 undef = (.bool true) := hp.pu (6, 44, (.bool true)) (by simp [st9P]) (by simp [hd])
          have f6 : a.tmps[44]?.getD undef = (.bool true) := by rw [← Array.getD_eq_getD_getElem?]; exact e6
          have e8 : a.tmps.getD 46 undef = (.string (str FM)) := hp.pu (8, 46, (.string (str FM))) (by simp [st9P]) (by simp [hd])
          have f8 : a.tmps[46]?.getD undef = (.string (str FM)) := by rw [← Array.getD_eq_getD_getElem?]; exact e8
          have e11 : a.tmps.getD 49 undef = (.string (str FM)) := hp.pu (11, 49, (.string (str FM))) (by simp [st9P]) (by simp [hd])
          have f11 : a.tmps[49]?.getD undef = (.string (str FM)) := by rw [← Array.getD_eq_getD_getElem?]; exact e11
          have hq : ((str FM).toList == (str FM).toList) = true := by rw [str_beq]; simp
          exact rstep_valW (wanted_of 6 44 true rfl rfl e6) (.bool true) w1 (by go_simp) ⟨fA, fn, fc, (hp.put 12 50 (.bool true) (by simp [st9P]) (by simp [st9P]) rfl (by rw [hsz0]; exact (by decide : 50 < 65))), ⟨hw.1, by rw [upd_ne L (show (10 : Nat) ≠ 12 by decide)]; exact hw.2⟩⟩
        · intro L a w1 hI hi hd
          obtain ⟨fA, fn, fc, hp, hw⟩ := hI
          simp [Region.binds] at hd
          have e6 : a.tmps.getD 44 undef = (.bool true) := hp.pu (6, 44, (.bool true)) (by simp [st9P]) (by simp [hd])
          have f6 : a.tmps[44]?.getD undef = (.bool true) := by rw [← Array.getD_eq_getD_getElem?]; exact e6
          have e12 : a.tmps.getD 50 undef = (.bool true) := hp.pu (12, 50, (.bool true)) (by simp [st9P]) (by simp [hd])
          have f12 : a.tmps[50]?.getD undef = (.bool true) := by rw [← Array.getD_eq_getD_getElem?]; exact e12
          exact rstep_valW (wanted_none rfl _) (.bool true) w1 (by go_simp) ⟨fA, fn, fc, (hp.put 13 51 (.bool true) (by simp [st9P]) (by simp [st9P]) rfl (by rw [hsz0]; exact (by decide : 51 < 65))), ⟨hw.1, by rw [upd_ne L (show (10 : Nat) ≠ 13 by decide)]; exact hw.2⟩⟩
        · intro L a w1 hI hi hd
          obtain ⟨fA, fn, fc, hp, hw⟩ := hI
          simp [Region.binds] at hd
          have e13 : a.tmps.getD 51 undef = (.bool true) := hp.pu (13, 51, (.bool true)) (by simp [st9P]) (by simp [hd])
          have f13 : a.tmps[51]?.getD undef = (.bool true) := by rw [← Array.getD_eq_getD_getElem?]; exact e13
          exact rstep_valW (wanted_none rfl _) (.bool true) w1 (by go_simp) ⟨fA, fn, fc, (hp.put 14 52 (.bool true) (by simp [st9P]) (by simp [st9P]) rfl (by rw [hsz0]; exact (by decide : 52 < 65))), ⟨hw.1, by rw [upd_ne L (show (10 : Nat) ≠ 14 by decide)]; exact hw.2⟩⟩
        · intro L a w1 hI hi hd
          obtain ⟨fA, fn, fc, hp, hw⟩ := hI
          simp [Region.binds] at hd
          have e14 : a.tmps.getD 52 undef = (.bool true) := hp.pu (14, 52, (.bool true)) (by simp [st9P]) (by simp [hd])
          have f14 : a.tmps[52]?.getD undef = (.bool true) := by rw [← Array.getD_eq_getD_getElem?]; exact e14
          have t1 := hp.at_ 1 _ rfl z1
          have t1' := t1
          rw [Array.getD_eq_getD_getElem?] at t1'
          exact rstep_valW (wanted_of 14 52 true rfl rfl e14) (.agg s.cells) w1 (exec_load_row _ (.tmp 1) rfl (g) t1 _ _ _ (HX.out.below hw.1 HX.out.lt) Try.underlying34 rfl (by kernel_rfl)) ⟨fA, fn, fc, (hp.put 15 53 (.agg s.cells) (by simp [st9P]) (by simp [st9P]) rfl (by rw [hsz0]; exact (by decide : 53 < 65))), ⟨hw.1, by rw [upd_ne L (show (10 : Nat) ≠ 15 by decide)]; exact hw.2⟩⟩
        · intro L a w1 hI hi hd
          obtain ⟨fA, fn, fc, hp, hw⟩ := hI
          simp [Region.binds] at hd
          have e14 : a.tmps.getD 52 undef = (.bool true) := hp.pu (14, 52, (.bool true)) (by simp [st9P]) (by simp [hd])
          have f14 : a.tmps[52]?.getD undef = (.bool true) := by rw [← Array.getD_eq_getD_getElem?]; exact e14
          have t5 := hp.at_ 5 _ rfl z5
          have t5' := t5
          rw [Array.getD_eq_getD_getElem?] at t5'
          exact rstep_valW (wanted_of 14 52 true rfl rfl e14) (.agg y.cells) w1 (exec_load_row _ (.tmp 5) rfl (g6) t5 _ _ _ (HY6.out.below hw.1 HY6.out.lt) Try.underlying34 rfl (by kernel_rfl)) ⟨fA, fn, fc, (hp.put 16 54 (.agg y.cells) (by simp [st9P]) (by simp [st9P]) rfl (by rw [hsz0]; exact (by decide : 54 < 65))), ⟨hw.1, by rw [upd_ne L (show (10 : Nat) ≠ 16 by decide)]; exact hw.2⟩⟩
        · intro L a w1 hI hi hd
          obtain ⟨fA, fn, fc, hp, hw⟩ := hI
          simp [Region.binds] at hd
          have e14 : a.tmps.getD 52 undef = (.bool true) := hp.pu (14, 52, (.bool true)) (by simp [st9P]) (by simp [hd])
          have f14 : a.tmps[52]?.getD undef = (.bool true) := by rw [← Array.getD_eq_getD_getElem?]; exact e14
          have e15 : a.tmps.getD 53 undef = (.agg s.cells) := hp.pu (15, 53, (.agg s.cells)) (by simp [st9P]) (by simp [hd])
          have f15 : a.tmps[53]?.getD undef = (.agg s.cells) := by rw [← Array.getD_eq_getD_getElem?]; exact e15
          have e16 : a.tmps.getD 54 undef = (.agg y.cells) := hp.pu (16, 54, (.agg y.cells)) (by simp [st9P]) (by simp [hd])
          have f16 : a.tmps[54]?.getD undef = (.agg y.cells) := by rw [← Array.getD_eq_getD_getElem?]; exact e16
          refine rstep_callW (wanted_of 14 52 true rfl rfl e14) 12 #[(.agg s.cells), (.agg y.cells)] (by go_simp) ?_
          refine (refsametell_any s y w1 (HS.out.below hw.1) (HY.out.below hw.1)).mono ?_
          rintro e w2 ⟨rfl, hb2⟩
          rw [HYX.out, RepM.same_refl]
          exact ⟨fA, fn, fc, (hp.put 17 55 (.bool true) (by simp [st9P]) (by simp [st9P]) rfl (by rw [hsz0]; exact (by decide : 55 < 65))), ⟨below_join hw.1 hb2, by rw [upd_ne L (show (10 : Nat) ≠ 17 by decide)]; exact fun q => ⟨(hw.2 q).1.below hb2, (hw.2 q).2⟩⟩⟩
        · intro L a w1 hI hi hd
          obtain ⟨fA, fn, fc, hp, hw⟩ := hI
          simp [Region.binds] at hd
          have e14 : a.tmps.getD 52 undef = (.bool true) := hp.pu (14, 52, (.bool true)) (by simp [st9P]) (by simp [hd])
          have f14 : a.tmps[52]?.getD undef = (.bool true) := by rw [← Array.getD_eq_getD_getElem?]; exact e14
          have e17 : a.tmps.getD 55 undef = (.bool true) := hp.pu (17, 55, (.bool true)) (by simp [st9P]) (by simp [hd])
          have f17 : a.tmps[55]?.getD undef = (.bool true) := by rw [← Array.getD_eq_getD_getElem?]; exact e17
          exact rstep_valW (wanted_none rfl _) (.bool true) w1 (by go_simp) ⟨fA, fn, fc, (hp.put 18 56 (.bool true) (by simp [st9P]) (by simp [st9P]) rfl (by rw [hsz0]; exact (by decide : 56 < 65))), ⟨hw.1, by rw [upd_ne L (show (10 : Nat) ≠ 18 by decide)]; exact hw.2⟩⟩
        · intro L a w1 hI hi hd
          obtain ⟨fA, fn, fc, hp, hw⟩ := hI
          simp [Region.binds] at hd
          have e18 : a.tmps.getD 56 undef = (.bool true) := hp.pu (18, 56, (.bool true)) (by simp [st9P]) (by simp [hd])
          have f18 : a.tmps[56]?.getD undef = (.bool true) := by rw [← Array.getD_eq_getD_getElem?]; exact e18
          exact rstep_valW (wanted_none rfl _) (.bool true) w1 (by go_simp) ⟨fA, fn, fc, (hp.put 19 57 (.bool true) (by simp [st9P]) (by simp [st9P]) rfl (by rw [hsz0]; exact (by decide : 57 < 65))), ⟨hw.1, by rw [upd_ne L (show (10 : Nat) ≠ 19 by decide)]; exact hw.2⟩⟩
        · intro L a w1 hI hi hd
          obtain ⟨fA, fn, fc, hp, hw⟩ := hI
          simp [Region.binds] at hd
          have e19 : a.tmps.getD 57 undef = (.bool true) := hp.pu (19, 57, (.bool true)) (by simp [st9P]) (by simp [hd])
          have f19 : a.tmps[57]?.getD undef = (.bool true) := by rw [← Array.getD_eq_getD_getElem?]; exact e19
          have t1 := hp.at_ 1 _ rfl z1
          have t1' := t1
          rw [Array.getD_eq_getD_getElem?] at t1'
          exact rstep_valW (wanted_of 19 57 true rfl rfl e19) (.agg s.cells) w1 (exec_load_row _ (.tmp 1) rfl (g) t1 _ _ _ (HX.out.below hw.1 HX.out.lt) Try.underlying34 rfl (by kernel_rfl)) ⟨fA, fn, fc, (hp.put 20 58 (.agg s.cells) (by simp [st9P]) (by simp [st9P]) rfl (by rw [hsz0]; exact (by decide : 58 < 65))), ⟨hw.1, by rw [upd_ne L (show (10 : Nat) ≠ 20 by decide)]; exact hw.2⟩⟩
        · intro L a w1 hI hi hd
          obtain ⟨fA, fn, fc, hp, hw⟩ := hI
          simp [Region.binds] at hd
          have e19 : a.tmps.getD 57 undef = (.bool true) := hp.pu (19, 57, (.bool true)) (by simp [st9P]) (by simp [hd])
          have f19 : a.tmps[57]?.getD undef = (.bool true) := by rw [← Array.getD_eq_getD_getElem?]; exact e19
          have t5 := hp.at_ 5 _ rfl z5
          have t5' := t5
          rw [Array.getD_eq_getD_getElem?] at t5'
          exact rstep_valW (wanted_of 19 57 true rfl rfl e19) (.agg y.cells) w1 (exec_load_row _ (.tmp 5) rfl (g6) t5 _ _ _ (HY6.out.below hw.1 HY6.out.lt) Try.underlying34 rfl (by kernel_rfl)) ⟨fA, fn, fc, (hp.put 21 59 (.agg y.cells) (by simp [st9P]) (by simp [st9P]) rfl (by rw [hsz0]; exact (by decide : 59 < 65))), ⟨hw.1, by rw [upd_ne L (show (10 : Nat) ≠ 21 by decide)]; exact hw.2⟩⟩
        · intro L a w1 hI hi hd
          obtain ⟨fA, fn, fc, hp, hw⟩ := hI
          simp [Region.binds] at hd
          have e19 : a.tmps.getD 57 undef = (.bool true) := hp.pu (19, 57, (.bool true)) (by simp [st9P]) (by simp [hd])
          have f19 : a.tmps[57]?.getD undef = (.bool true) := by rw [← Array.getD_eq_getD_getElem?]; exact e19
          have e20 : a.tmps.getD 58 undef = (.agg s.cells) := hp.pu (20, 58, (.agg s.cells)) (by simp [st9P]) (by simp [hd])
          have f20 : a.tmps[58]?.getD undef = (.agg s.cells) := by rw [← Array.getD_eq_getD_getElem?]; exact e20
          have e21 : a.tmps.getD 59 undef = (.agg y.cells) := hp.pu (21, 59, (.agg y.cells)) (by simp [st9P]) (by simp [hd])
          have f21 : a.tmps[59]?.getD undef = (.agg y.cells) := by rw [← Array.getD_eq_getD_getElem?]; exact e21
          refine rstep_callW (wanted_of 19 57 true rfl rfl e19) 20 #[(.agg s.cells), (.agg y.cells)] (by go_simp) ?_
          refine (sametell_any s y w1 (HS.out.below hw.1) (HY.out.below hw.1)).mono ?_
          rintro e w2 ⟨rfl, hb2⟩
          rw [HYX.out, RepM.same_refl]
          exact ⟨fA, fn, fc, (hp.put 22 60 (.bool true) (by simp [st9P]) (by simp [st9P]) rfl (by rw [hsz0]; exact (by decide : 60 < 65))), ⟨below_join hw.1 hb2, by rw [upd_ne L (show (10 : Nat) ≠ 22 by decide)]; exact fun q => ⟨(hw.2 q).1.below hb2, (hw.2 q).2⟩⟩⟩
        · intro L a w1 hI hi hd
          obtain ⟨fA, fn, fc, hp, hw⟩ := hI
          simp [Region.binds] at hd
          have e19 : a.tmps.getD 57 undef = (.bool true) := hp.pu (19, 57, (.bool true)) (by simp [st9P]) (by simp [hd])
          have f19 : a.tmps[57]?.getD undef = (.bool true) := by rw [← Array.getD_eq_getD_getElem?]; exact e19
          have e22 : a.tmps.getD 60 undef = (.bool true) := hp.pu (22, 60, (.bool true)) (by simp [st9P]) (by simp [hd])
          have f22 : a.tmps[60]?.getD undef = (.bool true) := by rw [← Array.getD_eq_getD_getElem?]; exact e22
          exact rstep_valW (wanted_none rfl _) (.bool true) w1 (by go_simp) ⟨fA, fn, fc, (hp.put 23 61 (.bool true) (by simp [st9P]) (by simp [st9P]) rfl (by rw [hsz0]; exact (by decide : 61 < 65))), ⟨hw.1, by rw [upd_ne L (show (10 : Nat) ≠ 23 by decide)]; exact hw.2⟩⟩
        · intro L a w1 hI hi hd
          obtain ⟨fA, fn, fc, hp, hw⟩ := hI
          simp [Region.binds] at hd
          have e23 : a.tmps.getD 61 undef = (.bool true) := hp.pu (23, 61, (.bool true)) (by simp [st9P]) (by simp [hd])
          have f23 : a.tmps[61]?.getD undef = (.bool true) := by rw [← Array.getD_eq_getD_getElem?]; exact e23
          exact rstep_valW (wanted_none rfl _) (.bool true) w1 (by go_simp) ⟨fA, fn, fc, (hp.put 24 62 (.bool true) (by simp [st9P]) (by simp [st9P]) rfl (by rw [hsz0]; exact (by decide : 62 < 65))), ⟨hw.1, by rw [upd_ne L (show (10 : Nat) ≠ 24 by decide)]; exact hw.2⟩⟩
        · intro L a w1 hI hi hd
          obtain ⟨fA, fn, fc, hp, hw⟩ := hI
          simp [Region.binds] at hd
          have e24 : a.tmps.getD 62 undef = (.bool true) := hp.pu (24, 62, (.bool true)) (by simp [st9P]) (by simp [hd])
          have f24 : a.tmps[62]?.getD undef = (.bool true) := by rw [← Array.getD_eq_getD_getElem?]; exact e24
          refine rstep_callW (wanted_of 24 62 true rfl rfl e24) 9 #[] (by go_simp) ?_
          refine (known22_any w1).mono ?_
          rintro e w2 ⟨rfl, hb2⟩
          exact ⟨fA, fn, fc, (hp.put 25 63 (.bool true) (by simp [st9P]) (by simp [st9P]) rfl (by rw [hsz0]; exact (by decide : 63 < 65))), ⟨below_join hw.1 hb2, by rw [upd_ne L (show (10 : Nat) ≠ 25 by decide)]; exact fun q => ⟨(hw.2 q).1.below hb2, (hw.2 q).2⟩⟩⟩
        · intro L a w1 hI hi hd
          obtain ⟨fA, fn, fc, hp, hw⟩ := hI
          simp [Region.binds] at hd
          have e24 : a.tmps.getD 62 undef = (.bool true) := hp.pu (24, 62, (.bool true)) (by simp [st9P]) (by simp [hd])
          have f24 : a.tmps[62]?.getD undef = (.bool true) := by rw [← Array.getD_eq_getD_getElem?]; exact e24
          have e25 : a.tmps.getD 63 undef = (.bool true) := hp.pu (25, 63, (.bool true)) (by simp [st9P]) (by simp [hd])
          have f25 : a.tmps[63]?.getD undef = (.bool true) := by rw [← Array.getD_eq_getD_getElem?]; exact e25
          exact rstep_valW (wanted_none rfl _) (.bool true) w1 (by go_simp) ⟨fA, fn, fc, (hp.put 26 64 (.bool true) (by simp [st9P]) (by simp [st9P]) rfl (by rw [hsz0]; exact (by decide : 64 < 65))), ⟨hw.1, by rw [upd_ne L (show (10 : Nat) ≠ 26 by decide)]; exact hw.2⟩⟩
        · intro L a w1 hI hi hd
          obtain ⟨fA, fn, fc, hp, hw⟩ := hI
          simp [Region.binds] at hd
          have e26 : a.tmps.getD 64 undef = (.bool true) := hp.pu (26, 64, (.bool true)) (by simp [st9P]) (by simp [hd])
          have f26 : a.tmps[64]?.getD undef = (.bool true) := by rw [← Array.getD_eq_getD_getElem?]; exact e26
          exact rstep_valW (wanted_none rfl _) (.bool true) w1 (by go_simp) ⟨fA, fn, fc, (hp.put 27 2 (.bool true) (by simp [st9P]) (by simp [st9P]) rfl (by rw [hsz0]; exact (by decide : 2 < 65))), ⟨hw.1, by rw [upd_ne L (show (10 : Nat) ≠ 27 by decide)]; exact hw.2⟩⟩
      rintro L a W0 ⟨fA, fn, fc, hp, hw⟩ hL
      have e27 : a.tmps.getD 2 undef = (.bool true) := hp.pu (27, 2, _) (by simp [st9P]) (hL 27 (by simp))
      have B10 := Lib.hid (below_join B9.out hw.1)
      clear hw
      rw [hp.eq]
      refine of_assigns (P := Try.prog) _ _ _ _ ?_
      rw [ha0.out]
      simp only [asgs, List.map, e27]
      generalize a.tmps.getD 38 undef = u38
      generalize a.tmps.getD 39 undef = u39
      generalize a.tmps.getD 40 undef = u40
      generalize a.tmps.getD 41 undef = u41
      generalize a.tmps.getD 42 undef = u42
      generalize a.tmps.getD 43 undef = u43
      generalize a.tmps.getD 44 undef = u44
      generalize a.tmps.getD 45 undef = u45
      generalize a.tmps.getD 46 undef = u46
      generalize a.tmps.getD 47 undef = u47
      generalize a.tmps.getD 48 undef = u48
      generalize a.tmps.getD 49 undef = u49
      generalize a.tmps.getD 50 undef = u50
      generalize a.tmps.getD 51 undef = u51
      generalize a.tmps.getD 52 undef = u52
      generalize a.tmps.getD 53 undef = u53
      generalize a.tmps.getD 54 undef = u54
      generalize a.tmps.getD 55 undef = u55
      generalize a.tmps.getD 56 undef = u56
      generalize a.tmps.getD 57 undef = u57
      generalize a.tmps.getD 58 undef = u58
      generalize a.tmps.getD 59 undef = u59
      generalize a.tmps.getD 60 undef = u60
      generalize a.tmps.getD 61 undef = u61
      generalize a.tmps.getD 62 undef = u62
      generalize a.tmps.getD 63 undef = u63
      generalize a.tmps.getD 64 undef = u64
      clear hp hL hsz0 e27 z3 z4 z6 z1 z5
      clear ha0
      go_wp2
      go_ret
      exact ⟨rfl, B10.out⟩
end Go.Proofs.Ytaadfalklddhcaa
