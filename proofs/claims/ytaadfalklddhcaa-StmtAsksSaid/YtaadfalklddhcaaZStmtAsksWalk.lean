/-
  The walk of StmtAsks: it returns true and changes nothing that was there.
  Conditions: the request's lists lie in memory.
-/
import Derived.Test.YtaadfalklddhcaaZStmK1
import Derived.Test.YtaadfalklddhcaaZStmS2
import Derived.Test.YtaadfalklddhcaaZStmS3
import Derived.Test.YtaadfalklddhcaaZStmS4
import Derived.Test.YtaadfalklddhcaaZStmA2
namespace Go.Proofs.Ytaadfalklddhcaa
open Go.RowKit Go.Sort Go.Lib
set_option linter.unusedVariables false
set_option linter.unusedSimpArgs false
def sa5P (g g3 : Nat) (s t : Rqv) (bv : Bool) : List (Nat × Nat × Value) := [(0, 19, (.agg t.cells)), (1, 20, (.bool bv)), (2, 21, (.agg s.cells)), (3, 22, (.bool bv)), (4, 23, (.bool false)), (5, 24, (.bool false)), (6, 25, (.agg t.cells)), (7, 26, (.agg s.cells)), (8, 27, (.bool true)), (9, 28, (.bool false)), (10, 29, (.bool false))]
def sa10P (g g6 : Nat) (s y : Rqv) (bA : Option Addr) (bc : Nat) (FM : List UInt8) (fA : Option Addr) (fn fc : Nat) : List (Nat × Nat × Value) := [(0, 48, (.int .i64 0)), (1, 49, (.bool false)), (2, 50, (.bool false)), (3, 51, (.int .i64 0)), (4, 52, (.bool false)), (5, 53, (.bool false)), (6, 54, (.bool false)), (7, 55, (.slice bA FM.length bc)), (8, 56, (.string (str FM))), (9, 57, (.agg s.cells)), (10, 58, (.slice fA fn fc)), (11, 59, (.string (str FM))), (12, 60, (.bool false)), (13, 61, (.bool false)), (14, 62, (.bool false)), (15, 63, (.agg s.cells)), (16, 64, (.agg y.cells)), (17, 65, (.bool true)), (18, 66, (.bool false)), (19, 67, (.bool false))]
theorem own_lt {w : World} {base c : Nat} {A : Option Addr} {l : List UInt8} (h : Own w base A c l) (a : Addr) (ha : A = some a) : a.block < w.heap.size := by
  rcases h.2 with ⟨hv, _⟩ | ⟨g', cap, cur, hv, hb, hg, _⟩
  · injection hv with e; rw [e] at ha; cases ha
  · injection hv with e; rw [e] at ha; injection ha with ha; subst ha; exact (Array.getElem?_eq_some_iff.1 hg).1
/-- What is owned stays owned where only new memory is written. -/
theorem own_on {w w' : World} {base c : Nat} {A : Option Addr} {l : List UInt8} (h : Own w base A c l) (hb : Below w.heap.size w w') : Own w' base A c l := h.below hb
theorem inc_u8 (u : UInt8) : IntKind.u8.wrap ((u.toNat : Int) + 1) = ((u + 1).toNat : Int) := by
  rw [IntKind.wrap_u8, UInt8.toNat_add]
  simp
set_option maxRecDepth 100000 in
set_option maxHeartbeats 16000000 in
theorem stmtAsks_walk (s : Rqv) (w : World) (hs : s.At w) :
    Calls Try.prog 6 #[.agg s.cells] w fun e w' => e = .returned (.bool true) ∧ Below w.heap.size w w' := by
  have HS0 := Lib.hid hs
  clear hs
  have b0 : Below w.heap.size w (w.alloc (.cells s.cells 42)) := (Below.refl _ _).alloc (Nat.le_refl _) _
  have U1 := Blk.new w 42 s.cells
  go_enter Try.func6, Try.ntmps6
  go_upto_region 1 with fail
  have HS1 := Lib.hid (HS0.out.below b0)
  generalize w.alloc (.cells s.cells 42) = w0 at *
  obtain ⟨g, hg⟩ : ∃ g, w.heap.size = g := ⟨_, rfl⟩
  rw [hg] at U1
  simp only [hg]
  have HG := Lib.hid hg
  have B0 := Lib.hid b0
  clear hg b0
  go_wp2_with (first | (refine wpl_load_row rfl _ (.tmp 1) rfl (g) (by go_simp) _ s.cells (0, 0) _ U1 Try.underlying42 rfl (by kernel_rfl) ?_))
  refine (large_any s w0).mono ?_
  rintro e w1 ⟨r, rfl, hsm, hb⟩
  have X1 := U1.below hb U1.lt
  have B1 := Lib.hid (below_join B0.out hb)
  have HS2 := Lib.hid (HS1.out.below hb)
  clear hb U1 B0 HS1
  cases r with
  | true =>
    go_wp2_with fail
    refine (known22_any _).mono ?_
    rintro e wz ⟨rfl, hbz⟩
    go_wp2
    go_ret
    exact ⟨rfl, below_join B1.out hbz⟩
  | false =>
    have HSM := Lib.hid (hsm rfl)
    clear hsm
    go_wp2_with (first | (refine wpl_load_row rfl _ (.tmp 1) rfl (g) (by go_simp) _ s.cells (0, 0) _ X1 Try.underlying42 rfl (by kernel_rfl) ?_))
    refine (own_any s w1 HS2.out HSM.out).mono ?_
    rintro e w2 ⟨t, rfl, htx, hat, hb⟩
    have HTX := Lib.hid htx
    have h1 : t.cells.all (·.oneCell') = true := by simp [Rqv.cells, rqC, Value.oneCell']
    have V3 := Blk.new w2 42 #[.int .i64 0, .int .u64 0, .slice none 0 0, .slice none 0 0, .int .u64 0, .int .u64 0, .int .i64 0, .slice none 0 0, .slice none 0 0, .int .i64 0]
    have hba : Below w2.heap.size w2 (w2.alloc (.cells #[.int .i64 0, .int .u64 0, .slice none 0 0, .slice none 0 0, .int .u64 0, .int .u64 0, .int .i64 0, .slice none 0 0, .slice none 0 0, .int .i64 0] 42)) := (Below.refl _ _).alloc (Nat.le_refl _) _
    have hbs : Below w2.heap.size w2 ((w2.alloc (.cells #[.int .i64 0, .int .u64 0, .slice none 0 0, .slice none 0 0, .int .u64 0, .int .u64 0, .int .i64 0, .slice none 0 0, .slice none 0 0, .int .i64 0] 42)).setRow w2.heap.size t.cells) := below_grown hba (grownBy_setRow _ _ _) (by simp) (Nat.le_refl _)
    have hbb := below_join hb hbs
    have HX3 := Lib.hid (X1.below hbb X1.lt)
    have B3 := Lib.hid (below_join B1.out hbb)
    have HS3 := Lib.hid (HS2.out.below hbb)
    have HT0 := Lib.hid (hat.below hbs)
    have HT30 := Lib.hid (V3.setRow_ t.cells)
    clear htx hat hb hba hbs hbb X1 B1 HS2
    go_simp
    iterate 4 go_step
    refine wpList_store_row rfl _ (.tmp 3) (.tmp 13) rfl w2.heap.size t.cells (by go_simp) (by go_simp) _ _ V3 (by kernel_rfl) rfl h1 ?_
    go_upto_region 4 with fail
    clear V3 h1
    generalize (w2.alloc (.cells #[.int .i64 0, .int .u64 0, .slice none 0 0, .slice none 0 0, .int .u64 0, .int .u64 0, .int .i64 0, .slice none 0 0, .slice none 0 0, .int .i64 0] 42)).setRow w2.heap.size t.cells = w3 at *
    generalize w2.heap.size = g3 at *
    have ht3 := HT30.out
    go_wp2_with (first | (refine wpl_load_row rfl _ (.tmp 3) rfl (g3) (by go_simp) _ t.cells (0, 0) _ ht3 Try.underlying42 rfl (by kernel_rfl) ?_))
    clear ht3
    obtain ⟨bv, hbv⟩ : ∃ bv, StmM.may s.x = bv := ⟨_, rfl⟩
    have HMB := Lib.hid hbv
    have HASK := ask_any t w3 HT0.out
    rw [HTX.out, hbv] at HASK
    clear hbv
    refine HASK.mono ?_
    clear HASK
    cases bv with
    | false =>
      rintro e w4 ⟨rfl, hb⟩
      have HX := Lib.hid (HX3.out.below hb HX3.out.lt)
      have B4 := Lib.hid (below_join B3.out hb)
      have HS := Lib.hid (HS3.out.below hb)
      have HT := Lib.hid (HT0.out.below hb)
      have HT3 := Lib.hid (HT30.out.below hb HT30.out.lt)
      clear hb HX3 B3 HS3 HT0 HT30
      go_upto_region 5 with fail
      refine wp_named fun a0 ha0 => ?_
      have z1 : a0.tmps.getD 1 undef = (.pointer (some ⟨g, 0, none⟩)) := by rw [ha0.out]; rfl
      have z3 : a0.tmps.getD 3 undef = (.pointer (some ⟨g3, 0, none⟩)) := by rw [ha0.out]; rfl
      have hsz0 : a0.tmps.size = 86 := by rw [ha0.out]; rfl
      refine wp_region_invB _ (by kernel_rfl) (fun L a wv => PIF a0 [19, 20, 21, 22, 23, 24, 25, 26, 27, 28, 29] (sa5P g g3 s t false) L a ∧ Below w4.heap.size w4 wv) (by kernel_rfl) ?_ ?_ ?_
      · exact ⟨PIF.start _ _ _, ⟨rfl, rfl, rfl, Nat.le_refl _, fun _ _ => rfl⟩⟩
      rotate_left
      · as_aux_lemma =>
        refine ⟨?_, ?_, ?_, ?_, ?_, ?_, ?_, ?_, ?_, ?_, ?_, trivial⟩
        · intro L a w1 hI hi hd
          obtain ⟨hp, hw⟩ := hI
          have t3 := hp.at_ 3 _ rfl z3
          have t3' := t3
          rw [Array.getD_eq_getD_getElem?] at t3'
          exact rstep_valW (wanted_none rfl _) (.agg t.cells) w1 (exec_load_row _ (.tmp 3) rfl (g3) t3 _ _ _ (HT3.out.below hw HT3.out.lt) Try.underlying42 rfl (by kernel_rfl)) ⟨(hp.put 0 19 (.agg t.cells) (by simp [sa5P]) (by simp [sa5P]) rfl (by rw [hsz0]; exact (by decide : 19 < 86))), hw⟩
        · intro L a w1 hI hi hd
          obtain ⟨hp, hw⟩ := hI
          simp [Region.binds] at hd
          have e0 : a.tmps.getD 19 undef = (.agg t.cells) := hp.pu (0, 19, (.agg t.cells)) (by simp [sa5P]) (by simp [hd])
          have f0 : a.tmps[19]?.getD undef = (.agg t.cells) := by rw [← Array.getD_eq_getD_getElem?]; exact e0
          refine rstep_callW (wanted_none rfl _) 15 #[(.agg t.cells)] (by go_simp) ?_
          refine (mayask_any t w1 (HT.out.below hw)).mono ?_
          rintro e w2 ⟨rfl, hb2⟩
          rw [HTX.out, HMB.out]
          exact ⟨(hp.put 1 20 (.bool false) (by simp [sa5P]) (by simp [sa5P]) rfl (by rw [hsz0]; exact (by decide : 20 < 86))), hw.trans (hb2.mono hw.size)⟩
        · intro L a w1 hI hi hd
          obtain ⟨hp, hw⟩ := hI
          have t1 := hp.at_ 1 _ rfl z1
          have t1' := t1
          rw [Array.getD_eq_getD_getElem?] at t1'
          exact rstep_valW (wanted_none rfl _) (.agg s.cells) w1 (exec_load_row _ (.tmp 1) rfl (g) t1 _ _ _ (HX.out.below hw HX.out.lt) Try.underlying42 rfl (by kernel_rfl)) ⟨(hp.put 2 21 (.agg s.cells) (by simp [sa5P]) (by simp [sa5P]) rfl (by rw [hsz0]; exact (by decide : 21 < 86))), hw⟩
        · intro L a w1 hI hi hd
          obtain ⟨hp, hw⟩ := hI
          simp [Region.binds] at hd
          have e2 : a.tmps.getD 21 undef = (.agg s.cells) := hp.pu (2, 21, (.agg s.cells)) (by simp [sa5P]) (by simp [hd])
          have f2 : a.tmps[21]?.getD undef = (.agg s.cells) := by rw [← Array.getD_eq_getD_getElem?]; exact e2
          refine rstep_callW (wanted_none rfl _) 22 #[(.agg s.cells)] (by go_simp) ?_
          refine (refmay22_any s w1 (HS.out.below hw)).mono ?_
          rintro e w2 ⟨rfl, hb2⟩
          rw [HMB.out]
          exact ⟨(hp.put 3 22 (.bool false) (by simp [sa5P]) (by simp [sa5P]) rfl (by rw [hsz0]; exact (by decide : 22 < 86))), hw.trans (hb2.mono hw.size)⟩
        · intro L a w1 hI hi hd
          obtain ⟨hp, hw⟩ := hI
          simp [Region.binds] at hd
          have e1 : a.tmps.getD 20 undef = (.bool false) := hp.pu (1, 20, (.bool false)) (by simp [sa5P]) (by simp [hd])
          have f1 : a.tmps[20]?.getD undef = (.bool false) := by rw [← Array.getD_eq_getD_getElem?]; exact e1
          have e3 : a.tmps.getD 22 undef = (.bool false) := hp.pu (3, 22, (.bool false)) (by simp [sa5P]) (by simp [hd])
          have f3 : a.tmps[22]?.getD undef = (.bool false) := by rw [← Array.getD_eq_getD_getElem?]; exact e3
          have hbb : (false != false) = false := bne_self_eq_false false
          exact rstep_valW (wanted_none rfl _) (.bool false) w1 (by go_simp) ⟨(hp.put 4 23 (.bool false) (by simp [sa5P]) (by simp [sa5P]) rfl (by rw [hsz0]; exact (by decide : 23 < 86))), hw⟩
        · intro L a w1 hI hi hd
          obtain ⟨hp, hw⟩ := hI
          simp [Region.binds] at hd
          have e4 : a.tmps.getD 23 undef = (.bool false) := hp.pu (4, 23, (.bool false)) (by simp [sa5P]) (by simp [hd])
          have f4 : a.tmps[23]?.getD undef = (.bool false) := by rw [← Array.getD_eq_getD_getElem?]; exact e4
          exact rstep_valW (wanted_none rfl _) (.bool false) w1 (by go_simp) ⟨(hp.put 5 24 (.bool false) (by simp [sa5P]) (by simp [sa5P]) rfl (by rw [hsz0]; exact (by decide : 24 < 86))), hw⟩
        · intro L a w1 hI hi hd
          obtain ⟨hp, hw⟩ := hI
          simp [Region.binds] at hd
          have e5 : a.tmps.getD 24 undef = (.bool false) := hp.pu (5, 24, (.bool false)) (by simp [sa5P]) (by simp [hd])
          have f5 : a.tmps[24]?.getD undef = (.bool false) := by rw [← Array.getD_eq_getD_getElem?]; exact e5
          have t3 := hp.at_ 3 _ rfl z3
          have t3' := t3
          rw [Array.getD_eq_getD_getElem?] at t3'
          exact rstep_valW (wanted_of 5 24 false rfl rfl e5) (.agg t.cells) w1 (exec_load_row _ (.tmp 3) rfl (g3) t3 _ _ _ (HT3.out.below hw HT3.out.lt) Try.underlying42 rfl (by kernel_rfl)) ⟨(hp.put 6 25 (.agg t.cells) (by simp [sa5P]) (by simp [sa5P]) rfl (by rw [hsz0]; exact (by decide : 25 < 86))), hw⟩
        · intro L a w1 hI hi hd
          obtain ⟨hp, hw⟩ := hI
          simp [Region.binds] at hd
          have e5 : a.tmps.getD 24 undef = (.bool false) := hp.pu (5, 24, (.bool false)) (by simp [sa5P]) (by simp [hd])
          have f5 : a.tmps[24]?.getD undef = (.bool false) := by rw [← Array.getD_eq_getD_getElem?]; exact e5
          have t1 := hp.at_ 1 _ rfl z1
          have t1' := t1
          rw [Array.getD_eq_getD_getElem?] at t1'
          exact rstep_valW (wanted_of 5 24 false rfl rfl e5) (.agg s.cells) w1 (exec_load_row _ (.tmp 1) rfl (g) t1 _ _ _ (HX.out.below hw HX.out.lt) Try.underlying42 rfl (by kernel_rfl)) ⟨(hp.put 7 26 (.agg s.cells) (by simp [sa5P]) (by simp [sa5P]) rfl (by rw [hsz0]; exact (by decide : 26 < 86))), hw⟩
        · intro L a w1 hI hi hd
          obtain ⟨hp, hw⟩ := hI
          simp [Region.binds] at hd
          have e5 : a.tmps.getD 24 undef = (.bool false) := hp.pu (5, 24, (.bool false)) (by simp [sa5P]) (by simp [hd])
          have f5 : a.tmps[24]?.getD undef = (.bool false) := by rw [← Array.getD_eq_getD_getElem?]; exact e5
          have e6 : a.tmps.getD 25 undef = (.agg t.cells) := hp.pu (6, 25, (.agg t.cells)) (by simp [sa5P]) (by simp [hd])
          have f6 : a.tmps[25]?.getD undef = (.agg t.cells) := by rw [← Array.getD_eq_getD_getElem?]; exact e6
          have e7 : a.tmps.getD 26 undef = (.agg s.cells) := hp.pu (7, 26, (.agg s.cells)) (by simp [sa5P]) (by simp [hd])
          have f7 : a.tmps[26]?.getD undef = (.agg s.cells) := by rw [← Array.getD_eq_getD_getElem?]; exact e7
          refine rstep_callW (wanted_of 5 24 false rfl rfl e5) 23 #[(.agg t.cells), (.agg s.cells)] (by go_simp) ?_
          refine (refsame22_any t s w1 (HT.out.below hw) (HS.out.below hw)).mono ?_
          rintro e w2 ⟨rfl, hb2⟩
          rw [HTX.out, StmM.same_refl]
          exact ⟨(hp.put 8 27 (.bool true) (by simp [sa5P]) (by simp [sa5P]) rfl (by rw [hsz0]; exact (by decide : 27 < 86))), hw.trans (hb2.mono hw.size)⟩
        · intro L a w1 hI hi hd
          obtain ⟨hp, hw⟩ := hI
          simp [Region.binds] at hd
          have e5 : a.tmps.getD 24 undef = (.bool false) := hp.pu (5, 24, (.bool false)) (by simp [sa5P]) (by simp [hd])
          have f5 : a.tmps[24]?.getD undef = (.bool false) := by rw [← Array.getD_eq_getD_getElem?]; exact e5
          have e8 : a.tmps.getD 27 undef = (.bool true) := hp.pu (8, 27, (.bool true)) (by simp [sa5P]) (by simp [hd])
          have f8 : a.tmps[27]?.getD undef = (.bool true) := by rw [← Array.getD_eq_getD_getElem?]; exact e8
          exact rstep_valW (wanted_of 5 24 false rfl rfl e5) (.bool false) w1 (by go_simp) ⟨(hp.put 9 28 (.bool false) (by simp [sa5P]) (by simp [sa5P]) rfl (by rw [hsz0]; exact (by decide : 28 < 86))), hw⟩
        · intro L a w1 hI hi hd
          obtain ⟨hp, hw⟩ := hI
          simp [Region.binds] at hd
          have e5 : a.tmps.getD 24 undef = (.bool false) := hp.pu (5, 24, (.bool false)) (by simp [sa5P]) (by simp [hd])
          have f5 : a.tmps[24]?.getD undef = (.bool false) := by rw [← Array.getD_eq_getD_getElem?]; exact e5
          have e9 : a.tmps.getD 28 undef = (.bool false) := hp.pu (9, 28, (.bool false)) (by simp [sa5P]) (by simp [hd])
          have f9 : a.tmps[28]?.getD undef = (.bool false) := by rw [← Array.getD_eq_getD_getElem?]; exact e9
          exact rstep_valW (wanted_none rfl _) (.bool false) w1 (by go_simp) ⟨(hp.put 10 29 (.bool false) (by simp [sa5P]) (by simp [sa5P]) rfl (by rw [hsz0]; exact (by decide : 29 < 86))), hw⟩
      rintro L a W0 ⟨hp, hw⟩ hL
      have e10 : a.tmps.getD 29 undef = (.bool false) := hp.pu (10, 29, _) (by simp [sa5P]) (hL 10 (by simp))
      have B5 := Lib.hid (below_join B4.out hw)
      have HSz := Lib.hid (HS.out.below hw)
      have HXz := Lib.hid (HX.out.below hw HX.out.lt)
      clear hw
      rw [hp.eq]
      refine of_assigns (P := Try.prog) _ _ _ _ ?_
      rw [ha0.out]
      simp only [asgs, List.map, e10]
      generalize a.tmps.getD 19 undef = u19
      generalize a.tmps.getD 20 undef = u20
      generalize a.tmps.getD 21 undef = u21
      generalize a.tmps.getD 22 undef = u22
      generalize a.tmps.getD 23 undef = u23
      generalize a.tmps.getD 24 undef = u24
      generalize a.tmps.getD 25 undef = u25
      generalize a.tmps.getD 26 undef = u26
      generalize a.tmps.getD 27 undef = u27
      generalize a.tmps.getD 28 undef = u28
      clear hp hL hsz0 e10 z1 z3
      clear ha0
      have hx := HXz.out
      go_wp2_with (first | (refine wpl_load_row rfl _ (.tmp 1) rfl (g) (by go_simp) _ s.cells (0, 0) _ hx Try.underlying42 rfl (by kernel_rfl) ?_))
      refine (refmay22_any s _ HSz.out).mono ?_
      rw [HMB.out]
      rintro e w6 ⟨rfl, hb⟩
      have B6 := Lib.hid (below_join B5.out hb)
      clear hb hx HX HXz HS HSz HT HT3 B4 B5
      go_wp2_with fail
      refine (known22_any _).mono ?_
      rintro e wz ⟨rfl, hbz⟩
      go_wp2
      go_ret
      exact ⟨rfl, below_join B6.out hbz⟩
    | true =>
      obtain ⟨FM, hFM⟩ : ∃ l, StmM.form s.x = l := ⟨_, rfl⟩
      rw [hFM]
      have HFM := Lib.hid hFM
      rintro e w4 ⟨bA, bn, bc, rfl, hn, hO, hb⟩
      obtain rfl : FM.length = bn := hn.out
      have HX := Lib.hid (HX3.out.below hb HX3.out.lt)
      have B4 := Lib.hid (below_join B3.out hb)
      have HS := Lib.hid (HS3.out.below hb)
      have HT := Lib.hid (HT0.out.below hb)
      have HT3 := Lib.hid (HT30.out.below hb HT30.out.lt)
      obtain ⟨b3, hb3⟩ : ∃ x, w3.heap.size = x := ⟨_, rfl⟩
      have HO := Lib.hid hO
      rw [hb3] at HO
      have HG3 : Hid (g < b3 ∧ w.heap.size ≤ b3) := Lib.hid ⟨by rw [← hb3]; exact HX3.out.lt, by rw [← hb3]; exact B3.out.size⟩
      have HLN : Hid (FM.length ≤ 140737488355328) := Lib.hid (by rw [← hFM]; have := StmM.form_length s.x; have := StmM.may_lens HMB.out; omega)
      clear hb HX3 B3 HS3 HT0 HT30 hn hO hb3 hFM
      go_upto_region 5 with fail
      refine wp_named fun a0 ha0 => ?_
      have z1 : a0.tmps.getD 1 undef = (.pointer (some ⟨g, 0, none⟩)) := by rw [ha0.out]; rfl
      have z3 : a0.tmps.getD 3 undef = (.pointer (some ⟨g3, 0, none⟩)) := by rw [ha0.out]; rfl
      have hsz0 : a0.tmps.size = 86 := by rw [ha0.out]; rfl
      refine wp_region_invB _ (by kernel_rfl) (fun L a wv => PIF a0 [19, 20, 21, 22, 23, 24, 25, 26, 27, 28, 29] (sa5P g g3 s t true) L a ∧ Below w4.heap.size w4 wv) (by kernel_rfl) ?_ ?_ ?_
      · exact ⟨PIF.start _ _ _, ⟨rfl, rfl, rfl, Nat.le_refl _, fun _ _ => rfl⟩⟩
      rotate_left
      · as_aux_lemma =>
        refine ⟨?_, ?_, ?_, ?_, ?_, ?_, ?_, ?_, ?_, ?_, ?_, trivial⟩
        · intro L a w1 hI hi hd
          obtain ⟨hp, hw⟩ := hI
          have t3 := hp.at_ 3 _ rfl z3
          have t3' := t3
          rw [Array.getD_eq_getD_getElem?] at t3'
          exact rstep_valW (wanted_none rfl _) (.agg t.cells) w1 (exec_load_row _ (.tmp 3) rfl (g3) t3 _ _ _ (HT3.out.below hw HT3.out.lt) Try.underlying42 rfl (by kernel_rfl)) ⟨(hp.put 0 19 (.agg t.cells) (by simp [sa5P]) (by simp [sa5P]) rfl (by rw [hsz0]; exact (by decide : 19 < 86))), hw⟩
        · intro L a w1 hI hi hd
          obtain ⟨hp, hw⟩ := hI
          simp [Region.binds] at hd
          have e0 : a.tmps.getD 19 undef = (.agg t.cells) := hp.pu (0, 19, (.agg t.cells)) (by simp [sa5P]) (by simp [hd])
          have f0 : a.tmps[19]?.getD undef = (.agg t.cells) := by rw [← Array.getD_eq_getD_getElem?]; exact e0
          refine rstep_callW (wanted_none rfl _) 15 #[(.agg t.cells)] (by go_simp) ?_
          refine (mayask_any t w1 (HT.out.below hw)).mono ?_
          rintro e w2 ⟨rfl, hb2⟩
          rw [HTX.out, HMB.out]
          exact ⟨(hp.put 1 20 (.bool true) (by simp [sa5P]) (by simp [sa5P]) rfl (by rw [hsz0]; exact (by decide : 20 < 86))), hw.trans (hb2.mono hw.size)⟩
        · intro L a w1 hI hi hd
          obtain ⟨hp, hw⟩ := hI
          have t1 := hp.at_ 1 _ rfl z1
          have t1' := t1
          rw [Array.getD_eq_getD_getElem?] at t1'
          exact rstep_valW (wanted_none rfl _) (.agg s.cells) w1 (exec_load_row _ (.tmp 1) rfl (g) t1 _ _ _ (HX.out.below hw HX.out.lt) Try.underlying42 rfl (by kernel_rfl)) ⟨(hp.put 2 21 (.agg s.cells) (by simp [sa5P]) (by simp [sa5P]) rfl (by rw [hsz0]; exact (by decide : 21 < 86))), hw⟩
        · intro L a w1 hI hi hd
          obtain ⟨hp, hw⟩ := hI
          simp [Region.binds] at hd
          have e2 : a.tmps.getD 21 undef = (.agg s.cells) := hp.pu (2, 21, (.agg s.cells)) (by simp [sa5P]) (by simp [hd])
          have f2 : a.tmps[21]?.getD undef = (.agg s.cells) := by rw [← Array.getD_eq_getD_getElem?]; exact e2
          refine rstep_callW (wanted_none rfl _) 22 #[(.agg s.cells)] (by go_simp) ?_
          refine (refmay22_any s w1 (HS.out.below hw)).mono ?_
          rintro e w2 ⟨rfl, hb2⟩
          rw [HMB.out]
          exact ⟨(hp.put 3 22 (.bool true) (by simp [sa5P]) (by simp [sa5P]) rfl (by rw [hsz0]; exact (by decide : 22 < 86))), hw.trans (hb2.mono hw.size)⟩
        · intro L a w1 hI hi hd
          obtain ⟨hp, hw⟩ := hI
          simp [Region.binds] at hd
          have e1 : a.tmps.getD 20 undef = (.bool true) := hp.pu (1, 20, (.bool true)) (by simp [sa5P]) (by simp [hd])
          have f1 : a.tmps[20]?.getD undef = (.bool true) := by rw [← Array.getD_eq_getD_getElem?]; exact e1
          have e3 : a.tmps.getD 22 undef = (.bool true) := hp.pu (3, 22, (.bool true)) (by simp [sa5P]) (by simp [hd])
          have f3 : a.tmps[22]?.getD undef = (.bool true) := by rw [← Array.getD_eq_getD_getElem?]; exact e3
          have hbb : (true != true) = false := bne_self_eq_false true
          exact rstep_valW (wanted_none rfl _) (.bool false) w1 (by go_simp) ⟨(hp.put 4 23 (.bool false) (by simp [sa5P]) (by simp [sa5P]) rfl (by rw [hsz0]; exact (by decide : 23 < 86))), hw⟩
        · intro L a w1 hI hi hd
          obtain ⟨hp, hw⟩ := hI
          simp [Region.binds] at hd
          have e4 : a.tmps.getD 23 undef = (.bool false) := hp.pu (4, 23, (.bool false)) (by simp [sa5P]) (by simp [hd])
          have f4 : a.tmps[23]?.getD undef = (.bool false) := by rw [← Array.getD_eq_getD_getElem?]; exact e4
          exact rstep_valW (wanted_none rfl _) (.bool false) w1 (by go_simp) ⟨(hp.put 5 24 (.bool false) (by simp [sa5P]) (by simp [sa5P]) rfl (by rw [hsz0]; exact (by decide : 24 < 86))), hw⟩
        · intro L a w1 hI hi hd
          obtain ⟨hp, hw⟩ := hI
          simp [Region.binds] at hd
          have e5 : a.tmps.getD 24 undef = (.bool false) := hp.pu (5, 24, (.bool false)) (by simp [sa5P]) (by simp [hd])
          have f5 : a.tmps[24]?.getD undef = (.bool false) := by rw [← Array.getD_eq_getD_getElem?]; exact e5
          have t3 := hp.at_ 3 _ rfl z3
          have t3' := t3
          rw [Array.getD_eq_getD_getElem?] at t3'
          exact rstep_valW (wanted_of 5 24 false rfl rfl e5) (.agg t.cells) w1 (exec_load_row _ (.tmp 3) rfl (g3) t3 _ _ _ (HT3.out.below hw HT3.out.lt) Try.underlying42 rfl (by kernel_rfl)) ⟨(hp.put 6 25 (.agg t.cells) (by simp [sa5P]) (by simp [sa5P]) rfl (by rw [hsz0]; exact (by decide : 25 < 86))), hw⟩
        · intro L a w1 hI hi hd
          obtain ⟨hp, hw⟩ := hI
          simp [Region.binds] at hd
          have e5 : a.tmps.getD 24 undef = (.bool false) := hp.pu (5, 24, (.bool false)) (by simp [sa5P]) (by simp [hd])
          have f5 : a.tmps[24]?.getD undef = (.bool false) := by rw [← Array.getD_eq_getD_getElem?]; exact e5
          have t1 := hp.at_ 1 _ rfl z1
          have t1' := t1
          rw [Array.getD_eq_getD_getElem?] at t1'
          exact rstep_valW (wanted_of 5 24 false rfl rfl e5) (.agg s.cells) w1 (exec_load_row _ (.tmp 1) rfl (g) t1 _ _ _ (HX.out.below hw HX.out.lt) Try.underlying42 rfl (by kernel_rfl)) ⟨(hp.put 7 26 (.agg s.cells) (by simp [sa5P]) (by simp [sa5P]) rfl (by rw [hsz0]; exact (by decide : 26 < 86))), hw⟩
        · intro L a w1 hI hi hd
          obtain ⟨hp, hw⟩ := hI
          simp [Region.binds] at hd
          have e5 : a.tmps.getD 24 undef = (.bool false) := hp.pu (5, 24, (.bool false)) (by simp [sa5P]) (by simp [hd])
          have f5 : a.tmps[24]?.getD undef = (.bool false) := by rw [← Array.getD_eq_getD_getElem?]; exact e5
          have e6 : a.tmps.getD 25 undef = (.agg t.cells) := hp.pu (6, 25, (.agg t.cells)) (by simp [sa5P]) (by simp [hd])
          have f6 : a.tmps[25]?.getD undef = (.agg t.cells) := by rw [← Array.getD_eq_getD_getElem?]; exact e6
          have e7 : a.tmps.getD 26 undef = (.agg s.cells) := hp.pu (7, 26, (.agg s.cells)) (by simp [sa5P]) (by simp [hd])
          have f7 : a.tmps[26]?.getD undef = (.agg s.cells) := by rw [← Array.getD_eq_getD_getElem?]; exact e7
          refine rstep_callW (wanted_of 5 24 false rfl rfl e5) 23 #[(.agg t.cells), (.agg s.cells)] (by go_simp) ?_
          refine (refsame22_any t s w1 (HT.out.below hw) (HS.out.below hw)).mono ?_
          rintro e w2 ⟨rfl, hb2⟩
          rw [HTX.out, StmM.same_refl]
          exact ⟨(hp.put 8 27 (.bool true) (by simp [sa5P]) (by simp [sa5P]) rfl (by rw [hsz0]; exact (by decide : 27 < 86))), hw.trans (hb2.mono hw.size)⟩
        · intro L a w1 hI hi hd
          obtain ⟨hp, hw⟩ := hI
          simp [Region.binds] at hd
          have e5 : a.tmps.getD 24 undef = (.bool false) := hp.pu (5, 24, (.bool false)) (by simp [sa5P]) (by simp [hd])
          have f5 : a.tmps[24]?.getD undef = (.bool false) := by rw [← Array.getD_eq_getD_getElem?]; exact e5
          have e8 : a.tmps.getD 27 undef = (.bool true) := hp.pu (8, 27, (.bool true)) (by simp [sa5P]) (by simp [hd])
          have f8 : a.tmps[27]?.getD undef = (.bool true) := by rw [← Array.getD_eq_getD_getElem?]; exact e8
          exact rstep_valW (wanted_of 5 24 false rfl rfl e5) (.bool false) w1 (by go_simp) ⟨(hp.put 9 28 (.bool false) (by simp [sa5P]) (by simp [sa5P]) rfl (by rw [hsz0]; exact (by decide : 28 < 86))), hw⟩
        · intro L a w1 hI hi hd
          obtain ⟨hp, hw⟩ := hI
          simp [Region.binds] at hd
          have e5 : a.tmps.getD 24 undef = (.bool false) := hp.pu (5, 24, (.bool false)) (by simp [sa5P]) (by simp [hd])
          have f5 : a.tmps[24]?.getD undef = (.bool false) := by rw [← Array.getD_eq_getD_getElem?]; exact e5
          have e9 : a.tmps.getD 28 undef = (.bool false) := hp.pu (9, 28, (.bool false)) (by simp [sa5P]) (by simp [hd])
          have f9 : a.tmps[28]?.getD undef = (.bool false) := by rw [← Array.getD_eq_getD_getElem?]; exact e9
          exact rstep_valW (wanted_none rfl _) (.bool false) w1 (by go_simp) ⟨(hp.put 10 29 (.bool false) (by simp [sa5P]) (by simp [sa5P]) rfl (by rw [hsz0]; exact (by decide : 29 < 86))), hw⟩
      rintro L a W0 ⟨hp, hw⟩ hL
      have e10 : a.tmps.getD 29 undef = (.bool false) := hp.pu (10, 29, _) (by simp [sa5P]) (hL 10 (by simp))
      have B5 := Lib.hid (below_join B4.out hw)
      have HSz := Lib.hid (HS.out.below hw)
      have HXz := Lib.hid (HX.out.below hw HX.out.lt)
      have HOz := Lib.hid (own_on HO.out hw)
      clear hw
      rw [hp.eq]
      refine of_assigns (P := Try.prog) _ _ _ _ ?_
      rw [ha0.out]
      simp only [asgs, List.map, e10]
      generalize a.tmps.getD 19 undef = u19
      generalize a.tmps.getD 20 undef = u20
      generalize a.tmps.getD 21 undef = u21
      generalize a.tmps.getD 22 undef = u22
      generalize a.tmps.getD 23 undef = u23
      generalize a.tmps.getD 24 undef = u24
      generalize a.tmps.getD 25 undef = u25
      generalize a.tmps.getD 26 undef = u26
      generalize a.tmps.getD 27 undef = u27
      generalize a.tmps.getD 28 undef = u28
      clear hp hL hsz0 e10 z1 z3
      clear ha0
      have hx := HXz.out
      go_wp2_with (first | (refine wpl_load_row rfl _ (.tmp 1) rfl (g) (by go_simp) _ s.cells (0, 0) _ hx Try.underlying42 rfl (by kernel_rfl) ?_))
      refine (refmay22_any s _ HSz.out).mono ?_
      rw [HMB.out]
      rintro e w6 ⟨rfl, hb⟩
      have HX6 := Lib.hid (HXz.out.below hb HXz.out.lt)
      have B6 := Lib.hid (below_join B5.out hb)
      have HS6 := Lib.hid (HSz.out.below hb)
      have HO6 := Lib.hid (own_on HOz.out hb)
      clear hb hx HX HXz HS HSz HT HT3 B4 B5 HO HOz
      go_wp2_with fail
      have HRD := readask_any bA bc FM w6 HO6.out.row HO6.out.le.1 HO6.out.le.2 HLN.out
      rw [← HFM.out, StmM.read_form HS6.out.ok HMB.out, HFM.out] at HRD
      refine HRD.mono ?_
      clear HRD
      rintro e w7 ⟨y, rfl, hyx, hya, hyf, hb⟩
      obtain ⟨b6, hb6⟩ : ∃ x, w6.heap.size = x := ⟨_, rfl⟩
      rw [hb6] at hyf
      have HYF := Lib.hid hyf
      have HYX := Lib.hid hyx
      have h1 : y.cells.all (·.oneCell') = true := by simp [Rqv.cells, rqC, Value.oneCell']
      have V3 := Blk.new w7 42 #[.int .i64 0, .int .u64 0, .slice none 0 0, .slice none 0 0, .int .u64 0, .int .u64 0, .int .i64 0, .slice none 0 0, .slice none 0 0, .int .i64 0]
      have hba : Below w7.heap.size w7 (w7.alloc (.cells #[.int .i64 0, .int .u64 0, .slice none 0 0, .slice none 0 0, .int .u64 0, .int .u64 0, .int .i64 0, .slice none 0 0, .slice none 0 0, .int .i64 0] 42)) := (Below.refl _ _).alloc (Nat.le_refl _) _
      have hbs : Below w7.heap.size w7 ((w7.alloc (.cells #[.int .i64 0, .int .u64 0, .slice none 0 0, .slice none 0 0, .int .u64 0, .int .u64 0, .int .i64 0, .slice none 0 0, .slice none 0 0, .int .i64 0] 42)).setRow w7.heap.size y.cells) := below_grown hba (grownBy_setRow _ _ _) (by simp) (Nat.le_refl _)
      have hbb := below_join hb hbs
      have HX := Lib.hid (HX6.out.below hbb HX6.out.lt)
      have B9 := Lib.hid (below_join B6.out hbb)
      have HS := Lib.hid (HS6.out.below hbb)
      have HY := Lib.hid (hya.below hbs)
      have HY6 := Lib.hid (V3.setRow_ y.cells)
      have HO9 := Lib.hid (own_on HO6.out hbb)
      have HB9 := Lib.hid HO9.out.row
      have HGB : Hid ((∀ a, bA = some a → a.block < b6) ∧ b6 ≤ w7.heap.size) := Lib.hid ⟨fun a q => by rw [← hb6]; exact own_lt HO6.out a q, by rw [← hb6]; exact hb.size⟩
      clear hyx hya hyf hb hba hbs hbb HX6 B6 HS6 HO6 hb6
      go_simp
      iterate 13 go_step
      refine wpList_store_row rfl _ (.tmp 6) (.tmp 46) rfl w7.heap.size y.cells (by go_simp) (by go_simp) _ _ V3 (by kernel_rfl) rfl h1 ?_
      go_upto_region 10 with fail
      clear V3 h1
      generalize (w7.alloc (.cells #[.int .i64 0, .int .u64 0, .slice none 0 0, .slice none 0 0, .int .u64 0, .int .u64 0, .int .i64 0, .slice none 0 0, .slice none 0 0, .int .i64 0] 42)).setRow w7.heap.size y.cells = w9 at *
      generalize w7.heap.size = g6 at *
      refine wp_named fun a0 ha0 => ?_
      have z4 : a0.tmps.getD 4 undef = (.slice bA FM.length bc) := by rw [ha0.out]; rfl
      have z5 : a0.tmps.getD 5 undef = (.int .i64 0) := by rw [ha0.out]; rfl
      have z7 : a0.tmps.getD 7 undef = (.int .i64 0) := by rw [ha0.out]; rfl
      have z1 : a0.tmps.getD 1 undef = (.pointer (some ⟨g, 0, none⟩)) := by rw [ha0.out]; rfl
      have z6 : a0.tmps.getD 6 undef = (.pointer (some ⟨g6, 0, none⟩)) := by rw [ha0.out]; rfl
      have hsz0 : a0.tmps.size = 86 := by rw [ha0.out]; rfl
      refine wp_region_invB _ (by kernel_rfl) (fun L a wv => ∃ fA fn fc, PIF a0 [48, 49, 50, 51, 52, 53, 54, 55, 56, 57, 58, 59, 60, 61, 62, 63, 64, 65, 66, 67] (sa10P g g6 s y bA bc FM fA fn fc) L a ∧ (Below w9.heap.size w9 wv ∧ (L 10 = true → Row wv fA (bs FM) ∧ FM.length = fn))) (by kernel_rfl) ?_ ?_ ?_
      · exact ⟨none, 0, 0, PIF.start _ _ _, ⟨rfl, rfl, rfl, Nat.le_refl _, fun _ _ => rfl⟩, fun q => by cases q⟩
      rotate_left
      · as_aux_lemma =>
        refine ⟨?_, ?_, ?_, ?_, ?_, ?_, ?_, ?_, ?_, ?_, ?_, ?_, ?_, ?_, ?_, ?_, ?_, ?_, ?_, ?_, trivial⟩
        · intro L a w1 hI hi hd
          obtain ⟨fA, fn, fc, hp, hw⟩ := hI
          have t5 := hp.at_ 5 _ rfl z5
          have t5' := t5
          rw [Array.getD_eq_getD_getElem?] at t5'
          exact rstep_valW (wanted_none rfl _) (.int .i64 0) w1 (by go_simp) ⟨fA, fn, fc, (hp.put 0 48 (.int .i64 0) (by simp [sa10P]) (by simp [sa10P]) rfl (by rw [hsz0]; exact (by decide : 48 < 86))), ⟨hw.1, by rw [upd_ne L (show (10 : Nat) ≠ 0 by decide)]; exact hw.2⟩⟩
        · intro L a w1 hI hi hd
          obtain ⟨fA, fn, fc, hp, hw⟩ := hI
          simp [Region.binds] at hd
          have e0 : a.tmps.getD 48 undef = (.int .i64 0) := hp.pu (0, 48, (.int .i64 0)) (by simp [sa10P]) (by simp [hd])
          have f0 : a.tmps[48]?.getD undef = (.int .i64 0) := by rw [← Array.getD_eq_getD_getElem?]; exact e0
          exact rstep_valW (wanted_none rfl _) (.bool false) w1 (by go_simp) ⟨fA, fn, fc, (hp.put 1 49 (.bool false) (by simp [sa10P]) (by simp [sa10P]) rfl (by rw [hsz0]; exact (by decide : 49 < 86))), ⟨hw.1, by rw [upd_ne L (show (10 : Nat) ≠ 1 by decide)]; exact hw.2⟩⟩
        · intro L a w1 hI hi hd
          obtain ⟨fA, fn, fc, hp, hw⟩ := hI
          simp [Region.binds] at hd
          have e1 : a.tmps.getD 49 undef = (.bool false) := hp.pu (1, 49, (.bool false)) (by simp [sa10P]) (by simp [hd])
          have f1 : a.tmps[49]?.getD undef = (.bool false) := by rw [← Array.getD_eq_getD_getElem?]; exact e1
          exact rstep_valW (wanted_none rfl _) (.bool false) w1 (by go_simp) ⟨fA, fn, fc, (hp.put 2 50 (.bool false) (by simp [sa10P]) (by simp [sa10P]) rfl (by rw [hsz0]; exact (by decide : 50 < 86))), ⟨hw.1, by rw [upd_ne L (show (10 : Nat) ≠ 2 by decide)]; exact hw.2⟩⟩
        · intro L a w1 hI hi hd
          obtain ⟨fA, fn, fc, hp, hw⟩ := hI
          simp [Region.binds] at hd
          have e2 : a.tmps.getD 50 undef = (.bool false) := hp.pu (2, 50, (.bool false)) (by simp [sa10P]) (by simp [hd])
          have f2 : a.tmps[50]?.getD undef = (.bool false) := by rw [← Array.getD_eq_getD_getElem?]; exact e2
          have t7 := hp.at_ 7 _ rfl z7
          have t7' := t7
          rw [Array.getD_eq_getD_getElem?] at t7'
          exact rstep_valW (wanted_of 2 50 false rfl rfl e2) (.int .i64 0) w1 (by go_simp) ⟨fA, fn, fc, (hp.put 3 51 (.int .i64 0) (by simp [sa10P]) (by simp [sa10P]) rfl (by rw [hsz0]; exact (by decide : 51 < 86))), ⟨hw.1, by rw [upd_ne L (show (10 : Nat) ≠ 3 by decide)]; exact hw.2⟩⟩
        · intro L a w1 hI hi hd
          obtain ⟨fA, fn, fc, hp, hw⟩ := hI
          simp [Region.binds] at hd
          have e2 : a.tmps.getD 50 undef = (.bool false) := hp.pu (2, 50, (.bool false)) (by simp [sa10P]) (by simp [hd])
          have f2 : a.tmps[50]?.getD undef = (.bool false) := by rw [← Array.getD_eq_getD_getElem?]; exact e2
          have e3 : a.tmps.getD 51 undef = (.int .i64 0) := hp.pu (3, 51, (.int .i64 0)) (by simp [sa10P]) (by simp [hd])
          have f3 : a.tmps[51]?.getD undef = (.int .i64 0) := by rw [← Array.getD_eq_getD_getElem?]; exact e3
          exact rstep_valW (wanted_of 2 50 false rfl rfl e2) (.bool false) w1 (by go_simp) ⟨fA, fn, fc, (hp.put 4 52 (.bool false) (by simp [sa10P]) (by simp [sa10P]) rfl (by rw [hsz0]; exact (by decide : 52 < 86))), ⟨hw.1, by rw [upd_ne L (show (10 : Nat) ≠ 4 by decide)]; exact hw.2⟩⟩
        · intro L a w1 hI hi hd
          obtain ⟨fA, fn, fc, hp, hw⟩ := hI
          simp [Region.binds] at hd
          have e2 : a.tmps.getD 50 undef = (.bool false) := hp.pu (2, 50, (.bool false)) (by simp [sa10P]) (by simp [hd])
          have f2 : a.tmps[50]?.getD undef = (.bool false) := by rw [← Array.getD_eq_getD_getElem?]; exact e2
          have e4 : a.tmps.getD 52 undef = (.bool false) := hp.pu (4, 52, (.bool false)) (by simp [sa10P]) (by simp [hd])
          have f4 : a.tmps[52]?.getD undef = (.bool false) := by rw [← Array.getD_eq_getD_getElem?]; exact e4
          exact rstep_valW (wanted_none rfl _) (.bool false) w1 (by go_simp) ⟨fA, fn, fc, (hp.put 5 53 (.bool false) (by simp [sa10P]) (by simp [sa10P]) rfl (by rw [hsz0]; exact (by decide : 53 < 86))), ⟨hw.1, by rw [upd_ne L (show (10 : Nat) ≠ 5 by decide)]; exact hw.2⟩⟩
        · intro L a w1 hI hi hd
          obtain ⟨fA, fn, fc, hp, hw⟩ := hI
          simp [Region.binds] at hd
          have e5 : a.tmps.getD 53 undef = (.bool false) := hp.pu (5, 53, (.bool false)) (by simp [sa10P]) (by simp [hd])
          have f5 : a.tmps[53]?.getD undef = (.bool false) := by rw [← Array.getD_eq_getD_getElem?]; exact e5
          exact rstep_valW (wanted_none rfl _) (.bool false) w1 (by go_simp) ⟨fA, fn, fc, (hp.put 6 54 (.bool false) (by simp [sa10P]) (by simp [sa10P]) rfl (by rw [hsz0]; exact (by decide : 54 < 86))), ⟨hw.1, by rw [upd_ne L (show (10 : Nat) ≠ 6 by decide)]; exact hw.2⟩⟩
        · intro L a w1 hI hi hd
          obtain ⟨fA, fn, fc, hp, hw⟩ := hI
          simp [Region.binds] at hd
          have e6 : a.tmps.getD 54 undef = (.bool false) := hp.pu (6, 54, (.bool false)) (by simp [sa10P]) (by simp [hd])
          have f6 : a.tmps[54]?.getD undef = (.bool false) := by rw [← Array.getD_eq_getD_getElem?]; exact e6
          have t4 := hp.at_ 4 _ rfl z4
          have t4' := t4
          rw [Array.getD_eq_getD_getElem?] at t4'
          exact rstep_valW (wanted_of 6 54 false rfl rfl e6) (.slice bA FM.length bc) w1 (by go_simp) ⟨fA, fn, fc, (hp.put 7 55 (.slice bA FM.length bc) (by simp [sa10P]) (by simp [sa10P]) rfl (by rw [hsz0]; exact (by decide : 55 < 86))), ⟨hw.1, by rw [upd_ne L (show (10 : Nat) ≠ 7 by decide)]; exact hw.2⟩⟩
        · intro L a w1 hI hi hd
          obtain ⟨fA, fn, fc, hp, hw⟩ := hI
          simp [Region.binds] at hd
          have e6 : a.tmps.getD 54 undef = (.bool false) := hp.pu (6, 54, (.bool false)) (by simp [sa10P]) (by simp [hd])
          have f6 : a.tmps[54]?.getD undef = (.bool false) := by rw [← Array.getD_eq_getD_getElem?]; exact e6
          have e7 : a.tmps.getD 55 undef = (.slice bA FM.length bc) := hp.pu (7, 55, (.slice bA FM.length bc)) (by simp [sa10P]) (by simp [hd])
          have f7 : a.tmps[55]?.getD undef = (.slice bA FM.length bc) := by rw [← Array.getD_eq_getD_getElem?]; exact e7
          have hsb : (convert 22 9 (.slice bA FM.length bc)).run Try.prog w1 = .ok (.string (str FM)) w1 := run_str w1 bc (HB9.out.below hw.1)
          exact rstep_valW (wanted_of 6 54 false rfl rfl e6) (.string (str FM)) w1 (by go_simp) ⟨fA, fn, fc, (hp.put 8 56 (.string (str FM)) (by simp [sa10P]) (by simp [sa10P]) rfl (by rw [hsz0]; exact (by decide : 56 < 86))), ⟨hw.1, by rw [upd_ne L (show (10 : Nat) ≠ 8 by decide)]; exact hw.2⟩⟩
        · intro L a w1 hI hi hd
          obtain ⟨fA, fn, fc, hp, hw⟩ := hI
          simp [Region.binds] at hd
          have e6 : a.tmps.getD 54 undef = (.bool false) := hp.pu (6, 54, (.bool false)) (by simp [sa10P]) (by simp [hd])
          have f6 : a.tmps[54]?.getD undef = (.bool false) := by rw [← Array.getD_eq_getD_getElem?]; exact e6
          have t1 := hp.at_ 1 _ rfl z1
          have t1' := t1
          rw [Array.getD_eq_getD_getElem?] at t1'
          exact rstep_valW (wanted_of 6 54 false rfl rfl e6) (.agg s.cells) w1 (exec_load_row _ (.tmp 1) rfl (g) t1 _ _ _ (HX.out.below hw.1 HX.out.lt) Try.underlying42 rfl (by kernel_rfl)) ⟨fA, fn, fc, (hp.put 9 57 (.agg s.cells) (by simp [sa10P]) (by simp [sa10P]) rfl (by rw [hsz0]; exact (by decide : 57 < 86))), ⟨hw.1, by rw [upd_ne L (show (10 : Nat) ≠ 9 by decide)]; exact hw.2⟩⟩
        · intro L a w1 hI hi hd
          obtain ⟨fA, fn, fc, hp, hw⟩ := hI
          simp [Region.binds] at hd
          have e6 : a.tmps.getD 54 undef = (.bool false) := hp.pu (6, 54, (.bool false)) (by simp [sa10P]) (by simp [hd])
          have f6 : a.tmps[54]?.getD undef = (.bool false) := by rw [← Array.getD_eq_getD_getElem?]; exact e6
          have e9 : a.tmps.getD 57 undef = (.agg s.cells) := hp.pu (9, 57, (.agg s.cells)) (by simp [sa10P]) (by simp [hd])
          have f9 : a.tmps[57]?.getD undef = (.agg s.cells) := by rw [← Array.getD_eq_getD_getElem?]; exact e9
          have hi10 : L 10 = false := hi
          refine rstep_callW (wanted_of 6 54 false rfl rfl e6) 24 #[(.agg s.cells)] (by go_simp) ?_
          refine (refform22_any s w1 (HS.out.below hw.1) HMB.out).mono ?_
          rw [HFM.out]
          rintro e w2 ⟨A9, n9, c9, rfl, hn9, hO9, hb2⟩
          exact ⟨A9, n9, c9, ((PIF.swap (p2 := (sa10P g g6 s y bA bc FM A9 n9 c9)) hp (by intro q hq hL; simp only [sa10P, List.mem_cons, List.not_mem_nil, or_false] at hq; rcases hq with rfl | rfl | rfl | rfl | rfl | rfl | rfl | rfl | rfl | rfl | rfl | rfl | rfl | rfl | rfl | rfl | rfl | rfl | rfl | rfl <;> first | (simp [sa10P]; done) | exact absurd hL (by show ¬ L 10 = true; rw [hi10]; simp))).put 10 58 (.slice A9 n9 c9) (by simp [sa10P]) (by simp [sa10P]) rfl (by rw [hsz0]; exact (by decide : 58 < 86))), below_join hw.1 hb2, fun _ => ⟨hO9.row, hn9.out⟩⟩
        · intro L a w1 hI hi hd
          obtain ⟨fA, fn, fc, hp, hw⟩ := hI
          simp [Region.binds] at hd
          have e6 : a.tmps.getD 54 undef = (.bool false) := hp.pu (6, 54, (.bool false)) (by simp [sa10P]) (by simp [hd])
          have f6 : a.tmps[54]?.getD undef = (.bool false) := by rw [← Array.getD_eq_getD_getElem?]; exact e6
          have e10 : a.tmps.getD 58 undef = (.slice fA fn fc) := hp.pu (10, 58, (.slice fA fn fc)) (by simp [sa10P]) (by simp [hd])
          have f10 : a.tmps[58]?.getD undef = (.slice fA fn fc) := by rw [← Array.getD_eq_getD_getElem?]; exact e10
          have hfr := hw.2 (by simp [hd])
          have hsr : (convert 22 9 (.slice fA fn fc)).run Try.prog w1 = .ok (.string (str FM)) w1 := by rw [← hfr.2]; exact run_str w1 fc hfr.1
          exact rstep_valW (wanted_of 6 54 false rfl rfl e6) (.string (str FM)) w1 (by go_simp) ⟨fA, fn, fc, (hp.put 11 59 (.string (str FM)) (by simp [sa10P]) (by simp [sa10P]) rfl (by rw [hsz0]; exact (by decide : 59 < 86))), ⟨hw.1, by rw [upd_ne L (show (10 : Nat) ≠ 11 by decide)]; exact hw.2⟩⟩
        · intro L a w1 hI hi hd
          obtain ⟨fA, fn, fc, hp, hw⟩ := hI
          simp [Region.binds] at hd
          have e6 : a.tmps.getD 54 undef = (.bool false) := hp.pu (6, 54, (.bool false)) (by simp [sa10P]) (by simp [hd])
          have f6 : a.tmps[54]?.getD undef = (.bool false) := by rw [← Array.getD_eq_getD_getElem?]; exact e6
          have e8 : a.tmps.getD 56 undef = (.string (str FM)) := hp.pu (8, 56, (.string (str FM))) (by simp [sa10P]) (by simp [hd])
          have f8 : a.tmps[56]?.getD undef = (.string (str FM)) := by rw [← Array.getD_eq_getD_getElem?]; exact e8
          have e11 : a.tmps.getD 59 undef = (.string (str FM)) := hp.pu (11, 59, (.string (str FM))) (by simp [sa10P]) (by simp [hd])
          have f11 : a.tmps[59]?.getD undef = (.string (str FM)) := by rw [← Array.getD_eq_getD_getElem?]; exact e11
          have hq : ((str FM).toList == (str FM).toList) = true := by rw [str_beq]; simp
          exact rstep_valW (wanted_of 6 54 false rfl rfl e6) (.bool false) w1 (by go_simp) ⟨fA, fn, fc, (hp.put 12 60 (.bool false) (by simp [sa10P]) (by simp [sa10P]) rfl (by rw [hsz0]; exact (by decide : 60 < 86))), ⟨hw.1, by rw [upd_ne L (show (10 : Nat) ≠ 12 by decide)]; exact hw.2⟩⟩
        · intro L a w1 hI hi hd
          obtain ⟨fA, fn, fc, hp, hw⟩ := hI
          simp [Region.binds] at hd
          have e6 : a.tmps.getD 54 undef = (.bool false) := hp.pu (6, 54, (.bool false)) (by simp [sa10P]) (by simp [hd])
          have f6 : a.tmps[54]?.getD undef = (.bool false) := by rw [← Array.getD_eq_getD_getElem?]; exact e6
          have e12 : a.tmps.getD 60 undef = (.bool false) := hp.pu (12, 60, (.bool false)) (by simp [sa10P]) (by simp [hd])
          have f12 : a.tmps[60]?.getD undef = (.bool false) := by rw [← Array.getD_eq_getD_getElem?]; exact e12
          exact rstep_valW (wanted_none rfl _) (.bool false) w1 (by go_simp) ⟨fA, fn, fc, (hp.put 13 61 (.bool false) (by simp [sa10P]) (by simp [sa10P]) rfl (by rw [hsz0]; exact (by decide : 61 < 86))), ⟨hw.1, by rw [upd_ne L (show (10 : Nat) ≠ 13 by decide)]; exact hw.2⟩⟩
        · intro L a w1 hI hi hd
          obtain ⟨fA, fn, fc, hp, hw⟩ := hI
          simp [Region.binds] at hd
          have e13 : a.tmps.getD 61 undef = (.bool false) := hp.pu (13, 61, (.bool false)) (by simp [sa10P]) (by simp [hd])
          have f13 : a.tmps[61]?.getD undef = (.bool false) := by rw [← Array.getD_eq_getD_getElem?]; exact e13
          exact rstep_valW (wanted_none rfl _) (.bool false) w1 (by go_simp) ⟨fA, fn, fc, (hp.put 14 62 (.bool false) (by simp [sa10P]) (by simp [sa10P]) rfl (by rw [hsz0]; exact (by decide : 62 < 86))), ⟨hw.1, by rw [upd_ne L (show (10 : Nat) ≠ 14 by decide)]; exact hw.2⟩⟩
        · intro L a w1 hI hi hd
          obtain ⟨fA, fn, fc, hp, hw⟩ := hI
          simp [Region.binds] at hd
          have e14 : a.tmps.getD 62 undef = (.bool false) := hp.pu (14, 62, (.bool false)) (by simp [sa10P]) (by simp [hd])
          have f14 : a.tmps[62]?.getD undef = (.bool false) := by rw [← Array.getD_eq_getD_getElem?]; exact e14
          have t1 := hp.at_ 1 _ rfl z1
          have t1' := t1
          rw [Array.getD_eq_getD_getElem?] at t1'
          exact rstep_valW (wanted_of 14 62 false rfl rfl e14) (.agg s.cells) w1 (exec_load_row _ (.tmp 1) rfl (g) t1 _ _ _ (HX.out.below hw.1 HX.out.lt) Try.underlying42 rfl (by kernel_rfl)) ⟨fA, fn, fc, (hp.put 15 63 (.agg s.cells) (by simp [sa10P]) (by simp [sa10P]) rfl (by rw [hsz0]; exact (by decide : 63 < 86))), ⟨hw.1, by rw [upd_ne L (show (10 : Nat) ≠ 15 by decide)]; exact hw.2⟩⟩
        · intro L a w1 hI hi hd
          obtain ⟨fA, fn, fc, hp, hw⟩ := hI
          simp [Region.binds] at hd
          have e14 : a.tmps.getD 62 undef = (.bool false) := hp.pu (14, 62, (.bool false)) (by simp [sa10P]) (by simp [hd])
          have f14 : a.tmps[62]?.getD undef = (.bool false) := by rw [← Array.getD_eq_getD_getElem?]; exact e14
          have t6 := hp.at_ 6 _ rfl z6
          have t6' := t6
          rw [Array.getD_eq_getD_getElem?] at t6'
          exact rstep_valW (wanted_of 14 62 false rfl rfl e14) (.agg y.cells) w1 (exec_load_row _ (.tmp 6) rfl (g6) t6 _ _ _ (HY6.out.below hw.1 HY6.out.lt) Try.underlying42 rfl (by kernel_rfl)) ⟨fA, fn, fc, (hp.put 16 64 (.agg y.cells) (by simp [sa10P]) (by simp [sa10P]) rfl (by rw [hsz0]; exact (by decide : 64 < 86))), ⟨hw.1, by rw [upd_ne L (show (10 : Nat) ≠ 16 by decide)]; exact hw.2⟩⟩
        · intro L a w1 hI hi hd
          obtain ⟨fA, fn, fc, hp, hw⟩ := hI
          simp [Region.binds] at hd
          have e14 : a.tmps.getD 62 undef = (.bool false) := hp.pu (14, 62, (.bool false)) (by simp [sa10P]) (by simp [hd])
          have f14 : a.tmps[62]?.getD undef = (.bool false) := by rw [← Array.getD_eq_getD_getElem?]; exact e14
          have e15 : a.tmps.getD 63 undef = (.agg s.cells) := hp.pu (15, 63, (.agg s.cells)) (by simp [sa10P]) (by simp [hd])
          have f15 : a.tmps[63]?.getD undef = (.agg s.cells) := by rw [← Array.getD_eq_getD_getElem?]; exact e15
          have e16 : a.tmps.getD 64 undef = (.agg y.cells) := hp.pu (16, 64, (.agg y.cells)) (by simp [sa10P]) (by simp [hd])
          have f16 : a.tmps[64]?.getD undef = (.agg y.cells) := by rw [← Array.getD_eq_getD_getElem?]; exact e16
          refine rstep_callW (wanted_of 14 62 false rfl rfl e14) 23 #[(.agg s.cells), (.agg y.cells)] (by go_simp) ?_
          refine (refsame22_any s y w1 (HS.out.below hw.1) (HY.out.below hw.1)).mono ?_
          rintro e w2 ⟨rfl, hb2⟩
          rw [HYX.out, StmM.same_refl]
          exact ⟨fA, fn, fc, (hp.put 17 65 (.bool true) (by simp [sa10P]) (by simp [sa10P]) rfl (by rw [hsz0]; exact (by decide : 65 < 86))), ⟨below_join hw.1 hb2, by rw [upd_ne L (show (10 : Nat) ≠ 17 by decide)]; exact fun q => ⟨(hw.2 q).1.below hb2, (hw.2 q).2⟩⟩⟩
        · intro L a w1 hI hi hd
          obtain ⟨fA, fn, fc, hp, hw⟩ := hI
          simp [Region.binds] at hd
          have e14 : a.tmps.getD 62 undef = (.bool false) := hp.pu (14, 62, (.bool false)) (by simp [sa10P]) (by simp [hd])
          have f14 : a.tmps[62]?.getD undef = (.bool false) := by rw [← Array.getD_eq_getD_getElem?]; exact e14
          have e17 : a.tmps.getD 65 undef = (.bool true) := hp.pu (17, 65, (.bool true)) (by simp [sa10P]) (by simp [hd])
          have f17 : a.tmps[65]?.getD undef = (.bool true) := by rw [← Array.getD_eq_getD_getElem?]; exact e17
          exact rstep_valW (wanted_of 14 62 false rfl rfl e14) (.bool false) w1 (by go_simp) ⟨fA, fn, fc, (hp.put 18 66 (.bool false) (by simp [sa10P]) (by simp [sa10P]) rfl (by rw [hsz0]; exact (by decide : 66 < 86))), ⟨hw.1, by rw [upd_ne L (show (10 : Nat) ≠ 18 by decide)]; exact hw.2⟩⟩
        · intro L a w1 hI hi hd
          obtain ⟨fA, fn, fc, hp, hw⟩ := hI
          simp [Region.binds] at hd
          have e14 : a.tmps.getD 62 undef = (.bool false) := hp.pu (14, 62, (.bool false)) (by simp [sa10P]) (by simp [hd])
          have f14 : a.tmps[62]?.getD undef = (.bool false) := by rw [← Array.getD_eq_getD_getElem?]; exact e14
          have e18 : a.tmps.getD 66 undef = (.bool false) := hp.pu (18, 66, (.bool false)) (by simp [sa10P]) (by simp [hd])
          have f18 : a.tmps[66]?.getD undef = (.bool false) := by rw [← Array.getD_eq_getD_getElem?]; exact e18
          exact rstep_valW (wanted_none rfl _) (.bool false) w1 (by go_simp) ⟨fA, fn, fc, (hp.put 19 67 (.bool false) (by simp [sa10P]) (by simp [sa10P]) rfl (by rw [hsz0]; exact (by decide : 67 < 86))), ⟨hw.1, by rw [upd_ne L (show (10 : Nat) ≠ 19 by decide)]; exact hw.2⟩⟩
      rintro L a W0 ⟨fA, fn, fc, hp, hw⟩ hL
      have e19 : a.tmps.getD 67 undef = (.bool false) := hp.pu (19, 67, _) (by simp [sa10P]) (hL 19 (by simp))
      have B10 := Lib.hid (below_join B9.out hw.1)
      have HXz := Lib.hid (HX.out.below hw.1 HX.out.lt)
      have HY6z := Lib.hid (HY6.out.below hw.1 HY6.out.lt)
      have HYz := Lib.hid (HY.out.below hw.1)
      have HOz := Lib.hid (own_on HO9.out hw.1)
      clear hw
      rw [hp.eq]
      refine of_assigns (P := Try.prog) _ _ _ _ ?_
      rw [ha0.out]
      simp only [asgs, List.map, e19]
      generalize a.tmps.getD 48 undef = u48
      generalize a.tmps.getD 49 undef = u49
      generalize a.tmps.getD 50 undef = u50
      generalize a.tmps.getD 51 undef = u51
      generalize a.tmps.getD 52 undef = u52
      generalize a.tmps.getD 53 undef = u53
      generalize a.tmps.getD 54 undef = u54
      generalize a.tmps.getD 55 undef = u55
      generalize a.tmps.getD 56 undef = u56
      generalize a.tmps.getD 57 undef = u57
      generalize a.tmps.getD 58 undef = u58
      generalize a.tmps.getD 59 undef = u59
      generalize a.tmps.getD 60 undef = u60
      generalize a.tmps.getD 61 undef = u61
      generalize a.tmps.getD 62 undef = u62
      generalize a.tmps.getD 63 undef = u63
      generalize a.tmps.getD 64 undef = u64
      generalize a.tmps.getD 65 undef = u65
      generalize a.tmps.getD 66 undef = u66
      clear hp hL hsz0 e19 z4 z5 z7 z1 z6
      clear ha0
      go_wp2
      go_loopw [8] (fun i wr => ∃ (k : Nat) (Z : List UInt8), i = .int .i64 (k : Int) ∧ k ≤ FM.length ∧ Z.length = FM.length ∧ Own wr b3 bA bc Z ∧ Blk wr g 42 s.cells ∧ Blk wr g6 42 y.cells ∧ y.At wr ∧ Below w.heap.size w wr) (fun i _ => FM.length - (RowKit.intOf i).toNat)
      case atStart => exact ⟨0, FM, rfl, Nat.zero_le _, rfl, HOz.out, HXz.out, HY6z.out, HYz.out, B10.out⟩
      case round =>
        obtain ⟨k, Z, rfl, hk, hZ, hO, hX, hY6, hY, hB⟩ := hrel
        clear HOz HXz HY6z HYz B10
        by_cases hlt : k < FM.length
        · have hgl := own_lt hO
          obtain ⟨gb, rfl, hg3, hgl2⟩ := hO.some_ (by intro q; rw [q] at hZ; simp at hZ; omega)
          have hgb6 : gb < b6 := HGB.out.1 _ rfl
          have hg6 := HGB.out.2
          have hg7 := HG3.out
          obtain ⟨u, hu⟩ : ∃ u, Z[k]? = some u := ⟨_, List.getElem?_eq_getElem (by omega)⟩
          have fx := hO.cell hu
          have fz := hO.frozen k
          have xx := inc_u8 u
          have hln := HLN.out
          obtain ⟨v, hv⟩ : ∃ v, u + 1 = v := ⟨_, rfl⟩
          rw [hv] at xx
          have HZ' := Lib.hid hZ
          have HO' := Lib.hid hO
          have HQ := Lib.hid (And.intro hX (And.intro hY6 (And.intro hY hB)))
          clear hZ hu hv hO hX hY6 hY hB hgl
          go_wp2
          go_roundw
          case rel =>
            have gg := grownBy_setCell wr gb k (.int .u8 (v.toNat : Int))
            exact ⟨k + 1, Z.set k v, by go_num, by omega, by rw [List.length_set]; exact HZ'.out, HO'.out.set_ k v, HQ.out.1.grown gg (by intro q; injection q with q; omega), HQ.out.2.1.grown gg (by intro q; injection q with q; omega), at_fresh HQ.out.2.2.1 HYF.out gg hgb6, below_grown HQ.out.2.2.2 gg HQ.out.2.2.2.size (by omega)⟩
          case measure => simp [RowKit.intOf]; omega
        · have HSr := Lib.hid (HS0.out.below hB)
          have HBr := Lib.hid hB
          clear hB hO
          go_wp2_with (first | (refine wpl_load_row rfl _ (.tmp 1) rfl (g) (by go_simp) _ s.cells (0, 0) _ hX Try.underlying42 rfl (by kernel_rfl) ?_) | (refine wpl_load_row rfl _ (.tmp 6) rfl (g6) (by go_simp) _ y.cells (0, 0) _ hY6 Try.underlying42 rfl (by kernel_rfl) ?_))
          refine (refsame22_any s y wr HSr.out hY).mono ?_
          rw [HYX.out, StmM.same_refl]
          rintro e wq ⟨rfl, hb⟩
          have HBq := Lib.hid (below_join HBr.out hb)
          clear hb hX hY hY6
          go_wp2_with fail
          refine (known22_any _).mono ?_
          rintro e wz ⟨rfl, hbz⟩
          go_wp2
          go_ret
          exact ⟨rfl, below_join HBq.out hbz⟩
end Go.Proofs.Ytaadfalklddhcaa
