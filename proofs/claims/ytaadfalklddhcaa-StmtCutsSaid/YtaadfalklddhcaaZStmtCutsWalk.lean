/-
  The walk of StmtCuts: it returns true and changes nothing that was there.
  Conditions: the request's and the reply's lists lie in memory.
-/
import Derived.Test.YtaadfalklddhcaaZStmK1
import Derived.Test.YtaadfalklddhcaaZStmA1
import Derived.Test.YtaadfalklddhcaaZStmR3
import Derived.Test.YtaadfalklddhcaaZStmT7
namespace Go.Proofs.Ytaadfalklddhcaa
open Go.RowKit Go.Sort Go.Lib
set_option linter.unusedVariables false
set_option linter.unusedSimpArgs false
theorem own_on' {w w' : World} {b c : Nat} {A : Option Addr} {l : List UInt8} (h : Own w b A c l) (hb : Below w.heap.size w w') : Own w' b A c l := h.below hb
set_option maxRecDepth 100000 in
set_option maxHeartbeats 16000000 in
theorem stmtCuts_walk (s : Rqv) (t : Rpv) (cut : Int) (mo : UInt8) (w : World) (hs : s.At w) (ht : t.At w) :
    Calls Try.prog 4 #[.agg s.cells, .agg t.cells, .int .i64 cut, .int .u8 (mo.toNat : Int)] w fun e w' => e = .returned (.bool true) ∧ Below w.heap.size w w' := by
  have HS0 := Lib.hid hs
  have HT0 := Lib.hid ht
  clear hs ht
  have b0 : Below w.heap.size w ((w.alloc (.cells s.cells 42)).alloc (.cells t.cells 34)) := ((Below.refl _ _).alloc (Nat.le_refl _) _).alloc (by simp) _
  have U1 := (Blk.new w 42 s.cells).alloc (.cells t.cells 34)
  have U2 := Blk.new (w.alloc (.cells s.cells 42)) 34 t.cells
  have e1 : (w.alloc (.cells s.cells 42)).heap.size = w.heap.size + 1 := by simp
  rw [e1] at U2
  clear e1
  obtain ⟨cz, hcz⟩ : ∃ cz : Nat, IntKind.u64.wrap cut = (cz : Int) := ⟨(cut % 18446744073709551616).toNat, by rw [IntKind.wrap_u64]; omega⟩
  have HCZ := Lib.hid hcz
  clear hcz
  go_enter Try.func4, Try.ntmps4
  go_upto_region 1 with fail
  have HS1 := Lib.hid (HS0.out.below b0)
  have HT1 := Lib.hid (HT0.out.below b0)
  generalize (w.alloc (.cells s.cells 42)).alloc (.cells t.cells 34) = w0 at *
  obtain ⟨g, hg⟩ : ∃ g, w.heap.size = g := ⟨_, rfl⟩
  rw [hg] at U1 U2
  simp only [hg]
  have HG := Lib.hid hg
  have B0 := Lib.hid b0
  clear hg b0
  go_wp2_with (first | (refine wpl_load_row rfl _ (.tmp 4) rfl (g) (by go_simp) _ s.cells (0, 0) _ U1 Try.underlying42 rfl (by kernel_rfl) ?_))
  refine (large_any s w0).mono ?_
  rintro e w1 ⟨r, rfl, _, hb⟩
  have X1 := U1.below hb U1.lt
  have Y1 := U2.below hb U2.lt
  have B1 := Lib.hid (below_join B0.out hb)
  have HS2 := Lib.hid (HS1.out.below hb)
  have HT2 := Lib.hid (HT1.out.below hb)
  clear hb U1 U2 B0 HS1 HT1
  cases r with
  | true =>
    go_wp2_with fail
    refine (known22_any _).mono ?_
    rintro e wz ⟨rfl, hbz⟩
    go_wp2
    go_ret
    exact ⟨rfl, below_join B1.out hbz⟩
  | false =>
    go_wp2_with (first | (refine wpl_load_row rfl _ (.tmp 5) rfl (g + 1) (by go_simp) _ t.cells (0, 0) _ Y1 Try.underlying34 rfl (by kernel_rfl) ?_))
    refine (heavy_any t w1 HT2.out).mono ?_
    rintro e w2 ⟨r, rfl, hb⟩
    have X2 := X1.below hb X1.lt
    have Y2 := Y1.below hb Y1.lt
    have B2 := Lib.hid (below_join B1.out hb)
    have HS3 := Lib.hid (HS2.out.below hb)
    have HT3 := Lib.hid (HT2.out.below hb)
    clear hb X1 Y1 B1 HS2 HT2
    cases r with
    | true =>
      go_wp2_with fail
      refine (known22_any _).mono ?_
      rintro e wz ⟨rfl, hbz⟩
      go_wp2
      go_ret
      exact ⟨rfl, below_join B2.out hbz⟩
    | false =>
      go_wp2_with (first | (refine wpl_load_row rfl _ (.tmp 4) rfl (g) (by go_simp) _ s.cells (0, 0) _ X2 Try.underlying42 rfl (by kernel_rfl) ?_))
      refine (mayask_any s w2 HS3.out).mono ?_
      obtain ⟨bm, hbm⟩ : ∃ b, StmM.may s.x = b := ⟨_, rfl⟩
      rw [hbm]
      have HM := Lib.hid hbm
      clear hbm
      rintro e w3 ⟨rfl, hb⟩
      have X3 := X2.below hb X2.lt
      have Y3 := Y2.below hb Y2.lt
      have B3 := Lib.hid (below_join B2.out hb)
      have HS4 := Lib.hid (HS3.out.below hb)
      have HT4 := Lib.hid (HT3.out.below hb)
      clear hb X2 Y2 B2 HS3 HT3
      cases bm with
      | false =>
        go_wp2_with fail
        refine (known22_any _).mono ?_
        rintro e wz ⟨rfl, hbz⟩
        go_wp2
        go_ret
        exact ⟨rfl, below_join B3.out hbz⟩
      | true =>
        go_wp2_with (first | (refine wpl_load_row rfl _ (.tmp 5) rfl (g + 1) (by go_simp) _ t.cells (0, 0) _ Y3 Try.underlying34 rfl (by kernel_rfl) ?_))
        refine (maytell_any t w3 HT4.out).mono ?_
        obtain ⟨bm, hbm⟩ : ∃ b, RepM.mayR t.x = b := ⟨_, rfl⟩
        rw [hbm]
        have HMT := Lib.hid hbm
        clear hbm
        rintro e w4 ⟨rfl, hb⟩
        have X4 := X3.below hb X3.lt
        have Y4 := Y3.below hb Y3.lt
        have B4 := Lib.hid (below_join B3.out hb)
        have HS5 := Lib.hid (HS4.out.below hb)
        have HT5 := Lib.hid (HT4.out.below hb)
        clear hb X3 Y3 B3 HS4 HT4
        cases bm with
        | false =>
          go_wp2_with fail
          refine (known22_any _).mono ?_
          rintro e wz ⟨rfl, hbz⟩
          go_wp2
          go_ret
          exact ⟨rfl, below_join B4.out hbz⟩
        | true =>
          go_wp2_with (first | (refine wpl_load_row rfl _ (.tmp 4) rfl (g) (by go_simp) _ s.cells (0, 0) _ X4 Try.underlying42 rfl (by kernel_rfl) ?_))
          have HASK := ask_any s w4 HS5.out
          rw [HM.out] at HASK
          obtain ⟨FA, hFA⟩ : ∃ l, StmM.form s.x = l := ⟨_, rfl⟩
          rw [hFA] at HASK
          have HFA := Lib.hid hFA
          refine HASK.mono ?_
          clear HASK hFA
          rintro e w5 ⟨aA, an, ac, rfl, hn, hO, hb⟩
          have HFAN := Lib.hid hn.out
          have HFAL : Hid (an ≤ 1000000) := Lib.hid (by have := StmM.form_small HM.out; rw [HFA.out, HFAN.out] at this; exact this)
          have HFAP : Hid (1 ≤ an) := Lib.hid (by rw [← HFAN.out, ← HFA.out]; unfold StmM.form; simp)
          have HOA5 := Lib.hid hO
          have Y5 := Y4.below hb Y4.lt
          have B5 := Lib.hid (below_join B4.out hb)
          have HT6 := Lib.hid (HT5.out.below hb)
          clear hb X4 Y4 B4 HT5 hn hO
          go_wp2_with (first | (refine wpl_load_row rfl _ (.tmp 5) rfl (g + 1) (by go_simp) _ t.cells (0, 0) _ Y5 Try.underlying34 rfl (by kernel_rfl) ?_))
          have HTEL := tell_any t w5 HT6.out
          rw [HMT.out] at HTEL
          obtain ⟨FB, hFB⟩ : ∃ l, RepM.formR t.x = l := ⟨_, rfl⟩
          rw [hFB] at HTEL
          have HFB := Lib.hid hFB
          refine HTEL.mono ?_
          clear HTEL hFB
          rintro e w6 ⟨bA, bn, bc, rfl, hn, hO, hb⟩
          have HFBN := Lib.hid hn.out
          have HFBL : Hid (bn ≤ 1000000) := Lib.hid (by have := RepM.formR_small HMT.out; rw [HFB.out, HFBN.out] at this; exact this)
          have HFBP : Hid (1 ≤ bn) := Lib.hid (by rw [← HFBN.out, ← HFB.out]; unfold RepM.formR; simp)
          have HOB6 := Lib.hid hO
          have HOA6 := Lib.hid (HOA5.out.below hb)
          have B6 := Lib.hid (below_join B5.out hb)
          have HSO := Lib.hid HS5.out.ok
          have HTO := Lib.hid HT6.out.ok
          clear hb Y5 B5 HT6 hn hO HOA5 HS5
          have hna : ((an : Int) == 0) = false := beq_eq_false_iff_ne.2 (by have := HFAP.out; omega)
          have hnb : ((bn : Int) == 0) = false := beq_eq_false_iff_ne.2 (by have := HFBP.out; omega)
          go_wp2_with (at_builtin; refine wpl_app' _ rfl (.tmp 65) (.tmp 66) rfl w6.heap.size (some ⟨w6.heap.size, 0, none⟩) 0 [] 0 rfl rfl (Own.made w6 #[] 0 (Nat.le_refl _) (by unfold maxLen; omega) rfl) aA ac FA an rfl HFAN.out (Row.alloc HOA6.out.row _) ?_ ?_ ?_)
          · have := HFAL.out; omega
          · simp
          intro A1 c1 w1 h1 hg1 _
          have hb1 : Below w6.heap.size w6 w1 := ((Below.refl w6.heap.size w6).alloc (Nat.le_refl _) (.cells #[] 5)).grown hg1 (by simp) (by intro k hk; simp [Value.ownBlock] at hk; omega)
          have hs1 := hb1.size
          go_wp2_with (at_builtin; refine wpl_app' _ rfl (.tmp 67) (.tmp 69) rfl w6.heap.size A1 c1 FA an (by first | rfl | simp [Act.eval]) HFAN.out (h1.alloc _) (some ⟨w1.heap.size, 0, none⟩) 1 [mo] 1 rfl rfl (row_lit w1 [mo] _ _ _ rfl) ?_ ?_ ?_)
          · have := HFAL.out; omega
          · simp; omega
          intro A2 c2 w2 h2 hg2 _
          have hb2 : Below w6.heap.size w6 w2 := (h1.alloc (.cells #[.int .u8 (mo.toNat : Int)] 5)).grown_below (by rw [HFAN.out]) hg2 (hb1.alloc hs1 _) (Nat.le_refl _) (by simp; omega)
          have hn2 : (FA ++ [mo]).length = an + 1 := by rw [List.length_append, HFAN.out]; rfl
          have HC := readask_any A2 c2 (FA ++ [mo]) w2 h2.row h2.le.1 h2.le.2 (by have := HFAL.out; omega)
          rw [(show StmM.read (FA ++ [mo]) = none by rw [← HFA.out]; exact StmM.read_more HSO.out HM.out (by simp)), hn2] at HC
          have HC := Lib.hid HC
          have HB2 := Lib.hid hb2
          clear h1 h2 hg1 hg2 hb1 hs1 hb2 hn2
          go_wp2_with fail
          refine HC.out.mono ?_
          rintro e w3 ⟨rfl, hb3⟩
          have hb4 := below_join HB2.out hb3
          have HOA7 := Lib.hid (HOA6.out.below hb4)
          have HOB7 := Lib.hid (HOB6.out.below hb4)
          have B7 := Lib.hid (below_join B6.out hb4)
          clear hb3 hb4 HC HB2 HOA6 HOB6 B6 hna hnb
          go_upto_region 8 with fail
          have hba := (Below.refl w3.heap.size w3).alloc (Nat.le_refl _) (.cells #[.int .i64 0, .int .u64 0, .slice none 0 0, .slice none 0 0, .int .u64 0, .int .u64 0, .int .i64 0, .slice none 0 0, .slice none 0 0, .int .i64 0] 42)
          have HOA8 := Lib.hid (HOA7.out.below hba)
          have HOB8 := Lib.hid (HOB7.out.below hba)
          have B8 := Lib.hid (below_join B7.out hba)
          generalize w3.alloc (.cells #[.int .i64 0, .int .u64 0, .slice none 0 0, .slice none 0 0, .int .u64 0, .int .u64 0, .int .i64 0, .slice none 0 0, .slice none 0 0, .int .i64 0] 42) = w8 at *
          clear hba HOA7 HOB7 B7
          go_wp2_with (at_builtin; refine wpl_app' _ rfl (.tmp 75) (.tmp 76) rfl w8.heap.size (some ⟨w8.heap.size, 0, none⟩) 0 [] 0 rfl rfl (Own.made w8 #[] 0 (Nat.le_refl _) (by unfold maxLen; omega) rfl) bA bc FB bn rfl HFBN.out (Row.alloc HOB8.out.row _) ?_ ?_ ?_)
          · have := HFBL.out; omega
          · simp
          intro A1 c1 w1 h1 hg1 _
          have hb1 : Below w8.heap.size w8 w1 := ((Below.refl w8.heap.size w8).alloc (Nat.le_refl _) (.cells #[] 5)).grown hg1 (by simp) (by intro k hk; simp [Value.ownBlock] at hk; omega)
          have hs1 := hb1.size
          go_wp2_with (at_builtin; refine wpl_app' _ rfl (.tmp 77) (.tmp 79) rfl w8.heap.size A1 c1 FB bn (by first | rfl | simp [Act.eval]) HFBN.out (h1.alloc _) (some ⟨w1.heap.size, 0, none⟩) 1 [mo] 1 rfl rfl (row_lit w1 [mo] _ _ _ rfl) ?_ ?_ ?_)
          · have := HFBL.out; omega
          · simp; omega
          intro A2 c2 w2 h2 hg2 _
          have hb2 : Below w8.heap.size w8 w2 := (h1.alloc (.cells #[.int .u8 (mo.toNat : Int)] 5)).grown_below (by rw [HFBN.out]) hg2 (hb1.alloc hs1 _) (Nat.le_refl _) (by simp; omega)
          have hn2 : (FB ++ [mo]).length = bn + 1 := by rw [List.length_append, HFBN.out]; rfl
          have HC := readtell_any A2 c2 (FB ++ [mo]) w2 h2.row h2.le.1 h2.le.2 (by have := HFBL.out; omega)
          rw [(show RepM.readT (FB ++ [mo]) = none by rw [← HFB.out]; exact RepM.readT_more HTO.out HMT.out (by simp)), hn2] at HC
          have HC := Lib.hid HC
          have HB2 := Lib.hid hb2
          clear h1 h2 hg1 hg2 hb1 hs1 hb2 hn2
          go_wp2_with fail
          refine HC.out.mono ?_
          rintro e w9 ⟨rfl, hb3⟩
          have hb4 := below_join HB2.out hb3
          have HOA9 := Lib.hid (HOA8.out.below hb4)
          have HOB9 := Lib.hid (HOB8.out.below hb4)
          have B9 := Lib.hid (below_join B8.out hb4)
          clear hb3 hb4 HC HB2 HOA8 HOB8 B8
          go_upto_region 9 with fail
          have hba := (Below.refl w9.heap.size w9).alloc (Nat.le_refl _) (.cells #[.int .i64 0, .int .i64 0, .int .i64 0, .int .i64 0, .int .u64 0, .slice none 0 0, .slice none 0 0, .slice none 0 0, .slice none 0 0] 34)
          have HOA10 := Lib.hid (HOA9.out.below hba)
          have HOB10 := Lib.hid (HOB9.out.below hba)
          have B10 := Lib.hid (below_join B9.out hba)
          generalize w9.alloc (.cells #[.int .i64 0, .int .i64 0, .int .i64 0, .int .i64 0, .int .u64 0, .slice none 0 0, .slice none 0 0, .slice none 0 0, .slice none 0 0] 34) = w10 at *
          clear hba HOA9 HOB9 B9
          obtain ⟨j, hj⟩ : ∃ j, cz % an = j := ⟨_, rfl⟩
          have hjl : j < an := by rw [← hj]; exact Nat.mod_lt _ (by have := HFAP.out; omega)
          have hrem : (cz : Int).tmod (an : Int) = (j : Int) := by rw [← hj]; exact (Int.natCast_emod cz an) ▸ (Int.tmod_eq_emod_of_nonneg (by omega))
          have hrem2 : (cz : Int) % (an : Int) = (j : Int) := by rw [← hj]; omega
          have hw1 : IntKind.u64.wrap cut = (cz : Int) := HCZ.out
          have hw2 : IntKind.u64.wrap (an : Int) = (an : Int) := by have := HFAL.out; rw [IntKind.wrap_u64]; omega
          have hw3 : IntKind.i64.wrap (j : Int) = (j : Int) := by have := HFAL.out; rw [IntKind.wrap_i64]; omega
          have hw4 : IntKind.u64.wrap (j : Int) = (j : Int) := by have := HFAL.out; rw [IntKind.wrap_u64]; omega
          have hne : ((an : Int) == 0) = false := beq_eq_false_iff_ne.2 (by have := HFAP.out; omega)
          have hle : an ≤ ac := by have := HOA10.out.le.1; have := HFAN.out; omega
          have hlt : (FA.take j).length = j := by rw [List.length_take, HFAN.out]; omega
          have hrow : Row w10 aA (bs (FA.take j)) := by have := HOA10.out.row.take j; rwa [← bs_take] at this
          have HC := readask_any aA ac (FA.take j) w10 hrow (by omega) HOA10.out.le.2 (by have := HFAL.out; omega)
          rw [(show StmM.read (FA.take j) = none by rw [← HFA.out]; exact StmM.read_cut HSO.out HM.out (by rw [HFA.out, HFAN.out]; exact hjl)), hlt] at HC
          have HC := Lib.hid HC
          clear hrow hlt hj
          go_wp2_with fail
          refine HC.out.mono ?_
          rintro e w11 ⟨rfl, hb3⟩
          clear hjl hrem hrem2 hw1 hw2 hw3 hw4 hne hle HC
          have HOB11 := Lib.hid (HOB10.out.below hb3)
          have B11 := Lib.hid (below_join B10.out hb3)
          clear hb3 HOA10 HOB10 B10
          go_upto_region 10 with fail
          have hba := (Below.refl w11.heap.size w11).alloc (Nat.le_refl _) (.cells #[.int .i64 0, .int .u64 0, .slice none 0 0, .slice none 0 0, .int .u64 0, .int .u64 0, .int .i64 0, .slice none 0 0, .slice none 0 0, .int .i64 0] 42)
          have HOB12 := Lib.hid (HOB11.out.below hba)
          have B12 := Lib.hid (below_join B11.out hba)
          generalize w11.alloc (.cells #[.int .i64 0, .int .u64 0, .slice none 0 0, .slice none 0 0, .int .u64 0, .int .u64 0, .int .i64 0, .slice none 0 0, .slice none 0 0, .int .i64 0] 42) = w12 at *
          clear hba HOB11 B11
          obtain ⟨j2, hj⟩ : ∃ j, cz % bn = j := ⟨_, rfl⟩
          have hjl : j2 < bn := by rw [← hj]; exact Nat.mod_lt _ (by have := HFBP.out; omega)
          have hrem : (cz : Int).tmod (bn : Int) = (j2 : Int) := by rw [← hj]; exact (Int.natCast_emod cz bn) ▸ (Int.tmod_eq_emod_of_nonneg (by omega))
          have hrem2 : (cz : Int) % (bn : Int) = (j2 : Int) := by rw [← hj]; omega
          have hw1 : IntKind.u64.wrap cut = (cz : Int) := HCZ.out
          have hw2 : IntKind.u64.wrap (bn : Int) = (bn : Int) := by have := HFBL.out; rw [IntKind.wrap_u64]; omega
          have hw3 : IntKind.i64.wrap (j2 : Int) = (j2 : Int) := by have := HFBL.out; rw [IntKind.wrap_i64]; omega
          have hw4 : IntKind.u64.wrap (j2 : Int) = (j2 : Int) := by have := HFBL.out; rw [IntKind.wrap_u64]; omega
          have hne : ((bn : Int) == 0) = false := beq_eq_false_iff_ne.2 (by have := HFBP.out; omega)
          have hle : bn ≤ bc := by have := HOB12.out.le.1; have := HFBN.out; omega
          have hlt : (FB.take j2).length = j2 := by rw [List.length_take, HFBN.out]; omega
          have hrow : Row w12 bA (bs (FB.take j2)) := by have := HOB12.out.row.take j2; rwa [← bs_take] at this
          have HC := readtell_any bA bc (FB.take j2) w12 hrow (by omega) HOB12.out.le.2 (by have := HFBL.out; omega)
          rw [(show RepM.readT (FB.take j2) = none by rw [← HFB.out]; exact RepM.readT_cut HTO.out HMT.out (by rw [HFB.out, HFBN.out]; exact hjl)), hlt] at HC
          have HC := Lib.hid HC
          clear hrow hlt hj
          go_wp2_with fail
          refine HC.out.mono ?_
          rintro e w13 ⟨rfl, hb3⟩
          clear hjl hrem hrem2 hw1 hw2 hw3 hw4 hne hle HC
          have B13 := Lib.hid (below_join B12.out hb3)
          clear hb3 HOB12 B12
          go_upto_region 11 with fail
          have hba := (Below.refl w13.heap.size w13).alloc (Nat.le_refl _) (.cells #[.int .i64 0, .int .i64 0, .int .i64 0, .int .i64 0, .int .u64 0, .slice none 0 0, .slice none 0 0, .slice none 0 0, .slice none 0 0] 34)
          have B14 := Lib.hid (below_join B13.out hba)
          generalize w13.alloc (.cells #[.int .i64 0, .int .i64 0, .int .i64 0, .int .i64 0, .int .u64 0, .slice none 0 0, .slice none 0 0, .slice none 0 0, .slice none 0 0] 34) = w14 at *
          clear hba B13
          go_wp2_with fail
          refine (known22_any _).mono ?_
          rintro e wz ⟨rfl, hbz⟩
          go_wp2
          go_ret
          exact ⟨rfl, below_join B14.out hbz⟩
end Go.Proofs.Ytaadfalklddhcaa
