/-
  A round of the loop of snap.Wanted.
  Conditions: the frame and the memory of a round.
-/
import Derived.Test.YtplknfbdonenmaaWanW3
namespace Go.Proofs.Ytplknfbdonenmaa
open Go.RowKit Go.Shelf
set_option linter.unusedVariables false
set_option linter.unusedSimpArgs false
def rfBody : Code → Option Code
  | .rangeFunc _ _ _ b => some b
  | .seq a b => match rfBody a with
    | some c => some c
    | none => rfBody b
  | .block _ a => rfBody a
  | _ => none
def bseq1 : Code → Code
  | .block _ (.seq a _) => a
  | c => c
def bseq2 : Code → Code
  | .block _ (.seq _ b) => b
  | c => c
noncomputable def w15 : Code := bseq1 (((Try.f6.body).bind rfBody).getD .ret)
noncomputable def w16 : Code := bseq2 (((Try.f6.body).bind rfBody).getD .ret)
def w15PA (S : SnA) (Bx i t : Nat) (bh gone : Bool) : List (Nat × Nat × Value) := [(0, 40, (.slice (some ⟨S.bo, 0, none⟩) S.N S.N)), (1, 41, (.int .i64 (i : Int))), (2, 42, (.pointer (some ⟨Bx, 1, none⟩))), (3, 43, (.bool true)), (4, 44, (.bool false)), (5, 45, (.bool false)), (6, 46, undef), (7, 47, undef), (8, 48, undef), (9, 49, undef), (10, 50, undef), (11, 51, undef), (12, 52, undef), (13, 53, undef), (14, 54, undef), (15, 55, undef), (16, 56, undef), (17, 57, undef), (18, 58, undef), (19, 59, undef), (20, 60, undef), (21, 61, undef), (22, 62, undef), (23, 63, undef), (24, 64, (.bool false)), (25, 65, (.pointer (some ⟨S.bo, i, none⟩)))]
set_option maxRecDepth 100000 in
set_option maxHeartbeats 16000000 in
theorem w15_A {S : SnA} {w0 W : World} {Bx i t n r : Nat} {o : List Bool} {bh gone : Bool} {Q : Exit → Act → World → Prop} (k : S.Ok w0) (hiN : i < S.N) (ho : o.length = S.N) (hL : Lks w0 S.A2 S.ks) (hBo : Bx ≠ S.bo) {a0 : Act} {wv : World} (hA : AxF S.N i Bx S.b5 S.b9 S.b10 S.b11 a0) (h : Sr S w0 W Bx #[.int .u64 (t : Int), .bool true, .bool gone] o bh wv)
    (hQ : ∀ a w', AxF S.N i Bx S.b5 S.b9 S.b10 S.b11 a → Sr S w0 W Bx #[.int .u64 (t : Int), .bool true, .bool gone] (o.set i false) bh w' → Q .normal a w') : w15.wpIn (Fence.wide.inRound r) n Try.prog Q a0 wv := by
  obtain ⟨hdf, hsz0, z5, z9, z10, z11, z12, z13⟩ := hA
  refine wpIn_region_invB _ (by kernel_rfl) (fun L a wv => PIF a0 [40, 41, 42, 43, 44, 45, 46, 47, 48, 49, 50, 51, 52, 53, 54, 55, 56, 57, 58, 59, 60, 61, 62, 63, 64, 65] (w15PA S Bx i t bh gone) L a ∧ Sr S w0 W Bx #[.int .u64 (t : Int), .bool true, .bool gone] (bif L 26 then o.set i false else o) bh wv) (by kernel_rfl) (by kernel_rfl) ?_ ?_ ?_
  · exact ⟨PIF.start _ _ _, h.drew⟩
  · rintro L a w' ⟨hp, hw⟩ hLL
    have h26 : L 26 = true := hLL 26 (by simp)
    rw [h26] at hw
    exact hQ a w' ⟨hp.df.trans hdf, hp.sz.trans hsz0, hp.at_ 5 _ rfl z5, hp.at_ 9 _ rfl z9, hp.at_ 10 _ rfl z10, hp.at_ 11 _ rfl z11, hp.at_ 12 _ rfl z12, hp.at_ 13 _ rfl z13⟩ hw
  · refine ⟨?_, ?_, ?_, ?_, ?_, ?_, ?_, ?_, ?_, ?_, ?_, ?_, ?_, ?_, ?_, ?_, ?_, ?_, ?_, ?_, ?_, ?_, ?_, ?_, ?_, ?_, ?_, trivial⟩
    · intro L a w1 hI hi hd
      obtain ⟨hp, hw⟩ := hI
      have t10 := hp.at_ 10 _ rfl z10
      have t10' := t10
      rw [Array.getD_eq_getD_getElem?] at t10'
      have c0 := hw.sn.k10.cell 0
      simp only [List.getElem?_toArray, List.getElem?_cons_zero] at c0
      exact rstep_valW (wanted_none rfl _) (.slice (some ⟨S.bo, 0, none⟩) S.N S.N) w1 (by go_simp) ⟨(hp.put 0 40 (.slice (some ⟨S.bo, 0, none⟩) S.N S.N) (by simp [w15PA]) (by simp [w15PA]) rfl (by rw [hsz0]; exact (by decide : 40 < 74))), hw⟩
    · intro L a w1 hI hi hd
      obtain ⟨hp, hw⟩ := hI
      have t12 := hp.at_ 12 _ rfl z12
      have t12' := t12
      rw [Array.getD_eq_getD_getElem?] at t12'
      exact rstep_valW (wanted_none rfl _) (.int .i64 (i : Int)) w1 (by go_simp) ⟨(hp.put 1 41 (.int .i64 (i : Int)) (by simp [w15PA]) (by simp [w15PA]) rfl (by rw [hsz0]; exact (by decide : 41 < 74))), hw⟩
    · intro L a w1 hI hi hd
      obtain ⟨hp, hw⟩ := hI
      have t13 := hp.at_ 13 _ rfl z13
      have t13' := t13
      rw [Array.getD_eq_getD_getElem?] at t13'
      exact rstep_valW (wanted_none rfl _) (.pointer (some ⟨Bx, 1, none⟩)) w1 (by go_simp) ⟨(hp.put 2 42 (.pointer (some ⟨Bx, 1, none⟩)) (by simp [w15PA]) (by simp [w15PA]) rfl (by rw [hsz0]; exact (by decide : 42 < 74))), hw⟩
    · intro L a w1 hI hi hd
      obtain ⟨hp, hw⟩ := hI
      simp [Region.binds] at hd
      have e2 : a.tmps.getD 42 undef = (.pointer (some ⟨Bx, 1, none⟩)) := hp.pu (2, 42, (.pointer (some ⟨Bx, 1, none⟩))) (by simp [w15PA]) (by simp [hd])
      have f2 : a.tmps[42]?.getD undef = (.pointer (some ⟨Bx, 1, none⟩)) := by rw [← Array.getD_eq_getD_getElem?]; exact e2
      have c0 := hw.hx.cell 0
      have c1 := hw.hx.cell 1
      have c2 := hw.hx.cell 2
      simp only [List.getElem?_toArray, List.getElem?_cons_zero, List.getElem?_cons_succ] at c0 c1 c2
      exact rstep_valW (wanted_none rfl _) (.bool true) w1 (by go_simp) ⟨(hp.put 3 43 (.bool true) (by simp [w15PA]) (by simp [w15PA]) rfl (by rw [hsz0]; exact (by decide : 43 < 74))), hw⟩
    · intro L a w1 hI hi hd
      obtain ⟨hp, hw⟩ := hI
      simp [Region.binds] at hd
      have e3 : a.tmps.getD 43 undef = (.bool true) := hp.pu (3, 43, (.bool true)) (by simp [w15PA]) (by simp [hd])
      have f3 : a.tmps[43]?.getD undef = (.bool true) := by rw [← Array.getD_eq_getD_getElem?]; exact e3
      exact rstep_valW (wanted_none rfl _) (.bool false) w1 (by go_simp) ⟨(hp.put 4 44 (.bool false) (by simp [w15PA]) (by simp [w15PA]) rfl (by rw [hsz0]; exact (by decide : 44 < 74))), hw⟩
    · intro L a w1 hI hi hd
      obtain ⟨hp, hw⟩ := hI
      simp [Region.binds] at hd
      have e4 : a.tmps.getD 44 undef = (.bool false) := hp.pu (4, 44, (.bool false)) (by simp [w15PA]) (by simp [hd])
      have f4 : a.tmps[44]?.getD undef = (.bool false) := by rw [← Array.getD_eq_getD_getElem?]; exact e4
      exact rstep_valW (wanted_none rfl _) (.bool false) w1 (by go_simp) ⟨(hp.put 5 45 (.bool false) (by simp [w15PA]) (by simp [w15PA]) rfl (by rw [hsz0]; exact (by decide : 45 < 74))), hw⟩
    · intro L a w1 hI hi hd
      obtain ⟨hp, hw⟩ := hI
      simp [Region.binds] at hd
      have e5 : a.tmps.getD 45 undef = (.bool false) := hp.pu (5, 45, (.bool false)) (by simp [w15PA]) (by simp [hd])
      have f5 : a.tmps[45]?.getD undef = (.bool false) := by rw [← Array.getD_eq_getD_getElem?]; exact e5
      have t9 := hp.at_ 9 _ rfl z9
      have t9' := t9
      rw [Array.getD_eq_getD_getElem?] at t9'
      exact rstep_un (unwanted_of 5 45 true false (by decide) rfl rfl e5) ⟨(hp.put 6 46 undef (by simp [w15PA]) (by simp [w15PA]) rfl (by rw [hsz0]; exact (by decide : 46 < 74))), hw⟩
    · intro L a w1 hI hi hd
      obtain ⟨hp, hw⟩ := hI
      simp [Region.binds] at hd
      have e5 : a.tmps.getD 45 undef = (.bool false) := hp.pu (5, 45, (.bool false)) (by simp [w15PA]) (by simp [hd])
      have f5 : a.tmps[45]?.getD undef = (.bool false) := by rw [← Array.getD_eq_getD_getElem?]; exact e5
      have t13 := hp.at_ 13 _ rfl z13
      have t13' := t13
      rw [Array.getD_eq_getD_getElem?] at t13'
      exact rstep_un (unwanted_of 5 45 true false (by decide) rfl rfl e5) ⟨(hp.put 7 47 undef (by simp [w15PA]) (by simp [w15PA]) rfl (by rw [hsz0]; exact (by decide : 47 < 74))), hw⟩
    · intro L a w1 hI hi hd
      obtain ⟨hp, hw⟩ := hI
      simp [Region.binds] at hd
      have e5 : a.tmps.getD 45 undef = (.bool false) := hp.pu (5, 45, (.bool false)) (by simp [w15PA]) (by simp [hd])
      have f5 : a.tmps[45]?.getD undef = (.bool false) := by rw [← Array.getD_eq_getD_getElem?]; exact e5
      have e7 : a.tmps.getD 47 undef = undef := hp.pu (7, 47, undef) (by simp [w15PA]) (by simp [hd])
      have f7 : a.tmps[47]?.getD undef = undef := by rw [← Array.getD_eq_getD_getElem?]; exact e7
      exact rstep_un (unwanted_of 5 45 true false (by decide) rfl rfl e5) ⟨(hp.put 8 48 undef (by simp [w15PA]) (by simp [w15PA]) rfl (by rw [hsz0]; exact (by decide : 48 < 74))), hw⟩
    · intro L a w1 hI hi hd
      obtain ⟨hp, hw⟩ := hI
      simp [Region.binds] at hd
      have e5 : a.tmps.getD 45 undef = (.bool false) := hp.pu (5, 45, (.bool false)) (by simp [w15PA]) (by simp [hd])
      have f5 : a.tmps[45]?.getD undef = (.bool false) := by rw [← Array.getD_eq_getD_getElem?]; exact e5
      have e6 : a.tmps.getD 46 undef = undef := hp.pu (6, 46, undef) (by simp [w15PA]) (by simp [hd])
      have f6 : a.tmps[46]?.getD undef = undef := by rw [← Array.getD_eq_getD_getElem?]; exact e6
      have e8 : a.tmps.getD 48 undef = undef := hp.pu (8, 48, undef) (by simp [w15PA]) (by simp [hd])
      have f8 : a.tmps[48]?.getD undef = undef := by rw [← Array.getD_eq_getD_getElem?]; exact e8
      exact rstep_un (unwanted_of 5 45 true false (by decide) rfl rfl e5) ⟨(hp.put 9 49 undef (by simp [w15PA]) (by simp [w15PA]) rfl (by rw [hsz0]; exact (by decide : 49 < 74))), hw⟩
    · intro L a w1 hI hi hd
      obtain ⟨hp, hw⟩ := hI
      simp [Region.binds] at hd
      have e5 : a.tmps.getD 45 undef = (.bool false) := hp.pu (5, 45, (.bool false)) (by simp [w15PA]) (by simp [hd])
      have f5 : a.tmps[45]?.getD undef = (.bool false) := by rw [← Array.getD_eq_getD_getElem?]; exact e5
      have e9 : a.tmps.getD 49 undef = undef := hp.pu (9, 49, undef) (by simp [w15PA]) (by simp [hd])
      have f9 : a.tmps[49]?.getD undef = undef := by rw [← Array.getD_eq_getD_getElem?]; exact e9
      exact rstep_un (unwanted_of 5 45 true false (by decide) rfl rfl e5) ⟨(hp.put 10 50 undef (by simp [w15PA]) (by simp [w15PA]) rfl (by rw [hsz0]; exact (by decide : 50 < 74))), hw⟩
    · intro L a w1 hI hi hd
      obtain ⟨hp, hw⟩ := hI
      simp [Region.binds] at hd
      have e10 : a.tmps.getD 50 undef = undef := hp.pu (10, 50, undef) (by simp [w15PA]) (by simp [hd])
      have f10 : a.tmps[50]?.getD undef = undef := by rw [← Array.getD_eq_getD_getElem?]; exact e10
      have t5 := hp.at_ 5 _ rfl z5
      have t5' := t5
      rw [Array.getD_eq_getD_getElem?] at t5'
      exact rstep_un (unwanted_undef 10 50 false rfl rfl e10) ⟨(hp.put 11 51 undef (by simp [w15PA]) (by simp [w15PA]) rfl (by rw [hsz0]; exact (by decide : 51 < 74))), hw⟩
    · intro L a w1 hI hi hd
      obtain ⟨hp, hw⟩ := hI
      simp [Region.binds] at hd
      have e10 : a.tmps.getD 50 undef = undef := hp.pu (10, 50, undef) (by simp [w15PA]) (by simp [hd])
      have f10 : a.tmps[50]?.getD undef = undef := by rw [← Array.getD_eq_getD_getElem?]; exact e10
      have t12 := hp.at_ 12 _ rfl z12
      have t12' := t12
      rw [Array.getD_eq_getD_getElem?] at t12'
      exact rstep_un (unwanted_undef 10 50 false rfl rfl e10) ⟨(hp.put 12 52 undef (by simp [w15PA]) (by simp [w15PA]) rfl (by rw [hsz0]; exact (by decide : 52 < 74))), hw⟩
    · intro L a w1 hI hi hd
      obtain ⟨hp, hw⟩ := hI
      simp [Region.binds] at hd
      have e10 : a.tmps.getD 50 undef = undef := hp.pu (10, 50, undef) (by simp [w15PA]) (by simp [hd])
      have f10 : a.tmps[50]?.getD undef = undef := by rw [← Array.getD_eq_getD_getElem?]; exact e10
      have e11 : a.tmps.getD 51 undef = undef := hp.pu (11, 51, undef) (by simp [w15PA]) (by simp [hd])
      have f11 : a.tmps[51]?.getD undef = undef := by rw [← Array.getD_eq_getD_getElem?]; exact e11
      have e12 : a.tmps.getD 52 undef = undef := hp.pu (12, 52, undef) (by simp [w15PA]) (by simp [hd])
      have f12 : a.tmps[52]?.getD undef = undef := by rw [← Array.getD_eq_getD_getElem?]; exact e12
      exact rstep_un (unwanted_undef 10 50 false rfl rfl e10) ⟨(hp.put 13 53 undef (by simp [w15PA]) (by simp [w15PA]) rfl (by rw [hsz0]; exact (by decide : 53 < 74))), hw⟩
    · intro L a w1 hI hi hd
      obtain ⟨hp, hw⟩ := hI
      simp [Region.binds] at hd
      have e10 : a.tmps.getD 50 undef = undef := hp.pu (10, 50, undef) (by simp [w15PA]) (by simp [hd])
      have f10 : a.tmps[50]?.getD undef = undef := by rw [← Array.getD_eq_getD_getElem?]; exact e10
      have e13 : a.tmps.getD 53 undef = undef := hp.pu (13, 53, undef) (by simp [w15PA]) (by simp [hd])
      have f13 : a.tmps[53]?.getD undef = undef := by rw [← Array.getD_eq_getD_getElem?]; exact e13
      exact rstep_un (unwanted_undef 10 50 false rfl rfl e10) ⟨(hp.put 14 54 undef (by simp [w15PA]) (by simp [w15PA]) rfl (by rw [hsz0]; exact (by decide : 54 < 74))), hw⟩
    · intro L a w1 hI hi hd
      obtain ⟨hp, hw⟩ := hI
      simp [Region.binds] at hd
      have e10 : a.tmps.getD 50 undef = undef := hp.pu (10, 50, undef) (by simp [w15PA]) (by simp [hd])
      have f10 : a.tmps[50]?.getD undef = undef := by rw [← Array.getD_eq_getD_getElem?]; exact e10
      have e14 : a.tmps.getD 54 undef = undef := hp.pu (14, 54, undef) (by simp [w15PA]) (by simp [hd])
      have f14 : a.tmps[54]?.getD undef = undef := by rw [← Array.getD_eq_getD_getElem?]; exact e14
      exact rstep_un (unwanted_undef 10 50 false rfl rfl e10) ⟨(hp.put 15 55 undef (by simp [w15PA]) (by simp [w15PA]) rfl (by rw [hsz0]; exact (by decide : 55 < 74))), hw⟩
    · intro L a w1 hI hi hd
      obtain ⟨hp, hw⟩ := hI
      simp [Region.binds] at hd
      have e15 : a.tmps.getD 55 undef = undef := hp.pu (15, 55, undef) (by simp [w15PA]) (by simp [hd])
      have f15 : a.tmps[55]?.getD undef = undef := by rw [← Array.getD_eq_getD_getElem?]; exact e15
      have t13 := hp.at_ 13 _ rfl z13
      have t13' := t13
      rw [Array.getD_eq_getD_getElem?] at t13'
      exact rstep_un (unwanted_undef 15 55 true rfl rfl e15) ⟨(hp.put 16 56 undef (by simp [w15PA]) (by simp [w15PA]) rfl (by rw [hsz0]; exact (by decide : 56 < 74))), hw⟩
    · intro L a w1 hI hi hd
      obtain ⟨hp, hw⟩ := hI
      simp [Region.binds] at hd
      have e15 : a.tmps.getD 55 undef = undef := hp.pu (15, 55, undef) (by simp [w15PA]) (by simp [hd])
      have f15 : a.tmps[55]?.getD undef = undef := by rw [← Array.getD_eq_getD_getElem?]; exact e15
      have e16 : a.tmps.getD 56 undef = undef := hp.pu (16, 56, undef) (by simp [w15PA]) (by simp [hd])
      have f16 : a.tmps[56]?.getD undef = undef := by rw [← Array.getD_eq_getD_getElem?]; exact e16
      exact rstep_un (unwanted_undef 15 55 true rfl rfl e15) ⟨(hp.put 17 57 undef (by simp [w15PA]) (by simp [w15PA]) rfl (by rw [hsz0]; exact (by decide : 57 < 74))), hw⟩
    · intro L a w1 hI hi hd
      obtain ⟨hp, hw⟩ := hI
      simp [Region.binds] at hd
      have e15 : a.tmps.getD 55 undef = undef := hp.pu (15, 55, undef) (by simp [w15PA]) (by simp [hd])
      have f15 : a.tmps[55]?.getD undef = undef := by rw [← Array.getD_eq_getD_getElem?]; exact e15
      have e17 : a.tmps.getD 57 undef = undef := hp.pu (17, 57, undef) (by simp [w15PA]) (by simp [hd])
      have f17 : a.tmps[57]?.getD undef = undef := by rw [← Array.getD_eq_getD_getElem?]; exact e17
      exact rstep_un (unwanted_undef 15 55 true rfl rfl e15) ⟨(hp.put 18 58 undef (by simp [w15PA]) (by simp [w15PA]) rfl (by rw [hsz0]; exact (by decide : 58 < 74))), hw⟩
    · intro L a w1 hI hi hd
      obtain ⟨hp, hw⟩ := hI
      simp [Region.binds] at hd
      have e15 : a.tmps.getD 55 undef = undef := hp.pu (15, 55, undef) (by simp [w15PA]) (by simp [hd])
      have f15 : a.tmps[55]?.getD undef = undef := by rw [← Array.getD_eq_getD_getElem?]; exact e15
      have e18 : a.tmps.getD 58 undef = undef := hp.pu (18, 58, undef) (by simp [w15PA]) (by simp [hd])
      have f18 : a.tmps[58]?.getD undef = undef := by rw [← Array.getD_eq_getD_getElem?]; exact e18
      exact rstep_un (unwanted_undef 15 55 true rfl rfl e15) ⟨(hp.put 19 59 undef (by simp [w15PA]) (by simp [w15PA]) rfl (by rw [hsz0]; exact (by decide : 59 < 74))), hw⟩
    · intro L a w1 hI hi hd
      obtain ⟨hp, hw⟩ := hI
      simp [Region.binds] at hd
      have e19 : a.tmps.getD 59 undef = undef := hp.pu (19, 59, undef) (by simp [w15PA]) (by simp [hd])
      have f19 : a.tmps[59]?.getD undef = undef := by rw [← Array.getD_eq_getD_getElem?]; exact e19
      have t11 := hp.at_ 11 _ rfl z11
      have t11' := t11
      rw [Array.getD_eq_getD_getElem?] at t11'
      exact rstep_un (unwanted_undef 19 59 false rfl rfl e19) ⟨(hp.put 20 60 undef (by simp [w15PA]) (by simp [w15PA]) rfl (by rw [hsz0]; exact (by decide : 60 < 74))), hw⟩
    · intro L a w1 hI hi hd
      obtain ⟨hp, hw⟩ := hI
      simp [Region.binds] at hd
      have e15 : a.tmps.getD 55 undef = undef := hp.pu (15, 55, undef) (by simp [w15PA]) (by simp [hd])
      have f15 : a.tmps[55]?.getD undef = undef := by rw [← Array.getD_eq_getD_getElem?]; exact e15
      have e19 : a.tmps.getD 59 undef = undef := hp.pu (19, 59, undef) (by simp [w15PA]) (by simp [hd])
      have f19 : a.tmps[59]?.getD undef = undef := by rw [← Array.getD_eq_getD_getElem?]; exact e19
      have e20 : a.tmps.getD 60 undef = undef := hp.pu (20, 60, undef) (by simp [w15PA]) (by simp [hd])
      have f20 : a.tmps[60]?.getD undef = undef := by rw [← Array.getD_eq_getD_getElem?]; exact e20
      exact rstep_un (unwanted_undef 15 55 true rfl rfl e15) ⟨(hp.put 21 61 undef (by simp [w15PA]) (by simp [w15PA]) rfl (by rw [hsz0]; exact (by decide : 61 < 74))), hw⟩
    · intro L a w1 hI hi hd
      obtain ⟨hp, hw⟩ := hI
      simp [Region.binds] at hd
      have e10 : a.tmps.getD 50 undef = undef := hp.pu (10, 50, undef) (by simp [w15PA]) (by simp [hd])
      have f10 : a.tmps[50]?.getD undef = undef := by rw [← Array.getD_eq_getD_getElem?]; exact e10
      have e15 : a.tmps.getD 55 undef = undef := hp.pu (15, 55, undef) (by simp [w15PA]) (by simp [hd])
      have f15 : a.tmps[55]?.getD undef = undef := by rw [← Array.getD_eq_getD_getElem?]; exact e15
      have e21 : a.tmps.getD 61 undef = undef := hp.pu (21, 61, undef) (by simp [w15PA]) (by simp [hd])
      have f21 : a.tmps[61]?.getD undef = undef := by rw [← Array.getD_eq_getD_getElem?]; exact e21
      exact rstep_un (unwanted_undef 10 50 false rfl rfl e10) ⟨(hp.put 22 62 undef (by simp [w15PA]) (by simp [w15PA]) rfl (by rw [hsz0]; exact (by decide : 62 < 74))), hw⟩
    · intro L a w1 hI hi hd
      obtain ⟨hp, hw⟩ := hI
      simp [Region.binds] at hd
      have e5 : a.tmps.getD 45 undef = (.bool false) := hp.pu (5, 45, (.bool false)) (by simp [w15PA]) (by simp [hd])
      have f5 : a.tmps[45]?.getD undef = (.bool false) := by rw [← Array.getD_eq_getD_getElem?]; exact e5
      have e10 : a.tmps.getD 50 undef = undef := hp.pu (10, 50, undef) (by simp [w15PA]) (by simp [hd])
      have f10 : a.tmps[50]?.getD undef = undef := by rw [← Array.getD_eq_getD_getElem?]; exact e10
      have e22 : a.tmps.getD 62 undef = undef := hp.pu (22, 62, undef) (by simp [w15PA]) (by simp [hd])
      have f22 : a.tmps[62]?.getD undef = undef := by rw [← Array.getD_eq_getD_getElem?]; exact e22
      exact rstep_un (unwanted_of 5 45 true false (by decide) rfl rfl e5) ⟨(hp.put 23 63 undef (by simp [w15PA]) (by simp [w15PA]) rfl (by rw [hsz0]; exact (by decide : 63 < 74))), hw⟩
    · intro L a w1 hI hi hd
      obtain ⟨hp, hw⟩ := hI
      simp [Region.binds] at hd
      have e5 : a.tmps.getD 45 undef = (.bool false) := hp.pu (5, 45, (.bool false)) (by simp [w15PA]) (by simp [hd])
      have f5 : a.tmps[45]?.getD undef = (.bool false) := by rw [← Array.getD_eq_getD_getElem?]; exact e5
      have e23 : a.tmps.getD 63 undef = undef := hp.pu (23, 63, undef) (by simp [w15PA]) (by simp [hd])
      have f23 : a.tmps[63]?.getD undef = undef := by rw [← Array.getD_eq_getD_getElem?]; exact e23
      exact rstep_valW (wanted_none rfl _) (.bool false) w1 (by go_simp) ⟨(hp.put 24 64 (.bool false) (by simp [w15PA]) (by simp [w15PA]) rfl (by rw [hsz0]; exact (by decide : 64 < 74))), hw⟩
    · intro L a w1 hI hi hd
      obtain ⟨hp, hw⟩ := hI
      simp [Region.binds] at hd
      have e0 : a.tmps.getD 40 undef = (.slice (some ⟨S.bo, 0, none⟩) S.N S.N) := hp.pu (0, 40, (.slice (some ⟨S.bo, 0, none⟩) S.N S.N)) (by simp [w15PA]) (by simp [hd])
      have f0 : a.tmps[40]?.getD undef = (.slice (some ⟨S.bo, 0, none⟩) S.N S.N) := by rw [← Array.getD_eq_getD_getElem?]; exact e0
      have e1 : a.tmps.getD 41 undef = (.int .i64 (i : Int)) := hp.pu (1, 41, (.int .i64 (i : Int))) (by simp [w15PA]) (by simp [hd])
      have f1 : a.tmps[41]?.getD undef = (.int .i64 (i : Int)) := by rw [← Array.getD_eq_getD_getElem?]; exact e1
      exact rstep_valW (wanted_none rfl _) (.pointer (some ⟨S.bo, i, none⟩)) w1 (by go_simp) ⟨(hp.put 25 65 (.pointer (some ⟨S.bo, i, none⟩)) (by simp [w15PA]) (by simp [w15PA]) rfl (by rw [hsz0]; exact (by decide : 65 < 74))), hw⟩
    · intro L a w1 hI hi hd
      obtain ⟨hp, hw⟩ := hI
      simp [Region.binds] at hd
      have e24 : a.tmps.getD 64 undef = (.bool false) := hp.pu (24, 64, (.bool false)) (by simp [w15PA]) (by simp [hd])
      have f24 : a.tmps[64]?.getD undef = (.bool false) := by rw [← Array.getD_eq_getD_getElem?]; exact e24
      have e25 : a.tmps.getD 65 undef = (.pointer (some ⟨S.bo, i, none⟩)) := hp.pu (25, 65, (.pointer (some ⟨S.bo, i, none⟩))) (by simp [w15PA]) (by simp [hd])
      have f25 : a.tmps[65]?.getD undef = (.pointer (some ⟨S.bo, i, none⟩)) := by rw [← Array.getD_eq_getD_getElem?]; exact e25
      have cs := hw.sn.ko.cell i
      obtain ⟨v0, hv0⟩ : ∃ v, (bif L 26 then o.set i false else o)[i]? = some v := ⟨_, List.getElem?_eq_getElem (by rw [hi]; exact (by rw [ho]; exact hiN : i < o.length))⟩
      rw [bls_get hv0] at cs
      have fs := hw.sn.ko.frozen i
      have h3 := hw
      rw [hi] at h3
      exact rstep_skip rfl (w1.setCell ⟨S.bo, i, none⟩ (.bool false)) (by go_simp) ⟨(hp.skip 26 undef (by simp [w15PA])), h3.setO k hBo i false⟩
def w15PB (S : SnA) (Bx i t : Nat) (bh gone : Bool) : List (Nat × Nat × Value) := [(0, 40, (.slice (some ⟨S.bo, 0, none⟩) S.N S.N)), (1, 41, (.int .i64 (i : Int))), (2, 42, (.pointer (some ⟨Bx, 1, none⟩))), (3, 43, (.bool false)), (4, 44, (.bool true)), (5, 45, (.bool true)), (6, 46, (.func (.func 9) #[] #[.pointer (some ⟨S.b3, 0, none⟩)])), (7, 47, (.pointer (some ⟨Bx, 0, none⟩))), (8, 48, (.int .u64 (t : Int))), (9, 49, (.bool true)), (10, 50, (.bool true)), (11, 51, undef), (12, 52, undef), (13, 53, undef), (14, 54, undef), (15, 55, undef), (16, 56, undef), (17, 57, undef), (18, 58, undef), (19, 59, undef), (20, 60, undef), (21, 61, undef), (22, 62, undef), (23, 63, (.bool true)), (24, 64, (.bool true)), (25, 65, (.pointer (some ⟨S.bo, i, none⟩)))]
set_option maxRecDepth 100000 in
set_option maxHeartbeats 16000000 in
theorem w15_B {S : SnA} {w0 W : World} {Bx i t n r : Nat} {o : List Bool} {bh gone : Bool} {Q : Exit → Act → World → Prop} (k : S.Ok w0) (hiN : i < S.N) (ho : o.length = S.N) (hop : WanM.openB (lks S.ks) t = true) (hL : Lks w0 S.A2 S.ks) (hBo : Bx ≠ S.bo) {a0 : Act} {wv : World} (hA : AxF S.N i Bx S.b5 S.b9 S.b10 S.b11 a0) (h : Sr S w0 W Bx #[.int .u64 (t : Int), .bool false, .bool gone] o bh wv)
    (hQ : ∀ a w', AxF S.N i Bx S.b5 S.b9 S.b10 S.b11 a → Sr S w0 W Bx #[.int .u64 (t : Int), .bool false, .bool gone] (o.set i true) bh w' → Q .normal a w') : w15.wpIn (Fence.wide.inRound r) n Try.prog Q a0 wv := by
  obtain ⟨hdf, hsz0, z5, z9, z10, z11, z12, z13⟩ := hA
  refine wpIn_region_invB _ (by kernel_rfl) (fun L a wv => PIF a0 [40, 41, 42, 43, 44, 45, 46, 47, 48, 49, 50, 51, 52, 53, 54, 55, 56, 57, 58, 59, 60, 61, 62, 63, 64, 65] (w15PB S Bx i t bh gone) L a ∧ Sr S w0 W Bx #[.int .u64 (t : Int), .bool false, .bool gone] (bif L 26 then o.set i true else o) bh wv) (by kernel_rfl) (by kernel_rfl) ?_ ?_ ?_
  · exact ⟨PIF.start _ _ _, h.drew⟩
  · rintro L a w' ⟨hp, hw⟩ hLL
    have h26 : L 26 = true := hLL 26 (by simp)
    rw [h26] at hw
    exact hQ a w' ⟨hp.df.trans hdf, hp.sz.trans hsz0, hp.at_ 5 _ rfl z5, hp.at_ 9 _ rfl z9, hp.at_ 10 _ rfl z10, hp.at_ 11 _ rfl z11, hp.at_ 12 _ rfl z12, hp.at_ 13 _ rfl z13⟩ hw
  · refine ⟨?_, ?_, ?_, ?_, ?_, ?_, ?_, ?_, ?_, ?_, ?_, ?_, ?_, ?_, ?_, ?_, ?_, ?_, ?_, ?_, ?_, ?_, ?_, ?_, ?_, ?_, ?_, trivial⟩
    · intro L a w1 hI hi hd
      obtain ⟨hp, hw⟩ := hI
      have t10 := hp.at_ 10 _ rfl z10
      have t10' := t10
      rw [Array.getD_eq_getD_getElem?] at t10'
      have c0 := hw.sn.k10.cell 0
      simp only [List.getElem?_toArray, List.getElem?_cons_zero] at c0
      exact rstep_valW (wanted_none rfl _) (.slice (some ⟨S.bo, 0, none⟩) S.N S.N) w1 (by go_simp) ⟨(hp.put 0 40 (.slice (some ⟨S.bo, 0, none⟩) S.N S.N) (by simp [w15PB]) (by simp [w15PB]) rfl (by rw [hsz0]; exact (by decide : 40 < 74))), hw⟩
    · intro L a w1 hI hi hd
      obtain ⟨hp, hw⟩ := hI
      have t12 := hp.at_ 12 _ rfl z12
      have t12' := t12
      rw [Array.getD_eq_getD_getElem?] at t12'
      exact rstep_valW (wanted_none rfl _) (.int .i64 (i : Int)) w1 (by go_simp) ⟨(hp.put 1 41 (.int .i64 (i : Int)) (by simp [w15PB]) (by simp [w15PB]) rfl (by rw [hsz0]; exact (by decide : 41 < 74))), hw⟩
    · intro L a w1 hI hi hd
      obtain ⟨hp, hw⟩ := hI
      have t13 := hp.at_ 13 _ rfl z13
      have t13' := t13
      rw [Array.getD_eq_getD_getElem?] at t13'
      exact rstep_valW (wanted_none rfl _) (.pointer (some ⟨Bx, 1, none⟩)) w1 (by go_simp) ⟨(hp.put 2 42 (.pointer (some ⟨Bx, 1, none⟩)) (by simp [w15PB]) (by simp [w15PB]) rfl (by rw [hsz0]; exact (by decide : 42 < 74))), hw⟩
    · intro L a w1 hI hi hd
      obtain ⟨hp, hw⟩ := hI
      simp [Region.binds] at hd
      have e2 : a.tmps.getD 42 undef = (.pointer (some ⟨Bx, 1, none⟩)) := hp.pu (2, 42, (.pointer (some ⟨Bx, 1, none⟩))) (by simp [w15PB]) (by simp [hd])
      have f2 : a.tmps[42]?.getD undef = (.pointer (some ⟨Bx, 1, none⟩)) := by rw [← Array.getD_eq_getD_getElem?]; exact e2
      have c0 := hw.hx.cell 0
      have c1 := hw.hx.cell 1
      have c2 := hw.hx.cell 2
      simp only [List.getElem?_toArray, List.getElem?_cons_zero, List.getElem?_cons_succ] at c0 c1 c2
      exact rstep_valW (wanted_none rfl _) (.bool false) w1 (by go_simp) ⟨(hp.put 3 43 (.bool false) (by simp [w15PB]) (by simp [w15PB]) rfl (by rw [hsz0]; exact (by decide : 43 < 74))), hw⟩
    · intro L a w1 hI hi hd
      obtain ⟨hp, hw⟩ := hI
      simp [Region.binds] at hd
      have e3 : a.tmps.getD 43 undef = (.bool false) := hp.pu (3, 43, (.bool false)) (by simp [w15PB]) (by simp [hd])
      have f3 : a.tmps[43]?.getD undef = (.bool false) := by rw [← Array.getD_eq_getD_getElem?]; exact e3
      exact rstep_valW (wanted_none rfl _) (.bool true) w1 (by go_simp) ⟨(hp.put 4 44 (.bool true) (by simp [w15PB]) (by simp [w15PB]) rfl (by rw [hsz0]; exact (by decide : 44 < 74))), hw⟩
    · intro L a w1 hI hi hd
      obtain ⟨hp, hw⟩ := hI
      simp [Region.binds] at hd
      have e4 : a.tmps.getD 44 undef = (.bool true) := hp.pu (4, 44, (.bool true)) (by simp [w15PB]) (by simp [hd])
      have f4 : a.tmps[44]?.getD undef = (.bool true) := by rw [← Array.getD_eq_getD_getElem?]; exact e4
      exact rstep_valW (wanted_none rfl _) (.bool true) w1 (by go_simp) ⟨(hp.put 5 45 (.bool true) (by simp [w15PB]) (by simp [w15PB]) rfl (by rw [hsz0]; exact (by decide : 45 < 74))), hw⟩
    · intro L a w1 hI hi hd
      obtain ⟨hp, hw⟩ := hI
      simp [Region.binds] at hd
      have e5 : a.tmps.getD 45 undef = (.bool true) := hp.pu (5, 45, (.bool true)) (by simp [w15PB]) (by simp [hd])
      have f5 : a.tmps[45]?.getD undef = (.bool true) := by rw [← Array.getD_eq_getD_getElem?]; exact e5
      have t9 := hp.at_ 9 _ rfl z9
      have t9' := t9
      rw [Array.getD_eq_getD_getElem?] at t9'
      have c0 := hw.sn.k9.cell 0
      simp only [List.getElem?_toArray, List.getElem?_cons_zero] at c0
      exact rstep_valW (wanted_of 5 45 true rfl rfl e5) (.func (.func 9) #[] #[.pointer (some ⟨S.b3, 0, none⟩)]) w1 (by go_simp) ⟨(hp.put 6 46 (.func (.func 9) #[] #[.pointer (some ⟨S.b3, 0, none⟩)]) (by simp [w15PB]) (by simp [w15PB]) rfl (by rw [hsz0]; exact (by decide : 46 < 74))), hw⟩
    · intro L a w1 hI hi hd
      obtain ⟨hp, hw⟩ := hI
      simp [Region.binds] at hd
      have e5 : a.tmps.getD 45 undef = (.bool true) := hp.pu (5, 45, (.bool true)) (by simp [w15PB]) (by simp [hd])
      have f5 : a.tmps[45]?.getD undef = (.bool true) := by rw [← Array.getD_eq_getD_getElem?]; exact e5
      have t13 := hp.at_ 13 _ rfl z13
      have t13' := t13
      rw [Array.getD_eq_getD_getElem?] at t13'
      exact rstep_valW (wanted_of 5 45 true rfl rfl e5) (.pointer (some ⟨Bx, 0, none⟩)) w1 (by go_simp) ⟨(hp.put 7 47 (.pointer (some ⟨Bx, 0, none⟩)) (by simp [w15PB]) (by simp [w15PB]) rfl (by rw [hsz0]; exact (by decide : 47 < 74))), hw⟩
    · intro L a w1 hI hi hd
      obtain ⟨hp, hw⟩ := hI
      simp [Region.binds] at hd
      have e5 : a.tmps.getD 45 undef = (.bool true) := hp.pu (5, 45, (.bool true)) (by simp [w15PB]) (by simp [hd])
      have f5 : a.tmps[45]?.getD undef = (.bool true) := by rw [← Array.getD_eq_getD_getElem?]; exact e5
      have e7 : a.tmps.getD 47 undef = (.pointer (some ⟨Bx, 0, none⟩)) := hp.pu (7, 47, (.pointer (some ⟨Bx, 0, none⟩))) (by simp [w15PB]) (by simp [hd])
      have f7 : a.tmps[47]?.getD undef = (.pointer (some ⟨Bx, 0, none⟩)) := by rw [← Array.getD_eq_getD_getElem?]; exact e7
      have c0 := hw.hx.cell 0
      have c1 := hw.hx.cell 1
      have c2 := hw.hx.cell 2
      simp only [List.getElem?_toArray, List.getElem?_cons_zero, List.getElem?_cons_succ] at c0 c1 c2
      exact rstep_valW (wanted_of 5 45 true rfl rfl e5) (.int .u64 (t : Int)) w1 (by go_simp) ⟨(hp.put 8 48 (.int .u64 (t : Int)) (by simp [w15PB]) (by simp [w15PB]) rfl (by rw [hsz0]; exact (by decide : 48 < 74))), hw⟩
    · intro L a w1 hI hi hd
      obtain ⟨hp, hw⟩ := hI
      simp [Region.binds] at hd
      have e5 : a.tmps.getD 45 undef = (.bool true) := hp.pu (5, 45, (.bool true)) (by simp [w15PB]) (by simp [hd])
      have f5 : a.tmps[45]?.getD undef = (.bool true) := by rw [← Array.getD_eq_getD_getElem?]; exact e5
      have e6 : a.tmps.getD 46 undef = (.func (.func 9) #[] #[.pointer (some ⟨S.b3, 0, none⟩)]) := hp.pu (6, 46, (.func (.func 9) #[] #[.pointer (some ⟨S.b3, 0, none⟩)])) (by simp [w15PB]) (by simp [hd])
      have f6 : a.tmps[46]?.getD undef = (.func (.func 9) #[] #[.pointer (some ⟨S.b3, 0, none⟩)]) := by rw [← Array.getD_eq_getD_getElem?]; exact e6
      have e8 : a.tmps.getD 48 undef = (.int .u64 (t : Int)) := hp.pu (8, 48, (.int .u64 (t : Int))) (by simp [w15PB]) (by simp [hd])
      have f8 : a.tmps[48]?.getD undef = (.int .u64 (t : Int)) := by rw [← Array.getD_eq_getD_getElem?]; exact e8
      refine rstep_callW (wanted_of 5 45 true rfl rfl e5) 9 #[.int .u64 (t : Int), .pointer (some ⟨S.b3, 0, none⟩)] (by go_simp) ?_
      refine (open_any S.A2 S.c2 t S.b3 S.ks w1 (hL.below hw.sn.bel) (hw.sn.k3.cell 0)).mono ?_
      rintro e w2 ⟨rfl, hb2⟩
      rw [hop]
      exact ⟨(hp.put 9 49 (.bool true) (by simp [w15PB]) (by simp [w15PB]) rfl (by rw [hsz0]; exact (by decide : 49 < 74))), hw.below hb2⟩
    · intro L a w1 hI hi hd
      obtain ⟨hp, hw⟩ := hI
      simp [Region.binds] at hd
      have e5 : a.tmps.getD 45 undef = (.bool true) := hp.pu (5, 45, (.bool true)) (by simp [w15PB]) (by simp [hd])
      have f5 : a.tmps[45]?.getD undef = (.bool true) := by rw [← Array.getD_eq_getD_getElem?]; exact e5
      have e9 : a.tmps.getD 49 undef = (.bool true) := hp.pu (9, 49, (.bool true)) (by simp [w15PB]) (by simp [hd])
      have f9 : a.tmps[49]?.getD undef = (.bool true) := by rw [← Array.getD_eq_getD_getElem?]; exact e9
      exact rstep_valW (wanted_of 5 45 true rfl rfl e5) (.bool true) w1 (by go_simp) ⟨(hp.put 10 50 (.bool true) (by simp [w15PB]) (by simp [w15PB]) rfl (by rw [hsz0]; exact (by decide : 50 < 74))), hw⟩
    · intro L a w1 hI hi hd
      obtain ⟨hp, hw⟩ := hI
      simp [Region.binds] at hd
      have e10 : a.tmps.getD 50 undef = (.bool true) := hp.pu (10, 50, (.bool true)) (by simp [w15PB]) (by simp [hd])
      have f10 : a.tmps[50]?.getD undef = (.bool true) := by rw [← Array.getD_eq_getD_getElem?]; exact e10
      have t5 := hp.at_ 5 _ rfl z5
      have t5' := t5
      rw [Array.getD_eq_getD_getElem?] at t5'
      exact rstep_un (unwanted_of 10 50 false true (by decide) rfl rfl e10) ⟨(hp.put 11 51 undef (by simp [w15PB]) (by simp [w15PB]) rfl (by rw [hsz0]; exact (by decide : 51 < 74))), hw⟩
    · intro L a w1 hI hi hd
      obtain ⟨hp, hw⟩ := hI
      simp [Region.binds] at hd
      have e10 : a.tmps.getD 50 undef = (.bool true) := hp.pu (10, 50, (.bool true)) (by simp [w15PB]) (by simp [hd])
      have f10 : a.tmps[50]?.getD undef = (.bool true) := by rw [← Array.getD_eq_getD_getElem?]; exact e10
      have t12 := hp.at_ 12 _ rfl z12
      have t12' := t12
      rw [Array.getD_eq_getD_getElem?] at t12'
      exact rstep_un (unwanted_of 10 50 false true (by decide) rfl rfl e10) ⟨(hp.put 12 52 undef (by simp [w15PB]) (by simp [w15PB]) rfl (by rw [hsz0]; exact (by decide : 52 < 74))), hw⟩
    · intro L a w1 hI hi hd
      obtain ⟨hp, hw⟩ := hI
      simp [Region.binds] at hd
      have e10 : a.tmps.getD 50 undef = (.bool true) := hp.pu (10, 50, (.bool true)) (by simp [w15PB]) (by simp [hd])
      have f10 : a.tmps[50]?.getD undef = (.bool true) := by rw [← Array.getD_eq_getD_getElem?]; exact e10
      have e11 : a.tmps.getD 51 undef = undef := hp.pu (11, 51, undef) (by simp [w15PB]) (by simp [hd])
      have f11 : a.tmps[51]?.getD undef = undef := by rw [← Array.getD_eq_getD_getElem?]; exact e11
      have e12 : a.tmps.getD 52 undef = undef := hp.pu (12, 52, undef) (by simp [w15PB]) (by simp [hd])
      have f12 : a.tmps[52]?.getD undef = undef := by rw [← Array.getD_eq_getD_getElem?]; exact e12
      exact rstep_un (unwanted_of 10 50 false true (by decide) rfl rfl e10) ⟨(hp.put 13 53 undef (by simp [w15PB]) (by simp [w15PB]) rfl (by rw [hsz0]; exact (by decide : 53 < 74))), hw⟩
    · intro L a w1 hI hi hd
      obtain ⟨hp, hw⟩ := hI
      simp [Region.binds] at hd
      have e10 : a.tmps.getD 50 undef = (.bool true) := hp.pu (10, 50, (.bool true)) (by simp [w15PB]) (by simp [hd])
      have f10 : a.tmps[50]?.getD undef = (.bool true) := by rw [← Array.getD_eq_getD_getElem?]; exact e10
      have e13 : a.tmps.getD 53 undef = undef := hp.pu (13, 53, undef) (by simp [w15PB]) (by simp [hd])
      have f13 : a.tmps[53]?.getD undef = undef := by rw [← Array.getD_eq_getD_getElem?]; exact e13
      exact rstep_un (unwanted_of 10 50 false true (by decide) rfl rfl e10) ⟨(hp.put 14 54 undef (by simp [w15PB]) (by simp [w15PB]) rfl (by rw [hsz0]; exact (by decide : 54 < 74))), hw⟩
    · intro L a w1 hI hi hd
      obtain ⟨hp, hw⟩ := hI
      simp [Region.binds] at hd
      have e10 : a.tmps.getD 50 undef = (.bool true) := hp.pu (10, 50, (.bool true)) (by simp [w15PB]) (by simp [hd])
      have f10 : a.tmps[50]?.getD undef = (.bool true) := by rw [← Array.getD_eq_getD_getElem?]; exact e10
      have e14 : a.tmps.getD 54 undef = undef := hp.pu (14, 54, undef) (by simp [w15PB]) (by simp [hd])
      have f14 : a.tmps[54]?.getD undef = undef := by rw [← Array.getD_eq_getD_getElem?]; exact e14
      exact rstep_un (unwanted_of 10 50 false true (by decide) rfl rfl e10) ⟨(hp.put 15 55 undef (by simp [w15PB]) (by simp [w15PB]) rfl (by rw [hsz0]; exact (by decide : 55 < 74))), hw⟩
    · intro L a w1 hI hi hd
      obtain ⟨hp, hw⟩ := hI
      simp [Region.binds] at hd
      have e15 : a.tmps.getD 55 undef = undef := hp.pu (15, 55, undef) (by simp [w15PB]) (by simp [hd])
      have f15 : a.tmps[55]?.getD undef = undef := by rw [← Array.getD_eq_getD_getElem?]; exact e15
      have t13 := hp.at_ 13 _ rfl z13
      have t13' := t13
      rw [Array.getD_eq_getD_getElem?] at t13'
      exact rstep_un (unwanted_undef 15 55 true rfl rfl e15) ⟨(hp.put 16 56 undef (by simp [w15PB]) (by simp [w15PB]) rfl (by rw [hsz0]; exact (by decide : 56 < 74))), hw⟩
    · intro L a w1 hI hi hd
      obtain ⟨hp, hw⟩ := hI
      simp [Region.binds] at hd
      have e15 : a.tmps.getD 55 undef = undef := hp.pu (15, 55, undef) (by simp [w15PB]) (by simp [hd])
      have f15 : a.tmps[55]?.getD undef = undef := by rw [← Array.getD_eq_getD_getElem?]; exact e15
      have e16 : a.tmps.getD 56 undef = undef := hp.pu (16, 56, undef) (by simp [w15PB]) (by simp [hd])
      have f16 : a.tmps[56]?.getD undef = undef := by rw [← Array.getD_eq_getD_getElem?]; exact e16
      exact rstep_un (unwanted_undef 15 55 true rfl rfl e15) ⟨(hp.put 17 57 undef (by simp [w15PB]) (by simp [w15PB]) rfl (by rw [hsz0]; exact (by decide : 57 < 74))), hw⟩
    · intro L a w1 hI hi hd
      obtain ⟨hp, hw⟩ := hI
      simp [Region.binds] at hd
      have e15 : a.tmps.getD 55 undef = undef := hp.pu (15, 55, undef) (by simp [w15PB]) (by simp [hd])
      have f15 : a.tmps[55]?.getD undef = undef := by rw [← Array.getD_eq_getD_getElem?]; exact e15
      have e17 : a.tmps.getD 57 undef = undef := hp.pu (17, 57, undef) (by simp [w15PB]) (by simp [hd])
      have f17 : a.tmps[57]?.getD undef = undef := by rw [← Array.getD_eq_getD_getElem?]; exact e17
      exact rstep_un (unwanted_undef 15 55 true rfl rfl e15) ⟨(hp.put 18 58 undef (by simp [w15PB]) (by simp [w15PB]) rfl (by rw [hsz0]; exact (by decide : 58 < 74))), hw⟩
    · intro L a w1 hI hi hd
      obtain ⟨hp, hw⟩ := hI
      simp [Region.binds] at hd
      have e15 : a.tmps.getD 55 undef = undef := hp.pu (15, 55, undef) (by simp [w15PB]) (by simp [hd])
      have f15 : a.tmps[55]?.getD undef = undef := by rw [← Array.getD_eq_getD_getElem?]; exact e15
      have e18 : a.tmps.getD 58 undef = undef := hp.pu (18, 58, undef) (by simp [w15PB]) (by simp [hd])
      have f18 : a.tmps[58]?.getD undef = undef := by rw [← Array.getD_eq_getD_getElem?]; exact e18
      exact rstep_un (unwanted_undef 15 55 true rfl rfl e15) ⟨(hp.put 19 59 undef (by simp [w15PB]) (by simp [w15PB]) rfl (by rw [hsz0]; exact (by decide : 59 < 74))), hw⟩
    · intro L a w1 hI hi hd
      obtain ⟨hp, hw⟩ := hI
      simp [Region.binds] at hd
      have e19 : a.tmps.getD 59 undef = undef := hp.pu (19, 59, undef) (by simp [w15PB]) (by simp [hd])
      have f19 : a.tmps[59]?.getD undef = undef := by rw [← Array.getD_eq_getD_getElem?]; exact e19
      have t11 := hp.at_ 11 _ rfl z11
      have t11' := t11
      rw [Array.getD_eq_getD_getElem?] at t11'
      exact rstep_un (unwanted_undef 19 59 false rfl rfl e19) ⟨(hp.put 20 60 undef (by simp [w15PB]) (by simp [w15PB]) rfl (by rw [hsz0]; exact (by decide : 60 < 74))), hw⟩
    · intro L a w1 hI hi hd
      obtain ⟨hp, hw⟩ := hI
      simp [Region.binds] at hd
      have e15 : a.tmps.getD 55 undef = undef := hp.pu (15, 55, undef) (by simp [w15PB]) (by simp [hd])
      have f15 : a.tmps[55]?.getD undef = undef := by rw [← Array.getD_eq_getD_getElem?]; exact e15
      have e19 : a.tmps.getD 59 undef = undef := hp.pu (19, 59, undef) (by simp [w15PB]) (by simp [hd])
      have f19 : a.tmps[59]?.getD undef = undef := by rw [← Array.getD_eq_getD_getElem?]; exact e19
      have e20 : a.tmps.getD 60 undef = undef := hp.pu (20, 60, undef) (by simp [w15PB]) (by simp [hd])
      have f20 : a.tmps[60]?.getD undef = undef := by rw [← Array.getD_eq_getD_getElem?]; exact e20
      exact rstep_un (unwanted_undef 15 55 true rfl rfl e15) ⟨(hp.put 21 61 undef (by simp [w15PB]) (by simp [w15PB]) rfl (by rw [hsz0]; exact (by decide : 61 < 74))), hw⟩
    · intro L a w1 hI hi hd
      obtain ⟨hp, hw⟩ := hI
      simp [Region.binds] at hd
      have e10 : a.tmps.getD 50 undef = (.bool true) := hp.pu (10, 50, (.bool true)) (by simp [w15PB]) (by simp [hd])
      have f10 : a.tmps[50]?.getD undef = (.bool true) := by rw [← Array.getD_eq_getD_getElem?]; exact e10
      have e15 : a.tmps.getD 55 undef = undef := hp.pu (15, 55, undef) (by simp [w15PB]) (by simp [hd])
      have f15 : a.tmps[55]?.getD undef = undef := by rw [← Array.getD_eq_getD_getElem?]; exact e15
      have e21 : a.tmps.getD 61 undef = undef := hp.pu (21, 61, undef) (by simp [w15PB]) (by simp [hd])
      have f21 : a.tmps[61]?.getD undef = undef := by rw [← Array.getD_eq_getD_getElem?]; exact e21
      exact rstep_un (unwanted_of 10 50 false true (by decide) rfl rfl e10) ⟨(hp.put 22 62 undef (by simp [w15PB]) (by simp [w15PB]) rfl (by rw [hsz0]; exact (by decide : 62 < 74))), hw⟩
    · intro L a w1 hI hi hd
      obtain ⟨hp, hw⟩ := hI
      simp [Region.binds] at hd
      have e5 : a.tmps.getD 45 undef = (.bool true) := hp.pu (5, 45, (.bool true)) (by simp [w15PB]) (by simp [hd])
      have f5 : a.tmps[45]?.getD undef = (.bool true) := by rw [← Array.getD_eq_getD_getElem?]; exact e5
      have e10 : a.tmps.getD 50 undef = (.bool true) := hp.pu (10, 50, (.bool true)) (by simp [w15PB]) (by simp [hd])
      have f10 : a.tmps[50]?.getD undef = (.bool true) := by rw [← Array.getD_eq_getD_getElem?]; exact e10
      have e22 : a.tmps.getD 62 undef = undef := hp.pu (22, 62, undef) (by simp [w15PB]) (by simp [hd])
      have f22 : a.tmps[62]?.getD undef = undef := by rw [← Array.getD_eq_getD_getElem?]; exact e22
      exact rstep_valW (wanted_of 5 45 true rfl rfl e5) (.bool true) w1 (by go_simp) ⟨(hp.put 23 63 (.bool true) (by simp [w15PB]) (by simp [w15PB]) rfl (by rw [hsz0]; exact (by decide : 63 < 74))), hw⟩
    · intro L a w1 hI hi hd
      obtain ⟨hp, hw⟩ := hI
      simp [Region.binds] at hd
      have e5 : a.tmps.getD 45 undef = (.bool true) := hp.pu (5, 45, (.bool true)) (by simp [w15PB]) (by simp [hd])
      have f5 : a.tmps[45]?.getD undef = (.bool true) := by rw [← Array.getD_eq_getD_getElem?]; exact e5
      have e23 : a.tmps.getD 63 undef = (.bool true) := hp.pu (23, 63, (.bool true)) (by simp [w15PB]) (by simp [hd])
      have f23 : a.tmps[63]?.getD undef = (.bool true) := by rw [← Array.getD_eq_getD_getElem?]; exact e23
      exact rstep_valW (wanted_none rfl _) (.bool true) w1 (by go_simp) ⟨(hp.put 24 64 (.bool true) (by simp [w15PB]) (by simp [w15PB]) rfl (by rw [hsz0]; exact (by decide : 64 < 74))), hw⟩
    · intro L a w1 hI hi hd
      obtain ⟨hp, hw⟩ := hI
      simp [Region.binds] at hd
      have e0 : a.tmps.getD 40 undef = (.slice (some ⟨S.bo, 0, none⟩) S.N S.N) := hp.pu (0, 40, (.slice (some ⟨S.bo, 0, none⟩) S.N S.N)) (by simp [w15PB]) (by simp [hd])
      have f0 : a.tmps[40]?.getD undef = (.slice (some ⟨S.bo, 0, none⟩) S.N S.N) := by rw [← Array.getD_eq_getD_getElem?]; exact e0
      have e1 : a.tmps.getD 41 undef = (.int .i64 (i : Int)) := hp.pu (1, 41, (.int .i64 (i : Int))) (by simp [w15PB]) (by simp [hd])
      have f1 : a.tmps[41]?.getD undef = (.int .i64 (i : Int)) := by rw [← Array.getD_eq_getD_getElem?]; exact e1
      exact rstep_valW (wanted_none rfl _) (.pointer (some ⟨S.bo, i, none⟩)) w1 (by go_simp) ⟨(hp.put 25 65 (.pointer (some ⟨S.bo, i, none⟩)) (by simp [w15PB]) (by simp [w15PB]) rfl (by rw [hsz0]; exact (by decide : 65 < 74))), hw⟩
    · intro L a w1 hI hi hd
      obtain ⟨hp, hw⟩ := hI
      simp [Region.binds] at hd
      have e24 : a.tmps.getD 64 undef = (.bool true) := hp.pu (24, 64, (.bool true)) (by simp [w15PB]) (by simp [hd])
      have f24 : a.tmps[64]?.getD undef = (.bool true) := by rw [← Array.getD_eq_getD_getElem?]; exact e24
      have e25 : a.tmps.getD 65 undef = (.pointer (some ⟨S.bo, i, none⟩)) := hp.pu (25, 65, (.pointer (some ⟨S.bo, i, none⟩))) (by simp [w15PB]) (by simp [hd])
      have f25 : a.tmps[65]?.getD undef = (.pointer (some ⟨S.bo, i, none⟩)) := by rw [← Array.getD_eq_getD_getElem?]; exact e25
      have cs := hw.sn.ko.cell i
      obtain ⟨v0, hv0⟩ : ∃ v, (bif L 26 then o.set i true else o)[i]? = some v := ⟨_, List.getElem?_eq_getElem (by rw [hi]; exact (by rw [ho]; exact hiN : i < o.length))⟩
      rw [bls_get hv0] at cs
      have fs := hw.sn.ko.frozen i
      have h3 := hw
      rw [hi] at h3
      exact rstep_skip rfl (w1.setCell ⟨S.bo, i, none⟩ (.bool true)) (by go_simp) ⟨(hp.skip 26 undef (by simp [w15PB])), h3.setO k hBo i true⟩
def w15PC (S : SnA) (Bx i t : Nat) (bh gone : Bool) : List (Nat × Nat × Value) := [(0, 40, (.slice (some ⟨S.bo, 0, none⟩) S.N S.N)), (1, 41, (.int .i64 (i : Int))), (2, 42, (.pointer (some ⟨Bx, 1, none⟩))), (3, 43, (.bool false)), (4, 44, (.bool true)), (5, 45, (.bool true)), (6, 46, (.func (.func 9) #[] #[.pointer (some ⟨S.b3, 0, none⟩)])), (7, 47, (.pointer (some ⟨Bx, 0, none⟩))), (8, 48, (.int .u64 (t : Int))), (9, 49, (.bool false)), (10, 50, (.bool false)), (11, 51, (.slice (some ⟨S.bs, 0, none⟩) S.N S.N)), (12, 52, (.int .i64 (i : Int))), (13, 53, (.pointer (some ⟨S.bs, i, none⟩))), (14, 54, (.bool false)), (15, 55, (.bool false)), (16, 56, undef), (17, 57, undef), (18, 58, undef), (19, 59, undef), (20, 60, undef), (21, 61, undef), (22, 62, (.bool false)), (23, 63, (.bool false)), (24, 64, (.bool false)), (25, 65, (.pointer (some ⟨S.bo, i, none⟩)))]
set_option maxRecDepth 100000 in
set_option maxHeartbeats 16000000 in
theorem w15_C {S : SnA} {w0 W : World} {Bx i t n r : Nat} {o : List Bool} {bh gone : Bool} {Q : Exit → Act → World → Prop} (k : S.Ok w0) (hiN : i < S.N) (ho : o.length = S.N) (hsn : S.sl[i]? = some false) (hop : WanM.openB (lks S.ks) t = false) (hL : Lks w0 S.A2 S.ks) (hBo : Bx ≠ S.bo) {a0 : Act} {wv : World} (hA : AxF S.N i Bx S.b5 S.b9 S.b10 S.b11 a0) (h : Sr S w0 W Bx #[.int .u64 (t : Int), .bool false, .bool gone] o bh wv)
    (hQ : ∀ a w', AxF S.N i Bx S.b5 S.b9 S.b10 S.b11 a → Sr S w0 W Bx #[.int .u64 (t : Int), .bool false, .bool gone] (o.set i false) bh w' → Q .normal a w') : w15.wpIn (Fence.wide.inRound r) n Try.prog Q a0 wv := by
  obtain ⟨hdf, hsz0, z5, z9, z10, z11, z12, z13⟩ := hA
  refine wpIn_region_invB _ (by kernel_rfl) (fun L a wv => PIF a0 [40, 41, 42, 43, 44, 45, 46, 47, 48, 49, 50, 51, 52, 53, 54, 55, 56, 57, 58, 59, 60, 61, 62, 63, 64, 65] (w15PC S Bx i t bh gone) L a ∧ Sr S w0 W Bx #[.int .u64 (t : Int), .bool false, .bool gone] (bif L 26 then o.set i false else o) bh wv) (by kernel_rfl) (by kernel_rfl) ?_ ?_ ?_
  · exact ⟨PIF.start _ _ _, h.drew⟩
  · rintro L a w' ⟨hp, hw⟩ hLL
    have h26 : L 26 = true := hLL 26 (by simp)
    rw [h26] at hw
    exact hQ a w' ⟨hp.df.trans hdf, hp.sz.trans hsz0, hp.at_ 5 _ rfl z5, hp.at_ 9 _ rfl z9, hp.at_ 10 _ rfl z10, hp.at_ 11 _ rfl z11, hp.at_ 12 _ rfl z12, hp.at_ 13 _ rfl z13⟩ hw
  · refine ⟨?_, ?_, ?_, ?_, ?_, ?_, ?_, ?_, ?_, ?_, ?_, ?_, ?_, ?_, ?_, ?_, ?_, ?_, ?_, ?_, ?_, ?_, ?_, ?_, ?_, ?_, ?_, trivial⟩
    · intro L a w1 hI hi hd
      obtain ⟨hp, hw⟩ := hI
      have t10 := hp.at_ 10 _ rfl z10
      have t10' := t10
      rw [Array.getD_eq_getD_getElem?] at t10'
      have c0 := hw.sn.k10.cell 0
      simp only [List.getElem?_toArray, List.getElem?_cons_zero] at c0
      exact rstep_valW (wanted_none rfl _) (.slice (some ⟨S.bo, 0, none⟩) S.N S.N) w1 (by go_simp) ⟨(hp.put 0 40 (.slice (some ⟨S.bo, 0, none⟩) S.N S.N) (by simp [w15PC]) (by simp [w15PC]) rfl (by rw [hsz0]; exact (by decide : 40 < 74))), hw⟩
    · intro L a w1 hI hi hd
      obtain ⟨hp, hw⟩ := hI
      have t12 := hp.at_ 12 _ rfl z12
      have t12' := t12
      rw [Array.getD_eq_getD_getElem?] at t12'
      exact rstep_valW (wanted_none rfl _) (.int .i64 (i : Int)) w1 (by go_simp) ⟨(hp.put 1 41 (.int .i64 (i : Int)) (by simp [w15PC]) (by simp [w15PC]) rfl (by rw [hsz0]; exact (by decide : 41 < 74))), hw⟩
    · intro L a w1 hI hi hd
      obtain ⟨hp, hw⟩ := hI
      have t13 := hp.at_ 13 _ rfl z13
      have t13' := t13
      rw [Array.getD_eq_getD_getElem?] at t13'
      exact rstep_valW (wanted_none rfl _) (.pointer (some ⟨Bx, 1, none⟩)) w1 (by go_simp) ⟨(hp.put 2 42 (.pointer (some ⟨Bx, 1, none⟩)) (by simp [w15PC]) (by simp [w15PC]) rfl (by rw [hsz0]; exact (by decide : 42 < 74))), hw⟩
    · intro L a w1 hI hi hd
      obtain ⟨hp, hw⟩ := hI
      simp [Region.binds] at hd
      have e2 : a.tmps.getD 42 undef = (.pointer (some ⟨Bx, 1, none⟩)) := hp.pu (2, 42, (.pointer (some ⟨Bx, 1, none⟩))) (by simp [w15PC]) (by simp [hd])
      have f2 : a.tmps[42]?.getD undef = (.pointer (some ⟨Bx, 1, none⟩)) := by rw [← Array.getD_eq_getD_getElem?]; exact e2
      have c0 := hw.hx.cell 0
      have c1 := hw.hx.cell 1
      have c2 := hw.hx.cell 2
      simp only [List.getElem?_toArray, List.getElem?_cons_zero, List.getElem?_cons_succ] at c0 c1 c2
      exact rstep_valW (wanted_none rfl _) (.bool false) w1 (by go_simp) ⟨(hp.put 3 43 (.bool false) (by simp [w15PC]) (by simp [w15PC]) rfl (by rw [hsz0]; exact (by decide : 43 < 74))), hw⟩
    · intro L a w1 hI hi hd
      obtain ⟨hp, hw⟩ := hI
      simp [Region.binds] at hd
      have e3 : a.tmps.getD 43 undef = (.bool false) := hp.pu (3, 43, (.bool false)) (by simp [w15PC]) (by simp [hd])
      have f3 : a.tmps[43]?.getD undef = (.bool false) := by rw [← Array.getD_eq_getD_getElem?]; exact e3
      exact rstep_valW (wanted_none rfl _) (.bool true) w1 (by go_simp) ⟨(hp.put 4 44 (.bool true) (by simp [w15PC]) (by simp [w15PC]) rfl (by rw [hsz0]; exact (by decide : 44 < 74))), hw⟩
    · intro L a w1 hI hi hd
      obtain ⟨hp, hw⟩ := hI
      simp [Region.binds] at hd
      have e4 : a.tmps.getD 44 undef = (.bool true) := hp.pu (4, 44, (.bool true)) (by simp [w15PC]) (by simp [hd])
      have f4 : a.tmps[44]?.getD undef = (.bool true) := by rw [← Array.getD_eq_getD_getElem?]; exact e4
      exact rstep_valW (wanted_none rfl _) (.bool true) w1 (by go_simp) ⟨(hp.put 5 45 (.bool true) (by simp [w15PC]) (by simp [w15PC]) rfl (by rw [hsz0]; exact (by decide : 45 < 74))), hw⟩
    · intro L a w1 hI hi hd
      obtain ⟨hp, hw⟩ := hI
      simp [Region.binds] at hd
      have e5 : a.tmps.getD 45 undef = (.bool true) := hp.pu (5, 45, (.bool true)) (by simp [w15PC]) (by simp [hd])
      have f5 : a.tmps[45]?.getD undef = (.bool true) := by rw [← Array.getD_eq_getD_getElem?]; exact e5
      have t9 := hp.at_ 9 _ rfl z9
      have t9' := t9
      rw [Array.getD_eq_getD_getElem?] at t9'
      have c0 := hw.sn.k9.cell 0
      simp only [List.getElem?_toArray, List.getElem?_cons_zero] at c0
      exact rstep_valW (wanted_of 5 45 true rfl rfl e5) (.func (.func 9) #[] #[.pointer (some ⟨S.b3, 0, none⟩)]) w1 (by go_simp) ⟨(hp.put 6 46 (.func (.func 9) #[] #[.pointer (some ⟨S.b3, 0, none⟩)]) (by simp [w15PC]) (by simp [w15PC]) rfl (by rw [hsz0]; exact (by decide : 46 < 74))), hw⟩
    · intro L a w1 hI hi hd
      obtain ⟨hp, hw⟩ := hI
      simp [Region.binds] at hd
      have e5 : a.tmps.getD 45 undef = (.bool true) := hp.pu (5, 45, (.bool true)) (by simp [w15PC]) (by simp [hd])
      have f5 : a.tmps[45]?.getD undef = (.bool true) := by rw [← Array.getD_eq_getD_getElem?]; exact e5
      have t13 := hp.at_ 13 _ rfl z13
      have t13' := t13
      rw [Array.getD_eq_getD_getElem?] at t13'
      exact rstep_valW (wanted_of 5 45 true rfl rfl e5) (.pointer (some ⟨Bx, 0, none⟩)) w1 (by go_simp) ⟨(hp.put 7 47 (.pointer (some ⟨Bx, 0, none⟩)) (by simp [w15PC]) (by simp [w15PC]) rfl (by rw [hsz0]; exact (by decide : 47 < 74))), hw⟩
    · intro L a w1 hI hi hd
      obtain ⟨hp, hw⟩ := hI
      simp [Region.binds] at hd
      have e5 : a.tmps.getD 45 undef = (.bool true) := hp.pu (5, 45, (.bool true)) (by simp [w15PC]) (by simp [hd])
      have f5 : a.tmps[45]?.getD undef = (.bool true) := by rw [← Array.getD_eq_getD_getElem?]; exact e5
      have e7 : a.tmps.getD 47 undef = (.pointer (some ⟨Bx, 0, none⟩)) := hp.pu (7, 47, (.pointer (some ⟨Bx, 0, none⟩))) (by simp [w15PC]) (by simp [hd])
      have f7 : a.tmps[47]?.getD undef = (.pointer (some ⟨Bx, 0, none⟩)) := by rw [← Array.getD_eq_getD_getElem?]; exact e7
      have c0 := hw.hx.cell 0
      have c1 := hw.hx.cell 1
      have c2 := hw.hx.cell 2
      simp only [List.getElem?_toArray, List.getElem?_cons_zero, List.getElem?_cons_succ] at c0 c1 c2
      exact rstep_valW (wanted_of 5 45 true rfl rfl e5) (.int .u64 (t : Int)) w1 (by go_simp) ⟨(hp.put 8 48 (.int .u64 (t : Int)) (by simp [w15PC]) (by simp [w15PC]) rfl (by rw [hsz0]; exact (by decide : 48 < 74))), hw⟩
    · intro L a w1 hI hi hd
      obtain ⟨hp, hw⟩ := hI
      simp [Region.binds] at hd
      have e5 : a.tmps.getD 45 undef = (.bool true) := hp.pu (5, 45, (.bool true)) (by simp [w15PC]) (by simp [hd])
      have f5 : a.tmps[45]?.getD undef = (.bool true) := by rw [← Array.getD_eq_getD_getElem?]; exact e5
      have e6 : a.tmps.getD 46 undef = (.func (.func 9) #[] #[.pointer (some ⟨S.b3, 0, none⟩)]) := hp.pu (6, 46, (.func (.func 9) #[] #[.pointer (some ⟨S.b3, 0, none⟩)])) (by simp [w15PC]) (by simp [hd])
      have f6 : a.tmps[46]?.getD undef = (.func (.func 9) #[] #[.pointer (some ⟨S.b3, 0, none⟩)]) := by rw [← Array.getD_eq_getD_getElem?]; exact e6
      have e8 : a.tmps.getD 48 undef = (.int .u64 (t : Int)) := hp.pu (8, 48, (.int .u64 (t : Int))) (by simp [w15PC]) (by simp [hd])
      have f8 : a.tmps[48]?.getD undef = (.int .u64 (t : Int)) := by rw [← Array.getD_eq_getD_getElem?]; exact e8
      refine rstep_callW (wanted_of 5 45 true rfl rfl e5) 9 #[.int .u64 (t : Int), .pointer (some ⟨S.b3, 0, none⟩)] (by go_simp) ?_
      refine (open_any S.A2 S.c2 t S.b3 S.ks w1 (hL.below hw.sn.bel) (hw.sn.k3.cell 0)).mono ?_
      rintro e w2 ⟨rfl, hb2⟩
      rw [hop]
      exact ⟨(hp.put 9 49 (.bool false) (by simp [w15PC]) (by simp [w15PC]) rfl (by rw [hsz0]; exact (by decide : 49 < 74))), hw.below hb2⟩
    · intro L a w1 hI hi hd
      obtain ⟨hp, hw⟩ := hI
      simp [Region.binds] at hd
      have e5 : a.tmps.getD 45 undef = (.bool true) := hp.pu (5, 45, (.bool true)) (by simp [w15PC]) (by simp [hd])
      have f5 : a.tmps[45]?.getD undef = (.bool true) := by rw [← Array.getD_eq_getD_getElem?]; exact e5
      have e9 : a.tmps.getD 49 undef = (.bool false) := hp.pu (9, 49, (.bool false)) (by simp [w15PC]) (by simp [hd])
      have f9 : a.tmps[49]?.getD undef = (.bool false) := by rw [← Array.getD_eq_getD_getElem?]; exact e9
      exact rstep_valW (wanted_of 5 45 true rfl rfl e5) (.bool false) w1 (by go_simp) ⟨(hp.put 10 50 (.bool false) (by simp [w15PC]) (by simp [w15PC]) rfl (by rw [hsz0]; exact (by decide : 50 < 74))), hw⟩
    · intro L a w1 hI hi hd
      obtain ⟨hp, hw⟩ := hI
      simp [Region.binds] at hd
      have e10 : a.tmps.getD 50 undef = (.bool false) := hp.pu (10, 50, (.bool false)) (by simp [w15PC]) (by simp [hd])
      have f10 : a.tmps[50]?.getD undef = (.bool false) := by rw [← Array.getD_eq_getD_getElem?]; exact e10
      have t5 := hp.at_ 5 _ rfl z5
      have t5' := t5
      rw [Array.getD_eq_getD_getElem?] at t5'
      have c0 := hw.sn.k5.cell 0
      simp only [List.getElem?_toArray, List.getElem?_cons_zero] at c0
      exact rstep_valW (wanted_of 10 50 false rfl rfl e10) (.slice (some ⟨S.bs, 0, none⟩) S.N S.N) w1 (by go_simp) ⟨(hp.put 11 51 (.slice (some ⟨S.bs, 0, none⟩) S.N S.N) (by simp [w15PC]) (by simp [w15PC]) rfl (by rw [hsz0]; exact (by decide : 51 < 74))), hw⟩
    · intro L a w1 hI hi hd
      obtain ⟨hp, hw⟩ := hI
      simp [Region.binds] at hd
      have e10 : a.tmps.getD 50 undef = (.bool false) := hp.pu (10, 50, (.bool false)) (by simp [w15PC]) (by simp [hd])
      have f10 : a.tmps[50]?.getD undef = (.bool false) := by rw [← Array.getD_eq_getD_getElem?]; exact e10
      have t12 := hp.at_ 12 _ rfl z12
      have t12' := t12
      rw [Array.getD_eq_getD_getElem?] at t12'
      exact rstep_valW (wanted_of 10 50 false rfl rfl e10) (.int .i64 (i : Int)) w1 (by go_simp) ⟨(hp.put 12 52 (.int .i64 (i : Int)) (by simp [w15PC]) (by simp [w15PC]) rfl (by rw [hsz0]; exact (by decide : 52 < 74))), hw⟩
    · intro L a w1 hI hi hd
      obtain ⟨hp, hw⟩ := hI
      simp [Region.binds] at hd
      have e10 : a.tmps.getD 50 undef = (.bool false) := hp.pu (10, 50, (.bool false)) (by simp [w15PC]) (by simp [hd])
      have f10 : a.tmps[50]?.getD undef = (.bool false) := by rw [← Array.getD_eq_getD_getElem?]; exact e10
      have e11 : a.tmps.getD 51 undef = (.slice (some ⟨S.bs, 0, none⟩) S.N S.N) := hp.pu (11, 51, (.slice (some ⟨S.bs, 0, none⟩) S.N S.N)) (by simp [w15PC]) (by simp [hd])
      have f11 : a.tmps[51]?.getD undef = (.slice (some ⟨S.bs, 0, none⟩) S.N S.N) := by rw [← Array.getD_eq_getD_getElem?]; exact e11
      have e12 : a.tmps.getD 52 undef = (.int .i64 (i : Int)) := hp.pu (12, 52, (.int .i64 (i : Int))) (by simp [w15PC]) (by simp [hd])
      have f12 : a.tmps[52]?.getD undef = (.int .i64 (i : Int)) := by rw [← Array.getD_eq_getD_getElem?]; exact e12
      exact rstep_valW (wanted_of 10 50 false rfl rfl e10) (.pointer (some ⟨S.bs, i, none⟩)) w1 (by go_simp) ⟨(hp.put 13 53 (.pointer (some ⟨S.bs, i, none⟩)) (by simp [w15PC]) (by simp [w15PC]) rfl (by rw [hsz0]; exact (by decide : 53 < 74))), hw⟩
    · intro L a w1 hI hi hd
      obtain ⟨hp, hw⟩ := hI
      simp [Region.binds] at hd
      have e10 : a.tmps.getD 50 undef = (.bool false) := hp.pu (10, 50, (.bool false)) (by simp [w15PC]) (by simp [hd])
      have f10 : a.tmps[50]?.getD undef = (.bool false) := by rw [← Array.getD_eq_getD_getElem?]; exact e10
      have e13 : a.tmps.getD 53 undef = (.pointer (some ⟨S.bs, i, none⟩)) := hp.pu (13, 53, (.pointer (some ⟨S.bs, i, none⟩))) (by simp [w15PC]) (by simp [hd])
      have f13 : a.tmps[53]?.getD undef = (.pointer (some ⟨S.bs, i, none⟩)) := by rw [← Array.getD_eq_getD_getElem?]; exact e13
      have c0 := hw.sn.ks.cell i
      rw [bls_get hsn] at c0
      exact rstep_valW (wanted_of 10 50 false rfl rfl e10) (.bool false) w1 (by go_simp) ⟨(hp.put 14 54 (.bool false) (by simp [w15PC]) (by simp [w15PC]) rfl (by rw [hsz0]; exact (by decide : 54 < 74))), hw⟩
    · intro L a w1 hI hi hd
      obtain ⟨hp, hw⟩ := hI
      simp [Region.binds] at hd
      have e10 : a.tmps.getD 50 undef = (.bool false) := hp.pu (10, 50, (.bool false)) (by simp [w15PC]) (by simp [hd])
      have f10 : a.tmps[50]?.getD undef = (.bool false) := by rw [← Array.getD_eq_getD_getElem?]; exact e10
      have e14 : a.tmps.getD 54 undef = (.bool false) := hp.pu (14, 54, (.bool false)) (by simp [w15PC]) (by simp [hd])
      have f14 : a.tmps[54]?.getD undef = (.bool false) := by rw [← Array.getD_eq_getD_getElem?]; exact e14
      exact rstep_valW (wanted_of 10 50 false rfl rfl e10) (.bool false) w1 (by go_simp) ⟨(hp.put 15 55 (.bool false) (by simp [w15PC]) (by simp [w15PC]) rfl (by rw [hsz0]; exact (by decide : 55 < 74))), hw⟩
    · intro L a w1 hI hi hd
      obtain ⟨hp, hw⟩ := hI
      simp [Region.binds] at hd
      have e15 : a.tmps.getD 55 undef = (.bool false) := hp.pu (15, 55, (.bool false)) (by simp [w15PC]) (by simp [hd])
      have f15 : a.tmps[55]?.getD undef = (.bool false) := by rw [← Array.getD_eq_getD_getElem?]; exact e15
      have t13 := hp.at_ 13 _ rfl z13
      have t13' := t13
      rw [Array.getD_eq_getD_getElem?] at t13'
      exact rstep_un (unwanted_of 15 55 true false (by decide) rfl rfl e15) ⟨(hp.put 16 56 undef (by simp [w15PC]) (by simp [w15PC]) rfl (by rw [hsz0]; exact (by decide : 56 < 74))), hw⟩
    · intro L a w1 hI hi hd
      obtain ⟨hp, hw⟩ := hI
      simp [Region.binds] at hd
      have e15 : a.tmps.getD 55 undef = (.bool false) := hp.pu (15, 55, (.bool false)) (by simp [w15PC]) (by simp [hd])
      have f15 : a.tmps[55]?.getD undef = (.bool false) := by rw [← Array.getD_eq_getD_getElem?]; exact e15
      have e16 : a.tmps.getD 56 undef = undef := hp.pu (16, 56, undef) (by simp [w15PC]) (by simp [hd])
      have f16 : a.tmps[56]?.getD undef = undef := by rw [← Array.getD_eq_getD_getElem?]; exact e16
      exact rstep_un (unwanted_of 15 55 true false (by decide) rfl rfl e15) ⟨(hp.put 17 57 undef (by simp [w15PC]) (by simp [w15PC]) rfl (by rw [hsz0]; exact (by decide : 57 < 74))), hw⟩
    · intro L a w1 hI hi hd
      obtain ⟨hp, hw⟩ := hI
      simp [Region.binds] at hd
      have e15 : a.tmps.getD 55 undef = (.bool false) := hp.pu (15, 55, (.bool false)) (by simp [w15PC]) (by simp [hd])
      have f15 : a.tmps[55]?.getD undef = (.bool false) := by rw [← Array.getD_eq_getD_getElem?]; exact e15
      have e17 : a.tmps.getD 57 undef = undef := hp.pu (17, 57, undef) (by simp [w15PC]) (by simp [hd])
      have f17 : a.tmps[57]?.getD undef = undef := by rw [← Array.getD_eq_getD_getElem?]; exact e17
      exact rstep_un (unwanted_of 15 55 true false (by decide) rfl rfl e15) ⟨(hp.put 18 58 undef (by simp [w15PC]) (by simp [w15PC]) rfl (by rw [hsz0]; exact (by decide : 58 < 74))), hw⟩
    · intro L a w1 hI hi hd
      obtain ⟨hp, hw⟩ := hI
      simp [Region.binds] at hd
      have e15 : a.tmps.getD 55 undef = (.bool false) := hp.pu (15, 55, (.bool false)) (by simp [w15PC]) (by simp [hd])
      have f15 : a.tmps[55]?.getD undef = (.bool false) := by rw [← Array.getD_eq_getD_getElem?]; exact e15
      have e18 : a.tmps.getD 58 undef = undef := hp.pu (18, 58, undef) (by simp [w15PC]) (by simp [hd])
      have f18 : a.tmps[58]?.getD undef = undef := by rw [← Array.getD_eq_getD_getElem?]; exact e18
      exact rstep_un (unwanted_of 15 55 true false (by decide) rfl rfl e15) ⟨(hp.put 19 59 undef (by simp [w15PC]) (by simp [w15PC]) rfl (by rw [hsz0]; exact (by decide : 59 < 74))), hw⟩
    · intro L a w1 hI hi hd
      obtain ⟨hp, hw⟩ := hI
      simp [Region.binds] at hd
      have e19 : a.tmps.getD 59 undef = undef := hp.pu (19, 59, undef) (by simp [w15PC]) (by simp [hd])
      have f19 : a.tmps[59]?.getD undef = undef := by rw [← Array.getD_eq_getD_getElem?]; exact e19
      have t11 := hp.at_ 11 _ rfl z11
      have t11' := t11
      rw [Array.getD_eq_getD_getElem?] at t11'
      exact rstep_un (unwanted_undef 19 59 false rfl rfl e19) ⟨(hp.put 20 60 undef (by simp [w15PC]) (by simp [w15PC]) rfl (by rw [hsz0]; exact (by decide : 60 < 74))), hw⟩
    · intro L a w1 hI hi hd
      obtain ⟨hp, hw⟩ := hI
      simp [Region.binds] at hd
      have e15 : a.tmps.getD 55 undef = (.bool false) := hp.pu (15, 55, (.bool false)) (by simp [w15PC]) (by simp [hd])
      have f15 : a.tmps[55]?.getD undef = (.bool false) := by rw [← Array.getD_eq_getD_getElem?]; exact e15
      have e19 : a.tmps.getD 59 undef = undef := hp.pu (19, 59, undef) (by simp [w15PC]) (by simp [hd])
      have f19 : a.tmps[59]?.getD undef = undef := by rw [← Array.getD_eq_getD_getElem?]; exact e19
      have e20 : a.tmps.getD 60 undef = undef := hp.pu (20, 60, undef) (by simp [w15PC]) (by simp [hd])
      have f20 : a.tmps[60]?.getD undef = undef := by rw [← Array.getD_eq_getD_getElem?]; exact e20
      exact rstep_un (unwanted_of 15 55 true false (by decide) rfl rfl e15) ⟨(hp.put 21 61 undef (by simp [w15PC]) (by simp [w15PC]) rfl (by rw [hsz0]; exact (by decide : 61 < 74))), hw⟩
    · intro L a w1 hI hi hd
      obtain ⟨hp, hw⟩ := hI
      simp [Region.binds] at hd
      have e10 : a.tmps.getD 50 undef = (.bool false) := hp.pu (10, 50, (.bool false)) (by simp [w15PC]) (by simp [hd])
      have f10 : a.tmps[50]?.getD undef = (.bool false) := by rw [← Array.getD_eq_getD_getElem?]; exact e10
      have e15 : a.tmps.getD 55 undef = (.bool false) := hp.pu (15, 55, (.bool false)) (by simp [w15PC]) (by simp [hd])
      have f15 : a.tmps[55]?.getD undef = (.bool false) := by rw [← Array.getD_eq_getD_getElem?]; exact e15
      have e21 : a.tmps.getD 61 undef = undef := hp.pu (21, 61, undef) (by simp [w15PC]) (by simp [hd])
      have f21 : a.tmps[61]?.getD undef = undef := by rw [← Array.getD_eq_getD_getElem?]; exact e21
      exact rstep_valW (wanted_of 10 50 false rfl rfl e10) (.bool false) w1 (by go_simp) ⟨(hp.put 22 62 (.bool false) (by simp [w15PC]) (by simp [w15PC]) rfl (by rw [hsz0]; exact (by decide : 62 < 74))), hw⟩
    · intro L a w1 hI hi hd
      obtain ⟨hp, hw⟩ := hI
      simp [Region.binds] at hd
      have e5 : a.tmps.getD 45 undef = (.bool true) := hp.pu (5, 45, (.bool true)) (by simp [w15PC]) (by simp [hd])
      have f5 : a.tmps[45]?.getD undef = (.bool true) := by rw [← Array.getD_eq_getD_getElem?]; exact e5
      have e10 : a.tmps.getD 50 undef = (.bool false) := hp.pu (10, 50, (.bool false)) (by simp [w15PC]) (by simp [hd])
      have f10 : a.tmps[50]?.getD undef = (.bool false) := by rw [← Array.getD_eq_getD_getElem?]; exact e10
      have e22 : a.tmps.getD 62 undef = (.bool false) := hp.pu (22, 62, (.bool false)) (by simp [w15PC]) (by simp [hd])
      have f22 : a.tmps[62]?.getD undef = (.bool false) := by rw [← Array.getD_eq_getD_getElem?]; exact e22
      exact rstep_valW (wanted_of 5 45 true rfl rfl e5) (.bool false) w1 (by go_simp) ⟨(hp.put 23 63 (.bool false) (by simp [w15PC]) (by simp [w15PC]) rfl (by rw [hsz0]; exact (by decide : 63 < 74))), hw⟩
    · intro L a w1 hI hi hd
      obtain ⟨hp, hw⟩ := hI
      simp [Region.binds] at hd
      have e5 : a.tmps.getD 45 undef = (.bool true) := hp.pu (5, 45, (.bool true)) (by simp [w15PC]) (by simp [hd])
      have f5 : a.tmps[45]?.getD undef = (.bool true) := by rw [← Array.getD_eq_getD_getElem?]; exact e5
      have e23 : a.tmps.getD 63 undef = (.bool false) := hp.pu (23, 63, (.bool false)) (by simp [w15PC]) (by simp [hd])
      have f23 : a.tmps[63]?.getD undef = (.bool false) := by rw [← Array.getD_eq_getD_getElem?]; exact e23
      exact rstep_valW (wanted_none rfl _) (.bool false) w1 (by go_simp) ⟨(hp.put 24 64 (.bool false) (by simp [w15PC]) (by simp [w15PC]) rfl (by rw [hsz0]; exact (by decide : 64 < 74))), hw⟩
    · intro L a w1 hI hi hd
      obtain ⟨hp, hw⟩ := hI
      simp [Region.binds] at hd
      have e0 : a.tmps.getD 40 undef = (.slice (some ⟨S.bo, 0, none⟩) S.N S.N) := hp.pu (0, 40, (.slice (some ⟨S.bo, 0, none⟩) S.N S.N)) (by simp [w15PC]) (by simp [hd])
      have f0 : a.tmps[40]?.getD undef = (.slice (some ⟨S.bo, 0, none⟩) S.N S.N) := by rw [← Array.getD_eq_getD_getElem?]; exact e0
      have e1 : a.tmps.getD 41 undef = (.int .i64 (i : Int)) := hp.pu (1, 41, (.int .i64 (i : Int))) (by simp [w15PC]) (by simp [hd])
      have f1 : a.tmps[41]?.getD undef = (.int .i64 (i : Int)) := by rw [← Array.getD_eq_getD_getElem?]; exact e1
      exact rstep_valW (wanted_none rfl _) (.pointer (some ⟨S.bo, i, none⟩)) w1 (by go_simp) ⟨(hp.put 25 65 (.pointer (some ⟨S.bo, i, none⟩)) (by simp [w15PC]) (by simp [w15PC]) rfl (by rw [hsz0]; exact (by decide : 65 < 74))), hw⟩
    · intro L a w1 hI hi hd
      obtain ⟨hp, hw⟩ := hI
      simp [Region.binds] at hd
      have e24 : a.tmps.getD 64 undef = (.bool false) := hp.pu (24, 64, (.bool false)) (by simp [w15PC]) (by simp [hd])
      have f24 : a.tmps[64]?.getD undef = (.bool false) := by rw [← Array.getD_eq_getD_getElem?]; exact e24
      have e25 : a.tmps.getD 65 undef = (.pointer (some ⟨S.bo, i, none⟩)) := hp.pu (25, 65, (.pointer (some ⟨S.bo, i, none⟩))) (by simp [w15PC]) (by simp [hd])
      have f25 : a.tmps[65]?.getD undef = (.pointer (some ⟨S.bo, i, none⟩)) := by rw [← Array.getD_eq_getD_getElem?]; exact e25
      have cs := hw.sn.ko.cell i
      obtain ⟨v0, hv0⟩ : ∃ v, (bif L 26 then o.set i false else o)[i]? = some v := ⟨_, List.getElem?_eq_getElem (by rw [hi]; exact (by rw [ho]; exact hiN : i < o.length))⟩
      rw [bls_get hv0] at cs
      have fs := hw.sn.ko.frozen i
      have h3 := hw
      rw [hi] at h3
      exact rstep_skip rfl (w1.setCell ⟨S.bo, i, none⟩ (.bool false)) (by go_simp) ⟨(hp.skip 26 undef (by simp [w15PC])), h3.setO k hBo i false⟩
def w15PD (S : SnA) (Bx i t : Nat) (bh gone : Bool) : List (Nat × Nat × Value) := [(0, 40, (.slice (some ⟨S.bo, 0, none⟩) S.N S.N)), (1, 41, (.int .i64 (i : Int))), (2, 42, (.pointer (some ⟨Bx, 1, none⟩))), (3, 43, (.bool false)), (4, 44, (.bool true)), (5, 45, (.bool true)), (6, 46, (.func (.func 9) #[] #[.pointer (some ⟨S.b3, 0, none⟩)])), (7, 47, (.pointer (some ⟨Bx, 0, none⟩))), (8, 48, (.int .u64 (t : Int))), (9, 49, (.bool false)), (10, 50, (.bool false)), (11, 51, (.slice (some ⟨S.bs, 0, none⟩) S.N S.N)), (12, 52, (.int .i64 (i : Int))), (13, 53, (.pointer (some ⟨S.bs, i, none⟩))), (14, 54, (.bool true)), (15, 55, (.bool true)), (16, 56, (.pointer (some ⟨Bx, 2, none⟩))), (17, 57, (.bool false)), (18, 58, (.bool true)), (19, 59, (.bool true)), (20, 60, undef), (21, 61, (.bool true)), (22, 62, (.bool true)), (23, 63, (.bool true)), (24, 64, (.bool true)), (25, 65, (.pointer (some ⟨S.bo, i, none⟩)))]
set_option maxRecDepth 100000 in
set_option maxHeartbeats 16000000 in
theorem w15_D {S : SnA} {w0 W : World} {Bx i t n r : Nat} {o : List Bool} {bh gone : Bool} {Q : Exit → Act → World → Prop} (k : S.Ok w0) (hiN : i < S.N) (ho : o.length = S.N) (hsn : S.sl[i]? = some true) (hop : WanM.openB (lks S.ks) t = false) (hL : Lks w0 S.A2 S.ks) (hBo : Bx ≠ S.bo) {a0 : Act} {wv : World} (hA : AxF S.N i Bx S.b5 S.b9 S.b10 S.b11 a0) (h : Sr S w0 W Bx #[.int .u64 (t : Int), .bool false, .bool false] o bh wv)
    (hQ : ∀ a w', AxF S.N i Bx S.b5 S.b9 S.b10 S.b11 a → Sr S w0 W Bx #[.int .u64 (t : Int), .bool false, .bool false] (o.set i true) bh w' → Q .normal a w') : w15.wpIn (Fence.wide.inRound r) n Try.prog Q a0 wv := by
  obtain ⟨hdf, hsz0, z5, z9, z10, z11, z12, z13⟩ := hA
  refine wpIn_region_invB _ (by kernel_rfl) (fun L a wv => PIF a0 [40, 41, 42, 43, 44, 45, 46, 47, 48, 49, 50, 51, 52, 53, 54, 55, 56, 57, 58, 59, 60, 61, 62, 63, 64, 65] (w15PD S Bx i t bh gone) L a ∧ Sr S w0 W Bx #[.int .u64 (t : Int), .bool false, .bool false] (bif L 26 then o.set i true else o) bh wv) (by kernel_rfl) (by kernel_rfl) ?_ ?_ ?_
  · exact ⟨PIF.start _ _ _, h.drew⟩
  · rintro L a w' ⟨hp, hw⟩ hLL
    have h26 : L 26 = true := hLL 26 (by simp)
    rw [h26] at hw
    exact hQ a w' ⟨hp.df.trans hdf, hp.sz.trans hsz0, hp.at_ 5 _ rfl z5, hp.at_ 9 _ rfl z9, hp.at_ 10 _ rfl z10, hp.at_ 11 _ rfl z11, hp.at_ 12 _ rfl z12, hp.at_ 13 _ rfl z13⟩ hw
  · refine ⟨?_, ?_, ?_, ?_, ?_, ?_, ?_, ?_, ?_, ?_, ?_, ?_, ?_, ?_, ?_, ?_, ?_, ?_, ?_, ?_, ?_, ?_, ?_, ?_, ?_, ?_, ?_, trivial⟩
    · intro L a w1 hI hi hd
      obtain ⟨hp, hw⟩ := hI
      have t10 := hp.at_ 10 _ rfl z10
      have t10' := t10
      rw [Array.getD_eq_getD_getElem?] at t10'
      have c0 := hw.sn.k10.cell 0
      simp only [List.getElem?_toArray, List.getElem?_cons_zero] at c0
      exact rstep_valW (wanted_none rfl _) (.slice (some ⟨S.bo, 0, none⟩) S.N S.N) w1 (by go_simp) ⟨(hp.put 0 40 (.slice (some ⟨S.bo, 0, none⟩) S.N S.N) (by simp [w15PD]) (by simp [w15PD]) rfl (by rw [hsz0]; exact (by decide : 40 < 74))), hw⟩
    · intro L a w1 hI hi hd
      obtain ⟨hp, hw⟩ := hI
      have t12 := hp.at_ 12 _ rfl z12
      have t12' := t12
      rw [Array.getD_eq_getD_getElem?] at t12'
      exact rstep_valW (wanted_none rfl _) (.int .i64 (i : Int)) w1 (by go_simp) ⟨(hp.put 1 41 (.int .i64 (i : Int)) (by simp [w15PD]) (by simp [w15PD]) rfl (by rw [hsz0]; exact (by decide : 41 < 74))), hw⟩
    · intro L a w1 hI hi hd
      obtain ⟨hp, hw⟩ := hI
      have t13 := hp.at_ 13 _ rfl z13
      have t13' := t13
      rw [Array.getD_eq_getD_getElem?] at t13'
      exact rstep_valW (wanted_none rfl _) (.pointer (some ⟨Bx, 1, none⟩)) w1 (by go_simp) ⟨(hp.put 2 42 (.pointer (some ⟨Bx, 1, none⟩)) (by simp [w15PD]) (by simp [w15PD]) rfl (by rw [hsz0]; exact (by decide : 42 < 74))), hw⟩
    · intro L a w1 hI hi hd
      obtain ⟨hp, hw⟩ := hI
      simp [Region.binds] at hd
      have e2 : a.tmps.getD 42 undef = (.pointer (some ⟨Bx, 1, none⟩)) := hp.pu (2, 42, (.pointer (some ⟨Bx, 1, none⟩))) (by simp [w15PD]) (by simp [hd])
      have f2 : a.tmps[42]?.getD undef = (.pointer (some ⟨Bx, 1, none⟩)) := by rw [← Array.getD_eq_getD_getElem?]; exact e2
      have c0 := hw.hx.cell 0
      have c1 := hw.hx.cell 1
      have c2 := hw.hx.cell 2
      simp only [List.getElem?_toArray, List.getElem?_cons_zero, List.getElem?_cons_succ] at c0 c1 c2
      exact rstep_valW (wanted_none rfl _) (.bool false) w1 (by go_simp) ⟨(hp.put 3 43 (.bool false) (by simp [w15PD]) (by simp [w15PD]) rfl (by rw [hsz0]; exact (by decide : 43 < 74))), hw⟩
    · intro L a w1 hI hi hd
      obtain ⟨hp, hw⟩ := hI
      simp [Region.binds] at hd
      have e3 : a.tmps.getD 43 undef = (.bool false) := hp.pu (3, 43, (.bool false)) (by simp [w15PD]) (by simp [hd])
      have f3 : a.tmps[43]?.getD undef = (.bool false) := by rw [← Array.getD_eq_getD_getElem?]; exact e3
      exact rstep_valW (wanted_none rfl _) (.bool true) w1 (by go_simp) ⟨(hp.put 4 44 (.bool true) (by simp [w15PD]) (by simp [w15PD]) rfl (by rw [hsz0]; exact (by decide : 44 < 74))), hw⟩
    · intro L a w1 hI hi hd
      obtain ⟨hp, hw⟩ := hI
      simp [Region.binds] at hd
      have e4 : a.tmps.getD 44 undef = (.bool true) := hp.pu (4, 44, (.bool true)) (by simp [w15PD]) (by simp [hd])
      have f4 : a.tmps[44]?.getD undef = (.bool true) := by rw [← Array.getD_eq_getD_getElem?]; exact e4
      exact rstep_valW (wanted_none rfl _) (.bool true) w1 (by go_simp) ⟨(hp.put 5 45 (.bool true) (by simp [w15PD]) (by simp [w15PD]) rfl (by rw [hsz0]; exact (by decide : 45 < 74))), hw⟩
    · intro L a w1 hI hi hd
      obtain ⟨hp, hw⟩ := hI
      simp [Region.binds] at hd
      have e5 : a.tmps.getD 45 undef = (.bool true) := hp.pu (5, 45, (.bool true)) (by simp [w15PD]) (by simp [hd])
      have f5 : a.tmps[45]?.getD undef = (.bool true) := by rw [← Array.getD_eq_getD_getElem?]; exact e5
      have t9 := hp.at_ 9 _ rfl z9
      have t9' := t9
      rw [Array.getD_eq_getD_getElem?] at t9'
      have c0 := hw.sn.k9.cell 0
      simp only [List.getElem?_toArray, List.getElem?_cons_zero] at c0
      exact rstep_valW (wanted_of 5 45 true rfl rfl e5) (.func (.func 9) #[] #[.pointer (some ⟨S.b3, 0, none⟩)]) w1 (by go_simp) ⟨(hp.put 6 46 (.func (.func 9) #[] #[.pointer (some ⟨S.b3, 0, none⟩)]) (by simp [w15PD]) (by simp [w15PD]) rfl (by rw [hsz0]; exact (by decide : 46 < 74))), hw⟩
    · intro L a w1 hI hi hd
      obtain ⟨hp, hw⟩ := hI
      simp [Region.binds] at hd
      have e5 : a.tmps.getD 45 undef = (.bool true) := hp.pu (5, 45, (.bool true)) (by simp [w15PD]) (by simp [hd])
      have f5 : a.tmps[45]?.getD undef = (.bool true) := by rw [← Array.getD_eq_getD_getElem?]; exact e5
      have t13 := hp.at_ 13 _ rfl z13
      have t13' := t13
      rw [Array.getD_eq_getD_getElem?] at t13'
      exact rstep_valW (wanted_of 5 45 true rfl rfl e5) (.pointer (some ⟨Bx, 0, none⟩)) w1 (by go_simp) ⟨(hp.put 7 47 (.pointer (some ⟨Bx, 0, none⟩)) (by simp [w15PD]) (by simp [w15PD]) rfl (by rw [hsz0]; exact (by decide : 47 < 74))), hw⟩
    · intro L a w1 hI hi hd
      obtain ⟨hp, hw⟩ := hI
      simp [Region.binds] at hd
      have e5 : a.tmps.getD 45 undef = (.bool true) := hp.pu (5, 45, (.bool true)) (by simp [w15PD]) (by simp [hd])
      have f5 : a.tmps[45]?.getD undef = (.bool true) := by rw [← Array.getD_eq_getD_getElem?]; exact e5
      have e7 : a.tmps.getD 47 undef = (.pointer (some ⟨Bx, 0, none⟩)) := hp.pu (7, 47, (.pointer (some ⟨Bx, 0, none⟩))) (by simp [w15PD]) (by simp [hd])
      have f7 : a.tmps[47]?.getD undef = (.pointer (some ⟨Bx, 0, none⟩)) := by rw [← Array.getD_eq_getD_getElem?]; exact e7
      have c0 := hw.hx.cell 0
      have c1 := hw.hx.cell 1
      have c2 := hw.hx.cell 2
      simp only [List.getElem?_toArray, List.getElem?_cons_zero, List.getElem?_cons_succ] at c0 c1 c2
      exact rstep_valW (wanted_of 5 45 true rfl rfl e5) (.int .u64 (t : Int)) w1 (by go_simp) ⟨(hp.put 8 48 (.int .u64 (t : Int)) (by simp [w15PD]) (by simp [w15PD]) rfl (by rw [hsz0]; exact (by decide : 48 < 74))), hw⟩
    · intro L a w1 hI hi hd
      obtain ⟨hp, hw⟩ := hI
      simp [Region.binds] at hd
      have e5 : a.tmps.getD 45 undef = (.bool true) := hp.pu (5, 45, (.bool true)) (by simp [w15PD]) (by simp [hd])
      have f5 : a.tmps[45]?.getD undef = (.bool true) := by rw [← Array.getD_eq_getD_getElem?]; exact e5
      have e6 : a.tmps.getD 46 undef = (.func (.func 9) #[] #[.pointer (some ⟨S.b3, 0, none⟩)]) := hp.pu (6, 46, (.func (.func 9) #[] #[.pointer (some ⟨S.b3, 0, none⟩)])) (by simp [w15PD]) (by simp [hd])
      have f6 : a.tmps[46]?.getD undef = (.func (.func 9) #[] #[.pointer (some ⟨S.b3, 0, none⟩)]) := by rw [← Array.getD_eq_getD_getElem?]; exact e6
      have e8 : a.tmps.getD 48 undef = (.int .u64 (t : Int)) := hp.pu (8, 48, (.int .u64 (t : Int))) (by simp [w15PD]) (by simp [hd])
      have f8 : a.tmps[48]?.getD undef = (.int .u64 (t : Int)) := by rw [← Array.getD_eq_getD_getElem?]; exact e8
      refine rstep_callW (wanted_of 5 45 true rfl rfl e5) 9 #[.int .u64 (t : Int), .pointer (some ⟨S.b3, 0, none⟩)] (by go_simp) ?_
      refine (open_any S.A2 S.c2 t S.b3 S.ks w1 (hL.below hw.sn.bel) (hw.sn.k3.cell 0)).mono ?_
      rintro e w2 ⟨rfl, hb2⟩
      rw [hop]
      exact ⟨(hp.put 9 49 (.bool false) (by simp [w15PD]) (by simp [w15PD]) rfl (by rw [hsz0]; exact (by decide : 49 < 74))), hw.below hb2⟩
    · intro L a w1 hI hi hd
      obtain ⟨hp, hw⟩ := hI
      simp [Region.binds] at hd
      have e5 : a.tmps.getD 45 undef = (.bool true) := hp.pu (5, 45, (.bool true)) (by simp [w15PD]) (by simp [hd])
      have f5 : a.tmps[45]?.getD undef = (.bool true) := by rw [← Array.getD_eq_getD_getElem?]; exact e5
      have e9 : a.tmps.getD 49 undef = (.bool false) := hp.pu (9, 49, (.bool false)) (by simp [w15PD]) (by simp [hd])
      have f9 : a.tmps[49]?.getD undef = (.bool false) := by rw [← Array.getD_eq_getD_getElem?]; exact e9
      exact rstep_valW (wanted_of 5 45 true rfl rfl e5) (.bool false) w1 (by go_simp) ⟨(hp.put 10 50 (.bool false) (by simp [w15PD]) (by simp [w15PD]) rfl (by rw [hsz0]; exact (by decide : 50 < 74))), hw⟩
    · intro L a w1 hI hi hd
      obtain ⟨hp, hw⟩ := hI
      simp [Region.binds] at hd
      have e10 : a.tmps.getD 50 undef = (.bool false) := hp.pu (10, 50, (.bool false)) (by simp [w15PD]) (by simp [hd])
      have f10 : a.tmps[50]?.getD undef = (.bool false) := by rw [← Array.getD_eq_getD_getElem?]; exact e10
      have t5 := hp.at_ 5 _ rfl z5
      have t5' := t5
      rw [Array.getD_eq_getD_getElem?] at t5'
      have c0 := hw.sn.k5.cell 0
      simp only [List.getElem?_toArray, List.getElem?_cons_zero] at c0
      exact rstep_valW (wanted_of 10 50 false rfl rfl e10) (.slice (some ⟨S.bs, 0, none⟩) S.N S.N) w1 (by go_simp) ⟨(hp.put 11 51 (.slice (some ⟨S.bs, 0, none⟩) S.N S.N) (by simp [w15PD]) (by simp [w15PD]) rfl (by rw [hsz0]; exact (by decide : 51 < 74))), hw⟩
    · intro L a w1 hI hi hd
      obtain ⟨hp, hw⟩ := hI
      simp [Region.binds] at hd
      have e10 : a.tmps.getD 50 undef = (.bool false) := hp.pu (10, 50, (.bool false)) (by simp [w15PD]) (by simp [hd])
      have f10 : a.tmps[50]?.getD undef = (.bool false) := by rw [← Array.getD_eq_getD_getElem?]; exact e10
      have t12 := hp.at_ 12 _ rfl z12
      have t12' := t12
      rw [Array.getD_eq_getD_getElem?] at t12'
      exact rstep_valW (wanted_of 10 50 false rfl rfl e10) (.int .i64 (i : Int)) w1 (by go_simp) ⟨(hp.put 12 52 (.int .i64 (i : Int)) (by simp [w15PD]) (by simp [w15PD]) rfl (by rw [hsz0]; exact (by decide : 52 < 74))), hw⟩
    · intro L a w1 hI hi hd
      obtain ⟨hp, hw⟩ := hI
      simp [Region.binds] at hd
      have e10 : a.tmps.getD 50 undef = (.bool false) := hp.pu (10, 50, (.bool false)) (by simp [w15PD]) (by simp [hd])
      have f10 : a.tmps[50]?.getD undef = (.bool false) := by rw [← Array.getD_eq_getD_getElem?]; exact e10
      have e11 : a.tmps.getD 51 undef = (.slice (some ⟨S.bs, 0, none⟩) S.N S.N) := hp.pu (11, 51, (.slice (some ⟨S.bs, 0, none⟩) S.N S.N)) (by simp [w15PD]) (by simp [hd])
      have f11 : a.tmps[51]?.getD undef = (.slice (some ⟨S.bs, 0, none⟩) S.N S.N) := by rw [← Array.getD_eq_getD_getElem?]; exact e11
      have e12 : a.tmps.getD 52 undef = (.int .i64 (i : Int)) := hp.pu (12, 52, (.int .i64 (i : Int))) (by simp [w15PD]) (by simp [hd])
      have f12 : a.tmps[52]?.getD undef = (.int .i64 (i : Int)) := by rw [← Array.getD_eq_getD_getElem?]; exact e12
      exact rstep_valW (wanted_of 10 50 false rfl rfl e10) (.pointer (some ⟨S.bs, i, none⟩)) w1 (by go_simp) ⟨(hp.put 13 53 (.pointer (some ⟨S.bs, i, none⟩)) (by simp [w15PD]) (by simp [w15PD]) rfl (by rw [hsz0]; exact (by decide : 53 < 74))), hw⟩
    · intro L a w1 hI hi hd
      obtain ⟨hp, hw⟩ := hI
      simp [Region.binds] at hd
      have e10 : a.tmps.getD 50 undef = (.bool false) := hp.pu (10, 50, (.bool false)) (by simp [w15PD]) (by simp [hd])
      have f10 : a.tmps[50]?.getD undef = (.bool false) := by rw [← Array.getD_eq_getD_getElem?]; exact e10
      have e13 : a.tmps.getD 53 undef = (.pointer (some ⟨S.bs, i, none⟩)) := hp.pu (13, 53, (.pointer (some ⟨S.bs, i, none⟩))) (by simp [w15PD]) (by simp [hd])
      have f13 : a.tmps[53]?.getD undef = (.pointer (some ⟨S.bs, i, none⟩)) := by rw [← Array.getD_eq_getD_getElem?]; exact e13
      have c0 := hw.sn.ks.cell i
      rw [bls_get hsn] at c0
      exact rstep_valW (wanted_of 10 50 false rfl rfl e10) (.bool true) w1 (by go_simp) ⟨(hp.put 14 54 (.bool true) (by simp [w15PD]) (by simp [w15PD]) rfl (by rw [hsz0]; exact (by decide : 54 < 74))), hw⟩
    · intro L a w1 hI hi hd
      obtain ⟨hp, hw⟩ := hI
      simp [Region.binds] at hd
      have e10 : a.tmps.getD 50 undef = (.bool false) := hp.pu (10, 50, (.bool false)) (by simp [w15PD]) (by simp [hd])
      have f10 : a.tmps[50]?.getD undef = (.bool false) := by rw [← Array.getD_eq_getD_getElem?]; exact e10
      have e14 : a.tmps.getD 54 undef = (.bool true) := hp.pu (14, 54, (.bool true)) (by simp [w15PD]) (by simp [hd])
      have f14 : a.tmps[54]?.getD undef = (.bool true) := by rw [← Array.getD_eq_getD_getElem?]; exact e14
      exact rstep_valW (wanted_of 10 50 false rfl rfl e10) (.bool true) w1 (by go_simp) ⟨(hp.put 15 55 (.bool true) (by simp [w15PD]) (by simp [w15PD]) rfl (by rw [hsz0]; exact (by decide : 55 < 74))), hw⟩
    · intro L a w1 hI hi hd
      obtain ⟨hp, hw⟩ := hI
      simp [Region.binds] at hd
      have e15 : a.tmps.getD 55 undef = (.bool true) := hp.pu (15, 55, (.bool true)) (by simp [w15PD]) (by simp [hd])
      have f15 : a.tmps[55]?.getD undef = (.bool true) := by rw [← Array.getD_eq_getD_getElem?]; exact e15
      have t13 := hp.at_ 13 _ rfl z13
      have t13' := t13
      rw [Array.getD_eq_getD_getElem?] at t13'
      exact rstep_valW (wanted_of 15 55 true rfl rfl e15) (.pointer (some ⟨Bx, 2, none⟩)) w1 (by go_simp) ⟨(hp.put 16 56 (.pointer (some ⟨Bx, 2, none⟩)) (by simp [w15PD]) (by simp [w15PD]) rfl (by rw [hsz0]; exact (by decide : 56 < 74))), hw⟩
    · intro L a w1 hI hi hd
      obtain ⟨hp, hw⟩ := hI
      simp [Region.binds] at hd
      have e15 : a.tmps.getD 55 undef = (.bool true) := hp.pu (15, 55, (.bool true)) (by simp [w15PD]) (by simp [hd])
      have f15 : a.tmps[55]?.getD undef = (.bool true) := by rw [← Array.getD_eq_getD_getElem?]; exact e15
      have e16 : a.tmps.getD 56 undef = (.pointer (some ⟨Bx, 2, none⟩)) := hp.pu (16, 56, (.pointer (some ⟨Bx, 2, none⟩))) (by simp [w15PD]) (by simp [hd])
      have f16 : a.tmps[56]?.getD undef = (.pointer (some ⟨Bx, 2, none⟩)) := by rw [← Array.getD_eq_getD_getElem?]; exact e16
      have c0 := hw.hx.cell 0
      have c1 := hw.hx.cell 1
      have c2 := hw.hx.cell 2
      simp only [List.getElem?_toArray, List.getElem?_cons_zero, List.getElem?_cons_succ] at c0 c1 c2
      exact rstep_valW (wanted_of 15 55 true rfl rfl e15) (.bool false) w1 (by go_simp) ⟨(hp.put 17 57 (.bool false) (by simp [w15PD]) (by simp [w15PD]) rfl (by rw [hsz0]; exact (by decide : 57 < 74))), hw⟩
    · intro L a w1 hI hi hd
      obtain ⟨hp, hw⟩ := hI
      simp [Region.binds] at hd
      have e15 : a.tmps.getD 55 undef = (.bool true) := hp.pu (15, 55, (.bool true)) (by simp [w15PD]) (by simp [hd])
      have f15 : a.tmps[55]?.getD undef = (.bool true) := by rw [← Array.getD_eq_getD_getElem?]; exact e15
      have e17 : a.tmps.getD 57 undef = (.bool false) := hp.pu (17, 57, (.bool false)) (by simp [w15PD]) (by simp [hd])
      have f17 : a.tmps[57]?.getD undef = (.bool false) := by rw [← Array.getD_eq_getD_getElem?]; exact e17
      exact rstep_valW (wanted_of 15 55 true rfl rfl e15) (.bool true) w1 (by go_simp) ⟨(hp.put 18 58 (.bool true) (by simp [w15PD]) (by simp [w15PD]) rfl (by rw [hsz0]; exact (by decide : 58 < 74))), hw⟩
    · intro L a w1 hI hi hd
      obtain ⟨hp, hw⟩ := hI
      simp [Region.binds] at hd
      have e15 : a.tmps.getD 55 undef = (.bool true) := hp.pu (15, 55, (.bool true)) (by simp [w15PD]) (by simp [hd])
      have f15 : a.tmps[55]?.getD undef = (.bool true) := by rw [← Array.getD_eq_getD_getElem?]; exact e15
      have e18 : a.tmps.getD 58 undef = (.bool true) := hp.pu (18, 58, (.bool true)) (by simp [w15PD]) (by simp [hd])
      have f18 : a.tmps[58]?.getD undef = (.bool true) := by rw [← Array.getD_eq_getD_getElem?]; exact e18
      exact rstep_valW (wanted_of 15 55 true rfl rfl e15) (.bool true) w1 (by go_simp) ⟨(hp.put 19 59 (.bool true) (by simp [w15PD]) (by simp [w15PD]) rfl (by rw [hsz0]; exact (by decide : 59 < 74))), hw⟩
    · intro L a w1 hI hi hd
      obtain ⟨hp, hw⟩ := hI
      simp [Region.binds] at hd
      have e19 : a.tmps.getD 59 undef = (.bool true) := hp.pu (19, 59, (.bool true)) (by simp [w15PD]) (by simp [hd])
      have f19 : a.tmps[59]?.getD undef = (.bool true) := by rw [← Array.getD_eq_getD_getElem?]; exact e19
      have t11 := hp.at_ 11 _ rfl z11
      have t11' := t11
      rw [Array.getD_eq_getD_getElem?] at t11'
      exact rstep_un (unwanted_of 19 59 false true (by decide) rfl rfl e19) ⟨(hp.put 20 60 undef (by simp [w15PD]) (by simp [w15PD]) rfl (by rw [hsz0]; exact (by decide : 60 < 74))), hw⟩
    · intro L a w1 hI hi hd
      obtain ⟨hp, hw⟩ := hI
      simp [Region.binds] at hd
      have e15 : a.tmps.getD 55 undef = (.bool true) := hp.pu (15, 55, (.bool true)) (by simp [w15PD]) (by simp [hd])
      have f15 : a.tmps[55]?.getD undef = (.bool true) := by rw [← Array.getD_eq_getD_getElem?]; exact e15
      have e19 : a.tmps.getD 59 undef = (.bool true) := hp.pu (19, 59, (.bool true)) (by simp [w15PD]) (by simp [hd])
      have f19 : a.tmps[59]?.getD undef = (.bool true) := by rw [← Array.getD_eq_getD_getElem?]; exact e19
      have e20 : a.tmps.getD 60 undef = undef := hp.pu (20, 60, undef) (by simp [w15PD]) (by simp [hd])
      have f20 : a.tmps[60]?.getD undef = undef := by rw [← Array.getD_eq_getD_getElem?]; exact e20
      exact rstep_valW (wanted_of 15 55 true rfl rfl e15) (.bool true) w1 (by go_simp) ⟨(hp.put 21 61 (.bool true) (by simp [w15PD]) (by simp [w15PD]) rfl (by rw [hsz0]; exact (by decide : 61 < 74))), hw⟩
    · intro L a w1 hI hi hd
      obtain ⟨hp, hw⟩ := hI
      simp [Region.binds] at hd
      have e10 : a.tmps.getD 50 undef = (.bool false) := hp.pu (10, 50, (.bool false)) (by simp [w15PD]) (by simp [hd])
      have f10 : a.tmps[50]?.getD undef = (.bool false) := by rw [← Array.getD_eq_getD_getElem?]; exact e10
      have e15 : a.tmps.getD 55 undef = (.bool true) := hp.pu (15, 55, (.bool true)) (by simp [w15PD]) (by simp [hd])
      have f15 : a.tmps[55]?.getD undef = (.bool true) := by rw [← Array.getD_eq_getD_getElem?]; exact e15
      have e21 : a.tmps.getD 61 undef = (.bool true) := hp.pu (21, 61, (.bool true)) (by simp [w15PD]) (by simp [hd])
      have f21 : a.tmps[61]?.getD undef = (.bool true) := by rw [← Array.getD_eq_getD_getElem?]; exact e21
      exact rstep_valW (wanted_of 10 50 false rfl rfl e10) (.bool true) w1 (by go_simp) ⟨(hp.put 22 62 (.bool true) (by simp [w15PD]) (by simp [w15PD]) rfl (by rw [hsz0]; exact (by decide : 62 < 74))), hw⟩
    · intro L a w1 hI hi hd
      obtain ⟨hp, hw⟩ := hI
      simp [Region.binds] at hd
      have e5 : a.tmps.getD 45 undef = (.bool true) := hp.pu (5, 45, (.bool true)) (by simp [w15PD]) (by simp [hd])
      have f5 : a.tmps[45]?.getD undef = (.bool true) := by rw [← Array.getD_eq_getD_getElem?]; exact e5
      have e10 : a.tmps.getD 50 undef = (.bool false) := hp.pu (10, 50, (.bool false)) (by simp [w15PD]) (by simp [hd])
      have f10 : a.tmps[50]?.getD undef = (.bool false) := by rw [← Array.getD_eq_getD_getElem?]; exact e10
      have e22 : a.tmps.getD 62 undef = (.bool true) := hp.pu (22, 62, (.bool true)) (by simp [w15PD]) (by simp [hd])
      have f22 : a.tmps[62]?.getD undef = (.bool true) := by rw [← Array.getD_eq_getD_getElem?]; exact e22
      exact rstep_valW (wanted_of 5 45 true rfl rfl e5) (.bool true) w1 (by go_simp) ⟨(hp.put 23 63 (.bool true) (by simp [w15PD]) (by simp [w15PD]) rfl (by rw [hsz0]; exact (by decide : 63 < 74))), hw⟩
    · intro L a w1 hI hi hd
      obtain ⟨hp, hw⟩ := hI
      simp [Region.binds] at hd
      have e5 : a.tmps.getD 45 undef = (.bool true) := hp.pu (5, 45, (.bool true)) (by simp [w15PD]) (by simp [hd])
      have f5 : a.tmps[45]?.getD undef = (.bool true) := by rw [← Array.getD_eq_getD_getElem?]; exact e5
      have e23 : a.tmps.getD 63 undef = (.bool true) := hp.pu (23, 63, (.bool true)) (by simp [w15PD]) (by simp [hd])
      have f23 : a.tmps[63]?.getD undef = (.bool true) := by rw [← Array.getD_eq_getD_getElem?]; exact e23
      exact rstep_valW (wanted_none rfl _) (.bool true) w1 (by go_simp) ⟨(hp.put 24 64 (.bool true) (by simp [w15PD]) (by simp [w15PD]) rfl (by rw [hsz0]; exact (by decide : 64 < 74))), hw⟩
    · intro L a w1 hI hi hd
      obtain ⟨hp, hw⟩ := hI
      simp [Region.binds] at hd
      have e0 : a.tmps.getD 40 undef = (.slice (some ⟨S.bo, 0, none⟩) S.N S.N) := hp.pu (0, 40, (.slice (some ⟨S.bo, 0, none⟩) S.N S.N)) (by simp [w15PD]) (by simp [hd])
      have f0 : a.tmps[40]?.getD undef = (.slice (some ⟨S.bo, 0, none⟩) S.N S.N) := by rw [← Array.getD_eq_getD_getElem?]; exact e0
      have e1 : a.tmps.getD 41 undef = (.int .i64 (i : Int)) := hp.pu (1, 41, (.int .i64 (i : Int))) (by simp [w15PD]) (by simp [hd])
      have f1 : a.tmps[41]?.getD undef = (.int .i64 (i : Int)) := by rw [← Array.getD_eq_getD_getElem?]; exact e1
      exact rstep_valW (wanted_none rfl _) (.pointer (some ⟨S.bo, i, none⟩)) w1 (by go_simp) ⟨(hp.put 25 65 (.pointer (some ⟨S.bo, i, none⟩)) (by simp [w15PD]) (by simp [w15PD]) rfl (by rw [hsz0]; exact (by decide : 65 < 74))), hw⟩
    · intro L a w1 hI hi hd
      obtain ⟨hp, hw⟩ := hI
      simp [Region.binds] at hd
      have e24 : a.tmps.getD 64 undef = (.bool true) := hp.pu (24, 64, (.bool true)) (by simp [w15PD]) (by simp [hd])
      have f24 : a.tmps[64]?.getD undef = (.bool true) := by rw [← Array.getD_eq_getD_getElem?]; exact e24
      have e25 : a.tmps.getD 65 undef = (.pointer (some ⟨S.bo, i, none⟩)) := hp.pu (25, 65, (.pointer (some ⟨S.bo, i, none⟩))) (by simp [w15PD]) (by simp [hd])
      have f25 : a.tmps[65]?.getD undef = (.pointer (some ⟨S.bo, i, none⟩)) := by rw [← Array.getD_eq_getD_getElem?]; exact e25
      have cs := hw.sn.ko.cell i
      obtain ⟨v0, hv0⟩ : ∃ v, (bif L 26 then o.set i true else o)[i]? = some v := ⟨_, List.getElem?_eq_getElem (by rw [hi]; exact (by rw [ho]; exact hiN : i < o.length))⟩
      rw [bls_get hv0] at cs
      have fs := hw.sn.ko.frozen i
      have h3 := hw
      rw [hi] at h3
      exact rstep_skip rfl (w1.setCell ⟨S.bo, i, none⟩ (.bool true)) (by go_simp) ⟨(hp.skip 26 undef (by simp [w15PD])), h3.setO k hBo i true⟩
def w15PE (S : SnA) (Bx i t : Nat) (bh gone : Bool) : List (Nat × Nat × Value) := [(0, 40, (.slice (some ⟨S.bo, 0, none⟩) S.N S.N)), (1, 41, (.int .i64 (i : Int))), (2, 42, (.pointer (some ⟨Bx, 1, none⟩))), (3, 43, (.bool false)), (4, 44, (.bool true)), (5, 45, (.bool true)), (6, 46, (.func (.func 9) #[] #[.pointer (some ⟨S.b3, 0, none⟩)])), (7, 47, (.pointer (some ⟨Bx, 0, none⟩))), (8, 48, (.int .u64 (t : Int))), (9, 49, (.bool false)), (10, 50, (.bool false)), (11, 51, (.slice (some ⟨S.bs, 0, none⟩) S.N S.N)), (12, 52, (.int .i64 (i : Int))), (13, 53, (.pointer (some ⟨S.bs, i, none⟩))), (14, 54, (.bool true)), (15, 55, (.bool true)), (16, 56, (.pointer (some ⟨Bx, 2, none⟩))), (17, 57, (.bool true)), (18, 58, (.bool false)), (19, 59, (.bool false)), (20, 60, (.bool bh)), (21, 61, (.bool bh)), (22, 62, (.bool bh)), (23, 63, (.bool bh)), (24, 64, (.bool bh)), (25, 65, (.pointer (some ⟨S.bo, i, none⟩)))]
set_option maxRecDepth 100000 in
set_option maxHeartbeats 16000000 in
theorem w15_E {S : SnA} {w0 W : World} {Bx i t n r : Nat} {o : List Bool} {bh gone : Bool} {Q : Exit → Act → World → Prop} (k : S.Ok w0) (hiN : i < S.N) (ho : o.length = S.N) (hsn : S.sl[i]? = some true) (hop : WanM.openB (lks S.ks) t = false) (hL : Lks w0 S.A2 S.ks) (hBo : Bx ≠ S.bo) {a0 : Act} {wv : World} (hA : AxF S.N i Bx S.b5 S.b9 S.b10 S.b11 a0) (h : Sr S w0 W Bx #[.int .u64 (t : Int), .bool false, .bool true] o bh wv)
    (hQ : ∀ a w', AxF S.N i Bx S.b5 S.b9 S.b10 S.b11 a → Sr S w0 W Bx #[.int .u64 (t : Int), .bool false, .bool true] (o.set i bh) bh w' → Q .normal a w') : w15.wpIn (Fence.wide.inRound r) n Try.prog Q a0 wv := by
  obtain ⟨hdf, hsz0, z5, z9, z10, z11, z12, z13⟩ := hA
  refine wpIn_region_invB _ (by kernel_rfl) (fun L a wv => PIF a0 [40, 41, 42, 43, 44, 45, 46, 47, 48, 49, 50, 51, 52, 53, 54, 55, 56, 57, 58, 59, 60, 61, 62, 63, 64, 65] (w15PE S Bx i t bh gone) L a ∧ Sr S w0 W Bx #[.int .u64 (t : Int), .bool false, .bool true] (bif L 26 then o.set i bh else o) bh wv) (by kernel_rfl) (by kernel_rfl) ?_ ?_ ?_
  · exact ⟨PIF.start _ _ _, h.drew⟩
  · rintro L a w' ⟨hp, hw⟩ hLL
    have h26 : L 26 = true := hLL 26 (by simp)
    rw [h26] at hw
    exact hQ a w' ⟨hp.df.trans hdf, hp.sz.trans hsz0, hp.at_ 5 _ rfl z5, hp.at_ 9 _ rfl z9, hp.at_ 10 _ rfl z10, hp.at_ 11 _ rfl z11, hp.at_ 12 _ rfl z12, hp.at_ 13 _ rfl z13⟩ hw
  · refine ⟨?_, ?_, ?_, ?_, ?_, ?_, ?_, ?_, ?_, ?_, ?_, ?_, ?_, ?_, ?_, ?_, ?_, ?_, ?_, ?_, ?_, ?_, ?_, ?_, ?_, ?_, ?_, trivial⟩
    · intro L a w1 hI hi hd
      obtain ⟨hp, hw⟩ := hI
      have t10 := hp.at_ 10 _ rfl z10
      have t10' := t10
      rw [Array.getD_eq_getD_getElem?] at t10'
      have c0 := hw.sn.k10.cell 0
      simp only [List.getElem?_toArray, List.getElem?_cons_zero] at c0
      exact rstep_valW (wanted_none rfl _) (.slice (some ⟨S.bo, 0, none⟩) S.N S.N) w1 (by go_simp) ⟨(hp.put 0 40 (.slice (some ⟨S.bo, 0, none⟩) S.N S.N) (by simp [w15PE]) (by simp [w15PE]) rfl (by rw [hsz0]; exact (by decide : 40 < 74))), hw⟩
    · intro L a w1 hI hi hd
      obtain ⟨hp, hw⟩ := hI
      have t12 := hp.at_ 12 _ rfl z12
      have t12' := t12
      rw [Array.getD_eq_getD_getElem?] at t12'
      exact rstep_valW (wanted_none rfl _) (.int .i64 (i : Int)) w1 (by go_simp) ⟨(hp.put 1 41 (.int .i64 (i : Int)) (by simp [w15PE]) (by simp [w15PE]) rfl (by rw [hsz0]; exact (by decide : 41 < 74))), hw⟩
    · intro L a w1 hI hi hd
      obtain ⟨hp, hw⟩ := hI
      have t13 := hp.at_ 13 _ rfl z13
      have t13' := t13
      rw [Array.getD_eq_getD_getElem?] at t13'
      exact rstep_valW (wanted_none rfl _) (.pointer (some ⟨Bx, 1, none⟩)) w1 (by go_simp) ⟨(hp.put 2 42 (.pointer (some ⟨Bx, 1, none⟩)) (by simp [w15PE]) (by simp [w15PE]) rfl (by rw [hsz0]; exact (by decide : 42 < 74))), hw⟩
    · intro L a w1 hI hi hd
      obtain ⟨hp, hw⟩ := hI
      simp [Region.binds] at hd
      have e2 : a.tmps.getD 42 undef = (.pointer (some ⟨Bx, 1, none⟩)) := hp.pu (2, 42, (.pointer (some ⟨Bx, 1, none⟩))) (by simp [w15PE]) (by simp [hd])
      have f2 : a.tmps[42]?.getD undef = (.pointer (some ⟨Bx, 1, none⟩)) := by rw [← Array.getD_eq_getD_getElem?]; exact e2
      have c0 := hw.hx.cell 0
      have c1 := hw.hx.cell 1
      have c2 := hw.hx.cell 2
      simp only [List.getElem?_toArray, List.getElem?_cons_zero, List.getElem?_cons_succ] at c0 c1 c2
      exact rstep_valW (wanted_none rfl _) (.bool false) w1 (by go_simp) ⟨(hp.put 3 43 (.bool false) (by simp [w15PE]) (by simp [w15PE]) rfl (by rw [hsz0]; exact (by decide : 43 < 74))), hw⟩
    · intro L a w1 hI hi hd
      obtain ⟨hp, hw⟩ := hI
      simp [Region.binds] at hd
      have e3 : a.tmps.getD 43 undef = (.bool false) := hp.pu (3, 43, (.bool false)) (by simp [w15PE]) (by simp [hd])
      have f3 : a.tmps[43]?.getD undef = (.bool false) := by rw [← Array.getD_eq_getD_getElem?]; exact e3
      exact rstep_valW (wanted_none rfl _) (.bool true) w1 (by go_simp) ⟨(hp.put 4 44 (.bool true) (by simp [w15PE]) (by simp [w15PE]) rfl (by rw [hsz0]; exact (by decide : 44 < 74))), hw⟩
    · intro L a w1 hI hi hd
      obtain ⟨hp, hw⟩ := hI
      simp [Region.binds] at hd
      have e4 : a.tmps.getD 44 undef = (.bool true) := hp.pu (4, 44, (.bool true)) (by simp [w15PE]) (by simp [hd])
      have f4 : a.tmps[44]?.getD undef = (.bool true) := by rw [← Array.getD_eq_getD_getElem?]; exact e4
      exact rstep_valW (wanted_none rfl _) (.bool true) w1 (by go_simp) ⟨(hp.put 5 45 (.bool true) (by simp [w15PE]) (by simp [w15PE]) rfl (by rw [hsz0]; exact (by decide : 45 < 74))), hw⟩
    · intro L a w1 hI hi hd
      obtain ⟨hp, hw⟩ := hI
      simp [Region.binds] at hd
      have e5 : a.tmps.getD 45 undef = (.bool true) := hp.pu (5, 45, (.bool true)) (by simp [w15PE]) (by simp [hd])
      have f5 : a.tmps[45]?.getD undef = (.bool true) := by rw [← Array.getD_eq_getD_getElem?]; exact e5
      have t9 := hp.at_ 9 _ rfl z9
      have t9' := t9
      rw [Array.getD_eq_getD_getElem?] at t9'
      have c0 := hw.sn.k9.cell 0
      simp only [List.getElem?_toArray, List.getElem?_cons_zero] at c0
      exact rstep_valW (wanted_of 5 45 true rfl rfl e5) (.func (.func 9) #[] #[.pointer (some ⟨S.b3, 0, none⟩)]) w1 (by go_simp) ⟨(hp.put 6 46 (.func (.func 9) #[] #[.pointer (some ⟨S.b3, 0, none⟩)]) (by simp [w15PE]) (by simp [w15PE]) rfl (by rw [hsz0]; exact (by decide : 46 < 74))), hw⟩
    · intro L a w1 hI hi hd
      obtain ⟨hp, hw⟩ := hI
      simp [Region.binds] at hd
      have e5 : a.tmps.getD 45 undef = (.bool true) := hp.pu (5, 45, (.bool true)) (by simp [w15PE]) (by simp [hd])
      have f5 : a.tmps[45]?.getD undef = (.bool true) := by rw [← Array.getD_eq_getD_getElem?]; exact e5
      have t13 := hp.at_ 13 _ rfl z13
      have t13' := t13
      rw [Array.getD_eq_getD_getElem?] at t13'
      exact rstep_valW (wanted_of 5 45 true rfl rfl e5) (.pointer (some ⟨Bx, 0, none⟩)) w1 (by go_simp) ⟨(hp.put 7 47 (.pointer (some ⟨Bx, 0, none⟩)) (by simp [w15PE]) (by simp [w15PE]) rfl (by rw [hsz0]; exact (by decide : 47 < 74))), hw⟩
    · intro L a w1 hI hi hd
      obtain ⟨hp, hw⟩ := hI
      simp [Region.binds] at hd
      have e5 : a.tmps.getD 45 undef = (.bool true) := hp.pu (5, 45, (.bool true)) (by simp [w15PE]) (by simp [hd])
      have f5 : a.tmps[45]?.getD undef = (.bool true) := by rw [← Array.getD_eq_getD_getElem?]; exact e5
      have e7 : a.tmps.getD 47 undef = (.pointer (some ⟨Bx, 0, none⟩)) := hp.pu (7, 47, (.pointer (some ⟨Bx, 0, none⟩))) (by simp [w15PE]) (by simp [hd])
      have f7 : a.tmps[47]?.getD undef = (.pointer (some ⟨Bx, 0, none⟩)) := by rw [← Array.getD_eq_getD_getElem?]; exact e7
      have c0 := hw.hx.cell 0
      have c1 := hw.hx.cell 1
      have c2 := hw.hx.cell 2
      simp only [List.getElem?_toArray, List.getElem?_cons_zero, List.getElem?_cons_succ] at c0 c1 c2
      exact rstep_valW (wanted_of 5 45 true rfl rfl e5) (.int .u64 (t : Int)) w1 (by go_simp) ⟨(hp.put 8 48 (.int .u64 (t : Int)) (by simp [w15PE]) (by simp [w15PE]) rfl (by rw [hsz0]; exact (by decide : 48 < 74))), hw⟩
    · intro L a w1 hI hi hd
      obtain ⟨hp, hw⟩ := hI
      simp [Region.binds] at hd
      have e5 : a.tmps.getD 45 undef = (.bool true) := hp.pu (5, 45, (.bool true)) (by simp [w15PE]) (by simp [hd])
      have f5 : a.tmps[45]?.getD undef = (.bool true) := by rw [← Array.getD_eq_getD_getElem?]; exact e5
      have e6 : a.tmps.getD 46 undef = (.func (.func 9) #[] #[.pointer (some ⟨S.b3, 0, none⟩)]) := hp.pu (6, 46, (.func (.func 9) #[] #[.pointer (some ⟨S.b3, 0, none⟩)])) (by simp [w15PE]) (by simp [hd])
      have f6 : a.tmps[46]?.getD undef = (.func (.func 9) #[] #[.pointer (some ⟨S.b3, 0, none⟩)]) := by rw [← Array.getD_eq_getD_getElem?]; exact e6
      have e8 : a.tmps.getD 48 undef = (.int .u64 (t : Int)) := hp.pu (8, 48, (.int .u64 (t : Int))) (by simp [w15PE]) (by simp [hd])
      have f8 : a.tmps[48]?.getD undef = (.int .u64 (t : Int)) := by rw [← Array.getD_eq_getD_getElem?]; exact e8
      refine rstep_callW (wanted_of 5 45 true rfl rfl e5) 9 #[.int .u64 (t : Int), .pointer (some ⟨S.b3, 0, none⟩)] (by go_simp) ?_
      refine (open_any S.A2 S.c2 t S.b3 S.ks w1 (hL.below hw.sn.bel) (hw.sn.k3.cell 0)).mono ?_
      rintro e w2 ⟨rfl, hb2⟩
      rw [hop]
      exact ⟨(hp.put 9 49 (.bool false) (by simp [w15PE]) (by simp [w15PE]) rfl (by rw [hsz0]; exact (by decide : 49 < 74))), hw.below hb2⟩
    · intro L a w1 hI hi hd
      obtain ⟨hp, hw⟩ := hI
      simp [Region.binds] at hd
      have e5 : a.tmps.getD 45 undef = (.bool true) := hp.pu (5, 45, (.bool true)) (by simp [w15PE]) (by simp [hd])
      have f5 : a.tmps[45]?.getD undef = (.bool true) := by rw [← Array.getD_eq_getD_getElem?]; exact e5
      have e9 : a.tmps.getD 49 undef = (.bool false) := hp.pu (9, 49, (.bool false)) (by simp [w15PE]) (by simp [hd])
      have f9 : a.tmps[49]?.getD undef = (.bool false) := by rw [← Array.getD_eq_getD_getElem?]; exact e9
      exact rstep_valW (wanted_of 5 45 true rfl rfl e5) (.bool false) w1 (by go_simp) ⟨(hp.put 10 50 (.bool false) (by simp [w15PE]) (by simp [w15PE]) rfl (by rw [hsz0]; exact (by decide : 50 < 74))), hw⟩
    · intro L a w1 hI hi hd
      obtain ⟨hp, hw⟩ := hI
      simp [Region.binds] at hd
      have e10 : a.tmps.getD 50 undef = (.bool false) := hp.pu (10, 50, (.bool false)) (by simp [w15PE]) (by simp [hd])
      have f10 : a.tmps[50]?.getD undef = (.bool false) := by rw [← Array.getD_eq_getD_getElem?]; exact e10
      have t5 := hp.at_ 5 _ rfl z5
      have t5' := t5
      rw [Array.getD_eq_getD_getElem?] at t5'
      have c0 := hw.sn.k5.cell 0
      simp only [List.getElem?_toArray, List.getElem?_cons_zero] at c0
      exact rstep_valW (wanted_of 10 50 false rfl rfl e10) (.slice (some ⟨S.bs, 0, none⟩) S.N S.N) w1 (by go_simp) ⟨(hp.put 11 51 (.slice (some ⟨S.bs, 0, none⟩) S.N S.N) (by simp [w15PE]) (by simp [w15PE]) rfl (by rw [hsz0]; exact (by decide : 51 < 74))), hw⟩
    · intro L a w1 hI hi hd
      obtain ⟨hp, hw⟩ := hI
      simp [Region.binds] at hd
      have e10 : a.tmps.getD 50 undef = (.bool false) := hp.pu (10, 50, (.bool false)) (by simp [w15PE]) (by simp [hd])
      have f10 : a.tmps[50]?.getD undef = (.bool false) := by rw [← Array.getD_eq_getD_getElem?]; exact e10
      have t12 := hp.at_ 12 _ rfl z12
      have t12' := t12
      rw [Array.getD_eq_getD_getElem?] at t12'
      exact rstep_valW (wanted_of 10 50 false rfl rfl e10) (.int .i64 (i : Int)) w1 (by go_simp) ⟨(hp.put 12 52 (.int .i64 (i : Int)) (by simp [w15PE]) (by simp [w15PE]) rfl (by rw [hsz0]; exact (by decide : 52 < 74))), hw⟩
    · intro L a w1 hI hi hd
      obtain ⟨hp, hw⟩ := hI
      simp [Region.binds] at hd
      have e10 : a.tmps.getD 50 undef = (.bool false) := hp.pu (10, 50, (.bool false)) (by simp [w15PE]) (by simp [hd])
      have f10 : a.tmps[50]?.getD undef = (.bool false) := by rw [← Array.getD_eq_getD_getElem?]; exact e10
      have e11 : a.tmps.getD 51 undef = (.slice (some ⟨S.bs, 0, none⟩) S.N S.N) := hp.pu (11, 51, (.slice (some ⟨S.bs, 0, none⟩) S.N S.N)) (by simp [w15PE]) (by simp [hd])
      have f11 : a.tmps[51]?.getD undef = (.slice (some ⟨S.bs, 0, none⟩) S.N S.N) := by rw [← Array.getD_eq_getD_getElem?]; exact e11
      have e12 : a.tmps.getD 52 undef = (.int .i64 (i : Int)) := hp.pu (12, 52, (.int .i64 (i : Int))) (by simp [w15PE]) (by simp [hd])
      have f12 : a.tmps[52]?.getD undef = (.int .i64 (i : Int)) := by rw [← Array.getD_eq_getD_getElem?]; exact e12
      exact rstep_valW (wanted_of 10 50 false rfl rfl e10) (.pointer (some ⟨S.bs, i, none⟩)) w1 (by go_simp) ⟨(hp.put 13 53 (.pointer (some ⟨S.bs, i, none⟩)) (by simp [w15PE]) (by simp [w15PE]) rfl (by rw [hsz0]; exact (by decide : 53 < 74))), hw⟩
    · intro L a w1 hI hi hd
      obtain ⟨hp, hw⟩ := hI
      simp [Region.binds] at hd
      have e10 : a.tmps.getD 50 undef = (.bool false) := hp.pu (10, 50, (.bool false)) (by simp [w15PE]) (by simp [hd])
      have f10 : a.tmps[50]?.getD undef = (.bool false) := by rw [← Array.getD_eq_getD_getElem?]; exact e10
      have e13 : a.tmps.getD 53 undef = (.pointer (some ⟨S.bs, i, none⟩)) := hp.pu (13, 53, (.pointer (some ⟨S.bs, i, none⟩))) (by simp [w15PE]) (by simp [hd])
      have f13 : a.tmps[53]?.getD undef = (.pointer (some ⟨S.bs, i, none⟩)) := by rw [← Array.getD_eq_getD_getElem?]; exact e13
      have c0 := hw.sn.ks.cell i
      rw [bls_get hsn] at c0
      exact rstep_valW (wanted_of 10 50 false rfl rfl e10) (.bool true) w1 (by go_simp) ⟨(hp.put 14 54 (.bool true) (by simp [w15PE]) (by simp [w15PE]) rfl (by rw [hsz0]; exact (by decide : 54 < 74))), hw⟩
    · intro L a w1 hI hi hd
      obtain ⟨hp, hw⟩ := hI
      simp [Region.binds] at hd
      have e10 : a.tmps.getD 50 undef = (.bool false) := hp.pu (10, 50, (.bool false)) (by simp [w15PE]) (by simp [hd])
      have f10 : a.tmps[50]?.getD undef = (.bool false) := by rw [← Array.getD_eq_getD_getElem?]; exact e10
      have e14 : a.tmps.getD 54 undef = (.bool true) := hp.pu (14, 54, (.bool true)) (by simp [w15PE]) (by simp [hd])
      have f14 : a.tmps[54]?.getD undef = (.bool true) := by rw [← Array.getD_eq_getD_getElem?]; exact e14
      exact rstep_valW (wanted_of 10 50 false rfl rfl e10) (.bool true) w1 (by go_simp) ⟨(hp.put 15 55 (.bool true) (by simp [w15PE]) (by simp [w15PE]) rfl (by rw [hsz0]; exact (by decide : 55 < 74))), hw⟩
    · intro L a w1 hI hi hd
      obtain ⟨hp, hw⟩ := hI
      simp [Region.binds] at hd
      have e15 : a.tmps.getD 55 undef = (.bool true) := hp.pu (15, 55, (.bool true)) (by simp [w15PE]) (by simp [hd])
      have f15 : a.tmps[55]?.getD undef = (.bool true) := by rw [← Array.getD_eq_getD_getElem?]; exact e15
      have t13 := hp.at_ 13 _ rfl z13
      have t13' := t13
      rw [Array.getD_eq_getD_getElem?] at t13'
      exact rstep_valW (wanted_of 15 55 true rfl rfl e15) (.pointer (some ⟨Bx, 2, none⟩)) w1 (by go_simp) ⟨(hp.put 16 56 (.pointer (some ⟨Bx, 2, none⟩)) (by simp [w15PE]) (by simp [w15PE]) rfl (by rw [hsz0]; exact (by decide : 56 < 74))), hw⟩
    · intro L a w1 hI hi hd
      obtain ⟨hp, hw⟩ := hI
      simp [Region.binds] at hd
      have e15 : a.tmps.getD 55 undef = (.bool true) := hp.pu (15, 55, (.bool true)) (by simp [w15PE]) (by simp [hd])
      have f15 : a.tmps[55]?.getD undef = (.bool true) := by rw [← Array.getD_eq_getD_getElem?]; exact e15
      have e16 : a.tmps.getD 56 undef = (.pointer (some ⟨Bx, 2, none⟩)) := hp.pu (16, 56, (.pointer (some ⟨Bx, 2, none⟩))) (by simp [w15PE]) (by simp [hd])
      have f16 : a.tmps[56]?.getD undef = (.pointer (some ⟨Bx, 2, none⟩)) := by rw [← Array.getD_eq_getD_getElem?]; exact e16
      have c0 := hw.hx.cell 0
      have c1 := hw.hx.cell 1
      have c2 := hw.hx.cell 2
      simp only [List.getElem?_toArray, List.getElem?_cons_zero, List.getElem?_cons_succ] at c0 c1 c2
      exact rstep_valW (wanted_of 15 55 true rfl rfl e15) (.bool true) w1 (by go_simp) ⟨(hp.put 17 57 (.bool true) (by simp [w15PE]) (by simp [w15PE]) rfl (by rw [hsz0]; exact (by decide : 57 < 74))), hw⟩
    · intro L a w1 hI hi hd
      obtain ⟨hp, hw⟩ := hI
      simp [Region.binds] at hd
      have e15 : a.tmps.getD 55 undef = (.bool true) := hp.pu (15, 55, (.bool true)) (by simp [w15PE]) (by simp [hd])
      have f15 : a.tmps[55]?.getD undef = (.bool true) := by rw [← Array.getD_eq_getD_getElem?]; exact e15
      have e17 : a.tmps.getD 57 undef = (.bool true) := hp.pu (17, 57, (.bool true)) (by simp [w15PE]) (by simp [hd])
      have f17 : a.tmps[57]?.getD undef = (.bool true) := by rw [← Array.getD_eq_getD_getElem?]; exact e17
      exact rstep_valW (wanted_of 15 55 true rfl rfl e15) (.bool false) w1 (by go_simp) ⟨(hp.put 18 58 (.bool false) (by simp [w15PE]) (by simp [w15PE]) rfl (by rw [hsz0]; exact (by decide : 58 < 74))), hw⟩
    · intro L a w1 hI hi hd
      obtain ⟨hp, hw⟩ := hI
      simp [Region.binds] at hd
      have e15 : a.tmps.getD 55 undef = (.bool true) := hp.pu (15, 55, (.bool true)) (by simp [w15PE]) (by simp [hd])
      have f15 : a.tmps[55]?.getD undef = (.bool true) := by rw [← Array.getD_eq_getD_getElem?]; exact e15
      have e18 : a.tmps.getD 58 undef = (.bool false) := hp.pu (18, 58, (.bool false)) (by simp [w15PE]) (by simp [hd])
      have f18 : a.tmps[58]?.getD undef = (.bool false) := by rw [← Array.getD_eq_getD_getElem?]; exact e18
      exact rstep_valW (wanted_of 15 55 true rfl rfl e15) (.bool false) w1 (by go_simp) ⟨(hp.put 19 59 (.bool false) (by simp [w15PE]) (by simp [w15PE]) rfl (by rw [hsz0]; exact (by decide : 59 < 74))), hw⟩
    · intro L a w1 hI hi hd
      obtain ⟨hp, hw⟩ := hI
      simp [Region.binds] at hd
      have e19 : a.tmps.getD 59 undef = (.bool false) := hp.pu (19, 59, (.bool false)) (by simp [w15PE]) (by simp [hd])
      have f19 : a.tmps[59]?.getD undef = (.bool false) := by rw [← Array.getD_eq_getD_getElem?]; exact e19
      have t11 := hp.at_ 11 _ rfl z11
      have t11' := t11
      rw [Array.getD_eq_getD_getElem?] at t11'
      have c0 := hw.sn.k11.cell 0
      simp only [List.getElem?_toArray, List.getElem?_cons_zero] at c0
      exact rstep_valW (wanted_of 19 59 false rfl rfl e19) (.bool bh) w1 (by go_simp) ⟨(hp.put 20 60 (.bool bh) (by simp [w15PE]) (by simp [w15PE]) rfl (by rw [hsz0]; exact (by decide : 60 < 74))), hw⟩
    · intro L a w1 hI hi hd
      obtain ⟨hp, hw⟩ := hI
      simp [Region.binds] at hd
      have e15 : a.tmps.getD 55 undef = (.bool true) := hp.pu (15, 55, (.bool true)) (by simp [w15PE]) (by simp [hd])
      have f15 : a.tmps[55]?.getD undef = (.bool true) := by rw [← Array.getD_eq_getD_getElem?]; exact e15
      have e19 : a.tmps.getD 59 undef = (.bool false) := hp.pu (19, 59, (.bool false)) (by simp [w15PE]) (by simp [hd])
      have f19 : a.tmps[59]?.getD undef = (.bool false) := by rw [← Array.getD_eq_getD_getElem?]; exact e19
      have e20 : a.tmps.getD 60 undef = (.bool bh) := hp.pu (20, 60, (.bool bh)) (by simp [w15PE]) (by simp [hd])
      have f20 : a.tmps[60]?.getD undef = (.bool bh) := by rw [← Array.getD_eq_getD_getElem?]; exact e20
      exact rstep_valW (wanted_of 15 55 true rfl rfl e15) (.bool bh) w1 (by go_simp) ⟨(hp.put 21 61 (.bool bh) (by simp [w15PE]) (by simp [w15PE]) rfl (by rw [hsz0]; exact (by decide : 61 < 74))), hw⟩
    · intro L a w1 hI hi hd
      obtain ⟨hp, hw⟩ := hI
      simp [Region.binds] at hd
      have e10 : a.tmps.getD 50 undef = (.bool false) := hp.pu (10, 50, (.bool false)) (by simp [w15PE]) (by simp [hd])
      have f10 : a.tmps[50]?.getD undef = (.bool false) := by rw [← Array.getD_eq_getD_getElem?]; exact e10
      have e15 : a.tmps.getD 55 undef = (.bool true) := hp.pu (15, 55, (.bool true)) (by simp [w15PE]) (by simp [hd])
      have f15 : a.tmps[55]?.getD undef = (.bool true) := by rw [← Array.getD_eq_getD_getElem?]; exact e15
      have e21 : a.tmps.getD 61 undef = (.bool bh) := hp.pu (21, 61, (.bool bh)) (by simp [w15PE]) (by simp [hd])
      have f21 : a.tmps[61]?.getD undef = (.bool bh) := by rw [← Array.getD_eq_getD_getElem?]; exact e21
      exact rstep_valW (wanted_of 10 50 false rfl rfl e10) (.bool bh) w1 (by go_simp) ⟨(hp.put 22 62 (.bool bh) (by simp [w15PE]) (by simp [w15PE]) rfl (by rw [hsz0]; exact (by decide : 62 < 74))), hw⟩
    · intro L a w1 hI hi hd
      obtain ⟨hp, hw⟩ := hI
      simp [Region.binds] at hd
      have e5 : a.tmps.getD 45 undef = (.bool true) := hp.pu (5, 45, (.bool true)) (by simp [w15PE]) (by simp [hd])
      have f5 : a.tmps[45]?.getD undef = (.bool true) := by rw [← Array.getD_eq_getD_getElem?]; exact e5
      have e10 : a.tmps.getD 50 undef = (.bool false) := hp.pu (10, 50, (.bool false)) (by simp [w15PE]) (by simp [hd])
      have f10 : a.tmps[50]?.getD undef = (.bool false) := by rw [← Array.getD_eq_getD_getElem?]; exact e10
      have e22 : a.tmps.getD 62 undef = (.bool bh) := hp.pu (22, 62, (.bool bh)) (by simp [w15PE]) (by simp [hd])
      have f22 : a.tmps[62]?.getD undef = (.bool bh) := by rw [← Array.getD_eq_getD_getElem?]; exact e22
      exact rstep_valW (wanted_of 5 45 true rfl rfl e5) (.bool bh) w1 (by go_simp) ⟨(hp.put 23 63 (.bool bh) (by simp [w15PE]) (by simp [w15PE]) rfl (by rw [hsz0]; exact (by decide : 63 < 74))), hw⟩
    · intro L a w1 hI hi hd
      obtain ⟨hp, hw⟩ := hI
      simp [Region.binds] at hd
      have e5 : a.tmps.getD 45 undef = (.bool true) := hp.pu (5, 45, (.bool true)) (by simp [w15PE]) (by simp [hd])
      have f5 : a.tmps[45]?.getD undef = (.bool true) := by rw [← Array.getD_eq_getD_getElem?]; exact e5
      have e23 : a.tmps.getD 63 undef = (.bool bh) := hp.pu (23, 63, (.bool bh)) (by simp [w15PE]) (by simp [hd])
      have f23 : a.tmps[63]?.getD undef = (.bool bh) := by rw [← Array.getD_eq_getD_getElem?]; exact e23
      exact rstep_valW (wanted_none rfl _) (.bool bh) w1 (by go_simp) ⟨(hp.put 24 64 (.bool bh) (by simp [w15PE]) (by simp [w15PE]) rfl (by rw [hsz0]; exact (by decide : 64 < 74))), hw⟩
    · intro L a w1 hI hi hd
      obtain ⟨hp, hw⟩ := hI
      simp [Region.binds] at hd
      have e0 : a.tmps.getD 40 undef = (.slice (some ⟨S.bo, 0, none⟩) S.N S.N) := hp.pu (0, 40, (.slice (some ⟨S.bo, 0, none⟩) S.N S.N)) (by simp [w15PE]) (by simp [hd])
      have f0 : a.tmps[40]?.getD undef = (.slice (some ⟨S.bo, 0, none⟩) S.N S.N) := by rw [← Array.getD_eq_getD_getElem?]; exact e0
      have e1 : a.tmps.getD 41 undef = (.int .i64 (i : Int)) := hp.pu (1, 41, (.int .i64 (i : Int))) (by simp [w15PE]) (by simp [hd])
      have f1 : a.tmps[41]?.getD undef = (.int .i64 (i : Int)) := by rw [← Array.getD_eq_getD_getElem?]; exact e1
      exact rstep_valW (wanted_none rfl _) (.pointer (some ⟨S.bo, i, none⟩)) w1 (by go_simp) ⟨(hp.put 25 65 (.pointer (some ⟨S.bo, i, none⟩)) (by simp [w15PE]) (by simp [w15PE]) rfl (by rw [hsz0]; exact (by decide : 65 < 74))), hw⟩
    · intro L a w1 hI hi hd
      obtain ⟨hp, hw⟩ := hI
      simp [Region.binds] at hd
      have e24 : a.tmps.getD 64 undef = (.bool bh) := hp.pu (24, 64, (.bool bh)) (by simp [w15PE]) (by simp [hd])
      have f24 : a.tmps[64]?.getD undef = (.bool bh) := by rw [← Array.getD_eq_getD_getElem?]; exact e24
      have e25 : a.tmps.getD 65 undef = (.pointer (some ⟨S.bo, i, none⟩)) := hp.pu (25, 65, (.pointer (some ⟨S.bo, i, none⟩))) (by simp [w15PE]) (by simp [hd])
      have f25 : a.tmps[65]?.getD undef = (.pointer (some ⟨S.bo, i, none⟩)) := by rw [← Array.getD_eq_getD_getElem?]; exact e25
      have cs := hw.sn.ko.cell i
      obtain ⟨v0, hv0⟩ : ∃ v, (bif L 26 then o.set i bh else o)[i]? = some v := ⟨_, List.getElem?_eq_getElem (by rw [hi]; exact (by rw [ho]; exact hiN : i < o.length))⟩
      rw [bls_get hv0] at cs
      have fs := hw.sn.ko.frozen i
      have h3 := hw
      rw [hi] at h3
      exact rstep_skip rfl (w1.setCell ⟨S.bo, i, none⟩ (.bool bh)) (by go_simp) ⟨(hp.skip 26 undef (by simp [w15PE])), h3.setO k hBo i bh⟩
/-- What is listed ahead of what. -/
structure Q16 (L : Nat → Bool) : Prop where
  h7 : L 7 = true → L 0 = true
  h6 : L 6 = true → L 0 = true
  h1 : L 1 = true → L 0 = true
theorem Q16.off {L : Nat → Bool} (h : Q16 L) (h0 : L 0 = false) : L 7 = false := by
  cases h7 : L 7 with
  | false => rfl
  | true => rw [h.h7 h7] at h0; cases h0
theorem Q16.nx {L : Nat → Bool} (h : Q16 L) (i : Nat) (a1 : i = 1 → L 0 = true) (a6 : i = 6 → L 1 = true) (a7 : i = 7 → L 6 = true) : Q16 (upd L i) := by
  have key : ∀ j, (upd L i j = true → (j = i ∨ L j = true)) := by
    intro j hj
    unfold upd at hj
    by_cases e : j = i
    · exact .inl e
    · rw [if_neg e] at hj; exact .inr hj
  have k0 : L 0 = true → upd L i 0 = true := by
    intro h0
    unfold upd
    split
    · rfl
    · exact h0
  refine ⟨fun q => k0 ?_, fun q => k0 ?_, fun q => k0 ?_⟩
  · rcases key 7 q with e | e
    · exact h.h6 (a7 e.symm)
    · exact h.h7 e
  · rcases key 6 q with e | e
    · exact h.h1 (a6 e.symm)
    · exact h.h6 e
  · rcases key 1 q with e | e
    · exact a1 e.symm
    · exact h.h1 e
def w16PT (S : SnA) (i : Nat) (v : Bool) : List (Nat × Nat × Value) := [(0, 66, (.bool true)), (1, 67, (.bool true)), (2, 68, undef), (3, 69, undef), (4, 70, undef), (5, 71, undef), (6, 72, (.bool true))]
set_option maxRecDepth 100000 in
set_option maxHeartbeats 16000000 in
theorem w16_T {S : SnA} {w0 W : World} {Bx i n r : Nat} {hc : Array Value} {o : List Bool} {v : Bool} {Q : Exit → Act → World → Prop} (k : S.Ok w0) (hiN : i < S.N) (hov : o[i]? = some v) (hB11 : Bx ≠ S.b11) {a0 : Act} {wv : World} (hA : AxF S.N i Bx S.b5 S.b9 S.b10 S.b11 a0) (h : Sr S w0 W Bx hc o true wv)
    (hQ : ∀ a w', Sr S w0 W Bx hc o true w' → Q .normal a w') : w16.wpIn (Fence.wide.inRound r) n Try.prog Q a0 wv := by
  obtain ⟨hdf, hsz0, z5, z9, z10, z11, z12, z13⟩ := hA
  refine wpIn_region_seqB _ (fun L a wv => PIF a0 [66, 67, 68, 69, 70, 71, 72] (w16PT S i v) L a ∧ (Q16 L ∧ Sr S w0 W Bx hc o (bif L 7 then true else true) wv)) (by kernel_rfl) (by kernel_rfl) ?_ ?_ ?_
  · exact ⟨PIF.start _ _ _, ⟨nofun, nofun, nofun⟩, h⟩
  · rintro L a w' ⟨hp, _, hw⟩ hLL
    have h7 : L 7 = true := hLL 7 (by simp)
    rw [h7] at hw
    exact hQ a w' hw
  · refine ⟨?_, ?_, ?_, ?_, ?_, ?_, ?_, ?_, trivial⟩
    · intro L a w1 hI hi hd
      obtain ⟨hp, hw⟩ := hI
      have t11 := hp.at_ 11 _ rfl z11
      have t11' := t11
      rw [Array.getD_eq_getD_getElem?] at t11'
      have h7 : L 7 = false := hw.1.off hi
      have c0 := hw.2.sn.k11.cell 0
      simp only [List.getElem?_toArray, List.getElem?_cons_zero] at c0
      rw [show (bif L 7 then true else true) = true by rw [h7]; rfl] at c0
      exact rstep_valW (wanted_none rfl _) (.bool true) w1 (by go_simp) ⟨(hp.put 0 66 (.bool true) (by simp [w16PT]) (by simp [w16PT]) rfl (by rw [hsz0]; exact (by decide : 66 < 74))), ⟨hw.1.nx 0 (by first | (intro hx; omega) | (intro _; simp [hd])) (by first | (intro hx; omega) | (intro _; simp [hd])) (by first | (intro hx; omega) | (intro _; simp [hd])), hw.2⟩⟩
    · intro L a w1 hI hi hd
      obtain ⟨hp, hw⟩ := hI
      simp [Region.binds] at hd
      have e0 : a.tmps.getD 66 undef = (.bool true) := hp.pu (0, 66, (.bool true)) (by simp [w16PT]) (by simp [hd])
      have f0 : a.tmps[66]?.getD undef = (.bool true) := by rw [← Array.getD_eq_getD_getElem?]; exact e0
      exact rstep_valW (wanted_none rfl _) (.bool true) w1 (by go_simp) ⟨(hp.put 1 67 (.bool true) (by simp [w16PT]) (by simp [w16PT]) rfl (by rw [hsz0]; exact (by decide : 67 < 74))), ⟨hw.1.nx 1 (by first | (intro hx; omega) | (intro _; simp [hd])) (by first | (intro hx; omega) | (intro _; simp [hd])) (by first | (intro hx; omega) | (intro _; simp [hd])), hw.2⟩⟩
    · intro L a w1 hI hi hd
      obtain ⟨hp, hw⟩ := hI
      simp [Region.binds] at hd
      have e1 : a.tmps.getD 67 undef = (.bool true) := hp.pu (1, 67, (.bool true)) (by simp [w16PT]) (by simp [hd])
      have f1 : a.tmps[67]?.getD undef = (.bool true) := by rw [← Array.getD_eq_getD_getElem?]; exact e1
      have t10 := hp.at_ 10 _ rfl z10
      have t10' := t10
      rw [Array.getD_eq_getD_getElem?] at t10'
      exact rstep_un (unwanted_of 1 67 false true (by decide) rfl rfl e1) ⟨(hp.put 2 68 undef (by simp [w16PT]) (by simp [w16PT]) rfl (by rw [hsz0]; exact (by decide : 68 < 74))), ⟨hw.1.nx 2 (by first | (intro hx; omega) | (intro _; simp [hd])) (by first | (intro hx; omega) | (intro _; simp [hd])) (by first | (intro hx; omega) | (intro _; simp [hd])), hw.2⟩⟩
    · intro L a w1 hI hi hd
      obtain ⟨hp, hw⟩ := hI
      simp [Region.binds] at hd
      have e1 : a.tmps.getD 67 undef = (.bool true) := hp.pu (1, 67, (.bool true)) (by simp [w16PT]) (by simp [hd])
      have f1 : a.tmps[67]?.getD undef = (.bool true) := by rw [← Array.getD_eq_getD_getElem?]; exact e1
      have t12 := hp.at_ 12 _ rfl z12
      have t12' := t12
      rw [Array.getD_eq_getD_getElem?] at t12'
      exact rstep_un (unwanted_of 1 67 false true (by decide) rfl rfl e1) ⟨(hp.put 3 69 undef (by simp [w16PT]) (by simp [w16PT]) rfl (by rw [hsz0]; exact (by decide : 69 < 74))), ⟨hw.1.nx 3 (by first | (intro hx; omega) | (intro _; simp [hd])) (by first | (intro hx; omega) | (intro _; simp [hd])) (by first | (intro hx; omega) | (intro _; simp [hd])), hw.2⟩⟩
    · intro L a w1 hI hi hd
      obtain ⟨hp, hw⟩ := hI
      simp [Region.binds] at hd
      have e1 : a.tmps.getD 67 undef = (.bool true) := hp.pu (1, 67, (.bool true)) (by simp [w16PT]) (by simp [hd])
      have f1 : a.tmps[67]?.getD undef = (.bool true) := by rw [← Array.getD_eq_getD_getElem?]; exact e1
      have e2 : a.tmps.getD 68 undef = undef := hp.pu (2, 68, undef) (by simp [w16PT]) (by simp [hd])
      have f2 : a.tmps[68]?.getD undef = undef := by rw [← Array.getD_eq_getD_getElem?]; exact e2
      have e3 : a.tmps.getD 69 undef = undef := hp.pu (3, 69, undef) (by simp [w16PT]) (by simp [hd])
      have f3 : a.tmps[69]?.getD undef = undef := by rw [← Array.getD_eq_getD_getElem?]; exact e3
      exact rstep_un (unwanted_of 1 67 false true (by decide) rfl rfl e1) ⟨(hp.put 4 70 undef (by simp [w16PT]) (by simp [w16PT]) rfl (by rw [hsz0]; exact (by decide : 70 < 74))), ⟨hw.1.nx 4 (by first | (intro hx; omega) | (intro _; simp [hd])) (by first | (intro hx; omega) | (intro _; simp [hd])) (by first | (intro hx; omega) | (intro _; simp [hd])), hw.2⟩⟩
    · intro L a w1 hI hi hd
      obtain ⟨hp, hw⟩ := hI
      simp [Region.binds] at hd
      have e1 : a.tmps.getD 67 undef = (.bool true) := hp.pu (1, 67, (.bool true)) (by simp [w16PT]) (by simp [hd])
      have f1 : a.tmps[67]?.getD undef = (.bool true) := by rw [← Array.getD_eq_getD_getElem?]; exact e1
      have e4 : a.tmps.getD 70 undef = undef := hp.pu (4, 70, undef) (by simp [w16PT]) (by simp [hd])
      have f4 : a.tmps[70]?.getD undef = undef := by rw [← Array.getD_eq_getD_getElem?]; exact e4
      exact rstep_un (unwanted_of 1 67 false true (by decide) rfl rfl e1) ⟨(hp.put 5 71 undef (by simp [w16PT]) (by simp [w16PT]) rfl (by rw [hsz0]; exact (by decide : 71 < 74))), ⟨hw.1.nx 5 (by first | (intro hx; omega) | (intro _; simp [hd])) (by first | (intro hx; omega) | (intro _; simp [hd])) (by first | (intro hx; omega) | (intro _; simp [hd])), hw.2⟩⟩
    · intro L a w1 hI hi hd
      obtain ⟨hp, hw⟩ := hI
      simp [Region.binds] at hd
      have e1 : a.tmps.getD 67 undef = (.bool true) := hp.pu (1, 67, (.bool true)) (by simp [w16PT]) (by simp [hd])
      have f1 : a.tmps[67]?.getD undef = (.bool true) := by rw [← Array.getD_eq_getD_getElem?]; exact e1
      have e5 : a.tmps.getD 71 undef = undef := hp.pu (5, 71, undef) (by simp [w16PT]) (by simp [hd])
      have f5 : a.tmps[71]?.getD undef = undef := by rw [← Array.getD_eq_getD_getElem?]; exact e5
      exact rstep_valW (wanted_none rfl _) (.bool true) w1 (by go_simp) ⟨(hp.put 6 72 (.bool true) (by simp [w16PT]) (by simp [w16PT]) rfl (by rw [hsz0]; exact (by decide : 72 < 74))), ⟨hw.1.nx 6 (by first | (intro hx; omega) | (intro _; simp [hd])) (by first | (intro hx; omega) | (intro _; simp [hd])) (by first | (intro hx; omega) | (intro _; simp [hd])), hw.2⟩⟩
    · intro L a w1 hI hi hd
      obtain ⟨hp, hw⟩ := hI
      simp [Region.binds] at hd
      have e6 : a.tmps.getD 72 undef = (.bool true) := hp.pu (6, 72, (.bool true)) (by simp [w16PT]) (by simp [hd])
      have f6 : a.tmps[72]?.getD undef = (.bool true) := by rw [← Array.getD_eq_getD_getElem?]; exact e6
      have t11 := hp.at_ 11 _ rfl z11
      have t11' := t11
      rw [Array.getD_eq_getD_getElem?] at t11'
      have cs := hw.2.sn.k11.cell 0
      simp only [List.getElem?_toArray, List.getElem?_cons_zero] at cs
      have fs := hw.2.sn.k11.frozen 0
      exact rstep_skip rfl (w1.setCell ⟨S.b11, 0, none⟩ (.bool true)) (by go_simp) ⟨(hp.skip 7 undef (by simp [w16PT])), hw.1.nx 7 (by first | (intro hx; omega) | (intro _; simp [hd])) (by first | (intro hx; omega) | (intro _; simp [hd])) (by first | (intro hx; omega) | (intro _; simp [hd])), by rw [show upd L 7 7 = true from rfl]; exact hw.2.setB k hB11 true⟩
def w16PF (S : SnA) (i : Nat) (v : Bool) : List (Nat × Nat × Value) := [(0, 66, (.bool false)), (1, 67, (.bool false)), (2, 68, (.slice (some ⟨S.bo, 0, none⟩) S.N S.N)), (3, 69, (.int .i64 (i : Int))), (4, 70, (.pointer (some ⟨S.bo, i, none⟩))), (5, 71, (.bool v)), (6, 72, (.bool v))]
set_option maxRecDepth 100000 in
set_option maxHeartbeats 16000000 in
theorem w16_F {S : SnA} {w0 W : World} {Bx i n r : Nat} {hc : Array Value} {o : List Bool} {v : Bool} {Q : Exit → Act → World → Prop} (k : S.Ok w0) (hiN : i < S.N) (hov : o[i]? = some v) (hB11 : Bx ≠ S.b11) {a0 : Act} {wv : World} (hA : AxF S.N i Bx S.b5 S.b9 S.b10 S.b11 a0) (h : Sr S w0 W Bx hc o false wv)
    (hQ : ∀ a w', Sr S w0 W Bx hc o v w' → Q .normal a w') : w16.wpIn (Fence.wide.inRound r) n Try.prog Q a0 wv := by
  obtain ⟨hdf, hsz0, z5, z9, z10, z11, z12, z13⟩ := hA
  refine wpIn_region_seqB _ (fun L a wv => PIF a0 [66, 67, 68, 69, 70, 71, 72] (w16PF S i v) L a ∧ (Q16 L ∧ Sr S w0 W Bx hc o (bif L 7 then v else false) wv)) (by kernel_rfl) (by kernel_rfl) ?_ ?_ ?_
  · exact ⟨PIF.start _ _ _, ⟨nofun, nofun, nofun⟩, h⟩
  · rintro L a w' ⟨hp, _, hw⟩ hLL
    have h7 : L 7 = true := hLL 7 (by simp)
    rw [h7] at hw
    exact hQ a w' hw
  · refine ⟨?_, ?_, ?_, ?_, ?_, ?_, ?_, ?_, trivial⟩
    · intro L a w1 hI hi hd
      obtain ⟨hp, hw⟩ := hI
      have t11 := hp.at_ 11 _ rfl z11
      have t11' := t11
      rw [Array.getD_eq_getD_getElem?] at t11'
      have h7 : L 7 = false := hw.1.off hi
      have c0 := hw.2.sn.k11.cell 0
      simp only [List.getElem?_toArray, List.getElem?_cons_zero] at c0
      rw [show (bif L 7 then v else false) = false by rw [h7]; rfl] at c0
      exact rstep_valW (wanted_none rfl _) (.bool false) w1 (by go_simp) ⟨(hp.put 0 66 (.bool false) (by simp [w16PF]) (by simp [w16PF]) rfl (by rw [hsz0]; exact (by decide : 66 < 74))), ⟨hw.1.nx 0 (by first | (intro hx; omega) | (intro _; simp [hd])) (by first | (intro hx; omega) | (intro _; simp [hd])) (by first | (intro hx; omega) | (intro _; simp [hd])), hw.2⟩⟩
    · intro L a w1 hI hi hd
      obtain ⟨hp, hw⟩ := hI
      simp [Region.binds] at hd
      have e0 : a.tmps.getD 66 undef = (.bool false) := hp.pu (0, 66, (.bool false)) (by simp [w16PF]) (by simp [hd])
      have f0 : a.tmps[66]?.getD undef = (.bool false) := by rw [← Array.getD_eq_getD_getElem?]; exact e0
      exact rstep_valW (wanted_none rfl _) (.bool false) w1 (by go_simp) ⟨(hp.put 1 67 (.bool false) (by simp [w16PF]) (by simp [w16PF]) rfl (by rw [hsz0]; exact (by decide : 67 < 74))), ⟨hw.1.nx 1 (by first | (intro hx; omega) | (intro _; simp [hd])) (by first | (intro hx; omega) | (intro _; simp [hd])) (by first | (intro hx; omega) | (intro _; simp [hd])), hw.2⟩⟩
    · intro L a w1 hI hi hd
      obtain ⟨hp, hw⟩ := hI
      simp [Region.binds] at hd
      have e1 : a.tmps.getD 67 undef = (.bool false) := hp.pu (1, 67, (.bool false)) (by simp [w16PF]) (by simp [hd])
      have f1 : a.tmps[67]?.getD undef = (.bool false) := by rw [← Array.getD_eq_getD_getElem?]; exact e1
      have t10 := hp.at_ 10 _ rfl z10
      have t10' := t10
      rw [Array.getD_eq_getD_getElem?] at t10'
      have c0 := hw.2.sn.k10.cell 0
      simp only [List.getElem?_toArray, List.getElem?_cons_zero] at c0
      exact rstep_valW (wanted_of 1 67 false rfl rfl e1) (.slice (some ⟨S.bo, 0, none⟩) S.N S.N) w1 (by go_simp) ⟨(hp.put 2 68 (.slice (some ⟨S.bo, 0, none⟩) S.N S.N) (by simp [w16PF]) (by simp [w16PF]) rfl (by rw [hsz0]; exact (by decide : 68 < 74))), ⟨hw.1.nx 2 (by first | (intro hx; omega) | (intro _; simp [hd])) (by first | (intro hx; omega) | (intro _; simp [hd])) (by first | (intro hx; omega) | (intro _; simp [hd])), hw.2⟩⟩
    · intro L a w1 hI hi hd
      obtain ⟨hp, hw⟩ := hI
      simp [Region.binds] at hd
      have e1 : a.tmps.getD 67 undef = (.bool false) := hp.pu (1, 67, (.bool false)) (by simp [w16PF]) (by simp [hd])
      have f1 : a.tmps[67]?.getD undef = (.bool false) := by rw [← Array.getD_eq_getD_getElem?]; exact e1
      have t12 := hp.at_ 12 _ rfl z12
      have t12' := t12
      rw [Array.getD_eq_getD_getElem?] at t12'
      exact rstep_valW (wanted_of 1 67 false rfl rfl e1) (.int .i64 (i : Int)) w1 (by go_simp) ⟨(hp.put 3 69 (.int .i64 (i : Int)) (by simp [w16PF]) (by simp [w16PF]) rfl (by rw [hsz0]; exact (by decide : 69 < 74))), ⟨hw.1.nx 3 (by first | (intro hx; omega) | (intro _; simp [hd])) (by first | (intro hx; omega) | (intro _; simp [hd])) (by first | (intro hx; omega) | (intro _; simp [hd])), hw.2⟩⟩
    · intro L a w1 hI hi hd
      obtain ⟨hp, hw⟩ := hI
      simp [Region.binds] at hd
      have e1 : a.tmps.getD 67 undef = (.bool false) := hp.pu (1, 67, (.bool false)) (by simp [w16PF]) (by simp [hd])
      have f1 : a.tmps[67]?.getD undef = (.bool false) := by rw [← Array.getD_eq_getD_getElem?]; exact e1
      have e2 : a.tmps.getD 68 undef = (.slice (some ⟨S.bo, 0, none⟩) S.N S.N) := hp.pu (2, 68, (.slice (some ⟨S.bo, 0, none⟩) S.N S.N)) (by simp [w16PF]) (by simp [hd])
      have f2 : a.tmps[68]?.getD undef = (.slice (some ⟨S.bo, 0, none⟩) S.N S.N) := by rw [← Array.getD_eq_getD_getElem?]; exact e2
      have e3 : a.tmps.getD 69 undef = (.int .i64 (i : Int)) := hp.pu (3, 69, (.int .i64 (i : Int))) (by simp [w16PF]) (by simp [hd])
      have f3 : a.tmps[69]?.getD undef = (.int .i64 (i : Int)) := by rw [← Array.getD_eq_getD_getElem?]; exact e3
      exact rstep_valW (wanted_of 1 67 false rfl rfl e1) (.pointer (some ⟨S.bo, i, none⟩)) w1 (by go_simp) ⟨(hp.put 4 70 (.pointer (some ⟨S.bo, i, none⟩)) (by simp [w16PF]) (by simp [w16PF]) rfl (by rw [hsz0]; exact (by decide : 70 < 74))), ⟨hw.1.nx 4 (by first | (intro hx; omega) | (intro _; simp [hd])) (by first | (intro hx; omega) | (intro _; simp [hd])) (by first | (intro hx; omega) | (intro _; simp [hd])), hw.2⟩⟩
    · intro L a w1 hI hi hd
      obtain ⟨hp, hw⟩ := hI
      simp [Region.binds] at hd
      have e1 : a.tmps.getD 67 undef = (.bool false) := hp.pu (1, 67, (.bool false)) (by simp [w16PF]) (by simp [hd])
      have f1 : a.tmps[67]?.getD undef = (.bool false) := by rw [← Array.getD_eq_getD_getElem?]; exact e1
      have e4 : a.tmps.getD 70 undef = (.pointer (some ⟨S.bo, i, none⟩)) := hp.pu (4, 70, (.pointer (some ⟨S.bo, i, none⟩))) (by simp [w16PF]) (by simp [hd])
      have f4 : a.tmps[70]?.getD undef = (.pointer (some ⟨S.bo, i, none⟩)) := by rw [← Array.getD_eq_getD_getElem?]; exact e4
      have c0 := hw.2.sn.ko.cell i
      rw [bls_get hov] at c0
      exact rstep_valW (wanted_of 1 67 false rfl rfl e1) (.bool v) w1 (by go_simp) ⟨(hp.put 5 71 (.bool v) (by simp [w16PF]) (by simp [w16PF]) rfl (by rw [hsz0]; exact (by decide : 71 < 74))), ⟨hw.1.nx 5 (by first | (intro hx; omega) | (intro _; simp [hd])) (by first | (intro hx; omega) | (intro _; simp [hd])) (by first | (intro hx; omega) | (intro _; simp [hd])), hw.2⟩⟩
    · intro L a w1 hI hi hd
      obtain ⟨hp, hw⟩ := hI
      simp [Region.binds] at hd
      have e1 : a.tmps.getD 67 undef = (.bool false) := hp.pu (1, 67, (.bool false)) (by simp [w16PF]) (by simp [hd])
      have f1 : a.tmps[67]?.getD undef = (.bool false) := by rw [← Array.getD_eq_getD_getElem?]; exact e1
      have e5 : a.tmps.getD 71 undef = (.bool v) := hp.pu (5, 71, (.bool v)) (by simp [w16PF]) (by simp [hd])
      have f5 : a.tmps[71]?.getD undef = (.bool v) := by rw [← Array.getD_eq_getD_getElem?]; exact e5
      exact rstep_valW (wanted_none rfl _) (.bool v) w1 (by go_simp) ⟨(hp.put 6 72 (.bool v) (by simp [w16PF]) (by simp [w16PF]) rfl (by rw [hsz0]; exact (by decide : 72 < 74))), ⟨hw.1.nx 6 (by first | (intro hx; omega) | (intro _; simp [hd])) (by first | (intro hx; omega) | (intro _; simp [hd])) (by first | (intro hx; omega) | (intro _; simp [hd])), hw.2⟩⟩
    · intro L a w1 hI hi hd
      obtain ⟨hp, hw⟩ := hI
      simp [Region.binds] at hd
      have e6 : a.tmps.getD 72 undef = (.bool v) := hp.pu (6, 72, (.bool v)) (by simp [w16PF]) (by simp [hd])
      have f6 : a.tmps[72]?.getD undef = (.bool v) := by rw [← Array.getD_eq_getD_getElem?]; exact e6
      have t11 := hp.at_ 11 _ rfl z11
      have t11' := t11
      rw [Array.getD_eq_getD_getElem?] at t11'
      have cs := hw.2.sn.k11.cell 0
      simp only [List.getElem?_toArray, List.getElem?_cons_zero] at cs
      have fs := hw.2.sn.k11.frozen 0
      exact rstep_skip rfl (w1.setCell ⟨S.b11, 0, none⟩ (.bool v)) (by go_simp) ⟨(hp.skip 7 undef (by simp [w16PF])), hw.1.nx 7 (by first | (intro hx; omega) | (intro _; simp [hd])) (by first | (intro hx; omega) | (intro _; simp [hd])) (by first | (intro hx; omega) | (intro _; simp [hd])), by rw [show upd L 7 7 = true from rfl]; exact hw.2.setB k hB11 v⟩
end Go.Proofs.Ytplknfbdonenmaa
