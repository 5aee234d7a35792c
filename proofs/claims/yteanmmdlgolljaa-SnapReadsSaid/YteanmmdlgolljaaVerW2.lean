/-
  The reading of a version by the document.
  Conditions: the bytes lie in memory as a list; their number is bounded.
-/
import Derived.Test.YteanmmdlgolljaaVerW1
import Derived.BigRegion
namespace Go.Proofs.Yteanmmdlgolljaa
open Go.RowKit Go.Sort Go.Lib
set_option linter.unusedVariables false
theorem refitemread_len (A : Option Addr) (n c : Nat) (b : List UInt8) (w : World) (hn : b.length = n) (hr : Row w A (bs b)) (hcap : n ≤ c) (hmx : c ≤ maxLen) (hc : n ≤ 140737488355328) :
    Calls Try.prog 47 #[.slice A n c] w (ReadPost (ItemM.readR b) w) := by
  subst hn
  exact refitemread_any A c b w hr hcap hmx hc
theorem tmod2 (f : Nat) : (f : Int).tmod 2 = ((f % 2 : Nat) : Int) := by
  rw [Int.tmod_eq_emod_of_nonneg (by omega)]; omega
set_option maxRecDepth 100000 in
set_option maxHeartbeats 8000000 in
theorem refsnapread_any (A : Option Addr) (c : Nat) (b : List UInt8) (w : World) (hr : Row w A (bs b)) (hcap : b.length ≤ c) (hmx : c ≤ maxLen) (hc : b.length ≤ 140737488355328) :
    Calls Try.prog 50 #[.slice A b.length c] w (VPost (VerM.read b) w) := by
  have hR := Blk.new w 71 #[.int .u64 0, .bool false, .bool false, .int .u64 0, .int .u64 0, .slice none 0 0, .slice none 0 0]
  have b0 : Below w.heap.size w (w.alloc (.cells #[.int .u64 0, .bool false, .bool false, .int .u64 0, .int .u64 0, .slice none 0 0, .slice none 0 0] 71)) := (Below.refl _ _).alloc (Nat.le_refl _) _
  by_cases hsh : b.length < 17
  · obtain ⟨X0, hX0⟩ : ∃ r, VerM.read b = r := ⟨_, rfl⟩
    rw [hX0]
    have HN : Hid (X0 = none) := Lib.hid (by rw [← hX0]; exact VerM.read_short hsh)
    have hd : decide ((b.length : Int) < 17) = true := decide_eq_true (by omega)
    clear hX0
    have HR := Lib.hid hR
    go_enter Try.func50, Try.ntmps50
    go_wp2
    refine ret_cell rfl w.heap.size zero7 _ rfl hR Try.underlying71 rfl (by kernel_rfl) rfl ?_
    rw [HN.out]
    exact ⟨rfl, b0⟩
  · obtain ⟨u, hu⟩ : ∃ u, b[0]? = some u := ⟨_, List.getElem?_eq_getElem (by omega)⟩
    obtain ⟨bq, oq, rfl, hcell⟩ := row_at hr hu
    rw [Nat.add_zero] at hcell
    have hP := VerM.read_long (b := b) (by omega)
    rw [VerM.le_one hu] at hP
    obtain ⟨f, hf⟩ : ∃ f, u.toNat = f := ⟨_, rfl⟩
    have hf256 : f < 256 := by rw [← hf]; exact u.toNat_lt
    rw [hf] at hcell hP
    obtain ⟨t, ht⟩ : ∃ t, CodeM.le ((b.drop 1).take 8) = t := ⟨_, rfl⟩
    obtain ⟨p, hp⟩ : ∃ t, CodeM.le ((b.drop 9).take 8) = t := ⟨_, rfl⟩
    rw [ht, hp] at hP
    obtain ⟨X0, hX0⟩ : ∃ r, VerM.read b = r := ⟨_, rfl⟩
    rw [hX0] at hP ⊢
    have HP := Lib.hid hP
    have hd17 : decide ((b.length : Int) < 17) = false := decide_eq_false (by omega)
    have hi0 : (0 : Int) < (b.length : Int) := by omega
    clear hX0 hu hP hf
    by_cases hf3 : 3 < f
    · have HN : Hid (X0 = none) := Lib.hid (by rw [HP.out, if_pos hf3])
      have hd3 : decide ((3 : Int) < f) = true := decide_eq_true (by omega)
      have hcell0 : (w.alloc (.cells #[.int .u64 0, .bool false, .bool false, .int .u64 0, .int .u64 0, .slice none 0 0, .slice none 0 0] 71)).cell? ⟨bq, oq, none⟩ = some (.int .u8 (f : Int)) := cell_below b0 hcell
      have HR := Lib.hid hR
      go_enter Try.func50, Try.ntmps50
      go_wp2
      refine ret_cell rfl w.heap.size zero7 _ rfl hR Try.underlying71 rfl (by kernel_rfl) rfl ?_
      rw [HN.out]
      exact ⟨rfl, b0⟩
    · have hd3 : decide ((3 : Int) < f) = false := decide_eq_false (by omega)
      obtain ⟨g1, g2, g3⟩ := VerM.head_ok (b := b) (by omega)
      rw [ht] at g2
      rw [hp] at g3
      have H2 := Lib.hid g2
      have H3 := Lib.hid g3
      obtain ⟨d1, hd1⟩ : ∃ d, f % 2 = d := ⟨_, rfl⟩
      have htm := tmod2 f
      rw [hd1] at htm
      obtain ⟨dd, hdd⟩ : ∃ q, ((d1 : Int) == 1) = q := ⟨_, rfl⟩
      obtain ⟨gn, hgn⟩ : ∃ q, decide ((2 : Int) ≤ (f : Int)) = q := ⟨_, rfl⟩
      have HDE : Hid (decide (f % 2 = 1) = dd) := Lib.hid (by
        rw [← hdd, hd1]
        rcases (by omega : d1 = 0 ∨ d1 = 1) with h | h <;> subst h <;> rfl)
      have HGO : Hid (gn = true ↔ f / 2 % 2 = 1) := Lib.hid (by
        rw [← hgn, decide_eq_true_iff]; omega)
      have HX0 : Hid (X0 = VerM.body f t p ⟨b.drop 17, 0⟩) := Lib.hid (by rw [HP.out, if_neg hf3])
      have hcell0 := cell_below b0 hcell
      have hcap2 : (1 : Int) ≤ (b.length : Int) := by omega
      have hcap3 : (b.length : Int) ≤ (c : Int) := by omega
      have hcap4 : ¬ c = 1 := by omega
      clear g1 g2 g3 ht hp hd1
      go_enter Try.func50, Try.ntmps50
      go_wp2
      have hR1 := hR.alloc (.cells #[.slice (some ⟨bq, oq + 1, none⟩) (b.length - 1) (c - 1), .int .i64 0] 47)
      have hG1 := Blk.new (w.alloc (.cells #[.int .u64 0, .bool false, .bool false, .int .u64 0, .int .u64 0, .slice none 0 0, .slice none 0 0] 71)) 47 #[.slice (some ⟨bq, oq + 1, none⟩) (b.length - 1) (c - 1), .int .i64 0]
      have ez : (w.alloc (.cells #[.int .u64 0, .bool false, .bool false, .int .u64 0, .int .u64 0, .slice none 0 0, .slice none 0 0] 71)).heap.size = w.heap.size + 1 := by simp
      rw [ez] at hG1
      have b1 := b0.alloc b0.size (.cells #[.slice (some ⟨bq, oq + 1, none⟩) (b.length - 1) (c - 1), .int .i64 0] 47)
      have ez2 : ((w.alloc (.cells #[.int .u64 0, .bool false, .bool false, .int .u64 0, .int .u64 0, .slice none 0 0, .slice none 0 0] 71)).alloc (.cells #[.slice (some ⟨bq, oq + 1, none⟩) (b.length - 1) (c - 1), .int .i64 0] 47)).heap.size = w.heap.size + 1 + 1 := by simp
      have hcell1 := cell_below b1 hcell
      have hbq := block_lt_of_cell hcell
      have hrow1 := hr.below b1
      generalize (w.alloc (.cells #[.int .u64 0, .bool false, .bool false, .int .u64 0, .int .u64 0, .slice none 0 0, .slice none 0 0] 71)).alloc (.cells #[.slice (some ⟨bq, oq + 1, none⟩) (b.length - 1) (c - 1), .int .i64 0] 47) = w1 at *
      have hlt1 : bq < w1.heap.size := by simp only at hbq; omega
      have hne1 : w1.heap.size ≠ bq := by omega
      have hne2 : bq ≠ w1.heap.size := by omega
      have HEZ2 := Lib.hid ez2
      clear hcell hcell0 hR b0 ez ez2
      go_region
      generalize hw2 : (w1.alloc (.cells #[.int .u64 0, .bool dd, .bool gn, .int .u64 0, .int .u64 0, .slice none 0 0, .slice none 0 0] 71)).drew = w2 at *
      have V2 : Blk w2 w1.heap.size 71 #[.int .u64 0, .bool dd, .bool gn, .int .u64 0, .int .u64 0, .slice none 0 0, .slice none 0 0] := by
        rw [← hw2]; exact Blk.new w1 _ _
      have ba : Below w1.heap.size w1 w2 := by
        rw [← hw2]
        have := (Below.refl w1.heap.size w1).alloc (Nat.le_refl _) (.cells #[.int .u64 0, .bool dd, .bool gn, .int .u64 0, .int .u64 0, .slice none 0 0, .slice none 0 0] 71)
        exact ⟨this.os, this.tape, this.output, this.size, this.block⟩
      clear htm hdd
      have hs2 : w1.heap.size < w2.heap.size := V2.lt
      have hR2 := hR1.below ba hR1.lt
      have b2 := below_step b1 ba (Nat.le_refl _)
      have q2 : RdIn w.heap.size 47 w2 (w.heap.size + 1) ⟨b.drop 1, 0⟩ := (show RdIn w.heap.size 47 w1 (w.heap.size + 1) ⟨b.drop 1, 0⟩ from ⟨some ⟨bq, oq + 1, none⟩, b.length - 1, c - 1, hG1, List.length_drop, ⟨by omega, by omega⟩, by omega, row_drop hrow1 1, .inr (by intro a ha; cases ha; exact hbq)⟩).below ba
      clear hw2 ba hG1 hrow1 hR1 b1 hcell1 hcap hmx hcap2 hcap3 hcap4 hi0 hd17 hd3 hlt1 hne1 hne2 hbq hs2
      go_wp2_with fail
      refine (refnumI_any (B := w.heap.size) (w.heap.size + 1) ⟨b.drop 1, 0⟩ 8 w2 q2 (by omega)).mono ?_
      rw [H2.out]
      rintro e w3 ⟨rfl, q3, g3⟩
      dsimp only at *
      have V3 := V2.grown g3 (by intro q; injection q with q; have := HEZ2.out; omega)
      have hR3 := hR2.grown g3 (by intro q; injection q with q; omega)
      have b3 := below_grown b2 g3 b2.size (by omega)
      have fz := V3.frozen 0
      have cz := V3.cell 0
      simp only [List.getElem?_toArray, List.getElem?_cons_zero] at cz
      have gg := grownBy_setCell w3 w1.heap.size 0 (.int .u64 (t : Int))
      have V4 := V3.set_ 0 (.int .u64 (t : Int))
      simp only [List.setIfInBounds_toArray, List.set_cons_zero] at V4
      have hR4 := hR3.grown gg (by intro q; injection q with q; have := HEZ2.out; omega)
      have q4 := q3.above gg (by have := HEZ2.out; omega) (by have := HEZ2.out; omega)
      have b4 := below_grown b3 gg b3.size (by have := HEZ2.out; omega)
      obtain ⟨w4, hw4⟩ : ∃ v, w3.setCell ⟨w1.heap.size, 0, none⟩ (.int .u64 (t : Int)) = v := ⟨_, rfl⟩
      rw [hw4] at V4 hR4 q4 b4
      clear V2 V3 hR2 hR3 q2 q3 b2 b3 g3 gg
      go_wp2_with fail
      refine (refnumI_any (B := w.heap.size) (w.heap.size + 1) ⟨b.drop 9, 0⟩ 8 w4 q4 (by omega)).mono ?_
      rw [H3.out]
      rintro e w5 ⟨rfl, q5, g5⟩
      dsimp only at *
      have V5 := V4.grown g5 (by intro q; injection q with q; have := HEZ2.out; omega)
      have hR5 := hR4.grown g5 (by intro q; injection q with q; omega)
      have b5 := below_grown b4 g5 b4.size (by omega)
      have fz := V5.frozen 3
      have cz := V5.cell 3
      simp only [List.getElem?_toArray, List.getElem?_cons_zero, List.getElem?_cons_succ] at cz
      have gg := grownBy_setCell w5 w1.heap.size 3 (.int .u64 (p : Int))
      have V6 := V5.set_ 3 (.int .u64 (p : Int))
      simp only [List.setIfInBounds_toArray, List.set_cons_zero, List.set_cons_succ] at V6
      have hR6 := hR5.grown gg (by intro q; injection q with q; have := HEZ2.out; omega)
      have q6 := q5.above gg (by have := HEZ2.out; omega) (by have := HEZ2.out; omega)
      have b6 := below_grown b5 gg b5.size (by have := HEZ2.out; omega)
      obtain ⟨w6, hw6⟩ : ∃ v, w5.setCell ⟨w1.heap.size, 3, none⟩ (.int .u64 (p : Int)) = v := ⟨_, rfl⟩
      rw [hw6] at V6 hR6 q6 b6
      clear V4 V5 hR4 hR5 q4 q5 b4 b5 g5 gg
      have w2c := V6.cell 2
      simp only [List.getElem?_toArray, List.getElem?_cons_zero, List.getElem?_cons_succ] at w2c
      cases hgc : gn with
      | true =>
        rw [hgc] at V6 w2c
        have hgo := HGO.out.1 hgc
        obtain ⟨Q4, hQ4⟩ : ∃ r, CodeM.Rd.fixed 8 ⟨b.drop 17, 0⟩ = r := ⟨_, rfl⟩
        obtain ⟨k, r4⟩ := Q4
        have HF : Hid (X0 = if r4.e ≠ 0 ∨ r4.l ≠ [] then none else some ⟨t, dd, true, p, ⟨k, [], []⟩⟩) := Lib.hid (by rw [HX0.out]; unfold VerM.body; rw [if_pos hgo, hQ4, HDE.out])
        have H4 := Lib.hid hQ4
        clear hQ4 hgn hgc
        go_wp2_with fail
        refine (refnumI_any (B := w.heap.size) (w.heap.size + 1) ⟨b.drop 17, 0⟩ 8 w6 q6 (by omega)).mono ?_
        rw [H4.out]
        rintro e w7 ⟨rfl, q7, g7⟩
        dsimp only at *
        have V7 := V6.grown g7 (by intro q; injection q with q; have := HEZ2.out; omega)
        have hR7 := hR6.grown g7 (by intro q; injection q with q; omega)
        have b7 := below_grown b6 g7 b6.size (by omega)
        have fz := V7.frozen 4
        have cz := V7.cell 4
        simp only [List.getElem?_toArray, List.getElem?_cons_zero, List.getElem?_cons_succ] at cz
        have gg := grownBy_setCell w7 w1.heap.size 4 (.int .u64 (k : Int))
        have V8 := V7.set_ 4 (.int .u64 (k : Int))
        simp only [List.setIfInBounds_toArray, List.set_cons_zero, List.set_cons_succ] at V8
        have hR8 := hR7.grown gg (by intro q; injection q with q; have := HEZ2.out; omega)
        have q8 := q7.above gg (by have := HEZ2.out; omega) (by have := HEZ2.out; omega)
        have b8 := below_grown b7 gg b7.size (by have := HEZ2.out; omega)
        obtain ⟨w8, hw8⟩ : ∃ v, w7.setCell ⟨w1.heap.size, 4, none⟩ (.int .u64 (k : Int)) = v := ⟨_, rfl⟩
        rw [hw8] at V8 hR8 q8 b8
        clear V6 V7 hR6 hR7 q6 q7 b6 b7 g7 gg
        have z1 := q8.c1
        obtain ⟨Az, cz0, z0⟩ := q8.c0
        by_cases he4 : r4.e = 0
        · have hee4 : ((r4.e : Int) == 0) = true := beq_iff_eq.2 (by omega)
          by_cases hl4 : r4.l = []
          · have hll : decide ((0 : Int) < (r4.l.length : Int)) = false := decide_eq_false (by rw [hl4]; simp)
            have HN : Hid (X0 = some ⟨t, dd, true, p, ⟨k, [], []⟩⟩) := Lib.hid (by rw [HF.out, if_neg (by rintro (h | h); exact h he4; exact h hl4)])
            have f0 := hR8.frozen 0
            have c0 := hR8.cell 0
            have v0 := V8.cell 0
            have f1 := hR8.frozen 1
            have c1 := hR8.cell 1
            have v1 := V8.cell 1
            have f2 := hR8.frozen 2
            have c2 := hR8.cell 2
            have v2 := V8.cell 2
            have f3 := hR8.frozen 3
            have c3 := hR8.cell 3
            have v3 := V8.cell 3
            have f4 := hR8.frozen 4
            have c4 := hR8.cell 4
            have v4 := V8.cell 4
            have f5 := hR8.frozen 5
            have c5 := hR8.cell 5
            have v5 := V8.cell 5
            have f6 := hR8.frozen 6
            have c6 := hR8.cell 6
            have v6 := V8.cell 6
            simp only [List.getElem?_toArray, List.getElem?_cons_zero, List.getElem?_cons_succ] at c0 c1 c2 c3 c4 c5 c6 v0 v1 v2 v3 v4 v5 v6
            go_wp2
            refine ret_cell rfl w.heap.size #[.int .u64 (t : Int), .bool dd, .bool true, .int .u64 (p : Int), .int .u64 (k : Int), .slice none 0 0, .slice none 0 0] _ rfl (blk_set7 hR8 _ _ _ _ _ _ _) Try.underlying71 rfl (by kernel_rfl) rfl ?_
            rw [HN.out]
            exact ⟨none, 0, 0, none, 0, 0, rfl, Lib.hid rfl, Lib.hid rfl, Own32.nil_ _ _, Own.nil_ _ _, below_g b8 b8.size (Nat.le_refl _) (grownBy_set7 _ _ _ _ _ _ _ _ _)⟩
          · have hll2 : (0 : Int) < (r4.l.length : Int) := by have := List.length_pos_iff.2 hl4; omega
            have hll : decide ((0 : Int) < (r4.l.length : Int)) = true := decide_eq_true hll2
            have hll3 : 0 < r4.l.length := by omega
            have HN : Hid (X0 = none) := Lib.hid (by rw [HF.out, if_pos (.inr hl4)])
            have f0 := hR8.frozen 0
            have c0 := hR8.cell 0
            have f1 := hR8.frozen 1
            have c1 := hR8.cell 1
            have f2 := hR8.frozen 2
            have c2 := hR8.cell 2
            have f3 := hR8.frozen 3
            have c3 := hR8.cell 3
            have f4 := hR8.frozen 4
            have c4 := hR8.cell 4
            have f5 := hR8.frozen 5
            have c5 := hR8.cell 5
            have f6 := hR8.frozen 6
            have c6 := hR8.cell 6
            simp only [List.getElem?_toArray, List.getElem?_cons_zero, List.getElem?_cons_succ] at c0 c1 c2 c3 c4 c5 c6
            go_wp2
            refine ret_cell rfl w.heap.size zero7 _ rfl (blk_set7 hR8 _ _ _ _ _ _ _) Try.underlying71 rfl (by kernel_rfl) rfl ?_
            rw [HN.out]
            exact ⟨rfl, below_g b8 b8.size (Nat.le_refl _) (grownBy_set7 _ _ _ _ _ _ _ _ _)⟩
        · have hee4 : ((r4.e : Int) == 0) = false := beq_eq_false_iff_ne.2 (by omega)
          have hee5 : ¬ ((r4.e : Int) = 0) := by omega
          have HN : Hid (X0 = none) := Lib.hid (by rw [HF.out, if_pos (.inl he4)])
          have f0 := hR8.frozen 0
          have c0 := hR8.cell 0
          have f1 := hR8.frozen 1
          have c1 := hR8.cell 1
          have f2 := hR8.frozen 2
          have c2 := hR8.cell 2
          have f3 := hR8.frozen 3
          have c3 := hR8.cell 3
          have f4 := hR8.frozen 4
          have c4 := hR8.cell 4
          have f5 := hR8.frozen 5
          have c5 := hR8.cell 5
          have f6 := hR8.frozen 6
          have c6 := hR8.cell 6
          simp only [List.getElem?_toArray, List.getElem?_cons_zero, List.getElem?_cons_succ] at c0 c1 c2 c3 c4 c5 c6
          go_wp2
          refine ret_cell rfl w.heap.size zero7 _ rfl (blk_set7 hR8 _ _ _ _ _ _ _) Try.underlying71 rfl (by kernel_rfl) rfl ?_
          rw [HN.out]
          exact ⟨rfl, below_g b8 b8.size (Nat.le_refl _) (grownBy_set7 _ _ _ _ _ _ _ _ _)⟩
      | false =>
        rw [hgc] at V6 w2c
        have hgo : ¬ f / 2 % 2 = 1 := fun q => by have := HGO.out.2 q; rw [hgc] at this; cases this
        have HF : Hid (X0 = (ItemM.readR (b.drop 17)).map fun x => ⟨t, dd, false, p, x⟩) := Lib.hid (by rw [HX0.out]; unfold VerM.body; rw [if_neg hgo, HDE.out])
        obtain ⟨Ar, nr, cr, hBr, hnr, ⟨hcr, hlr⟩, hmr, hrr, hbnd⟩ := q6
        clear hbnd
        dsimp only at hnr hrr hBr
        have z0 := hBr.cell 0
        simp only [List.getElem?_toArray, List.getElem?_cons_zero] at z0
        have HR5 := Lib.hid hR6
        have HV5 := Lib.hid V6
        have HB5 := Lib.hid b6
        have HNR := Lib.hid hnr
        have HCR := Lib.hid hcr
        have HLR := Lib.hid hlr
        have HMR := Lib.hid hmr
        have HRR := Lib.hid hrr
        clear hgc hgn hR6 V6 b6 hBr hnr hcr hlr hmr hrr
        go_wp2_with fail
        refine (refitemread_len Ar nr cr (b.drop 17) w6 HNR.out HRR.out HCR.out HMR.out HLR.out).mono fun e w7 h => ?_
        cases hx : ItemM.readR (b.drop 17) with
        | none =>
          rw [hx] at h
          obtain ⟨rfl, hb6⟩ := h
          have HN : Hid (X0 = none) := Lib.hid (by rw [HF.out, hx]; rfl)
          have hR8 := (HR5.out.below hb6 HR5.out.lt).alloc (.cells #[.int .u64 0, .slice none 0 0, .slice none 0 0] 58)
          have b8 := (below_step HB5.out hb6 (Nat.le_refl _)).alloc (by have := HB5.out.size; have := hb6.size; omega) (.cells #[.int .u64 0, .slice none 0 0, .slice none 0 0] 58)
          clear hb6 hx
          have f0 := hR8.frozen 0
          have c0 := hR8.cell 0
          have f1 := hR8.frozen 1
          have c1 := hR8.cell 1
          have f2 := hR8.frozen 2
          have c2 := hR8.cell 2
          have f3 := hR8.frozen 3
          have c3 := hR8.cell 3
          have f4 := hR8.frozen 4
          have c4 := hR8.cell 4
          have f5 := hR8.frozen 5
          have c5 := hR8.cell 5
          have f6 := hR8.frozen 6
          have c6 := hR8.cell 6
          simp only [List.getElem?_toArray, List.getElem?_cons_zero, List.getElem?_cons_succ] at c0 c1 c2 c3 c4 c5 c6
          go_wp2
          refine ret_cell rfl w.heap.size zero7 _ rfl (blk_set7 hR8 _ _ _ _ _ _ _) Try.underlying71 rfl (by kernel_rfl) rfl ?_
          rw [HN.out]
          exact ⟨rfl, below_g b8 b8.size (Nat.le_refl _) (grownBy_set7 _ _ _ _ _ _ _ _ _)⟩
        | some x =>
          rw [hx] at h
          have HSQ : Hid (w1.heap.size < w6.heap.size ∧ w1.heap.size = w.heap.size + 1 + 1) := Lib.hid ⟨HV5.out.lt, HEZ2.out⟩
          obtain ⟨B1, n1, m1, B2, n2, m2, rfl, k1, k2, o1, o2, hb6⟩ := h
          have HN : Hid (X0 = some ⟨t, dd, false, p, x⟩) := Lib.hid (by rw [HF.out, hx]; rfl)
          have V6 := (HV5.out.below hb6 HV5.out.lt).alloc (.cells #[.int .u64 (x.key : Int), .slice B1 n1 m1, .slice B2 n2 m2] 58)
          have hR6 := (HR5.out.below hb6 HR5.out.lt).alloc (.cells #[.int .u64 (x.key : Int), .slice B1 n1 m1, .slice B2 n2 m2] 58)
          have T6 := Blk.new w7 58 #[.int .u64 (x.key : Int), .slice B1 n1 m1, .slice B2 n2 m2]
          have ba : Below w7.heap.size w7 (w7.alloc (.cells #[.int .u64 (x.key : Int), .slice B1 n1 m1, .slice B2 n2 m2] 58)) := (Below.refl _ _).alloc (Nat.le_refl _) _
          have b6 := below_step (below_step HB5.out hb6 (Nat.le_refl _)) ba (Nat.le_refl _)
          have o16 := Lib.hid (o1.below ba)
          have o26 := Lib.hid (o2.below ba)
          have hs6 := hb6.size
          clear ba hb6 hx o1 o2
          have y0 := V6.cell 0
          have y1 := V6.cell 1
          have y2 := V6.cell 2
          have y3 := V6.cell 3
          have y4 := V6.cell 4
          have y5 := V6.cell 5
          have y6 := V6.cell 6
          have z4 := V6.frozen 4
          have z5 := V6.frozen 5
          have z6 := V6.frozen 6
          have f0 := hR6.frozen 0
          have c0 := hR6.cell 0
          have f1 := hR6.frozen 1
          have c1 := hR6.cell 1
          have f2 := hR6.frozen 2
          have c2 := hR6.cell 2
          have f3 := hR6.frozen 3
          have c3 := hR6.cell 3
          have f4 := hR6.frozen 4
          have c4 := hR6.cell 4
          have f5 := hR6.frozen 5
          have c5 := hR6.cell 5
          have f6 := hR6.frozen 6
          have c6 := hR6.cell 6
          simp only [List.getElem?_toArray, List.getElem?_cons_zero, List.getElem?_cons_succ] at c0 c1 c2 c3 c4 c5 c6 y0 y1 y2 y3 y4 y5 y6
          have HR6 := Lib.hid hR6
          have B6 := Lib.hid b6
          have g3 := grownBy_set3 (w7.alloc (.cells #[.int .u64 (x.key : Int), .slice B1 n1 m1, .slice B2 n2 m2] 58)) w1.heap.size (.int .u64 (x.key : Int)) (.slice B1 n1 m1) (.slice B2 n2 m2)
          have G3 := Lib.hid g3
          have HX6 : Hid (w1.heap.size < w7.heap.size) := Lib.hid (by have := HSQ.out; omega)
          have hRX : w.heap.size < w1.heap.size := by have := HSQ.out; omega
          clear hR6 b6 V6 T6 g3 hw4 hw6 z0 w2c hs6
          go_wp2
          refine ret_cell rfl w.heap.size #[.int .u64 (t : Int), .bool dd, .bool false, .int .u64 (p : Int), .int .u64 (x.key : Int), .slice B1 n1 m1, .slice B2 n2 m2] _ rfl (blk_set7 (HR6.out.grown G3.out (by intro q; injection q with q; omega)) _ _ _ _ _ _ _) Try.underlying71 rfl (by kernel_rfl) rfl ?_
          rw [HN.out]
          have bg := below_g (below_g B6.out B6.out.size (by omega) G3.out) (Nat.le_trans B6.out.size G3.out.size) (Nat.le_refl _) (grownBy_set7 _ w.heap.size (.int .u64 (t : Int)) (.bool dd) (.bool false) (.int .u64 (p : Int)) (.int .u64 (x.key : Int)) (.slice B1 n1 m1) (.slice B2 n2 m2))
          exact ⟨B1, n1, m1, B2, n2, m2, rfl, k1, k2, ((o16.out.kept G3.out (by have := HSQ.out; omega)).kept (grownBy_set7 _ w.heap.size _ _ _ _ _ _ _) (by have := HSQ.out; omega)).base_ (by have := HB5.out.size; omega), ((o26.out.kept G3.out (by have := HSQ.out; omega)).kept (grownBy_set7 _ w.heap.size _ _ _ _ _ _ _) (by have := HSQ.out; omega)).base_ (by have := HB5.out.size; omega), bg⟩
end Go.Proofs.Yteanmmdlgolljaa
