/-
  The reading of a version by the program.
  Conditions: the bytes lie in memory as a list; their number is bounded.
-/
import Derived.Test.YteanmmdlgolljaaVerM
import Derived.Test.YteanmmdlgolljaaVerK
import Derived.Test.YteanmmdlgolljaaItemBackWalk
namespace Go.Proofs.Yteanmmdlgolljaa
open Go.RowKit Go.Sort Go.Lib
set_option linter.unusedVariables false
def zero7 : Array Value := #[.int .u64 0, .bool false, .bool false, .int .u64 0, .int .u64 0, .slice none 0 0, .slice none 0 0]
/-- What the reading returns. -/
def VNo (w : World) (e : Ending) (w' : World) : Prop := e = .returned (.tuple #[.agg zero7, .int .i64 4]) ∧ Below w.heap.size w w'
def VYes (v : Ver) (w : World) (e : Ending) (w' : World) : Prop := ∃ A n c A2 n2 c2, e = .returned (.tuple #[.agg #[.int .u64 (v.txn : Int), .bool v.dead, .bool v.gone, .int .u64 (v.prev : Int), .int .u64 (v.x.key : Int), .slice A n c, .slice A2 n2 c2], .int .i64 0]) ∧ Hid (v.x.vec.length = n) ∧ Hid (v.x.note.length = n2) ∧ Own32 w' w.heap.size A n c v.x.vec ∧ Own w' w.heap.size A2 c2 v.x.note ∧ Below w.heap.size w w'
def VPost (r : Option Ver) (w : World) (e : Ending) (w' : World) : Prop := match r with
  | none => VNo w e w'
  | some v => VYes v w e w'
theorem grownBy_set7 (w : World) (g : Nat) (v0 v1 v2 v3 v4 v5 v6 : Value) : w.grownBy (((((((w.setCell ⟨g, 0, none⟩ v0).setCell ⟨g, 1, none⟩ v1).setCell ⟨g, 2, none⟩ v2).setCell ⟨g, 3, none⟩ v3).setCell ⟨g, 4, none⟩ v4).setCell ⟨g, 5, none⟩ v5).setCell ⟨g, 6, none⟩ v6) (some g) :=
  grownBy_setB (grownBy_setB (grownBy_setB (grownBy_setB (grownBy_setB (grownBy_setB (grownBy_setB (World.grownBy.refl w (some g)) 0 v0) 1 v1) 2 v2) 3 v3) 4 v4) 5 v5) 6 v6
theorem blk_set7 {w : World} {g : Nat} {t : TypeId} {u0 u1 u2 u3 u4 u5 u6 : Value} (h : Blk w g t #[u0, u1, u2, u3, u4, u5, u6]) (v0 v1 v2 v3 v4 v5 v6 : Value) : Blk (((((((w.setCell ⟨g, 0, none⟩ v0).setCell ⟨g, 1, none⟩ v1).setCell ⟨g, 2, none⟩ v2).setCell ⟨g, 3, none⟩ v3).setCell ⟨g, 4, none⟩ v4).setCell ⟨g, 5, none⟩ v5).setCell ⟨g, 6, none⟩ v6) g t #[v0, v1, v2, v3, v4, v5, v6] :=
  by
  have := ((((((h.set_ 0 v0).set_ 1 v1).set_ 2 v2).set_ 3 v3).set_ 4 v4).set_ 5 v5).set_ 6 v6
  simp only [List.setIfInBounds_toArray, List.set_cons_succ, List.set_cons_zero] at this
  exact this
theorem grownBy_set3 (w : World) (g : Nat) (v4 v5 v6 : Value) : w.grownBy (((w.setCell ⟨g, 4, none⟩ v4).setCell ⟨g, 5, none⟩ v5).setCell ⟨g, 6, none⟩ v6) (some g) :=
  grownBy_setB (grownBy_setB (grownBy_setB (World.grownBy.refl w (some g)) 4 v4) 5 v5) 6 v6
theorem below_g {B g : Nat} {a w w' : World} (h : Below B a w) (hs : B ≤ w.heap.size) (hg : B ≤ g) (gg : w.grownBy w' (some g)) : Below B a w' := below_grown h gg hs hg
theorem and1 (f : Nat) (hf : f < 256) : bits .and .u8 (f : Int) 1 = ((f % 2 : Nat) : Int) := by
  have h : ∀ x : Fin 256, x.val &&& 1 = x.val % 2 := by decide +kernel
  rw [show (1 : Int) = ((1 : Nat) : Int) from rfl, u8_and_nat _ _ hf (by omega), h ⟨f, hf⟩]
theorem and2 (f : Nat) (hf : f < 256) : bits .and .u8 (f : Int) 2 = ((f / 2 % 2 * 2 : Nat) : Int) := by
  have h : ∀ x : Fin 256, x.val &&& 2 = x.val / 2 % 2 * 2 := by decide +kernel
  rw [show (2 : Int) = ((2 : Nat) : Int) from rfl, u8_and_nat _ _ hf (by omega), h ⟨f, hf⟩]
theorem fixed1_lt (r : CodeM.Rd) : (r.fixed 1).1 < 256 := by
  obtain ⟨l, e⟩ := r
  by_cases he : e = 0
  · subst he
    by_cases hl : l.length < 1
    · rw [CodeM.fixed_fail hl]; omega
    · rw [CodeM.fixed_ok hl]
      have := CodeM.le_take_lt l 1 (by omega)
      have h8 : (256 : Nat) ^ 1 = 256 := by decide
      omega
  · rw [CodeM.fixed_err he]; omega
set_option maxRecDepth 100000 in
set_option maxHeartbeats 8000000 in
theorem snapread_any (A : Option Addr) (c : Nat) (b : List UInt8) (w : World) (hr : Row w A (bs b)) (hcap : b.length ≤ c) (hc : b.length ≤ 140737488355328) :
    Calls Try.prog 49 #[.slice A b.length c] w (VPost (VerM.read b) w) := by
  obtain ⟨Q1, hQ1⟩ : ∃ r, CodeM.Rd.fixed 1 ⟨b, 0⟩ = r := ⟨_, rfl⟩
  obtain ⟨f, r1⟩ := Q1
  obtain ⟨Q2, hQ2⟩ : ∃ r, r1.fixed 8 = r := ⟨_, rfl⟩
  obtain ⟨t, r2⟩ := Q2
  obtain ⟨Q3, hQ3⟩ : ∃ r, r2.fixed 8 = r := ⟨_, rfl⟩
  obtain ⟨p, r3⟩ := Q3
  have hf : f < 256 := by have := fixed1_lt ⟨b, 0⟩; rw [hQ1] at this; exact this
  have hP : VerM.read b = if 3 < f ∨ r3.e ≠ 0 then none else VerM.body f t p r3 := by
    unfold VerM.read
    rw [hQ1]
    simp only [hQ2, hQ3]
  have hlong : r3.e = 0 → 17 ≤ b.length ∧ r3.l = b.drop 17 := by
    intro h0
    have hl : 17 ≤ b.length := by
      by_cases q : b.length < 17
      · have := VerM.head_short q
        rw [hQ1] at this
        simp only [hQ2, hQ3] at this
        exact absurd h0 this
      · omega
    refine ⟨hl, ?_⟩
    obtain ⟨g1, g2, g3⟩ := VerM.head_ok hl
    have e1 : r1 = ⟨b.drop 1, 0⟩ := (Prod.mk.inj (hQ1.symm.trans g1)).2
    have e2 : r2 = ⟨b.drop 9, 0⟩ := (Prod.mk.inj (hQ2.symm.trans (by rw [e1]; exact g2))).2
    have e3 : r3 = ⟨b.drop 17, 0⟩ := (Prod.mk.inj (hQ3.symm.trans (by rw [e2]; exact g3))).2
    rw [e3]
  have hbod : VerM.body f t p r3 = if f / 2 % 2 = 1 then (if (r3.fixed 8).2.e ≠ 0 ∨ (r3.fixed 8).2.l ≠ [] then none else some ⟨t, decide (f % 2 = 1), true, p, ⟨(r3.fixed 8).1, [], []⟩⟩) else (ItemM.readR r3.l).map fun x => ⟨t, decide (f % 2 = 1), false, p, x⟩ := rfl
  obtain ⟨X0, hX0⟩ : ∃ r, VerM.read b = r := ⟨_, rfl⟩
  rw [hX0]
  rw [hX0] at hP
  have HP := Lib.hid hP
  have HLONG := Lib.hid hlong
  have HBOD := Lib.hid hbod
  have H1 := Lib.hid hQ1
  have H2 := Lib.hid hQ2
  have H3 := Lib.hid hQ3
  obtain ⟨d1, hd1⟩ : ∃ d, f % 2 = d := ⟨_, rfl⟩
  obtain ⟨d2, hd2⟩ : ∃ d, f / 2 % 2 * 2 = d := ⟨_, rfl⟩
  have hb1 := and1 f hf
  have hb2 := and2 f hf
  rw [hd1] at hb1
  rw [hd2] at hb2
  obtain ⟨dd, hdd⟩ : ∃ q, ((d1 : Int) != 0) = q := ⟨_, rfl⟩
  obtain ⟨gn, hgn⟩ : ∃ q, ((d2 : Int) != 0) = q := ⟨_, rfl⟩
  have HDE : Hid (decide (f % 2 = 1) = dd) := Lib.hid (by
    rw [← hdd, hd1]
    rcases (by omega : d1 = 0 ∨ d1 = 1) with h | h <;> subst h <;> rfl)
  have HGO : Hid (gn = true ↔ f / 2 % 2 = 1) := Lib.hid (by
    rw [← hgn]
    have : f / 2 % 2 = 0 ∨ f / 2 % 2 = 1 := by omega
    rcases this with h | h
    · rw [h] at hd2; subst hd2; rw [h]; simp
    · rw [h] at hd2; subst hd2; rw [h]; simp)
  clear hP hlong hbod hQ1 hQ2 hQ3 hX0 hd1 hd2
  go_enter Try.func49, Try.ntmps49
  go_wp2_with fail
  refine (newreaderO_any A c b _ (hr.alloc _) hc).mono ?_
  rintro e w1 ⟨g, A1, c1, rfl, hg, hg1, hB, hO, hb⟩
  have hR := (Blk.new w 71 #[.int .u64 0, .bool false, .bool false, .int .u64 0, .int .u64 0, .slice none 0 0, .slice none 0 0]).below hb (by simp)
  have b1 : Below w.heap.size w w1 := below_step ((Below.refl w.heap.size w).alloc (Nat.le_refl _) _) hb (Nat.le_refl _)
  have hgw : w.heap.size < g := by simp at hg; omega
  have r0 : RdIn w1.heap.size 76 w1 g ⟨b, 0⟩ := RdAt.in_ ⟨A1, b.length, c1, hB, rfl, ⟨hO.le.1, hc⟩, hO.le.2, hO.row⟩ (by omega)
  clear hb hg hB hO
  go_wp2_with fail
  refine (u8I_any g ⟨b, 0⟩ w1 r0).mono ?_
  rw [H1.out]
  rintro e w2 ⟨rfl, q1, g1⟩
  dsimp only at *
  have hs2 := g1.size
  have b2 := below_grown b1 g1 b1.size (by omega)
  have hR2 := hR.grown g1 (by intro q; injection q with q; omega)
  clear r0 g1 b1 hR
  go_wp2_with fail
  refine (u64I_any g r1 w2 q1).mono ?_
  rw [H2.out]
  rintro e w3 ⟨rfl, q2, g2⟩
  dsimp only at *
  have hs3 := g2.size
  have b3 := below_grown b2 g2 b2.size (by omega)
  have hR3 := hR2.grown g2 (by intro q; injection q with q; omega)
  clear q1 g2 b2 hR2
  go_wp2_with fail
  refine (u64I_any g r2 w3 q2).mono ?_
  rw [H3.out]
  rintro e w4 ⟨rfl, q3, g3⟩
  dsimp only at *
  have hs4 := g3.size
  have b4 := below_grown b3 g3 b3.size (by omega)
  have hR4 := hR3.grown g3 (by intro q; injection q with q; omega)
  clear q2 g3 b3 hR3
  have V5 := Blk.new w4 71 #[.int .u64 (t : Int), .bool dd, .bool gn, .int .u64 (p : Int), .int .u64 0, .slice none 0 0, .slice none 0 0]
  have ba : Below w4.heap.size w4 (w4.alloc (.cells #[.int .u64 (t : Int), .bool dd, .bool gn, .int .u64 (p : Int), .int .u64 0, .slice none 0 0, .slice none 0 0] 71)) := (Below.refl _ _).alloc (Nat.le_refl _) _
  have q5 := q3.below ba
  have hR5 := hR4.below ba hR4.lt
  have b5 := below_step b4 ba (Nat.le_refl _)
  have hs5 : (w4.alloc (.cells #[.int .u64 (t : Int), .bool dd, .bool gn, .int .u64 (p : Int), .int .u64 0, .slice none 0 0, .slice none 0 0] 71)).heap.size = w4.heap.size + 1 := by simp
  have HS5 := Lib.hid hs5
  clear hs5 ba q3 hR4 b4
  by_cases hf3 : 3 < f
  · have HN : Hid (X0 = none) := Lib.hid (by rw [HP.out, if_pos (.inl hf3)])
    have hd3 : decide ((3 : Int) < f) = true := decide_eq_true (by omega)
    have f0 := hR5.frozen 0
    have c0 := hR5.cell 0
    have f1 := hR5.frozen 1
    have c1 := hR5.cell 1
    have f2 := hR5.frozen 2
    have c2 := hR5.cell 2
    have f3 := hR5.frozen 3
    have c3 := hR5.cell 3
    have f4 := hR5.frozen 4
    have c4 := hR5.cell 4
    have f5 := hR5.frozen 5
    have c5 := hR5.cell 5
    have f6 := hR5.frozen 6
    have c6 := hR5.cell 6
    simp only [List.getElem?_toArray, List.getElem?_cons_zero, List.getElem?_cons_succ] at c0 c1 c2 c3 c4 c5 c6
    go_wp2
    refine ret_cell rfl w.heap.size zero7 _ rfl (blk_set7 hR5 _ _ _ _ _ _ _) Try.underlying71 rfl (by kernel_rfl) rfl ?_
    rw [HN.out]
    exact ⟨rfl, below_g b5 b5.size (Nat.le_refl _) (grownBy_set7 _ _ _ _ _ _ _ _ _)⟩
  · have hd3 : decide ((3 : Int) < f) = false := decide_eq_false (by omega)
    go_wp2_with fail
    generalize w4.alloc (.cells #[.int .u64 (t : Int), .bool dd, .bool gn, .int .u64 (p : Int), .int .u64 0, .slice none 0 0, .slice none 0 0] 71) = w5 at *
    refine (err_any g r3 w5 q5.at_).mono ?_
    rintro e w6 ⟨rfl, rfl⟩
    by_cases he : r3.e = 0
    · have hee : ((r3.e : Int) == 0) = true := beq_iff_eq.2 (by omega)
      obtain ⟨hl17, hl3⟩ := HLONG.out he
      have HB : Hid (X0 = VerM.body f t p r3) := Lib.hid (by rw [HP.out, if_neg (by omega)])
      have hgX : g < w4.heap.size := by omega
      have hRX : w.heap.size < w4.heap.size := by omega
      have w2 := V5.cell 2
      simp only [List.getElem?_toArray, List.getElem?_cons_zero, List.getElem?_cons_succ] at w2
      cases hgc : gn with
      | true =>
        rw [hgc] at V5 w2
        have hgo := HGO.out.1 hgc
        obtain ⟨Q4, hQ4⟩ : ∃ r, r3.fixed 8 = r := ⟨_, rfl⟩
        obtain ⟨k, r4⟩ := Q4
        have HF : Hid (X0 = if r4.e ≠ 0 ∨ r4.l ≠ [] then none else some ⟨t, dd, true, p, ⟨k, [], []⟩⟩) := Lib.hid (by rw [HB.out, HBOD.out, if_pos hgo, hQ4, HDE.out])
        have H4 := Lib.hid hQ4
        have HE5 := Lib.hid hee
        clear hQ4 hgn hgc hb2
        go_wp2_with fail
        refine (u64I_any g r3 w5 q5).mono ?_
        rw [H4.out]
        rintro e w6 ⟨rfl, q6, g6⟩
        dsimp only at *
        have hs6 := g6.size
        have V6 := V5.grown g6 (by intro q; injection q with q; omega)
        have hR6 := hR5.grown g6 (by intro q; injection q with q; omega)
        have b6 := below_grown b5 g6 b5.size (by omega)
        have f4 := V6.frozen 4
        have c4 := V6.cell 4
        simp only [List.getElem?_toArray, List.getElem?_cons_zero, List.getElem?_cons_succ] at c4
        have gg := grownBy_setCell w6 w4.heap.size 4 (.int .u64 (k : Int))
        have V7 := V6.set_ 4 (.int .u64 (k : Int))
        have hR7 := hR6.grown gg (by intro q; injection q with q; omega)
        have q7 := q6.above gg (by omega) (by have := HS5.out; omega)
        have b7 := below_grown b6 gg b6.size (by omega)
        simp only [List.setIfInBounds_toArray, List.set_cons_succ, List.set_cons_zero] at V7
        obtain ⟨w7, hw7⟩ : ∃ v, w6.setCell ⟨w4.heap.size, 4, none⟩ (.int .u64 (k : Int)) = v := ⟨_, rfl⟩
        rw [hw7] at V7 hR7 q7 b7 gg
        have hs7 := gg.size
        clear V5 hR5 b5 q5 V6 hR6 b6 q6 g6 gg w2
        go_wp2_with fail
        refine (err_any g r4 w7 q7.at_).mono ?_
        rintro e w8 ⟨rfl, rfl⟩
        clear hw7 c4 f4
        by_cases he4 : r4.e = 0
        · have hee4 : ((r4.e : Int) == 0) = true := beq_iff_eq.2 (by omega)
          go_wp2_with fail
          refine (left_any g r4 w7 q7.at_).mono ?_
          rintro e w8 ⟨rfl, rfl⟩
          by_cases hl4 : r4.l = []
          · have hll : decide ((0 : Int) < (r4.l.length : Int)) = false := decide_eq_false (by rw [hl4]; simp)
            have HN : Hid (X0 = some ⟨t, dd, true, p, ⟨k, [], []⟩⟩) := Lib.hid (by rw [HF.out, if_neg (by rintro (h | h); exact h he4; exact h hl4)])
            have f0 := hR7.frozen 0
            have c0 := hR7.cell 0
            have v0 := V7.cell 0
            have f1 := hR7.frozen 1
            have c1 := hR7.cell 1
            have v1 := V7.cell 1
            have f2 := hR7.frozen 2
            have c2 := hR7.cell 2
            have v2 := V7.cell 2
            have f3 := hR7.frozen 3
            have c3 := hR7.cell 3
            have v3 := V7.cell 3
            have f4 := hR7.frozen 4
            have c4 := hR7.cell 4
            have v4 := V7.cell 4
            have f5 := hR7.frozen 5
            have c5 := hR7.cell 5
            have v5 := V7.cell 5
            have f6 := hR7.frozen 6
            have c6 := hR7.cell 6
            have v6 := V7.cell 6
            simp only [List.getElem?_toArray, List.getElem?_cons_zero, List.getElem?_cons_succ] at c0 c1 c2 c3 c4 c5 c6 v0 v1 v2 v3 v4 v5 v6
            go_wp2
            refine ret_cell rfl w.heap.size #[.int .u64 (t : Int), .bool dd, .bool true, .int .u64 (p : Int), .int .u64 (k : Int), .slice none 0 0, .slice none 0 0] _ rfl (blk_set7 hR7 _ _ _ _ _ _ _) Try.underlying71 rfl (by kernel_rfl) rfl ?_
            rw [HN.out]
            exact ⟨none, 0, 0, none, 0, 0, rfl, Lib.hid rfl, Lib.hid rfl, Own32.nil_ _ _, Own.nil_ _ _, below_g b7 b7.size (Nat.le_refl _) (grownBy_set7 _ _ _ _ _ _ _ _ _)⟩
          · have hll2 : (0 : Int) < (r4.l.length : Int) := by have := List.length_pos_iff.2 hl4; omega
            have hll : decide ((0 : Int) < (r4.l.length : Int)) = true := decide_eq_true hll2
            have hll3 : 0 < r4.l.length := by omega
            have HN : Hid (X0 = none) := Lib.hid (by rw [HF.out, if_pos (.inr hl4)])
            have f0 := hR7.frozen 0
            have c0 := hR7.cell 0
            have f1 := hR7.frozen 1
            have c1 := hR7.cell 1
            have f2 := hR7.frozen 2
            have c2 := hR7.cell 2
            have f3 := hR7.frozen 3
            have c3 := hR7.cell 3
            have f4 := hR7.frozen 4
            have c4 := hR7.cell 4
            have f5 := hR7.frozen 5
            have c5 := hR7.cell 5
            have f6 := hR7.frozen 6
            have c6 := hR7.cell 6
            simp only [List.getElem?_toArray, List.getElem?_cons_zero, List.getElem?_cons_succ] at c0 c1 c2 c3 c4 c5 c6
            go_wp2
            refine ret_cell rfl w.heap.size zero7 _ rfl (blk_set7 hR7 _ _ _ _ _ _ _) Try.underlying71 rfl (by kernel_rfl) rfl ?_
            rw [HN.out]
            exact ⟨rfl, below_g b7 b7.size (Nat.le_refl _) (grownBy_set7 _ _ _ _ _ _ _ _ _)⟩
        · have hee4 : ((r4.e : Int) == 0) = false := beq_eq_false_iff_ne.2 (by omega)
          have hee5 : ¬ ((r4.e : Int) = 0) := by omega
          have HN : Hid (X0 = none) := Lib.hid (by rw [HF.out, if_pos (.inl he4)])
          have f0 := hR7.frozen 0
          have c0 := hR7.cell 0
          have f1 := hR7.frozen 1
          have c1 := hR7.cell 1
          have f2 := hR7.frozen 2
          have c2 := hR7.cell 2
          have f3 := hR7.frozen 3
          have c3 := hR7.cell 3
          have f4 := hR7.frozen 4
          have c4 := hR7.cell 4
          have f5 := hR7.frozen 5
          have c5 := hR7.cell 5
          have f6 := hR7.frozen 6
          have c6 := hR7.cell 6
          simp only [List.getElem?_toArray, List.getElem?_cons_zero, List.getElem?_cons_succ] at c0 c1 c2 c3 c4 c5 c6
          go_wp2
          refine ret_cell rfl w.heap.size zero7 _ rfl (blk_set7 hR7 _ _ _ _ _ _ _) Try.underlying71 rfl (by kernel_rfl) rfl ?_
          rw [HN.out]
          exact ⟨rfl, below_g b7 b7.size (Nat.le_refl _) (grownBy_set7 _ _ _ _ _ _ _ _ _)⟩
      | false =>
        rw [hgc] at V5 w2
        have hgo : ¬ f / 2 % 2 = 1 := fun q => by have := HGO.out.2 q; rw [hgc] at this; cases this
        have HF : Hid (X0 = (ItemM.readR (b.drop 17)).map fun x => ⟨t, dd, false, p, x⟩) := Lib.hid (by rw [HB.out, HBOD.out, if_neg hgo, hl3, HDE.out])
        obtain ⟨bq, oq, rfl, _⟩ := hr.byte (k := 0) (by omega)
        have HR5 := Lib.hid hR5
        have HV5 := Lib.hid V5
        have HB5 := Lib.hid b5
        have RD := Lib.hid ((row_drop hr 17).below b5)
        have HQ5 := HS5
        have hcc : (17 : Int) ≤ (b.length : Int) := by omega
        have hcc2 : (b.length : Int) ≤ (c : Int) := by omega
        clear hgc hgn hb2 hR5 V5 b5 q5
        go_wp2_with fail
        · have hc17 : c = 17 := by assumption
          refine (itemread_len (some ⟨bq, oq, none⟩) (b.length - 17) 0 (b.drop 17) w5 (by rw [List.length_drop]) (by left; rw [List.drop_eq_nil_of_le (by omega)]; rfl) (by omega)).mono fun e w6 h => ?_
          cases hx : ItemM.readR (b.drop 17) with
          | none =>
            rw [hx] at h
            obtain ⟨rfl, hb6⟩ := h
            have HN : Hid (X0 = none) := Lib.hid (by rw [HF.out, hx]; rfl)
            have hR6 := (HR5.out.below hb6 HR5.out.lt).alloc (.cells #[.int .u64 0, .slice none 0 0, .slice none 0 0] 58)
            have b6 := (below_step HB5.out hb6 (Nat.le_refl _)).alloc (by have := HB5.out.size; have := hb6.size; omega) (.cells #[.int .u64 0, .slice none 0 0, .slice none 0 0] 58)
            clear hb6 hx
            have f0 := hR6.frozen 0
            have c0 := hR6.cell 0
            have f1 := hR6.frozen 1
            have c1 := hR6.cell 1
            have f2 := hR6.frozen 2
            have c2 := hR6.cell 2
            have f3 := hR6.frozen 3
            have c3 := hR6.cell 3
            have f4 := hR6.frozen 4
            have c4 := hR6.cell 4
            have f5 := hR6.frozen 5
            have c5 := hR6.cell 5
            have f6 := hR6.frozen 6
            have c6 := hR6.cell 6
            simp only [List.getElem?_toArray, List.getElem?_cons_zero, List.getElem?_cons_succ] at c0 c1 c2 c3 c4 c5 c6
            go_wp2
            refine ret_cell rfl w.heap.size zero7 _ rfl (blk_set7 hR6 _ _ _ _ _ _ _) Try.underlying71 rfl (by kernel_rfl) rfl ?_
            rw [HN.out]
            exact ⟨rfl, below_g b6 b6.size (Nat.le_refl _) (grownBy_set7 _ _ _ _ _ _ _ _ _)⟩
          | some x =>
            rw [hx] at h
            obtain ⟨B1, n1, m1, B2, n2, m2, rfl, k1, k2, o1, o2, hb6⟩ := h
            have HN : Hid (X0 = some ⟨t, dd, false, p, x⟩) := Lib.hid (by rw [HF.out, hx]; rfl)
            have V6 := (HV5.out.below hb6 HV5.out.lt).alloc (.cells #[.int .u64 (x.key : Int), .slice B1 n1 m1, .slice B2 n2 m2] 58)
            have hR6 := (HR5.out.below hb6 HR5.out.lt).alloc (.cells #[.int .u64 (x.key : Int), .slice B1 n1 m1, .slice B2 n2 m2] 58)
            have T6 := Blk.new w6 58 #[.int .u64 (x.key : Int), .slice B1 n1 m1, .slice B2 n2 m2]
            have ba : Below w6.heap.size w6 (w6.alloc (.cells #[.int .u64 (x.key : Int), .slice B1 n1 m1, .slice B2 n2 m2] 58)) := (Below.refl _ _).alloc (Nat.le_refl _) _
            have b6 := below_step (below_step HB5.out hb6 (Nat.le_refl _)) ba (Nat.le_refl _)
            have o16 := Lib.hid (o1.below ba)
            have o26 := Lib.hid (o2.below ba)
            have hs6 := hb6.size
            clear ba hb6 hx o1 o2
            have y0 := V6.cell 0
            have y1 := V6.cell 1
            have y2 := V6.cell 2
            have y3 := V6.cell 3
            have y4 := V6.cell 4
            have y5 := V6.cell 5
            have y6 := V6.cell 6
            have z4 := V6.frozen 4
            have z5 := V6.frozen 5
            have z6 := V6.frozen 6
            have f0 := hR6.frozen 0
            have c0 := hR6.cell 0
            have f1 := hR6.frozen 1
            have c1 := hR6.cell 1
            have f2 := hR6.frozen 2
            have c2 := hR6.cell 2
            have f3 := hR6.frozen 3
            have c3 := hR6.cell 3
            have f4 := hR6.frozen 4
            have c4 := hR6.cell 4
            have f5 := hR6.frozen 5
            have c5 := hR6.cell 5
            have f6 := hR6.frozen 6
            have c6 := hR6.cell 6
            simp only [List.getElem?_toArray, List.getElem?_cons_zero, List.getElem?_cons_succ] at c0 c1 c2 c3 c4 c5 c6 y0 y1 y2 y3 y4 y5 y6
            have HR6 := Lib.hid hR6
            have B6 := Lib.hid b6
            have g3 := grownBy_set3 (w6.alloc (.cells #[.int .u64 (x.key : Int), .slice B1 n1 m1, .slice B2 n2 m2] 58)) w4.heap.size (.int .u64 (x.key : Int)) (.slice B1 n1 m1) (.slice B2 n2 m2)
            have G3 := Lib.hid g3
            have HX6 : Hid (w4.heap.size < w6.heap.size) := Lib.hid (by have := HQ5.out; omega)
            clear hR6 b6 V6 T6 g3
            go_wp2
            refine ret_cell rfl w.heap.size #[.int .u64 (t : Int), .bool dd, .bool false, .int .u64 (p : Int), .int .u64 (x.key : Int), .slice B1 n1 m1, .slice B2 n2 m2] _ rfl (blk_set7 (HR6.out.grown G3.out (by intro q; injection q with q; omega)) _ _ _ _ _ _ _) Try.underlying71 rfl (by kernel_rfl) rfl ?_
            rw [HN.out]
            have bg := below_g (below_g B6.out B6.out.size (by omega) G3.out) (Nat.le_trans B6.out.size G3.out.size) (Nat.le_refl _) (grownBy_set7 _ w.heap.size (.int .u64 (t : Int)) (.bool dd) (.bool false) (.int .u64 (p : Int)) (.int .u64 (x.key : Int)) (.slice B1 n1 m1) (.slice B2 n2 m2))
            exact ⟨B1, n1, m1, B2, n2, m2, rfl, k1, k2, ((o16.out.kept G3.out (by have := HQ5.out; omega)).kept (grownBy_set7 _ w.heap.size _ _ _ _ _ _ _) (by have := HQ5.out; omega)).base_ (by have := HB5.out.size; omega), ((o26.out.kept G3.out (by have := HQ5.out; omega)).kept (grownBy_set7 _ w.heap.size _ _ _ _ _ _ _) (by have := HQ5.out; omega)).base_ (by have := HB5.out.size; omega), bg⟩
        · skip
          refine (itemread_len (some ⟨bq, oq + 17, none⟩) (b.length - 17) (c - 17) (b.drop 17) w5 (by rw [List.length_drop]) RD.out (by omega)).mono fun e w6 h => ?_
          cases hx : ItemM.readR (b.drop 17) with
          | none =>
            rw [hx] at h
            obtain ⟨rfl, hb6⟩ := h
            have HN : Hid (X0 = none) := Lib.hid (by rw [HF.out, hx]; rfl)
            have hR6 := (HR5.out.below hb6 HR5.out.lt).alloc (.cells #[.int .u64 0, .slice none 0 0, .slice none 0 0] 58)
            have b6 := (below_step HB5.out hb6 (Nat.le_refl _)).alloc (by have := HB5.out.size; have := hb6.size; omega) (.cells #[.int .u64 0, .slice none 0 0, .slice none 0 0] 58)
            clear hb6 hx
            have f0 := hR6.frozen 0
            have c0 := hR6.cell 0
            have f1 := hR6.frozen 1
            have c1 := hR6.cell 1
            have f2 := hR6.frozen 2
            have c2 := hR6.cell 2
            have f3 := hR6.frozen 3
            have c3 := hR6.cell 3
            have f4 := hR6.frozen 4
            have c4 := hR6.cell 4
            have f5 := hR6.frozen 5
            have c5 := hR6.cell 5
            have f6 := hR6.frozen 6
            have c6 := hR6.cell 6
            simp only [List.getElem?_toArray, List.getElem?_cons_zero, List.getElem?_cons_succ] at c0 c1 c2 c3 c4 c5 c6
            go_wp2
            refine ret_cell rfl w.heap.size zero7 _ rfl (blk_set7 hR6 _ _ _ _ _ _ _) Try.underlying71 rfl (by kernel_rfl) rfl ?_
            rw [HN.out]
            exact ⟨rfl, below_g b6 b6.size (Nat.le_refl _) (grownBy_set7 _ _ _ _ _ _ _ _ _)⟩
          | some x =>
            rw [hx] at h
            obtain ⟨B1, n1, m1, B2, n2, m2, rfl, k1, k2, o1, o2, hb6⟩ := h
            have HN : Hid (X0 = some ⟨t, dd, false, p, x⟩) := Lib.hid (by rw [HF.out, hx]; rfl)
            have V6 := (HV5.out.below hb6 HV5.out.lt).alloc (.cells #[.int .u64 (x.key : Int), .slice B1 n1 m1, .slice B2 n2 m2] 58)
            have hR6 := (HR5.out.below hb6 HR5.out.lt).alloc (.cells #[.int .u64 (x.key : Int), .slice B1 n1 m1, .slice B2 n2 m2] 58)
            have T6 := Blk.new w6 58 #[.int .u64 (x.key : Int), .slice B1 n1 m1, .slice B2 n2 m2]
            have ba : Below w6.heap.size w6 (w6.alloc (.cells #[.int .u64 (x.key : Int), .slice B1 n1 m1, .slice B2 n2 m2] 58)) := (Below.refl _ _).alloc (Nat.le_refl _) _
            have b6 := below_step (below_step HB5.out hb6 (Nat.le_refl _)) ba (Nat.le_refl _)
            have o16 := Lib.hid (o1.below ba)
            have o26 := Lib.hid (o2.below ba)
            have hs6 := hb6.size
            clear ba hb6 hx o1 o2
            have y0 := V6.cell 0
            have y1 := V6.cell 1
            have y2 := V6.cell 2
            have y3 := V6.cell 3
            have y4 := V6.cell 4
            have y5 := V6.cell 5
            have y6 := V6.cell 6
            have z4 := V6.frozen 4
            have z5 := V6.frozen 5
            have z6 := V6.frozen 6
            have f0 := hR6.frozen 0
            have c0 := hR6.cell 0
            have f1 := hR6.frozen 1
            have c1 := hR6.cell 1
            have f2 := hR6.frozen 2
            have c2 := hR6.cell 2
            have f3 := hR6.frozen 3
            have c3 := hR6.cell 3
            have f4 := hR6.frozen 4
            have c4 := hR6.cell 4
            have f5 := hR6.frozen 5
            have c5 := hR6.cell 5
            have f6 := hR6.frozen 6
            have c6 := hR6.cell 6
            simp only [List.getElem?_toArray, List.getElem?_cons_zero, List.getElem?_cons_succ] at c0 c1 c2 c3 c4 c5 c6 y0 y1 y2 y3 y4 y5 y6
            have HR6 := Lib.hid hR6
            have B6 := Lib.hid b6
            have g3 := grownBy_set3 (w6.alloc (.cells #[.int .u64 (x.key : Int), .slice B1 n1 m1, .slice B2 n2 m2] 58)) w4.heap.size (.int .u64 (x.key : Int)) (.slice B1 n1 m1) (.slice B2 n2 m2)
            have G3 := Lib.hid g3
            have HX6 : Hid (w4.heap.size < w6.heap.size) := Lib.hid (by have := HQ5.out; omega)
            clear hR6 b6 V6 T6 g3
            go_wp2
            refine ret_cell rfl w.heap.size #[.int .u64 (t : Int), .bool dd, .bool false, .int .u64 (p : Int), .int .u64 (x.key : Int), .slice B1 n1 m1, .slice B2 n2 m2] _ rfl (blk_set7 (HR6.out.grown G3.out (by intro q; injection q with q; omega)) _ _ _ _ _ _ _) Try.underlying71 rfl (by kernel_rfl) rfl ?_
            rw [HN.out]
            have bg := below_g (below_g B6.out B6.out.size (by omega) G3.out) (Nat.le_trans B6.out.size G3.out.size) (Nat.le_refl _) (grownBy_set7 _ w.heap.size (.int .u64 (t : Int)) (.bool dd) (.bool false) (.int .u64 (p : Int)) (.int .u64 (x.key : Int)) (.slice B1 n1 m1) (.slice B2 n2 m2))
            exact ⟨B1, n1, m1, B2, n2, m2, rfl, k1, k2, ((o16.out.kept G3.out (by have := HQ5.out; omega)).kept (grownBy_set7 _ w.heap.size _ _ _ _ _ _ _) (by have := HQ5.out; omega)).base_ (by have := HB5.out.size; omega), ((o26.out.kept G3.out (by have := HQ5.out; omega)).kept (grownBy_set7 _ w.heap.size _ _ _ _ _ _ _) (by have := HQ5.out; omega)).base_ (by have := HB5.out.size; omega), bg⟩
    · have hee : ((r3.e : Int) == 0) = false := beq_eq_false_iff_ne.2 (by omega)
      have hee2 : ¬ ((r3.e : Int) = 0) := by omega
      have HN : Hid (X0 = none) := Lib.hid (by rw [HP.out, if_pos (.inr he)])
      have f0 := hR5.frozen 0
      have c0 := hR5.cell 0
      have f1 := hR5.frozen 1
      have c1 := hR5.cell 1
      have f2 := hR5.frozen 2
      have c2 := hR5.cell 2
      have f3 := hR5.frozen 3
      have c3 := hR5.cell 3
      have f4 := hR5.frozen 4
      have c4 := hR5.cell 4
      have f5 := hR5.frozen 5
      have c5 := hR5.cell 5
      have f6 := hR5.frozen 6
      have c6 := hR5.cell 6
      simp only [List.getElem?_toArray, List.getElem?_cons_zero, List.getElem?_cons_succ] at c0 c1 c2 c3 c4 c5 c6
      go_wp2
      refine ret_cell rfl w.heap.size zero7 _ rfl (blk_set7 hR5 _ _ _ _ _ _ _) Try.underlying71 rfl (by kernel_rfl) rfl ?_
      rw [HN.out]
      exact ⟨rfl, below_g b5 b5.size (Nat.le_refl _) (grownBy_set7 _ _ _ _ _ _ _ _ _)⟩
end Go.Proofs.Yteanmmdlgolljaa
