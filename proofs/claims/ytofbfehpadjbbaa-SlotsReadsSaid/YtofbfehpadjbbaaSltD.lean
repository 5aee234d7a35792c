/-
  What stands in a slot taken out.
  Conditions: the lists lie in memory; their lengths are bounded.
-/
import Derived.Test.YtofbfehpadjbbaaSltW9
import Derived.Test.YtofbfehpadjbbaaSltN
namespace Go.Proofs.Ytofbfehpadjbbaa
open Go.RowKit Go.Sort Go.Lib
set_option linter.unusedVariables false
theorem OwnP.cut {w : World} {base G nF cA nD cD gA gD q : Nat} {full : List Bool} {ps : List Sl} (h : OwnP w base G (some ⟨gA, 0, none⟩) nF cA (some ⟨gD, 0, none⟩) nD cD full ps) (h1 : q ≤ nF) (h2 : q ≤ nD) : OwnP w base G (some ⟨gA, 0, none⟩) q cA (some ⟨gD, 0, none⟩) q cD (full.take q) (ps.take q) := by
  have hf := h.fu.len
  have hp := h.li.len
  refine ⟨⟨by rw [List.length_map, List.length_take]; omega, ?_⟩, ⟨by rw [List.length_map, List.length_take]; omega, ?_⟩, fun p hp => h.each p (List.mem_of_mem_take hp), h.ap, h.gA, h.gD⟩
  · rcases h.fu.2 with ⟨hv, hn⟩ | ⟨g, cap, cur, hv, hb, hg, r1, r2, r3, r4⟩
    · cases hv
    · injection hv with e1 e2 e3
      subst e3
      refine .inr ⟨g, cA, cur, by rw [e1], hb, hg, by omega, r2, r3, ?_⟩
      rw [Nat.mul_one] at r4 ⊢
      rw [List.map_take, ← r4, List.take_take, Nat.min_eq_left h1]
  · rcases h.li.2 with ⟨hv, hn⟩ | ⟨g, cap, cur, hv, hb, hg, r1, r2, r3, r4⟩
    · cases hv
    · injection hv with e1 e2 e3
      subst e3
      refine .inr ⟨g, cD, cur, by rw [e1], hb, hg, by omega, r2, r3, ?_⟩
      rw [Nat.mul_one] at r4 ⊢
      rw [List.map_take, ← r4, List.take_take, Nat.min_eq_left h2]
theorem below_drew {B : Nat} {a w : World} (h : Below B a w) : Below B a w.drew := ⟨h.os, h.tape, h.output, h.size, h.block⟩
def DelPost (s : Slt) (p : Int) (w : World) (e : Ending) (w' : World) : Prop :=
  (∃ r : Nat, e = .returned (.tuple #[.agg #[.int .u8 0, .int .u32 0, .slice none 0 0, .slice none 0 0], .int .i64 (r : Int)]) ∧ Hid ((r = 2 ∧ ¬ SltM.May s) ∨ (r = 7 ∧ SltM.May s ∧ ¬ Has s p)) ∧ Below w.heap.size w w') ∨
  (∃ k : Nat, Hid (p = (k : Int)) ∧ Hid (s.full[k]? = some true) ∧ Hid (SltM.May s) ∧ ∃ A' n1 c1 D' n2 c2, e = .returned (.tuple #[.agg #[.int .u8 (s.kind : Int), .int .u32 (s.next : Int), .slice A' n1 c1, .slice D' n2 c2], .int .i64 0]) ∧ SltNew w' w.heap.size A' n1 c1 D' n2 c2 (SltM.del s k) ∧ Below w.heap.size w w')
set_option maxRecDepth 100000 in
set_option maxHeartbeats 2000000 in
theorem delete_any (s : Slt) (p : Int) (A : Option Addr) (nF cA : Nat) (D : Option Addr) (nD cD : Nat) (w : World) (hs : SltAt w A nF cA D nD cD s) (hsum : SltM.sum s.data ≤ 500000) (hmF : nF ≤ 9223372036854775807) (hmD : nD ≤ 9223372036854775807) :
    Calls Try.prog 16 #[.agg #[.int .u8 (s.kind : Int), .int .u32 (s.next : Int), .slice A nF cA, .slice D nD cD], .int .i64 p] w (DelPost s p w) := by
  have hR0 : Blk ((w.alloc (.cells #[.int .u8 (s.kind : Int), .int .u32 (s.next : Int), .slice A nF cA, .slice D nD cD] 26)).alloc (.cells #[.int .u8 0, .int .u32 0, .slice none 0 0, .slice none 0 0] 26)) (w.heap.size + 1) 26 #[.int .u8 0, .int .u32 0, .slice none 0 0, .slice none 0 0] := by
    have := Blk.new (w.alloc (.cells #[.int .u8 (s.kind : Int), .int .u32 (s.next : Int), .slice A nF cA, .slice D nD cD] 26)) 26 #[.int .u8 0, .int .u32 0, .slice none 0 0, .slice none 0 0]
    simpa using this
  have hB0 := (Blk.new w 26 #[.int .u8 (s.kind : Int), .int .u32 (s.next : Int), .slice A nF cA, .slice D nD cD]).alloc (.cells #[.int .u8 0, .int .u32 0, .slice none 0 0, .slice none 0 0] 26)
  have hVb : Below w.heap.size w ((w.alloc (.cells #[.int .u8 (s.kind : Int), .int .u32 (s.next : Int), .slice A nF cA, .slice D nD cD] 26)).alloc (.cells #[.int .u8 0, .int .u32 0, .slice none 0 0, .slice none 0 0] 26)) := ((Below.refl w.heap.size w).alloc (Nat.le_refl _) _).alloc (by simp) _
  have HR0 := Lib.hid hR0
  have HB0 := Lib.hid hB0
  have HVB := Lib.hid hVb
  have HS := Lib.hid hs
  have HLF := Lib.hid hs.lf
  have HLD := Lib.hid hs.ld
  clear hR0 hB0 hVb hs
  go_enter Try.func16, Try.ntmps16
  go_wp2_with fail
  refine (find_any s p A nF cA D nD cD _ (HS.out.below HVB.out) (by omega) hmF hmD).mono ?_
  rintro e w1 ⟨r, rfl, hr, b1⟩
  have hB1 := HB0.out.below b1 HB0.out.lt
  have d0 := hB1.cell 0
  have d1 := hB1.cell 1
  have d2 := hB1.cell 2
  have d3 := hB1.cell 3
  simp only [List.getElem?_toArray, List.getElem?_cons_zero, List.getElem?_cons_succ] at d0 d1 d2 d3
  have hR1 := HR0.out.below b1 HR0.out.lt
  have x0 := hR1.cell 0
  have x1 := hR1.cell 1
  have x2 := hR1.cell 2
  have x3 := hR1.cell 3
  have k0 := hR1.frozen 0
  have k1 := hR1.frozen 1
  have k2 := hR1.frozen 2
  have k3 := hR1.frozen 3
  simp only [List.getElem?_toArray, List.getElem?_cons_zero, List.getElem?_cons_succ] at x0 x1 x2 x3
  have HR1 := Lib.hid hR1
  have HB1 := Lib.hid (below_step HVB.out b1 (Nat.le_refl _))
  have HS1 := Lib.hid (HS.out.below HB1.out)
  have hw1 : w.heap.size + 2 ≤ w1.heap.size := by have := b1.size; simp at this; omega
  clear hB1 hR1 b1 HR0 HB0 HVB
  by_cases h0 : r = 0
  · obtain ⟨hm, k, rfl, hk⟩ : SltM.May s ∧ Has s p := by
      rcases hr.out with h | h | h
      · omega
      · omega
      · exact h.2
    subst h0
    have hkF : k < nF := by have := (List.getElem?_eq_some_iff.1 hk).1; rw [HLF.out] at this; omega
    have hnFD : Hid (nF = nD) := Lib.hid (by rw [← HLF.out, ← HLD.out]; exact hm.len)
    have h247 := hm.most
    rw [HLF.out] at h247
    have hkD : k < nD := by have := hnFD.out; omega
    have hnD : nD ≤ 247 := by have := hnFD.out; omega
    have HK := Lib.hid hk
    have HM := Lib.hid hm
    have HOWN := Lib.hid (own_any s A nF cA D nD cD w1 HS1.out (by omega) (by omega) (fun x hx => by obtain ⟨j, hj, e⟩ := List.getElem_of_mem hx; have := SltM.sum_get (l := s.data) (k := j) (x := x) (by rw [List.getElem?_eq_getElem hj, e]); omega))
    clear hk hm hr
    go_wp2_with fail
    refine HOWN.out.mono ?_
    rintro e w2 ⟨A1, c1, D1, c2, rfl, hO, hb2⟩
    obtain ⟨G, hG⟩ : ∃ G, w2.heap.size = G := ⟨_, rfl⟩
    go_upto_region 5 with fail
    obtain ⟨ps, hps, hP⟩ := hO.p (Nat.le_of_eq hG)
    have HPS := Lib.hid hps
    have hGb : Blk (w2.alloc (.cells #[.int .u8 (s.kind : Int), .int .u32 (s.next : Int), .slice A1 nF c1, .slice D1 nD c2] 26)) G 26 #[.int .u8 (s.kind : Int), .int .u32 (s.next : Int), .slice A1 nF c1, .slice D1 nD c2] := hG ▸ Blk.new w2 _ _
    have HG := Lib.hid hGb
    have HP := Lib.hid (hP.alloc (.cells #[.int .u8 (s.kind : Int), .int .u32 (s.next : Int), .slice A1 nF c1, .slice D1 nD c2] 26))
    have HR := Lib.hid ((HR1.out.below hb2 HR1.out.lt).alloc (.cells #[.int .u8 (s.kind : Int), .int .u32 (s.next : Int), .slice A1 nF c1, .slice D1 nD c2] 26))
    have hb3 := below_step HB1.out hb2 (Nat.le_refl _)
    have HB := Lib.hid (hb3.alloc hb3.size (.cells #[.int .u8 (s.kind : Int), .int .u32 (s.next : Int), .slice A1 nF c1, .slice D1 nD c2] 26))
    have hwG : w1.heap.size ≤ G := by have := hb2.size; omega
    clear hGb hO hP hb2 hb3 hps HOWN hG
    generalize w2.alloc (.cells #[.int .u8 (s.kind : Int), .int .u32 (s.next : Int), .slice A1 nF c1, .slice D1 nD c2] 26) = V at *
    obtain ⟨gA, rfl, hgA, hgA2⟩ := HP.out.fu.some_ (by omega)
    obtain ⟨gD, rfl, hgD, hgD2⟩ := HP.out.li.some_ (by omega)
    have hAD : gA ≠ gD := HP.out.ap _ _ rfl rfl
    have hAG : gA ≠ G := HP.out.gA _ rfl
    have hDG : gD ≠ G := HP.out.gD _ rfl
    have hd := HG.out
    have d2 := hd.cell 2
    have d3 := hd.cell 3
    simp only [List.getElem?_toArray, List.getElem?_cons_zero, List.getElem?_cons_succ] at d2 d3
    obtain ⟨vA, y0⟩ := HP.out.fu.cell (k := k) (by omega)
    have y1 := HP.out.fu.frozen k
    obtain ⟨vD, y2⟩ := HP.out.li.cell (k := k) (by omega)
    have y3 := HP.out.li.frozen k
    clear hd
    go_region
    have HP3 : Hid (OwnP ((V.setCell ⟨gA, k, none⟩ (.bool false)).setCell ⟨gD, k, none⟩ (.slice none 0 0)).drew w1.heap.size G (some ⟨gA, 0, none⟩) nF c1 (some ⟨gD, 0, none⟩) nD c2 (s.full.set k false) (ps.set k ⟨none, 0, 0, []⟩)) := Lib.hid ((HP.out.setF k false).setD k ⟨none, 0, 0, []⟩ ⟨rfl, Row.nil _ _, .inl rfl⟩).drew
    have HG3 := Lib.hid ((HG.out.far (p := ⟨gA, k, none⟩) (fun q => hAG q.symm) (.bool false)).far (p := ⟨gD, k, none⟩) (fun q => hDG q.symm) (.slice none 0 0)).drew
    have HR3 := Lib.hid ((HR.out.far (p := ⟨gA, k, none⟩) (by show w.heap.size + 1 ≠ gA; omega) (.bool false)).far (p := ⟨gD, k, none⟩) (by show w.heap.size + 1 ≠ gD; omega) (.slice none 0 0)).drew
    have HB3 := Lib.hid (below_drew ((HB.out.grown (grownBy_setCell V gA k (.bool false)) HB.out.size (fun x hx => by injection hx with hx; omega)).grown (grownBy_setCell _ gD k (.slice none 0 0)) (by simp; exact HB.out.size) (fun x hx => by injection hx with hx; omega)))
    have HDEL : Hid ((s.full.set k false).take (SltM.trim (s.full.set k false) nF) = (SltM.del s k).full ∧ ((ps.set k ⟨none, 0, 0, []⟩).take (SltM.trim (s.full.set k false) nF)).map Sl.l = (SltM.del s k).data) := Lib.hid (by
      unfold SltM.del
      rw [HLF.out, List.map_take, List.map_set, HPS.out]
      exact ⟨rfl, rfl⟩)
    clear d2 d3 y0 y1 y2 y3 HP HG HR HB
    generalize ((V.setCell ⟨gA, k, none⟩ (.bool false)).setCell ⟨gD, k, none⟩ (.slice none 0 0)).drew = W3 at *
    have hg := HG3.out
    have d2 := hg.cell 2
    simp only [List.getElem?_toArray, List.getElem?_cons_zero, List.getElem?_cons_succ] at d2
    clear hg
    go_wp2
    go_loop [8] (fun i => ∃ q : Nat, i = .int .i64 q ∧ q ≤ nF ∧ SltM.trim (s.full.set k false) nF = SltM.trim (s.full.set k false) q) (fun i => (RowKit.intOf i).toNat)
    case atStart => exact ⟨nF, rfl, by omega, rfl⟩
    case round =>
      obtain ⟨q, rfl, hq, htr⟩ := hrel
      have HTR := Lib.hid htr
      clear htr
      by_cases hq0 : 0 < q
      · obtain ⟨b, hb⟩ : ∃ b, (s.full.set k false)[q - 1]? = some b := ⟨_, List.getElem?_eq_getElem (by rw [List.length_set, HLF.out]; omega)⟩
        obtain ⟨g', o', e', cb⟩ := row_any HP3.out.fu.row (k := q - 1) (u := .bool b) (by rw [List.getElem?_map, hb]; rfl)
        cases e'
        rw [Nat.zero_add] at cb
        obtain ⟨q1, hq1⟩ : ∃ q1, q = q1 + 1 := ⟨q - 1, by omega⟩
        cases b with
        | false =>
          have HT2 : Hid (SltM.trim (s.full.set k false) nF = SltM.trim (s.full.set k false) (q - 1)) := Lib.hid (by
            rw [HTR.out, hq1, Nat.add_sub_cancel]
            rw [hq1, Nat.add_sub_cancel] at hb
            show (if _ then _ else _) = _
            rw [if_neg (by rw [hb]; simp)])
          clear hb hq1
          go_wp2
          go_round
          case rel => exact ⟨q - 1, by go_num, by omega, HT2.out⟩
          case measure => simp [RowKit.intOf]; omega
        | true =>
          have HQ : Hid (SltM.trim (s.full.set k false) nF = q) := Lib.hid (by
            rw [HTR.out, hq1]
            rw [hq1, Nat.add_sub_cancel] at hb
            show (if _ then _ else _) = _
            rw [if_pos hb])
          clear hb hq1
          have hg := HG3.out
          have d2 := hg.cell 2
          have d3 := hg.cell 3
          have j2 := hg.frozen 2
          have j3 := hg.frozen 3
          simp only [List.getElem?_toArray, List.getElem?_cons_zero, List.getElem?_cons_succ] at d2 d3
          clear hg
          have hqD : q ≤ nD := by have := hnFD.out; omega
          have hqc1 : q ≤ c1 := by have := HP3.out.fu.le.1; omega
          have hqc2 : q ≤ c2 := by have := HP3.out.li.le; omega
          go_wp2
          clear cb
          go_region
          have HG4 := Lib.hid ((((HG3.out).set_ 2 (.slice (some ⟨gA, 0, none⟩) q c1)).set_ 3 (.slice (some ⟨gD, 0, none⟩) q c2)).drew)
          have HP4 := Lib.hid ((((HP3.out).cut hq hqD).setG 2 (.slice (some ⟨gA, 0, none⟩) q c1)).setG 3 (.slice (some ⟨gD, 0, none⟩) q c2)).drew
          have HR4 := Lib.hid (((HR3.out).far (p := ⟨G, 2, none⟩) (by show w.heap.size + 1 ≠ G; omega) (.slice (some ⟨gA, 0, none⟩) q c1)).far (p := ⟨G, 3, none⟩) (by show w.heap.size + 1 ≠ G; omega) (.slice (some ⟨gD, 0, none⟩) q c2)).drew
          have HB4 := Lib.hid (below_drew ((HB3.out.grown (grownBy_setCell W3 G 2 (.slice (some ⟨gA, 0, none⟩) q c1)) HB3.out.size (fun x hx => by injection hx with hx; omega)).grown (grownBy_setCell _ G 3 (.slice (some ⟨gD, 0, none⟩) q c2)) (by simp; exact HB3.out.size) (fun x hx => by injection hx with hx; omega)))
          clear d2 d3 j2 j3 HG3 HP3 HR3 HB3
          generalize ((W3.setCell ⟨G, 2, none⟩ (.slice (some ⟨gA, 0, none⟩) q c1)).setCell ⟨G, 3, none⟩ (.slice (some ⟨gD, 0, none⟩) q c2)).drew = W4 at *
          have hg := HG4.out
          have z0 := hg.cell 0
          have z1 := hg.cell 1
          have z2 := hg.cell 2
          have z3 := hg.cell 3
          have hr := HR4.out
          have x0 := hr.cell 0
          have x1 := hr.cell 1
          have x2 := hr.cell 2
          have x3 := hr.cell 3
          have k0 := hr.frozen 0
          have k1 := hr.frozen 1
          have k2 := hr.frozen 2
          have k3 := hr.frozen 3
          simp only [List.setIfInBounds_toArray, List.set_cons_zero, List.set_cons_succ, List.getElem?_toArray, List.getElem?_cons_zero, List.getElem?_cons_succ] at z0 z1 z2 z3 x0 x1 x2 x3
          clear hg hr
          go_wp2
          refine ret_cell rfl (w.heap.size + 1) #[.int .u8 (s.kind : Int), .int .u32 (s.next : Int), .slice (some ⟨gA, 0, none⟩) q c1, .slice (some ⟨gD, 0, none⟩) q c2] _ rfl ((((HR4.out.set_ 0 _).set_ 1 _).set_ 2 _).set_ 3 _) Try.underlying26 rfl (by kernel_rfl) rfl ?_
          refine .inr ⟨k, Lib.hid rfl, HK, HM, _, _, _, _, _, _, rfl, ?_, below_sets4 HB4.out HB4.out.size (Nat.le_succ _) _ _ _ _⟩
          refine SltNew.base_ (base := w1.heap.size) ?_ HB1.out.size
          refine SltNew.far (SltNew.far (SltNew.far (SltNew.far ?_ (w.heap.size + 1) 0 _ (by omega)) (w.heap.size + 1) 1 _ (by omega)) (w.heap.size + 1) 2 _ (by omega)) (w.heap.size + 1) 3 _ (by omega)
          have hd := HDEL.out
          rw [HQ.out] at hd
          exact ⟨G, _, hd.2, hd.1 ▸ HP4.out⟩
      · obtain rfl : q = 0 := by omega
        have HQ : Hid (SltM.trim (s.full.set k false) nF = 0) := Lib.hid HTR.out
        have hg := HG3.out
        have d2 := hg.cell 2
        have d3 := hg.cell 3
        have j2 := hg.frozen 2
        have j3 := hg.frozen 3
        simp only [List.getElem?_toArray, List.getElem?_cons_zero, List.getElem?_cons_succ] at d2 d3
        clear hg
        have hqD : 0 ≤ nD := by have := hnFD.out; omega
        have hqc1 : 0 ≤ c1 := by have := HP3.out.fu.le.1; omega
        have hqc2 : 0 ≤ c2 := by have := HP3.out.li.le; omega
        go_wp2
        go_region
        have HG4 := Lib.hid ((((HG3.out).set_ 2 (.slice (some ⟨gA, 0, none⟩) 0 c1)).set_ 3 (.slice (some ⟨gD, 0, none⟩) 0 c2)).drew)
        have HP4 := Lib.hid ((((HP3.out).cut hq hqD).setG 2 (.slice (some ⟨gA, 0, none⟩) 0 c1)).setG 3 (.slice (some ⟨gD, 0, none⟩) 0 c2)).drew
        have HR4 := Lib.hid (((HR3.out).far (p := ⟨G, 2, none⟩) (by show w.heap.size + 1 ≠ G; omega) (.slice (some ⟨gA, 0, none⟩) 0 c1)).far (p := ⟨G, 3, none⟩) (by show w.heap.size + 1 ≠ G; omega) (.slice (some ⟨gD, 0, none⟩) 0 c2)).drew
        have HB4 := Lib.hid (below_drew ((HB3.out.grown (grownBy_setCell W3 G 2 (.slice (some ⟨gA, 0, none⟩) 0 c1)) HB3.out.size (fun x hx => by injection hx with hx; omega)).grown (grownBy_setCell _ G 3 (.slice (some ⟨gD, 0, none⟩) 0 c2)) (by simp; exact HB3.out.size) (fun x hx => by injection hx with hx; omega)))
        clear d2 d3 j2 j3 HG3 HP3 HR3 HB3
        generalize ((W3.setCell ⟨G, 2, none⟩ (.slice (some ⟨gA, 0, none⟩) 0 c1)).setCell ⟨G, 3, none⟩ (.slice (some ⟨gD, 0, none⟩) 0 c2)).drew = W4 at *
        have hg := HG4.out
        have z0 := hg.cell 0
        have z1 := hg.cell 1
        have z2 := hg.cell 2
        have z3 := hg.cell 3
        have hr := HR4.out
        have x0 := hr.cell 0
        have x1 := hr.cell 1
        have x2 := hr.cell 2
        have x3 := hr.cell 3
        have k0 := hr.frozen 0
        have k1 := hr.frozen 1
        have k2 := hr.frozen 2
        have k3 := hr.frozen 3
        simp only [List.setIfInBounds_toArray, List.set_cons_zero, List.set_cons_succ, List.getElem?_toArray, List.getElem?_cons_zero, List.getElem?_cons_succ] at z0 z1 z2 z3 x0 x1 x2 x3
        clear hg hr
        go_wp2
        refine ret_cell rfl (w.heap.size + 1) #[.int .u8 (s.kind : Int), .int .u32 (s.next : Int), .slice (some ⟨gA, 0, none⟩) 0 c1, .slice (some ⟨gD, 0, none⟩) 0 c2] _ rfl ((((HR4.out.set_ 0 _).set_ 1 _).set_ 2 _).set_ 3 _) Try.underlying26 rfl (by kernel_rfl) rfl ?_
        refine .inr ⟨k, Lib.hid rfl, HK, HM, _, _, _, _, _, _, rfl, ?_, below_sets4 HB4.out HB4.out.size (Nat.le_succ _) _ _ _ _⟩
        refine SltNew.base_ (base := w1.heap.size) ?_ HB1.out.size
        refine SltNew.far (SltNew.far (SltNew.far (SltNew.far ?_ (w.heap.size + 1) 0 _ (by omega)) (w.heap.size + 1) 1 _ (by omega)) (w.heap.size + 1) 2 _ (by omega)) (w.heap.size + 1) 3 _ (by omega)
        have hd := HDEL.out
        rw [HQ.out] at hd
        exact ⟨G, _, hd.2, hd.1 ▸ HP4.out⟩
  · have hrr : Hid ((r = 2 ∧ ¬ SltM.May s) ∨ (r = 7 ∧ SltM.May s ∧ ¬ Has s p)) := Lib.hid (by
      rcases hr.out with h | h | h
      · exact .inl h
      · exact .inr h
      · exact absurd h.1 h0)
    clear hr
    go_wp2
    refine ret_cell rfl (w.heap.size + 1) #[.int .u8 0, .int .u32 0, .slice none 0 0, .slice none 0 0] _ rfl ((((HR1.out.set_ 0 _).set_ 1 _).set_ 2 _).set_ 3 _) Try.underlying26 rfl (by kernel_rfl) rfl ?_
    exact .inl ⟨r, rfl, hrr, below_sets4 HB1.out HB1.out.size (Nat.le_succ _) _ _ _ _⟩
end Go.Proofs.Ytofbfehpadjbbaa
