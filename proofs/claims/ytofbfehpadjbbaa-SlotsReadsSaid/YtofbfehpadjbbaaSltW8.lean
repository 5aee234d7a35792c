/-
  Bytes in a slot that has nothing.
  Conditions: the lists lie in memory; their lengths are bounded.
-/
import Derived.Test.YtofbfehpadjbbaaSltW7
namespace Go.Proofs.Ytofbfehpadjbbaa
open Go.RowKit Go.Sort Go.Lib
set_option linter.unusedVariables false
theorem results_cell_tmp2 {fn : Func} {p u v : Tmp} {ty : TypeId} (h : fn.results = #[.cell p ty, .tmp u, .tmp v]) (tmps : Array Value) (P : Program) (w : World) :
    (results fn tmps).run P w =
      ((asAddr (tmps.getD p undef)).run P w).andThen fun a w₁ => ((loadVar ty a).run P w₁).andThen fun x w₂ => .ok (.tuple #[x, tmps.getD u undef, tmps.getD v undef]) w₂ := by
  simp only [results, h]
  simp [Sem.run_bind, Result.andThen]
/-- A return whose first result of three lies in a block. -/
theorem ret_cell3 {P : Program} {fn : Func} {R : Ending → World → Prop} {a : Act} {w : World} {p u v : Tmp} {ty : TypeId} (h : fn.results = #[.cell p ty, .tmp u, .tmp v]) (g : Nat) (cs : Array Value) (d : TypeDesc)
    (hp : a.tmps.getD p undef = .pointer (some ⟨g, 0, none⟩)) (hB : Blk w g ty cs) (hu : P.underlying ty = some d) (hd : (match d with | .struct _ | .array _ _ => true | _ => false) = true) (hi : (P.info? ty).map (·.size) = some cs.size)
    (hdf : a.defers = []) (hR : R (.returned (.tuple #[.agg cs, a.tmps.getD u undef, a.tmps.getD v undef])) w) : bodyPost P fn R .ret a w := by
  refine bodyPost_ret ?_ hdf hR
  rw [results_cell_tmp2 h, hp]
  simp [asAddr, run_loadVar_row w g ty ty cs (0, 0) d hB hu hd hi, Result.andThen]
theorem SltNew.alloc {w : World} {base nF cA nD cD : Nat} {A D : Option Addr} {s : Slt} (h : SltNew w base A nF cA D nD cD s) (o : Obj) : SltNew (w.alloc o) base A nF cA D nD cD s := h.below ((Below.refl _ _).alloc (Nat.le_refl _) o)
def InsPost (s : Slt) (b : List UInt8) (w : World) (e : Ending) (w' : World) : Prop :=
  (e = .returned (.tuple #[.agg #[.int .u8 0, .int .u32 0, .slice none 0 0, .slice none 0 0], .int .i64 0, .int .i64 2]) ∧ Hid (¬ SltM.May s) ∧ Below w.heap.size w w') ∨
  (Hid (SltM.May s) ∧ ((∃ A' n1 c1 D' n2 c2, e = .returned (.tuple #[.agg #[.int .u8 ((SltM.put s (SltM.idx s.full) b).kind : Int), .int .u32 ((SltM.put s (SltM.idx s.full) b).next : Int), .slice A' n1 c1, .slice D' n2 c2], .int .i64 (SltM.idx s.full : Int), .int .i64 0]) ∧
      SltNew w' w.heap.size A' n1 c1 D' n2 c2 (SltM.put s (SltM.idx s.full) b) ∧ Hid (SltM.May (SltM.put s (SltM.idx s.full) b)) ∧ Below w.heap.size w w') ∨
    (e = .returned (.tuple #[.agg #[.int .u8 0, .int .u32 0, .slice none 0 0, .slice none 0 0], .int .i64 0, .int .i64 5]) ∧ Hid (¬ SltM.May (SltM.put s (SltM.idx s.full) b)) ∧ Below w.heap.size w w')))
set_option maxRecDepth 100000 in
set_option maxHeartbeats 2000000 in
theorem insert_any (s : Slt) (A : Option Addr) (nF cA : Nat) (D : Option Addr) (nD cD : Nat) (B : Option Addr) (nb cb : Nat) (b : List UInt8) (w : World) (hs : SltAt w A nF cA D nD cD s) (hsum : SltM.sum s.data ≤ 500000) (hmF : nF ≤ 1000000) (hmD : nD ≤ 1000000)
    (hbr : Row w B (bs b)) (hbn : b.length = nb) (hbl : nb ≤ 400000) :
    Calls Try.prog 15 #[.agg #[.int .u8 (s.kind : Int), .int .u32 (s.next : Int), .slice A nF cA, .slice D nD cD], .slice B nb cb] w (InsPost s b w) := by
  have hR0 : Blk ((w.alloc (.cells #[.int .u8 (s.kind : Int), .int .u32 (s.next : Int), .slice A nF cA, .slice D nD cD] 26)).alloc (.cells #[.int .u8 0, .int .u32 0, .slice none 0 0, .slice none 0 0] 26)) (w.heap.size + 1) 26 #[.int .u8 0, .int .u32 0, .slice none 0 0, .slice none 0 0] := by
    have := Blk.new (w.alloc (.cells #[.int .u8 (s.kind : Int), .int .u32 (s.next : Int), .slice A nF cA, .slice D nD cD] 26)) 26 #[.int .u8 0, .int .u32 0, .slice none 0 0, .slice none 0 0]
    simpa using this
  have hB0 := (Blk.new w 26 #[.int .u8 (s.kind : Int), .int .u32 (s.next : Int), .slice A nF cA, .slice D nD cD]).alloc (.cells #[.int .u8 0, .int .u32 0, .slice none 0 0, .slice none 0 0] 26)
  have hVb : Below w.heap.size w ((w.alloc (.cells #[.int .u8 (s.kind : Int), .int .u32 (s.next : Int), .slice A nF cA, .slice D nD cD] 26)).alloc (.cells #[.int .u8 0, .int .u32 0, .slice none 0 0, .slice none 0 0] 26)) := ((Below.refl w.heap.size w).alloc (Nat.le_refl _) _).alloc (by simp) _
  have HR0 := Lib.hid hR0
  have HB0 := Lib.hid hB0
  have HVB := Lib.hid hVb
  have HS := Lib.hid hs
  have HBR := Lib.hid hbr
  have HBN := Lib.hid hbn
  have HLF := Lib.hid hs.lf
  clear hR0 hB0 hVb hs hbr hbn
  go_enter Try.func15, Try.ntmps15
  go_wp2_with fail
  refine (may_any s A nF cA D nD cD _ (HS.out.below HVB.out) (by omega) (by omega) (by omega)).mono ?_
  rintro e w1 ⟨r, rfl, hr, b1⟩
  have hB1 := HB0.out.below b1 HB0.out.lt
  have d0 := hB1.cell 0
  have d1 := hB1.cell 1
  have d2 := hB1.cell 2
  have d3 := hB1.cell 3
  simp only [List.getElem?_toArray, List.getElem?_cons_zero, List.getElem?_cons_succ] at d0 d1 d2 d3
  have hR1 := HR0.out.below b1 HR0.out.lt
  have x0 := hR1.cell 0
  have x1 := hR1.cell 1
  have x2 := hR1.cell 2
  have x3 := hR1.cell 3
  have k0 := hR1.frozen 0
  have k1 := hR1.frozen 1
  have k2 := hR1.frozen 2
  have k3 := hR1.frozen 3
  simp only [List.getElem?_toArray, List.getElem?_cons_zero, List.getElem?_cons_succ] at x0 x1 x2 x3
  have HR1 := Lib.hid hR1
  have HB1 := Lib.hid (below_step HVB.out b1 (Nat.le_refl _))
  have HS1 := Lib.hid (HS.out.below HB1.out)
  have hs1 := HB1.out.size
  have hw1 : w.heap.size + 2 ≤ w1.heap.size := by have := b1.size; simp at this; omega
  clear hB1 hR1 b1 HR0 HB0 HVB HS
  cases r with
  | false =>
    have hN : ¬ SltM.May s := fun h => by have := hr.out.2 h; cases this
    have HN := Lib.hid hN
    clear hr hN
    go_wp2
    refine ret_cell3 rfl (w.heap.size + 1) #[.int .u8 0, .int .u32 0, .slice none 0 0, .slice none 0 0] _ rfl ((((HR1.out.set_ 0 _).set_ 1 _).set_ 2 _).set_ 3 _) Try.underlying26 rfl (by kernel_rfl) rfl ?_
    exact .inl ⟨rfl, HN, below_sets4 HB1.out HB1.out.size (Nat.le_succ _) _ _ _ _⟩
  | true =>
    have HM := Lib.hid (hr.out.1 rfl)
    clear hr
    go_wp2_with fail
    refine (index_any A nF cA s.full w1 HS1.out.rf HS1.out.lf hmF).mono ?_
    rintro e w1' ⟨ri, rfl, hri, rfl⟩
    have HIX := hri
    rcases hri.out with ⟨rfl, hi⟩ | ⟨rfl, hi⟩
    · have hi2 := Lib.hid hi
      clear hri hi
      have HW := Lib.hid (with_any s (SltM.idx s.full) A nF cA D nD cD B nb cb b w1 HS1.out HM.out (by have h9 := SltM.idx_le s.full; rw [HLF.out] at h9; exact h9) hsum (HBR.out.below HB1.out) HBN.out hbl)
      have hK := hi2.out
      rw [hK] at HW HIX
      have HKE := Lib.hid hK
      clear hK
      have HKN : Hid ((SltM.put s nF b).kind = s.kind ∧ (SltM.put s nF b).next = s.next) := Lib.hid (by unfold SltM.put; split <;> exact ⟨rfl, rfl⟩)
      go_wp2_with fail
      refine HW.out.mono ?_
      intro e w2 hW
      have hr2 : ∀ (hb : Below w1.heap.size w1 w2), Blk w2 (w.heap.size + 1) 26 #[.int .u8 0, .int .u32 0, .slice none 0 0, .slice none 0 0] := fun hb => HR1.out.below hb HR1.out.lt
      rcases hW with ⟨A', n1, c1, D', n2, c2, rfl, hN, hM2, hb2⟩ | ⟨rfl, hM2, hb2⟩
      · have hR2 := hr2 hb2
        have x0 := hR2.cell 0
        have x1 := hR2.cell 1
        have x2 := hR2.cell 2
        have x3 := hR2.cell 3
        have k0 := hR2.frozen 0
        have k1 := hR2.frozen 1
        have k2 := hR2.frozen 2
        have k3 := hR2.frozen 3
        simp only [List.getElem?_toArray, List.getElem?_cons_zero, List.getElem?_cons_succ] at x0 x1 x2 x3
        have HR2 := Lib.hid hR2
        have HN := Lib.hid hN
        have HB2 := Lib.hid (below_step HB1.out hb2 (Nat.le_refl _))
        have lt2 := hR2.lt
        have hw2 : w.heap.size + 2 ≤ w2.heap.size := by have := hb2.size; omega
        clear hr2 hR2 hN hb2 HW
        rw [HKN.out.1, HKN.out.2]
        go_wp2
        refine ret_cell3 rfl (w.heap.size + 1) #[.int .u8 (s.kind : Int), .int .u32 (s.next : Int), .slice A' n1 c1, .slice D' n2 c2] _ rfl (((((HR2.out.set_ 0 _).set_ 1 _).set_ 2 _).set_ 3 _).alloc _) Try.underlying26 rfl (by kernel_rfl) rfl ?_
        refine .inr ⟨HM, .inl ⟨A', n1, c1, D', n2, c2, ?_, ?_, ?_, ?_⟩⟩
        · rw [HKE.out, HKN.out.1, HKN.out.2]; rfl
        · rw [HKE.out]
          exact (((((HN.out.far (w.heap.size + 1) 0 _ (by omega)).far (w.heap.size + 1) 1 _ (by omega)).far (w.heap.size + 1) 2 _ (by omega)).far (w.heap.size + 1) 3 _ (by omega)).alloc _).base_ hs1
        · rw [HKE.out]; exact hM2
        · exact (below_sets4 HB2.out HB2.out.size (Nat.le_succ _) _ _ _ _).alloc (by simp; omega) _
      · have hR2 := hr2 hb2
        have x0 := hR2.cell 0
        have x1 := hR2.cell 1
        have x2 := hR2.cell 2
        have x3 := hR2.cell 3
        have k0 := hR2.frozen 0
        have k1 := hR2.frozen 1
        have k2 := hR2.frozen 2
        have k3 := hR2.frozen 3
        simp only [List.getElem?_toArray, List.getElem?_cons_zero, List.getElem?_cons_succ] at x0 x1 x2 x3
        have HR2 := Lib.hid hR2
        have HB2 := Lib.hid (below_step HB1.out hb2 (Nat.le_refl _))
        have lt2 := hR2.lt
        have hw2 : w.heap.size + 2 ≤ w2.heap.size := by have := hb2.size; omega
        clear hr2 hR2 hb2 HW
        go_wp2
        refine ret_cell3 rfl (w.heap.size + 1) #[.int .u8 0, .int .u32 0, .slice none 0 0, .slice none 0 0] _ rfl (((((HR2.out.set_ 0 _).set_ 1 _).set_ 2 _).set_ 3 _).alloc _) Try.underlying26 rfl (by kernel_rfl) rfl ?_
        refine .inr ⟨HM, .inr ⟨rfl, ?_, ?_⟩⟩
        · rw [HKE.out]; exact hM2
        · exact (below_sets4 HB2.out HB2.out.size (Nat.le_succ _) _ _ _ _).alloc (by simp; omega) _
    · have hi2 := Lib.hid hi
      clear hri hi
      have HW := Lib.hid (with_any s (SltM.idx s.full) A nF cA D nD cD B nb cb b w1 HS1.out HM.out (by have h9 := SltM.idx_le s.full; rw [HLF.out] at h9; exact h9) hsum (HBR.out.below HB1.out) HBN.out hbl)
      obtain ⟨K, hK⟩ : ∃ K, SltM.idx s.full = K := ⟨_, rfl⟩
      rw [hK] at HW HIX ⊢
      have HKE := Lib.hid hK
      clear hK
      clear hi2
      have HKN : Hid ((SltM.put s K b).kind = s.kind ∧ (SltM.put s K b).next = s.next) := Lib.hid (by unfold SltM.put; split <;> exact ⟨rfl, rfl⟩)
      go_wp2_with fail
      refine HW.out.mono ?_
      intro e w2 hW
      have hr2 : ∀ (hb : Below w1.heap.size w1 w2), Blk w2 (w.heap.size + 1) 26 #[.int .u8 0, .int .u32 0, .slice none 0 0, .slice none 0 0] := fun hb => HR1.out.below hb HR1.out.lt
      rcases hW with ⟨A', n1, c1, D', n2, c2, rfl, hN, hM2, hb2⟩ | ⟨rfl, hM2, hb2⟩
      · have hR2 := hr2 hb2
        have x0 := hR2.cell 0
        have x1 := hR2.cell 1
        have x2 := hR2.cell 2
        have x3 := hR2.cell 3
        have k0 := hR2.frozen 0
        have k1 := hR2.frozen 1
        have k2 := hR2.frozen 2
        have k3 := hR2.frozen 3
        simp only [List.getElem?_toArray, List.getElem?_cons_zero, List.getElem?_cons_succ] at x0 x1 x2 x3
        have HR2 := Lib.hid hR2
        have HN := Lib.hid hN
        have HB2 := Lib.hid (below_step HB1.out hb2 (Nat.le_refl _))
        have lt2 := hR2.lt
        have hw2 : w.heap.size + 2 ≤ w2.heap.size := by have := hb2.size; omega
        clear hr2 hR2 hN hb2 HW
        rw [HKN.out.1, HKN.out.2]
        go_wp2
        refine ret_cell3 rfl (w.heap.size + 1) #[.int .u8 (s.kind : Int), .int .u32 (s.next : Int), .slice A' n1 c1, .slice D' n2 c2] _ rfl (((((HR2.out.set_ 0 _).set_ 1 _).set_ 2 _).set_ 3 _).alloc _) Try.underlying26 rfl (by kernel_rfl) rfl ?_
        refine .inr ⟨HM, .inl ⟨A', n1, c1, D', n2, c2, ?_, ?_, ?_, ?_⟩⟩
        · rw [HKE.out, HKN.out.1, HKN.out.2]; rfl
        · rw [HKE.out]
          exact (((((HN.out.far (w.heap.size + 1) 0 _ (by omega)).far (w.heap.size + 1) 1 _ (by omega)).far (w.heap.size + 1) 2 _ (by omega)).far (w.heap.size + 1) 3 _ (by omega)).alloc _).base_ hs1
        · rw [HKE.out]; exact hM2
        · exact (below_sets4 HB2.out HB2.out.size (Nat.le_succ _) _ _ _ _).alloc (by simp; omega) _
      · have hR2 := hr2 hb2
        have x0 := hR2.cell 0
        have x1 := hR2.cell 1
        have x2 := hR2.cell 2
        have x3 := hR2.cell 3
        have k0 := hR2.frozen 0
        have k1 := hR2.frozen 1
        have k2 := hR2.frozen 2
        have k3 := hR2.frozen 3
        simp only [List.getElem?_toArray, List.getElem?_cons_zero, List.getElem?_cons_succ] at x0 x1 x2 x3
        have HR2 := Lib.hid hR2
        have HB2 := Lib.hid (below_step HB1.out hb2 (Nat.le_refl _))
        have lt2 := hR2.lt
        have hw2 : w.heap.size + 2 ≤ w2.heap.size := by have := hb2.size; omega
        clear hr2 hR2 hb2 HW
        go_wp2
        refine ret_cell3 rfl (w.heap.size + 1) #[.int .u8 0, .int .u32 0, .slice none 0 0, .slice none 0 0] _ rfl (((((HR2.out.set_ 0 _).set_ 1 _).set_ 2 _).set_ 3 _).alloc _) Try.underlying26 rfl (by kernel_rfl) rfl ?_
        refine .inr ⟨HM, .inr ⟨rfl, ?_, ?_⟩⟩
        · rw [HKE.out]; exact hM2
        · exact (below_sets4 HB2.out HB2.out.size (Nat.le_succ _) _ _ _ _).alloc (by simp; omega) _
end Go.Proofs.Ytofbfehpadjbbaa
