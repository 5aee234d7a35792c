/-
  The calls of a slotted body: what stands in a slot, other bytes in a slot, bytes in a slot that has nothing.
  Conditions: the lists lie in memory; their lengths are bounded.
-/
import Derived.Test.YtofbfehpadjbbaaSltW5
namespace Go.Proofs.Ytofbfehpadjbbaa
open Go.RowKit Go.Sort Go.Lib
set_option linter.unusedVariables false
/-- The first slot that has nothing. -/
def IdxPost (l : List Bool) (nF : Nat) (w : World) (e : Ending) (w' : World) : Prop := ∃ r : Int, e = .returned (.int .i64 r) ∧ Hid ((r = -1 ∧ SltM.idx l = nF) ∨ (r = (SltM.idx l : Int) ∧ SltM.idx l < nF)) ∧ w = w'
set_option maxRecDepth 100000 in
theorem index_any (A : Option Addr) (nF cA : Nat) (l : List Bool) (w : World) (hr : Row w A (l.map .bool)) (hl : l.length = nF) (hm : nF ≤ 1000000) :
    Calls Try.prog 31 #[.slice A nF cA, .bool false] w (IdxPost l nF w) := by
  have HR := Lib.hid hr
  have HL := Lib.hid hl
  clear hr hl
  go_enter Try.func31, Try.ntmps31
  go_wp2
  go_loop [5, 8] (fun _ i => ∃ q : Nat, i = .int .i64 q ∧ q ≤ nF ∧ ∀ j, j < q → l[j]? = some true) (fun _ i => nF - (RowKit.intOf i).toNat)
  case atStart => exact ⟨0, rfl, by omega, fun j hj => absurd hj (by omega)⟩
  case round =>
    obtain ⟨q, rfl, hq, hall⟩ := hrel
    have HA := Lib.hid hall
    clear hall
    by_cases hlt : q < nF
    · obtain ⟨b, hb⟩ : ∃ b, l[q]? = some b := ⟨_, List.getElem?_eq_getElem (by rw [HL.out]; exact hlt)⟩
      obtain ⟨g, o, rfl, cb⟩ := row_any HR.out (k := q) (u := .bool b) (by rw [List.getElem?_map, hb]; rfl)
      have HBB := Lib.hid hb
      clear hb
      cases b with
      | false =>
        have hi := Lib.hid (SltM.idx_of HA.out (.inl HBB.out))
        go_wp2
        go_ret
        exact ⟨(q : Int), rfl, Lib.hid (.inr (by rw [hi.out]; exact ⟨rfl, hlt⟩)), rfl⟩
      | true =>
        go_wp2
        go_round
        case rel =>
          refine ⟨q + 1, by go_num, by omega, fun j hj => ?_⟩
          by_cases e : j = q
          · subst e; exact HBB.out
          · exact HA.out j (by omega)
        case measure => simp [RowKit.intOf]; omega
    · obtain rfl : nF = q := by omega
      have hi := Lib.hid (SltM.idx_of HA.out (.inr HL.out.symm))
      go_wp2
      go_ret
      exact ⟨-1, rfl, Lib.hid (.inl ⟨rfl, hi.out⟩), rfl⟩
/-- What stands in a slot. -/
def GetPost (s : Slt) (p : Int) (w : World) (e : Ending) (w' : World) : Prop :=
  (∃ r : Nat, e = .returned (.tuple #[.slice none 0 0, .int .i64 (r : Int)]) ∧ Hid ((r = 2 ∧ ¬ SltM.May s) ∨ (r = 7 ∧ SltM.May s ∧ ¬ Has s p)) ∧ Below w.heap.size w w') ∨
  (∃ (k : Nat) (x : List UInt8) (B : Option Addr) (n c : Nat), e = .returned (.tuple #[.slice B n c, .int .i64 0]) ∧ Hid (p = (k : Int)) ∧ Hid (s.full[k]? = some true) ∧ Hid (s.data[k]? = some x) ∧ Hid (x.length = n) ∧ Hid (SltM.May s) ∧ Hid (Own w' w.heap.size B c x) ∧ Below w.heap.size w w')
set_option maxRecDepth 100000 in
set_option maxHeartbeats 1000000 in
theorem get_any (s : Slt) (p : Int) (A : Option Addr) (nF cA : Nat) (D : Option Addr) (nD cD : Nat) (w : World) (hs : SltAt w A nF cA D nD cD s) (hsum : SltM.sum s.data ≤ 1000000) (hmF : nF ≤ 9223372036854775807) (hmD : nD ≤ 9223372036854775807) :
    Calls Try.prog 11 #[.agg #[.int .u8 (s.kind : Int), .int .u32 (s.next : Int), .slice A nF cA, .slice D nD cD], .int .i64 p] w (GetPost s p w) := by
  have hb : Below w.heap.size w (w.alloc (.cells #[.int .u8 (s.kind : Int), .int .u32 (s.next : Int), .slice A nF cA, .slice D nD cD] 26)) := (Below.refl w.heap.size w).alloc (Nat.le_refl _) _
  have hB := Blk.new w 26 #[.int .u8 (s.kind : Int), .int .u32 (s.next : Int), .slice A nF cA, .slice D nD cD]
  have HS := Lib.hid (hs.below hb)
  have HB := Lib.hid hb
  have HBB := Lib.hid hB
  clear hs hb hB
  go_enter Try.func11, Try.ntmps11
  go_wp2_with fail
  refine (find_any s p A nF cA D nD cD _ HS.out hsum hmF hmD).mono ?_
  rintro e w1 ⟨r, rfl, hr, b1⟩
  have hB1 := HBB.out.below b1 HBB.out.lt
  have d3 := hB1.cell 3
  simp only [List.getElem?_toArray, List.getElem?_cons_zero, List.getElem?_cons_succ] at d3
  have HS1 := Lib.hid (HS.out.below b1)
  have HB1 := Lib.hid (below_step HB.out b1 (Nat.le_refl _))
  clear hB1 b1 HBB
  by_cases h0 : r = 0
  · obtain ⟨hm, k, rfl, hk⟩ : SltM.May s ∧ Has s p := by
      rcases hr.out with h | h | h
      · omega
      · omega
      · exact h.2
    subst h0
    have hkl := (List.getElem?_eq_some_iff.1 hk).1
    obtain ⟨x, hx⟩ : ∃ x, s.data[k]? = some x := ⟨_, List.getElem?_eq_getElem (by rw [← hm.len]; exact hkl)⟩
    obtain ⟨g2, o2, Bx, nx, cx, rfl, cd, hxn, hxr⟩ := HS1.out.data_get hx
    have hxs := SltM.sum_get hx
    rw [hxn] at hxs
    have hkD : k < nD := by have := (List.getElem?_eq_some_iff.1 hx).1; rw [HS1.out.ld] at this; exact this
    have HX := Lib.hid hx
    have HK := Lib.hid hk
    have HXN := Lib.hid hxn
    have HXR := Lib.hid hxr
    have HM := Lib.hid hm
    clear hx hk hxn hxr hm hr hkl
    go_wp2_with fail
    refine (clone_len Bx cx nx x w1 HXR.out HXN.out (by omega)).mono ?_
    rintro e w2 ⟨Bq, nq, cq, rfl, hnq, oq, bq⟩
    have OQ := Lib.hid (oq.base_ HB1.out.size)
    have HB2 := Lib.hid (below_step HB1.out bq (Nat.le_refl _))
    clear oq bq
    go_wp2
    go_ret2
    exact .inr ⟨k, x, Bq, nq, cq, rfl, Lib.hid rfl, HK, HX, hnq, HM, OQ, HB2.out⟩
  · have hrr : Hid ((r = 2 ∧ ¬ SltM.May s) ∨ (r = 7 ∧ SltM.May s ∧ ¬ Has s p)) := Lib.hid (by
      rcases hr.out with h | h | h
      · exact .inl h
      · exact .inr h
      · exact absurd h.1 h0)
    clear hr
    go_wp2
    go_ret2
    exact .inl ⟨r, rfl, hrr, HB1.out⟩
/-- Other bytes in a slot. -/
def PutPost (s : Slt) (p : Int) (b : List UInt8) (w : World) (e : Ending) (w' : World) : Prop :=
  (∃ r : Nat, e = .returned (.tuple #[.agg #[.int .u8 0, .int .u32 0, .slice none 0 0, .slice none 0 0], .int .i64 (r : Int)]) ∧ Hid ((r = 2 ∧ ¬ SltM.May s) ∨ (r = 7 ∧ SltM.May s ∧ ¬ Has s p)) ∧ Below w.heap.size w w') ∨
  (∃ k : Nat, Hid (p = (k : Int)) ∧ Hid (s.full[k]? = some true) ∧ Hid (SltM.May s) ∧ WithPost (SltM.put s k b) w e w')
set_option maxRecDepth 100000 in
set_option maxHeartbeats 1000000 in
theorem put_any (s : Slt) (p : Int) (A : Option Addr) (nF cA : Nat) (D : Option Addr) (nD cD : Nat) (B : Option Addr) (nb cb : Nat) (b : List UInt8) (w : World) (hs : SltAt w A nF cA D nD cD s) (hsum : SltM.sum s.data ≤ 500000) (hmF : nF ≤ 9223372036854775807) (hmD : nD ≤ 9223372036854775807)
    (hbr : Row w B (bs b)) (hbn : b.length = nb) (hbl : nb ≤ 400000) :
    Calls Try.prog 12 #[.agg #[.int .u8 (s.kind : Int), .int .u32 (s.next : Int), .slice A nF cA, .slice D nD cD], .int .i64 p, .slice B nb cb] w (PutPost s p b w) := by
  have hR0 : Blk ((w.alloc (.cells #[.int .u8 (s.kind : Int), .int .u32 (s.next : Int), .slice A nF cA, .slice D nD cD] 26)).alloc (.cells #[.int .u8 0, .int .u32 0, .slice none 0 0, .slice none 0 0] 26)) (w.heap.size + 1) 26 #[.int .u8 0, .int .u32 0, .slice none 0 0, .slice none 0 0] := by
    have := Blk.new (w.alloc (.cells #[.int .u8 (s.kind : Int), .int .u32 (s.next : Int), .slice A nF cA, .slice D nD cD] 26)) 26 #[.int .u8 0, .int .u32 0, .slice none 0 0, .slice none 0 0]
    simpa using this
  have hB0 := (Blk.new w 26 #[.int .u8 (s.kind : Int), .int .u32 (s.next : Int), .slice A nF cA, .slice D nD cD]).alloc (.cells #[.int .u8 0, .int .u32 0, .slice none 0 0, .slice none 0 0] 26)
  have hVb : Below w.heap.size w ((w.alloc (.cells #[.int .u8 (s.kind : Int), .int .u32 (s.next : Int), .slice A nF cA, .slice D nD cD] 26)).alloc (.cells #[.int .u8 0, .int .u32 0, .slice none 0 0, .slice none 0 0] 26)) := ((Below.refl w.heap.size w).alloc (Nat.le_refl _) _).alloc (by simp) _
  have HR0 := Lib.hid hR0
  have HB0 := Lib.hid hB0
  have HVB := Lib.hid hVb
  have HS := Lib.hid hs
  have HBR := Lib.hid hbr
  have HBN := Lib.hid hbn
  have HLF := Lib.hid hs.lf
  clear hR0 hB0 hVb hs hbr hbn
  go_enter Try.func12, Try.ntmps12
  go_wp2_with fail
  refine (find_any s p A nF cA D nD cD _ (HS.out.below HVB.out) (by omega) hmF hmD).mono ?_
  rintro e w1 ⟨r, rfl, hr, b1⟩
  have hB1 := HB0.out.below b1 HB0.out.lt
  have d0 := hB1.cell 0
  have d1 := hB1.cell 1
  have d2 := hB1.cell 2
  have d3 := hB1.cell 3
  have hR1 := HR0.out.below b1 HR0.out.lt
  have x0 := hR1.cell 0
  have x1 := hR1.cell 1
  have x2 := hR1.cell 2
  have x3 := hR1.cell 3
  have k0 := hR1.frozen 0
  have k1 := hR1.frozen 1
  have k2 := hR1.frozen 2
  have k3 := hR1.frozen 3
  simp only [List.getElem?_toArray, List.getElem?_cons_zero, List.getElem?_cons_succ] at d0 d1 d2 d3 x0 x1 x2 x3
  have HR1 := Lib.hid hR1
  have HB1 := Lib.hid (below_step HVB.out b1 (Nat.le_refl _))
  have hs1 := HB1.out.size
  have hw1 : w.heap.size + 2 ≤ w1.heap.size := by have := b1.size; simp at this; omega
  clear hB1 hR1 b1 HR0 HB0 HVB
  by_cases h0 : r = 0
  · obtain ⟨hm, k, rfl, hk⟩ : SltM.May s ∧ Has s p := by
      rcases hr.out with h | h | h
      · omega
      · omega
      · exact h.2
    subst h0
    have hkl : k ≤ nF := by have := (List.getElem?_eq_some_iff.1 hk).1; rw [HLF.out] at this; omega
    have HW := Lib.hid (with_any s k A nF cA D nD cD B nb cb b w1 (HS.out.below HB1.out) hm hkl hsum (HBR.out.below HB1.out) HBN.out hbl)
    have HK := Lib.hid hk
    have HM := Lib.hid hm
    have HKN : Hid ((SltM.put s k b).kind = s.kind ∧ (SltM.put s k b).next = s.next) := Lib.hid (by unfold SltM.put; split <;> exact ⟨rfl, rfl⟩)
    clear hk hm hr
    go_wp2_with fail
    refine HW.out.mono ?_
    intro e w2 hW
    have hr2 : ∀ (hb : Below w1.heap.size w1 w2), Blk w2 (w.heap.size + 1) 26 #[.int .u8 0, .int .u32 0, .slice none 0 0, .slice none 0 0] := fun hb => HR1.out.below hb HR1.out.lt
    rcases hW with ⟨A', n1, c1, D', n2, c2, rfl, hN, hM2, hb2⟩ | ⟨rfl, hM2, hb2⟩
    · have hR2 := hr2 hb2
      have x0 := hR2.cell 0
      have x1 := hR2.cell 1
      have x2 := hR2.cell 2
      have x3 := hR2.cell 3
      have k0 := hR2.frozen 0
      have k1 := hR2.frozen 1
      have k2 := hR2.frozen 2
      have k3 := hR2.frozen 3
      simp only [List.getElem?_toArray, List.getElem?_cons_zero, List.getElem?_cons_succ] at x0 x1 x2 x3
      have HR2 := Lib.hid hR2
      have HN := Lib.hid hN
      have HB2 := Lib.hid (below_step HB1.out hb2 (Nat.le_refl _))
      clear hr2 hR2 hN hb2 HW
      rw [HKN.out.1, HKN.out.2]
      go_wp2
      refine ret_cell rfl (w.heap.size + 1) #[.int .u8 (s.kind : Int), .int .u32 (s.next : Int), .slice A' n1 c1, .slice D' n2 c2] _ rfl ((((HR2.out.set_ 0 _).set_ 1 _).set_ 2 _).set_ 3 _) Try.underlying26 rfl (by kernel_rfl) rfl ?_
      exact .inr ⟨k, Lib.hid rfl, HK, HM, .inl ⟨A', n1, c1, D', n2, c2, by rw [HKN.out.1, HKN.out.2]; rfl, ((((HN.out.far (w.heap.size + 1) 0 _ (by omega)).far (w.heap.size + 1) 1 _ (by omega)).far (w.heap.size + 1) 2 _ (by omega)).far (w.heap.size + 1) 3 _ (by omega)).base_ hs1, hM2, below_sets4 HB2.out HB2.out.size (Nat.le_succ _) _ _ _ _⟩⟩
    · have hR2 := hr2 hb2
      have x0 := hR2.cell 0
      have x1 := hR2.cell 1
      have x2 := hR2.cell 2
      have x3 := hR2.cell 3
      have k0 := hR2.frozen 0
      have k1 := hR2.frozen 1
      have k2 := hR2.frozen 2
      have k3 := hR2.frozen 3
      simp only [List.getElem?_toArray, List.getElem?_cons_zero, List.getElem?_cons_succ] at x0 x1 x2 x3
      have HR2 := Lib.hid hR2
      have HB2 := Lib.hid (below_step HB1.out hb2 (Nat.le_refl _))
      clear hr2 hR2 hb2 HW
      go_wp2
      refine ret_cell rfl (w.heap.size + 1) #[.int .u8 0, .int .u32 0, .slice none 0 0, .slice none 0 0] _ rfl ((((HR2.out.set_ 0 _).set_ 1 _).set_ 2 _).set_ 3 _) Try.underlying26 rfl (by kernel_rfl) rfl ?_
      exact .inr ⟨k, Lib.hid rfl, HK, HM, .inr ⟨rfl, hM2, below_sets4 HB2.out HB2.out.size (Nat.le_succ _) _ _ _ _⟩⟩
  · have hrr : Hid ((r = 2 ∧ ¬ SltM.May s) ∨ (r = 7 ∧ SltM.May s ∧ ¬ Has s p)) := Lib.hid (by
      rcases hr.out with h | h | h
      · exact .inl h
      · exact .inr h
      · exact absurd h.1 h0)
    clear hr
    go_wp2
    refine ret_cell rfl (w.heap.size + 1) #[.int .u8 0, .int .u32 0, .slice none 0 0, .slice none 0 0] _ rfl ((((HR1.out.set_ 0 _).set_ 1 _).set_ 2 _).set_ 3 _) Try.underlying26 rfl (by kernel_rfl) rfl ?_
    exact .inl ⟨r, rfl, hrr, below_sets4 HB1.out HB1.out.size (Nat.le_succ _) _ _ _ _⟩
end Go.Proofs.Ytofbfehpadjbbaa
