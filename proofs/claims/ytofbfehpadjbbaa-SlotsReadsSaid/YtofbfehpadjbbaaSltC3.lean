/-
  The document's room, may and has of a slotted body.
  Conditions: the lengths fit.
-/
import Derived.Test.YtofbfehpadjbbaaSltC2
namespace Go.Proofs.Ytofbfehpadjbbaa
open Go.RowKit Go.Sort Go.Lib
set_option linter.unusedVariables false
set_option maxRecDepth 100000 in
theorem refroom_any (s : Slt) (A : Option Addr) (nF cA : Nat) (D : Option Addr) (nD cD : Nat) (w : World) (hs : SltAt w A nF cA D nD cD s) (hn : nD ≤ 1000000) (hsum : SltM.sum s.data ≤ 1000000) :
    Calls Try.prog 43 #[.agg #[.int .u8 (s.kind : Int), .int .u32 (s.next : Int), .slice A nF cA, .slice D nD cD]] w fun e w' => e = .returned (.int .i64 (500 - SltM.left s)) ∧ Below w.heap.size w w' := by
  have HS := Lib.hid hs
  clear hs
  go_enter Try.func43, Try.ntmps43
  have B1 := Lib.hid ((Below.refl w.heap.size w).alloc (Nat.le_refl _) (.cells #[.int .u8 (s.kind : Int), .int .u32 (s.next : Int), .slice A nF cA, .slice D nD cD] 26))
  go_wp2
  go_loop [3, 4] (fun n i => ∃ q : Nat, n = .int .i64 (6 + 2 * (nD : Int) + (SltM.sum (s.data.take q) : Int)) ∧ i = .int .i64 q ∧ q ≤ nD) (fun _ i => nD - (RowKit.intOf i).toNat)
  case atStart =>
    refine ⟨0, ?_, rfl, by omega⟩
    congr 1
  case round =>
    obtain ⟨q, rfl, rfl, hq⟩ := hrel
    have hle := SltM.sum_le (l := s.data) q
    by_cases hlt : q < nD
    · obtain ⟨x, hx⟩ : ∃ x, s.data[q]? = some x := ⟨_, List.getElem?_eq_getElem (by rw [HS.out.ld]; omega)⟩
      obtain ⟨g2, o2, Bx, nx, cx, rfl, cd, hxn, hxr⟩ := (HS.out.below B1.out).data_get hx
      have hts := SltM.sum_take hx
      have hle2 := SltM.sum_le (l := s.data) (q + 1)
      have hcD := HS.out.cd
      obtain ⟨T1, hT1⟩ : ∃ t, SltM.sum (s.data.take q) = t := ⟨_, rfl⟩
      obtain ⟨T2, hT2⟩ : ∃ t, SltM.sum (s.data.take (q + 1)) = t := ⟨_, rfl⟩
      rw [hT1] at hts hle ⊢
      rw [hT2] at hts hle2
      rw [hxn] at hts
      have HT2 := Lib.hid hT2
      clear hx hxr hT1 hT2 hxn
      go_wp2
      go_round
      case rel =>
        refine ⟨q + 1, ?_, by go_num, by omega⟩
        rw [HT2.out, hts]
        congr 1
        go_num
      case measure => simp [RowKit.intOf]; omega
    · obtain rfl : nD = q := by omega
      have hfin : (6 + 2 * (nD : Int) + (SltM.sum (s.data.take nD) : Int)) = 500 - SltM.left s := by
        unfold SltM.left
        rw [HS.out.ld, List.take_of_length_le (by rw [HS.out.ld]; exact Nat.le_refl _)]
        omega
      rw [hfin]
      go_wp2
      go_ret
      exact ⟨rfl, B1.out⟩
set_option maxRecDepth 100000 in
set_option maxHeartbeats 1000000 in
theorem refmay8_any (s : Slt) (A : Option Addr) (nF cA : Nat) (D : Option Addr) (nD cD : Nat) (w : World) (hs : SltAt w A nF cA D nD cD s) (hsum : SltM.sum s.data ≤ 1000000) (hmF : nF ≤ 9223372036854775807) (hmD : nD ≤ 9223372036854775807) :
    Calls Try.prog 25 #[.agg #[.int .u8 (s.kind : Int), .int .u32 (s.next : Int), .slice A nF cA, .slice D nD cD]] w (MayPost s w) := by
  have HS := Lib.hid hs
  clear hs
  go_enter Try.func25, Try.ntmps25
  have B1 := Lib.hid ((Below.refl w.heap.size w).alloc (Nat.le_refl _) (.cells #[.int .u8 (s.kind : Int), .int .u32 (s.next : Int), .slice A nF cA, .slice D nD cD] 26))
  have hB := Blk.new w 26 #[.int .u8 (s.kind : Int), .int .u32 (s.next : Int), .slice A nF cA, .slice D nD cD]
  have d0 := hB.cell 0
  have d1 := hB.cell 1
  have d2 := hB.cell 2
  have d3 := hB.cell 3
  simp only [List.getElem?_toArray, List.getElem?_cons_zero, List.getElem?_cons_succ] at d0 d1 d2 d3
  clear hB
  by_cases h1 : nF = nD
  · subst h1
    by_cases h2 : nF ≤ 247
    · by_cases h3 : ¬ 0 < nF
      · have HLAST : Hid (∀ k : Nat, s.full.length = k + 1 → s.full[k]? = some true) := Lib.hid fun k hk => by rw [HS.out.lf] at hk; omega
        go_wp2
        go_loopw [4] (fun i wr => ∃ q : Nat, i = .int .i64 q ∧ q ≤ nF ∧ (∀ j, j < q → s.full[j]? = some false → s.data[j]? = some []) ∧ Below w.heap.size w wr ∧ w.heap.size < wr.heap.size ∧ wr.cell? ⟨w.heap.size, 3, none⟩ = some (.slice D nF cD) ∧ wr.cell? ⟨w.heap.size, 0, none⟩ = some (.int .u8 (s.kind : Int)) ∧ wr.cell? ⟨w.heap.size, 1, none⟩ = some (.int .u32 (s.next : Int)) ∧ wr.cell? ⟨w.heap.size, 2, none⟩ = some (.slice A nF cA)) (fun i _ => nF - (RowKit.intOf i).toNat)
        case atStart => exact ⟨0, rfl, by omega, fun j hj => absurd hj (by omega), B1.out, by simp, d3, d0, d1, d2⟩
        case round =>
          obtain ⟨q, rfl, hq, hall, hbel, hsz, x3, x0, x1, x2⟩ := hrel
          have HS' := Lib.hid (HS.out.below hbel)
          have HALL := Lib.hid hall
          have HB := Lib.hid hbel
          clear hall hbel
          by_cases hlt : q < nF
          · exact absurd hlt (by omega)
          · obtain rfl : nF = q := by omega
            have hl := refroom_any s A nF cA D nF cD wr HS'.out (by omega) hsum
            have HL := Lib.hid hl
            have hll : (-10000000 : Int) ≤ SltM.left s ∧ SltM.left s ≤ 494 := by unfold SltM.left; rw [HS.out.ld]; omega
            obtain ⟨L, hL⟩ : ∃ L, SltM.left s = L := ⟨_, rfl⟩
            rw [hL] at HL hll
            have HLL := Lib.hid hL
            clear hl hL
            go_wp2_with fail
            refine HL.out.mono ?_
            rintro e w2 ⟨rfl, hb2⟩
            go_wp2
            go_ret
            refine ⟨decide (500 - L ≤ 500), rfl, Lib.hid ⟨fun h0 => ⟨by rw [HS.out.lf, HS.out.ld], by rw [HS.out.lf]; exact h2, HLAST.out, fun j hj => HALL.out j (by have := (List.getElem?_eq_some_iff.1 hj).1; rw [HS.out.lf] at this; exact this) hj, by rw [HLL.out]; have := of_decide_eq_true h0; omega⟩, fun h => decide_eq_true (by have := h.room; rw [HLL.out] at this; omega)⟩, below_step HB.out hb2 (Nat.le_refl _)⟩
      · obtain ⟨b, hb⟩ : ∃ b, s.full[nF - 1]? = some b := ⟨_, List.getElem?_eq_getElem (by rw [HS.out.lf]; omega)⟩
        obtain ⟨g, o, rfl, cb⟩ := (HS.out.below B1.out).full_get hb
        cases b with
        | false =>
          have HN : Hid (¬ SltM.May s) := Lib.hid fun h => by
            have := h.last (nF - 1) (by rw [HS.out.lf]; omega)
            rw [hb] at this; cases this
          clear hb
          go_wp2
          go_ret
          exact ⟨false, rfl, Lib.hid ⟨fun h => (by cases h), fun h => absurd h HN.out⟩, B1.out⟩
        | true =>
          have HLAST : Hid (∀ k : Nat, s.full.length = k + 1 → s.full[k]? = some true) := Lib.hid fun k hk => by
            rw [HS.out.lf] at hk
            rw [show k = nF - 1 by omega]; exact hb
          clear hb
          go_wp2
          clear cb
          go_loopw [4] (fun i wr => ∃ q : Nat, i = .int .i64 q ∧ q ≤ nF ∧ (∀ j, j < q → s.full[j]? = some false → s.data[j]? = some []) ∧ Below w.heap.size w wr ∧ w.heap.size < wr.heap.size ∧ wr.cell? ⟨w.heap.size, 3, none⟩ = some (.slice D nF cD) ∧ wr.cell? ⟨w.heap.size, 0, none⟩ = some (.int .u8 (s.kind : Int)) ∧ wr.cell? ⟨w.heap.size, 1, none⟩ = some (.int .u32 (s.next : Int)) ∧ wr.cell? ⟨w.heap.size, 2, none⟩ = some (  .slice (some ⟨g, o, none⟩) nF cA)) (fun i _ => nF - (RowKit.intOf i).toNat)
          case atStart => exact ⟨0, rfl, by omega, fun j hj => absurd hj (by omega), B1.out, by simp, d3, d0, d1, d2⟩
          case round =>
            obtain ⟨q, rfl, hq, hall, hbel, hsz, x3, x0, x1, x2⟩ := hrel
            have HS' := Lib.hid (HS.out.below hbel)
            have HALL := Lib.hid hall
            have HB := Lib.hid hbel
            clear hall hbel
            by_cases hlt : q < nF
            · obtain ⟨b, hb⟩ : ∃ b, s.full[q]? = some b := ⟨_, List.getElem?_eq_getElem (by rw [HS.out.lf]; omega)⟩
              obtain ⟨g', o', e', cb⟩ := HS'.out.full_get hb
              cases e'
              obtain ⟨x, hx⟩ : ∃ x, s.data[q]? = some x := ⟨_, List.getElem?_eq_getElem (by rw [HS.out.ld]; omega)⟩
              obtain ⟨g2, o2, Bx, nx, cx, rfl, cd, hxn, hxr⟩ := HS'.out.data_get hx
              have HX := Lib.hid hx
              have HBB := Lib.hid hb
              clear hx hb hxr
              cases b with
              | true =>
                go_wp2
                go_roundw
                case rel =>
                  refine ⟨q + 1, by go_num, by omega, fun j hj hf => ?_, HB.out, hsz, x3, x0, x1, x2⟩
                  by_cases e : j = q
                  · subst e; rw [HBB.out] at hf; cases hf
                  · exact HALL.out j (by omega) hf
                case measure => simp [RowKit.intOf]; omega
              | false =>
                by_cases hz : 0 < nx
                · go_wp2
                  go_ret
                  refine ⟨false, rfl, Lib.hid ⟨fun h => (by cases h), fun h => ?_⟩, HB.out⟩
                  have := h.non q HBB.out
                  rw [HX.out] at this
                  injection this with this
                  rw [this] at hxn
                  simp at hxn; omega
                · go_wp2
                  go_roundw
                  case rel =>
                    refine ⟨q + 1, by go_num, by omega, fun j hj hf => ?_, HB.out, hsz, x3, x0, x1, x2⟩
                    by_cases e : j = q
                    · subst e
                      rw [HX.out, List.eq_nil_of_length_eq_zero (by omega : x.length = 0)]
                    · exact HALL.out j (by omega) hf
                  case measure => simp [RowKit.intOf]; omega
            · obtain rfl : nF = q := by omega
              have hl := refroom_any s (some ⟨g, o, none⟩) nF cA D nF cD wr HS'.out (by omega) hsum
              have HL := Lib.hid hl
              have hll : (-10000000 : Int) ≤ SltM.left s ∧ SltM.left s ≤ 494 := by unfold SltM.left; rw [HS.out.ld]; omega
              obtain ⟨L, hL⟩ : ∃ L, SltM.left s = L := ⟨_, rfl⟩
              rw [hL] at HL hll
              have HLL := Lib.hid hL
              clear hl hL
              go_wp2_with fail
              refine HL.out.mono ?_
              rintro e w2 ⟨rfl, hb2⟩
              go_wp2
              go_ret
              refine ⟨decide (500 - L ≤ 500), rfl, Lib.hid ⟨fun h0 => ⟨by rw [HS.out.lf, HS.out.ld], by rw [HS.out.lf]; exact h2, HLAST.out, fun j hj => HALL.out j (by have := (List.getElem?_eq_some_iff.1 hj).1; rw [HS.out.lf] at this; exact this) hj, by rw [HLL.out]; have := of_decide_eq_true h0; omega⟩, fun h => decide_eq_true (by have := h.room; rw [HLL.out] at this; omega)⟩, below_step HB.out hb2 (Nat.le_refl _)⟩
    · have HN : Hid (¬ SltM.May s) := Lib.hid fun h => by
        have := h.most
        rw [HS.out.lf] at this; omega
      go_wp2
      go_ret
      exact ⟨false, rfl, Lib.hid ⟨fun h => (by cases h), fun h => absurd h HN.out⟩, B1.out⟩
  · have HN : Hid (¬ SltM.May s) := Lib.hid fun h => by
      have := h.len
      rw [HS.out.lf, HS.out.ld] at this; omega
    go_wp2
    go_ret
    exact ⟨false, rfl, Lib.hid ⟨fun h => (by cases h), fun h => absurd h HN.out⟩, B1.out⟩
/-- Whether a slot has something. -/
def HasPost (s : Slt) (p : Int) (w : World) (e : Ending) (w' : World) : Prop := ∃ r, e = .returned (.bool r) ∧ Hid (r = true ↔ Has s p) ∧ Below w.heap.size w w'
set_option maxRecDepth 100000 in
theorem refhas_any (s : Slt) (p : Int) (A : Option Addr) (nF cA : Nat) (D : Option Addr) (nD cD : Nat) (w : World) (hs : SltAt w A nF cA D nD cD s) (hmF : nF ≤ 1000000) :
    Calls Try.prog 33 #[.agg #[.int .u8 (s.kind : Int), .int .u32 (s.next : Int), .slice A nF cA, .slice D nD cD], .int .i64 p] w (HasPost s p w) := by
  have HS := Lib.hid hs
  have hcf := hs.cf
  clear hs
  go_enter Try.func33, Try.ntmps33
  have B1 := Lib.hid ((Below.refl w.heap.size w).alloc (Nat.le_refl _) (.cells #[.int .u8 (s.kind : Int), .int .u32 (s.next : Int), .slice A nF cA, .slice D nD cD] 26))
  by_cases h0 : 0 ≤ p
  · by_cases h1 : p < nF
    · obtain ⟨k, rfl⟩ : ∃ k : Nat, p = (k : Int) := ⟨p.toNat, by omega⟩
      obtain ⟨b, hb⟩ : ∃ b, s.full[k]? = some b := ⟨_, List.getElem?_eq_getElem (by rw [HS.out.lf]; omega)⟩
      obtain ⟨g, o, rfl, cb⟩ := (HS.out.below B1.out).full_get hb
      have HBB := Lib.hid hb
      clear hb
      go_wp2
      go_ret
      refine ⟨b, rfl, Lib.hid ⟨fun h => ⟨k, rfl, by rw [HBB.out, h]⟩, ?_⟩, B1.out⟩
      rintro ⟨j, e, hj⟩
      obtain rfl : k = j := by omega
      rw [HBB.out] at hj
      injection hj
    · have HN : Hid (¬ Has s p) := Lib.hid (by
        rintro ⟨k, rfl, hk⟩
        have := (List.getElem?_eq_some_iff.1 hk).1
        rw [HS.out.lf] at this; omega)
      go_wp2
      go_ret
      exact ⟨false, rfl, Lib.hid ⟨fun h => (by cases h), fun h => absurd h HN.out⟩, B1.out⟩
  · have HN : Hid (¬ Has s p) := Lib.hid (by rintro ⟨k, rfl, hk⟩; omega)
    go_wp2
    go_ret
    exact ⟨false, rfl, Lib.hid ⟨fun h => (by cases h), fun h => absurd h HN.out⟩, B1.out⟩
end Go.Proofs.Ytofbfehpadjbbaa
