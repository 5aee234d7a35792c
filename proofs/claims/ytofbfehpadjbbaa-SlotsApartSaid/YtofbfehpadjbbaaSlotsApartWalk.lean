/-
  The walk of SlotsApart: it returns true and changes nothing that was there.
  Conditions: the body and the bytes lie in memory; their numbers are bounded.
-/
import Derived.Test.YtofbfehpadjbbaaSltD
namespace Go.Proofs.Ytofbfehpadjbbaa
open Go.RowKit Go.Sort Go.Lib
set_option linter.unusedVariables false
set_option maxRecDepth 100000 in
set_option maxHeartbeats 4000000 in
theorem slotsApart_walk (s : Slt) (A : Option Addr) (nF cA : Nat) (D : Option Addr) (nD cD : Nat) (B : Option Addr) (nb cb : Nat) (b : List UInt8) (w : World) (hs : SltAt w A nF cA D nD cD s) (hmF : nF ≤ 140737488355328) (hmD : nD ≤ 140737488355328) (hmx : ∀ x ∈ s.data, x.length ≤ 140737488355328)
    (hbr : Row w B (bs b)) (hbn : b.length = nb) (hbl : nb ≤ 9223372036854775807) :
    Calls Try.prog 4 #[.agg #[.int .u8 (s.kind : Int), .int .u32 (s.next : Int), .slice A nF cA, .slice D nD cD], .slice B nb cb] w fun e w' => e = .returned (.bool true) ∧ Below w.heap.size w w' := by
  have hb0 : Below w.heap.size w (w.alloc (.cells #[.int .u8 (s.kind : Int), .int .u32 (s.next : Int), .slice A nF cA, .slice D nD cD] 26)) := (Below.refl w.heap.size w).alloc (Nat.le_refl _) _
  have hB0 := Blk.new w 26 #[.int .u8 (s.kind : Int), .int .u32 (s.next : Int), .slice A nF cA, .slice D nD cD]
  have HS := Lib.hid hs
  have HMX := Lib.hid hmx
  have HBR := Lib.hid hbr
  have HBN := Lib.hid hbn
  have HB0 := Lib.hid hb0
  have HX0 := Lib.hid hB0
  have KX : Hid (∀ w', Below (w.alloc (.cells #[.int .u8 (s.kind : Int), .int .u32 (s.next : Int), .slice A nF cA, .slice D nD cD] 26)).heap.size (w.alloc (.cells #[.int .u8 (s.kind : Int), .int .u32 (s.next : Int), .slice A nF cA, .slice D nD cD] 26)) w' → (w'.cell? ⟨w.heap.size, 0, none⟩ = some (.int .u8 (s.kind : Int)) ∧ w'.cell? ⟨w.heap.size, 1, none⟩ = some (.int .u32 (s.next : Int))) ∧ (w'.cell? ⟨w.heap.size, 2, none⟩ = some (.slice A nF cA) ∧ w'.cell? ⟨w.heap.size, 3, none⟩ = some (.slice D nD cD))) := Lib.hid (by
    intro w' hb
    have h := HX0.out.below hb HX0.out.lt
    have d0 := h.cell 0
    have d1 := h.cell 1
    have d2 := h.cell 2
    have d3 := h.cell 3
    simp only [List.getElem?_toArray, List.getElem?_cons_zero, List.getElem?_cons_succ] at d0 d1 d2 d3
    exact ⟨⟨d0, d1⟩, d2, d3⟩)
  clear hs hmx hbr hbn hb0 hB0
  go_enter Try.func4, Try.ntmps4
  go_wp2_with fail
  refine (large08_any s A nF cA D nD cD _ (HS.out.below HB0.out) hmF hmD HMX.out).mono ?_
  rintro e w1 ⟨r, rfl, hr, b1⟩
  have B1 := Lib.hid (below_step HB0.out b1 (Nat.le_refl _))
  have C1 := Lib.hid b1
  obtain ⟨⟨d0, d1⟩, d2, d3⟩ := KX.out _ b1
  clear b1
  cases r with
  | true =>
    clear hr
    go_wp2_with fail
    refine (known08_any w1).mono ?_
    rintro e w2 ⟨rfl, hb⟩
    go_wp2
    go_ret
    exact ⟨rfl, below_step B1.out hb (Nat.le_refl _)⟩
  | false =>
    have hsm := hr.out rfl
    clear hr
    by_cases hbig : 1000 < nb
    · go_wp2_with fail
      refine (known08_any w1).mono ?_
      rintro e w2 ⟨rfl, hb⟩
      go_wp2
      go_ret
      exact ⟨rfl, below_step B1.out hb (Nat.le_refl _)⟩
    · have HSUM : Hid (SltM.sum s.data ≤ 3000) := Lib.hid (by omega)
      have HMAY := Lib.hid (may_any s A nF cA D nD cD w1 (HS.out.below B1.out) (by have := HSUM.out; omega) (by omega) (by omega))
      have hnF : nF ≤ 3000 := by omega
      have hnD : nD ≤ 3000 := by omega
      clear hsm
      go_wp2_with fail
      refine HMAY.out.mono ?_
      rintro e w2 ⟨r, rfl, hr, b2⟩
      have B2 := Lib.hid (below_step B1.out b2 (Nat.le_refl _))
      have C2 := Lib.hid (below_step C1.out b2 (Nat.le_refl _))
      obtain ⟨⟨d0, d1⟩, d2, d3⟩ := KX.out _ C2.out
      clear b2 HMAY
      cases r with
      | false =>
        clear hr
        go_wp2_with fail
        refine (known08_any w2).mono ?_
        rintro e w3 ⟨rfl, hb⟩
        go_wp2
        go_ret
        exact ⟨rfl, below_step B2.out hb (Nat.le_refl _)⟩
      | true =>
        have HM := Lib.hid (hr.out.1 rfl)
        clear hr
        have hle := SltM.idx_le s.full
        have F1 := Lib.hid (SltM.put_at HM.out b)
        have F2 : Hid (∀ j, j ≠ SltM.idx s.full → j < (SltM.put s (SltM.idx s.full) b).full.length → (SltM.put s (SltM.idx s.full) b).full[j]? = s.full[j]? ∧ (SltM.put s (SltM.idx s.full) b).data[j]? = s.data[j]? ∧ j < s.full.length) := Lib.hid fun j h1 h2 => SltM.put_ne HM.out b h1 h2
        have F3 := Lib.hid (SltM.del_put HM.out b)
        have F4 : Hid (SltM.left (SltM.put s (SltM.idx s.full) b) ≤ SltM.left s - nb ∧ SltM.sum (SltM.put s (SltM.idx s.full) b).data ≤ 4000) := Lib.hid (by
          have h1 := SltM.left_ins HM.out b
          rw [HBN.out] at h1
          refine ⟨by split at h1 <;> omega, ?_⟩
          have h2 := HSUM.out
          have h3 := HBN.out
          unfold SltM.put
          split
          · show SltM.sum (s.data ++ [b]) ≤ 4000
            rw [SltM.sum_append, SltM.sum_cons, SltM.sum_nil]; omega
          · rename_i q
            have h4 := SltM.idx_false (l := s.full) (by omega)
            have h5 := SltM.sum_set (HM.out.non _ h4) b
            show SltM.sum (s.data.set _ b) ≤ 4000
            simp at h5
            omega)
        have F5 : Hid (¬ Has s (SltM.idx s.full : Int)) := Lib.hid (by
          rintro ⟨j, e, hj⟩
          have e : SltM.idx s.full = j := by omega
          rw [← e] at hj
          rw [SltM.idx_false (List.getElem?_eq_some_iff.1 hj).1] at hj
          cases hj)
        have F6 : Hid (¬ SltM.May (SltM.put s (SltM.idx s.full) b) → SltM.left s < (nb : Int) + 4) := Lib.hid (fun h => by have := SltM.may_ins HM.out b h; rw [HBN.out] at this; exact this)
        have hll : SltM.idx s.full ≤ 3000 := by have := (HS.out.lf); omega
        have HINS := Lib.hid (insert_any s A nF cA D nD cD B nb cb b w2 (HS.out.below B2.out) (by have := HSUM.out; omega) (by omega) (by omega) (HBR.out.below B2.out) HBN.out (by omega))
        obtain ⟨K, hK⟩ : ∃ K, SltM.idx s.full = K := ⟨_, rfl⟩
        rw [hK] at F1 F2 F3 F4 F5 F6 hll
        have HKI := Lib.hid hK
        clear hle hK
        have HKN : Hid ((SltM.put s K b).kind = s.kind ∧ (SltM.put s K b).next = s.next) := Lib.hid (by unfold SltM.put; split <;> exact ⟨rfl, rfl⟩)
        go_wp2_with fail
        refine HINS.out.mono ?_
        intro e w3 hI
        rcases hI with ⟨rfl, hn, _⟩ | ⟨_, (⟨A', m1, e1, D', m2, e2, rfl, hN, hM2, b3⟩ | ⟨rfl, hn, b3⟩)⟩
        · exact absurd HM.out hn.out
        · rw [HKI.out] at hN hM2 ⊢
          rw [HKN.out.1, HKN.out.2]
          have hT := hN.at_
          have hTm := hM2.out.most
          have hTl := hM2.out.len
          rw [hT.lf] at hTm
          rw [hT.lf, hT.ld] at hTl
          have hm2 : m2 ≤ 247 := by omega
          clear hTl
          have B3 := Lib.hid (below_step B2.out b3 (Nat.le_refl _))
          have C3 := Lib.hid (below_step C2.out b3 (Nat.le_refl _))
          have HT := Lib.hid hT
          have BV := Lib.hid (B3.out.alloc B3.out.size (.cells #[.int .u8 (s.kind : Int), .int .u32 (s.next : Int), .slice A' m1 e1, .slice D' m2 e2] 26))
          have CV := Lib.hid (C3.out.alloc C3.out.size (.cells #[.int .u8 (s.kind : Int), .int .u32 (s.next : Int), .slice A' m1 e1, .slice D' m2 e2] 26))
          have HTV := Lib.hid (HT.out.below ((Below.refl _ _).alloc (Nat.le_refl _) (.cells #[.int .u8 (s.kind : Int), .int .u32 (s.next : Int), .slice A' m1 e1, .slice D' m2 e2] 26)))
          have HG9 := Lib.hid (Blk.new w3 26 #[.int .u8 (s.kind : Int), .int .u32 (s.next : Int), .slice A' m1 e1, .slice D' m2 e2])
          have KY : Hid (∀ w', Below (w3.alloc (.cells #[.int .u8 (s.kind : Int), .int .u32 (s.next : Int), .slice A' m1 e1, .slice D' m2 e2] 26)).heap.size (w3.alloc (.cells #[.int .u8 (s.kind : Int), .int .u32 (s.next : Int), .slice A' m1 e1, .slice D' m2 e2] 26)) w' → (w'.cell? ⟨w3.heap.size, 0, none⟩ = some (.int .u8 (s.kind : Int)) ∧ w'.cell? ⟨w3.heap.size, 1, none⟩ = some (.int .u32 (s.next : Int))) ∧ (w'.cell? ⟨w3.heap.size, 2, none⟩ = some (.slice A' m1 e1) ∧ w'.cell? ⟨w3.heap.size, 3, none⟩ = some (.slice D' m2 e2))) := Lib.hid (by
            intro w' hb
            have h := HG9.out.below hb HG9.out.lt
            have d0 := h.cell 0
            have d1 := h.cell 1
            have d2 := h.cell 2
            have d3 := h.cell 3
            simp only [List.getElem?_toArray, List.getElem?_cons_zero, List.getElem?_cons_succ] at d0 d1 d2 d3
            exact ⟨⟨d0, d1⟩, d2, d3⟩)
          clear hT b3 hN HINS d0 d1 d2 d3
          go_wp2
          go_loopw [8, 9, 10, 11, 12] (fun i _ _ _ _ wr => ∃ q : Nat, i = .int .i64 q ∧ q ≤ m1 ∧ Below (w3.alloc (.cells #[.int .u8 (s.kind : Int), .int .u32 (s.next : Int), .slice A' m1 e1, .slice D' m2 e2] 26)).heap.size (w3.alloc (.cells #[.int .u8 (s.kind : Int), .int .u32 (s.next : Int), .slice A' m1 e1, .slice D' m2 e2] 26)) wr) (fun i _ _ _ _ _ => m1 - (RowKit.intOf i).toNat)
          case atStart => exact ⟨0, rfl, by omega, Below.refl _ _⟩
          case round =>
            obtain ⟨q, rfl, hq, hbel⟩ := hrel
            obtain ⟨W, hWe⟩ : ∃ W, W = wr := ⟨_, rfl⟩
            subst hWe
            have BL := Lib.hid hbel
            have BW := Lib.hid (below_step BV.out hbel (Nat.le_refl _))
            have CW := Lib.hid (below_step CV.out hbel (Nat.le_refl _))
            obtain ⟨⟨y0, y1⟩, y2, y3⟩ := KY.out _ hbel
            clear hbel
            by_cases hlt : q < m1
            · have HGT := Lib.hid (get_any (SltM.put s K b) (q : Int) A' m1 e1 D' m2 e2 W (HTV.out.below BL.out) (by have := F4.out.2; omega) (by omega) (by omega))
              rw [HKN.out.1, HKN.out.2] at HGT
              go_wp2_with fail
              refine HGT.out.mono ?_
              intro e w4 hG
              have CALL2 : Hid (∀ w', Below W.heap.size W w' → Calls Try.prog 11 #[.agg #[.int .u8 (s.kind : Int), .int .u32 (s.next : Int), .slice A nF cA, .slice D nD cD], .int .i64 (q : Int)] w' (GetPost s (q : Int) w')) := Lib.hid fun w' hb =>
                get_any s (q : Int) A nF cA D nD cD w' ((HS.out.below BW.out).below hb) (by have := HSUM.out; omega) (by omega) (by omega)
              rcases hG with ⟨rr, rfl, hrr, b4⟩ | ⟨k2, x2, B2', n2, c2', rfl, hpk2, hfk2, hxk2, hxn2, _, hox2, b4⟩
              · have hqK : q ≠ K := by
                  intro e
                  rcases hrr.out with h | h
                  · exact absurd hM2.out h.2
                  · exact h.2.2 ⟨K, by omega, F1.out.1⟩
                obtain rfl : rr = 7 := by
                  rcases hrr.out with h | h
                  · exact absurd hM2.out h.2
                  · exact h.1
                have hfq := F2.out q hqK (by rw [HT.out.lf]; exact hlt)
                have hns : ¬ Has s (q : Int) := by
                  rintro ⟨j, e, hj⟩
                  have e : q = j := by omega
                  rw [← e, ← hfq.1] at hj
                  rcases hrr.out with h | h
                  · exact absurd hM2.out h.2
                  · exact h.2.2 ⟨q, rfl, hj⟩
                have HNS := Lib.hid hns
                have B4 := Lib.hid b4
                obtain ⟨⟨d0, d1⟩, d2, d3⟩ := KX.out _ (below_step CW.out b4 (Nat.le_refl _))
                clear b4 hrr hfq hns HGT
                go_wp2_with fail
                refine (CALL2.out _ B4.out).mono ?_
                intro e w5 hG
                rcases hG with ⟨r3, rfl, hr3, b5⟩ | ⟨k3, x3, B3', n3, c3', rfl, hpk3, hfk3, _, _, _, _, _⟩
                · obtain rfl : r3 = 7 := by
                    rcases hr3.out with h | h
                    · exact absurd HM.out h.2
                    · exact h.1
                  have B5 := Lib.hid (below_step BL.out (below_join B4.out b5) (Nat.le_refl _))
                  have s1 := str_len w5 none 0 0 [] rfl (Row.nil _ _)
                  clear b5 hr3
                  go_wp2
                  go_roundw
                  case rel => exact ⟨q + 1, by go_num, by omega, B5.out⟩
                  case measure => simp [RowKit.intOf]; omega
                · exact absurd ⟨k3, hpk3.out, hfk3.out⟩ HNS.out
              · obtain rfl : q = k2 := by have := hpk2.out; omega
                have B4 := Lib.hid b4
                have HX2 := Lib.hid hox2.out.row
                obtain ⟨⟨d0, d1⟩, d2, d3⟩ := KX.out _ (below_step CW.out b4 (Nat.le_refl _))
                clear b4 hox2 HGT
                by_cases hqK : q = K
                · subst hqK
                  have hxb : x2 = b := by have h1 := hxk2.out; rw [F1.out.2] at h1; injection h1 with h1; exact h1.symm
                  have HNS := F5
                  have HXB := Lib.hid hxb
                  clear hxb
                  go_wp2_with fail
                  refine (CALL2.out _ B4.out).mono ?_
                  intro e w5 hG
                  rcases hG with ⟨r3, rfl, hr3, b5⟩ | ⟨k3, x3, B3', n3, c3', rfl, hpk3, hfk3, _, _, _, _, _⟩
                  · obtain rfl : r3 = 7 := by
                      rcases hr3.out with h | h
                      · exact absurd HM.out h.2
                      · exact h.1
                    have B5 := Lib.hid (below_step BL.out (below_join B4.out b5) (Nat.le_refl _))
                    have s1 := str_len w5 B2' n2 c2' b (by rw [← HXB.out]; exact hxn2.out) (by rw [← HXB.out]; exact HX2.out.below b5)
                    have s2 := str_len w5 B nb cb b HBN.out (HBR.out.below (below_step BW.out (below_join B4.out b5) (Nat.le_refl _)))
                    clear b5 hr3
                    go_wp2
                    go_roundw
                    case rel => exact ⟨q + 1, by go_num, by omega, B5.out⟩
                    case measure => simp [RowKit.intOf]; omega
                  · exact absurd ⟨k3, hpk3.out, hfk3.out⟩ HNS.out
                · have hfq := F2.out q hqK (by rw [HT.out.lf]; exact hlt)
                  have HHS : Hid (Has s (q : Int)) := Lib.hid ⟨q, rfl, by rw [← hfq.1]; exact hfk2.out⟩
                  have HXS : Hid (s.data[q]? = some x2) := Lib.hid (by rw [← hfq.2.1]; exact hxk2.out)
                  clear hfq
                  go_wp2_with fail
                  refine (CALL2.out _ B4.out).mono ?_
                  intro e w5 hG
                  rcases hG with ⟨r3, rfl, hr3, b5⟩ | ⟨k3, x3, B3', n3, c3', rfl, hpk3, hfk3, hxk3, hxn3, _, hox3, b5⟩
                  · rcases hr3.out with h | h
                    · exact absurd HM.out h.2
                    · exact absurd HHS.out h.2.2
                  · obtain rfl : q = k3 := by have := hpk3.out; omega
                    obtain rfl : x2 = x3 := by have h1 := hxk3.out; rw [HXS.out] at h1; injection h1
                    have B5 := Lib.hid (below_step BL.out (below_join B4.out b5) (Nat.le_refl _))
                    have s1 := str_len w5 B2' n2 c2' x2 hxn2.out (HX2.out.below b5)
                    have s2 := str_len w5 B3' n3 c3' x2 hxn3.out hox3.out.row
                    clear b5 hox3
                    go_wp2
                    go_roundw
                    case rel => exact ⟨q + 1, by go_num, by omega, B5.out⟩
                    case measure => simp [RowKit.intOf]; omega
            · obtain rfl : m1 = q := by omega
              have HDEL := Lib.hid (delete_any (SltM.put s K b) (K : Int) A' m1 e1 D' m2 e2 W (HTV.out.below BL.out) (by have := F4.out.2; omega) (by omega) (by omega))
              rw [HKN.out.1, HKN.out.2] at HDEL
              go_wp2_with fail
              refine HDEL.out.mono ?_
              intro e w6 hD
              rcases hD with ⟨r2, rfl, hr2, b6⟩ | ⟨k3, hpk3, hfk3, _, A3, m3, e3, D3, m4, e4, rfl, hN3, b6⟩
              · rcases hr2.out with h | h
                · exact absurd hM2.out h.2
                · exact absurd ⟨K, rfl, F1.out.1⟩ h.2.2
              · obtain rfl : K = k3 := by have := hpk3.out; omega
                rw [F3.out] at hN3
                rw [HKN.out.1, HKN.out.2]
                have hU := hN3.at_
                have hU1 := HM.out.most
                have hU2 := HM.out.len
                rw [hU.lf] at hU1
                rw [hU.lf, hU.ld] at hU2
                have hm4 : m4 ≤ 247 := by omega
                clear hU2
                have B6 := Lib.hid (below_step BW.out b6 (Nat.le_refl _))
                have C6 := Lib.hid (below_step CW.out b6 (Nat.le_refl _))
                have L6 := Lib.hid (below_step BL.out b6 (Nat.le_refl _))
                have HT6 := Lib.hid ((HTV.out.below BL.out).below b6)
                have HU := Lib.hid hU
                have hgg : w3.heap.size < w6.heap.size := by have := L6.out.size; simp at this; omega
                have KEEP : Hid (∀ w', Below (w6.alloc (.cells #[.int .u8 (s.kind : Int), .int .u32 (s.next : Int), .slice A3 m3 e3, .slice D3 m4 e4] 26)).heap.size (w6.alloc (.cells #[.int .u8 (s.kind : Int), .int .u32 (s.next : Int), .slice A3 m3 e3, .slice D3 m4 e4] 26)) w' →
                    ((w'.cell? ⟨w6.heap.size, 0, none⟩ = some (.int .u8 (s.kind : Int)) ∧ w'.cell? ⟨w6.heap.size, 1, none⟩ = some (.int .u32 (s.next : Int)) ∧ w'.cell? ⟨w6.heap.size, 2, none⟩ = some (.slice A3 m3 e3) ∧ w'.cell? ⟨w6.heap.size, 3, none⟩ = some (.slice D3 m4 e4) ∧
                     w'.cell? ⟨w.heap.size, 0, none⟩ = some (.int .u8 (s.kind : Int)) ∧ w'.cell? ⟨w.heap.size, 1, none⟩ = some (.int .u32 (s.next : Int)) ∧ w'.cell? ⟨w.heap.size, 2, none⟩ = some (.slice A nF cA) ∧ w'.cell? ⟨w.heap.size, 3, none⟩ = some (.slice D nD cD) ∧
                     w'.cell? ⟨w3.heap.size, 0, none⟩ = some (.int .u8 (s.kind : Int)) ∧ w'.cell? ⟨w3.heap.size, 1, none⟩ = some (.int .u32 (s.next : Int)) ∧ w'.cell? ⟨w3.heap.size, 2, none⟩ = some (.slice A' m1 e1) ∧ w'.cell? ⟨w3.heap.size, 3, none⟩ = some (.slice D' m2 e2)) ∧
                    SltAt w' A3 m3 e3 D3 m4 e4 s ∧ SltAt w' A nF cA D nD cD s ∧ SltAt w' A' m1 e1 D' m2 e2 (SltM.put s K b) ∧ Below w.heap.size w w')) := Lib.hid (by
                  intro w' hb
                  have b66 : Below w6.heap.size w6 w' := below_step ((Below.refl w6.heap.size w6).alloc (Nat.le_refl _) _) hb (Nat.le_refl _)
                  have bw := below_step B6.out b66 (Nat.le_refl _)
                  have h1 := (Blk.new w6 26 #[.int .u8 (s.kind : Int), .int .u32 (s.next : Int), .slice A3 m3 e3, .slice D3 m4 e4]).below hb (Blk.new w6 26 #[.int .u8 (s.kind : Int), .int .u32 (s.next : Int), .slice A3 m3 e3, .slice D3 m4 e4]).lt
                  obtain ⟨⟨d0, d1⟩, d2, d3⟩ := KX.out _ (below_step C6.out b66 (Nat.le_refl _))
                  obtain ⟨⟨z0, z1⟩, z2, z3⟩ := KY.out _ (below_step L6.out b66 (Nat.le_refl _))
                  have y0 := h1.cell 0
                  have y1 := h1.cell 1
                  have y2 := h1.cell 2
                  have y3 := h1.cell 3
                  simp only [List.getElem?_toArray, List.getElem?_cons_zero, List.getElem?_cons_succ] at y0 y1 y2 y3
                  exact ⟨⟨y0, y1, y2, y3, d0, d1, d2, d3, z0, z1, z2, z3⟩, HU.out.below b66, HS.out.below bw, HT6.out.below b66, bw⟩)
                have hl0 := HM.out.room
                have hl1 : SltM.left s ≤ 494 := by unfold SltM.left; omega
                have ht0 := hM2.out.room
                have hlt4 := F4.out.1
                obtain ⟨L, hL⟩ : ∃ L, SltM.left s = L := ⟨_, rfl⟩
                obtain ⟨L2, hL2⟩ : ∃ L, SltM.left (SltM.put s K b) = L := ⟨_, rfl⟩
                have HLL := Lib.hid hL
                have HLL2 := Lib.hid hL2
                rw [hL] at hl0 hl1 hlt4
                rw [hL2] at ht0 hlt4
                have CSAME : Hid (∀ w', Below (w6.alloc (.cells #[.int .u8 (s.kind : Int), .int .u32 (s.next : Int), .slice A3 m3 e3, .slice D3 m4 e4] 26)).heap.size (w6.alloc (.cells #[.int .u8 (s.kind : Int), .int .u32 (s.next : Int), .slice A3 m3 e3, .slice D3 m4 e4] 26)) w' → Calls Try.prog 14 #[.agg #[.int .u8 (s.kind : Int), .int .u32 (s.next : Int), .slice A3 m3 e3, .slice D3 m4 e4], .agg #[.int .u8 (s.kind : Int), .int .u32 (s.next : Int), .slice A nF cA, .slice D nD cD]] w' fun e w2 => e = .returned (.bool true) ∧ Below w'.heap.size w' w2) := Lib.hid (by
                  intro w' hb
                  obtain ⟨_, h1, h2, _, _⟩ := KEEP.out w' hb
                  refine (same_any s s A3 m3 e3 D3 m4 e4 A nF cA D nD cD w' h1 h2 (by omega) (by omega)).mono ?_
                  rintro e w2 ⟨r, rfl, hr, hb2⟩
                  obtain rfl : r = true := hr.out.2 rfl
                  exact ⟨rfl, hb2⟩)
                have CROOMT : Hid (∀ w', Below (w6.alloc (.cells #[.int .u8 (s.kind : Int), .int .u32 (s.next : Int), .slice A3 m3 e3, .slice D3 m4 e4] 26)).heap.size (w6.alloc (.cells #[.int .u8 (s.kind : Int), .int .u32 (s.next : Int), .slice A3 m3 e3, .slice D3 m4 e4] 26)) w' → Calls Try.prog 13 #[.agg #[.int .u8 (s.kind : Int), .int .u32 (s.next : Int), .slice A' m1 e1, .slice D' m2 e2]] w' fun e w2 => e = .returned (.int .i64 L2) ∧ Below w'.heap.size w' w2) := Lib.hid (by
                  intro w' hb
                  obtain ⟨_, _, _, h3, _⟩ := KEEP.out w' hb
                  have h := room_yes (SltM.put s K b) A' m1 e1 D' m2 e2 w' h3 (by have := F4.out.2; omega) hM2.out
                  rw [HKN.out.1, HKN.out.2, HLL2.out] at h
                  exact h)
                have CROOMS : Hid (∀ w', Below (w6.alloc (.cells #[.int .u8 (s.kind : Int), .int .u32 (s.next : Int), .slice A3 m3 e3, .slice D3 m4 e4] 26)).heap.size (w6.alloc (.cells #[.int .u8 (s.kind : Int), .int .u32 (s.next : Int), .slice A3 m3 e3, .slice D3 m4 e4] 26)) w' → Calls Try.prog 13 #[.agg #[.int .u8 (s.kind : Int), .int .u32 (s.next : Int), .slice A nF cA, .slice D nD cD]] w' fun e w2 => e = .returned (.int .i64 L) ∧ Below w'.heap.size w' w2) := Lib.hid (by
                  intro w' hb
                  obtain ⟨_, _, h2, _, _⟩ := KEEP.out w' hb
                  have h := room_yes s A nF cA D nD cD w' h2 (by have := HSUM.out; omega) HM.out
                  rw [HLL.out] at h
                  exact h)
                have CROOMU : Hid (∀ w', Below (w6.alloc (.cells #[.int .u8 (s.kind : Int), .int .u32 (s.next : Int), .slice A3 m3 e3, .slice D3 m4 e4] 26)).heap.size (w6.alloc (.cells #[.int .u8 (s.kind : Int), .int .u32 (s.next : Int), .slice A3 m3 e3, .slice D3 m4 e4] 26)) w' → Calls Try.prog 13 #[.agg #[.int .u8 (s.kind : Int), .int .u32 (s.next : Int), .slice A3 m3 e3, .slice D3 m4 e4]] w' fun e w2 => e = .returned (.int .i64 L) ∧ Below w'.heap.size w' w2) := Lib.hid (by
                  intro w' hb
                  obtain ⟨_, h1, _, _, _⟩ := KEEP.out w' hb
                  have h := room_yes s A3 m3 e3 D3 m4 e4 w' h1 (by have := HSUM.out; omega) HM.out
                  rw [HLL.out] at h
                  exact h)
                have hw1 : IntKind.i64.wrap (L - (nb : Int)) = L - nb := by rw [IntKind.wrap_i64]; omega
                clear hL hL2 b6 hU hN3 y0 y1 y2 y3 HDEL
                go_wp2
                have BB : Hid (Below (w6.alloc (.cells #[.int .u8 (s.kind : Int), .int .u32 (s.next : Int), .slice A3 m3 e3, .slice D3 m4 e4] 26)).heap.size (w6.alloc (.cells #[.int .u8 (s.kind : Int), .int .u32 (s.next : Int), .slice A3 m3 e3, .slice D3 m4 e4] 26)) (w6.alloc (.cells #[.int .u8 (s.kind : Int), .int .u32 (s.next : Int), .slice A3 m3 e3, .slice D3 m4 e4] 26)).drew) := Lib.hid ⟨rfl, rfl, rfl, Nat.le_refl _, fun _ _ => rfl⟩
                go_region_held_law (fun w' => w'.cell? ⟨w6.heap.size, 0, none⟩ = some (.int .u8 (s.kind : Int)) ∧ w'.cell? ⟨w6.heap.size, 1, none⟩ = some (.int .u32 (s.next : Int)) ∧ w'.cell? ⟨w6.heap.size, 2, none⟩ = some (.slice A3 m3 e3) ∧ w'.cell? ⟨w6.heap.size, 3, none⟩ = some (.slice D3 m4 e4) ∧
                     w'.cell? ⟨w.heap.size, 0, none⟩ = some (.int .u8 (s.kind : Int)) ∧ w'.cell? ⟨w.heap.size, 1, none⟩ = some (.int .u32 (s.next : Int)) ∧ w'.cell? ⟨w.heap.size, 2, none⟩ = some (.slice A nF cA) ∧ w'.cell? ⟨w.heap.size, 3, none⟩ = some (.slice D nD cD) ∧
                     w'.cell? ⟨w3.heap.size, 0, none⟩ = some (.int .u8 (s.kind : Int)) ∧ w'.cell? ⟨w3.heap.size, 1, none⟩ = some (.int .u32 (s.next : Int)) ∧ w'.cell? ⟨w3.heap.size, 2, none⟩ = some (.slice A' m1 e1) ∧ w'.cell? ⟨w3.heap.size, 3, none⟩ = some (.slice D' m2 e2))
                  (exact (KEEP.out _ BB.out).1)
                  (first
                    | (go_at_call 14
                       refine (CSAME.out _ BB.out).mono ?_
                       rintro e wx ⟨rfl, bx⟩
                       replace BB := Lib.hid (below_step BB.out bx (Nat.le_refl _))
                       clear bx)
                    | (go_at_call 13
                       refine (CROOMU.out _ BB.out).mono ?_
                       rintro e wx ⟨rfl, bx⟩
                       replace BB := Lib.hid (below_step BB.out bx (Nat.le_refl _))
                       clear bx)
                    | (go_at_call 13
                       refine (CROOMT.out _ BB.out).mono ?_
                       rintro e wx ⟨rfl, bx⟩
                       replace BB := Lib.hid (below_step BB.out bx (Nat.le_refl _))
                       clear bx)
                    | (go_at_call 13
                       refine (CROOMS.out _ BB.out).mono ?_
                       rintro e wx ⟨rfl, bx⟩
                       replace BB := Lib.hid (below_step BB.out bx (Nat.le_refl _))
                       clear bx)
                    | (go_at_call 10
                       refine (known08_any _).mono ?_
                       rintro e wx ⟨rfl, bx⟩
                       replace BB := Lib.hid (below_step BB.out bx (Nat.le_refl _))
                       clear bx))
                all_goals
                  go_wp2
                  go_ret
                  exact ⟨rfl, (KEEP.out _ BB.out).2.2.2.2⟩
        · rw [HKI.out] at hn
          have B3 := Lib.hid (below_step B2.out b3 (Nat.le_refl _))
          have C3 := Lib.hid (below_step C2.out b3 (Nat.le_refl _))
          have C5 := Lib.hid (C3.out.alloc C3.out.size (.cells #[.int .u8 0, .int .u32 0, .slice none 0 0, .slice none 0 0] 26))
          obtain ⟨⟨d0, d1⟩, d2, d3⟩ := KX.out _ C5.out
          have HROOM := Lib.hid (room_yes s A nF cA D nD cD (w3.alloc (.cells #[.int .u8 0, .int .u32 0, .slice none 0 0, .slice none 0 0] 26)) (HS.out.below (B3.out.alloc B3.out.size _)) (by have := HSUM.out; omega) HM.out)
          have hlt := F6.out hn.out
          have hl0 := HM.out.room
          have hl1 : SltM.left s ≤ 494 := by unfold SltM.left; omega
          obtain ⟨L, hL⟩ : ∃ L, SltM.left s = L := ⟨_, rfl⟩
          rw [hL] at HROOM hlt hl0 hl1
          clear b3 hL HINS
          go_wp2_with fail
          refine HROOM.out.mono ?_
          rintro e w5 ⟨rfl, b5⟩
          have B5 := Lib.hid (below_step (B3.out.alloc B3.out.size _) b5 (Nat.le_refl _))
          clear b5 HROOM
          go_wp2_with fail
          refine (known08_any w5).mono ?_
          rintro e w6 ⟨rfl, hb⟩
          go_wp2
          go_ret
          exact ⟨rfl, below_step B5.out hb (Nat.le_refl _)⟩
end Go.Proofs.Ytofbfehpadjbbaa
