/-
  The walk of SlotsPuts: it returns true and changes nothing that was there.
  Conditions: the body and the bytes lie in memory; their numbers are bounded.
-/
import Derived.Test.YtofbfehpadjbbaaSltW9
namespace Go.Proofs.Ytofbfehpadjbbaa
open Go.RowKit Go.Sort Go.Lib
set_option linter.unusedVariables false
set_option maxRecDepth 100000 in
set_option maxHeartbeats 4000000 in
theorem slotsPuts_walk (s : Slt) (A : Option Addr) (nF cA : Nat) (D : Option Addr) (nD cD : Nat) (p : Int) (B : Option Addr) (nb cb : Nat) (b : List UInt8) (w : World) (hs : SltAt w A nF cA D nD cD s) (hmF : nF ≤ 140737488355328) (hmD : nD ≤ 140737488355328) (hmx : ∀ x ∈ s.data, x.length ≤ 140737488355328)
    (hbr : Row w B (bs b)) (hbn : b.length = nb) (hbl : nb ≤ 9223372036854775807) :
    Calls Try.prog 3 #[.agg #[.int .u8 (s.kind : Int), .int .u32 (s.next : Int), .slice A nF cA, .slice D nD cD], .int .i64 p, .slice B nb cb] w fun e w' => e = .returned (.bool true) ∧ Below w.heap.size w w' := by
  have hb0 : Below w.heap.size w (w.alloc (.cells #[.int .u8 (s.kind : Int), .int .u32 (s.next : Int), .slice A nF cA, .slice D nD cD] 26)) := (Below.refl w.heap.size w).alloc (Nat.le_refl _) _
  have hB0 := Blk.new w 26 #[.int .u8 (s.kind : Int), .int .u32 (s.next : Int), .slice A nF cA, .slice D nD cD]
  have HS := Lib.hid hs
  have HMX := Lib.hid hmx
  have HBR := Lib.hid hbr
  have HBN := Lib.hid hbn
  have HB0 := Lib.hid hb0
  have HX0 := Lib.hid hB0
  have KX : Hid (∀ w', Below (w.alloc (.cells #[.int .u8 (s.kind : Int), .int .u32 (s.next : Int), .slice A nF cA, .slice D nD cD] 26)).heap.size (w.alloc (.cells #[.int .u8 (s.kind : Int), .int .u32 (s.next : Int), .slice A nF cA, .slice D nD cD] 26)) w' → (w'.cell? ⟨w.heap.size, 0, none⟩ = some (.int .u8 (s.kind : Int)) ∧ w'.cell? ⟨w.heap.size, 1, none⟩ = some (.int .u32 (s.next : Int))) ∧ (w'.cell? ⟨w.heap.size, 2, none⟩ = some (.slice A nF cA) ∧ w'.cell? ⟨w.heap.size, 3, none⟩ = some (.slice D nD cD))) := Lib.hid (by
    intro w' hb
    have h := HX0.out.below hb HX0.out.lt
    have d0 := h.cell 0
    have d1 := h.cell 1
    have d2 := h.cell 2
    have d3 := h.cell 3
    simp only [List.getElem?_toArray, List.getElem?_cons_zero, List.getElem?_cons_succ] at d0 d1 d2 d3
    exact ⟨⟨d0, d1⟩, d2, d3⟩)
  clear hs hmx hbr hbn hb0 hB0
  go_enter Try.func3, Try.ntmps3
  go_wp2_with fail
  refine (large08_any s A nF cA D nD cD _ (HS.out.below HB0.out) hmF hmD HMX.out).mono ?_
  rintro e w1 ⟨r, rfl, hr, b1⟩
  have B1 := Lib.hid (below_step HB0.out b1 (Nat.le_refl _))
  have C1 := Lib.hid b1
  obtain ⟨⟨d0, d1⟩, d2, d3⟩ := KX.out _ b1
  clear b1
  cases r with
  | true =>
    clear hr
    go_wp2_with fail
    refine (known08_any w1).mono ?_
    rintro e w2 ⟨rfl, hb⟩
    go_wp2
    go_ret
    exact ⟨rfl, below_step B1.out hb (Nat.le_refl _)⟩
  | false =>
    have hsm := hr.out rfl
    clear hr
    by_cases hbig : 1000 < nb
    · go_wp2_with fail
      refine (known08_any w1).mono ?_
      rintro e w2 ⟨rfl, hb⟩
      go_wp2
      go_ret
      exact ⟨rfl, below_step B1.out hb (Nat.le_refl _)⟩
    · have HSUM : Hid (SltM.sum s.data ≤ 3000) := Lib.hid (by omega)
      have HMAY := Lib.hid (may_any s A nF cA D nD cD w1 (HS.out.below B1.out) (by have := HSUM.out; omega) (by omega) (by omega))
      have hnF : nF ≤ 3000 := by omega
      have hnD : nD ≤ 3000 := by omega
      clear hsm
      go_wp2_with fail
      refine HMAY.out.mono ?_
      rintro e w2 ⟨r, rfl, hr, b2⟩
      have B2 := Lib.hid (below_step B1.out b2 (Nat.le_refl _))
      have C2 := Lib.hid (below_step C1.out b2 (Nat.le_refl _))
      obtain ⟨⟨d0, d1⟩, d2, d3⟩ := KX.out _ C2.out
      clear b2 HMAY
      cases r with
      | false =>
        clear hr
        go_wp2_with fail
        refine (known08_any w2).mono ?_
        rintro e w3 ⟨rfl, hb⟩
        go_wp2
        go_ret
        exact ⟨rfl, below_step B2.out hb (Nat.le_refl _)⟩
      | true =>
        have HM := Lib.hid (hr.out.1 rfl)
        clear hr
        have HGET := Lib.hid (get_any s p A nF cA D nD cD w2 (HS.out.below B2.out) (by have := HSUM.out; omega) (by omega) (by omega))
        go_wp2_with fail
        refine HGET.out.mono ?_
        intro e w3 hG
        rcases hG with ⟨rr, rfl, hrr, b3⟩ | ⟨k, x, B1', n1, c1', rfl, hpk, hfk, hxk, hxn, _, hox, b3⟩
        · have hnh : ¬ Has s p := by
            rcases hrr.out with h | h
            · exact absurd HM.out h.2
            · exact h.2.2
          obtain rfl : rr = 7 := by
            rcases hrr.out with h | h
            · exact absurd HM.out h.2
            · exact h.1
          have HNH := Lib.hid hnh
          have B3 := Lib.hid (below_step B2.out b3 (Nat.le_refl _))
          have C3 := Lib.hid (below_step C2.out b3 (Nat.le_refl _))
          obtain ⟨⟨d0, d1⟩, d2, d3⟩ := KX.out _ C3.out
          have HPUT := Lib.hid (put_any s p A nF cA D nD cD B nb cb b w3 (HS.out.below B3.out) (by have := HSUM.out; omega) (by omega) (by omega) (HBR.out.below B3.out) HBN.out (by omega))
          clear b3 hrr hnh HGET
          go_wp2_with fail
          refine HPUT.out.mono ?_
          intro e w4 hP
          rcases hP with ⟨r2, rfl, hr2, b4⟩ | ⟨k, hpk, hfk, _⟩
          · obtain rfl : r2 = 7 := by
              rcases hr2.out with h | h
              · exact absurd HM.out h.2
              · exact h.1
            have B4 := Lib.hid (below_step B3.out b4 (Nat.le_refl _))
            clear b4 hr2 HPUT
            go_wp2_with fail
            refine (known08_any _).mono ?_
            rintro e w5 ⟨rfl, hb⟩
            go_wp2
            go_ret
            exact ⟨rfl, below_step (B4.out.alloc B4.out.size _) hb (Nat.le_refl _)⟩
          · exact absurd ⟨k, hpk.out, hfk.out⟩ HNH.out
        · obtain rfl := hpk.out
          have B3 := Lib.hid (below_step B2.out b3 (Nat.le_refl _))
          have C3 := Lib.hid (below_step C2.out b3 (Nat.le_refl _))
          obtain ⟨⟨d0, d1⟩, d2, d3⟩ := KX.out _ C3.out
          have HPUT := Lib.hid (put_any s (k : Int) A nF cA D nD cD B nb cb b w3 (HS.out.below B3.out) (by have := HSUM.out; omega) (by omega) (by omega) (HBR.out.below B3.out) HBN.out (by omega))
          have hx1 : n1 ≤ 3000 := by have h1 := SltM.sum_get hxk.out; have h2 := HSUM.out; have h3 := hxn.out; omega
          have HKN : Hid ((SltM.put s k b).kind = s.kind ∧ (SltM.put s k b).next = s.next) := Lib.hid (by unfold SltM.put; split <;> exact ⟨rfl, rfl⟩)
          have HRX := Lib.hid hox.out.row
          clear b3 HGET hox
          go_wp2_with fail
          refine HPUT.out.mono ?_
          intro e w4 hP
          rcases hP with ⟨r2, rfl, hr2, b4⟩ | ⟨k', hpk', hfk', _, hW⟩
          · rcases hr2.out with h | h
            · exact absurd HM.out h.2
            · exact absurd ⟨k, rfl, hfk.out⟩ h.2.2
          · obtain rfl : k = k' := by have := hpk'.out; omega
            rcases hW with ⟨A', m1, e1, D', m2, e2, rfl, hN, hM2, b4⟩ | ⟨rfl, hM2, b4⟩
            · rw [HKN.out.1, HKN.out.2]
              have hT := hN.at_
              have hTm := hM2.out.most
              have hTl := hM2.out.len
              rw [hT.lf] at hTm
              rw [hT.lf, hT.ld] at hTl
              have hm2 : m2 ≤ 247 := by omega
              have HTS : Hid (SltM.sum (SltM.put s k b).data ≤ 4000) := Lib.hid (by
                rw [SltM.put_full hfk.out]
                have h1 := SltM.sum_set hxk.out b
                have h2 := HSUM.out
                have h3 := HBN.out
                show SltM.sum (s.data.set k b) ≤ 4000
                omega)
              have HTF : Hid ((SltM.put s k b).full[k]? = some true ∧ (SltM.put s k b).data[k]? = some b) := Lib.hid (by
                rw [SltM.put_full hfk.out]
                exact ⟨hfk.out, List.getElem?_set_self (List.getElem?_eq_some_iff.1 hxk.out).1⟩)
              have HBACK : Hid (SltM.put (SltM.put s k b) k x = s) := Lib.hid (SltM.put_back hfk.out hxk.out)
              have HLEFT : Hid (SltM.left (SltM.put s k b) = SltM.left s + n1 - nb) := Lib.hid (by
                have h1 := SltM.left_put HM.out.len hxk.out b
                rw [hxn.out, HBN.out] at h1
                exact h1)
              clear hTl
              have B4 := Lib.hid (below_step B3.out b4 (Nat.le_refl _))
              have C4 := Lib.hid (below_step C3.out b4 (Nat.le_refl _))
              have HT := Lib.hid hT
              have HRX4 := Lib.hid (HRX.out.below b4)
              have BV := Lib.hid (B4.out.alloc B4.out.size (.cells #[.int .u8 (s.kind : Int), .int .u32 (s.next : Int), .slice A' m1 e1, .slice D' m2 e2] 26))
              have CV := Lib.hid (C4.out.alloc C4.out.size (.cells #[.int .u8 (s.kind : Int), .int .u32 (s.next : Int), .slice A' m1 e1, .slice D' m2 e2] 26))
              have HTV := Lib.hid (HT.out.below ((Below.refl _ _).alloc (Nat.le_refl _) (.cells #[.int .u8 (s.kind : Int), .int .u32 (s.next : Int), .slice A' m1 e1, .slice D' m2 e2] 26)))
              have HRXV := Lib.hid (HRX4.out.below ((Below.refl _ _).alloc (Nat.le_refl _) (.cells #[.int .u8 (s.kind : Int), .int .u32 (s.next : Int), .slice A' m1 e1, .slice D' m2 e2] 26)))
              have hG9 := Blk.new w4 26 #[.int .u8 (s.kind : Int), .int .u32 (s.next : Int), .slice A' m1 e1, .slice D' m2 e2]
              have HG9 := Lib.hid hG9
              have HGET2 := Lib.hid (get_any (SltM.put s k b) (k : Int) A' m1 e1 D' m2 e2 (w4.alloc (.cells #[.int .u8 (s.kind : Int), .int .u32 (s.next : Int), .slice A' m1 e1, .slice D' m2 e2] 26)) HTV.out (by have := HTS.out; omega) (by omega) (by omega))
              rw [HKN.out.1, HKN.out.2] at HGET2
              clear hT b4 hN HPUT hG9 HRX4
              go_wp2_with fail
              refine HGET2.out.mono ?_
              intro e w5 hG
              rcases hG with ⟨rr, rfl, hrr, b5⟩ | ⟨k2, x2, B2', n2, c2', rfl, hpk2, hfk2, hxk2, hxn2, _, hox2, b5⟩
              · rcases hrr.out with h | h
                · exact absurd hM2.out h.2
                · exact absurd ⟨k, rfl, HTF.out.1⟩ h.2.2
              · obtain rfl : k = k2 := by have := hpk2.out; omega
                obtain rfl : x2 = b := by have h1 := hxk2.out; rw [HTF.out.2] at h1; injection h1 with h1; exact h1.symm
                have B5 := Lib.hid (below_step BV.out b5 (Nat.le_refl _))
                have C5 := Lib.hid (below_step CV.out b5 (Nat.le_refl _))
                have HG5 := Lib.hid (HG9.out.below b5 HG9.out.lt)
                have HT5 := Lib.hid (HTV.out.below b5)
                have HNOW := Lib.hid hox2.out.row
                have hn2 : n2 ≤ 1000 := by have h1 := hxn2.out; have h2 := HBN.out; omega
                have HPUT2 := Lib.hid (put_any (SltM.put s k x2) (k : Int) A' m1 e1 D' m2 e2 B1' n1 c1' x w5 HT5.out (by have := HTS.out; omega) (by omega) (by omega) (HRXV.out.below b5) hxn.out (by omega))
                rw [HKN.out.1, HKN.out.2] at HPUT2
                have hg5 := HG5.out
                have z0 := hg5.cell 0
                have z1 := hg5.cell 1
                have z2 := hg5.cell 2
                have z3 := hg5.cell 3
                simp only [List.getElem?_toArray, List.getElem?_cons_zero, List.getElem?_cons_succ] at z0 z1 z2 z3
                clear b5 HGET2 hox2 hg5 hpk2 hfk2 hxk2
                go_wp2_with fail
                refine HPUT2.out.mono ?_
                intro e w6 hP
                rcases hP with ⟨r2, rfl, hr2, b6⟩ | ⟨k3, hpk3, hfk3, _, hW⟩
                · rcases hr2.out with h | h
                  · exact absurd hM2.out h.2
                  · exact absurd ⟨k, rfl, HTF.out.1⟩ h.2.2
                · obtain rfl : k = k3 := by have := hpk3.out; omega
                  rw [HBACK.out] at hW
                  rcases hW with ⟨A3, m3, e3, D3, m4, e4, rfl, hN3, hM3, b6⟩ | ⟨rfl, hM3, b6⟩
                  · have hU := hN3.at_
                    have hU1 := HM.out.most
                    have hU2 := HM.out.len
                    rw [hU.lf] at hU1
                    rw [hU.lf, hU.ld] at hU2
                    have hm4 : m4 ≤ 247 := by omega
                    clear hU2
                    have B6 := Lib.hid (below_step B5.out b6 (Nat.le_refl _))
                    have C6 := Lib.hid (below_step C5.out b6 (Nat.le_refl _))
                    have HG6 := Lib.hid (HG5.out.below b6 HG5.out.lt)
                    have hgg := HG6.out.lt
                    have HT6 := Lib.hid (HT5.out.below b6)
                    have HNOW6 := Lib.hid (HNOW.out.below b6)
                    have HU := Lib.hid hU
                    have KEEP : Hid (∀ w', Below (w6.alloc (.cells #[.int .u8 (s.kind : Int), .int .u32 (s.next : Int), .slice A3 m3 e3, .slice D3 m4 e4] 26)).heap.size (w6.alloc (.cells #[.int .u8 (s.kind : Int), .int .u32 (s.next : Int), .slice A3 m3 e3, .slice D3 m4 e4] 26)) w' →
                        ((w'.cell? ⟨w6.heap.size, 0, none⟩ = some (.int .u8 (s.kind : Int)) ∧ w'.cell? ⟨w6.heap.size, 1, none⟩ = some (.int .u32 (s.next : Int)) ∧ w'.cell? ⟨w6.heap.size, 2, none⟩ = some (.slice A3 m3 e3) ∧ w'.cell? ⟨w6.heap.size, 3, none⟩ = some (.slice D3 m4 e4) ∧
                         w'.cell? ⟨w.heap.size, 0, none⟩ = some (.int .u8 (s.kind : Int)) ∧ w'.cell? ⟨w.heap.size, 1, none⟩ = some (.int .u32 (s.next : Int)) ∧ w'.cell? ⟨w.heap.size, 2, none⟩ = some (.slice A nF cA) ∧ w'.cell? ⟨w.heap.size, 3, none⟩ = some (.slice D nD cD) ∧
                         w'.cell? ⟨w4.heap.size, 0, none⟩ = some (.int .u8 (s.kind : Int)) ∧ w'.cell? ⟨w4.heap.size, 1, none⟩ = some (.int .u32 (s.next : Int)) ∧ w'.cell? ⟨w4.heap.size, 2, none⟩ = some (.slice A' m1 e1) ∧ w'.cell? ⟨w4.heap.size, 3, none⟩ = some (.slice D' m2 e2) ∧
                         (convert 27 9 (.slice B2' n2 c2')).run Try.prog w' = .ok (.string (str x2)) w' ∧ (convert 27 9 (.slice B nb cb)).run Try.prog w' = .ok (.string (str x2)) w') ∧
                        SltAt w' A3 m3 e3 D3 m4 e4 s ∧ SltAt w' A nF cA D nD cD s ∧ SltAt w' A' m1 e1 D' m2 e2 (SltM.put s k x2) ∧ Below w.heap.size w w')) := Lib.hid (by
                      intro w' hb
                      have b66 : Below w6.heap.size w6 w' := below_step ((Below.refl w6.heap.size w6).alloc (Nat.le_refl _) _) hb (Nat.le_refl _)
                      have bw := below_step B6.out b66 (Nat.le_refl _)
                      have h1 := (Blk.new w6 26 #[.int .u8 (s.kind : Int), .int .u32 (s.next : Int), .slice A3 m3 e3, .slice D3 m4 e4]).below hb (Blk.new w6 26 #[.int .u8 (s.kind : Int), .int .u32 (s.next : Int), .slice A3 m3 e3, .slice D3 m4 e4]).lt
                      have h2 := HG6.out.below b66 HG6.out.lt
                      obtain ⟨⟨d0, d1⟩, d2, d3⟩ := KX.out _ (below_step C6.out b66 (Nat.le_refl _))
                      have y0 := h1.cell 0
                      have y1 := h1.cell 1
                      have y2 := h1.cell 2
                      have y3 := h1.cell 3
                      have z0 := h2.cell 0
                      have z1 := h2.cell 1
                      have z2 := h2.cell 2
                      have z3 := h2.cell 3
                      simp only [List.getElem?_toArray, List.getElem?_cons_zero, List.getElem?_cons_succ] at y0 y1 y2 y3 z0 z1 z2 z3
                      exact ⟨⟨y0, y1, y2, y3, d0, d1, d2, d3, z0, z1, z2, z3, str_len w' _ _ _ _ hxn2.out (HNOW6.out.below b66), str_len w' _ _ _ _ HBN.out (HBR.out.below bw)⟩, HU.out.below b66, HS.out.below bw, HT6.out.below b66, bw⟩)
                    have hl0 := HM.out.room
                    have hl1 : SltM.left s ≤ 494 := by unfold SltM.left; omega
                    obtain ⟨L, hL⟩ : ∃ L, SltM.left s = L := ⟨_, rfl⟩
                    have HLL := Lib.hid hL
                    rw [hL] at hl0 hl1
                    have CSAME : Hid (∀ w', Below (w6.alloc (.cells #[.int .u8 (s.kind : Int), .int .u32 (s.next : Int), .slice A3 m3 e3, .slice D3 m4 e4] 26)).heap.size (w6.alloc (.cells #[.int .u8 (s.kind : Int), .int .u32 (s.next : Int), .slice A3 m3 e3, .slice D3 m4 e4] 26)) w' → Calls Try.prog 14 #[.agg #[.int .u8 (s.kind : Int), .int .u32 (s.next : Int), .slice A3 m3 e3, .slice D3 m4 e4], .agg #[.int .u8 (s.kind : Int), .int .u32 (s.next : Int), .slice A nF cA, .slice D nD cD]] w' fun e w2 => e = .returned (.bool true) ∧ Below w'.heap.size w' w2) := Lib.hid (by
                      intro w' hb
                      obtain ⟨_, h1, h2, _, _⟩ := KEEP.out w' hb
                      refine (same_any s s A3 m3 e3 D3 m4 e4 A nF cA D nD cD w' h1 h2 (by omega) (by omega)).mono ?_
                      rintro e w2 ⟨r, rfl, hr, hb2⟩
                      obtain rfl : r = true := hr.out.2 rfl
                      exact ⟨rfl, hb2⟩)
                    have CROOMT : Hid (∀ w', Below (w6.alloc (.cells #[.int .u8 (s.kind : Int), .int .u32 (s.next : Int), .slice A3 m3 e3, .slice D3 m4 e4] 26)).heap.size (w6.alloc (.cells #[.int .u8 (s.kind : Int), .int .u32 (s.next : Int), .slice A3 m3 e3, .slice D3 m4 e4] 26)) w' → Calls Try.prog 13 #[.agg #[.int .u8 (s.kind : Int), .int .u32 (s.next : Int), .slice A' m1 e1, .slice D' m2 e2]] w' fun e w2 => e = .returned (.int .i64 (L + n1 - nb)) ∧ Below w'.heap.size w' w2) := Lib.hid (by
                      intro w' hb
                      obtain ⟨_, _, _, h3, _⟩ := KEEP.out w' hb
                      have h := room_yes (SltM.put s k x2) A' m1 e1 D' m2 e2 w' h3 (by have := HTS.out; omega) hM2.out
                      rw [HKN.out.1, HKN.out.2, HLEFT.out, HLL.out] at h
                      exact h)
                    have CROOMS : Hid (∀ w', Below (w6.alloc (.cells #[.int .u8 (s.kind : Int), .int .u32 (s.next : Int), .slice A3 m3 e3, .slice D3 m4 e4] 26)).heap.size (w6.alloc (.cells #[.int .u8 (s.kind : Int), .int .u32 (s.next : Int), .slice A3 m3 e3, .slice D3 m4 e4] 26)) w' → Calls Try.prog 13 #[.agg #[.int .u8 (s.kind : Int), .int .u32 (s.next : Int), .slice A nF cA, .slice D nD cD]] w' fun e w2 => e = .returned (.int .i64 L) ∧ Below w'.heap.size w' w2) := Lib.hid (by
                      intro w' hb
                      obtain ⟨_, _, h2, _, _⟩ := KEEP.out w' hb
                      have h := room_yes s A nF cA D nD cD w' h2 (by have := HSUM.out; omega) HM.out
                      rw [HLL.out] at h
                      exact h)
                    have hw1 : IntKind.i64.wrap (L + (n1 : Int)) = L + n1 := by rw [IntKind.wrap_i64]; omega
                    have hw2 : IntKind.i64.wrap (L + (n1 : Int) - (nb : Int)) = L + n1 - nb := by rw [IntKind.wrap_i64]; omega
                    clear hL b6 hU hN3 z0 z1 z2 z3 d0 d1 d2 d3 HPUT2
                    go_wp2
                    have BB : Hid (Below (w6.alloc (.cells #[.int .u8 (s.kind : Int), .int .u32 (s.next : Int), .slice A3 m3 e3, .slice D3 m4 e4] 26)).heap.size (w6.alloc (.cells #[.int .u8 (s.kind : Int), .int .u32 (s.next : Int), .slice A3 m3 e3, .slice D3 m4 e4] 26)) (w6.alloc (.cells #[.int .u8 (s.kind : Int), .int .u32 (s.next : Int), .slice A3 m3 e3, .slice D3 m4 e4] 26)).drew) := Lib.hid ⟨rfl, rfl, rfl, Nat.le_refl _, fun _ _ => rfl⟩
                    go_region_held_law (fun w' => w'.cell? ⟨w6.heap.size, 0, none⟩ = some (.int .u8 (s.kind : Int)) ∧ w'.cell? ⟨w6.heap.size, 1, none⟩ = some (.int .u32 (s.next : Int)) ∧ w'.cell? ⟨w6.heap.size, 2, none⟩ = some (.slice A3 m3 e3) ∧ w'.cell? ⟨w6.heap.size, 3, none⟩ = some (.slice D3 m4 e4) ∧
                         w'.cell? ⟨w.heap.size, 0, none⟩ = some (.int .u8 (s.kind : Int)) ∧ w'.cell? ⟨w.heap.size, 1, none⟩ = some (.int .u32 (s.next : Int)) ∧ w'.cell? ⟨w.heap.size, 2, none⟩ = some (.slice A nF cA) ∧ w'.cell? ⟨w.heap.size, 3, none⟩ = some (.slice D nD cD) ∧
                         w'.cell? ⟨w4.heap.size, 0, none⟩ = some (.int .u8 (s.kind : Int)) ∧ w'.cell? ⟨w4.heap.size, 1, none⟩ = some (.int .u32 (s.next : Int)) ∧ w'.cell? ⟨w4.heap.size, 2, none⟩ = some (.slice A' m1 e1) ∧ w'.cell? ⟨w4.heap.size, 3, none⟩ = some (.slice D' m2 e2) ∧
                         (convert 27 9 (.slice B2' n2 c2')).run Try.prog w' = .ok (.string (str x2)) w' ∧ (convert 27 9 (.slice B nb cb)).run Try.prog w' = .ok (.string (str x2)) w')
                      (exact (KEEP.out _ BB.out).1)
                      (first
                        | (go_at_call 14
                           refine (CSAME.out _ BB.out).mono ?_
                           rintro e wx ⟨rfl, bx⟩
                           replace BB := Lib.hid (below_step BB.out bx (Nat.le_refl _))
                           clear bx)
                        | (go_at_call 13
                           refine (CROOMT.out _ BB.out).mono ?_
                           rintro e wx ⟨rfl, bx⟩
                           replace BB := Lib.hid (below_step BB.out bx (Nat.le_refl _))
                           clear bx)
                        | (go_at_call 13
                           refine (CROOMS.out _ BB.out).mono ?_
                           rintro e wx ⟨rfl, bx⟩
                           replace BB := Lib.hid (below_step BB.out bx (Nat.le_refl _))
                           clear bx)
                        | (go_at_call 10
                           refine (known08_any _).mono ?_
                           rintro e wx ⟨rfl, bx⟩
                           replace BB := Lib.hid (below_step BB.out bx (Nat.le_refl _))
                           clear bx))
                    all_goals
                      go_wp2
                      go_ret
                      exact ⟨rfl, (KEEP.out _ BB.out).2.2.2.2⟩
                  · exact absurd HM.out hM3.out
            · have B4 := Lib.hid (below_step B3.out b4 (Nat.le_refl _))
              have C4 := Lib.hid (below_step C3.out b4 (Nat.le_refl _))
              have C5 := Lib.hid (C4.out.alloc C4.out.size (.cells #[.int .u8 0, .int .u32 0, .slice none 0 0, .slice none 0 0] 26))
              obtain ⟨⟨d0, d1⟩, d2, d3⟩ := KX.out _ C5.out
              have HROOM := Lib.hid (room_yes s A nF cA D nD cD (w4.alloc (.cells #[.int .u8 0, .int .u32 0, .slice none 0 0, .slice none 0 0] 26)) (HS.out.below (B4.out.alloc B4.out.size _)) (by have := HSUM.out; omega) HM.out)
              have hlt : (n1 : Int) + SltM.left s < (nb : Int) := by
                have h1 := SltM.left_put HM.out.len hxk.out b
                rw [hxn.out, HBN.out] at h1
                have h2 : ¬ 0 ≤ SltM.left (SltM.put s k b) := fun h => hM2.out ((SltM.may_put HM.out hfk.out b).2 h)
                omega
              have hl0 := HM.out.room
              have hl1 : SltM.left s ≤ 494 := by unfold SltM.left; omega
              obtain ⟨L, hL⟩ : ∃ L, SltM.left s = L := ⟨_, rfl⟩
              rw [hL] at HROOM hlt hl0 hl1
              clear b4 hL HPUT
              go_wp2_with fail
              refine HROOM.out.mono ?_
              rintro e w5 ⟨rfl, b5⟩
              have B5 := Lib.hid (below_step (B4.out.alloc B4.out.size _) b5 (Nat.le_refl _))
              clear b5 HROOM
              go_wp2_with fail
              refine (known08_any w5).mono ?_
              rintro e w6 ⟨rfl, hb⟩
              go_wp2
              go_ret
              exact ⟨rfl, below_step B5.out hb (Nat.le_refl _)⟩
end Go.Proofs.Ytofbfehpadjbbaa
