/-
  The walk of FramePlays: it returns true and changes nothing that was there.
  Conditions: the calls lie in memory as a list, the bytes of each too; their number is bounded.
-/
import Derived.Test.YtgcognefggbpjaaFrmP3
import Derived.BigQuiet
namespace Go.Proofs.Ytgcognefggbpjaa
open Go.RowKit Go.Sort Go.Lib
set_option linter.unusedVariables false
set_option maxRecDepth 100000 in
set_option maxHeartbeats 4000000 in
theorem framePlays_walk (A0 : Option Addr) (c0 : Nat) (l : List Opv) (w : World) (hr : Row w A0 (l.flatMap Opv.cells)) (hat : ∀ s ∈ l, s.At w) (hm : l.length ≤ maxLen) :
    Calls Try.prog 12 #[.slice A0 l.length c0] w fun e w' => e = .returned (.bool true) ∧ Below w.heap.size w w' := by
  unfold maxLen at hm
  have HR := Lib.hid hr
  have HAT := Lib.hid hat
  clear hr hat
  go_enter Try.func12, Try.ntmps12
  go_wp2
  go_loop [3, 4] (fun n i => ∃ q : Nat, n = .int .i64 (FrmM.tot l q : Nat) ∧ i = .int .i64 q ∧ q ≤ l.length ∧ q ≤ 201 ∧ FrmM.tot l q ≤ q * 100000) (fun _ i => l.length - (RowKit.intOf i).toNat)
  case atStart => exact ⟨0, by rw [FrmM.tot_zero]; rfl, rfl, by omega, by omega, by rw [FrmM.tot_zero]; omega⟩
  case round =>
    obtain ⟨q, rfl, rfl, hq, hq2, htq⟩ := hrel
    by_cases hlt : q < l.length ∧ q < 201
    · obtain ⟨hlt, hlt2⟩ := hlt
      obtain ⟨p, hp⟩ : ∃ p, l[q]? = some p := ⟨_, List.getElem?_eq_getElem hlt⟩
      have hpa := HAT.out p (List.mem_of_getElem? hp)
      have hts := FrmM.tot_succ hp
      obtain ⟨b0, o0, rfl, e0, e1⟩ := row_opv HR.out hp
      obtain ⟨km, hkm⟩ : ∃ k, p.b.length = k := ⟨_, rfl⟩
      have hpl := hpa.le
      have hpm := hpa.mx
      unfold maxLen at hpm
      rw [hkm] at e1 hts hpl
      obtain ⟨T, hT⟩ : ∃ t, FrmM.tot l q = t := ⟨_, rfl⟩
      obtain ⟨T2, hT2⟩ : ∃ t, FrmM.tot l (q + 1) = t := ⟨_, rfl⟩
      rw [hT] at hts htq ⊢
      rw [hT2] at hts
      have HT2 := Lib.hid hT2
      clear hp hpa hT hT2 hkm
      by_cases hbig : 100000 < km
      · go_wp2_with fail
        refine (known21_any w).mono ?_
        rintro e w1 ⟨rfl, hb⟩
        go_wp2
        go_ret
        exact ⟨rfl, hb⟩
      · go_wp2
        go_round
        case rel => exact ⟨q + 1, by rw [HT2.out, hts]; go_num, by go_num, by omega, by omega, by rw [HT2.out]; omega⟩
        case measure => simp [RowKit.intOf]; omega
    · by_cases hlen : 200 < l.length
      · go_wp2_with fail
        all_goals
          refine (known21_any w).mono ?_
          rintro e w1 ⟨rfl, hb⟩
          go_wp2
          go_ret
          exact ⟨rfl, hb⟩
      · obtain rfl : q = l.length := by omega
        clear hlt
        obtain ⟨T, hT⟩ : ∃ t, FrmM.tot l l.length = t := ⟨_, rfl⟩
        rw [hT] at htq ⊢
        by_cases hbig : 100000 < T
        · go_wp2_with fail
          refine (known21_any w).mono ?_
          rintro e w1 ⟨rfl, hb⟩
          go_wp2
          go_ret
          exact ⟨rfl, hb⟩
        · have HT := Lib.hid hT
          clear hT
          go_wp2_with fail
          refine (new_any w).mono ?_
          rintro e w1 ⟨rfl, hs1, b1, hz1⟩
          have b2 : Below w1.heap.size w1 (w1.alloc (.cells #[.slice none 0 0, .bool false] 63)) := (Below.refl _ _).alloc (Nat.le_refl _) _
          obtain ⟨g2, hg2⟩ : ∃ g, w.heap.size + 1 = g := ⟨_, rfl⟩
          have hg3 : w1.heap.size = g2 := by omega
          have HG := Lib.hid hg2
          have P0 : Hid (PInv w l w.heap.size g2 0 none none [] false (w1.alloc (.cells #[.slice none 0 0, .bool false] 63))) := Lib.hid ⟨hs1.below b2, ⟨none, 0, 0, [], hg3 ▸ Blk.new w1 63 #[.slice none 0 0, .bool false], rfl, Nat.le_refl _, fun a ha => (by cases ha), Row.nil _ _, fun W _ => Row.nil _ _⟩,
            fun a a' ha => (by cases ha), fun a ha => (by cases ha), by omega, fun a ha => (by cases ha), fun h => (by cases h), Nat.zero_le _, below_step b1 b2 (Nat.le_refl _), Nat.le_refl _⟩
          have hgg : w.heap.size < g2 := by omega
          clear hs1 b1 b2 hg2 hg3
          go_wp2
          rw [HG.out]
          clear hz1 HG
          go_loopw [7, 8, 9, 10, 11, 12, 13, 14] (fun i _ _ _ _ _ _ _ wr => ∃ (q : Nat) (A R : Option Addr) (b : List UInt8) (br : Bool), i = .int .i64 q ∧ q ≤ l.length ∧ PInv w l w.heap.size g2 q A R b br wr) (fun i _ _ _ _ _ _ _ _ => l.length - (RowKit.intOf i).toNat)
          case atStart => exact ⟨0, none, none, [], false, rfl, by omega, P0.out⟩
          case round =>
            obtain ⟨q, A, R, b, br, rfl, hq, hI⟩ := hrel
            obtain ⟨W, hWe⟩ : ∃ W, W = wr := ⟨_, rfl⟩
            subst hWe
            have HI := Lib.hid hI
            clear hI
            by_cases hlt : q < l.length
            · obtain ⟨p, hp⟩ : ∃ p, l[q]? = some p := ⟨_, List.getElem?_eq_getElem hlt⟩
              have hpa := HAT.out p (List.mem_of_getElem? hp)
              have hts := FrmM.tot_succ hp
              have htm := FrmM.tot_mono (l := l) (show q + 1 ≤ l.length by omega) (Nat.le_refl _)
              rw [HT.out] at htm
              have hbl := HI.out.len
              obtain ⟨b0, o0, rfl, e0, e1⟩ := row_opv HR.out hp
              have hb0 := World.block_lt_of_cell? w _ e0
              have ec0 := cell_below HI.out.bel e0
              have ec1 := cell_below HI.out.bel e1
              have HP := Lib.hid (hpa.row.below HI.out.bel)
              have HPW := Lib.hid hpa.row
              have hpl := hpa.le
              obtain ⟨km, hkm⟩ : ∃ k, p.b.length = k := ⟨_, rfl⟩
              have HKM := Lib.hid hkm
              rw [hkm] at e1 ec1 hts hpl
              obtain ⟨T1, hT1⟩ : ∃ t, FrmM.tot l q = t := ⟨_, rfl⟩
              obtain ⟨T2, hT2⟩ : ∃ t, FrmM.tot l (q + 1) = t := ⟨_, rfl⟩
              rw [hT2] at hts htm
              rw [hT1] at hts hbl
              have HT2 := Lib.hid hT2
              clear hpa hT1 hT2 hkm hp
              obtain ⟨kd, pA, pc, pb⟩ := p
              dsimp only at *
              by_cases hk : kd = 0
              · subst hk
                have ed1 := cell_below ((Below.refl W.heap.size W).alloc (Nat.le_refl _) (.cells #[] 5)) ec1
                go_wp2_with (at_builtin; refine wpl_app' _ rfl (.tmp 67) (.tmp 72) rfl W.heap.size (some ⟨W.heap.size, 0, none⟩) 0 [] 0 rfl rfl (Own.made W #[] 0 (Nat.le_refl _) (by unfold maxLen; omega) rfl) pA pc pb km rfl HKM.out (HP.out.alloc _) ?_ ?_ ?_)
                · omega
                · simp
                intro A8 c8 w8 h8 hg8 _
                have b8 : Below W.heap.size W w8 := ((Below.refl W.heap.size W).alloc (Nat.le_refl _) (.cells #[] 5)).grown hg8 (by simp) (by intro k hk; simp [Value.ownBlock] at hk; omega)
                have H8 := Lib.hid h8
                have B8 := Lib.hid b8
                clear h8 hg8 b8
                have HI8 := Lib.hid ((HI.out.below B8.out).below (w2 := w8.drew) ⟨rfl, rfl, rfl, Nat.le_refl _, fun _ _ => rfl⟩)
                have TT := Lib.hid HI8.out.two
                have PB : Hid (∀ i, TwoP w.heap.size g2 A i → w.heap.size ≤ i ∧ i < W.heap.size) := Lib.hid (by
                  intro i hi
                  have hlt := HI.out.st.lt
                  have hlt2 := HI.out.rf.lt
                  rcases hi with (hi | ⟨a, q1, q2⟩) | hi
                  · omega
                  · have := HI.out.al a q1; have := HI.out.st.blk q1; omega
                  · omega)
                have O8 : Hid (Own w8.drew W.heap.size A8 c8 pb) := Lib.hid H8.out
                have KEEP : Hid (∀ w', Chg w8.drew w' (TwoP w.heap.size g2 A) → (w'.cell? ⟨b0, o0 + q * 2 + 1, none⟩ = some (.slice pA km pc) ∧ (convert 22 9 (.slice A8 km c8)).run Try.prog w' = .ok (.string (str pb)) w' ∧ (convert 22 9 (.slice pA km pc)).run Try.prog w' = .ok (.string (str pb)) w') ∧ Row w' A8 (bs pb) ∧ Row w' pA (bs pb)) := Lib.hid (by
                  intro w' hc
                  have r8 := (O8.out.chg hc (fun a ha h => by have := (PB.out _ h).2; have := (O8.out.blk ha).1; omega)).row
                  have hbw := hc.below HI8.out.bel HI8.out.bel.size (fun i hi => (PB.out i hi).1)
                  have rp := HPW.out.below hbw
                  exact ⟨⟨cell_below hbw e1, str_len w' _ _ _ _ HKM.out r8, str_len w' _ _ _ _ HKM.out rp⟩, r8, rp⟩)
                clear H8 e0 e1 ec0 ec1 ed1
                go_wp2
                go_region_held_law (fun w' => w'.cell? ⟨b0, o0 + q * 2 + 1, none⟩ = some (.slice pA km pc) ∧ (convert 22 9 (.slice A8 km c8)).run Try.prog w' = .ok (.string (str pb)) w' ∧ (convert 22 9 (.slice pA km pc)).run Try.prog w' = .ok (.string (str pb)) w')
                  (exact (KEEP.out _ TT.out.chg).1)
                  (first
                    | (go_at_call 35
                       refine (feed_any w.heap.size A A8 km c8 b pb br _ TT.out.st HKM.out (KEEP.out _ TT.out.chg).2.1 (by omega) TT.out.al).mono ?_
                       intro e wa h
                       obtain ⟨A', rfl, h2⟩ := TT.out.feed h
                       replace TT := Lib.hid h2
                       clear h h2)
                    | (go_at_call 36
                       refine (reffeed_any g2 R pA km pc b pb br _ TT.out.rf HKM.out (KEEP.out _ TT.out.chg).2.2 (by omega)).mono ?_
                       intro e wb h
                       obtain ⟨R', rfl, h2⟩ := TT.out.rfeed h
                       replace TT := Lib.hid h2
                       clear h h2))
                obtain ⟨b', hbe⟩ : ∃ x, FrmM.fed b br pb = x := ⟨_, rfl⟩
                have PI0 := HI8.out.of_two TT.out (FrmM.fed_ok b br pb HI8.out.ok) (by rw [HT2.out]; have h1 := FrmM.fed_len b br pb; rw [HKM.out] at h1; omega)
                rw [hbe] at PI0
                have NE : Hid (∀ a, A8 = some a → a.block ≠ w.heap.size ∧ a.block ≠ g2 ∧ (∀ a', A' = some a' → a'.block ≠ a.block) ∧ (∀ a', R' = some a' → a'.block ≠ a.block) ∧ w.heap.size ≤ a.block) := Lib.hid (by
                  intro a ha
                  have h1 := O8.out.blk ha
                  have h2 := HI.out.st.lt
                  have h3 := HI.out.rf.lt
                  have h4 : w8.drew.heap.size = w8.heap.size := rfl
                  refine ⟨by omega, by omega, fun a' ha' => ?_, fun a' ha' => ?_, by omega⟩
                  · rcases TT.out.an a' ha' with ⟨a0, q1, q2⟩ | q1
                    · have := HI.out.al a0 q1; omega
                    · omega
                  · rcases TT.out.rn a' ha' with q1 | q1
                    · have := (HI.out.rf.blk q1).2; omega
                    · omega)
                replace O8 := Lib.hid (O8.out.chg TT.out.chg (fun a ha h => by have := (PB.out _ h).2; have := (O8.out.blk ha).1; omega))
                have PI := Lib.hid PI0
                have HLN := HKM
                obtain ⟨br', hbr⟩ : ∃ x, x = br := ⟨_, rfl⟩
                subst hbr
                clear PI0 hbe KEEP TT PB HI HI8 B8
                go_wp2
                go_loopw [9] (fun i wr => ∃ (j : Nat) (X : List UInt8), i = .int .i64 j ∧ j ≤ km ∧ X.length = km ∧ Own wr W.heap.size A8 c8 X ∧ PInv w l w.heap.size g2 (q + 1) A' R' b' br' wr) (fun i _ => km - (RowKit.intOf i).toNat)
                case atStart => exact ⟨0, pb, rfl, by omega, HLN.out, O8.out, PI.out⟩
                case round =>
                  obtain ⟨j, X, rfl, hj, hX, hO, hJ⟩ := hrel
                  by_cases hlt2 : j < km
                  · obtain ⟨u, hu⟩ : ∃ u, X[j]? = some u := ⟨_, List.getElem?_eq_getElem (by omega)⟩
                    obtain ⟨pg, rfl, hpg, hpgl⟩ := hO.some_ (by intro q; rw [q] at hu; simp at hu)
                    have fx := hO.cell hu
                    have fz := hO.frozen j
                    have xx := add_u8 u
                    obtain ⟨v, hv⟩ : ∃ v, u + 1 = v := ⟨_, rfl⟩
                    rw [hv] at xx
                    have HX := Lib.hid hX
                    have HO := Lib.hid hO
                    have HJ := Lib.hid hJ
                    clear hX hu hO hJ hv
                    go_wp2
                    go_roundw
                    case rel =>
                      have gg := grownBy_setCell wr pg j (.int .u8 (v.toNat : Int))
                      obtain ⟨n1, n2, n3, n4, n5⟩ := NE.out ⟨pg, 0, none⟩ rfl
                      exact ⟨j + 1, X.set j v, by go_num, by omega, by rw [List.length_set]; exact HX.out, HO.out.set_ j v, HJ.out.store gg n1 n2 n3 n4 n5⟩
                    case measure => simp [RowKit.intOf]; omega
                  · obtain rfl : j = km := by omega
                    obtain ⟨A9, n9, c9, X9, hB9, hl9, _⟩ := hJ.rf
                    have x0 := hB9.cell 0
                    simp only [List.getElem?_toArray, List.getElem?_cons_zero] at x0
                    have IN : Hid (∀ nn, Calls Try.prog 39 #[.pointer (some ⟨w.heap.size, 0, none⟩)] (wr.drewN nn) fun e w'' => e = .returned (.int .i64 (n9 : Int)) ∧ ∃ m, w'' = wr.drewN m) := Lib.hid fun nn =>
                      Calls.quiet_of_same (held_any w.heap.size A' b' _ (wr.drewN nn) (hJ.st.below ⟨rfl, rfl, rfl, Nat.le_refl _, fun _ _ => rfl⟩) n9 hl9)
                    have HJ := Lib.hid hJ
                    clear hJ hO hX hB9 hl9
                    go_wp2
                    go_quiet (with_reducible exact IN.out _)
                    have HQ := Lib.hid (HJ.out.below (w2 := wr.drewN nq) ⟨rfl, rfl, rfl, Nat.le_refl _, fun _ _ => rfl⟩)
                    clear IN x0 HJ
                    go_wp2
                    go_roundw
                    case rel => exact ⟨q + 1, A', R', b', br', by go_num, by omega, HQ.out⟩
                    case measure => simp [RowKit.intOf]; omega
              · obtain ⟨x, hx⟩ : ∃ x, FrmM.nxt b br = x := ⟨_, rfl⟩
                have hx1 := FrmM.nxt_len b br
                have hx2 := FrmM.nxt_ok b br HI.out.ok
                have hx3 := FrmM.nxt_plen b br
                have hn1 := next_any w.heap.size A b br W HI.out.st (by omega)
                rw [hx] at hx1 hx2 hx3 hn1
                have HN1 := Lib.hid hn1
                have HN2 : Hid (∀ w3, RefAt w3 g2 R b br → Calls Try.prog 38 #[.pointer (some ⟨g2, 0, none⟩)] w3 (NxtR w3 g2 R x)) := Lib.hid (by
                  intro w3 h3
                  have := refnexts_any g2 R b br w3 h3 (by omega)
                  rw [hx] at this; exact this)
                obtain ⟨xp, b', br', ev⟩ := x
                dsimp only at *
                have HX2 := Lib.hid hx2
                clear hx hx2 hn1
                go_wp2_with fail
                refine HN1.out.mono ?_
                intro e w3 h
                obtain ⟨A', B1, n1, c1, rfl, hn1, o1, ha1, t1⟩ := HI.out.two.next h
                have TT := Lib.hid t1
                have O1 := Lib.hid o1
                clear h t1 o1 HN1
                go_wp2_with fail
                refine (HN2.out _ TT.out.rf).mono ?_
                intro e w4 h
                obtain ⟨B2, n2, c2, rfl, hn2, r2, hch, t1⟩ := TT.out.rnext h
                replace TT := Lib.hid t1
                have h3 := HI.out.rf.lt
                have O8 := Lib.hid (O1.out.chg hch (fun a ha h => by have := (O1.out.blk ha).1; omega))
                have s1 := str_len w4 B1 n1 c1 xp hn1.out O8.out.row
                have s2 := str_len w4 B2 n2 c2 xp hn2.out r2
                have PI := Lib.hid (HI.out.of_two TT.out HX2.out (by rw [HT2.out]; omega))
                have NE : Hid (∀ a, B1 = some a → a.block ≠ w.heap.size ∧ a.block ≠ g2 ∧ (∀ a', A' = some a' → a'.block ≠ a.block) ∧ (∀ a', R = some a' → a'.block ≠ a.block) ∧ w.heap.size ≤ a.block) := Lib.hid (by
                  intro a ha
                  have h1 := O1.out.blk ha
                  have h2 := HI.out.st.lt
                  refine ⟨by omega, by omega, fun a' ha' => ?_, fun a' ha' => ?_, by omega⟩
                  · obtain ⟨a0, q1, q2⟩ := ha1 a' ha'
                    have := HI.out.al a0 q1; omega
                  · have := (HI.out.rf.blk ha').2; omega)
                have HLN := hn1
                have hxb : n1 ≤ 20000 := by have := hn1.out; omega
                clear ha1 h t1 hch r2 O1 HN2 TT HI h3
                go_wp2
                clear s1 s2
                go_loopw [14] (fun i wr => ∃ (j : Nat) (X : List UInt8), i = .int .i64 j ∧ j ≤ n1 ∧ X.length = n1 ∧ Own wr W.heap.size B1 c1 X ∧ PInv w l w.heap.size g2 (q + 1) A' R b' br' wr) (fun i _ => n1 - (RowKit.intOf i).toNat)
                case atStart => exact ⟨0, xp, rfl, by omega, HLN.out, O8.out, PI.out⟩
                case round =>
                  obtain ⟨j, X, rfl, hj, hX, hO, hJ⟩ := hrel
                  by_cases hlt2 : j < n1
                  · obtain ⟨u, hu⟩ : ∃ u, X[j]? = some u := ⟨_, List.getElem?_eq_getElem (by omega)⟩
                    obtain ⟨pg, rfl, hpg, hpgl⟩ := hO.some_ (by intro q; rw [q] at hu; simp at hu)
                    have fx := hO.cell hu
                    have fz := hO.frozen j
                    have xx := add_u8 u
                    obtain ⟨v, hv⟩ : ∃ v, u + 1 = v := ⟨_, rfl⟩
                    rw [hv] at xx
                    have HX := Lib.hid hX
                    have HO := Lib.hid hO
                    have HJ := Lib.hid hJ
                    clear hX hu hO hJ hv
                    go_wp2
                    go_roundw
                    case rel =>
                      have gg := grownBy_setCell wr pg j (.int .u8 (v.toNat : Int))
                      obtain ⟨n1, n2, n3, n4, n5⟩ := NE.out ⟨pg, 0, none⟩ rfl
                      exact ⟨j + 1, X.set j v, by go_num, by omega, by rw [List.length_set]; exact HX.out, HO.out.set_ j v, HJ.out.store gg n1 n2 n3 n4 n5⟩
                    case measure => simp [RowKit.intOf]; omega
                  · obtain rfl : j = n1 := by omega
                    obtain ⟨A9, n9, c9, X9, hB9, hl9, _⟩ := hJ.rf
                    have x0 := hB9.cell 0
                    simp only [List.getElem?_toArray, List.getElem?_cons_zero] at x0
                    have IN : Hid (∀ nn, Calls Try.prog 39 #[.pointer (some ⟨w.heap.size, 0, none⟩)] (wr.drewN nn) fun e w'' => e = .returned (.int .i64 (n9 : Int)) ∧ ∃ m, w'' = wr.drewN m) := Lib.hid fun nn =>
                      Calls.quiet_of_same (held_any w.heap.size A' b' _ (wr.drewN nn) (hJ.st.below ⟨rfl, rfl, rfl, Nat.le_refl _, fun _ _ => rfl⟩) n9 hl9)
                    have HJ := Lib.hid hJ
                    clear hJ hO hX hB9 hl9
                    go_wp2
                    go_quiet (with_reducible exact IN.out _)
                    have HQ := Lib.hid (HJ.out.below (w2 := wr.drewN nq) ⟨rfl, rfl, rfl, Nat.le_refl _, fun _ _ => rfl⟩)
                    clear IN x0 HJ
                    go_wp2
                    go_roundw
                    case rel => exact ⟨q + 1, A', R, b', br', by go_num, by omega, HQ.out⟩
                    case measure => simp [RowKit.intOf]; omega
            · obtain rfl : q = l.length := by omega
              go_wp2_with fail
              refine (next_nil W).mono ?_
              rintro e w3 ⟨rfl, rfl⟩
              go_wp2_with fail
              refine (feed_nil none 0 0 w3).mono ?_
              rintro e w4 ⟨rfl, rfl⟩
              go_wp2_with fail
              refine (held_nil w4).mono ?_
              rintro e w5 ⟨rfl, rfl⟩
              go_wp2_with fail
              refine (known21_any w5).mono ?_
              rintro e w6 ⟨rfl, hb⟩
              go_wp2
              go_ret
              exact ⟨rfl, below_step HI.out.bel hb (Nat.le_refl _)⟩
end Go.Proofs.Ytgcognefggbpjaa
