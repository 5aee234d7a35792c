/-
  What of a chain is wanted, by the document's word (vicinageref17.Wanted): the walk.
  Conditions: the heads, the looks and their stamps lie in memory; at most 1000 heads.
-/
import Derived.Test.YtplknfbdonenmaaWanW3
import Derived.Test.YtplknfbdonenmaaSnapW4
namespace Go.Proofs.Ytplknfbdonenmaa
open Go.RowKit
set_option linter.unusedVariables false
set_option linter.unusedSimpArgs false
theorem WanM.outs_zero (ks : List Lok) (chain : List Hed) : WanM.outs (WanM.seenB ks chain) (WanM.openB ks) chain 0 = WanM.wanted ks chain := by
  unfold WanM.outs WanM.wanted
  rw [List.drop_zero]; rfl
def WanQ (l : List Bool) (w : World) (e : Ending) (w' : World) : Prop := ∃ g, e = .returned (.slice (some ⟨g, 0, none⟩) l.length l.length) ∧ Row w' (some ⟨g, 0, none⟩) (l.map Value.bool) ∧ Below w.heap.size w w'
set_option maxRecDepth 100000 in
set_option maxHeartbeats 16000000 in
theorem refwanted_any (chain : List Hed) (A : Option Addr) (c : Nat) (A2 : Option Addr) (c2 : Nat) (ks : List Lkv) (w : World) (hr : Row w A (chain.flatMap Hed.cells)) (hl : chain.length ≤ 1000) (hL : Lks w A2 ks) :
    Calls Try.prog 7 #[.slice A chain.length c, .slice A2 ks.length c2] w (WanQ (WanM.wanted (lks ks) chain) w) := by
  have HR := Lib.hid hr
  have HLK := Lib.hid hL
  obtain ⟨N, hN⟩ : ∃ N, chain.length = N := ⟨_, rfl⟩
  have HN := Lib.hid hN
  obtain ⟨M, hM⟩ : ∃ M, ks.length = M := ⟨_, rfl⟩
  have HM := Lib.hid hM
  rw [hN] at hl
  simp only [hN, hM]
  have hml : M ≤ 1000 := by rw [← hM]; exact hL.le
  have hwl : (WanM.wanted (lks ks) chain).length = N := by rw [← WanM.st_all, WanM.st_len, hN]
  have HWL := Lib.hid hwl
  rw [← WanM.outs_zero] at HWL ⊢
  obtain ⟨sn, hsn⟩ : ∃ f, WanM.seenB (lks ks) chain = f := ⟨_, rfl⟩
  obtain ⟨op, hop⟩ : ∃ f, WanM.openB (lks ks) = f := ⟨_, rfl⟩
  have HSN := Lib.hid hsn
  have HOP := Lib.hid hop
  simp only [hsn, hop] at HWL ⊢
  clear hr hL hN hM hwl hsn hop
  go_enter Try.func7, Try.ntmps7
  have hmk := fun w' : World => run_mkb w' N (by omega)
  have U := Blk.new w 4 (bls (List.replicate N false))
  have b0 := (Below.refl w.heap.size w).alloc (Nat.le_refl _) (.cells (bls (List.replicate N false)) 4)
  go_upto_region 2 with fail
  generalize w.alloc (.cells (bls (List.replicate N false)) 4) = V0 at *
  obtain ⟨g, hg⟩ : ∃ g, w.heap.size = g := ⟨_, rfl⟩
  have HG := Lib.hid hg
  rw [hg] at U b0
  simp only [hg]
  have H0 := Lib.hid (And.intro U b0)
  have hw1 : IntKind.i64.wrap ((N : Int) - 1) = (N : Int) - 1 := by rw [IntKind.wrap_i64]; omega
  have hw1' : wrap64 ((N : Int) - 1) = (N : Int) - 1 := by unfold wrap64; omega
  clear hg U b0 hmk
  go_wp2
  clear hw1 hw1'
  go_loopw [6, 7] (fun b i wr => ∃ m : Nat, i = .int .i64 ((m : Int) - 1) ∧ m ≤ N ∧ b = .bool (WanM.beh sn op chain m) ∧ Hid (Blk wr g 4 (bls (WanM.outs sn op chain m)) ∧ Below g w wr)) (fun _ i _ => (intOf i + 1).toNat)
  case atStart => exact ⟨N, rfl, Nat.le_refl _, by rw [← HN.out, WanM.beh_end], Lib.hid ⟨by have := H0.out.1; rw [← HN.out] at this ⊢; rw [WanM.outs_end]; exact this, H0.out.2⟩⟩
  case round =>
    obtain ⟨m, rfl, hm, rfl, HI⟩ := hrel
    clear H0
    cases m with
    | zero =>
      go_wp2
      go_ret
      exact ⟨g, by rw [HWL.out]; rfl, .inr ⟨g, 0, rfl, fun j u hu => by
        rw [HI.out.1.cell, Nat.zero_add]
        unfold bls
        rw [List.getElem?_toArray]
        exact hu⟩, by rw [HG.out]; exact HI.out.2⟩
    | succ j =>
      have hjN : j < N := by omega
      obtain ⟨h, hh⟩ : ∃ h, chain[j]? = some h := ⟨_, List.getElem?_eq_getElem (by rw [HN.out]; exact hjN)⟩
      obtain ⟨b, o, hA, e1, e2, e3⟩ := row_hed (HR.out.below (by rw [HG.out]; exact HI.out.2)) hh
      have HST : Hid ((WanM.outs sn op chain (j + 1)).set j (WanM.val sn op j h (WanM.beh sn op chain (j + 1))) = WanM.outs sn op chain j) := Lib.hid (WanM.outs_step hh)
      have HBE : Hid (WanM.beh sn op chain j = (WanM.beh sn op chain (j + 1) || WanM.val sn op j h (WanM.beh sn op chain (j + 1)))) := Lib.hid (WanM.beh_step hh)
      have HLN : Hid ((WanM.outs sn op chain (j + 1)).length = N) := Lib.hid (by rw [WanM.outs_len (by rw [HN.out]; omega), HN.out])
      have hw2 : IntKind.i64.wrap ((j : Int) - 1) = (j : Int) - 1 := by rw [IntKind.wrap_i64]; omega
      have hw2' : wrap64 ((j : Int) - 1) = (j : Int) - 1 := by unfold wrap64; omega
      rw [show (((j + 1 : Nat) : Int) - 1) = (j : Int) by omega]
      obtain ⟨A0, hA0⟩ : ∃ A0, A = A0 := ⟨_, rfl⟩
      have HA0 := Lib.hid hA0
      clear hA0
      subst hA
      obtain ⟨tx, dead, gone⟩ := h
      dsimp only at e1 e2 e3
      have hbb : Below wr.heap.size wr (wr.alloc (.cells #[.int .u64 (tx : Int), .bool dead, .bool gone] 36)) := (Below.refl _ _).alloc (Nat.le_refl _) _
      have hbn := Blk.new wr 36 #[.int .u64 (tx : Int), .bool dead, .bool gone]
      have hi2 : Blk (wr.alloc (.cells #[.int .u64 (tx : Int), .bool dead, .bool gone] 36)) g 4 (bls (WanM.outs sn op chain (j + 1))) ∧ Below g w (wr.alloc (.cells #[.int .u64 (tx : Int), .bool dead, .bool gone] 36)) := ⟨HI.out.1.below hbb HI.out.1.lt, HI.out.2.trans (hbb.mono (Nat.le_of_lt HI.out.1.lt))⟩
      have hgl := HI.out.1.lt
      clear hbb HI hh
      go_upto_region 7 with fail
      generalize wr.alloc (.cells #[.int .u64 (tx : Int), .bool dead, .bool gone] 36) = V1 at *
      generalize wr.heap.size = B at *
      have H1 := Lib.hid (And.intro hbn hi2)
      clear hbn hi2 e1 e2 e3
      go_wp2
      go_loopw [9, 10] (fun s i w3 => ∃ q : Nat, i = .int .i64 (q : Int) ∧ q ≤ M ∧ s = .bool (WanM.seenB ((lks ks).take q) chain j) ∧ Hid (Blk w3 B 36 #[.int .u64 (tx : Int), .bool dead, .bool gone] ∧ Blk w3 g 4 (bls (WanM.outs sn op chain (j + 1))) ∧ Below g w w3)) (fun _ i _ => M - (intOf i).toNat)
      case atStart => exact ⟨0, rfl, Nat.zero_le _, by rw [List.take_zero]; rfl, H1⟩
      case round =>
        obtain ⟨q, rfl, hq, rfl, HJ⟩ := hrel
        clear H1
        by_cases hlt : q < M
        · obtain ⟨s, hs⟩ : ∃ s, ks[q]? = some s := ⟨_, List.getElem?_eq_getElem (by rw [HM.out]; exact hlt)⟩
          have hLK := HLK.out.below (by rw [HG.out]; exact HJ.out.2.2)
          obtain ⟨b2, o2, hA2, e1, e2, e3, e4⟩ := row_lkv hLK.row hs
          subst hA2
          have hsm := List.mem_of_getElem? hs
          have HC := refsees_any s.k s.A (some ⟨b, o, none⟩) s.c c chain wr (HR.out.below (by rw [HG.out]; exact HJ.out.2.2)) (by rw [HN.out]; omega) (hLK.st s hsm) (hLK.len s hsm)
          rw [HN.out] at HC
          have HC := Lib.hid HC
          have HSK : Hid (WanM.seenB ((lks ks).take (q + 1)) chain j = (WanM.seenB ((lks ks).take q) chain j || decide (sees s.k chain = (j : Int)))) := Lib.hid (by rw [WanM.take_snoc (x := s.k) (by unfold lks; rw [List.getElem?_map, hs]; rfl), WanM.seenB_snoc])
          generalize WanM.seenB ((lks ks).take q) chain j = p at *
          clear hLK hsm hs
          cases p with
          | true =>
            go_wp2
            go_roundw
            case rel => exact ⟨q + 1, by go_num, by omega, by rw [HSK.out]; rfl, HJ⟩
            case measure => simp [intOf]; omega
          | false =>
            obtain ⟨z, hz⟩ : ∃ z, sees s.k chain = z := ⟨_, rfl⟩
            rw [hz] at HSK HC
            clear hz
            go_wp2_with fail
            refine HC.out.mono ?_
            rintro e w4 ⟨rfl, hb⟩
            have HJ2 : Hid (Blk w4 B 36 #[.int .u64 (tx : Int), .bool dead, .bool gone] ∧ Blk w4 g 4 (bls (WanM.outs sn op chain (j + 1))) ∧ Below g w w4) := Lib.hid ⟨HJ.out.1.below hb HJ.out.1.lt, HJ.out.2.1.below hb HJ.out.2.1.lt, HJ.out.2.2.trans (hb.mono (Nat.le_of_lt HJ.out.2.1.lt))⟩
            clear hb HJ HC e1 e2 e3 e4
            by_cases hz : z = (j : Int)
            · rw [decide_eq_true hz] at HSK
              go_wp2
              go_roundw
              case rel => exact ⟨q + 1, by go_num, by omega, by rw [HSK.out]; rfl, HJ2⟩
              case measure => simp [intOf]; omega
            · rw [decide_eq_false hz] at HSK
              have hzz : (z == (j : Int)) = false := beq_eq_false_iff_ne.2 hz
              go_wp2
              go_roundw
              case rel => exact ⟨q + 1, by go_num, by omega, by rw [HSK.out]; first | rfl | (rw [hzz]; rfl), HJ2⟩
              case measure => simp [intOf]; omega
        · obtain rfl : q = M := by omega
          have htk : (lks ks).take q = lks ks := List.take_of_length_le (by unfold lks; rw [List.length_map, HM.out]; exact Nat.le_refl _)
          rw [htk, HSN.out]
          clear htk
          cases dead with
          | true =>
            have hv : WanM.val sn op j ⟨tx, true, gone⟩ (WanM.beh sn op chain (j + 1)) = false := by simp [WanM.val]
            rw [hv] at HST HBE
            have HGJ : Hid ((WanM.outs sn op chain j)[j]? = some false) := Lib.hid (by rw [← HST.out]; exact List.getElem?_set_self (by rw [HLN.out]; exact hjN))
            obtain ⟨v0, hv0⟩ : ∃ v, (WanM.outs sn op chain (j + 1))[j]? = some v := ⟨_, List.getElem?_eq_getElem (by rw [HLN.out]; exact hjN)⟩
            have cs := HJ.out.2.1.cell j
            rw [bls_get hv0] at cs
            have fs := HJ.out.2.1.frozen j
            have hk5 : Blk (wr.setCell ⟨g, j, none⟩ (.bool false)) g 4 (bls (WanM.outs sn op chain j)) ∧ Below g w (wr.setCell ⟨g, j, none⟩ (.bool false)) := ⟨by rw [← HST.out, ← bls_set]; exact HJ.out.2.1.set_ j _, below_set0 HJ.out.2.2 (Nat.le_of_lt HJ.out.2.1.lt) (Nat.le_refl _) _ _⟩
            have hx := HJ.out.1.cell 1
            simp only [List.getElem?_toArray, List.getElem?_cons_zero, List.getElem?_cons_succ] at hx
            clear HJ
            go_upto_region 13 with fail
            clear hx
            generalize wr.setCell ⟨g, j, none⟩ (.bool false) = W5 at *
            have HK5 := Lib.hid hk5
            have c5 := HK5.out.1.cell j
            rw [bls_get HGJ.out] at c5
            clear hk5 cs fs
            cases hbq : WanM.beh sn op chain (j + 1) with
            | true =>
              rw [hbq] at HBE
              go_wp2
              go_roundw
              case rel => exact ⟨j, rfl, by omega, by rw [HBE.out]; rfl, HK5⟩
              case measure => simp [intOf]
            | false =>
              rw [hbq] at HBE
              go_wp2
              go_roundw
              case rel => exact ⟨j, rfl, by omega, by rw [HBE.out]; rfl, HK5⟩
              case measure => simp [intOf]
          | false =>
            have HC := Lib.hid (refopen_any A2 c2 tx ks wr (HLK.out.below (by rw [HG.out]; exact HJ.out.2.2)))
            rw [HM.out, HOP.out] at HC
            have hx0 := HJ.out.1.cell 0
            have hx1 := HJ.out.1.cell 1
            simp only [List.getElem?_toArray, List.getElem?_cons_zero, List.getElem?_cons_succ] at hx0 hx1
            cases hoq : op tx with
            | true =>
              rw [hoq] at HC
              have hv : WanM.val sn op j ⟨tx, false, gone⟩ (WanM.beh sn op chain (j + 1)) = true := by simp [WanM.val, hoq]
              rw [hv] at HST HBE
              have HGJ : Hid ((WanM.outs sn op chain j)[j]? = some true) := Lib.hid (by rw [← HST.out]; exact List.getElem?_set_self (by rw [HLN.out]; exact hjN))
              go_wp2_with fail
              refine HC.out.mono ?_
              rintro e w4 ⟨rfl, hb⟩
              have HJ2 : Hid (Blk w4 B 36 #[.int .u64 (tx : Int), .bool false, .bool gone] ∧ Blk w4 g 4 (bls (WanM.outs sn op chain (j + 1))) ∧ Below g w w4) := Lib.hid ⟨HJ.out.1.below hb HJ.out.1.lt, HJ.out.2.1.below hb HJ.out.2.1.lt, HJ.out.2.2.trans (hb.mono (Nat.le_of_lt HJ.out.2.1.lt))⟩
              obtain ⟨v0, hv0⟩ : ∃ v, (WanM.outs sn op chain (j + 1))[j]? = some v := ⟨_, List.getElem?_eq_getElem (by rw [HLN.out]; exact hjN)⟩
              have cs := HJ2.out.2.1.cell j
              rw [bls_get hv0] at cs
              have fs := HJ2.out.2.1.frozen j
              have hk5 : Blk (w4.setCell ⟨g, j, none⟩ (.bool true)) g 4 (bls (WanM.outs sn op chain j)) ∧ Below g w (w4.setCell ⟨g, j, none⟩ (.bool true)) := ⟨by rw [← HST.out, ← bls_set]; exact HJ2.out.2.1.set_ j _, below_set0 HJ2.out.2.2 (Nat.le_of_lt HJ2.out.2.1.lt) (Nat.le_refl _) _ _⟩
              have hx2 := HJ2.out.1.cell 2
              simp only [List.getElem?_toArray, List.getElem?_cons_zero, List.getElem?_cons_succ] at hx2
              clear HJ2 HJ HC hb hx0 hx1
              go_upto_region 13 with fail
              clear hx2
              generalize w4.setCell ⟨g, j, none⟩ (.bool true) = W5 at *
              have HK5 := Lib.hid hk5
              have c5 := HK5.out.1.cell j
              rw [bls_get HGJ.out] at c5
              clear hk5 cs fs
              cases hbq : WanM.beh sn op chain (j + 1) with
              | true =>
                rw [hbq] at HBE
                go_wp2
                go_roundw
                case rel => exact ⟨j, rfl, by omega, by rw [HBE.out]; rfl, HK5⟩
                case measure => simp [intOf]
              | false =>
                rw [hbq] at HBE
                go_wp2
                go_roundw
                case rel => exact ⟨j, rfl, by omega, by rw [HBE.out]; rfl, HK5⟩
                case measure => simp [intOf]
            | false =>
              rw [hoq] at HC
              cases hsq : sn j with
              | false =>
                have hv : WanM.val sn op j ⟨tx, false, gone⟩ (WanM.beh sn op chain (j + 1)) = false := by simp [WanM.val, hoq, hsq]
                rw [hv] at HST HBE
                have HGJ : Hid ((WanM.outs sn op chain j)[j]? = some false) := Lib.hid (by rw [← HST.out]; exact List.getElem?_set_self (by rw [HLN.out]; exact hjN))
                go_wp2_with fail
                refine HC.out.mono ?_
                rintro e w4 ⟨rfl, hb⟩
                have HJ2 : Hid (Blk w4 B 36 #[.int .u64 (tx : Int), .bool false, .bool gone] ∧ Blk w4 g 4 (bls (WanM.outs sn op chain (j + 1))) ∧ Below g w w4) := Lib.hid ⟨HJ.out.1.below hb HJ.out.1.lt, HJ.out.2.1.below hb HJ.out.2.1.lt, HJ.out.2.2.trans (hb.mono (Nat.le_of_lt HJ.out.2.1.lt))⟩
                obtain ⟨v0, hv0⟩ : ∃ v, (WanM.outs sn op chain (j + 1))[j]? = some v := ⟨_, List.getElem?_eq_getElem (by rw [HLN.out]; exact hjN)⟩
                have cs := HJ2.out.2.1.cell j
                rw [bls_get hv0] at cs
                have fs := HJ2.out.2.1.frozen j
                have hk5 : Blk (w4.setCell ⟨g, j, none⟩ (.bool false)) g 4 (bls (WanM.outs sn op chain j)) ∧ Below g w (w4.setCell ⟨g, j, none⟩ (.bool false)) := ⟨by rw [← HST.out, ← bls_set]; exact HJ2.out.2.1.set_ j _, below_set0 HJ2.out.2.2 (Nat.le_of_lt HJ2.out.2.1.lt) (Nat.le_refl _) _ _⟩
                have hx2 := HJ2.out.1.cell 2
                simp only [List.getElem?_toArray, List.getElem?_cons_zero, List.getElem?_cons_succ] at hx2
                clear HJ2 HJ HC hb hx0 hx1
                go_upto_region 13 with fail
                clear hx2
                generalize w4.setCell ⟨g, j, none⟩ (.bool false) = W5 at *
                have HK5 := Lib.hid hk5
                have c5 := HK5.out.1.cell j
                rw [bls_get HGJ.out] at c5
                clear hk5 cs fs
                cases hbq : WanM.beh sn op chain (j + 1) with
                | true =>
                  rw [hbq] at HBE
                  go_wp2
                  go_roundw
                  case rel => exact ⟨j, rfl, by omega, by rw [HBE.out]; rfl, HK5⟩
                  case measure => simp [intOf]
                | false =>
                  rw [hbq] at HBE
                  go_wp2
                  go_roundw
                  case rel => exact ⟨j, rfl, by omega, by rw [HBE.out]; rfl, HK5⟩
                  case measure => simp [intOf]
              | true =>
                cases gone with
                | false =>
                  have hv : WanM.val sn op j ⟨tx, false, false⟩ (WanM.beh sn op chain (j + 1)) = true := by simp [WanM.val, hoq, hsq]
                  rw [hv] at HST HBE
                  have HGJ : Hid ((WanM.outs sn op chain j)[j]? = some true) := Lib.hid (by rw [← HST.out]; exact List.getElem?_set_self (by rw [HLN.out]; exact hjN))
                  go_wp2_with fail
                  refine HC.out.mono ?_
                  rintro e w4 ⟨rfl, hb⟩
                  have HJ2 : Hid (Blk w4 B 36 #[.int .u64 (tx : Int), .bool false, .bool false] ∧ Blk w4 g 4 (bls (WanM.outs sn op chain (j + 1))) ∧ Below g w w4) := Lib.hid ⟨HJ.out.1.below hb HJ.out.1.lt, HJ.out.2.1.below hb HJ.out.2.1.lt, HJ.out.2.2.trans (hb.mono (Nat.le_of_lt HJ.out.2.1.lt))⟩
                  obtain ⟨v0, hv0⟩ : ∃ v, (WanM.outs sn op chain (j + 1))[j]? = some v := ⟨_, List.getElem?_eq_getElem (by rw [HLN.out]; exact hjN)⟩
                  have cs := HJ2.out.2.1.cell j
                  rw [bls_get hv0] at cs
                  have fs := HJ2.out.2.1.frozen j
                  have hk5 : Blk (w4.setCell ⟨g, j, none⟩ (.bool true)) g 4 (bls (WanM.outs sn op chain j)) ∧ Below g w (w4.setCell ⟨g, j, none⟩ (.bool true)) := ⟨by rw [← HST.out, ← bls_set]; exact HJ2.out.2.1.set_ j _, below_set0 HJ2.out.2.2 (Nat.le_of_lt HJ2.out.2.1.lt) (Nat.le_refl _) _ _⟩
                  have hx2 := HJ2.out.1.cell 2
                  simp only [List.getElem?_toArray, List.getElem?_cons_zero, List.getElem?_cons_succ] at hx2
                  clear HJ2 HJ HC hb hx0 hx1
                  go_upto_region 13 with fail
                  clear hx2
                  generalize w4.setCell ⟨g, j, none⟩ (.bool true) = W5 at *
                  have HK5 := Lib.hid hk5
                  have c5 := HK5.out.1.cell j
                  rw [bls_get HGJ.out] at c5
                  clear hk5 cs fs
                  cases hbq : WanM.beh sn op chain (j + 1) with
                  | true =>
                    rw [hbq] at HBE
                    go_wp2
                    go_roundw
                    case rel => exact ⟨j, rfl, by omega, by rw [HBE.out]; rfl, HK5⟩
                    case measure => simp [intOf]
                  | false =>
                    rw [hbq] at HBE
                    go_wp2
                    go_roundw
                    case rel => exact ⟨j, rfl, by omega, by rw [HBE.out]; rfl, HK5⟩
                    case measure => simp [intOf]
                | true =>
                  have hv : WanM.val sn op j ⟨tx, false, true⟩ (WanM.beh sn op chain (j + 1)) = WanM.beh sn op chain (j + 1) := by simp [WanM.val, hoq, hsq]
                  rw [hv] at HST HBE
                  have HGJ : Hid ((WanM.outs sn op chain j)[j]? = some (WanM.beh sn op chain (j + 1))) := Lib.hid (by rw [← HST.out]; exact List.getElem?_set_self (by rw [HLN.out]; exact hjN))
                  go_wp2_with fail
                  refine HC.out.mono ?_
                  rintro e w4 ⟨rfl, hb⟩
                  have HJ2 : Hid (Blk w4 B 36 #[.int .u64 (tx : Int), .bool false, .bool true] ∧ Blk w4 g 4 (bls (WanM.outs sn op chain (j + 1))) ∧ Below g w w4) := Lib.hid ⟨HJ.out.1.below hb HJ.out.1.lt, HJ.out.2.1.below hb HJ.out.2.1.lt, HJ.out.2.2.trans (hb.mono (Nat.le_of_lt HJ.out.2.1.lt))⟩
                  obtain ⟨v0, hv0⟩ : ∃ v, (WanM.outs sn op chain (j + 1))[j]? = some v := ⟨_, List.getElem?_eq_getElem (by rw [HLN.out]; exact hjN)⟩
                  have cs := HJ2.out.2.1.cell j
                  rw [bls_get hv0] at cs
                  have fs := HJ2.out.2.1.frozen j
                  have hk5 : Blk (w4.setCell ⟨g, j, none⟩ (.bool (WanM.beh sn op chain (j + 1)))) g 4 (bls (WanM.outs sn op chain j)) ∧ Below g w (w4.setCell ⟨g, j, none⟩ (.bool (WanM.beh sn op chain (j + 1)))) := ⟨by rw [← HST.out, ← bls_set]; exact HJ2.out.2.1.set_ j _, below_set0 HJ2.out.2.2 (Nat.le_of_lt HJ2.out.2.1.lt) (Nat.le_refl _) _ _⟩
                  have hx2 := HJ2.out.1.cell 2
                  simp only [List.getElem?_toArray, List.getElem?_cons_zero, List.getElem?_cons_succ] at hx2
                  clear HJ2 HJ HC hb hx0 hx1
                  go_upto_region 13 with fail
                  clear hx2
                  generalize w4.setCell ⟨g, j, none⟩ (.bool (WanM.beh sn op chain (j + 1))) = W5 at *
                  have HK5 := Lib.hid hk5
                  have c5 := HK5.out.1.cell j
                  rw [bls_get HGJ.out] at c5
                  clear hk5 cs fs
                  cases hbq : WanM.beh sn op chain (j + 1) with
                  | true =>
                    rw [hbq] at HBE
                    go_wp2
                    go_roundw
                    case rel => exact ⟨j, rfl, by omega, by rw [HBE.out]; rfl, HK5⟩
                    case measure => simp [intOf]
                  | false =>
                    rw [hbq] at HBE
                    go_wp2
                    go_roundw
                    case rel => exact ⟨j, rfl, by omega, by rw [HBE.out]; rfl, HK5⟩
                    case measure => simp [intOf]
end Go.Proofs.Ytplknfbdonenmaa
