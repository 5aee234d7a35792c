/-
  The walk of SnapSteady.
  Conditions: the look's stamps, the heads and the stamps lie in memory as lists.
-/
import Derived.Test.YtgcognefggbpjaaSteadyW1
namespace Go.Proofs.Ytgcognefggbpjaa
open Go.RowKit Go.Sort Go.Lib
set_option linter.unusedVariables false
theorem sees_anyN (k : Lok) (A A2 : Option Addr) (n c n2 c2 : Nat) (l : List Hed) (w : World) (hn2 : l.length = n2) (hn : k.done.length = n) (hr : Row w A2 (l.flatMap Hed.cells)) (hl2 : n2 ≤ 100000)
    (hr1 : Row w A (k.done.flatMap Stp.cells)) (hl : n ≤ 100000) :
    Calls Try.prog 26 #[.agg #[.int .u64 (k.self : Int), .int .u64 (k.start : Int), .int .u64 (k.base : Int), .slice A n c], .slice A2 n2 c2] w fun e w' => e = .returned (.int .i64 (sees k l)) ∧ Below w.heap.size w w' := by
  subst hn hn2
  exact sees_any k A A2 c c2 l w hr (by omega) hr1 (by omega)
theorem filt_step {α : Type} (p : α → Bool) {l : List α} {q : Nat} {u : α} (h : l[q]? = some u) : (l.take (q + 1)).filter p = (l.take q).filter p ++ (if p u = true then [u] else []) := by
  rw [List.take_add_one, h, List.filter_append]
  simp [List.filter_cons]
theorem filt_len {α : Type} (p : α → Bool) (l : List α) (q : Nat) : ((l.take q).filter p).length ≤ q := Nat.le_trans (List.length_filter_le _ _) (by rw [List.length_take]; omega)
/-- What holds in the first loop. -/
structure SInv (k : Lok) (w0 : World) (A0 : Option Addr) (c0 : Nat) (X : Nat) (md : List Stp) (n : Nat) (A5 : Option Addr) (c5 : Nat) (w : World) : Prop where
  own : OwnS w (X + 1) 45 2 A5 n c5 (md.flatMap Stp.cells)
  x : Blk w X 38 #[.int .u64 (k.self : Int), .int .u64 (k.start : Int), .int .u64 (k.base : Int), .slice A5 n c5]
  l : Blk w w0.heap.size 38 #[.int .u64 (k.self : Int), .int .u64 (k.start : Int), .int .u64 (k.base : Int), .slice A0 k.done.length c0]
  bel : Below w0.heap.size w0 w
  size : X + 1 ≤ w.heap.size
theorem SInv.drew {k : Lok} {w0 : World} {A0 : Option Addr} {c0 X n : Nat} {md : List Stp} {A5 : Option Addr} {c5 : Nat} {w : World} (h : SInv k w0 A0 c0 X md n A5 c5 w) : SInv k w0 A0 c0 X md n A5 c5 w.drew := ⟨h.own, h.x, h.l, ⟨h.bel.os, h.bel.tape, h.bel.output, h.bel.size, h.bel.block⟩, h.size⟩
set_option maxRecDepth 100000 in
set_option maxHeartbeats 4000000 in
theorem snapSteady_walk (k : Lok) (A A2 A3 A4 : Option Addr) (c c2 c3 c4 : Nat) (l nw : List Hed) (mr : List Stp) (w : World) (hr1 : Row w A (k.done.flatMap Stp.cells)) (hl : k.done.length ≤ maxLen)
    (hr : Row w A2 (l.flatMap Hed.cells)) (hl2 : l.length ≤ maxLen) (hr3 : Row w A3 (nw.flatMap Hed.cells)) (hl3 : nw.length ≤ maxLen) (hr4 : Row w A4 (mr.flatMap Stp.cells)) (hl4 : mr.length ≤ maxLen) :
    Calls Try.prog 9 #[.agg #[.int .u64 (k.self : Int), .int .u64 (k.start : Int), .int .u64 (k.base : Int), .slice A k.done.length c], .slice A2 l.length c2, .slice A3 nw.length c3, .slice A4 mr.length c4] w fun e w' => e = .returned (.bool true) ∧ Below w.heap.size w w' := by
  unfold maxLen at hl hl2 hl3 hl4
  have hB := Blk.new w 38 #[.int .u64 (k.self : Int), .int .u64 (k.start : Int), .int .u64 (k.base : Int), .slice A k.done.length c]
  have hb0 := (Below.refl w.heap.size w).alloc (Nat.le_refl _) (.cells #[.int .u64 (k.self : Int), .int .u64 (k.start : Int), .int .u64 (k.base : Int), .slice A k.done.length c] 38)
  have HB := Lib.hid hB
  clear hB
  go_enter Try.func9, Try.ntmps9
  by_cases g1 : 60 < l.length
  · go_wp2_with (go_at_call 25; refine (known17_any _).mono ?_; rintro e w' ⟨rfl, hb⟩)
    go_ret
    exact ⟨rfl, below_step hb0 hb (by simp)⟩
  by_cases g2 : 60 < nw.length
  · go_wp2_with (go_at_call 25; refine (known17_any _).mono ?_; rintro e w' ⟨rfl, hb⟩)
    go_ret
    exact ⟨rfl, below_step hb0 hb (by simp)⟩
  by_cases g3 : 100 < k.done.length
  · go_wp2_with (go_at_call 25; refine (known17_any _).mono ?_; rintro e w' ⟨rfl, hb⟩)
    go_ret
    exact ⟨rfl, below_step hb0 hb (by simp)⟩
  by_cases g4 : 100 < mr.length
  · go_wp2_with (go_at_call 25; refine (known17_any _).mono ?_; rintro e w' ⟨rfl, hb⟩)
    go_ret
    exact ⟨rfl, below_step hb0 hb (by simp)⟩
  clear hl hl2 hl3 hl4
  go_wp2_with fail
  refine (sees_any k A A2 c c2 l _ (hr.alloc _) (by omega) (hr1.alloc _) (by omega)).mono ?_
  obtain ⟨r, hre⟩ : ∃ r, sees k l = r := ⟨_, rfl⟩
  have hrr : -1 ≤ r ∧ r ≤ 60 := by have := ix_range (seesB k) l; rw [← hre]; unfold sees; omega
  rw [hre]
  have HRE := Lib.hid hre
  clear hre
  rintro e w1 ⟨rfl, hb1⟩
  have hB1 := HB.out.below hb1 (by simp)
  have b1 := below_step hb0 hb1 (by simp)
  have q1 := hr1.below b1
  have q2 := hr.below b1
  have q3 := hr3.below b1
  have q4 := hr4.below b1
  clear hb1 HB hb0
  have d0 := hB1.cell 0
  have d1 := hB1.cell 1
  have d2 := hB1.cell 2
  have d3 := hB1.cell 3
  simp only [List.getElem?_toArray, List.getElem?_cons_zero, List.getElem?_cons_succ] at d0 d1 d2 d3
  have hgl := hB1.lt
  have HB1 := Lib.hid hB1
  clear hB1
  have hX := Blk.new w1 38 #[.int .u64 (k.self : Int), .int .u64 (k.start : Int), .int .u64 (k.base : Int), .slice A k.done.length c]
  have q1' := (q1.alloc (.cells #[.int .u64 (k.self : Int), .int .u64 (k.start : Int), .int .u64 (k.base : Int), .slice A k.done.length c] 38)).alloc (.cells #[] 45)
  have hM : Hid (OwnS ((w1.alloc (.cells #[.int .u64 (k.self : Int), .int .u64 (k.start : Int), .int .u64 (k.base : Int), .slice A k.done.length c] 38)).alloc (.cells #[] 45)) (w1.heap.size + 1) 45 2 (some ⟨w1.heap.size + 1, 0, none⟩) 0 0 []) := Lib.hid (by
    have := OwnS.made (w1.alloc (.cells #[.int .u64 (k.self : Int), .int .u64 (k.start : Int), .int .u64 (k.base : Int), .slice A k.done.length c] 38)) 45 2 (Nat.le_refl _)
    simpa using this)
  have hb2 : Below (w1.heap.size + 1) (w1.alloc (.cells #[.int .u64 (k.self : Int), .int .u64 (k.start : Int), .int .u64 (k.base : Int), .slice A k.done.length c] 38)) ((w1.alloc (.cells #[.int .u64 (k.self : Int), .int .u64 (k.start : Int), .int .u64 (k.base : Int), .slice A k.done.length c] 38)).alloc (.cells #[] 45)) := (Below.refl _ _).alloc (by simp) _
  have HX := Lib.hid hX
  have HB2 := Lib.hid hb2
  clear hX hb2
  go_wp2_with (at_builtin; refine wpl_appStp _ rfl (.tmp 39) (.tmp 41) rfl (w1.heap.size + 1) (some ⟨w1.heap.size + 1, 0, none⟩) 0 0 [] rfl hM.out A c k.done k.done.length rfl rfl q1' ?_ ?_ ?_)
  · omega
  · simp
  intro A5 c5 w3 h3 hg3
  have hb3 := HB2.out.grown hg3 (by simp) (by intro i hi; simp [Value.ownBlock] at hi; omega)
  have hB3 := HX.out.below hb3 (by omega)
  have f3 := hB3.frozen 3
  have e3 := hB3.cell 3
  simp only [List.getElem?_toArray, List.getElem?_cons_zero, List.getElem?_cons_succ] at e3
  have gg := grownBy_setCell w3 w1.heap.size 3 (.slice A5 k.done.length c5)
  have hs3 := hb3.size
  simp at hs3
  have b3 : Below w1.heap.size w1 w3 := ((Below.refl w1.heap.size w1).alloc (Nat.le_refl _) _).trans (hb3.mono (by omega))
  have S0 : Hid (SInv k w A c w1.heap.size k.done k.done.length A5 c5 (w3.setCell ⟨w1.heap.size, 3, none⟩ (.slice A5 k.done.length c5))) := Lib.hid ⟨h3.kept gg (by omega), hB3.set_ 3 _, (HB1.out.below b3 hgl).grown gg (by intro q; injection q with q; omega),
    below_set (b1.trans (b3.mono (by omega))) (by omega) (by omega) _ _, by simp; omega⟩
  have hX0 : w.heap.size < w1.heap.size := by have := b1.size; omega
  obtain ⟨X, hXe⟩ : ∃ X, w1.heap.size = X := ⟨_, rfl⟩
  rw [hXe] at S0 hs3 hX0
  have HXE := Lib.hid hXe
  have HR := Lib.hid (⟨hr, hr1, hr3, hr4⟩ : Row w A2 (l.flatMap Hed.cells) ∧ Row w A (k.done.flatMap Stp.cells) ∧ Row w A3 (nw.flatMap Hed.cells) ∧ Row w A4 (mr.flatMap Stp.cells))
  clear h3 hg3 hb3 hB3 gg HX HB2 hM q1' q1 q2 q3 q4 b3 b1 HB1 d0 d1 d2 d3 hgl hXe hr hr1 hr3 hr4
  go_wp2_with fail
  rw [HXE.out] at *
  clear HXE f3 e3
  go_wp2
  go_loopw [11] (fun i wr => ∃ (q n : Nat) (A6 : Option Addr) (c6 : Nat), i = .int .i64 q ∧ q ≤ mr.length ∧ SInv k w A c X (k.done ++ (mr.take q).filter (lateB k)) n A6 c6 wr) (fun i _ => mr.length - (RowKit.intOf i).toNat)
  case atStart => exact ⟨0, _, A5, c5, rfl, by omega, by simpa using S0.out⟩
  case round =>
    obtain ⟨q, n, A6, c6, rfl, hq, hI⟩ := hrel
    have HI := Lib.hid hI
    clear hI
    by_cases hlt : q < mr.length
    · obtain ⟨u, hu⟩ : ∃ u, mr[q]? = some u := ⟨_, List.getElem?_eq_getElem hlt⟩
      obtain ⟨b, o, rfl, e1, e2⟩ := row_stp (HR.out.2.2.2.below HI.out.bel) hu
      have d1 := HI.out.l.cell 1
      simp only [List.getElem?_toArray, List.getElem?_cons_zero, List.getElem?_cons_succ] at d1
      have HU := Lib.hid hu
      clear hu
      by_cases ht : k.start < u.at_
      · have hd : decide ((k.start : Int) < (u.at_ : Int)) = true := decide_eq_true (by omega)
        have HF : Hid ((mr.take (q + 1)).filter (lateB k) = (mr.take q).filter (lateB k) ++ [u]) := Lib.hid (by rw [filt_step _ HU.out, if_pos (by unfold lateB; exact decide_eq_true ht)])
        have hx3 := HI.out.x.cell 3
        simp only [List.getElem?_toArray, List.getElem?_cons_zero, List.getElem?_cons_succ] at hx3
        have hx3a := (HI.out.x.alloc (.cells #[.int .u64 (u.txn : Int), .int .u64 (u.at_ : Int)] 45)).cell 3
        simp only [List.getElem?_toArray, List.getElem?_cons_zero, List.getElem?_cons_succ] at hx3a
        have hxs := HI.out.size
        have hn := HI.out.own.len2
        have hnq := filt_len (lateB k) mr q
        rw [List.length_append] at hn
        have HI2 := Lib.hid HI.out.drew.drew
        clear HI
        go_wp2_with fail
        go_region
        go_wp2_with fail
        go_region_law (refine step_appStp _ rfl (.tmp 59) (.tmp 64) rfl (X + 1) A6 n c6 (k.done ++ (mr.take q).filter (lateB k)) (by first | rfl | simp [Act.eval, Act.put]) (HI2.out.own.alloc _) (some ⟨wr.heap.size, 0, none⟩) 1 [u] 1 (by first | rfl | simp [Act.eval, Act.put]) rfl (row_new _ _ _ _ _ rfl) (by omega) (by simp; omega) ?_
                       intro A7 c7 w7 h7 hg7
                       have B7 : Hid (Below (X + 1) wr.drew.drew w7) := Lib.hid ((HI2.out.own.alloc _).grown_below rfl hg7 ((Below.refl _ _).alloc HI2.out.size _) (Nat.le_refl _) (by have := HI2.out.size; simp; omega))
                       have O7 := Lib.hid h7
                       have X7 := Lib.hid (HI2.out.x.below B7.out (by omega))
                       have f7 := X7.out.frozen 3
                       have c7' := X7.out.cell 3
                       simp only [List.getElem?_toArray, List.getElem?_cons_zero, List.getElem?_cons_succ] at c7'
                       have RN : Hid (SInv k w A c X (k.done ++ (mr.take (q + 1)).filter (lateB k)) (n + 1) A7 c7 (w7.setCell ⟨X, 3, none⟩ (.slice A7 (n + 1) c7))) := Lib.hid ⟨by rw [HF.out, ← List.append_assoc]; exact O7.out.kept (grownBy_setCell w7 X 3 _) (by omega), X7.out.set_ 3 _, (HI2.out.l.below B7.out (by omega)).grown (grownBy_setCell w7 X 3 _) (by intro q; injection q with q; omega),
                         below_set (HI2.out.bel.trans (B7.out.mono (by omega))) (Nat.le_trans HI2.out.bel.size (by have := B7.out.size; simpa using this)) (by omega) _ _, by have := HI2.out.size; have := B7.out.size; simp at *; omega⟩
                       clear h7 hg7)
        all_goals go_wp2
        all_goals refine ⟨⟨q + 1, n + 1, A7, c7, by go_num, by omega, RN.out⟩, ?_⟩
        all_goals (simp [RowKit.intOf]; omega)
      · have hd : decide ((k.start : Int) < (u.at_ : Int)) = false := decide_eq_false (by omega)
        have HF : Hid ((mr.take (q + 1)).filter (lateB k) = (mr.take q).filter (lateB k)) := Lib.hid (by rw [filt_step _ HU.out, if_neg (by unfold lateB; simpa using ht), List.append_nil])
        go_wp2_with fail
        go_region
        go_wp2
        refine ⟨⟨q + 1, n, A6, c6, by go_num, by omega, ?_⟩, ?_⟩
        · rw [HF.out]; exact HI.out.drew
        · simp [RowKit.intOf]; omega
    · obtain rfl : q = mr.length := by omega
      rw [List.take_length] at HI
      have HL := Lib.hid HI.out.bel
      obtain ⟨W, hWe⟩ : ∃ W, W = wr := ⟨_, rfl⟩
      subst hWe
      obtain ⟨B2, hBe⟩ : ∃ B2, W.heap.size = B2 := ⟨_, rfl⟩
      have HBE := Lib.hid hBe
      have hB2 : X + 1 ≤ B2 := by rw [← hBe]; exact HI.out.size
      have hrw : Hid (Row W A2 (l.flatMap Hed.cells) ∧ Row W A (k.done.flatMap Stp.cells) ∧ Row W A3 (nw.flatMap Hed.cells)) := Lib.hid ⟨HR.out.1.below HL.out, HR.out.2.1.below HL.out, HR.out.2.2.1.below HL.out⟩
      clear hBe HR
      go_wp2_with fail
      go_loopw [12, 13] (fun s i wr => ∃ (q n2 : Nat) (A7 : Option Addr) (c7 : Nat), s = .slice A7 n2 c7 ∧ i = .int .i64 q ∧ q ≤ nw.length ∧ OwnS wr B2 47 3 A7 n2 c7 (((nw.take q).filter (newB k)).flatMap Hed.cells) ∧ Below B2 W wr) (fun _ i _ => nw.length - (RowKit.intOf i).toNat)
      case atStart => exact ⟨0, 0, none, 0, rfl, rfl, by omega, OwnS.nil_ _ _ _ _, by rw [← HBE.out]; exact Below.refl _ _⟩
      case round =>
        obtain ⟨q, n2, A7, c7, rfl, rfl, hq, ho, hb⟩ := hrel
        have HO := Lib.hid ho
        have HB := Lib.hid hb
        clear ho hb
        by_cases hlt : q < nw.length
        · obtain ⟨u, hu⟩ : ∃ u, nw[q]? = some u := ⟨_, List.getElem?_eq_getElem hlt⟩
          have hk3 := hrw.out.2.2
          rw [← HBE.out] at HB
          obtain ⟨b, o, rfl, e1, e2, e3⟩ := row_hed (hk3.below HB.out) hu
          have hl0 := HI.out.l.below HB.out (by rw [HBE.out]; omega)
          have d0 := hl0.cell 0
          have d2 := hl0.cell 2
          have d3 := hl0.cell 3
          simp only [List.getElem?_toArray, List.getElem?_cons_zero, List.getElem?_cons_succ] at d0 d2 d3
          rw [HBE.out] at HB
          have HU := Lib.hid hu
          clear hu hl0 hk3
          have IN : Hid (∀ nn, Calls Try.prog 28 #[.slice A k.done.length c, .int .u64 (u.txn : Int)] (wr.drewN nn) fun e w'' => e = .returned (.bool (inB k.done u.txn)) ∧ ∃ m, w'' = wr.drewN m) := Lib.hid fun nn => Calls.quiet_of_same ((in_any A c u.txn k.done (wr.drewN nn) (by have := (hrw.out.2.1.below (by rw [HBE.out]; exact HB.out) : Row wr A (k.done.flatMap Stp.cells)); exact this) (by omega)).mono fun e w' h => ⟨h.1, h.2.symm⟩)
          obtain ⟨tx, dd, gg⟩ := u
          dsimp only at e1 e2 e3 IN
          cases dd with
          | true =>
            have HF : Hid ((nw.take (q + 1)).filter (newB k) = (nw.take q).filter (newB k) ++ [⟨tx, true, gg⟩]) := Lib.hid (by rw [filt_step _ HU.out, if_pos (show newB k ⟨tx, true, gg⟩ = true from rfl)])
            go_wp2_with fail
            go_quiet (fail)
            have OD : Hid (OwnS (wr.drewN nq) B2 47 3 A7 n2 c7 (((nw.take q).filter (newB k)).flatMap Hed.cells)) := Lib.hid HO.out
            have BD : Hid (Below B2 W (wr.drewN nq)) := Lib.hid ⟨HB.out.os, HB.out.tape, HB.out.output, HB.out.size, HB.out.block⟩
            have SD : Hid (B2 ≤ (wr.drewN nq).heap.size) := Lib.hid (by have := HB.out.size; rw [HBE.out] at this; exact this)
            have hn := HO.out.len3
            have hnq := filt_len (newB k) nw q
            have rw1 := row_new (wr.drewN nq) #[.int .u64 (tx : Int), .bool true, .bool gg] 47 (0, 0) _ rfl
            go_wp2_with (at_builtin; refine wpl_appHed _ rfl (.tmp 109) (.tmp 114) rfl B2 A7 n2 c7 ((nw.take q).filter (newB k)) rfl (OD.out.alloc _) (some ⟨wr.heap.size, 0, none⟩) 1 [⟨tx, true, gg⟩] 1 rfl rfl rw1 ?_ ?_ ?_)
            · omega
            · have := SD.out; simp at *; omega
            intro A8 c8 w8 h8 hg8
            have B8 : Hid (Below B2 W w8) := Lib.hid ((OD.out.alloc (.cells #[.int .u64 (tx : Int), .bool true, .bool gg] 47)).grown_below rfl hg8 (BD.out.alloc SD.out _) (Nat.le_refl _) (by have := SD.out; simp at *; omega))
            have O8 := Lib.hid h8
            clear h8 hg8 rw1
            go_wp2
            refine ⟨⟨q + 1, n2 + 1, A8, c8, rfl, by go_num, by omega, ?_, B8.out⟩, ?_⟩
            · rw [HF.out, List.flatMap_append]; simpa using O8.out
            · simp [RowKit.intOf]; omega
          | false =>
            by_cases t1 : tx = k.self
            · have hd : ((tx : Int) != (k.self : Int)) = false := by rw [bne_eq_false_iff_eq]; omega
              have HF : Hid ((nw.take (q + 1)).filter (newB k) = (nw.take q).filter (newB k)) := Lib.hid (by rw [filt_step _ HU.out, if_neg (by unfold newB; simp [t1]), List.append_nil])
              go_wp2_with fail
              go_quiet (fail)
              go_wp2
              refine ⟨⟨q + 1, n2, A7, c7, rfl, by go_num, by omega, ?_, ⟨HB.out.os, HB.out.tape, HB.out.output, HB.out.size, HB.out.block⟩⟩, ?_⟩
              · rw [HF.out]; exact HO.out
              · simp [RowKit.intOf]; omega
            · have hd : ((tx : Int) != (k.self : Int)) = true := by rw [bne_iff_ne]; omega
              by_cases t2 : k.base ≤ tx
              · have hd2 : decide ((k.base : Int) ≤ (tx : Int)) = true := decide_eq_true (by omega)
                obtain ⟨bb, hbb⟩ : ∃ bb, inB k.done tx = bb := ⟨_, rfl⟩
                rw [hbb] at IN
                have HBB := Lib.hid hbb
                clear hbb
                cases bb with
                | true =>
                  have HF : Hid ((nw.take (q + 1)).filter (newB k) = (nw.take q).filter (newB k)) := Lib.hid (by rw [filt_step _ HU.out, if_neg (by unfold newB; simp [HBB.out]), List.append_nil])
                  go_wp2_with fail
                  go_quiet (with_reducible exact IN.out _)
                  go_wp2
                  refine ⟨⟨q + 1, n2, A7, c7, rfl, by go_num, by omega, ?_, ⟨HB.out.os, HB.out.tape, HB.out.output, HB.out.size, HB.out.block⟩⟩, ?_⟩
                  · rw [HF.out]; exact HO.out
                  · simp [RowKit.intOf]; omega
                | false =>
                  have HF : Hid ((nw.take (q + 1)).filter (newB k) = (nw.take q).filter (newB k) ++ [⟨tx, false, gg⟩]) := Lib.hid (by rw [filt_step _ HU.out, if_pos (by unfold newB; simp [HBB.out, t1, t2])])
                  go_wp2_with fail
                  go_quiet (with_reducible exact IN.out _)
                  have OD : Hid (OwnS (wr.drewN nq) B2 47 3 A7 n2 c7 (((nw.take q).filter (newB k)).flatMap Hed.cells)) := Lib.hid HO.out
                  have BD : Hid (Below B2 W (wr.drewN nq)) := Lib.hid ⟨HB.out.os, HB.out.tape, HB.out.output, HB.out.size, HB.out.block⟩
                  have SD : Hid (B2 ≤ (wr.drewN nq).heap.size) := Lib.hid (by have := HB.out.size; rw [HBE.out] at this; exact this)
                  have hn := HO.out.len3
                  have hnq := filt_len (newB k) nw q
                  have rw1 := row_new (wr.drewN nq) #[.int .u64 (tx : Int), .bool false, .bool gg] 47 (0, 0) _ rfl
                  go_wp2_with (at_builtin; refine wpl_appHed _ rfl (.tmp 109) (.tmp 114) rfl B2 A7 n2 c7 ((nw.take q).filter (newB k)) rfl (OD.out.alloc _) (some ⟨wr.heap.size, 0, none⟩) 1 [⟨tx, false, gg⟩] 1 rfl rfl rw1 ?_ ?_ ?_)
                  · omega
                  · have := SD.out; simp at *; omega
                  intro A8 c8 w8 h8 hg8
                  have B8 : Hid (Below B2 W w8) := Lib.hid ((OD.out.alloc (.cells #[.int .u64 (tx : Int), .bool false, .bool gg] 47)).grown_below rfl hg8 (BD.out.alloc SD.out _) (Nat.le_refl _) (by have := SD.out; simp at *; omega))
                  have O8 := Lib.hid h8
                  clear h8 hg8 rw1
                  go_wp2
                  refine ⟨⟨q + 1, n2 + 1, A8, c8, rfl, by go_num, by omega, ?_, B8.out⟩, ?_⟩
                  · rw [HF.out, List.flatMap_append]; simpa using O8.out
                  · simp [RowKit.intOf]; omega
              · have hd2 : decide ((k.base : Int) ≤ (tx : Int)) = false := decide_eq_false (by omega)
                have HF : Hid ((nw.take (q + 1)).filter (newB k) = (nw.take q).filter (newB k)) := Lib.hid (by rw [filt_step _ HU.out, if_neg (by unfold newB; simp [t2]), List.append_nil])
                go_wp2_with fail
                go_quiet (fail)
                go_wp2
                refine ⟨⟨q + 1, n2, A7, c7, rfl, by go_num, by omega, ?_, ⟨HB.out.os, HB.out.tape, HB.out.output, HB.out.size, HB.out.block⟩⟩, ?_⟩
                · rw [HF.out]; exact HO.out
                · simp [RowKit.intOf]; omega
        · obtain rfl : q = nw.length := by omega
          rw [List.take_length] at HO
          obtain ⟨lg, hlg⟩ : ∃ lg, nw.filter (newB k) = lg := ⟨_, rfl⟩
          rw [hlg] at HO
          have HN2 := Lib.hid HO.out.len3
          have HN := Lib.hid HI.out.own.len2
          have hn2 : n2 ≤ 60 := by rw [← HN2.out, ← hlg]; have := List.length_filter_le (newB k) nw; omega
          have hn1 : n ≤ 200 := by rw [← HN.out, List.length_append]; have := List.length_filter_le (lateB k) mr; omega
          have HST : Hid (sees (later k mr) (lg ++ l) = if r < 0 then -1 else r + n2) := Lib.hid (by rw [← hlg, steady, HRE.out, hlg, HN2.out])
          clear hlg HRE
          rw [← HBE.out] at HB
          have hwx : Hid (X + 1 ≤ W.heap.size) := Lib.hid HI.out.size
          have XW := HI.out.x.below HB.out (by have := hwx.out; omega)
          have RA6 : Hid (Row wr A6 ((later k mr).done.flatMap Stp.cells)) := Lib.hid (HI.out.own.row.below HB.out)
          have R2 : Hid (Row wr A2 (l.flatMap Hed.cells)) := Lib.hid (hrw.out.1.below HB.out)
          have B0 : Hid (Below w.heap.size w wr) := Lib.hid (HL.out.trans (HB.out.mono HL.out.size))
          have XS : X < wr.heap.size := XW.lt
          have WS : w.heap.size ≤ wr.heap.size := B0.out.size
          have HX := Lib.hid XW
          clear XW
          have x0 := HX.out.cell 0
          have x1 := HX.out.cell 1
          have x2 := HX.out.cell 2
          have x3 := HX.out.cell 3
          have y0 := (HX.out.alloc (.cells #[] 47)).cell 0
          have y1 := (HX.out.alloc (.cells #[] 47)).cell 1
          have y2 := (HX.out.alloc (.cells #[] 47)).cell 2
          have y3 := (HX.out.alloc (.cells #[] 47)).cell 3
          simp only [List.getElem?_toArray, List.getElem?_cons_zero, List.getElem?_cons_succ] at x0 x1 x2 x3 y0 y1 y2 y3
          have HM : Hid (OwnS ((wr.drew).alloc (.cells #[] 47)) wr.heap.size 47 3 (some ⟨wr.heap.size, 0, none⟩) 0 0 []) := Lib.hid (OwnS.made wr.drew 47 3 (Nat.le_refl _))
          have DB : Hid (Below wr.heap.size wr ((wr.drew).alloc (.cells #[] 47))) := Lib.hid (have hD : Below wr.heap.size wr wr.drew := ⟨rfl, rfl, rfl, Nat.le_refl _, fun _ _ => rfl⟩; hD.alloc (Nat.le_refl _) _)
          go_wp2_with fail
          go_region_law (first
            | (refine step_appHed _ rfl (.tmp 117) (.tmp 118) rfl wr.heap.size (some ⟨wr.heap.size, 0, none⟩) 0 0 [] (by first | rfl | simp [Act.eval, Act.put]) HM.out A7 c7 lg n2 (by first | rfl | simp [Act.eval, Act.put]) HN2.out (HO.out.row.below DB.out) (by omega) (by simp) ?_
               intro A9 c9 w9 h9 hg9
               have B9 : Hid (Below wr.heap.size wr w9) := Lib.hid (HM.out.grown_below rfl hg9 DB.out (Nat.le_refl _) (by simp))
               have O9 : Hid (OwnS w9 wr.heap.size 47 3 A9 n2 c9 (lg.flatMap Hed.cells)) := Lib.hid (by simpa using h9)
               have X9 := HX.out.below B9.out XS
               have z0 := X9.cell 0
               have z1 := X9.cell 1
               have z2 := X9.cell 2
               have z3 := X9.cell 3
               simp only [List.getElem?_toArray, List.getElem?_cons_zero, List.getElem?_cons_succ] at z0 z1 z2 z3
               clear h9 hg9 X9)
            | (refine step_appHed _ rfl (.tmp 119) (.tmp 120) rfl wr.heap.size A9 n2 c9 lg (by first | rfl | simp [Act.eval, Act.put]) O9.out A2 c2 l l.length (by first | rfl | simp [Act.eval, Act.put]) rfl (R2.out.below B9.out) (by omega) (by have := B9.out.size; omega) ?_
               intro A10 c10 w10 h10 hg10
               have B10 : Hid (Below wr.heap.size wr w10) := Lib.hid (O9.out.grown_below rfl hg10 B9.out (Nat.le_refl _) B9.out.size)
               have O10 : Hid (OwnS w10 wr.heap.size 47 3 A10 (n2 + l.length) c10 ((lg ++ l).flatMap Hed.cells)) := Lib.hid h10
               have X10 := HX.out.below B10.out XS
               have z0 := X10.cell 0
               have z1 := X10.cell 1
               have z2 := X10.cell 2
               have z3 := X10.cell 3
               simp only [List.getElem?_toArray, List.getElem?_cons_zero, List.getElem?_cons_succ] at z0 z1 z2 z3
               clear h10 hg10 X10)
            | (go_simp
               go_at_call 26
               refine (sees_anyN (later k mr) A6 A10 n c6 (n2 + l.length) c10 (lg ++ l) w10 (by rw [List.length_append, HN2.out]) HN.out O10.out.row (by omega) (RA6.out.below B10.out) (by omega)).mono ?_
               rw [HST.out]
               rintro e w11 ⟨rfl, b11⟩
               have B11 : Hid (Below w.heap.size w w11) := Lib.hid (below_step (B0.out.trans (B10.out.mono WS)) b11 (Nat.le_refl _))
               clear b11))
          all_goals
            by_cases hneg : r < 0
            · rw [if_pos hneg]
              go_wp2_with (go_at_call 25; refine (known17_any _).mono ?_; rintro e w' ⟨rfl, hb⟩)
              go_ret
              exact ⟨rfl, below_step B11.out hb (Nat.le_refl _)⟩
            · rw [if_neg hneg]
              go_wp2_with (go_at_call 25; refine (known17_any _).mono ?_; rintro e w' ⟨rfl, hb⟩)
              go_ret
              exact ⟨rfl, below_step B11.out hb (Nat.le_refl _)⟩
end Go.Proofs.Ytgcognefggbpjaa
