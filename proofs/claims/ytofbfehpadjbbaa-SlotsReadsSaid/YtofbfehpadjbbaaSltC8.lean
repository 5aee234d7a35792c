/-
  The document's Insert.
  Conditions: the lengths fit.
-/
import Derived.Test.YtofbfehpadjbbaaSltC5
namespace Go.Proofs.Ytofbfehpadjbbaa
open Go.RowKit Go.Sort Go.Lib
set_option linter.unusedVariables false
set_option linter.unusedSimpArgs false
def insP (gD k : Nat) (B : Option Addr) (nb cb G n2 c2 g9 : Nat) (B1 : Option Addr) (c3 : Nat) : List (Nat × Nat × Value) :=
  [(0, 48, (.pointer (some ⟨G, 3, none⟩))), (1, 49, (.slice (some ⟨gD, 0, none⟩) n2 c2)), (2, 50, (.int .i64 (k : Int))), (3, 51, (.slice (some ⟨g9, 0, none⟩) 0 0)), (4, 52, (.slice B nb cb)), (5, 53, (.slice B1 nb c3)), (6, 54, (.pointer (some ⟨gD, k, none⟩)))]
theorem row_away {w : World} {A : Option Addr} {xs : List Value} (h : Row w A xs) : ∀ g, w.heap.size + 2 ≤ g → (xs = [] ∨ ∀ a, A = some a → a.block ≠ g) := by
  intro g hg
  cases xs with
  | nil => exact .inl rfl
  | cons x l =>
    obtain ⟨b, o, e, hc⟩ := h.at_ (k := 0) (by simp)
    refine .inr fun a ha q => ?_
    rw [e] at ha
    injection ha with ha
    subst ha
    have := World.block_lt_of_cell? w _ hc
    simp only at this q
    omega
theorem row_set' {w : World} {A : Option Addr} {xs : List Value} (h : Row w A xs) (g i : Nat) (v : Value) (hg : xs = [] ∨ ∀ a, A = some a → a.block ≠ g) : Row (w.setCell ⟨g, i, none⟩ v) A xs := by
  rcases hg with hg | hg
  · rw [hg]; exact Row.nil _ _
  · exact row_set h g i v hg
set_option maxRecDepth 100000 in
set_option maxHeartbeats 8000000 in
theorem refinsert8_any (s : Slt) (A : Option Addr) (nF cA : Nat) (D : Option Addr) (nD cD : Nat) (B : Option Addr) (nb cb : Nat) (b : List UInt8) (w : World) (hs : SltAt w A nF cA D nD cD s) (hsum : SltM.sum s.data ≤ 500000) (hmF : nF ≤ 1000000) (hmD : nD ≤ 1000000)
    (hbr : Row w B (bs b)) (hbn : b.length = nb) (hbl : nb ≤ 400000) :
    Calls Try.prog 18 #[.agg #[.int .u8 (s.kind : Int), .int .u32 (s.next : Int), .slice A nF cA, .slice D nD cD], .slice B nb cb] w (InsPost s b w) := by
  go_enter Try.func18, Try.ntmps18
  go_wp2_with fail
  have hbx := (Blk.new w 26 #[.int .u8 (s.kind : Int), .int .u32 (s.next : Int), .slice A nF cA, .slice D nD cD]).alloc (.cells #[.int .u8 0, .int .u32 0, .slice none 0 0, .slice none 0 0] 26)
  have hb2 : Blk ((w.alloc (.cells #[.int .u8 (s.kind : Int), .int .u32 (s.next : Int), .slice A nF cA, .slice D nD cD] 26)).alloc (.cells #[.int .u8 0, .int .u32 0, .slice none 0 0, .slice none 0 0] 26)) (w.heap.size + 1) 26 #[.int .u8 0, .int .u32 0, .slice none 0 0, .slice none 0 0] := by
    have := Blk.new (w.alloc (.cells #[.int .u8 (s.kind : Int), .int .u32 (s.next : Int), .slice A nF cA, .slice D nD cD] 26)) 26 #[.int .u8 0, .int .u32 0, .slice none 0 0, .slice none 0 0]
    simpa using this
  have hVb : Below w.heap.size w ((w.alloc (.cells #[.int .u8 (s.kind : Int), .int .u32 (s.next : Int), .slice A nF cA, .slice D nD cD] 26)).alloc (.cells #[.int .u8 0, .int .u32 0, .slice none 0 0, .slice none 0 0] 26)) := ((Below.refl w.heap.size w).alloc (Nat.le_refl _) _).alloc (by simp) _
  have hVs : ((w.alloc (.cells #[.int .u8 (s.kind : Int), .int .u32 (s.next : Int), .slice A nF cA, .slice D nD cD] 26)).alloc (.cells #[.int .u8 0, .int .u32 0, .slice none 0 0, .slice none 0 0] 26)).heap.size = w.heap.size + 2 := by simp
  generalize (w.alloc (.cells #[.int .u8 (s.kind : Int), .int .u32 (s.next : Int), .slice A nF cA, .slice D nD cD] 26)).alloc (.cells #[.int .u8 0, .int .u32 0, .slice none 0 0, .slice none 0 0] 26) = V at *
  have hsV := hs.below hVb
  have hlF := hs.lf
  have hlD := hs.ld
  have hcF := hs.cf
  have hcD := hs.cd
  have hxs : ∀ x ∈ s.data, x.length ≤ 1000000 := fun x hx => by
    obtain ⟨j, hj, e⟩ := List.getElem_of_mem hx
    have := SltM.sum_get (l := s.data) (k := j) (x := x) (by rw [List.getElem?_eq_getElem hj, e])
    omega
  clear hs
  have hx0 := hbx
  have hr0 := hb2
  have hs0 := hsV
  have hB0 := hVb
  have hz0 : w.heap.size + 2 ≤ V.heap.size := by omega
  clear hbx hb2 hVb hsV
  refine (refmay8_any s A nF cA D nD cD V hs0 (by omega) (by omega) (by omega)).mono ?_
  rintro e w1 ⟨r, rfl, hr, b1⟩
  have hx1 := hx0.below b1 hx0.lt
  have hr1 := hr0.below b1 hr0.lt
  have hs1 := hs0.below b1
  have hB1 := below_step hB0 b1 (Nat.le_refl _)
  have hz1 : w.heap.size + 2 ≤ w1.heap.size := Nat.le_trans hz0 b1.size
  clear b1 hx0 hr0 hs0 hB0
  obtain ⟨d0, d1, d2, d3⟩ := hx1.c4
  obtain ⟨x0, x1, x2, x3⟩ := hr1.c4
  have k0 := hr1.frozen 0
  have k1 := hr1.frozen 1
  have k2 := hr1.frozen 2
  have k3 := hr1.frozen 3
  cases r with
  | false =>
    have hN : ¬ SltM.May s := fun h => by have := hr.out.2 h; cases this
    go_wp2
    refine ret_cell3 rfl (w.heap.size + 1) #[.int .u8 0, .int .u32 0, .slice none 0 0, .slice none 0 0] _ rfl (hr1.set4 _ _ _ _) Try.underlying26 rfl (by kernel_rfl) rfl ?_
    have hbz := hB1.grown (grown4 w1 (w.heap.size + 1) (.int .u8 0) (.int .u32 0) (.slice none 0 0) (.slice none 0 0)) hB1.size (fun q hq => by injection hq with hq; omega)
    exact .inl ⟨rfl, Lib.hid hN, hbz⟩
  | true =>
    have hM := hr.out.1 rfl
    clear hr
    have hFD := hM.len
    have h247 := hM.most
    go_wp2_with fail
    clear d0 d1 d2 d3 x0 x1 x2 x3 k0 k1 k2 k3
    refine (refcopy8_any s A nF cA D nD cD w1 hs1 hmF hmD hxs).mono ?_
    rintro e w3 ⟨A1, c1, D1, c2, rfl, hN, b3⟩
    obtain ⟨ps, hps, hO⟩ := Ow.start w1 hB1 hr1 hN b3 hz1
    obtain rfl : nD = nF := by omega
    have hbr3 := ((hbr.below hB1).below b3).alloc (.cells #[.int .u8 (s.kind : Int), .int .u32 (s.next : Int), .slice A1 nD c1, .slice D1 nD c2] 26)
    clear hN b3 hB1 hr1 hx1 hs1
    obtain ⟨y0, y1, y2, y3⟩ := hO.hg.c4
    have HIDX : Hid (∃ ix, SltM.idx s.full = ix ∧ ix ≤ nD ∧ (∀ j, j < ix → s.full[j]? = some true) ∧ (ix < nD → s.full[ix]? = some false)) := Lib.hid ⟨_, rfl, by rw [← hlF]; exact SltM.idx_le _, fun j hj => SltM.idx_true hj, fun h => SltM.idx_false (by rw [hlF]; exact h)⟩
    obtain ⟨ix, hIX, hix, hT, hF⟩ := HIDX.out
    have HT := Lib.hid hT
    have HF := Lib.hid hF
    have HM := Lib.hid hM
    have HPS := Lib.hid hps
    have HSX := Lib.hid hxs
    clear hT hF hM hps hxs HIDX
    obtain ⟨t, hTt⟩ : ∃ t, t = SltM.put s ix b := ⟨_, rfl⟩
    have hEQ : SltM.put s (SltM.idx s.full) b = t := by rw [hIX]; exact hTt.symm
    have hTK : t.kind = s.kind := by rw [hTt]; unfold SltM.put; split <;> rfl
    have hTN : t.next = s.next := by rw [hTt]; unfold SltM.put; split <;> rfl
    have hTS : SltM.sum t.data ≤ 1000000 := by
      rw [hTt]; unfold SltM.put
      split
      · show SltM.sum (s.data ++ [b]) ≤ _
        rw [SltM.sum_append, SltM.sum_cons, SltM.sum_nil]; omega
      · rename_i h
        obtain ⟨x, hx⟩ : ∃ x, s.data[ix]? = some x := ⟨_, List.getElem?_eq_getElem (by omega)⟩
        have := SltM.sum_set hx b
        show SltM.sum (s.data.set ix b) ≤ _
        omega
    have HTF : Hid (if ix = nD then t.full = s.full ++ [true] ∧ t.data = s.data ++ [b] else t.full = s.full.set ix true ∧ t.data = s.data.set ix b) := Lib.hid (by
      rw [hTt]; unfold SltM.put
      rw [hlF]
      split <;> exact ⟨rfl, rfl⟩)
    have hBA' := row_away hbr
    go_wp2_with fail
    generalize w3.alloc (.cells #[.int .u8 (s.kind : Int), .int .u32 (s.next : Int), .slice A1 nD c1, .slice D1 nD c2] 26) = VX at *
    generalize w3.heap.size = G at *
    obtain ⟨gr, hgr⟩ : ∃ gr, w.heap.size + 1 = gr := ⟨_, rfl⟩
    rw [hgr] at hO ⊢
    go_loop [8] (fun i => ∃ q : Nat, i = .int .i64 (q : Int) ∧ q ≤ ix) (fun i => nD - (RowKit.intOf i).toNat)
    case atStart => exact ⟨0, rfl, by omega⟩
    case round =>
      obtain ⟨k, rfl, hq⟩ := hrel
      have hcF' := hO.hp.fu.le.1
      by_cases hlt : k < ix
      · have hqD : k < nD := by omega
        obtain ⟨gA, rfl, hgA, hgA2⟩ := hO.hp.fu.some_ (by omega)
        obtain ⟨g', o', e', cb'⟩ := row_any hO.hp.fu.row (k := k) (u := .bool true) (by rw [List.getElem?_map, HT.out k hlt]; rfl)
        cases e'
        rw [Nat.zero_add] at cb'
        go_wp2
        go_round
        case rel => exact ⟨k + 1, by go_num, by omega⟩
        case measure => simp [RowKit.intOf]; omega
      · obtain rfl : k = ix := by omega
        by_cases hqD : k < nD
        · obtain ⟨gA, rfl, hgA, hgA2⟩ := hO.hp.fu.some_ (by omega)
          obtain ⟨gD, rfl, hgD, hgD2⟩ := hO.hp.li.some_ (by omega)
          obtain ⟨g', o', e', cb'⟩ := row_any hO.hp.fu.row (k := k) (u := .bool false) (by rw [List.getElem?_map, HF.out hqD]; rfl)
          cases e'
          rw [Nat.zero_add] at cb'
          have hne : ((k : Int) == (nD : Int)) = false := beq_eq_false_iff_ne.2 (by omega)
          have htf := HTF.out
          rw [if_neg (by omega)] at htf
          go_upto_region 10 with fail
          clear cb' y0 y1 y2 y3 hne
          have hTF : s.full.set k true = t.full := htf.1.symm
          have hTD : (ps.map Sl.l).set k b = t.data := by rw [HPS.out]; exact htf.2.symm
          have hBA := hBA' gA hgA
          obtain ⟨fulls, hfs⟩ : ∃ l, s.full = l := ⟨_, rfl⟩
          rw [hfs] at hO hTF
          clear htf HTF HF HT HPS hfs
          obtain ⟨y0, y1, y2, y3⟩ := hO.hg.c4
          have hcc1 := hO.hp.fu.le
          have hcc2 := hO.hp.li.le
          have hc63 := OwnLs.cap hO.hp.li
          unfold maxLen at hc63 hcc1
          obtain ⟨vA, t0⟩ := hO.hp.fu.cell (k := k) (by omega)
          have t1 := hO.hp.fu.frozen k
          have hAG : G ≠ gA := fun q => hO.hp.gA _ rfl q.symm
          go_upto_region 11 with fail
          clear y0 y1 y2 y3 t0 t1
          have hO := hO.setF k true
          have hbr3 := row_set' hbr3 gA k (.bool true) hBA
          generalize VX.setCell ⟨gA, k, none⟩ (.bool true) = V3 at *
          obtain ⟨full, hfull⟩ : ∃ l, fulls.set k true = l := ⟨_, rfl⟩
          rw [hfull] at hO hTF
          have hbr' := hbr3
          refine wp_named fun a0 ha0 => ?_
          have z1 : a0.tmps.getD 1 undef = .slice B nb cb := by rw [ha0.out]; rfl
          have z7 : a0.tmps.getD 7 undef = .pointer (some ⟨G, 0, none⟩) := by rw [ha0.out]; rfl
          have z8 : a0.tmps.getD 8 undef = .int .i64 (k : Int) := by rw [ha0.out]; rfl
          have hsz0 : a0.tmps.size = 61 := by rw [ha0.out]; rfl
          refine wp_region_inv _ (by kernel_rfl) (fun L a w1 => ∃ g9 B1 c3, PIF a0 [48, 49, 50, 51, 52, 53, 54] (insP gD k B nb cb G nD c2 g9 B1 c3) L a ∧ CbW V3 gD k b nb g9 B1 c3 (L 3) (L 5) (L 7) (fun w1 => Ow w s gr G (some ⟨gA, 0, none⟩) nD c1 (some ⟨gD, 0, none⟩) nD c2 full (ps.set k ⟨B1, nb, c3, b⟩) w1) w1 ∧ (L 7 = true → L 1 = true)) (by kernel_rfl) ?_ ?_ ?_
          · exact ⟨0, none, 0, PIF.start _ _ _, ⟨nofun, nofun, fun _ => ⟨rfl, rfl, rfl, Nat.le_refl _, fun _ _ => rfl⟩, nofun, nofun, Nat.le_refl _, nofun⟩, nofun⟩
          · rintro L a w4 ⟨g9, B1, c3, hp, hw, _⟩ hL
            have hX := hw.fin (hL 7 (by simp))
            rw [hp.eq, ha0.out]
            simp only [putAll]
            clear hp hw hL ha0 z1 z7 z8 hsz0
            obtain ⟨y0, y1, y2, y3⟩ := hX.hg.c4
            go_wp2_with fail
            clear y0 y1 y2 y3
            have hpd : (ps.set k ⟨B1, nb, c3, b⟩).map Sl.l = t.data := by rw [List.map_set]; exact hTD
            obtain ⟨ps2, hps2⟩ : ∃ l, ps.set k ⟨B1, nb, c3, b⟩ = l := ⟨_, rfl⟩
            rw [hps2] at hpd hX
            rw [hTF] at hX
            have hat := OwnP.at_ (s := t) hX.hp hpd
            have hmay := refmay8_any t (some ⟨gA, 0, none⟩) nD c1 (some ⟨gD, 0, none⟩) nD c2 w4 hat hTS (by omega) (by omega)
            rw [hTK, hTN] at hmay
            refine hmay.mono ?_
            rintro e w5 ⟨r3, rfl, hr3, b5⟩
            have hX5 := hX.call b5
            clear hX b5 hmay hat
            obtain ⟨d0, d1, d2, d3⟩ := hX5.hg.c4
            obtain ⟨x0, x1, x2, x3⟩ := hX5.hr.c4
            have k0 := hX5.hr.frozen 0
            have k1 := hX5.hr.frozen 1
            have k2 := hX5.hr.frozen 2
            have k3 := hX5.hr.frozen 3
            cases r3 with
            | false =>
              have hN3 : ¬ SltM.May t := fun h => by have := hr3.out.2 h; cases this
              go_wp2
              refine ret_cell3 rfl gr #[.int .u8 0, .int .u32 0, .slice none 0 0, .slice none 0 0] _ rfl (hX5.hr.set4 _ _ _ _) Try.underlying26 rfl (by kernel_rfl) rfl ?_
              exact .inr ⟨HM, .inr ⟨rfl, Lib.hid (by rw [hEQ]; exact hN3), (hX5.fin t rfl hpd _ _ _ _).2⟩⟩
            | true =>
              have hM3 := hr3.out.1 rfl
              go_wp2
              refine ret_cell3 rfl gr #[.int .u8 (s.kind : Int), .int .u32 (s.next : Int), .slice (some ⟨gA, 0, none⟩) nD c1, .slice (some ⟨gD, 0, none⟩) nD c2] _ rfl (hX5.hr.set4 _ _ _ _) Try.underlying26 rfl (by kernel_rfl) rfl ?_
              have hf := hX5.fin t rfl hpd (.int .u8 (s.kind : Int)) (.int .u32 (s.next : Int)) (.slice (some ⟨gA, 0, none⟩) nD c1) (.slice (some ⟨gD, 0, none⟩) nD c2)
              refine .inr ⟨HM, .inl ⟨some ⟨gA, 0, none⟩, nD, c1, some ⟨gD, 0, none⟩, nD, c2, ?_, by rw [hEQ]; exact hf.1, Lib.hid (by rw [hEQ]; exact hM3), hf.2⟩⟩
              rw [hEQ, hIX, hTK, hTN]
              rfl
          · refine ⟨?_, ?_, ?_, ?_, ?_, ?_, ?_, ?_, trivial⟩
            · intro L a w1 hI hi hd
              obtain ⟨g9, B1, c3, hp, hw⟩ := hI
              have t7 := hp.at_ 7 _ rfl z7
              have t7' := t7
              rw [Array.getD_eq_getD_getElem?] at t7'
              exact rstep_valW (wanted_none rfl _) (.pointer (some ⟨G, 3, none⟩)) w1 (by go_simp) ⟨g9, B1, c3, (hp.put 0 48 (.pointer (some ⟨G, 3, none⟩)) (by simp [insP]) (by simp [insP]) rfl (by rw [hsz0]; decide)), hw⟩
            · intro L a w1 hI hi hd
              obtain ⟨g9, B1, c3, hp, hw⟩ := hI
              simp [Region.binds] at hd
              have e0 := hp.pu (0, 48, (.pointer (some ⟨G, 3, none⟩))) (by simp [insP]) (by simp [hd])
              simp only at e0
              have f0 : a.tmps[48]?.getD undef = (.pointer (some ⟨G, 3, none⟩)) := by rw [← Array.getD_eq_getD_getElem?]; exact e0
              have hi : L 1 = false := hi
              have h7 : L 7 = false := hd7 hw.2 hi
              obtain ⟨y0, y1, y2, y3⟩ := (hO.call (hw.1.b0 h7)).hg.c4
              exact rstep_valW (wanted_none rfl _) (.slice (some ⟨gD, 0, none⟩) nD c2) w1 (by go_simp) ⟨g9, B1, c3, (hp.put 1 49 (.slice (some ⟨gD, 0, none⟩) nD c2) (by simp [insP]) (by simp [insP]) rfl (by rw [hsz0]; decide)), hw.1, fun _ => upd_eq _ _⟩
            · intro L a w1 hI hi hd
              obtain ⟨g9, B1, c3, hp, hw⟩ := hI
              have t8 := hp.at_ 8 _ rfl z8
              have t8' := t8
              rw [Array.getD_eq_getD_getElem?] at t8'
              exact rstep_valW (wanted_none rfl _) (.int .i64 (k : Int)) w1 (by go_simp) ⟨g9, B1, c3, (hp.put 2 50 (.int .i64 (k : Int)) (by simp [insP]) (by simp [insP]) rfl (by rw [hsz0]; decide)), hw⟩
            · intro L a w1 hI hi hd
              obtain ⟨g9, B1, c3, hp, hw⟩ := hI
              have hi : L 3 = false := hi
              refine rstep_valW (wanted_none rfl _) (.slice (some ⟨w1.heap.size, 0, none⟩) 0 0) (w1.alloc (.cells #[] 5)) (by go_simp) ⟨w1.heap.size, B1, c3, PIF.put (PIF.swap (p2 := (insP gD k B nb cb G nD c2 w1.heap.size B1 c3)) hp (by intro q hq hL; simp only [insP, List.mem_cons, List.not_mem_nil, or_false] at hq; rcases hq with rfl | rfl | rfl | rfl | rfl | rfl | rfl <;> first | (simp [insP]; done) | (exfalso; simp_all))) 3 51 (.slice (some ⟨w1.heap.size, 0, none⟩) 0 0) (by simp [insP]) (by simp [insP]) rfl (by rw [hsz0]; decide), ?_, hw.2⟩
              exact hw.1.at3 hi
            · intro L a w1 hI hi hd
              obtain ⟨g9, B1, c3, hp, hw⟩ := hI
              have t1 := hp.at_ 1 _ rfl z1
              have t1' := t1
              rw [Array.getD_eq_getD_getElem?] at t1'
              exact rstep_valW (wanted_none rfl _) (.slice B nb cb) w1 (by go_simp) ⟨g9, B1, c3, (hp.put 4 52 (.slice B nb cb) (by simp [insP]) (by simp [insP]) rfl (by rw [hsz0]; decide)), hw⟩
            · intro L a w1 hI hi hd
              obtain ⟨g9, B1, c3, hp, hw⟩ := hI
              simp [Region.binds] at hd
              have e3 := hp.pu (3, 51, (.slice (some ⟨g9, 0, none⟩) 0 0)) (by simp [insP]) (by simp [hd])
              simp only at e3
              have f3 : a.tmps[51]?.getD undef = (.slice (some ⟨g9, 0, none⟩) 0 0) := by rw [← Array.getD_eq_getD_getElem?]; exact e3
              have e4 := hp.pu (4, 52, (.slice B nb cb)) (by simp [insP]) (by simp [hd])
              simp only at e4
              have f4 : a.tmps[52]?.getD undef = (.slice B nb cb) := by rw [← Array.getD_eq_getD_getElem?]; exact e4
              have hi : L 5 = false := hi
              have hO' := hw.1.f3 hd.1 hi
              have hrb := hbr'.below (hw.1.b0 (hw.1.no7 hi))
              obtain ⟨i0, hi0, hz0, hz1, hz2⟩ := info_parts info_u8
              refine rstep_wp rfl (wp_append_row w1 (.tmp 51) (.tmp 52) _ rfl V3.heap.size 5 i0 _ 1 1 Try.underlying27 hi0 hz0 hz1 hz2 rfl (by omega) (.slice (some ⟨g9, 0, none⟩) 0 0) 0 [] e3 hO' B nb cb (bs b) e4 (by rw [bs_length]; omega) hrb (bs_one b) (by unfold maxLen; omega) (by omega) hw.1.gV fun B' c' w2 h1 h2 h3 => ?_)
              simp only [Nat.zero_add, List.nil_append] at h1 h3 ⊢
              refine ⟨g9, B', c', PIF.put (PIF.swap (p2 := (insP gD k B nb cb G nD c2 g9 B' c')) hp (by intro q hq hL; simp only [insP, List.mem_cons, List.not_mem_nil, or_false] at hq; rcases hq with rfl | rfl | rfl | rfl | rfl | rfl | rfl <;> first | (simp [insP]; done) | (exfalso; simp_all))) 5 53 (.slice B' nb c') (by simp [insP]) (by simp [insP]) rfl (by rw [hsz0]; decide), ?_, hw.2⟩
              exact hw.1.at5 hi hd.1 h1 h2
            · intro L a w1 hI hi hd
              obtain ⟨g9, B1, c3, hp, hw⟩ := hI
              simp [Region.binds] at hd
              have e1 := hp.pu (1, 49, (.slice (some ⟨gD, 0, none⟩) nD c2)) (by simp [insP]) (by simp [hd])
              simp only at e1
              have f1 : a.tmps[49]?.getD undef = (.slice (some ⟨gD, 0, none⟩) nD c2) := by rw [← Array.getD_eq_getD_getElem?]; exact e1
              have e2 := hp.pu (2, 50, (.int .i64 (k : Int))) (by simp [insP]) (by simp [hd])
              simp only at e2
              have f2 : a.tmps[50]?.getD undef = (.int .i64 (k : Int)) := by rw [← Array.getD_eq_getD_getElem?]; exact e2
              have hnle : ((((nD : Nat) : Int) ≤ (k : Int))) = False := by simp; omega
              push_cast at hnle
              exact rstep_valW (wanted_none rfl _) (.pointer (some ⟨gD, k, none⟩)) w1 (by go_simp) ⟨g9, B1, c3, (hp.put 6 54 (.pointer (some ⟨gD, k, none⟩)) (by simp [insP]) (by simp [insP]) rfl (by rw [hsz0]; decide)), hw⟩
            · intro L a w1 hI hi hd
              obtain ⟨g9, B1, c3, hp, hw⟩ := hI
              simp [Region.binds] at hd
              have e5 := hp.pu (5, 53, (.slice B1 nb c3)) (by simp [insP]) (by simp [hd])
              simp only at e5
              have f5 : a.tmps[53]?.getD undef = (.slice B1 nb c3) := by rw [← Array.getD_eq_getD_getElem?]; exact e5
              have e6 := hp.pu (6, 54, (.pointer (some ⟨gD, k, none⟩))) (by simp [insP]) (by simp [hd])
              simp only at e6
              have f6 : a.tmps[54]?.getD undef = (.pointer (some ⟨gD, k, none⟩)) := by rw [← Array.getD_eq_getD_getElem?]; exact e6
              have hi : L 7 = false := hi
              have q5 : L 5 = true := by simp [hd]
              have q1 : L 1 = true := by simp [hd]
              have hO' := hO.call (hw.1.b0 hi)
              obtain ⟨vD, y2⟩ := hO'.hp.li.cell (k := k) (by omega)
              have y3 := hO'.hp.li.frozen k
              refine rstep_skip rfl (w1.setCell ⟨gD, k, none⟩ (.slice B1 nb c3)) (by go_simp) ⟨g9, B1, c3, (hp.skip 7 undef (by simp [insP])), ?_, fun _ => q1⟩
              exact hw.1.at7 hi q5 (hO.put (hw.1.b0 hi) hbn (hw.1.f5 q5 hi)) (grownBy_setCell w1 gD k (.slice B1 nb c3)).size
        · obtain rfl : nD = k := by omega
          have htf := HTF.out
          rw [if_pos rfl] at htf
          have egr := Lib.hid hO.gr'
          have eG := hO.gG
          have hal : Below VX.heap.size VX (VX.alloc (.cells #[.bool true] 4)) := (Below.refl _ _).alloc (Nat.le_refl _) _
          have hbx0 := hbr3.alloc (.cells #[.bool true] 4)
          have hOl := hO.call hal
          go_wp2_with (at_builtin; refine wpl_owF _ rfl (.tmp 35) (.tmp 36) rfl rfl hOl (some ⟨VX.heap.size, 0, none⟩) 1 true rfl (row_new VX _ _ _ _ rfl) (by omega) ?_)
          intro A2 c3 W1 hP1 hr1 hg1 hb1
          obtain ⟨v0, v1, v2, v3⟩ := hg1.c4
          have j2 := hg1.frozen 2
          have hO1 := Ow.stF (s := s) hP1 hr1 hg1 hb1 egr.out eG
          have hOl2 := hO1.call ((Below.refl _ _).alloc (Nat.le_refl _) (.cells #[.slice none 0 0] 27))
          obtain ⟨v0', v1', v2', v3'⟩ := hO1.hg.c4
          obtain ⟨W2, hW2⟩ : ∃ W2, W1.setCell ⟨G, 2, none⟩ (.slice A2 (nD + 1) c3) = W2 := ⟨_, rfl⟩
          rw [hW2] at hOl2 v0' v1' v2' v3'
          clear hO1
          go_wp2_with (at_builtin; refine wpl_owD _ rfl (.tmp 40) (.tmp 41) rfl rfl hOl2 (some ⟨W2.heap.size, 0, none⟩) 1 rfl (row_new W2 _ _ _ _ rfl) (by omega) ?_)
          intro D2 c4 W3 hP3 hr3 hg3 hb3
          clear v0 v1 v2 v3 v0' v1' v2' v3' j2 hOl2 hP1 hr1 hg1 hb1 hOl hal y0 y1 y2 y3
          obtain ⟨v0, v1, v2, v3⟩ := hg3.c4
          have j3 := hg3.frozen 3
          have hbx2 := hbr3
          have hO3 := Ow.stD (s := s) hP3 hr3 hg3 hb3 egr.out eG
          have hbr4 : Row (W3.setCell ⟨G, 3, none⟩ (.slice D2 (nD + 1) c4)) B (bs b) := (hbr.below (below_join hO3.bel (Below.refl _ _)))
          go_upto_region 10 with fail
          clear v0 v1 v2 v3 j3 hbr3 hg3 hr3 hP3 hb3 hO hbx2 hbx0 hW2
          generalize W3.setCell ⟨G, 3, none⟩ (.slice D2 (nD + 1) c4) = VX at *
          have hO := hO3
          have hbr3 := hbr4
          clear hO3 hbr4
          obtain ⟨gA, rfl, hgA, hgA2⟩ := hO.hp.fu.some_ (by omega)
          obtain ⟨gD, rfl, hgD, hgD2⟩ := hO.hp.li.some_ (by omega)
          have hTF : (s.full ++ [true]).set nD true = t.full := by
            rw [htf.1, ← hlF, List.set_append_right _ _ (Nat.le_refl _), Nat.sub_self]; rfl
          have hTD : ((ps ++ [(⟨none, 0, 0, []⟩ : Sl)]).map Sl.l).set nD b = t.data := by
            rw [htf.2, List.map_append, HPS.out, ← hlD, List.set_append_right _ _ (Nat.le_refl _), Nat.sub_self]; rfl
          have hBA := hBA' gA hgA
          obtain ⟨fulls, hfs⟩ : ∃ l, s.full ++ [true] = l := ⟨_, rfl⟩
          rw [hfs] at hO hTF
          obtain ⟨ps0, hps0⟩ : ∃ l, ps ++ [(⟨none, 0, 0, []⟩ : Sl)] = l := ⟨_, rfl⟩
          rw [hps0] at hO hTD
          clear htf HTF HF HT HPS hfs hps0
          obtain ⟨y0, y1, y2, y3⟩ := hO.hg.c4
          have hcc1 := hO.hp.fu.le
          have hcc2 := hO.hp.li.le
          have hc63 := OwnLs.cap hO.hp.li
          unfold maxLen at hc63 hcc1
          obtain ⟨vA, t0⟩ := hO.hp.fu.cell (k := nD) (by omega)
          have t1 := hO.hp.fu.frozen nD
          have hAG : G ≠ gA := fun q => hO.hp.gA _ rfl q.symm
          go_upto_region 11 with fail
          clear y0 y1 y2 y3 t0 t1
          have hO := hO.setF nD true
          have hbr3 := row_set' hbr3 gA nD (.bool true) hBA
          generalize VX.setCell ⟨gA, nD, none⟩ (.bool true) = V3 at *
          obtain ⟨full, hfull⟩ : ∃ l, fulls.set nD true = l := ⟨_, rfl⟩
          rw [hfull] at hO hTF
          have hbr' := hbr3
          refine wp_named fun a0 ha0 => ?_
          have z1 : a0.tmps.getD 1 undef = .slice B nb cb := by rw [ha0.out]; rfl
          have z7 : a0.tmps.getD 7 undef = .pointer (some ⟨G, 0, none⟩) := by rw [ha0.out]; rfl
          have z8 : a0.tmps.getD 8 undef = .int .i64 (nD : Int) := by rw [ha0.out]; rfl
          have hsz0 : a0.tmps.size = 61 := by rw [ha0.out]; rfl
          refine wp_region_inv _ (by kernel_rfl) (fun L a w1 => ∃ g9 B1 c9, PIF a0 [48, 49, 50, 51, 52, 53, 54] (insP gD nD B nb cb G (nD + 1) c4 g9 B1 c9) L a ∧ CbW V3 gD nD b nb g9 B1 c9 (L 3) (L 5) (L 7) (fun w1 => Ow w s gr G (some ⟨gA, 0, none⟩) (nD + 1) c3 (some ⟨gD, 0, none⟩) (nD + 1) c4 full (ps0.set nD ⟨B1, nb, c9, b⟩) w1) w1 ∧ (L 7 = true → L 1 = true)) (by kernel_rfl) ?_ ?_ ?_
          · exact ⟨0, none, 0, PIF.start _ _ _, ⟨nofun, nofun, fun _ => ⟨rfl, rfl, rfl, Nat.le_refl _, fun _ _ => rfl⟩, nofun, nofun, Nat.le_refl _, nofun⟩, nofun⟩
          · rintro L a w4 ⟨g9, B1, c9, hp, hw, _⟩ hL
            have hX := hw.fin (hL 7 (by simp))
            rw [hp.eq, ha0.out]
            simp only [putAll]
            clear hp hw hL ha0 z1 z7 z8 hsz0
            obtain ⟨y0, y1, y2, y3⟩ := hX.hg.c4
            go_wp2_with fail
            clear y0 y1 y2 y3
            have hpd : (ps0.set nD ⟨B1, nb, c9, b⟩).map Sl.l = t.data := by rw [List.map_set]; exact hTD
            obtain ⟨ps2, hps2⟩ : ∃ l, ps0.set nD ⟨B1, nb, c9, b⟩ = l := ⟨_, rfl⟩
            rw [hps2] at hpd hX
            rw [hTF] at hX
            have hat := OwnP.at_ (s := t) hX.hp hpd
            have hmay := refmay8_any t (some ⟨gA, 0, none⟩) (nD + 1) c3 (some ⟨gD, 0, none⟩) (nD + 1) c4 w4 hat hTS (by omega) (by omega)
            rw [hTK, hTN] at hmay
            refine hmay.mono ?_
            rintro e w5 ⟨r3, rfl, hr3, b5⟩
            have hX5 := hX.call b5
            clear hX b5 hmay hat
            obtain ⟨d0, d1, d2, d3⟩ := hX5.hg.c4
            obtain ⟨x0, x1, x2, x3⟩ := hX5.hr.c4
            have k0 := hX5.hr.frozen 0
            have k1 := hX5.hr.frozen 1
            have k2 := hX5.hr.frozen 2
            have k3 := hX5.hr.frozen 3
            cases r3 with
            | false =>
              have hN3 : ¬ SltM.May t := fun h => by have := hr3.out.2 h; cases this
              go_wp2
              refine ret_cell3 rfl gr #[.int .u8 0, .int .u32 0, .slice none 0 0, .slice none 0 0] _ rfl (hX5.hr.set4 _ _ _ _) Try.underlying26 rfl (by kernel_rfl) rfl ?_
              exact .inr ⟨HM, .inr ⟨rfl, Lib.hid (by rw [hEQ]; exact hN3), (hX5.fin t rfl hpd _ _ _ _).2⟩⟩
            | true =>
              have hM3 := hr3.out.1 rfl
              go_wp2
              refine ret_cell3 rfl gr #[.int .u8 (s.kind : Int), .int .u32 (s.next : Int), .slice (some ⟨gA, 0, none⟩) (nD + 1) c3, .slice (some ⟨gD, 0, none⟩) (nD + 1) c4] _ rfl (hX5.hr.set4 _ _ _ _) Try.underlying26 rfl (by kernel_rfl) rfl ?_
              have hf := hX5.fin t rfl hpd (.int .u8 (s.kind : Int)) (.int .u32 (s.next : Int)) (.slice (some ⟨gA, 0, none⟩) (nD + 1) c3) (.slice (some ⟨gD, 0, none⟩) (nD + 1) c4)
              refine .inr ⟨HM, .inl ⟨some ⟨gA, 0, none⟩, (nD + 1), c3, some ⟨gD, 0, none⟩, (nD + 1), c4, ?_, by rw [hEQ]; exact hf.1, Lib.hid (by rw [hEQ]; exact hM3), hf.2⟩⟩
              rw [hEQ, hIX, hTK, hTN]
              rfl
          · refine ⟨?_, ?_, ?_, ?_, ?_, ?_, ?_, ?_, trivial⟩
            · intro L a w1 hI hi hd
              obtain ⟨g9, B1, c9, hp, hw⟩ := hI
              have t7 := hp.at_ 7 _ rfl z7
              have t7' := t7
              rw [Array.getD_eq_getD_getElem?] at t7'
              exact rstep_valW (wanted_none rfl _) (.pointer (some ⟨G, 3, none⟩)) w1 (by go_simp) ⟨g9, B1, c9, (hp.put 0 48 (.pointer (some ⟨G, 3, none⟩)) (by simp [insP]) (by simp [insP]) rfl (by rw [hsz0]; decide)), hw⟩
            · intro L a w1 hI hi hd
              obtain ⟨g9, B1, c9, hp, hw⟩ := hI
              simp [Region.binds] at hd
              have e0 := hp.pu (0, 48, (.pointer (some ⟨G, 3, none⟩))) (by simp [insP]) (by simp [hd])
              simp only at e0
              have f0 : a.tmps[48]?.getD undef = (.pointer (some ⟨G, 3, none⟩)) := by rw [← Array.getD_eq_getD_getElem?]; exact e0
              have hi : L 1 = false := hi
              have h7 : L 7 = false := hd7 hw.2 hi
              obtain ⟨y0, y1, y2, y3⟩ := (hO.call (hw.1.b0 h7)).hg.c4
              exact rstep_valW (wanted_none rfl _) (.slice (some ⟨gD, 0, none⟩) (nD + 1) c4) w1 (by go_simp) ⟨g9, B1, c9, (hp.put 1 49 (.slice (some ⟨gD, 0, none⟩) (nD + 1) c4) (by simp [insP]) (by simp [insP]) rfl (by rw [hsz0]; decide)), hw.1, fun _ => upd_eq _ _⟩
            · intro L a w1 hI hi hd
              obtain ⟨g9, B1, c9, hp, hw⟩ := hI
              have t8 := hp.at_ 8 _ rfl z8
              have t8' := t8
              rw [Array.getD_eq_getD_getElem?] at t8'
              exact rstep_valW (wanted_none rfl _) (.int .i64 (nD : Int)) w1 (by go_simp) ⟨g9, B1, c9, (hp.put 2 50 (.int .i64 (nD : Int)) (by simp [insP]) (by simp [insP]) rfl (by rw [hsz0]; decide)), hw⟩
            · intro L a w1 hI hi hd
              obtain ⟨g9, B1, c9, hp, hw⟩ := hI
              have hi : L 3 = false := hi
              refine rstep_valW (wanted_none rfl _) (.slice (some ⟨w1.heap.size, 0, none⟩) 0 0) (w1.alloc (.cells #[] 5)) (by go_simp) ⟨w1.heap.size, B1, c9, PIF.put (PIF.swap (p2 := (insP gD nD B nb cb G (nD + 1) c4 w1.heap.size B1 c9)) hp (by intro q hq hL; simp only [insP, List.mem_cons, List.not_mem_nil, or_false] at hq; rcases hq with rfl | rfl | rfl | rfl | rfl | rfl | rfl <;> first | (simp [insP]; done) | (exfalso; simp_all))) 3 51 (.slice (some ⟨w1.heap.size, 0, none⟩) 0 0) (by simp [insP]) (by simp [insP]) rfl (by rw [hsz0]; decide), ?_, hw.2⟩
              exact hw.1.at3 hi
            · intro L a w1 hI hi hd
              obtain ⟨g9, B1, c9, hp, hw⟩ := hI
              have t1 := hp.at_ 1 _ rfl z1
              have t1' := t1
              rw [Array.getD_eq_getD_getElem?] at t1'
              exact rstep_valW (wanted_none rfl _) (.slice B nb cb) w1 (by go_simp) ⟨g9, B1, c9, (hp.put 4 52 (.slice B nb cb) (by simp [insP]) (by simp [insP]) rfl (by rw [hsz0]; decide)), hw⟩
            · intro L a w1 hI hi hd
              obtain ⟨g9, B1, c9, hp, hw⟩ := hI
              simp [Region.binds] at hd
              have e3 := hp.pu (3, 51, (.slice (some ⟨g9, 0, none⟩) 0 0)) (by simp [insP]) (by simp [hd])
              simp only at e3
              have f3 : a.tmps[51]?.getD undef = (.slice (some ⟨g9, 0, none⟩) 0 0) := by rw [← Array.getD_eq_getD_getElem?]; exact e3
              have e4 := hp.pu (4, 52, (.slice B nb cb)) (by simp [insP]) (by simp [hd])
              simp only at e4
              have f4 : a.tmps[52]?.getD undef = (.slice B nb cb) := by rw [← Array.getD_eq_getD_getElem?]; exact e4
              have hi : L 5 = false := hi
              have hO' := hw.1.f3 hd.1 hi
              have hrb := hbr'.below (hw.1.b0 (hw.1.no7 hi))
              obtain ⟨i0, hi0, hz0, hz1, hz2⟩ := info_parts info_u8
              refine rstep_wp rfl (wp_append_row w1 (.tmp 51) (.tmp 52) _ rfl V3.heap.size 5 i0 _ 1 1 Try.underlying27 hi0 hz0 hz1 hz2 rfl (by omega) (.slice (some ⟨g9, 0, none⟩) 0 0) 0 [] e3 hO' B nb cb (bs b) e4 (by rw [bs_length]; omega) hrb (bs_one b) (by unfold maxLen; omega) (by omega) hw.1.gV fun B' c' w2 h1 h2 h3 => ?_)
              simp only [Nat.zero_add, List.nil_append] at h1 h3 ⊢
              refine ⟨g9, B', c', PIF.put (PIF.swap (p2 := (insP gD nD B nb cb G (nD + 1) c4 g9 B' c')) hp (by intro q hq hL; simp only [insP, List.mem_cons, List.not_mem_nil, or_false] at hq; rcases hq with rfl | rfl | rfl | rfl | rfl | rfl | rfl <;> first | (simp [insP]; done) | (exfalso; simp_all))) 5 53 (.slice B' nb c') (by simp [insP]) (by simp [insP]) rfl (by rw [hsz0]; decide), ?_, hw.2⟩
              exact hw.1.at5 hi hd.1 h1 h2
            · intro L a w1 hI hi hd
              obtain ⟨g9, B1, c9, hp, hw⟩ := hI
              simp [Region.binds] at hd
              have e1 := hp.pu (1, 49, (.slice (some ⟨gD, 0, none⟩) (nD + 1) c4)) (by simp [insP]) (by simp [hd])
              simp only at e1
              have f1 : a.tmps[49]?.getD undef = (.slice (some ⟨gD, 0, none⟩) (nD + 1) c4) := by rw [← Array.getD_eq_getD_getElem?]; exact e1
              have e2 := hp.pu (2, 50, (.int .i64 (nD : Int))) (by simp [insP]) (by simp [hd])
              simp only at e2
              have f2 : a.tmps[50]?.getD undef = (.int .i64 (nD : Int)) := by rw [← Array.getD_eq_getD_getElem?]; exact e2
              have hnle : (((((nD + 1) : Nat) : Int) ≤ (nD : Int))) = False := by simp; omega
              push_cast at hnle
              exact rstep_valW (wanted_none rfl _) (.pointer (some ⟨gD, nD, none⟩)) w1 (by go_simp) ⟨g9, B1, c9, (hp.put 6 54 (.pointer (some ⟨gD, nD, none⟩)) (by simp [insP]) (by simp [insP]) rfl (by rw [hsz0]; decide)), hw⟩
            · intro L a w1 hI hi hd
              obtain ⟨g9, B1, c9, hp, hw⟩ := hI
              simp [Region.binds] at hd
              have e5 := hp.pu (5, 53, (.slice B1 nb c9)) (by simp [insP]) (by simp [hd])
              simp only at e5
              have f5 : a.tmps[53]?.getD undef = (.slice B1 nb c9) := by rw [← Array.getD_eq_getD_getElem?]; exact e5
              have e6 := hp.pu (6, 54, (.pointer (some ⟨gD, nD, none⟩))) (by simp [insP]) (by simp [hd])
              simp only at e6
              have f6 : a.tmps[54]?.getD undef = (.pointer (some ⟨gD, nD, none⟩)) := by rw [← Array.getD_eq_getD_getElem?]; exact e6
              have hi : L 7 = false := hi
              have q5 : L 5 = true := by simp [hd]
              have q1 : L 1 = true := by simp [hd]
              have hO' := hO.call (hw.1.b0 hi)
              obtain ⟨vD, y2⟩ := hO'.hp.li.cell (k := nD) (by omega)
              have y3 := hO'.hp.li.frozen nD
              refine rstep_skip rfl (w1.setCell ⟨gD, nD, none⟩ (.slice B1 nb c9)) (by go_simp) ⟨g9, B1, c9, (hp.skip 7 undef (by simp [insP])), ?_, fun _ => q1⟩
              exact hw.1.at7 hi q5 (hO.put (hw.1.b0 hi) hbn (hw.1.f5 q5 hi)) (grownBy_setCell w1 gD nD (.slice B1 nb c9)).size
end Go.Proofs.Ytofbfehpadjbbaa
