/-
  The walk of SlotsReads: it returns true and changes nothing that was there.
  Conditions: the bytes lie in memory as a list.
-/
import Derived.Test.YtofbfehpadjbbaaSltS4
import Derived.Test.YtofbfehpadjbbaaSltT1
import Derived.Test.YtofbfehpadjbbaaSltP2
import Derived.Test.YtofbfehpadjbbaaSltW9
namespace Go.Proofs.Ytofbfehpadjbbaa
open Go.RowKit Go.Sort Go.Lib
set_option linter.unusedVariables false
set_option linter.unusedSimpArgs false
theorem add_u8r (u : UInt8) : IntKind.u8.wrap ((u.toNat : Int) + 1) = ((u + 1).toNat : Int) := by
  rw [IntKind.wrap_u8, UInt8.toNat_add]
  show _ = (((u.toNat + 1) % 256 : Nat) : Int)
  omega
/-- The bytes handed in, with a mark behind them. -/
theorem in_rowr {w : World} {g : Nat} {b : List UInt8} (h : Row w (some ⟨g, 0, none⟩) (bs (b ++ [77]))) : Row w (some ⟨g, 0, none⟩) (bs b) ∧ w.cell? ⟨g, b.length, none⟩ = some (.int .u8 77) := by
  refine ⟨?_, ?_⟩
  · have := h.take b.length
    rwa [← bs_length b, bs_append, List.take_left] at this
  · obtain ⟨bq, oq, eq, h77⟩ := h.byte (k := b.length) (by simp)
    cases eq
    rw [List.getElem_append_right (Nat.le_refl _)] at h77
    simpa using h77
set_option maxRecDepth 100000 in
set_option maxHeartbeats 8000000 in
theorem slotsReads_walk (B : Option Addr) (cb : Nat) (l : List UInt8) (w : World) (hr : Row w B (bs l)) (hlc : l.length ≤ cb) (hcm : cb ≤ maxLen) (hl7 : l.length ≤ 140737488351232) :
    Calls Try.prog 6 #[.slice B l.length cb] w fun e w' => e = .returned (.bool true) ∧ Below w.heap.size w w' := by
  have hcm' := Lib.hid hcm
  unfold maxLen at hcm
  have hrh := Lib.hid hr
  go_enter Try.func6, Try.ntmps6
  by_cases hbig : 2000 < l.length
  · go_wp2_with fail
    refine (known08_any _).mono ?_
    rintro e wz ⟨rfl, hb⟩
    go_wp2
    go_ret
    exact ⟨rfl, hb⟩
  · go_wp2_with (at_builtin; refine wpl_app _ rfl (.tmp 14) (.tmp 15) rfl w.heap.size (some ⟨w.heap.size, 0, none⟩) 0 [] rfl (Own.made w #[] 0 (Nat.le_refl _) (by unfold maxLen; omega) rfl) B cb l rfl (hr.alloc _) ?_ ?_ ?_)
    · simp; omega
    · simp
    intro A1 c1 w1 h1 hg1 _
    have hb1 : Below w.heap.size w w1 := ((Below.refl w.heap.size w).alloc (Nat.le_refl _) (.cells #[] 5)).grown hg1 (by simp) (by intro k hk; simp [Value.ownBlock] at hk; omega)
    have hs1 := hb1.size
    go_wp2_with (at_builtin; refine wpl_app _ rfl (.tmp 16) (.tmp 17) rfl w.heap.size A1 c1 l rfl (h1.alloc _) (some ⟨w1.heap.size, 0, none⟩) 1 [77] rfl (row_lit w1 [77] _ _ _ rfl) ?_ ?_ ?_)
    · simp; omega
    · simp; omega
    intro A2 c2 w2 h2 hg2 _
    obtain ⟨gi, rfl, hge, hgl⟩ := h2.some_ (by simp)
    have hle := h2.le
    simp only [List.length_append, List.length_cons, List.length_nil] at hle
    have hb2 : Below w.heap.size w w2 := by
      refine Own.grown_below (h1.alloc (.cells #[.int .u8 77] 5)) rfl hg2 (hb1.alloc hs1 _) (Nat.le_refl _) (by simp; omega)
    clear h1 hg1 hb1 hs1 hg2
    obtain ⟨n, hn⟩ : ∃ n, l.length = n := ⟨_, rfl⟩
    have hlen : ((n : Nat) : Int) ≤ c2 := by omega
    have hn1 : n + 1 ≤ c2 := by omega
    have hc2m := hle.2
    have hc2M := Lib.hid hle.2
    unfold maxLen at hc2m
    have HN := Lib.hid hn
    have hn2 : n ≤ 2000 := by omega
    have hncb : n ≤ cb := by omega
    clear hle hbig hl7
    have hrow2 : Row w2 (some ⟨gi, 0, none⟩) (bs l) := by
      have h := h2.row.take l.length
      rw [bs_append, ← bs_length l, List.take_left] at h
      exact h
    have hrd := Lib.hid ((read8_any (some ⟨gi, 0, none⟩) n c2 l w2 hrow2 hn (by omega) hc2M.out).mono fun e w' h => h.x)
    rw [hn] at hlc ⊢
    clear hn hrow2
    go_wp2_with fail
    refine hrd.out.mono ?_
    rintro e w3 ⟨⟨yA, yF, ycA, yD, ynD, ycD⟩, rfl, hN, b3⟩
    dsimp only at hN ⊢
    obtain ⟨s, hs⟩ : ∃ s, SltM.gR (SltM.readP l) = s := ⟨_, rfl⟩
    obtain ⟨ge, hge2⟩ : ∃ ge, SltM.gE (SltM.readP l) = ge := ⟨_, rfl⟩
    have hbd := gR_bnd l
    rw [hs] at hN hbd ⊢
    rw [hge2]
    have HS := Lib.hid hs
    have HE := Lib.hid hge2
    clear hs hge2 hrd
    have hz0 := Blk.new w3 26 #[.int .u8 0, .int .u32 0, .slice none 0 0, .slice none 0 0]
    have k0 := hz0.frozen 0
    have k1 := hz0.frozen 1
    have k2 := hz0.frozen 2
    have k3 := hz0.frozen 3
    go_upto_region 5 with fail
    clear hz0 k0 k1 k2 k3
    have hx4 := Blk.new w3 26 #[.int .u8 (s.kind : Int), .int .u32 (s.next : Int), .slice yA yF ycA, .slice yD ynD ycD]
    have ba : Below w3.heap.size w3 (w3.alloc (.cells #[.int .u8 (s.kind : Int), .int .u32 (s.next : Int), .slice yA yF ycA, .slice yD ynD ycD] 26)) := (Below.refl w3.heap.size w3).alloc (Nat.le_refl _) _
    generalize w3.alloc (.cells #[.int .u8 (s.kind : Int), .int .u32 (s.next : Int), .slice yA yF ycA, .slice yD ynD ycD] 26) = w4 at *
    obtain ⟨g4, hg4⟩ : ∃ g4, w3.heap.size = g4 := ⟨_, rfl⟩
    obtain ⟨ps, hps, hown, hnf⟩ : ∃ ps, ps.map Sl.l = s.data ∧ OwnP w3 w2.heap.size g4 yA yF ycA yD ynD ycD s.full ps ∧ NF w3 ps := by
      obtain ⟨G, ps, h1, h2, h3⟩ := hN
      exact ⟨ps, h1, ⟨h2.fu, h2.li, fun p hp => ⟨(h2.each p hp).1, (h2.each p hp).2.1, (h2.each p hp).2.2.imp id fun h4 a ha => ⟨(h4 a ha).1, by have := (h4 a ha).1.2; omega, (h4 a ha).2.2⟩⟩, h2.ap, fun a ha => by have := (h2.fu.blk ha).2; omega, fun a ha => by have := (h2.li.blk ha).2; omega⟩, h3⟩
    have hB4 := below_step (below_step hb2 b3 (Nat.le_refl _)) ba (Nat.le_refl _)
    have h24 := below_step b3 ba (Nat.le_refl _)
    have ho4 := hown.below ba
    have hn4 := hnf.below ba
    have hpb : ∀ p ∈ ps, p.l.length = p.n ∧ (p.l = [] ∨ ∀ a, p.A = some a → (w2.heap.size ≤ a.block ∧ a.block < g4) ∧ (∀ x, yD = some x → a.block ≠ x.block)) := fun p hp => ⟨(hown.each p hp).1, (hown.each p hp).2.2.imp id fun h4 a ha => ⟨by rw [← hg4]; exact (h4 a ha).1, (h4 a ha).2.2.2⟩⟩
    have hr4 := hrh.out.below hB4
    have hi4 := h2.below h24
    rw [hg4] at hx4 ⊢
    have hg4l := hx4.lt
    clear hN b3 ba hown hnf hg4 hb2
    have hrf := Lib.hid ((refread8_any B n cb l w4 hr4 HN.out hncb hcm'.out).mono fun e w' h => h.x)
    go_wp2_with fail
    refine hrf.out.mono ?_
    rintro e w5 ⟨z, rfl, hZ, b5⟩
    rw [HS.out] at hZ ⊢
    rw [HE.out]
    have hz0 := Blk.new w5 26 #[.int .u8 0, .int .u32 0, .slice none 0 0, .slice none 0 0]
    have k0 := hz0.frozen 0
    have k1 := hz0.frozen 1
    have k2 := hz0.frozen 2
    have k3 := hz0.frozen 3
    go_upto_region 6 with fail
    clear hz0 k0 k1 k2 k3 hrf
    have hx6 := Blk.new w5 26 #[.int .u8 (s.kind : Int), .int .u32 (s.next : Int), .slice z.A z.nF z.cA, .slice z.D z.nD z.cD]
    have ba : Below w5.heap.size w5 (w5.alloc (.cells #[.int .u8 (s.kind : Int), .int .u32 (s.next : Int), .slice z.A z.nF z.cA, .slice z.D z.nD z.cD] 26)) := (Below.refl w5.heap.size w5).alloc (Nat.le_refl _) _
    generalize w5.alloc (.cells #[.int .u8 (s.kind : Int), .int .u32 (s.next : Int), .slice z.A z.nF z.cA, .slice z.D z.nD z.cD] 26) = w6 at *
    obtain ⟨g6, hg6⟩ : ∃ g6, w5.heap.size = g6 := ⟨_, rfl⟩
    have h46 := below_step b5 ba (Nat.le_refl _)
    have hB6 := below_step hB4 h46 (Nat.le_refl _)
    have ho6 := ho4.below h46
    have hn6 := hn4.below h46
    have hx46 := hx4.below h46 hx4.lt
    have hi6 := hi4.below h46
    have hZ6 := hZ.below ba
    rw [hg6] at hx6 ⊢
    clear hZ b5 ba hg6 h46 hB4 ho4 hn4 hx4 hi4 hr4 h24
    have hy6 : SltAt w6 yA yF ycA yD ynD ycD s := ho6.at_ hps
    have hyF : yF ≤ 3000 := by rw [← hy6.lf]; exact hbd.f
    have hyD : ynD ≤ 3000 := by rw [← hy6.ld]; exact hbd.d
    obtain ⟨x0, x1, x2, x3⟩ := hx46.c4
    obtain ⟨y0, y1, y2, y3⟩ := hx6.c4
    go_wp2_with fail
    refine (same_any s s yA yF ycA yD ynD ycD z.A z.nF z.cA z.D z.nD z.cD w6 hy6 hZ6 (by omega) (by omega)).mono ?_
    rintro e V ⟨r, rfl, hr7, b7⟩
    obtain rfl := hr7.out.2 rfl
    have hBV := below_step hB6 b7 (Nat.le_refl _)
    have hiV := hi6.below b7
    have hR0 : Rw V w2.heap.size g4 yA yF ycA yD ynD ycD (.int .u8 (s.kind : Int)) (.int .u32 (s.next : Int)) ps V := Rw.start (ho6.below b7) (hn6.below b7) (hx46.below b7 hx46.lt)
    have hcD := hy6.cd
    have hlD : ps.length = ynD := by rw [← hy6.ld, ← hps, List.length_map]
    clear x0 x1 x2 x3 y0 y1 y2 y3 hr7 b7 hB6 hi6 hx46 hx6 ho6 hn6 hy6 hZ6
    go_wp2
    go_loopw [8] (fun i wr => ∃ q : Nat, i = .int .i64 (q : Int) ∧ q ≤ ynD ∧ Rw V w2.heap.size g4 yA yF ycA yD ynD ycD (.int .u8 (s.kind : Int)) (.int .u32 (s.next : Int)) ps wr) (fun i _ => ynD - (RowKit.intOf i).toNat)
    case atStart => exact ⟨0, rfl, by omega, hR0⟩
    case round =>
      clear hR0
      obtain ⟨q, rfl, hq, hR⟩ := hrel
      obtain ⟨x0, x1, x2, x3⟩ := hR.bx.c4
      by_cases hlt : q < ynD
      · obtain ⟨p, hp⟩ : ∃ p, ps[q]? = some p := ⟨_, List.getElem?_eq_getElem (by rw [hlD]; exact hlt)⟩
        obtain ⟨gd, od, rfl, hcd⟩ := row_any hR.li (k := q) (u := p.val) (by rw [List.getElem?_map, hp]; rfl)
        obtain ⟨pA, pn, pc, pl⟩ := p
        have hcd : wr.cell? ⟨gd, od + q, none⟩ = some (.slice pA pn pc) := hcd
        have hpm := List.mem_of_getElem? hp
        obtain ⟨hp1, hp2⟩ := hpb _ hpm
        have HPM := Lib.hid hpm
        have hpn : pn ≤ 3000 := by
          have h1 := SltM.sum_get (l := s.data) (k := q) (x := pl) (by rw [← hps, List.getElem?_map, hp]; rfl)
          have h3 := hbd.s
          have h2 : pl.length = pn := hp1
          omega
        have HPQ := Lib.hid hp
        have HP1 := Lib.hid hp1
        have HP2 := Lib.hid hp2
        clear hp hpm hp1 hp2
        go_wp2
        go_loopw [9] (fun i wr => ∃ k : Nat, i = .int .i64 (k : Int) ∧ k ≤ pn ∧ Rw V w2.heap.size g4 yA yF ycA (some ⟨gd, od, none⟩) ynD ycD (.int .u8 (s.kind : Int)) (.int .u32 (s.next : Int)) ps wr) (fun i _ => pn - (RowKit.intOf i).toNat)
        case atStart => exact ⟨0, rfl, by omega, hR⟩
        case round =>
          clear hR hcd x0 x1 x2 x3
          obtain ⟨k, rfl, hk, hR⟩ := hrel
          obtain ⟨x0, x1, x2, x3⟩ := hR.bx.c4
          obtain ⟨gd', od', hgd, hcd0⟩ := row_any hR.li (k := q) (u := Sl.val ⟨pA, pn, pc, pl⟩) (by rw [List.getElem?_map, HPQ.out]; rfl)
          cases hgd
          have hcd : wr.cell? ⟨gd, od + q, none⟩ = some (.slice pA pn pc) := hcd0
          clear hcd0
          by_cases hlt2 : k < pn
          · obtain ⟨pb, po, u, hA, hcell0, hfz⟩ := hR.ce _ HPM.out k hlt2
            obtain rfl : pA = some ⟨pb, po, none⟩ := hA
            have hcell : wr.cell? ⟨pb, po + k, none⟩ = some (.int .u8 (u.toNat : Int)) := hcell0
            clear hcell0
            have xx := add_u8r u
            obtain ⟨v, hv⟩ : ∃ v, u + 1 = v := ⟨_, rfl⟩
            rw [hv] at xx
            clear hv
            have HR := Lib.hid hR
            clear hR
            go_wp2
            go_roundw
            case rel =>
              have hne : pl ≠ [] := by
                intro e
                have := HP1.out
                rw [e] at this
                simp at this
                omega
              have h2p := (HP2.out.resolve_left hne) _ rfl
              exact ⟨k + 1, by go_num, by omega, HR.out.set (b := pb) (i := po + k) (u := v) h2p.1.1 (Nat.ne_of_lt h2p.1.2) (fun x hx => h2p.2 x hx) ⟨_, hcell⟩⟩
            case measure => simp [RowKit.intOf]; omega
          · obtain rfl : k = pn := by omega
            go_wp2
            go_roundw
            case rel => exact ⟨q + 1, by go_num, by omega, hR⟩
            case measure => simp [RowKit.intOf]; omega
      · obtain rfl : q = ynD := by omega
        have hbV := hR.bel
        clear hR
        have r1 : Row wr (some ⟨gi, 0, none⟩) (bs (l ++ [77])) := row_belowB hiV.row hbV (fun x hx => by cases hx; exact hgl)
        obtain ⟨r2, h77⟩ := in_rowr r1
        have hBW := hBV.trans (hbV.mono (Nat.le_trans hge (Nat.le_of_lt hgl)))
        have r3 : Row wr B (bs l) := hrh.out.below hBW
        have s1 := str_len wr (some ⟨gi, 0, none⟩) n c2 l HN.out r2
        have s2 := str_len wr B n cb l HN.out r3
        have hse := str_beq l l
        have hsf : ((str l).toList == (str l).toList) = true := by rw [hse]; simp
        rw [HN.out] at h77
        have hn64 : IntKind.i64.wrap ((n : Int) + 1) = ((n + 1 : Nat) : Int) := by rw [IntKind.wrap_i64]; omega
        clear r1 r2 r3 hse hbV
        go_wp2_with fail
        refine (known08_any _).mono ?_
        rintro e wz ⟨rfl, hbz9⟩
        go_wp2
        go_ret
        exact ⟨rfl, below_step hBW hbz9 (Nat.le_refl _)⟩
end Go.Proofs.Ytofbfehpadjbbaa
