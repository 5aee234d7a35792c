/-
  What bytes are read as, as a reply, by the program's word (stmt.ReadTell).
  Conditions: the bytes lie in memory.
-/
import Derived.Test.YtaadfalklddhcaaZStmQ3
import Derived.Test.YtaadfalklddhcaaZStmT5
import Derived.Test.YtaadfalklddhcaaZStmT6
namespace Go.Proofs.Ytaadfalklddhcaa
open Go.RowKit Go.Sort Go.Lib
set_option linter.unusedVariables false
set_option linter.unusedSimpArgs false
/-- The reply's lists are new memory. -/
structure Rpv.Fr (s : Rpv) (b : Nat) : Prop where
  f1 : Fresh b s.it.A
  f2 : Fresh b s.it.A2
  fI : Fresh b s.IA
  fl : ∀ i ∈ s.its, Fresh b i.A ∧ Fresh b i.A2
  fH : Fresh b s.HA
theorem Rpv.Fr.mono {s : Rpv} {b b' : Nat} (h : s.Fr b) (hb : b' ≤ b) : s.Fr b' := ⟨h.f1.mono hb, h.f2.mono hb, h.fI.mono hb, fun i hi => ⟨(h.fl i hi).1.mono hb, (h.fl i hi).2.mono hb⟩, h.fH.mono hb⟩
theorem rpv_fresh {w w' : World} {s : Rpv} {g B : Nat} (h : s.At w) (hf : s.Fr B) (hg : w.grownBy w' (some g)) (hlt : g < B) : s.At w' :=
  ⟨⟨row_fresh h.hi.r1 hf.f1 hg hlt, row_fresh h.hi.r2 hf.f2 hg hlt, h.hi.ok, h.hi.l1, h.hi.l2, h.hi.m1, h.hi.m2⟩, row_fresh h.rI hf.fI hg hlt,
    fun i hi => ⟨row_fresh (h.aI i hi).r1 (hf.fl i hi).1 hg hlt, row_fresh (h.aI i hi).r2 (hf.fl i hi).2 hg hlt, (h.aI i hi).ok, (h.aI i hi).l1, (h.aI i hi).l2, (h.aI i hi).m1, (h.aI i hi).m2⟩, row_fresh h.rH hf.fH hg hlt, h.ok, h.lI, h.lH, h.mI, h.mH⟩
def RpYes (x : Rp) (w : World) (e : Ending) (w' : World) : Prop := ∃ s : Rpv, e = .returned (.tuple #[.agg s.cells, .int .i64 0]) ∧ s.x = x ∧ s.At w' ∧ s.Fr w.heap.size ∧ Below w.heap.size w w'
def RpNo (w : World) (e : Ending) (w' : World) : Prop := e = .returned (.tuple #[.agg #[.int .i64 0, .int .i64 0, .int .i64 0, .int .i64 0, .int .u64 0, .slice none 0 0, .slice none 0 0, .slice none 0 0, .slice none 0 0], .int .i64 4]) ∧ Below w.heap.size w w'
def RpP (r : Option Rp) (w : World) (e : Ending) (w' : World) : Prop := match r with
  | none => RpNo w e w'
  | some x => RpYes x w e w'
/-- A reply of numbers alone. -/
theorem rpv_flat {k m e p : Int} {w : World} (hk : -9223372036854775808 ≤ k ∧ k < 9223372036854775808) (hm : -9223372036854775808 ≤ m ∧ m < 9223372036854775808) (he : -9223372036854775808 ≤ e ∧ e < 9223372036854775808) (hp : -9223372036854775808 ≤ p ∧ p < 9223372036854775808) :
    Rpv.At ⟨k, m, e, p, ⟨StmM.no, none, 0, none, 0⟩, none, 0, [], none, 0, []⟩ w :=
  ⟨nilItv_at w, .inl rfl, nofun, .inl rfl, ⟨hk, hm, he, hp, StmM.no_ok, nofun, nofun⟩, Nat.le_refl _, Nat.le_refl _, Nat.zero_le _, Nat.zero_le _⟩
theorem rpv_flat_fr {k m e p : Int} {b : Nat} : Rpv.Fr ⟨k, m, e, p, ⟨StmM.no, none, 0, none, 0⟩, none, 0, [], none, 0, []⟩ b := ⟨Fresh.none, Fresh.none, Fresh.none, nofun, Fresh.none⟩
/-- The reply is read. -/
def RtDone (w : World) (g gx : Nat) (x : Rp) (y : Rpv) (wc : World) : Prop := y.x = x ∧ y.At wc ∧ y.Fr (g + 1) ∧ Blk wc gx 34 y.cells ∧ Blk wc g 34 #[.int .i64 0, .int .i64 0, .int .i64 0, .int .i64 0, .int .u64 0, .slice none 0 0, .slice none 0 0, .slice none 0 0, .slice none 0 0] ∧ Below g w wc
theorem own_le {w : World} {base : Nat} {e : TypeId} {size n c m : Nat} {A : Option Addr} {xs : List Value} (h : w.ownsRow base e size (.slice A n c) m xs) (hn : m = n) : n ≤ c ∧ c ≤ maxLen := by
  rcases own_cap h with q | ⟨_, h2, h3⟩
  · rw [← hn]; exact q
  · rw [h2, h3]; exact ⟨Nat.le_refl _, Nat.zero_le _⟩
def t7kY (v2 v3 : Nat) (b0 b1 : Bool) : Array Value := #[.int .i64 2, .int .i64 0, (bif b0 then (.int .i64 (v2 : Int)) else .int .i64 0), (bif b1 then (.int .i64 (v3 : Int)) else .int .i64 0), .int .u64 0, .slice none 0 0, .slice none 0 0, .slice none 0 0, .slice none 0 0]
def t7kP (gr gx : Nat) (v2 v3 : Nat) : List (Nat × Nat × Value) := [(0, 24, (.pointer (some ⟨gr, 0, none⟩))), (1, 25, (.int .u8 (v2 : Int))), (2, 26, (.int .i64 (v2 : Int))), (3, 27, (.pointer (some ⟨gr, 0, none⟩))), (4, 28, (.int .u16 (v3 : Int))), (5, 29, (.int .i64 (v3 : Int))), (6, 30, (.pointer (some ⟨gx, 2, none⟩))), (8, 31, (.pointer (some ⟨gx, 3, none⟩)))]
set_option maxRecDepth 100000 in
set_option maxHeartbeats 16000000 in
theorem readtell_any (A : Option Addr) (c : Nat) (b : List UInt8) (w : World) (hr : Row w A (bs b)) (hcap : b.length ≤ c) (hmx : c ≤ maxLen) (hlen : b.length ≤ 140737488355328) :
    Calls Try.prog 10 #[.slice A b.length c] w (RpP (RepM.readT b) w) := by
  have HR0 := Lib.hid hr
  obtain ⟨RR, hRR⟩ : ∃ r, RepM.readT b = r := ⟨_, rfl⟩
  rw [hRR]
  have HRR := Lib.hid hRR
  clear hRR hr
  have b0 : Below w.heap.size w (w.alloc (.cells #[.int .i64 0, .int .i64 0, .int .i64 0, .int .i64 0, .int .u64 0, .slice none 0 0, .slice none 0 0, .slice none 0 0, .slice none 0 0] 34)) := (Below.refl _ _).alloc (Nat.le_refl _) _
  have U1 := Blk.new w 34 #[.int .i64 0, .int .i64 0, .int .i64 0, .int .i64 0, .int .u64 0, .slice none 0 0, .slice none 0 0, .slice none 0 0, .slice none 0 0]
  go_enter Try.func10, Try.ntmps10
  go_upto_region 1 with fail
  generalize w.alloc (.cells #[.int .i64 0, .int .i64 0, .int .i64 0, .int .i64 0, .int .u64 0, .slice none 0 0, .slice none 0 0, .slice none 0 0, .slice none 0 0] 34) = W0 at *
  obtain ⟨g, hg⟩ : ∃ g, w.heap.size = g := ⟨_, rfl⟩
  have HG := Lib.hid hg
  rw [hg] at U1 b0
  simp only [hg]
  clear hg
  have HC := Lib.hid (newreader_any A c b W0 (HR0.out.below (by rw [HG.out]; exact b0)) hlen)
  go_wp2_with fail
  refine HC.out.mono ?_
  rintro e W1 ⟨gr, rfl, hgr, hRd, hb1⟩
  have hba : Below W1.heap.size W1 (W1.alloc (.cells #[.pointer (some ⟨gr, 0, none⟩)] 55)) := (Below.refl _ _).alloc (Nat.le_refl _) _
  have hb2 : Below W0.heap.size W0 (W1.alloc (.cells #[.pointer (some ⟨gr, 0, none⟩)] 55)) := hb1.trans (hba.mono hb1.size)
  have B2 : Hid (Below g w (W1.alloc (.cells #[.pointer (some ⟨gr, 0, none⟩)] 55))) := Lib.hid (below_step b0 hb2 (Nat.le_of_eq HG.out.symm))
  have K1 := U1.below hb2 U1.lt
  have K3 := Blk.new W1 55 #[.pointer (some ⟨gr, 0, none⟩)]
  have K4 : RdIn (W1.heap.size + 1) 111 (W1.alloc (.cells #[.pointer (some ⟨gr, 0, none⟩)] 55)) gr ⟨b, 0⟩ := RdAt.in_ (hRd.below hba) (by simp)
  have hgr1 : gr < W1.heap.size := hRd.lt
  have hgg : g < gr := Nat.lt_of_lt_of_le U1.lt hgr
  go_upto_region 2 with fail
  generalize hW2 : W1.alloc (.cells #[.pointer (some ⟨gr, 0, none⟩)] 55) = W2 at *
  have hs2 : W2.heap.size = W1.heap.size + 1 := by rw [← hW2]; simp
  generalize hgp : W1.heap.size = gp at *
  obtain ⟨BB, hBB⟩ : ∃ B, gp + 1 = B := ⟨_, rfl⟩
  rw [hBB] at K4 hs2
  have HS2 := Lib.hid hs2
  have HGR := Lib.hid (And.intro hgr1 (And.intro hgg hBB))
  have H2 := Lib.hid (And.intro K1 (And.intro K3 K4))
  clear hW2 hgp U1 b0 HC hgr hRd hb1 hba hb2 K1 K3 K4 hs2 hgr1 hgg hBB
  have cp := H2.out.2.1.cell 0
  simp only [List.getElem?_toArray, List.getElem?_cons_zero] at cp
  obtain ⟨p, hp⟩ : ∃ p, CodeM.Rd.fixed 1 ⟨b, 0⟩ = p := ⟨_, rfl⟩
  obtain ⟨k1, r1⟩ := p
  have hk1 : k1 < 256 := by have := StmM.fixed_lt1 ⟨b, 0⟩; rw [hp] at this; exact this
  have HC := u8I_any gr ⟨b, 0⟩ W2 H2.out.2.2
  rw [hp] at HC
  have HK1 := Lib.hid hp
  obtain ⟨k, hk⟩ : ∃ k : Int, (k1 : Int) = k := ⟨_, rfl⟩
  simp only [hk] at HC
  have hwk : IntKind.i64.wrap k = k := by rw [IntKind.wrap_i64]; omega
  have HKR : Hid (-9223372036854775808 ≤ k ∧ k < 9223372036854775808) := Lib.hid (by omega)
  have HKK := Lib.hid hk
  have HRC : Hid (RepM.readCR b = RepM.readKR k b r1) := Lib.hid (by unfold RepM.readCR; rw [hp]; simp only [hk])
  clear hp hk hk1
  go_wp2_with fail
  refine HC.mono ?_
  rintro e W3 ⟨rfl, hR3, hg3⟩
  have hba : Below W3.heap.size W3 (W3.alloc (.cells #[.int .i64 k, .int .i64 0, .int .i64 0, .int .i64 0, .int .u64 0, .slice none 0 0, .slice none 0 0, .slice none 0 0, .slice none 0 0] 34)) := (Below.refl _ _).alloc (Nat.le_refl _) _
  have L1 := (H2.out.1.grown hg3 (by simp; have := HGR.out; omega)).below hba (H2.out.1.grown hg3 (by simp; have := HGR.out; omega)).lt
  have L3 := (H2.out.2.1.grown hg3 (by simp; have := HGR.out; omega)).below hba (H2.out.2.1.grown hg3 (by simp; have := HGR.out; omega)).lt
  have L4 := hR3.below hba
  have L5 := Blk.new W3 34 #[.int .i64 k, .int .i64 0, .int .i64 0, .int .i64 0, .int .u64 0, .slice none 0 0, .slice none 0 0, .slice none 0 0, .slice none 0 0]
  have hs3 : W2.heap.size ≤ W3.heap.size := hg3.size
  have B4 : Hid (Below g w (W3.alloc (.cells #[.int .i64 k, .int .i64 0, .int .i64 0, .int .i64 0, .int .u64 0, .slice none 0 0, .slice none 0 0, .slice none 0 0, .slice none 0 0] 34))) := Lib.hid ((B2.out.grown hg3 (Nat.le_trans (Nat.le_of_eq HG.out.symm) B2.out.size) (fun j hj => by injection hj with hj; have := HGR.out; omega)).trans (hba.mono (Nat.le_trans (Nat.le_trans (Nat.le_of_eq HG.out.symm) B2.out.size) hs3)))
  go_upto_region 3 with fail
  generalize hW4 : W3.alloc (.cells #[.int .i64 k, .int .i64 0, .int .i64 0, .int .i64 0, .int .u64 0, .slice none 0 0, .slice none 0 0, .slice none 0 0, .slice none 0 0] 34) = W4 at *
  have hs4 : W4.heap.size = W3.heap.size + 1 := by rw [← hW4]; simp
  generalize hgx : W3.heap.size = gx at *
  have HNE : Hid (Ne BB gr gp gx) := Lib.hid (by
    have h1 := HGR.out
    have h2 := HS2.out
    exact ⟨by omega, by omega, by omega, by omega⟩)
  have HBX : Hid (BB ≤ W4.heap.size) := Lib.hid (by have := HS2.out; omega)
  have H4 : Hid (RdT 34 BB W4 gr gp gx r1 #[.int .i64 k, .int .i64 0, .int .i64 0, .int .i64 0, .int .u64 0, .slice none 0 0, .slice none 0 0, .slice none 0 0, .slice none 0 0] W4 ∧ Blk W4 g 34 #[.int .i64 0, .int .i64 0, .int .i64 0, .int .i64 0, .int .u64 0, .slice none 0 0, .slice none 0 0, .slice none 0 0, .slice none 0 0]) := Lib.hid ⟨⟨L4, L3, L5, Chg.refl _ _ _⟩, L1⟩
  have HNR : Hid (g ≠ gr ∧ g ≠ gx ∧ g ≤ gr ∧ g ≤ gx ∧ g ≤ W4.heap.size ∧ g + 1 ≤ W4.heap.size) := Lib.hid (by
    have h1 := HGR.out
    have h2 := HS2.out
    omega)
  clear hW4 hgx L1 L3 L4 L5 hba hs3 hs4 hR3 hg3 H2 HC B2 cp hwk
  have dk := H4.out.1.x.c9.1
  go_cut [15] from 14 to 52 (fun v15 wc => v15 = .int .i64 k ∧ wc = W4)
  case first =>
    go_wp2
    go_meet
    case rel => exact ⟨rfl, rfl⟩
  obtain ⟨rfl, hwc⟩ := hcut
  obtain rfl : W4 = wc := hwc.symm
  clear dk
  go_step
  go_cut [] from 16 to 52 (fun wc => ∃ (y : Rpv), Hid (RtDone w g gx (RepM.readCR b) y wc))
  case first =>
    by_cases k1 : k = 1
    · subst k1
      as_aux_lemma =>
      obtain ⟨p2, hp2⟩ : ∃ p, r1.fixed 1 = p := ⟨_, rfl⟩
      obtain ⟨v2, r2⟩ := p2
      have hv2 : v2 < 256 := by have := StmM.fixed_lt1 r1; rw [hp2] at this; exact this
      have hrc : RepM.readCR b = ⟨1, (v2 : Int), 0, 0, StmM.no, [], []⟩ := HRC.out.trans (by unfold RepM.readKR; rw [if_pos rfl, hp2])
      have HRC1 := Lib.hid hrc
      have HC := Lib.hid (u8I_any gr r1 W4 H4.out.1.rd)
      rw [hp2] at HC
      have cp := H4.out.1.p.cell 0
      simp only [List.getElem?_toArray, List.getElem?_cons_zero] at cp
      have cw2 := int_u8 hv2
      have HV2 := Lib.hid hv2
      clear hp2 hv2 hrc
      go_wp2_with fail
      refine HC.out.mono ?_
      rintro e W5 ⟨rfl, hR5, hg5⟩
      have hX5 := H4.out.1.call HNE.out hR5 hg5
      have fz := hX5.x.frozen 1
      have cz := hX5.x.cell 1
      simp only [List.getElem?_toArray, List.getElem?_cons_zero, List.getElem?_cons_succ] at cz
      have HY := Lib.hid (hX5.set HNE.out 1 (.int .i64 (v2 : Int)))
      clear hX5 hR5 hg5 cp HC
      go_wp2_with fail
      go_meet
      case rel => exact ⟨⟨1, (v2 : Int), 0, 0, ⟨StmM.no, none, 0, none, 0⟩, none, 0, [], none, 0, []⟩, Lib.hid ⟨HRC1.out.symm, rpv_flat (by decide) (by have := HV2.out; omega) (by decide) (by decide), rpv_flat_fr, HY.out.x, HY.out.chg.blk H4.out.2 HNR.out.1 HNR.out.2.1, B4.out.trans (HY.out.chg.below HNR.out.2.2.1 HNR.out.2.2.2.1 HNR.out.2.2.2.2.1)⟩⟩
    by_cases k2 : k = 2
    · subst k2
      as_aux_lemma =>
      obtain ⟨p2, hp2⟩ : ∃ p, r1.fixed 1 = p := ⟨_, rfl⟩
      obtain ⟨v2, r2⟩ := p2
      have hv2 : v2 < 256 := by have := StmM.fixed_lt1 r1; rw [hp2] at this; exact this
      obtain ⟨p3, hp3⟩ : ∃ p, r2.fixed 2 = p := ⟨_, rfl⟩
      obtain ⟨v3, r3⟩ := p3
      have hv3 : v3 < 65536 := by have := RepM.fixed_lt2 r2; rw [hp3] at this; exact this
      have HP2 := Lib.hid hp2
      have HV2 := Lib.hid hv2
      have HP3 := Lib.hid hp3
      have HV3 := Lib.hid hv3
      clear hp2 hv2 hp3 hv3
      have HRC1 : Hid (RepM.readCR b = ⟨2, 0, (v2 : Int), (v3 : Int), StmM.no, [], []⟩) := Lib.hid (HRC.out.trans (by unfold RepM.readKR; rw [if_neg (by decide), if_pos rfl, HP2.out]; simp only; rw [HP3.out]))
      have cw2 := int_u8 HV2.out
      have cw3 : IntKind.i64.wrap (v3 : Int) = (v3 : Int) := by have := HV3.out; rw [IntKind.wrap_i64]; omega
      go_upto_region 7 with fail
      refine wp_named fun a0 ha0 => ?_
      have z4 : a0.tmps.getD 4 undef = (.pointer (some ⟨gp, 0, none⟩)) := by rw [ha0.out]; rfl
      have z5 : a0.tmps.getD 5 undef = (.pointer (some ⟨gx, 0, none⟩)) := by rw [ha0.out]; rfl
      have hsz0 : a0.tmps.size = 68 := by rw [ha0.out]; rfl
      refine wp_region_invB _ (by kernel_rfl) (fun L a wv => PIF a0 [24, 25, 26, 27, 28, 29, 30, 31] (t7kP gr gx v2 v3) L a ∧ RdT 34 BB W4 gr gp gx (bif L 4 then r3 else (bif L 1 then r2 else r1)) (t7kY v2 v3 (L 7) (L 9)) wv ∧ (L 4 = true → L 1 = true)) (by kernel_rfl) ?_ ?_ ?_
      · exact ⟨PIF.start _ _ _, ⟨H4.out.1.drew, nofun⟩⟩
      rotate_left
      · as_aux_lemma =>
        refine ⟨?_, ?_, ?_, ?_, ?_, ?_, ?_, ?_, ?_, ?_, trivial⟩
        · intro L a w1 hI hi hd
          obtain ⟨hp, hw⟩ := hI
          have t4 := hp.at_ 4 _ rfl z4
          have t4' := t4
          rw [Array.getD_eq_getD_getElem?] at t4'
          have cp := hw.1.p.cell 0
          simp only [List.getElem?_toArray, List.getElem?_cons_zero] at cp
          exact rstep_valW (wanted_none rfl _) (.pointer (some ⟨gr, 0, none⟩)) w1 (by go_simp) ⟨(hp.put 0 24 (.pointer (some ⟨gr, 0, none⟩)) (by simp [t7kP]) (by simp [t7kP]) rfl (by rw [hsz0]; exact (by decide : 24 < 68))), by rw [upd_ne L (show (1 : Nat) ≠ 0 by decide), upd_ne L (show (4 : Nat) ≠ 0 by decide), upd_ne L (show (7 : Nat) ≠ 0 by decide), upd_ne L (show (9 : Nat) ≠ 0 by decide)]; exact hw⟩
        · intro L a w1 hI hi hd
          obtain ⟨hp, hw⟩ := hI
          simp [Region.binds] at hd
          have e0 : a.tmps.getD 24 undef = (.pointer (some ⟨gr, 0, none⟩)) := hp.pu (0, 24, (.pointer (some ⟨gr, 0, none⟩))) (by simp [t7kP]) (by simp [hd])
          have f0 : a.tmps[24]?.getD undef = (.pointer (some ⟨gr, 0, none⟩)) := by rw [← Array.getD_eq_getD_getElem?]; exact e0
          have hi : L 1 = false := hi
          have n4 : L 4 = false := by
            cases q : L 4 with
            | false => rfl
            | true => rw [hw.2 q] at hi; cases hi
          have hR := hw.1.rd
          rw [n4, hi] at hR
          have HC := u8I_any gr r1 w1 hR
          rw [HP2.out] at HC
          refine rstep_callW (wanted_none rfl _) 29 #[(.pointer (some ⟨gr, 0, none⟩))] (by go_simp) ?_
          refine (HC).mono ?_
          rintro e w2 ⟨rfl, hR2, hg2⟩
          exact ⟨(hp.put 1 25 (.int .u8 (v2 : Int)) (by simp [t7kP]) (by simp [t7kP]) rfl (by rw [hsz0]; exact (by decide : 25 < 68))), (by rw [upd_eq, upd_ne L (show (4 : Nat) ≠ 1 by decide), upd_ne L (show (7 : Nat) ≠ 1 by decide), upd_ne L (show (9 : Nat) ≠ 1 by decide)]; rw [n4]; exact ⟨(hw.1.call HNE.out hR2 hg2), (fun _ => rfl)⟩)⟩
        · intro L a w1 hI hi hd
          obtain ⟨hp, hw⟩ := hI
          simp [Region.binds] at hd
          have e1 : a.tmps.getD 25 undef = (.int .u8 (v2 : Int)) := hp.pu (1, 25, (.int .u8 (v2 : Int))) (by simp [t7kP]) (by simp [hd])
          have f1 : a.tmps[25]?.getD undef = (.int .u8 (v2 : Int)) := by rw [← Array.getD_eq_getD_getElem?]; exact e1
          exact rstep_valW (wanted_none rfl _) (.int .i64 (v2 : Int)) w1 (by go_simp) ⟨(hp.put 2 26 (.int .i64 (v2 : Int)) (by simp [t7kP]) (by simp [t7kP]) rfl (by rw [hsz0]; exact (by decide : 26 < 68))), by rw [upd_ne L (show (1 : Nat) ≠ 2 by decide), upd_ne L (show (4 : Nat) ≠ 2 by decide), upd_ne L (show (7 : Nat) ≠ 2 by decide), upd_ne L (show (9 : Nat) ≠ 2 by decide)]; exact hw⟩
        · intro L a w1 hI hi hd
          obtain ⟨hp, hw⟩ := hI
          have t4 := hp.at_ 4 _ rfl z4
          have t4' := t4
          rw [Array.getD_eq_getD_getElem?] at t4'
          have cp := hw.1.p.cell 0
          simp only [List.getElem?_toArray, List.getElem?_cons_zero] at cp
          exact rstep_valW (wanted_none rfl _) (.pointer (some ⟨gr, 0, none⟩)) w1 (by go_simp) ⟨(hp.put 3 27 (.pointer (some ⟨gr, 0, none⟩)) (by simp [t7kP]) (by simp [t7kP]) rfl (by rw [hsz0]; exact (by decide : 27 < 68))), by rw [upd_ne L (show (1 : Nat) ≠ 3 by decide), upd_ne L (show (4 : Nat) ≠ 3 by decide), upd_ne L (show (7 : Nat) ≠ 3 by decide), upd_ne L (show (9 : Nat) ≠ 3 by decide)]; exact hw⟩
        · intro L a w1 hI hi hd
          obtain ⟨hp, hw⟩ := hI
          simp [Region.binds] at hd
          have e3 : a.tmps.getD 27 undef = (.pointer (some ⟨gr, 0, none⟩)) := hp.pu (3, 27, (.pointer (some ⟨gr, 0, none⟩))) (by simp [t7kP]) (by simp [hd])
          have f3 : a.tmps[27]?.getD undef = (.pointer (some ⟨gr, 0, none⟩)) := by rw [← Array.getD_eq_getD_getElem?]; exact e3
          have hi : L 4 = false := hi
          have hR := hw.1.rd
          have y1 : L 1 = true := by simp [hd]
          rw [hi, y1] at hR
          have HC := u16I_any gr r2 w1 hR
          rw [HP3.out] at HC
          refine rstep_callW (wanted_none rfl _) 30 #[(.pointer (some ⟨gr, 0, none⟩))] (by go_simp) ?_
          refine (HC).mono ?_
          rintro e w2 ⟨rfl, hR2, hg2⟩
          exact ⟨(hp.put 4 28 (.int .u16 (v3 : Int)) (by simp [t7kP]) (by simp [t7kP]) rfl (by rw [hsz0]; exact (by decide : 28 < 68))), (by rw [upd_ne L (show (1 : Nat) ≠ 4 by decide), upd_eq, upd_ne L (show (7 : Nat) ≠ 4 by decide), upd_ne L (show (9 : Nat) ≠ 4 by decide)]; exact ⟨(hw.1.call HNE.out hR2 hg2), (fun _ => y1)⟩)⟩
        · intro L a w1 hI hi hd
          obtain ⟨hp, hw⟩ := hI
          simp [Region.binds] at hd
          have e4 : a.tmps.getD 28 undef = (.int .u16 (v3 : Int)) := hp.pu (4, 28, (.int .u16 (v3 : Int))) (by simp [t7kP]) (by simp [hd])
          have f4 : a.tmps[28]?.getD undef = (.int .u16 (v3 : Int)) := by rw [← Array.getD_eq_getD_getElem?]; exact e4
          exact rstep_valW (wanted_none rfl _) (.int .i64 (v3 : Int)) w1 (by go_simp) ⟨(hp.put 5 29 (.int .i64 (v3 : Int)) (by simp [t7kP]) (by simp [t7kP]) rfl (by rw [hsz0]; exact (by decide : 29 < 68))), by rw [upd_ne L (show (1 : Nat) ≠ 5 by decide), upd_ne L (show (4 : Nat) ≠ 5 by decide), upd_ne L (show (7 : Nat) ≠ 5 by decide), upd_ne L (show (9 : Nat) ≠ 5 by decide)]; exact hw⟩
        · intro L a w1 hI hi hd
          obtain ⟨hp, hw⟩ := hI
          have t5 := hp.at_ 5 _ rfl z5
          have t5' := t5
          rw [Array.getD_eq_getD_getElem?] at t5'
          exact rstep_valW (wanted_none rfl _) (.pointer (some ⟨gx, 2, none⟩)) w1 (by go_simp) ⟨(hp.put 6 30 (.pointer (some ⟨gx, 2, none⟩)) (by simp [t7kP]) (by simp [t7kP]) rfl (by rw [hsz0]; exact (by decide : 30 < 68))), by rw [upd_ne L (show (1 : Nat) ≠ 6 by decide), upd_ne L (show (4 : Nat) ≠ 6 by decide), upd_ne L (show (7 : Nat) ≠ 6 by decide), upd_ne L (show (9 : Nat) ≠ 6 by decide)]; exact hw⟩
        · intro L a w1 hI hi hd
          obtain ⟨hp, hw⟩ := hI
          simp [Region.binds] at hd
          have e2 : a.tmps.getD 26 undef = (.int .i64 (v2 : Int)) := hp.pu (2, 26, (.int .i64 (v2 : Int))) (by simp [t7kP]) (by simp [hd])
          have f2 : a.tmps[26]?.getD undef = (.int .i64 (v2 : Int)) := by rw [← Array.getD_eq_getD_getElem?]; exact e2
          have e6 : a.tmps.getD 30 undef = (.pointer (some ⟨gx, 2, none⟩)) := hp.pu (6, 30, (.pointer (some ⟨gx, 2, none⟩))) (by simp [t7kP]) (by simp [hd])
          have f6 : a.tmps[30]?.getD undef = (.pointer (some ⟨gx, 2, none⟩)) := by rw [← Array.getD_eq_getD_getElem?]; exact e6
          have fz := hw.1.x.frozen 2
          have cz := hw.1.x.cell 2
          simp only [t7kY, List.getElem?_toArray, List.getElem?_cons_zero, List.getElem?_cons_succ] at cz
          have hset := hw.1.set HNE.out 2 (.int .i64 (v2 : Int))
          exact rstep_skip rfl (w1.setCell ⟨gx, 2, none⟩ (.int .i64 (v2 : Int))) (by go_simp) ⟨(hp.skip 7 undef (by simp [t7kP])), by rw [upd_ne L (show (1 : Nat) ≠ 7 by decide), upd_ne L (show (4 : Nat) ≠ 7 by decide), upd_eq, upd_ne L (show (9 : Nat) ≠ 7 by decide)]; exact ⟨hset, hw.2⟩⟩
        · intro L a w1 hI hi hd
          obtain ⟨hp, hw⟩ := hI
          have t5 := hp.at_ 5 _ rfl z5
          have t5' := t5
          rw [Array.getD_eq_getD_getElem?] at t5'
          exact rstep_valW (wanted_none rfl _) (.pointer (some ⟨gx, 3, none⟩)) w1 (by go_simp) ⟨(hp.put 8 31 (.pointer (some ⟨gx, 3, none⟩)) (by simp [t7kP]) (by simp [t7kP]) rfl (by rw [hsz0]; exact (by decide : 31 < 68))), by rw [upd_ne L (show (1 : Nat) ≠ 8 by decide), upd_ne L (show (4 : Nat) ≠ 8 by decide), upd_ne L (show (7 : Nat) ≠ 8 by decide), upd_ne L (show (9 : Nat) ≠ 8 by decide)]; exact hw⟩
        · intro L a w1 hI hi hd
          obtain ⟨hp, hw⟩ := hI
          simp [Region.binds] at hd
          have e5 : a.tmps.getD 29 undef = (.int .i64 (v3 : Int)) := hp.pu (5, 29, (.int .i64 (v3 : Int))) (by simp [t7kP]) (by simp [hd])
          have f5 : a.tmps[29]?.getD undef = (.int .i64 (v3 : Int)) := by rw [← Array.getD_eq_getD_getElem?]; exact e5
          have e8 : a.tmps.getD 31 undef = (.pointer (some ⟨gx, 3, none⟩)) := hp.pu (8, 31, (.pointer (some ⟨gx, 3, none⟩))) (by simp [t7kP]) (by simp [hd])
          have f8 : a.tmps[31]?.getD undef = (.pointer (some ⟨gx, 3, none⟩)) := by rw [← Array.getD_eq_getD_getElem?]; exact e8
          have fz := hw.1.x.frozen 3
          have cz := hw.1.x.cell 3
          simp only [t7kY, List.getElem?_toArray, List.getElem?_cons_zero, List.getElem?_cons_succ] at cz
          have hset := hw.1.set HNE.out 3 (.int .i64 (v3 : Int))
          exact rstep_skip rfl (w1.setCell ⟨gx, 3, none⟩ (.int .i64 (v3 : Int))) (by go_simp) ⟨(hp.skip 9 undef (by simp [t7kP])), by rw [upd_ne L (show (1 : Nat) ≠ 9 by decide), upd_ne L (show (4 : Nat) ≠ 9 by decide), upd_ne L (show (7 : Nat) ≠ 9 by decide), upd_eq]; exact ⟨hset, hw.2⟩⟩
      rintro L a W0 ⟨hp, hw⟩ hL
      rw [hL 1 (by simp), hL 4 (by simp), hL 7 (by simp), hL 9 (by simp)] at hw
      have HW : Hid (RdT 34 BB W4 gr gp gx r3 #[.int .i64 2, .int .i64 0, (.int .i64 (v2 : Int)), (.int .i64 (v3 : Int)), .int .u64 0, .slice none 0 0, .slice none 0 0, .slice none 0 0, .slice none 0 0] W0) := Lib.hid hw.1
      clear hw
      rw [hp.eq]
      refine of_assigns (P := Try.prog) _ _ _ _ ?_
      rw [ha0.out]
      simp only [asgs, List.map]
      generalize a.tmps.getD 24 undef = u24
      generalize a.tmps.getD 25 undef = u25
      generalize a.tmps.getD 26 undef = u26
      generalize a.tmps.getD 27 undef = u27
      generalize a.tmps.getD 28 undef = u28
      generalize a.tmps.getD 29 undef = u29
      generalize a.tmps.getD 30 undef = u30
      generalize a.tmps.getD 31 undef = u31
      clear hp hL hsz0  z4 z5
      clear ha0
      go_wp2_with fail
      go_meet
      case rel => exact ⟨⟨2, 0, (v2 : Int), (v3 : Int), ⟨StmM.no, none, 0, none, 0⟩, none, 0, [], none, 0, []⟩, Lib.hid ⟨HRC1.out.symm, rpv_flat (by decide) (by decide) (by have := HV2.out; omega) (by have := HV3.out; omega), rpv_flat_fr, HW.out.x, HW.out.chg.blk H4.out.2 HNR.out.1 HNR.out.2.1, B4.out.trans (HW.out.chg.below HNR.out.2.2.1 HNR.out.2.2.2.1 HNR.out.2.2.2.2.1)⟩⟩
    by_cases k3 : k = 3
    · subst k3
      as_aux_lemma =>
      obtain ⟨u, b', rfl⟩ : ∃ u b', b = u :: b' := by
        cases b with
        | nil => have h := HK1.out; simp [CodeM.Rd.fixed] at h; have h2 := HKK.out; omega
        | cons u b' => exact ⟨u, b', rfl⟩
      have hr4 := HR0.out.below (by rw [HG.out]; exact B4.out)
      obtain ⟨ab, ao, rfl, _⟩ := row_at hr4 (k := 0) (u := u) rfl
      have hrow : Row W4 (some ⟨ab, ao + 1, none⟩) (bs b') := row_drop hr4 1
      rw [List.length_cons] at hcap
      clear hr4
      by_cases hc1 : c = 1
      · obtain rfl : b' = [] := List.length_eq_zero_iff.1 (by omega)
        have HR : Hid (Row W4 (some ⟨ab, ao, none⟩) (bs ([] : List UInt8))) := Lib.hid (.inl rfl)
        subst hc1
        clear hrow hcap
        have HC := Lib.hid (itemread_any (some ⟨ab, ao, none⟩) 0 ([] : List UInt8) W4 HR.out (by have := hlen; rw [List.length_cons] at this; omega))
        go_wp2_with fail
        refine HC.out.mono ?_
        cases hrd : ItemM.readP ([] : List UInt8) with
        | none =>
          rintro e W5 ⟨rfl, hb⟩
          have HRC1 : Hid (RepM.readCR [u] = ⟨3, 0, 0, 0, StmM.no, [], []⟩) := Lib.hid (HRC.out.trans (by unfold RepM.readKR; rw [if_neg (by decide), if_neg (by decide), if_pos rfl, List.drop_succ_cons, List.drop_zero, ← ItemM.readP_eq, hrd]; rfl))
          have hx5 := H4.out.1.below hb
          have HB5 := Lib.hid hb
          have fz4 := hx5.x.frozen 4
          have fz5 := hx5.x.frozen 5
          have fz6 := hx5.x.frozen 6
          obtain ⟨d0, d1, d2, d3, d4, d5, d6, d7, d8⟩ := hx5.x.c9
          have HY := Lib.hid (((hx5.set HNE.out 4 (.int .u64 0)).set HNE.out 5 (.slice none 0 0)).set HNE.out 6 (.slice none 0 0))
          clear d0 d1 d2 d3 d7 d8 hrd hb HC hx5
          go_wp2_with fail
          go_meet
          case rel => exact ⟨⟨3, 0, 0, 0, ⟨StmM.no, none, 0, none, 0⟩, none, 0, [], none, 0, []⟩, Lib.hid ⟨HRC1.out.symm, rpv_flat (by decide) (by decide) (by decide) (by decide), rpv_flat_fr, HY.out.x, HY.out.chg.blk H4.out.2 HNR.out.1 HNR.out.2.1, B4.out.trans (HY.out.chg.below HNR.out.2.2.1 HNR.out.2.2.2.1 HNR.out.2.2.2.2.1)⟩⟩
        | some x =>
          rintro e W5 ⟨A1, n1, c1, A2, n2, c2, rfl, hn1, hn2, hO1, hO2, hb⟩
          have HXOK := Lib.hid (ItemM.read_inv (b := ([] : List UInt8)) (by rw [← ItemM.readP_eq]; exact hrd)).2.2
          have HRC1 : Hid (RepM.readCR [u] = ⟨3, 0, 0, 0, x, [], []⟩) := Lib.hid (HRC.out.trans (by unfold RepM.readKR; rw [if_neg (by decide), if_neg (by decide), if_pos rfl, List.drop_succ_cons, List.drop_zero, ← ItemM.readP_eq, hrd]; rfl))
          obtain rfl : x.vec.length = n1 := hn1.out
          obtain rfl : x.note.length = n2 := hn2.out
          have hx5 := H4.out.1.below hb
          have HB5 := Lib.hid hb
          have fz4 := hx5.x.frozen 4
          have fz5 := hx5.x.frozen 5
          have fz6 := hx5.x.frozen 6
          obtain ⟨d0, d1, d2, d3, d4, d5, d6, d7, d8⟩ := hx5.x.c9
          have HY := Lib.hid (((hx5.set HNE.out 4 (.int .u64 (x.key : Int))).set HNE.out 5 (.slice A1 x.vec.length c1)).set HNE.out 6 (.slice A2 x.note.length c2))
          have g4 := grownBy_setCell W5 gx 4 (.int .u64 (x.key : Int))
          have g5 := grownBy_setCell (W5.setCell ⟨gx, 4, none⟩ (.int .u64 (x.key : Int))) gx 5 (.slice A1 x.vec.length c1)
          have g6 := grownBy_setCell ((W5.setCell ⟨gx, 4, none⟩ (.int .u64 (x.key : Int))).setCell ⟨gx, 5, none⟩ (.slice A1 x.vec.length c1)) gx 6 (.slice A2 x.note.length c2)
          have HIT := Lib.hid ((((ItO.mk (s := ⟨x, A1, c1, A2, c2⟩) hO1 hO2 HXOK.out).kept g4 H4.out.1.x.lt).kept g5 H4.out.1.x.lt).kept g6 H4.out.1.x.lt)
          clear d0 d1 d2 d3 d7 d8 hrd hb HC hx5 g4 g5 g6 hO1 hO2 hn1 hn2
          go_wp2_with fail
          go_meet
          case rel => exact ⟨⟨3, 0, 0, 0, ⟨x, A1, c1, A2, c2⟩, none, 0, [], none, 0, []⟩, Lib.hid ⟨HRC1.out.symm, ⟨HIT.out.at_, .inl rfl, nofun, .inl rfl, ⟨by simp [Rpv.x], by simp [Rpv.x], by simp [Rpv.x], by simp [Rpv.x], HXOK.out, nofun, nofun⟩, Nat.le_refl _, Nat.le_refl _, Nat.zero_le _, Nat.zero_le _⟩, ⟨HIT.out.fr.1.mono HNR.out.2.2.2.2.2, HIT.out.fr.2.mono HNR.out.2.2.2.2.2, Fresh.none, nofun, Fresh.none⟩, HY.out.x, HY.out.chg.blk H4.out.2 HNR.out.1 HNR.out.2.1, B4.out.trans (HY.out.chg.below HNR.out.2.2.1 HNR.out.2.2.2.1 HNR.out.2.2.2.2.1)⟩⟩
      · have HR := Lib.hid hrow
        clear hrow
        have HC := Lib.hid (itemread_any (some ⟨ab, ao + 1, none⟩) (c - 1) b' W4 HR.out (by have := hlen; rw [List.length_cons] at this; omega))
        go_wp2_with fail
        refine HC.out.mono ?_
        cases hrd : ItemM.readP b' with
        | none =>
          rintro e W5 ⟨rfl, hb⟩
          have HRC1 : Hid (RepM.readCR (u :: b') = ⟨3, 0, 0, 0, StmM.no, [], []⟩) := Lib.hid (HRC.out.trans (by unfold RepM.readKR; rw [if_neg (by decide), if_neg (by decide), if_pos rfl, List.drop_succ_cons, List.drop_zero, ← ItemM.readP_eq, hrd]; rfl))
          have hx5 := H4.out.1.below hb
          have HB5 := Lib.hid hb
          have fz4 := hx5.x.frozen 4
          have fz5 := hx5.x.frozen 5
          have fz6 := hx5.x.frozen 6
          obtain ⟨d0, d1, d2, d3, d4, d5, d6, d7, d8⟩ := hx5.x.c9
          have HY := Lib.hid (((hx5.set HNE.out 4 (.int .u64 0)).set HNE.out 5 (.slice none 0 0)).set HNE.out 6 (.slice none 0 0))
          clear d0 d1 d2 d3 d7 d8 hrd hb HC hx5
          go_wp2_with fail
          go_meet
          case rel => exact ⟨⟨3, 0, 0, 0, ⟨StmM.no, none, 0, none, 0⟩, none, 0, [], none, 0, []⟩, Lib.hid ⟨HRC1.out.symm, rpv_flat (by decide) (by decide) (by decide) (by decide), rpv_flat_fr, HY.out.x, HY.out.chg.blk H4.out.2 HNR.out.1 HNR.out.2.1, B4.out.trans (HY.out.chg.below HNR.out.2.2.1 HNR.out.2.2.2.1 HNR.out.2.2.2.2.1)⟩⟩
        | some x =>
          rintro e W5 ⟨A1, n1, c1, A2, n2, c2, rfl, hn1, hn2, hO1, hO2, hb⟩
          have HXOK := Lib.hid (ItemM.read_inv (b := b') (by rw [← ItemM.readP_eq]; exact hrd)).2.2
          have HRC1 : Hid (RepM.readCR (u :: b') = ⟨3, 0, 0, 0, x, [], []⟩) := Lib.hid (HRC.out.trans (by unfold RepM.readKR; rw [if_neg (by decide), if_neg (by decide), if_pos rfl, List.drop_succ_cons, List.drop_zero, ← ItemM.readP_eq, hrd]; rfl))
          obtain rfl : x.vec.length = n1 := hn1.out
          obtain rfl : x.note.length = n2 := hn2.out
          have hx5 := H4.out.1.below hb
          have HB5 := Lib.hid hb
          have fz4 := hx5.x.frozen 4
          have fz5 := hx5.x.frozen 5
          have fz6 := hx5.x.frozen 6
          obtain ⟨d0, d1, d2, d3, d4, d5, d6, d7, d8⟩ := hx5.x.c9
          have HY := Lib.hid (((hx5.set HNE.out 4 (.int .u64 (x.key : Int))).set HNE.out 5 (.slice A1 x.vec.length c1)).set HNE.out 6 (.slice A2 x.note.length c2))
          have g4 := grownBy_setCell W5 gx 4 (.int .u64 (x.key : Int))
          have g5 := grownBy_setCell (W5.setCell ⟨gx, 4, none⟩ (.int .u64 (x.key : Int))) gx 5 (.slice A1 x.vec.length c1)
          have g6 := grownBy_setCell ((W5.setCell ⟨gx, 4, none⟩ (.int .u64 (x.key : Int))).setCell ⟨gx, 5, none⟩ (.slice A1 x.vec.length c1)) gx 6 (.slice A2 x.note.length c2)
          have HIT := Lib.hid ((((ItO.mk (s := ⟨x, A1, c1, A2, c2⟩) hO1 hO2 HXOK.out).kept g4 H4.out.1.x.lt).kept g5 H4.out.1.x.lt).kept g6 H4.out.1.x.lt)
          clear d0 d1 d2 d3 d7 d8 hrd hb HC hx5 g4 g5 g6 hO1 hO2 hn1 hn2
          go_wp2_with fail
          go_meet
          case rel => exact ⟨⟨3, 0, 0, 0, ⟨x, A1, c1, A2, c2⟩, none, 0, [], none, 0, []⟩, Lib.hid ⟨HRC1.out.symm, ⟨HIT.out.at_, .inl rfl, nofun, .inl rfl, ⟨by simp [Rpv.x], by simp [Rpv.x], by simp [Rpv.x], by simp [Rpv.x], HXOK.out, nofun, nofun⟩, Nat.le_refl _, Nat.le_refl _, Nat.zero_le _, Nat.zero_le _⟩, ⟨HIT.out.fr.1.mono HNR.out.2.2.2.2.2, HIT.out.fr.2.mono HNR.out.2.2.2.2.2, Fresh.none, nofun, Fresh.none⟩, HY.out.x, HY.out.chg.blk H4.out.2 HNR.out.1 HNR.out.2.1, B4.out.trans (HY.out.chg.below HNR.out.2.2.1 HNR.out.2.2.2.1 HNR.out.2.2.2.2.1)⟩⟩
    by_cases k4 : k = 4
    · subst k4
      as_aux_lemma =>
      obtain ⟨L, hL⟩ : ∃ L, StmM.listC 1 50 (RepM.seqs RepM.oneI) r1 = L := ⟨_, rfl⟩
      have HC := Lib.hid (listV_any BB gr gp r1 W4 H4.out.1.rd H4.out.1.p HNE.out.rp.symm HBX.out)
      rw [hL] at HC
      obtain ⟨lx, r2⟩ := L
      have HL := Lib.hid hL
      have cp := H4.out.1.p.cell 0
      simp only [List.getElem?_toArray, List.getElem?_cons_zero] at cp
      clear hL
      go_wp2_with fail
      refine HC.out.mono ?_
      rintro e W5 ⟨LA, ln, lc, l, rfl, ⟨hO, hI, hM⟩, hR5, hg5⟩
      have hln := hO.get.2
      try dsimp only at hO hln hR5
      have hX5 := H4.out.1.call HNE.out hR5 hg5
      have fz := hX5.x.frozen 7
      have cz := hX5.x.cell 7
      simp only [List.getElem?_toArray, List.getElem?_cons_zero, List.getElem?_cons_succ] at cz
      have HY := Lib.hid (hX5.set HNE.out 7 (.slice LA ln lc))
      have gs := grownBy_setCell W5 gx 7 (.slice LA ln lc)
      have HO := Lib.hid (ownsRow_keptA hO gs H4.out.1.x.lt)
      have HLN := Lib.hid hln
      have HI : Hid (∀ s ∈ l, ItO (W5.setCell ⟨gx, 7, none⟩ (.slice LA ln lc)) W4.heap.size s) := Lib.hid fun s hs => (hI s hs).kept gs H4.out.1.x.lt
      have HM : Hid (l.map (·.x) = lx) := Lib.hid hM
      clear hI hM
      clear hX5 hR5 hg5 cp HC gs hO hln
      go_wp2_with fail
      go_meet
      case rel => exact ⟨⟨4, 0, 0, 0, ⟨StmM.no, none, 0, none, 0⟩, LA, lc, l, none, 0, []⟩, Lib.hid ⟨(by rw [HRC.out]; unfold RepM.readKR; rw [if_neg (by decide), if_neg (by decide), if_neg (by decide), if_pos rfl, HL.out]; simp [Rpv.x, HM.out]), ⟨nilItv_at _, OwnV.get HO.out |>.1, fun i hi => (HI.out i hi).at_, .inl rfl, ⟨by simp [Rpv.x], by simp [Rpv.x], by simp [Rpv.x], by simp [Rpv.x], StmM.no_ok, fun i hi => by obtain ⟨s, hs, rfl⟩ := List.mem_map.1 hi; exact (HI.out s hs).ok, nofun⟩, (by rw [HLN.out]; exact (own_le HO.out rfl).1), Nat.le_refl _, (own_le HO.out rfl).2, Nat.zero_le _⟩, ⟨Fresh.none, Fresh.none, (fresh_own HO.out).mono HNR.out.2.2.2.2.2, fun i hi => ⟨(HI.out i hi).fr.1.mono HNR.out.2.2.2.2.2, (HI.out i hi).fr.2.mono HNR.out.2.2.2.2.2⟩, Fresh.none⟩, (by have := HY.out.x; rw [← HLN.out] at this ⊢; exact this), HY.out.chg.blk H4.out.2 HNR.out.1 HNR.out.2.1, B4.out.trans (HY.out.chg.below HNR.out.2.2.1 HNR.out.2.2.2.1 HNR.out.2.2.2.2.1)⟩⟩
    by_cases k5 : k = 5
    · subst k5
      as_aux_lemma =>
      obtain ⟨L, hL⟩ : ∃ L, StmM.listC 16 50 (RepM.seqs RepM.oneH) r1 = L := ⟨_, rfl⟩
      have HC := Lib.hid (listH_any BB gr gp r1 W4 H4.out.1.rd H4.out.1.p HNE.out.rp.symm HBX.out)
      rw [hL] at HC
      obtain ⟨lx, r2⟩ := L
      have HL := Lib.hid hL
      have cp := H4.out.1.p.cell 0
      simp only [List.getElem?_toArray, List.getElem?_cons_zero] at cp
      clear hL
      go_wp2_with fail
      refine HC.out.mono ?_
      rintro e W5 ⟨LA, ln, lc, rfl, hO, hR5, hg5⟩
      have hln := hO.get.2
      try dsimp only at hO hln hR5
      have hX5 := H4.out.1.call HNE.out hR5 hg5
      have fz := hX5.x.frozen 8
      have cz := hX5.x.cell 8
      simp only [List.getElem?_toArray, List.getElem?_cons_zero, List.getElem?_cons_succ] at cz
      have HY := Lib.hid (hX5.set HNE.out 8 (.slice LA ln lc))
      have gs := grownBy_setCell W5 gx 8 (.slice LA ln lc)
      have HO := Lib.hid (ownsRow_keptA hO gs H4.out.1.x.lt)
      have HLN := Lib.hid hln
      clear hX5 hR5 hg5 cp HC gs hO hln
      go_wp2_with fail
      go_meet
      case rel => exact ⟨⟨5, 0, 0, 0, ⟨StmM.no, none, 0, none, 0⟩, none, 0, [], LA, lc, lx⟩, Lib.hid ⟨(by rw [HRC.out]; unfold RepM.readKR; rw [if_neg (by decide), if_neg (by decide), if_neg (by decide), if_neg (by decide), if_pos rfl, HL.out]; rfl), ⟨nilItv_at _, .inl rfl, nofun, OwnH.get HO.out |>.1, ⟨by simp [Rpv.x], by simp [Rpv.x], by simp [Rpv.x], by simp [Rpv.x], StmM.no_ok, nofun, (by have := RepM.listC_all (size := 16) (most := 50) (one := RepM.oneH) (p := fun h : Nat × Int => h.1 < 18446744073709551616 ∧ -9223372036854775808 ≤ h.2 ∧ h.2 < 9223372036854775808) RepM.oneH_ok r1; rw [HL.out] at this; exact this)⟩, Nat.le_refl _, (by rw [HLN.out]; exact (own_le HO.out rfl).1), Nat.zero_le _, (own_le HO.out rfl).2⟩, ⟨Fresh.none, Fresh.none, Fresh.none, nofun, (fresh_own HO.out).mono HNR.out.2.2.2.2.2⟩, (by have := HY.out.x; rw [← HLN.out] at this ⊢; exact this), HY.out.chg.blk H4.out.2 HNR.out.1 HNR.out.2.1, B4.out.trans (HY.out.chg.below HNR.out.2.2.1 HNR.out.2.2.2.1 HNR.out.2.2.2.2.1)⟩⟩
    have hrc : RepM.readCR b = RepM.nilR k := HRC.out.trans (by unfold RepM.readKR; rw [if_neg k1, if_neg k2, if_neg k3, if_neg k4, if_neg k5])
    have h1 : (k == 1) = false := beq_eq_false_iff_ne.2 k1
    have h2 : (k == 2) = false := beq_eq_false_iff_ne.2 k2
    have h3 : (k == 3) = false := beq_eq_false_iff_ne.2 k3
    have h4 : (k == 4) = false := beq_eq_false_iff_ne.2 k4
    have h5 : (k == 5) = false := beq_eq_false_iff_ne.2 k5
    go_wp2_with fail
    go_meet
    case rel => exact ⟨⟨k, 0, 0, 0, ⟨StmM.no, none, 0, none, 0⟩, none, 0, [], none, 0, []⟩, Lib.hid ⟨hrc.symm, rpv_flat HKR.out (by decide) (by decide) (by decide), rpv_flat_fr, H4.out.1.x, H4.out.2, B4.out⟩⟩
  obtain ⟨s, HD⟩ := hcut
  clear H4 B4
  have hbx := HD.out.2.2.2.1
  have hres := HD.out.2.2.2.2.1
  go_upto_region 14 with fail
  go_wp2_with (first | (refine wpl_load_row rfl _ (.tmp 5) rfl gx (by go_simp) _ s.cells (0, 0) _ hbx Try.underlying34 rfl (by kernel_rfl) ?_))
  refine (tell_any s wc HD.out.2.1).mono ?_
  rw [HD.out.1]
  cases hm : RepM.mayR (RepM.readCR b) with
  | false =>
    rintro e W14 ⟨rfl, hb⟩
    have hN : RepM.readT b = none := if_neg (fun q => by rw [hm] at q; cases q.1)
    obtain rfl : RR = none := HRR.out.symm.trans hN
    have HB14 := Lib.hid (HD.out.2.2.2.2.2.trans (hb.mono (Nat.le_of_lt hres.lt)))
    have hres2 := hres.below hb hres.lt
    clear hb hbx hres hm hN HD
    go_wp2_with (first | (refine wpList_store_row rfl _ (.tmp 2) (.tmp 66) rfl g #[.int .i64 0, .int .i64 0, .int .i64 0, .int .i64 0, .int .u64 0, .slice none 0 0, .slice none 0 0, .slice none 0 0, .slice none 0 0] (by go_simp) (by go_simp) _ _ hres2 (by kernel_rfl) rfl (by simp [Value.oneCell']) ?_))
    refine ret_cell rfl g #[.int .i64 0, .int .i64 0, .int .i64 0, .int .i64 0, .int .u64 0, .slice none 0 0, .slice none 0 0, .slice none 0 0, .slice none 0 0] _ rfl (hres2.setRow_ _) Try.underlying34 rfl (by kernel_rfl) rfl ?_
    exact ⟨rfl, by rw [HG.out]; exact below_grown HB14.out (grownBy_setRow _ _ _) (by have := hres2.lt; omega) (by omega)⟩
  | true =>
    rintro e W14 ⟨Aq, nq, cq, rfl, hn, hO, hb⟩
    obtain rfl : (RepM.formR (RepM.readCR b)).length = nq := hn.out
    have HB14 := Lib.hid (HD.out.2.2.2.2.2.trans (hb.mono (Nat.le_of_lt hres.lt)))
    have hres2 := hres.below hb hres.lt
    have hbx2 := hbx.below hb hbx.lt
    have HAT := Lib.hid (HD.out.2.1.below hb)
    have HEQ := Lib.hid (equal8_any Aq A cq c (RepM.formR (RepM.readCR b)) b W14 hO.row (HR0.out.below (by rw [HG.out]; exact HB14.out)))
    have HSX := Lib.hid HD.out.1
    have HFR := Lib.hid HD.out.2.2.1
    clear hb hbx hres hn hO HD
    generalize hfm : RepM.formR (RepM.readCR b) = fm at *
    obtain ⟨nf, hnf⟩ : ∃ n, fm.length = n := ⟨_, rfl⟩
    rw [hnf] at HEQ
    simp only [hnf]
    go_wp2_with fail
    refine HEQ.out.mono ?_
    rintro e W15 ⟨rfl, rfl⟩
    by_cases hq : fm = b
    · have hY : RepM.readT b = some (RepM.readCR b) := if_pos ⟨hm, hfm.trans hq⟩
      obtain rfl : RR = some (RepM.readCR b) := HRR.out.symm.trans hY
      rw [decide_eq_true hq]
      clear hY hq hfm hm HEQ
      have h1 : s.cells.all (·.oneCell') = true := by simp [Rpv.cells, Value.oneCell']
      go_wp2_with (first | (refine wpl_load_row rfl _ (.tmp 5) rfl gx (by go_simp) _ s.cells (0, 0) _ hbx2 Try.underlying34 rfl (by kernel_rfl) ?_) | (refine wpList_store_row rfl _ (.tmp 2) (.tmp 67) rfl g s.cells (by go_simp) (by go_simp) _ _ hres2 (by kernel_rfl) rfl h1 ?_))
      refine ret_cell rfl g s.cells _ rfl (hres2.setRow_ _) Try.underlying34 rfl (by kernel_rfl) rfl ?_
      exact ⟨s, rfl, HSX.out, rpv_fresh HAT.out HFR.out (grownBy_setRow _ _ _) (Nat.lt_succ_self g), by rw [HG.out]; exact HFR.out.mono (Nat.le_succ _), by rw [HG.out]; exact below_grown HB14.out (grownBy_setRow _ _ _) (by have := hres2.lt; omega) (by omega)⟩
    · have hN : RepM.readT b = none := if_neg (fun q => hq (hfm.symm.trans q.2))
      obtain rfl : RR = none := HRR.out.symm.trans hN
      rw [decide_eq_false hq]
      clear hN hq hfm hm HEQ
      go_wp2_with (first | (refine wpList_store_row rfl _ (.tmp 2) (.tmp 66) rfl g #[.int .i64 0, .int .i64 0, .int .i64 0, .int .i64 0, .int .u64 0, .slice none 0 0, .slice none 0 0, .slice none 0 0, .slice none 0 0] (by go_simp) (by go_simp) _ _ hres2 (by kernel_rfl) rfl (by simp [Value.oneCell']) ?_))
      refine ret_cell rfl g #[.int .i64 0, .int .i64 0, .int .i64 0, .int .i64 0, .int .u64 0, .slice none 0 0, .slice none 0 0, .slice none 0 0, .slice none 0 0] _ rfl (hres2.setRow_ _) Try.underlying34 rfl (by kernel_rfl) rfl ?_
      exact ⟨rfl, by rw [HG.out]; exact below_grown HB14.out (grownBy_setRow _ _ _) (by have := hres2.lt; omega) (by omega)⟩
end Go.Proofs.Ytaadfalklddhcaa
