/-
  The walk of SlotsBytes: it returns true and changes nothing that was there.
  Conditions: the body lies in memory; its numbers are bounded.
-/
import Derived.Test.YtofbfehpadjbbaaSltR5
import Derived.Test.YtofbfehpadjbbaaSltP2
import Derived.Test.YtofbfehpadjbbaaSltW9
namespace Go.Proofs.Ytofbfehpadjbbaa
open Go.RowKit Go.Sort Go.Lib
set_option linter.unusedVariables false
set_option linter.unusedSimpArgs false
def b6t (s : Slt) (A : Option Addr) (nF cA : Nat) (D : Option Addr) (nD cD : Nat) (y : Sls) : List (Nat × Nat × Value) :=
  [(0, 24, (.agg #[.int .u8 (s.kind : Int), .int .u32 (s.next : Int), .slice y.A y.nF y.cA, .slice y.D y.nD y.cD])), (1, 25, (.bool true)), (2, 26, (.agg #[.int .u8 (s.kind : Int), .int .u32 (s.next : Int), .slice A nF cA, .slice D nD cD])), (3, 27, (.bool true)), (4, 28, (.bool false))]
def b6f (s : Slt) (A : Option Addr) (nF cA : Nat) (D : Option Addr) (nD cD : Nat) (y : Sls) : List (Nat × Nat × Value) :=
  [(0, 24, (.agg #[.int .u8 (s.kind : Int), .int .u32 (s.next : Int), .slice y.A y.nF y.cA, .slice y.D y.nD y.cD])), (1, 25, (.bool false)), (2, 26, (.agg #[.int .u8 (s.kind : Int), .int .u32 (s.next : Int), .slice A nF cA, .slice D nD cD])), (3, 27, (.bool false)), (4, 28, (.bool false))]
def b16 (s : Slt) (A : Option Addr) (nF cA : Nat) (D : Option Addr) (nD cD : Nat) (z : Sls) (g : Nat) (lf : Int) (F : List UInt8) (A' : Option Addr) (c' : Nat) : List (Nat × Nat × Value) :=
  [(0, 76, (.int .i64 0)), (1, 77, (.bool false)), (2, 78, (.bool false)), (3, 79, (.int .i64 0)), (4, 80, (.bool false)), (5, 81, (.bool false)), (6, 82, (.bool false)), (7, 83, (.int .i64 lf)), (8, 84, (.int .i64 lf)), (9, 85, (.bool false)), (10, 86, (.bool false)), (11, 87, (.bool false)), (12, 88, (.slice (some ⟨g, 0, none⟩) 500 500)), (13, 89, (.string (str F))), (14, 90, (.agg #[.int .u8 (s.kind : Int), .int .u32 (s.next : Int), .slice A nF cA, .slice D nD cD])), (15, 91, (.slice A' 500 c')), (16, 92, (.string (str F))), (17, 93, (.bool false)), (18, 94, (.bool false)), (19, 95, (.bool false)), (20, 96, (.agg #[.int .u8 (s.kind : Int), .int .u32 (s.next : Int), .slice z.A z.nF z.cA, .slice z.D z.nD z.cD])), (21, 97, (.agg #[.int .u8 (s.kind : Int), .int .u32 (s.next : Int), .slice A nF cA, .slice D nD cD])), (22, 98, (.bool true)), (23, 99, (.bool false)), (24, 100, (.bool false))]
structure BfW (V : World) (A' : Option Addr) (F : List UInt8) (b15 : Bool) (w : World) : Prop where
  bel : Below V.heap.size V w
  f15 : b15 = true → Row w A' (bs F)
theorem BfW.step {V w w' : World} {A' : Option Addr} {F : List UInt8} {b15 : Bool} (h : BfW V A' F b15 w) (hb : Below w.heap.size w w') : BfW V A' F b15 w' := ⟨below_step h.bel hb (Nat.le_refl _), fun q => (h.f15 q).below hb⟩
set_option maxRecDepth 100000 in
set_option maxHeartbeats 8000000 in
theorem slotsBytes_walk (s : Slt) (A : Option Addr) (nF cA : Nat) (D : Option Addr) (nD cD : Nat) (w : World) (hs : SltAt w A nF cA D nD cD s) (hmF : nF ≤ 140737488355328) (hmD : nD ≤ 140737488355328) (hmx : ∀ x ∈ s.data, x.length ≤ 140737488355328) (hk : s.kind < 256) (hnx : s.next < 4294967296) :
    Calls Try.prog 7 #[.agg #[.int .u8 (s.kind : Int), .int .u32 (s.next : Int), .slice A nF cA, .slice D nD cD]] w fun e w' => e = .returned (.bool true) ∧ Below w.heap.size w w' := by
  go_enter Try.func7, Try.ntmps7
  go_wp2_with fail
  have hbx0 := Blk.new w 26 #[.int .u8 (s.kind : Int), .int .u32 (s.next : Int), .slice A nF cA, .slice D nD cD]
  have hVb0 : Below w.heap.size w (w.alloc (.cells #[.int .u8 (s.kind : Int), .int .u32 (s.next : Int), .slice A nF cA, .slice D nD cD] 26)) := (Below.refl w.heap.size w).alloc (Nat.le_refl _) _
  generalize w.alloc (.cells #[.int .u8 (s.kind : Int), .int .u32 (s.next : Int), .slice A nF cA, .slice D nD cD] 26) = V0 at *
  obtain ⟨g1, hg1⟩ : ∃ g1, w.heap.size = g1 := ⟨_, rfl⟩
  rw [hg1] at hbx0 ⊢
  have HG1 := Lib.hid hg1
  clear hg1
  refine (large08_any s A nF cA D nD cD V0 (hs.below hVb0) hmF hmD hmx).mono ?_
  rintro e w1 ⟨r, rfl, hr, b1⟩
  have hB1 := below_step hVb0 b1 (Nat.le_refl _)
  have hbx1 := hbx0.below b1 hbx0.lt
  clear hVb0 hbx0 b1
  obtain ⟨x0, x1, x2, x3⟩ := hbx1.c4
  cases r with
  | true =>
    go_wp2_with fail
    refine (known08_any _).mono ?_
    rintro e wz ⟨rfl, hbz9⟩
    go_wp2
    go_ret
    exact ⟨rfl, below_step hB1 hbz9 (Nat.le_refl _)⟩
  | false =>
    have hsm := hr.out rfl
    clear hr
    have hlF := hs.lf
    have hlD := hs.ld
    have hbd : SltM.Bnd s := ⟨by omega, by omega, by omega⟩
    have hS : SltM.sum s.data ≤ 3000 := by omega
    have hF3 : nF ≤ 3000 := by omega
    have hD3 : nD ≤ 3000 := by omega
    clear hsm hmF hmD hmx
    have hs1 := hs.below hB1
    go_wp2_with fail
    refine (copyX (x := ⟨A, nF, cA, D, nD, cD⟩) hs1 hbd).mono ?_
    rintro e w2 ⟨y, rfl, hy, b2⟩
    have hB2 := below_step hB1 b2 (Nat.le_refl _)
    have hbx2 := hbx1.below b2 hbx1.lt
    have hyn := hy.nums hbd
    have hyF := hyn.1
    have hyD := hyn.2
    clear x0 x1 x2 x3 hbx1 hB1 b2 hs1 hyn
    have hz0 := Blk.new w2 26 #[.int .u8 0, .int .u32 0, .slice none 0 0, .slice none 0 0]
    have k0 := hz0.frozen 0
    have k1 := hz0.frozen 1
    have k2 := hz0.frozen 2
    have k3 := hz0.frozen 3
    go_wp2_with fail
    clear hz0 k0 k1 k2 k3
    have hby3 := Blk.new w2 26 #[.int .u8 (s.kind : Int), .int .u32 (s.next : Int), .slice y.A y.nF y.cA, .slice y.D y.nD y.cD]
    have ba : Below w2.heap.size w2 (w2.alloc (.cells #[.int .u8 (s.kind : Int), .int .u32 (s.next : Int), .slice y.A y.nF y.cA, .slice y.D y.nD y.cD] 26)) := (Below.refl w2.heap.size w2).alloc (Nat.le_refl _) _
    generalize w2.alloc (.cells #[.int .u8 (s.kind : Int), .int .u32 (s.next : Int), .slice y.A y.nF y.cA, .slice y.D y.nD y.cD] 26) = w3 at *
    have hB3 := below_step hB2 ba (Nat.le_refl _)
    have hbx3 := hbx2.below ba hbx2.lt
    have hy3 := hy.below ba (fun k hk => hk)
    obtain ⟨g3, hg3⟩ : ∃ g3, w2.heap.size = g3 := ⟨_, rfl⟩
    rw [hg3] at hby3 hy3 ⊢
    have hgl : g3 < w3.heap.size := hby3.lt
    have hgx : g1 < g3 := by rw [← hg3]; exact hbx2.lt
    have HG3 := Lib.hid hg3
    clear hB2 hbx2 hy ba hg3
    by_cases hm : SltM.May s
    · refine (bytes8_yes s y.A y.nF y.cA y.D y.nD y.cD w3 hy3.at_ hm hk hnx).mono ?_
      rintro e w4 ⟨g, rfl, hO, b4⟩
      have hB4 := below_step hB3 b4 (Nat.le_refl _)
      have hbx4 := hbx3.below b4 hbx3.lt
      have hby4 := hby3.below b4 hby3.lt
      have hy4 := hy3.below b4 (fun k hk => hk)
      have hgg := hO.lt g rfl
      clear hB3 hbx3 hby3 hy3 b4
      obtain ⟨y0, y1, y2, y3⟩ := hby4.c4
      go_wp2_with fail
      refine (room_yes s y.A y.nF y.cA y.D y.nD y.cD w4 hy4.at_ (by omega) hm).mono ?_
      rintro e V ⟨rfl, b5⟩
      have hBV := below_step hB4 b5 (Nat.le_refl _)
      have hbx := hbx4.below b5 hbx4.lt
      have hby := hby4.below b5 hby4.lt
      have hyX := hy4.below b5 (fun k hk => hk)
      have hyV := hyX.at_
      have hsV := hs.below hBV
      have hOV := hO.below b5
      have hgV := Nat.lt_of_lt_of_le hgg.2 b5.size
      have hgb := hgg.1
      clear hB4 hbx4 hby4 hy4 b5 y0 y1 y2 y3 hO hgg
      obtain ⟨lf, hlf⟩ : ∃ lf, SltM.left s = lf := ⟨_, rfl⟩
      rw [hlf]
      have HLF := Lib.hid hlf
      clear hlf
      go_upto_region 6 with fail
      refine wp_named fun a0 ha0 => ?_
      have z1 : a0.tmps.getD 1 undef = .pointer (some ⟨g1, 0, none⟩) := by rw [ha0.out]; rfl
      have z3 : a0.tmps.getD 3 undef = .pointer (some ⟨g3, 0, none⟩) := by rw [ha0.out]; rfl
      have hsz0 : a0.tmps.size = 121 := by rw [ha0.out]; rfl
      refine wp_region_invB _ (by kernel_rfl) (fun L a wv => PIF a0 [24, 25, 26, 27, 28] (b6t s A nF cA D nD cD y) L a ∧ Below V.heap.size V wv) (by kernel_rfl) ?_ ?_ ?_
      · exact ⟨PIF.start _ _ _, ⟨rfl, rfl, rfl, Nat.le_refl _, fun _ _ => rfl⟩⟩
      rotate_left
      · refine ⟨?_, ?_, ?_, ?_, ?_, trivial⟩
        · intro L a w1 hI hi hd
          obtain ⟨hp, hw⟩ := hI
          have t3 := hp.at_ 3 _ rfl z3
          have t3' := t3
          rw [Array.getD_eq_getD_getElem?] at t3'
          obtain ⟨y0, y1, y2, y3⟩ := (hby.below hw hby.lt).c4
          exact rstep_valW (wanted_none rfl _) (.agg #[.int .u8 (s.kind : Int), .int .u32 (s.next : Int), .slice y.A y.nF y.cA, .slice y.D y.nD y.cD]) w1 (by go_simp) ⟨(hp.put 0 24 (.agg #[.int .u8 (s.kind : Int), .int .u32 (s.next : Int), .slice y.A y.nF y.cA, .slice y.D y.nD y.cD]) (by simp [b6t]) (by simp [b6t]) rfl (by rw [hsz0]; decide)), hw⟩
        · intro L a w1 hI hi hd
          obtain ⟨hp, hw⟩ := hI
          simp [Region.binds] at hd
          have e0 := hp.pu (0, 24, (.agg #[.int .u8 (s.kind : Int), .int .u32 (s.next : Int), .slice y.A y.nF y.cA, .slice y.D y.nD y.cD])) (by simp [b6t]) (by simp [hd])
          simp only at e0
          have f0 : a.tmps[24]?.getD undef = (.agg #[.int .u8 (s.kind : Int), .int .u32 (s.next : Int), .slice y.A y.nF y.cA, .slice y.D y.nD y.cD]) := by rw [← Array.getD_eq_getD_getElem?]; exact e0
          have hi : L 1 = false := hi
          refine rstep_callW (wanted_none rfl _) 9 #[.agg #[.int .u8 (s.kind : Int), .int .u32 (s.next : Int), .slice y.A y.nF y.cA, .slice y.D y.nD y.cD]] (by go_simp) ?_
          refine (may_any s y.A y.nF y.cA y.D y.nD y.cD w1 (hyV.below hw) (by omega) (by omega) (by omega)).mono ?_
          rintro e w2 ⟨r, rfl, hr, hb⟩
          obtain rfl : r = true := by exact hr.out.2 hm
          exact ⟨hp.put 1 25 (.bool true) (by simp [b6t]) (by simp [b6t]) rfl (by rw [hsz0]; decide), below_step hw hb (Nat.le_refl _)⟩
        · intro L a w1 hI hi hd
          obtain ⟨hp, hw⟩ := hI
          have t1 := hp.at_ 1 _ rfl z1
          have t1' := t1
          rw [Array.getD_eq_getD_getElem?] at t1'
          obtain ⟨x0, x1, x2, x3⟩ := (hbx.below hw hbx.lt).c4
          exact rstep_valW (wanted_none rfl _) (.agg #[.int .u8 (s.kind : Int), .int .u32 (s.next : Int), .slice A nF cA, .slice D nD cD]) w1 (by go_simp) ⟨(hp.put 2 26 (.agg #[.int .u8 (s.kind : Int), .int .u32 (s.next : Int), .slice A nF cA, .slice D nD cD]) (by simp [b6t]) (by simp [b6t]) rfl (by rw [hsz0]; decide)), hw⟩
        · intro L a w1 hI hi hd
          obtain ⟨hp, hw⟩ := hI
          simp [Region.binds] at hd
          have e2 := hp.pu (2, 26, (.agg #[.int .u8 (s.kind : Int), .int .u32 (s.next : Int), .slice A nF cA, .slice D nD cD])) (by simp [b6t]) (by simp [hd])
          simp only at e2
          have f2 : a.tmps[26]?.getD undef = (.agg #[.int .u8 (s.kind : Int), .int .u32 (s.next : Int), .slice A nF cA, .slice D nD cD]) := by rw [← Array.getD_eq_getD_getElem?]; exact e2
          have hi : L 3 = false := hi
          refine rstep_callW (wanted_none rfl _) 25 #[.agg #[.int .u8 (s.kind : Int), .int .u32 (s.next : Int), .slice A nF cA, .slice D nD cD]] (by go_simp) ?_
          refine (refmay8_any s A nF cA D nD cD w1 (hsV.below hw) (by omega) (by omega) (by omega)).mono ?_
          rintro e w2 ⟨r, rfl, hr, hb⟩
          obtain rfl : r = true := by exact hr.out.2 hm
          exact ⟨hp.put 3 27 (.bool true) (by simp [b6t]) (by simp [b6t]) rfl (by rw [hsz0]; decide), below_step hw hb (Nat.le_refl _)⟩
        · intro L a w1 hI hi hd
          obtain ⟨hp, hw⟩ := hI
          simp [Region.binds] at hd
          have e1 := hp.pu (1, 25, (.bool true)) (by simp [b6t]) (by simp [hd])
          simp only at e1
          have f1 : a.tmps[25]?.getD undef = (.bool true) := by rw [← Array.getD_eq_getD_getElem?]; exact e1
          have e3 := hp.pu (3, 27, (.bool true)) (by simp [b6t]) (by simp [hd])
          simp only at e3
          have f3 : a.tmps[27]?.getD undef = (.bool true) := by rw [← Array.getD_eq_getD_getElem?]; exact e3
          exact rstep_valW (wanted_none rfl _) (.bool false) w1 (by go_simp) ⟨(hp.put 4 28 (.bool false) (by simp [b6t]) (by simp [b6t]) rfl (by rw [hsz0]; decide)), hw⟩
      rintro L a W ⟨hp, hw⟩ hL
      have e4 := hp.pu (4, 28, (.bool false)) (by simp [b6t]) (hL 4 (by simp))
      simp only at e4
      rw [hp.eq]
      refine of_assigns (P := Try.prog) _ _ _ _ ?_
      rw [ha0.out]
      simp only [asgs, List.map, e4]
      generalize a.tmps.getD 24 undef = u24
      generalize a.tmps.getD 25 undef = u25
      generalize a.tmps.getD 26 undef = u26
      generalize a.tmps.getD 27 undef = u27
      clear hp hL e4 ha0 z1 z3 hsz0
      clear a0 a L
      have hBW := below_step hBV hw (Nat.le_refl _)
      have hbxW := hbx.below hw hbx.lt
      have hbyW := hby.below hw hby.lt
      have hyW := hyX.below hw (fun k hk => hk)
      have hsW := hs.below hBW
      have hOW := hOV.below hw
      have hggW : g < W.heap.size := Nat.lt_of_lt_of_le hgV hw.size
      clear hBV hbx hby hyX hyV hsV hOV hw hgV
      obtain ⟨x0, x1, x2, x3⟩ := hbxW.c4
      go_wp2_with fail
      refine (refmay8_any s A nF cA D nD cD W hsW (by omega) (by omega) (by omega)).mono ?_
      rintro e V ⟨r, rfl, hr, b6⟩
      obtain rfl := hr.out.2 hm
      have hBV := below_step hBW b6 (Nat.le_refl _)
      have hbx := hbxW.below b6 hbxW.lt
      have hby := hbyW.below b6 hbyW.lt
      have hyX := hyW.below b6 (fun k hk => hk)
      have hsV := hs.below hBV
      have hOV := hOW.below b6
      have hgV := Nat.lt_of_lt_of_le hggW b6.size
      clear x0 x1 x2 x3 hBW hbxW hbyW hyW hsW hOW b6 hggW hr
      obtain ⟨x0, x1, x2, x3⟩ := hbx.c4
      have hcD := hsV.cd
      go_wp2
      go_loop [7, 8] (fun v i => ∃ q : Nat, i = .int .i64 (q : Int) ∧ q ≤ nD ∧ v = .int .i64 (494 - 2 * (nD : Int) - (SltM.sum (s.data.take q) : Int))) (fun _ i => nD - (RowKit.intOf i).toNat)
      case atStart => exact ⟨0, rfl, by omega, by rw [List.take_zero, SltM.sum_nil]; go_num⟩
      case round =>
        obtain ⟨q, rfl, hq, rfl⟩ := hrel
        have hsq := SltM.sum_le (l := s.data) q
        by_cases hlt : q < nD
        · obtain ⟨x, hx⟩ : ∃ x, s.data[q]? = some x := ⟨_, List.getElem?_eq_getElem (by omega)⟩
          obtain ⟨gd, od, B, nx, cb, rfl, hcd, hxn, hxr⟩ := hsV.data_get hx
          have hst := SltM.sum_take hx
          have hsx := SltM.sum_le (l := s.data) (q + 1)
          rw [hxn] at hst
          have hnxs : nx ≤ 3000 := by omega
          have HST := Lib.hid hst
          have HX := Lib.hid hx
          clear hst hx
          go_wp2
          go_round
          case rel => exact ⟨q + 1, by go_num, by omega, by have := HST.out; congr 1; omega⟩
          case measure => simp [RowKit.intOf]; omega
        · obtain rfl : nD = q := by omega
          obtain ⟨F, hF⟩ : ∃ F, SltM.form s = F := ⟨_, rfl⟩
          have hFe := Lib.hid hF
          have hFl : Hid (F.length = 500) := Lib.hid (by rw [← hF]; exact SltM.form_length hm)
          have hOV' : Own V w3.heap.size (some ⟨g, 0, none⟩) 500 F := by rw [← hF]; exact hOV
          clear hF
          have hle : 494 - 2 * (nD : Int) - (SltM.sum (s.data.take nD) : Int) = lf := by
            rw [← HLF.out, ← hlD, List.take_length]
            rfl
          rw [hle]
          have hrd := read8_any (some ⟨g, 0, none⟩) 500 500 F V (hOV'.row) hFl.out (Nat.le_refl _) (by unfold maxLen; omega)
          rw [← hFe.out, SltM.read_form hm hk hnx] at hrd
          have hrd2 : Hid (Calls Try.prog 22 #[.slice (some ⟨g, 0, none⟩) 500 500] V fun e w' => ∃ z : Sls, e = .returned (.tuple #[.agg #[.int .u8 (s.kind : Int), .int .u32 (s.next : Int), .slice z.A z.nF z.cA, .slice z.D z.nD z.cD], .int .i64 0]) ∧ SltX w' (fun k => V.heap.size ≤ k) z s ∧ Below V.heap.size V w') := Lib.hid (hrd.mono fun e w' ⟨A', n1, c1, D', n2, c2, he, hN, hb⟩ => ⟨⟨A', n1, c1, D', n2, c2⟩, he, hN.x.mono (fun k hk => hk.1), hb⟩)
          clear hrd hOV
          go_wp2_with fail
          refine hrd2.out.mono ?_
          rintro e w7 ⟨z, rfl, hz7, b7⟩
          have hz0 := Blk.new w7 26 #[.int .u8 0, .int .u32 0, .slice none 0 0, .slice none 0 0]
          have k0 := hz0.frozen 0
          have k1 := hz0.frozen 1
          have k2 := hz0.frozen 2
          have k3 := hz0.frozen 3
          go_upto_region 16 with fail
          clear hz0 k0 k1 k2 k3 hrd2 x0 x1 x2 x3
          have hbz9 := Blk.new w7 26 #[.int .u8 (s.kind : Int), .int .u32 (s.next : Int), .slice z.A z.nF z.cA, .slice z.D z.nD z.cD]
          have ba : Below w7.heap.size w7 (w7.alloc (.cells #[.int .u8 (s.kind : Int), .int .u32 (s.next : Int), .slice z.A z.nF z.cA, .slice z.D z.nD z.cD] 26)) := (Below.refl w7.heap.size w7).alloc (Nat.le_refl _) _
          have bW := below_step b7 ba (Nat.le_refl _)
          have hz8 := hz7.below ba (fun k hk => hk)
          generalize w7.alloc (.cells #[.int .u8 (s.kind : Int), .int .u32 (s.next : Int), .slice z.A z.nF z.cA, .slice z.D z.nD z.cD] 26) = W at *
          have hB8 := below_step hBV bW (Nat.le_refl _)
          have hbx8 := hbx.below bW hbx.lt
          have hby8 := hby.below bW hby.lt
          have hy8 := hyX.below bW (fun k hk => hk)
          have hs8 := hs.below hB8
          have hO8 := hOV'.below bW
          have hgV9 := Nat.lt_of_lt_of_le hgV b7.size
          obtain ⟨g9, hg9⟩ : ∃ g9, w7.heap.size = g9 := ⟨_, rfl⟩
          rw [hg9] at hbz9 hgV9 ⊢
          have hzn := hz8.nums hbd
          have hzF := hzn.1
          have hzD := hzn.2
          have hgVV := hgV
          obtain ⟨vb, hvb⟩ : ∃ vb, V.heap.size = vb := ⟨_, rfl⟩
          rw [hvb] at hz8 hgVV
          clear hz7 b7 ba bW hBV hbx hby hyX hsV hOV' hgV hg9 hvb hcD hzn
          have hbx := hbx8
          have hby := hby8
          have hbz := hbz9
          have hsV := hs8
          have hzV := hz8.at_
          have hrb := hO8.row
          refine wp_named fun a0 ha0 => ?_
          have z1 : a0.tmps.getD 1 undef = .pointer (some ⟨g1, 0, none⟩) := by rw [ha0.out]; rfl
          have z4 : a0.tmps.getD 4 undef = .slice (some ⟨g, 0, none⟩) 500 500 := by rw [ha0.out]; rfl
          have z5 : a0.tmps.getD 5 undef = .int .i64 0 := by rw [ha0.out]; rfl
          have z6 : a0.tmps.getD 6 undef = .int .i64 lf := by rw [ha0.out]; rfl
          have z7 : a0.tmps.getD 7 undef = .int .i64 lf := by rw [ha0.out]; rfl
          have z9 : a0.tmps.getD 9 undef = .pointer (some ⟨g9, 0, none⟩) := by rw [ha0.out]; rfl
          have z10 : a0.tmps.getD 10 undef = .int .i64 0 := by rw [ha0.out]; rfl
          have hsz0 : a0.tmps.size = 121 := by rw [ha0.out]; rfl
          refine wp_region_invB _ (by kernel_rfl) (fun L a wv => ∃ A' c', PIF a0 [76, 77, 78, 79, 80, 81, 82, 83, 84, 85, 86, 87, 88, 89, 90, 91, 92, 93, 94, 95, 96, 97, 98, 99, 100] (b16 s A nF cA D nD cD z g lf F A' c') L a ∧ BfW W A' F (L 15) wv) (by kernel_rfl) ?_ ?_ ?_
          · exact ⟨none, 0, PIF.start _ _ _, ⟨rfl, rfl, rfl, Nat.le_refl _, fun _ _ => rfl⟩, nofun⟩
          rotate_left
          · refine ⟨?_, ?_, ?_, ?_, ?_, ?_, ?_, ?_, ?_, ?_, ?_, ?_, ?_, ?_, ?_, ?_, ?_, ?_, ?_, ?_, ?_, ?_, ?_, ?_, ?_, trivial⟩
            · intro L a w1 hI hi hd
              obtain ⟨A', c', hp, hw⟩ := hI
              have t5 := hp.at_ 5 _ rfl z5
              have t5' := t5
              rw [Array.getD_eq_getD_getElem?] at t5'
              exact rstep_valW (wanted_none rfl _) (.int .i64 0) w1 (by go_simp) ⟨A', c', (hp.put 0 76 (.int .i64 0) (by simp [b16]) (by simp [b16]) rfl (by rw [hsz0]; decide)), hw⟩
            · intro L a w1 hI hi hd
              obtain ⟨A', c', hp, hw⟩ := hI
              simp [Region.binds] at hd
              have e0 := hp.pu (0, 76, (.int .i64 0)) (by simp [b16]) (by simp [hd])
              simp only at e0
              have f0 : a.tmps[76]?.getD undef = (.int .i64 0) := by rw [← Array.getD_eq_getD_getElem?]; exact e0
              exact rstep_valW (wanted_none rfl _) (.bool false) w1 (by go_simp) ⟨A', c', (hp.put 1 77 (.bool false) (by simp [b16]) (by simp [b16]) rfl (by rw [hsz0]; decide)), hw⟩
            · intro L a w1 hI hi hd
              obtain ⟨A', c', hp, hw⟩ := hI
              simp [Region.binds] at hd
              have e1 := hp.pu (1, 77, (.bool false)) (by simp [b16]) (by simp [hd])
              simp only at e1
              have f1 : a.tmps[77]?.getD undef = (.bool false) := by rw [← Array.getD_eq_getD_getElem?]; exact e1
              exact rstep_valW (wanted_none rfl _) (.bool false) w1 (by go_simp) ⟨A', c', (hp.put 2 78 (.bool false) (by simp [b16]) (by simp [b16]) rfl (by rw [hsz0]; decide)), hw⟩
            · intro L a w1 hI hi hd
              obtain ⟨A', c', hp, hw⟩ := hI
              simp [Region.binds] at hd
              have e2 := hp.pu (2, 78, (.bool false)) (by simp [b16]) (by simp [hd])
              simp only at e2
              have f2 : a.tmps[78]?.getD undef = (.bool false) := by rw [← Array.getD_eq_getD_getElem?]; exact e2
              have t10 := hp.at_ 10 _ rfl z10
              have t10' := t10
              rw [Array.getD_eq_getD_getElem?] at t10'
              exact rstep_valW (wanted_of 2 78 false rfl rfl e2) (.int .i64 0) w1 (by go_simp) ⟨A', c', (hp.put 3 79 (.int .i64 0) (by simp [b16]) (by simp [b16]) rfl (by rw [hsz0]; decide)), hw⟩
            · intro L a w1 hI hi hd
              obtain ⟨A', c', hp, hw⟩ := hI
              simp [Region.binds] at hd
              have e2 := hp.pu (2, 78, (.bool false)) (by simp [b16]) (by simp [hd])
              simp only at e2
              have f2 : a.tmps[78]?.getD undef = (.bool false) := by rw [← Array.getD_eq_getD_getElem?]; exact e2
              have e3 := hp.pu (3, 79, (.int .i64 0)) (by simp [b16]) (by simp [hd])
              simp only at e3
              have f3 : a.tmps[79]?.getD undef = (.int .i64 0) := by rw [← Array.getD_eq_getD_getElem?]; exact e3
              exact rstep_valW (wanted_of 2 78 false rfl rfl e2) (.bool false) w1 (by go_simp) ⟨A', c', (hp.put 4 80 (.bool false) (by simp [b16]) (by simp [b16]) rfl (by rw [hsz0]; decide)), hw⟩
            · intro L a w1 hI hi hd
              obtain ⟨A', c', hp, hw⟩ := hI
              simp [Region.binds] at hd
              have e2 := hp.pu (2, 78, (.bool false)) (by simp [b16]) (by simp [hd])
              simp only at e2
              have f2 : a.tmps[78]?.getD undef = (.bool false) := by rw [← Array.getD_eq_getD_getElem?]; exact e2
              have e4 := hp.pu (4, 80, (.bool false)) (by simp [b16]) (by simp [hd])
              simp only at e4
              have f4 : a.tmps[80]?.getD undef = (.bool false) := by rw [← Array.getD_eq_getD_getElem?]; exact e4
              exact rstep_valW (wanted_none rfl _) (.bool false) w1 (by go_simp) ⟨A', c', (hp.put 5 81 (.bool false) (by simp [b16]) (by simp [b16]) rfl (by rw [hsz0]; decide)), hw⟩
            · intro L a w1 hI hi hd
              obtain ⟨A', c', hp, hw⟩ := hI
              simp [Region.binds] at hd
              have e5 := hp.pu (5, 81, (.bool false)) (by simp [b16]) (by simp [hd])
              simp only at e5
              have f5 : a.tmps[81]?.getD undef = (.bool false) := by rw [← Array.getD_eq_getD_getElem?]; exact e5
              exact rstep_valW (wanted_none rfl _) (.bool false) w1 (by go_simp) ⟨A', c', (hp.put 6 82 (.bool false) (by simp [b16]) (by simp [b16]) rfl (by rw [hsz0]; decide)), hw⟩
            · intro L a w1 hI hi hd
              obtain ⟨A', c', hp, hw⟩ := hI
              simp [Region.binds] at hd
              have e6 := hp.pu (6, 82, (.bool false)) (by simp [b16]) (by simp [hd])
              simp only at e6
              have f6 : a.tmps[82]?.getD undef = (.bool false) := by rw [← Array.getD_eq_getD_getElem?]; exact e6
              have t6 := hp.at_ 6 _ rfl z6
              have t6' := t6
              rw [Array.getD_eq_getD_getElem?] at t6'
              exact rstep_valW (wanted_of 6 82 false rfl rfl e6) (.int .i64 lf) w1 (by go_simp) ⟨A', c', (hp.put 7 83 (.int .i64 lf) (by simp [b16]) (by simp [b16]) rfl (by rw [hsz0]; decide)), hw⟩
            · intro L a w1 hI hi hd
              obtain ⟨A', c', hp, hw⟩ := hI
              simp [Region.binds] at hd
              have e6 := hp.pu (6, 82, (.bool false)) (by simp [b16]) (by simp [hd])
              simp only at e6
              have f6 : a.tmps[82]?.getD undef = (.bool false) := by rw [← Array.getD_eq_getD_getElem?]; exact e6
              have t7 := hp.at_ 7 _ rfl z7
              have t7' := t7
              rw [Array.getD_eq_getD_getElem?] at t7'
              exact rstep_valW (wanted_of 6 82 false rfl rfl e6) (.int .i64 lf) w1 (by go_simp) ⟨A', c', (hp.put 8 84 (.int .i64 lf) (by simp [b16]) (by simp [b16]) rfl (by rw [hsz0]; decide)), hw⟩
            · intro L a w1 hI hi hd
              obtain ⟨A', c', hp, hw⟩ := hI
              simp [Region.binds] at hd
              have e6 := hp.pu (6, 82, (.bool false)) (by simp [b16]) (by simp [hd])
              simp only at e6
              have f6 : a.tmps[82]?.getD undef = (.bool false) := by rw [← Array.getD_eq_getD_getElem?]; exact e6
              have e7 := hp.pu (7, 83, (.int .i64 lf)) (by simp [b16]) (by simp [hd])
              simp only at e7
              have f7 : a.tmps[83]?.getD undef = (.int .i64 lf) := by rw [← Array.getD_eq_getD_getElem?]; exact e7
              have e8 := hp.pu (8, 84, (.int .i64 lf)) (by simp [b16]) (by simp [hd])
              simp only at e8
              have f8 : a.tmps[84]?.getD undef = (.int .i64 lf) := by rw [← Array.getD_eq_getD_getElem?]; exact e8
              exact rstep_valW (wanted_of 6 82 false rfl rfl e6) (.bool false) w1 (by go_simp) ⟨A', c', (hp.put 9 85 (.bool false) (by simp [b16]) (by simp [b16]) rfl (by rw [hsz0]; decide)), hw⟩
            · intro L a w1 hI hi hd
              obtain ⟨A', c', hp, hw⟩ := hI
              simp [Region.binds] at hd
              have e6 := hp.pu (6, 82, (.bool false)) (by simp [b16]) (by simp [hd])
              simp only at e6
              have f6 : a.tmps[82]?.getD undef = (.bool false) := by rw [← Array.getD_eq_getD_getElem?]; exact e6
              have e9 := hp.pu (9, 85, (.bool false)) (by simp [b16]) (by simp [hd])
              simp only at e9
              have f9 : a.tmps[85]?.getD undef = (.bool false) := by rw [← Array.getD_eq_getD_getElem?]; exact e9
              exact rstep_valW (wanted_none rfl _) (.bool false) w1 (by go_simp) ⟨A', c', (hp.put 10 86 (.bool false) (by simp [b16]) (by simp [b16]) rfl (by rw [hsz0]; decide)), hw⟩
            · intro L a w1 hI hi hd
              obtain ⟨A', c', hp, hw⟩ := hI
              simp [Region.binds] at hd
              have e10 := hp.pu (10, 86, (.bool false)) (by simp [b16]) (by simp [hd])
              simp only at e10
              have f10 : a.tmps[86]?.getD undef = (.bool false) := by rw [← Array.getD_eq_getD_getElem?]; exact e10
              exact rstep_valW (wanted_none rfl _) (.bool false) w1 (by go_simp) ⟨A', c', (hp.put 11 87 (.bool false) (by simp [b16]) (by simp [b16]) rfl (by rw [hsz0]; decide)), hw⟩
            · intro L a w1 hI hi hd
              obtain ⟨A', c', hp, hw⟩ := hI
              simp [Region.binds] at hd
              have e11 := hp.pu (11, 87, (.bool false)) (by simp [b16]) (by simp [hd])
              simp only at e11
              have f11 : a.tmps[87]?.getD undef = (.bool false) := by rw [← Array.getD_eq_getD_getElem?]; exact e11
              have t4 := hp.at_ 4 _ rfl z4
              have t4' := t4
              rw [Array.getD_eq_getD_getElem?] at t4'
              exact rstep_valW (wanted_of 11 87 false rfl rfl e11) (.slice (some ⟨g, 0, none⟩) 500 500) w1 (by go_simp) ⟨A', c', (hp.put 12 88 (.slice (some ⟨g, 0, none⟩) 500 500) (by simp [b16]) (by simp [b16]) rfl (by rw [hsz0]; decide)), hw⟩
            · intro L a w1 hI hi hd
              obtain ⟨A', c', hp, hw⟩ := hI
              simp [Region.binds] at hd
              have e11 := hp.pu (11, 87, (.bool false)) (by simp [b16]) (by simp [hd])
              simp only at e11
              have f11 : a.tmps[87]?.getD undef = (.bool false) := by rw [← Array.getD_eq_getD_getElem?]; exact e11
              have e12 := hp.pu (12, 88, (.slice (some ⟨g, 0, none⟩) 500 500)) (by simp [b16]) (by simp [hd])
              simp only at e12
              have f12 : a.tmps[88]?.getD undef = (.slice (some ⟨g, 0, none⟩) 500 500) := by rw [← Array.getD_eq_getD_getElem?]; exact e12
              have s13 := str_len w1 (some ⟨g, 0, none⟩) 500 500 F hFl.out (hrb.below hw.bel)
              exact rstep_valW (wanted_of 11 87 false rfl rfl e11) (.string (str F)) w1 (by go_simp) ⟨A', c', (hp.put 13 89 (.string (str F)) (by simp [b16]) (by simp [b16]) rfl (by rw [hsz0]; decide)), hw⟩
            · intro L a w1 hI hi hd
              obtain ⟨A', c', hp, hw⟩ := hI
              simp [Region.binds] at hd
              have e11 := hp.pu (11, 87, (.bool false)) (by simp [b16]) (by simp [hd])
              simp only at e11
              have f11 : a.tmps[87]?.getD undef = (.bool false) := by rw [← Array.getD_eq_getD_getElem?]; exact e11
              have t1 := hp.at_ 1 _ rfl z1
              have t1' := t1
              rw [Array.getD_eq_getD_getElem?] at t1'
              obtain ⟨x0, x1, x2, x3⟩ := (hbx.below hw.bel hbx.lt).c4
              exact rstep_valW (wanted_of 11 87 false rfl rfl e11) (.agg #[.int .u8 (s.kind : Int), .int .u32 (s.next : Int), .slice A nF cA, .slice D nD cD]) w1 (by go_simp) ⟨A', c', (hp.put 14 90 (.agg #[.int .u8 (s.kind : Int), .int .u32 (s.next : Int), .slice A nF cA, .slice D nD cD]) (by simp [b16]) (by simp [b16]) rfl (by rw [hsz0]; decide)), hw⟩
            · intro L a w1 hI hi hd
              obtain ⟨A', c', hp, hw⟩ := hI
              simp [Region.binds] at hd
              have e11 := hp.pu (11, 87, (.bool false)) (by simp [b16]) (by simp [hd])
              simp only at e11
              have f11 : a.tmps[87]?.getD undef = (.bool false) := by rw [← Array.getD_eq_getD_getElem?]; exact e11
              have e14 := hp.pu (14, 90, (.agg #[.int .u8 (s.kind : Int), .int .u32 (s.next : Int), .slice A nF cA, .slice D nD cD])) (by simp [b16]) (by simp [hd])
              simp only at e14
              have f14 : a.tmps[90]?.getD undef = (.agg #[.int .u8 (s.kind : Int), .int .u32 (s.next : Int), .slice A nF cA, .slice D nD cD]) := by rw [← Array.getD_eq_getD_getElem?]; exact e14
              have hi : L 15 = false := hi
              refine rstep_callW (wanted_of 11 87 false rfl rfl e11) 26 #[.agg #[.int .u8 (s.kind : Int), .int .u32 (s.next : Int), .slice A nF cA, .slice D nD cD]] (by go_simp) ?_
              refine (refform8_any s A nF cA D nD cD w1 (hsV.below hw.bel) hm hk hnx).mono ?_
              rintro e w2 ⟨A2, n2, c2, rfl, hn2, hO, hb⟩
              rw [hFe.out] at hn2 hO
              obtain rfl : 500 = n2 := by rw [← hFl.out]; exact hn2.out
              exact ⟨A2, c2, PIF.put (PIF.swap (p2 := (b16 s A nF cA D nD cD z g lf F A2 c2)) hp (by intro q hq hL; simp only [b16, List.mem_cons, List.not_mem_nil, or_false] at hq; rcases hq with rfl | rfl | rfl | rfl | rfl | rfl | rfl | rfl | rfl | rfl | rfl | rfl | rfl | rfl | rfl | rfl | rfl | rfl | rfl | rfl | rfl | rfl | rfl | rfl | rfl <;> first | (simp [b16]; done) | exact absurd hL (by show ¬ L 15 = true; rw [hi]; simp))) 15 91 (.slice A2 500 c2) (by simp [b16]) (by simp [b16]) rfl (by rw [hsz0]; decide), below_step hw.bel hb (Nat.le_refl _), fun _ => hO.row⟩
            · intro L a w1 hI hi hd
              obtain ⟨A', c', hp, hw⟩ := hI
              simp [Region.binds] at hd
              have e11 := hp.pu (11, 87, (.bool false)) (by simp [b16]) (by simp [hd])
              simp only at e11
              have f11 : a.tmps[87]?.getD undef = (.bool false) := by rw [← Array.getD_eq_getD_getElem?]; exact e11
              have e15 := hp.pu (15, 91, (.slice A' 500 c')) (by simp [b16]) (by simp [hd])
              simp only at e15
              have f15 : a.tmps[91]?.getD undef = (.slice A' 500 c') := by rw [← Array.getD_eq_getD_getElem?]; exact e15
              have s16 := str_len w1 A' 500 c' F hFl.out (hw.f15 (by simp [hd]))
              exact rstep_valW (wanted_of 11 87 false rfl rfl e11) (.string (str F)) w1 (by go_simp) ⟨A', c', (hp.put 16 92 (.string (str F)) (by simp [b16]) (by simp [b16]) rfl (by rw [hsz0]; decide)), hw⟩
            · intro L a w1 hI hi hd
              obtain ⟨A', c', hp, hw⟩ := hI
              simp [Region.binds] at hd
              have e11 := hp.pu (11, 87, (.bool false)) (by simp [b16]) (by simp [hd])
              simp only at e11
              have f11 : a.tmps[87]?.getD undef = (.bool false) := by rw [← Array.getD_eq_getD_getElem?]; exact e11
              have e13 := hp.pu (13, 89, (.string (str F))) (by simp [b16]) (by simp [hd])
              simp only at e13
              have f13 : a.tmps[89]?.getD undef = (.string (str F)) := by rw [← Array.getD_eq_getD_getElem?]; exact e13
              have e16 := hp.pu (16, 92, (.string (str F))) (by simp [b16]) (by simp [hd])
              simp only at e16
              have f16 : a.tmps[92]?.getD undef = (.string (str F)) := by rw [← Array.getD_eq_getD_getElem?]; exact e16
              have hse := str_beq F F
              have hsf : ((str F).toList == (str F).toList) = true := by rw [hse]; simp
              exact rstep_valW (wanted_of 11 87 false rfl rfl e11) (.bool false) w1 (by go_simp) ⟨A', c', (hp.put 17 93 (.bool false) (by simp [b16]) (by simp [b16]) rfl (by rw [hsz0]; decide)), hw⟩
            · intro L a w1 hI hi hd
              obtain ⟨A', c', hp, hw⟩ := hI
              simp [Region.binds] at hd
              have e11 := hp.pu (11, 87, (.bool false)) (by simp [b16]) (by simp [hd])
              simp only at e11
              have f11 : a.tmps[87]?.getD undef = (.bool false) := by rw [← Array.getD_eq_getD_getElem?]; exact e11
              have e17 := hp.pu (17, 93, (.bool false)) (by simp [b16]) (by simp [hd])
              simp only at e17
              have f17 : a.tmps[93]?.getD undef = (.bool false) := by rw [← Array.getD_eq_getD_getElem?]; exact e17
              exact rstep_valW (wanted_none rfl _) (.bool false) w1 (by go_simp) ⟨A', c', (hp.put 18 94 (.bool false) (by simp [b16]) (by simp [b16]) rfl (by rw [hsz0]; decide)), hw⟩
            · intro L a w1 hI hi hd
              obtain ⟨A', c', hp, hw⟩ := hI
              simp [Region.binds] at hd
              have e18 := hp.pu (18, 94, (.bool false)) (by simp [b16]) (by simp [hd])
              simp only at e18
              have f18 : a.tmps[94]?.getD undef = (.bool false) := by rw [← Array.getD_eq_getD_getElem?]; exact e18
              exact rstep_valW (wanted_none rfl _) (.bool false) w1 (by go_simp) ⟨A', c', (hp.put 19 95 (.bool false) (by simp [b16]) (by simp [b16]) rfl (by rw [hsz0]; decide)), hw⟩
            · intro L a w1 hI hi hd
              obtain ⟨A', c', hp, hw⟩ := hI
              simp [Region.binds] at hd
              have e19 := hp.pu (19, 95, (.bool false)) (by simp [b16]) (by simp [hd])
              simp only at e19
              have f19 : a.tmps[95]?.getD undef = (.bool false) := by rw [← Array.getD_eq_getD_getElem?]; exact e19
              have t9 := hp.at_ 9 _ rfl z9
              have t9' := t9
              rw [Array.getD_eq_getD_getElem?] at t9'
              obtain ⟨t0, t1, t2, t3⟩ := (hbz.below hw.bel hbz.lt).c4
              exact rstep_valW (wanted_of 19 95 false rfl rfl e19) (.agg #[.int .u8 (s.kind : Int), .int .u32 (s.next : Int), .slice z.A z.nF z.cA, .slice z.D z.nD z.cD]) w1 (by go_simp) ⟨A', c', (hp.put 20 96 (.agg #[.int .u8 (s.kind : Int), .int .u32 (s.next : Int), .slice z.A z.nF z.cA, .slice z.D z.nD z.cD]) (by simp [b16]) (by simp [b16]) rfl (by rw [hsz0]; decide)), hw⟩
            · intro L a w1 hI hi hd
              obtain ⟨A', c', hp, hw⟩ := hI
              simp [Region.binds] at hd
              have e19 := hp.pu (19, 95, (.bool false)) (by simp [b16]) (by simp [hd])
              simp only at e19
              have f19 : a.tmps[95]?.getD undef = (.bool false) := by rw [← Array.getD_eq_getD_getElem?]; exact e19
              have t1 := hp.at_ 1 _ rfl z1
              have t1' := t1
              rw [Array.getD_eq_getD_getElem?] at t1'
              obtain ⟨x0, x1, x2, x3⟩ := (hbx.below hw.bel hbx.lt).c4
              exact rstep_valW (wanted_of 19 95 false rfl rfl e19) (.agg #[.int .u8 (s.kind : Int), .int .u32 (s.next : Int), .slice A nF cA, .slice D nD cD]) w1 (by go_simp) ⟨A', c', (hp.put 21 97 (.agg #[.int .u8 (s.kind : Int), .int .u32 (s.next : Int), .slice A nF cA, .slice D nD cD]) (by simp [b16]) (by simp [b16]) rfl (by rw [hsz0]; decide)), hw⟩
            · intro L a w1 hI hi hd
              obtain ⟨A', c', hp, hw⟩ := hI
              simp [Region.binds] at hd
              have e19 := hp.pu (19, 95, (.bool false)) (by simp [b16]) (by simp [hd])
              simp only at e19
              have f19 : a.tmps[95]?.getD undef = (.bool false) := by rw [← Array.getD_eq_getD_getElem?]; exact e19
              have e20 := hp.pu (20, 96, (.agg #[.int .u8 (s.kind : Int), .int .u32 (s.next : Int), .slice z.A z.nF z.cA, .slice z.D z.nD z.cD])) (by simp [b16]) (by simp [hd])
              simp only at e20
              have f20 : a.tmps[96]?.getD undef = (.agg #[.int .u8 (s.kind : Int), .int .u32 (s.next : Int), .slice z.A z.nF z.cA, .slice z.D z.nD z.cD]) := by rw [← Array.getD_eq_getD_getElem?]; exact e20
              have e21 := hp.pu (21, 97, (.agg #[.int .u8 (s.kind : Int), .int .u32 (s.next : Int), .slice A nF cA, .slice D nD cD])) (by simp [b16]) (by simp [hd])
              simp only at e21
              have f21 : a.tmps[97]?.getD undef = (.agg #[.int .u8 (s.kind : Int), .int .u32 (s.next : Int), .slice A nF cA, .slice D nD cD]) := by rw [← Array.getD_eq_getD_getElem?]; exact e21
              have hi : L 22 = false := hi
              refine rstep_callW (wanted_of 19 95 false rfl rfl e19) 14 #[.agg #[.int .u8 (s.kind : Int), .int .u32 (s.next : Int), .slice z.A z.nF z.cA, .slice z.D z.nD z.cD], .agg #[.int .u8 (s.kind : Int), .int .u32 (s.next : Int), .slice A nF cA, .slice D nD cD]] (by go_simp) ?_
              refine (same_any s s z.A z.nF z.cA z.D z.nD z.cD A nF cA D nD cD w1 (hzV.below hw.bel) (hsV.below hw.bel) (by omega) (by omega)).mono ?_
              rintro e w2 ⟨r, rfl, hr, hb⟩
              obtain rfl := hr.out.2 rfl
              exact ⟨A', c', hp.put 22 98 (.bool true) (by simp [b16]) (by simp [b16]) rfl (by rw [hsz0]; decide), hw.step hb⟩
            · intro L a w1 hI hi hd
              obtain ⟨A', c', hp, hw⟩ := hI
              simp [Region.binds] at hd
              have e19 := hp.pu (19, 95, (.bool false)) (by simp [b16]) (by simp [hd])
              simp only at e19
              have f19 : a.tmps[95]?.getD undef = (.bool false) := by rw [← Array.getD_eq_getD_getElem?]; exact e19
              have e22 := hp.pu (22, 98, (.bool true)) (by simp [b16]) (by simp [hd])
              simp only at e22
              have f22 : a.tmps[98]?.getD undef = (.bool true) := by rw [← Array.getD_eq_getD_getElem?]; exact e22
              exact rstep_valW (wanted_of 19 95 false rfl rfl e19) (.bool false) w1 (by go_simp) ⟨A', c', (hp.put 23 99 (.bool false) (by simp [b16]) (by simp [b16]) rfl (by rw [hsz0]; decide)), hw⟩
            · intro L a w1 hI hi hd
              obtain ⟨A', c', hp, hw⟩ := hI
              simp [Region.binds] at hd
              have e19 := hp.pu (19, 95, (.bool false)) (by simp [b16]) (by simp [hd])
              simp only at e19
              have f19 : a.tmps[95]?.getD undef = (.bool false) := by rw [← Array.getD_eq_getD_getElem?]; exact e19
              have e23 := hp.pu (23, 99, (.bool false)) (by simp [b16]) (by simp [hd])
              simp only at e23
              have f23 : a.tmps[99]?.getD undef = (.bool false) := by rw [← Array.getD_eq_getD_getElem?]; exact e23
              exact rstep_valW (wanted_none rfl _) (.bool false) w1 (by go_simp) ⟨A', c', (hp.put 24 100 (.bool false) (by simp [b16]) (by simp [b16]) rfl (by rw [hsz0]; decide)), hw⟩
          rintro L a X ⟨A', c', hp, hw⟩ hL
          have e24 := hp.pu (24, 100, (.bool false)) (by simp [b16]) (hL 24 (by simp))
          simp only at e24
          have hwb := hw.bel
          rw [hp.eq]
          refine of_assigns (P := Try.prog) _ _ _ _ ?_
          rw [ha0.out]
          simp only [asgs, List.map, e24]
          generalize a.tmps.getD 76 undef = u76
          generalize a.tmps.getD 77 undef = u77
          generalize a.tmps.getD 78 undef = u78
          generalize a.tmps.getD 79 undef = u79
          generalize a.tmps.getD 80 undef = u80
          generalize a.tmps.getD 81 undef = u81
          generalize a.tmps.getD 82 undef = u82
          generalize a.tmps.getD 83 undef = u83
          generalize a.tmps.getD 84 undef = u84
          generalize a.tmps.getD 85 undef = u85
          generalize a.tmps.getD 86 undef = u86
          generalize a.tmps.getD 87 undef = u87
          generalize a.tmps.getD 88 undef = u88
          generalize a.tmps.getD 89 undef = u89
          generalize a.tmps.getD 90 undef = u90
          generalize a.tmps.getD 91 undef = u91
          generalize a.tmps.getD 92 undef = u92
          generalize a.tmps.getD 93 undef = u93
          generalize a.tmps.getD 94 undef = u94
          generalize a.tmps.getD 95 undef = u95
          generalize a.tmps.getD 96 undef = u96
          generalize a.tmps.getD 97 undef = u97
          generalize a.tmps.getD 98 undef = u98
          generalize a.tmps.getD 99 undef = u99
          clear hp hw hL e24 ha0 z1 z4 z5 z6 z7 z9 z10 hsz0
          clear a0 a L
          have hBX := below_step hB8 hwb (Nat.le_refl _)
          have hbxX := hbx.below hwb hbx.lt
          have hbyX := hby.below hwb hby.lt
          have hbzX := hbz.below hwb hbz.lt
          have hyXX := hy8.below hwb (fun k hk => hk)
          have hzXX := hz8.below hwb (fun k hk => hk)
          have hOX := hO8.below hwb
          obtain ⟨cs, hcb, hcz⟩ : ∃ cs, Blk X g 5 cs ∧ cs.size = 500 := by
            unfold Own at hOX
            rw [hFl.out] at hOX
            rcases hOX.2 with ⟨hv, hn⟩ | ⟨g', cap, cur, hv, hb, hg, r1, r2, r3, r4⟩
            · cases hv
            · injection hv with e1 e2 e3
              injection e1 with e1
              injection e1 with e1
              subst e1 e3
              exact ⟨cur, hg, by omega⟩
          clear hB8 hbx8 hby8 hy8 hs8 hO8 hz8 hbx hby hbz hsV hzV hrb hwb hOX hbz9
          go_wp2
          go_loopw [11] (fun i wr => ∃ (q : Nat) (cs : Array Value), i = .int .i64 (q : Int) ∧ q ≤ 500 ∧ Blk wr g 5 cs ∧ cs.size = 500 ∧ X.grownBy wr (some g)) (fun i _ => 500 - (RowKit.intOf i).toNat)
          case atStart => exact ⟨0, cs, rfl, by omega, hcb, hcz, World.grownBy.refl _ _⟩
          case round =>
            clear hcb hcz cs
            obtain ⟨q, cs, rfl, hq, hcb, hcz, hgr⟩ := hrel
            by_cases hlt : q < 500
            · have hcell := hcb.cell q
              rw [Array.getElem?_eq_getElem (by omega)] at hcell
              have hfr := hcb.frozen q
              go_wp2
              go_roundw
              case rel => exact ⟨q + 1, _, by go_num, by omega, hcb.set_ q _, by simp; exact hcz, hgr.trans (grownBy_setCell _ _ _ _)⟩
              case measure => simp [RowKit.intOf]; omega
            · obtain rfl : 500 = q := by omega
              have hBr := below_grown hBX hgr hBX.size (by have := HG1.out; omega)
              have hbxr := hbxX.grown hgr (fun q => by injection q with q; omega)
              have hbyr := hbyX.grown hgr (fun q => by injection q with q; omega)
              have hbzr := hbzX.grown hgr (fun q => by injection q with q; omega)
              have hyr := (hyXX.grown hgr (by intro h; have := h.2; omega)).at_
              have hzr := (hzXX.grown hgr (by intro h; omega)).at_
              have hsr := hs.below hBr
              clear hBX hbxX hbyX hbzX hyXX hzXX hgr hcb hcz
              obtain ⟨x0, x1, x2, x3⟩ := hbxr.c4
              obtain ⟨t0, t1, t2, t3⟩ := hbzr.c4
              go_wp2_with fail
              refine (same_any s s z.A z.nF z.cA z.D z.nD z.cD A nF cA D nD cD wr hzr hsr (by omega) (by omega)).mono ?_
              rintro e wa ⟨r, rfl, hr, ha⟩
              obtain rfl := hr.out.2 rfl
              have hBa := below_step hBr ha (Nat.le_refl _)
              have hbxa := hbxr.below ha hbxr.lt
              have hbya := hbyr.below ha hbyr.lt
              have hya := hyr.below ha
              have hsa := hsr.below ha
              clear x0 x1 x2 x3 t0 t1 t2 t3 hbxr hbyr hbzr hyr hzr hsr ha hBr hr
              obtain ⟨x0, x1, x2, x3⟩ := hbxa.c4
              obtain ⟨y0, y1, y2, y3⟩ := hbya.c4
              go_wp2_with fail
              refine (same_any s s y.A y.nF y.cA y.D y.nD y.cD A nF cA D nD cD wa hya hsa (by omega) (by omega)).mono ?_
              rintro e wb ⟨r, rfl, hr, hb⟩
              obtain rfl := hr.out.2 rfl
              have hBb := below_step hBa hb (Nat.le_refl _)
              clear x0 x1 x2 x3 y0 y1 y2 y3 hbxa hbya hya hsa hb hBa hr
              go_wp2_with fail
              refine (known08_any _).mono ?_
              rintro e wz ⟨rfl, hbz9⟩
              go_wp2
              go_ret
              exact ⟨rfl, below_step hBb hbz9 (Nat.le_refl _)⟩
    · refine (bytes8_no s y.A y.nF y.cA y.D y.nD y.cD w3 hy3.at_ (by omega) (by omega) (by omega) hm).mono ?_
      rintro e w4 ⟨rfl, b4⟩
      have hB4 := below_step hB3 b4 (Nat.le_refl _)
      have hbx4 := hbx3.below b4 hbx3.lt
      have hby4 := hby3.below b4 hby3.lt
      have hy4 := hy3.below b4 (fun k hk => hk)
      clear hB3 hbx3 hby3 hy3 b4
      obtain ⟨y0, y1, y2, y3⟩ := hby4.c4
      go_wp2_with fail
      refine (room_no s y.A y.nF y.cA y.D y.nD y.cD w4 hy4.at_ (by omega) (by omega) (by omega) hm).mono ?_
      rintro e V ⟨rfl, b5⟩
      have hBV := below_step hB4 b5 (Nat.le_refl _)
      have hbx := hbx4.below b5 hbx4.lt
      have hby := hby4.below b5 hby4.lt
      have hyV := (hy4.below b5 (fun k hk => hk)).at_
      have hsV := hs.below hBV
      clear hB4 hbx4 hby4 hy4 b5 y0 y1 y2 y3
      go_upto_region 6 with fail
      refine wp_named fun a0 ha0 => ?_
      have z1 : a0.tmps.getD 1 undef = .pointer (some ⟨g1, 0, none⟩) := by rw [ha0.out]; rfl
      have z3 : a0.tmps.getD 3 undef = .pointer (some ⟨g3, 0, none⟩) := by rw [ha0.out]; rfl
      have hsz0 : a0.tmps.size = 121 := by rw [ha0.out]; rfl
      refine wp_region_invB _ (by kernel_rfl) (fun L a wv => PIF a0 [24, 25, 26, 27, 28] (b6f s A nF cA D nD cD y) L a ∧ Below V.heap.size V wv) (by kernel_rfl) ?_ ?_ ?_
      · exact ⟨PIF.start _ _ _, ⟨rfl, rfl, rfl, Nat.le_refl _, fun _ _ => rfl⟩⟩
      rotate_left
      · refine ⟨?_, ?_, ?_, ?_, ?_, trivial⟩
        · intro L a w1 hI hi hd
          obtain ⟨hp, hw⟩ := hI
          have t3 := hp.at_ 3 _ rfl z3
          have t3' := t3
          rw [Array.getD_eq_getD_getElem?] at t3'
          obtain ⟨y0, y1, y2, y3⟩ := (hby.below hw hby.lt).c4
          exact rstep_valW (wanted_none rfl _) (.agg #[.int .u8 (s.kind : Int), .int .u32 (s.next : Int), .slice y.A y.nF y.cA, .slice y.D y.nD y.cD]) w1 (by go_simp) ⟨(hp.put 0 24 (.agg #[.int .u8 (s.kind : Int), .int .u32 (s.next : Int), .slice y.A y.nF y.cA, .slice y.D y.nD y.cD]) (by simp [b6f]) (by simp [b6f]) rfl (by rw [hsz0]; decide)), hw⟩
        · intro L a w1 hI hi hd
          obtain ⟨hp, hw⟩ := hI
          simp [Region.binds] at hd
          have e0 := hp.pu (0, 24, (.agg #[.int .u8 (s.kind : Int), .int .u32 (s.next : Int), .slice y.A y.nF y.cA, .slice y.D y.nD y.cD])) (by simp [b6f]) (by simp [hd])
          simp only at e0
          have f0 : a.tmps[24]?.getD undef = (.agg #[.int .u8 (s.kind : Int), .int .u32 (s.next : Int), .slice y.A y.nF y.cA, .slice y.D y.nD y.cD]) := by rw [← Array.getD_eq_getD_getElem?]; exact e0
          have hi : L 1 = false := hi
          refine rstep_callW (wanted_none rfl _) 9 #[.agg #[.int .u8 (s.kind : Int), .int .u32 (s.next : Int), .slice y.A y.nF y.cA, .slice y.D y.nD y.cD]] (by go_simp) ?_
          refine (may_any s y.A y.nF y.cA y.D y.nD y.cD w1 (hyV.below hw) (by omega) (by omega) (by omega)).mono ?_
          rintro e w2 ⟨r, rfl, hr, hb⟩
          obtain rfl : r = false := by cases r with | false => rfl | true => exact absurd (hr.out.1 rfl) hm
          exact ⟨hp.put 1 25 (.bool false) (by simp [b6f]) (by simp [b6f]) rfl (by rw [hsz0]; decide), below_step hw hb (Nat.le_refl _)⟩
        · intro L a w1 hI hi hd
          obtain ⟨hp, hw⟩ := hI
          have t1 := hp.at_ 1 _ rfl z1
          have t1' := t1
          rw [Array.getD_eq_getD_getElem?] at t1'
          obtain ⟨x0, x1, x2, x3⟩ := (hbx.below hw hbx.lt).c4
          exact rstep_valW (wanted_none rfl _) (.agg #[.int .u8 (s.kind : Int), .int .u32 (s.next : Int), .slice A nF cA, .slice D nD cD]) w1 (by go_simp) ⟨(hp.put 2 26 (.agg #[.int .u8 (s.kind : Int), .int .u32 (s.next : Int), .slice A nF cA, .slice D nD cD]) (by simp [b6f]) (by simp [b6f]) rfl (by rw [hsz0]; decide)), hw⟩
        · intro L a w1 hI hi hd
          obtain ⟨hp, hw⟩ := hI
          simp [Region.binds] at hd
          have e2 := hp.pu (2, 26, (.agg #[.int .u8 (s.kind : Int), .int .u32 (s.next : Int), .slice A nF cA, .slice D nD cD])) (by simp [b6f]) (by simp [hd])
          simp only at e2
          have f2 : a.tmps[26]?.getD undef = (.agg #[.int .u8 (s.kind : Int), .int .u32 (s.next : Int), .slice A nF cA, .slice D nD cD]) := by rw [← Array.getD_eq_getD_getElem?]; exact e2
          have hi : L 3 = false := hi
          refine rstep_callW (wanted_none rfl _) 25 #[.agg #[.int .u8 (s.kind : Int), .int .u32 (s.next : Int), .slice A nF cA, .slice D nD cD]] (by go_simp) ?_
          refine (refmay8_any s A nF cA D nD cD w1 (hsV.below hw) (by omega) (by omega) (by omega)).mono ?_
          rintro e w2 ⟨r, rfl, hr, hb⟩
          obtain rfl : r = false := by cases r with | false => rfl | true => exact absurd (hr.out.1 rfl) hm
          exact ⟨hp.put 3 27 (.bool false) (by simp [b6f]) (by simp [b6f]) rfl (by rw [hsz0]; decide), below_step hw hb (Nat.le_refl _)⟩
        · intro L a w1 hI hi hd
          obtain ⟨hp, hw⟩ := hI
          simp [Region.binds] at hd
          have e1 := hp.pu (1, 25, (.bool false)) (by simp [b6f]) (by simp [hd])
          simp only at e1
          have f1 : a.tmps[25]?.getD undef = (.bool false) := by rw [← Array.getD_eq_getD_getElem?]; exact e1
          have e3 := hp.pu (3, 27, (.bool false)) (by simp [b6f]) (by simp [hd])
          simp only at e3
          have f3 : a.tmps[27]?.getD undef = (.bool false) := by rw [← Array.getD_eq_getD_getElem?]; exact e3
          exact rstep_valW (wanted_none rfl _) (.bool false) w1 (by go_simp) ⟨(hp.put 4 28 (.bool false) (by simp [b6f]) (by simp [b6f]) rfl (by rw [hsz0]; decide)), hw⟩
      rintro L a W ⟨hp, hw⟩ hL
      have e4 := hp.pu (4, 28, (.bool false)) (by simp [b6f]) (hL 4 (by simp))
      simp only at e4
      rw [hp.eq]
      refine of_assigns (P := Try.prog) _ _ _ _ ?_
      rw [ha0.out]
      simp only [asgs, List.map, e4]
      generalize a.tmps.getD 24 undef = u24
      generalize a.tmps.getD 25 undef = u25
      generalize a.tmps.getD 26 undef = u26
      generalize a.tmps.getD 27 undef = u27
      clear hp hL e4 ha0 z1 z3 hsz0
      clear a0 a L
      have hBW := below_step hBV hw (Nat.le_refl _)
      have hbxW := hbx.below hw hbx.lt
      have hbyW := hby.below hw hby.lt
      have hyW := hyV.below hw
      have hsW := hs.below hBW
      clear hBV hbx hby hyV hsV hw
      obtain ⟨x0, x1, x2, x3⟩ := hbxW.c4
      go_wp2_with fail
      refine (refmay8_any s A nF cA D nD cD W hsW (by omega) (by omega) (by omega)).mono ?_
      rintro e X ⟨r, rfl, hr, b6⟩
      obtain rfl : r = false := by cases r with | false => rfl | true => exact absurd (hr.out.1 rfl) hm
      have hBX := below_step hBW b6 (Nat.le_refl _)
      have hbxX := hbxW.below b6 hbxW.lt
      have hbyX := hbyW.below b6 hbyW.lt
      have hyX := hyW.below b6
      have hsX := hsW.below b6
      clear x0 x1 x2 x3 hBW hbxW hbyW hyW hsW b6 hr
      obtain ⟨x0, x1, x2, x3⟩ := hbxX.c4
      obtain ⟨y0, y1, y2, y3⟩ := hbyX.c4
      go_wp2_with fail
      refine (same_any s s y.A y.nF y.cA y.D y.nD y.cD A nF cA D nD cD X hyX hsX (by omega) (by omega)).mono ?_
      rintro e wb ⟨r, rfl, hr, hb⟩
      obtain rfl := hr.out.2 rfl
      have hBb := below_step hBX hb (Nat.le_refl _)
      clear x0 x1 x2 x3 y0 y1 y2 y3 hbxX hbyX hyX hsX hb hBX hr
      go_wp2_with fail
      refine (known08_any _).mono ?_
      rintro e wz ⟨rfl, hbz9⟩
      go_wp2
      go_ret
      exact ⟨rfl, below_step hBb hbz9 (Nat.le_refl _)⟩
end Go.Proofs.Ytofbfehpadjbbaa
