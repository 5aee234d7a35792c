/-
  The program's form of a slotted body: its head.
  Conditions: the lengths fit.
-/
import Derived.Test.YtofbfehpadjbbaaSltB5W
import Derived.Deep.Cut
namespace Go.Proofs.Ytofbfehpadjbbaa
open Go.RowKit Go.Sort Go.Lib
set_option linter.unusedVariables false
set_option linter.unusedSimpArgs false
def byP (s : Slt) (D : Option Addr) (nD cD g1 g9 : Nat) (A2 : Option Addr) (c2 g8 : Nat) (A3 : Option Addr) (c3 : Nat) : List (Nat × Nat × Value) :=
  [(0, 12, (.pointer (some ⟨g1, 0, none⟩))), (1, 13, (.int .u8 (s.kind : Int))), (2, 14, (.slice (some ⟨g9, 0, none⟩) 1 1)), (3, 15, (.pointer (some ⟨g1, 1, none⟩))), (4, 16, (.int .u32 (s.next : Int))), (5, 17, (.slice A2 5 c2)), (6, 18, (.pointer (some ⟨g1, 3, none⟩))), (7, 19, (.slice D nD cD)), (8, 20, (.int .i64 (nD : Int))), (9, 21, (.int .u8 (nD : Int))), (10, 22, (.slice (some ⟨g8, 0, none⟩) 1 1)), (11, 23, (.slice A3 6 c3)), (12, 4, (.slice A3 6 c3))]
structure ByW (V : World) (s : Slt) (nD g9 : Nat) (A2 : Option Addr) (c2 g8 : Nat) (A3 : Option Addr) (c3 : Nat) (b2 b5 b10 b11 : Bool) (w : World) : Prop where
  k5 : b5 = true → b2 = true
  k11 : b11 = true → b5 = true ∧ b10 = true
  bel : Below V.heap.size V w
  f2 : b2 = true → b5 = false → Row w (some ⟨g9, 0, none⟩) (bs [CodeM.byte s.kind])
  f5 : b5 = true → b11 = false → w.ownsRow V.heap.size 5 1 (.slice A2 5 c2) 5 (bs ([CodeM.byte s.kind] ++ CodeM.fx 4 s.next))
  f10 : b10 = true → b11 = false → Row w (some ⟨g8, 0, none⟩) (bs [CodeM.byte nD])
  f11 : b11 = true → w.ownsRow V.heap.size 5 1 (.slice A3 6 c3) 6 (bs ([CodeM.byte s.kind] ++ CodeM.fx 4 s.next ++ [CodeM.byte nD]))
section
variable {V : World} {s : Slt} {nD g9 : Nat} {A2 : Option Addr} {c2 g8 : Nat} {A3 : Option Addr} {c3 : Nat} {b2 b5 b10 b11 : Bool} {w w' : World}
theorem ByW.no5 (h : ByW V s nD g9 A2 c2 g8 A3 c3 b2 b5 b10 b11 w) (q : b2 = false) : b5 = false := by cases hb : b5 with | false => rfl | true => have := h.k5 hb; rw [q] at this; cases this
theorem ByW.no11 (h : ByW V s nD g9 A2 c2 g8 A3 c3 b2 b5 b10 b11 w) (q : b5 = false ∨ b10 = false) : b11 = false := by
  cases hb : b11 with
  | false => rfl
  | true => obtain ⟨h1, h2⟩ := h.k11 hb; rcases q with q | q <;> simp_all
theorem ByW.at2 (h : ByW V s nD g9 A2 c2 g8 A3 c3 b2 b5 b10 b11 w) (q : b2 = false) (hk : s.kind < 256) : ByW V s nD w.heap.size A2 c2 g8 A3 c3 true b5 b10 b11 (w.alloc (.cells #[.int .u8 (s.kind : Int)] 5)) := by
  subst q
  obtain rfl := h.no5 rfl
  obtain rfl := h.no11 (.inl rfl)
  exact ⟨nofun, nofun, h.bel.alloc h.bel.size _, fun _ _ => row_one w _ _ (by rw [CodeM.ofNat_toNat _ hk]), nofun, fun a b => (h.f10 a b).alloc _, nofun⟩
theorem ByW.at5 {A' : Option Addr} {c' : Nat} (h : ByW V s nD g9 A2 c2 g8 A3 c3 b2 b5 b10 b11 w) (q : b5 = false) (q2 : b2 = true) (hO : Own w' w.heap.size A' c' ([CodeM.byte s.kind] ++ CodeM.fx 4 s.next)) (hb : Below w.heap.size w w') : ByW V s nD g9 A' c' g8 A3 c3 b2 true b10 b11 w' := by
  subst q q2
  obtain rfl := h.no11 (.inl rfl)
  have h1 := hO.base_ h.bel.size
  unfold Own at h1
  rw [List.length_append, CodeM.fx_length] at h1
  exact ⟨fun _ => rfl, nofun, below_step h.bel hb (Nat.le_refl _), nofun, fun _ _ => h1, fun a b => (h.f10 a b).below hb, nofun⟩
theorem ByW.at10 (h : ByW V s nD g9 A2 c2 g8 A3 c3 b2 b5 b10 b11 w) (q : b10 = false) (hn : nD < 256) : ByW V s nD g9 A2 c2 w.heap.size A3 c3 b2 b5 true b11 (w.alloc (.cells #[.int .u8 (nD : Int)] 5)) := by
  subst q
  obtain rfl := h.no11 (.inr rfl)
  exact ⟨h.k5, nofun, h.bel.alloc h.bel.size _, fun a b => (h.f2 a b).alloc _, fun a b => (h.f5 a b).alloc _, fun _ _ => row_one w _ _ (by rw [CodeM.ofNat_toNat _ hn]), nofun⟩
theorem ByW.at11 {A' : Option Addr} {c' : Nat} (h : ByW V s nD g9 A2 c2 g8 A3 c3 b2 b5 b10 b11 w) (q : b11 = false) (q5 : b5 = true) (q10 : b10 = true) (h1 : w'.ownsRow V.heap.size 5 1 (.slice A' 6 c') 6 (bs ([CodeM.byte s.kind] ++ CodeM.fx 4 s.next ++ [CodeM.byte nD]))) (h2 : w.grownBy w' (Value.slice A2 5 c2).ownBlock) : ByW V s nD g9 A2 c2 g8 A' c' b2 b5 b10 true w' := by
  subst q q5 q10
  have hl := (h.f5 rfl rfl).lt
  exact ⟨h.k5, fun _ => ⟨rfl, rfl⟩, h.bel.grown h2 h.bel.size (fun q hq => (hl q hq).1), fun _ q => (by cases q), nofun, nofun, fun _ => h1⟩
end
set_option maxRecDepth 100000 in
set_option maxHeartbeats 4000000 in
theorem bytes8_yes (s : Slt) (A : Option Addr) (nF cA : Nat) (D : Option Addr) (nD cD : Nat) (w : World) (hs : SltAt w A nF cA D nD cD s) (hm : SltM.May s) (hk : s.kind < 256) (hnx : s.next < 4294967296) :
    Calls Try.prog 24 #[.agg #[.int .u8 (s.kind : Int), .int .u32 (s.next : Int), .slice A nF cA, .slice D nD cD]] w fun e w' => ∃ g, e = .returned (.tuple #[.slice (some ⟨g, 0, none⟩) 500 500, .int .i64 0]) ∧ Own w' w.heap.size (some ⟨g, 0, none⟩) 500 (SltM.form s) ∧ Below w.heap.size w w' := by
  have h247 := hm.most
  have hFD := hm.len
  have hlF := hs.lf
  have hlD := hs.ld
  have hroom := hm.room
  unfold SltM.left at hroom
  go_enter Try.func24, Try.ntmps24
  go_wp2_with fail
  have hbx0 := Blk.new w 26 #[.int .u8 (s.kind : Int), .int .u32 (s.next : Int), .slice A nF cA, .slice D nD cD]
  have hVb0 : Below w.heap.size w (w.alloc (.cells #[.int .u8 (s.kind : Int), .int .u32 (s.next : Int), .slice A nF cA, .slice D nD cD] 26)) := (Below.refl w.heap.size w).alloc (Nat.le_refl _) _
  generalize w.alloc (.cells #[.int .u8 (s.kind : Int), .int .u32 (s.next : Int), .slice A nF cA, .slice D nD cD] 26) = V0 at *
  refine (may_any s A nF cA D nD cD V0 (hs.below hVb0) (by omega) (by omega) (by omega)).mono ?_
  rintro e V ⟨r, rfl, hr, b1⟩
  obtain rfl := hr.out.2 hm
  have hbx := hbx0.below b1 hbx0.lt
  have hVb := below_step hVb0 b1 (Nat.le_refl _)
  have hsV := hs.below hVb
  clear hbx0 hVb0 b1 hr
  obtain ⟨g1, hg1⟩ : ∃ g1, w.heap.size = g1 := ⟨_, rfl⟩
  rw [hg1] at hbx ⊢
  go_upto_region 3 with fail
  refine wp_named fun a0 ha0 => ?_
  have z1 : a0.tmps.getD 1 undef = .pointer (some ⟨g1, 0, none⟩) := by rw [ha0.out]; rfl
  have hsz0 : a0.tmps.size = 56 := by rw [ha0.out]; rfl
  refine wp_region_invB _ (by kernel_rfl) (fun L a wv => ∃ g9 A2 c2 g8 A3 c3, PIF a0 [4, 12, 13, 14, 15, 16, 17, 18, 19, 20, 21, 22, 23] (byP s D nD cD g1 g9 A2 c2 g8 A3 c3) L a ∧ ByW V s nD g9 A2 c2 g8 A3 c3 (L 2) (L 5) (L 10) (L 11) wv ∧ (L 12 = true → L 11 = true)) (by kernel_rfl) ?_ ?_ ?_
  · exact ⟨0, none, 0, 0, none, 0, PIF.start _ _ _, ⟨nofun, nofun, ⟨rfl, rfl, rfl, Nat.le_refl _, fun _ _ => rfl⟩, nofun, nofun, nofun, nofun⟩, nofun⟩
  · rintro L a wv ⟨g9, A2, c2, g8, A3, c3, hp, hw, hps⟩ hL
    have e4 := hp.pu (12, 4, (.slice A3 6 c3)) (by simp [byP]) (hL 12 (by simp))
    simp only at e4
    have hO3 := hw.f11 (hL 11 (by simp))
    have hwb := hw.bel
    rw [hp.eq]
    refine of_assigns (P := Try.prog) _ _ _ _ ?_
    rw [ha0.out]
    simp only [asgs, List.map, e4]
    generalize a.tmps.getD 12 undef = u12
    generalize a.tmps.getD 13 undef = u13
    generalize a.tmps.getD 14 undef = u14
    generalize a.tmps.getD 15 undef = u15
    generalize a.tmps.getD 16 undef = u16
    generalize a.tmps.getD 17 undef = u17
    generalize a.tmps.getD 18 undef = u18
    generalize a.tmps.getD 19 undef = u19
    generalize a.tmps.getD 20 undef = u20
    generalize a.tmps.getD 21 undef = u21
    generalize a.tmps.getD 22 undef = u22
    generalize a.tmps.getD 23 undef = u23
    clear hp hw hps hL e4 ha0 z1 hsz0
    clear a0 a L
    obtain ⟨p1, hp1⟩ : ∃ p1, [CodeM.byte s.kind] ++ CodeM.fx 4 s.next ++ [CodeM.byte nD] = p1 := ⟨_, rfl⟩
    rw [hp1] at hO3
    have hp6 : p1.length = 6 := by rw [← hp1, List.length_append, List.length_append, CodeM.fx_length]; rfl
    have HP1 : Hid ([CodeM.byte s.kind] ++ CodeM.fx 4 s.next ++ [CodeM.byte s.data.length] = p1) := Lib.hid (by rw [hlD]; exact hp1)
    have h4 : Own wv V.heap.size A3 c3 p1 := by unfold Own; rw [hp6]; exact hO3
    clear hO3 hp1
    obtain rfl : nF = nD := by omega
    have hcF := hsV.cf
    have hcD := hsV.cd
    obtain ⟨x0, x1, x2, x3⟩ := (hbx.below hwb hbx.lt).c4
    go_wp2
    clear x0 x1 x2 x3
    go_loopw [4, 27] (fun b i wr => ∃ (q : Nat) (A5 : Option Addr) (n5 c5 : Nat), b = .slice A5 n5 c5 ∧ i = .int .i64 (q : Int) ∧ q ≤ nF ∧ (p1 ++ SltM.nums (s.full.take q) (s.data.take q)).length = n5 ∧
      Own wr V.heap.size A5 c5 (p1 ++ SltM.nums (s.full.take q) (s.data.take q)) ∧ Below V.heap.size V wr) (fun _ i _ => nF - (RowKit.intOf i).toNat)
    case atStart => exact ⟨0, A3, 6, c3, rfl, rfl, by omega, by simp [SltM.nums, hp6], by simpa [SltM.nums] using h4, hwb⟩
    case round =>
      clear h4 hwb
      obtain ⟨q, A5, n5, c5, rfl, rfl, hq, hn5, h5, hbel⟩ := hrel
      obtain ⟨x0, x1, x2, x3⟩ := (hbx.below hbel hbx.lt).c4
      have hsz := hbel.size
      have HN5 : Hid (n5 = 6 + 2 * q) := Lib.hid <| by rw [← hn5, List.length_append, hp6, SltM.nums_length (by rw [List.length_take, List.length_take, hlF, hlD]), List.length_take, hlD]; omega
      by_cases hlt : q < nF
      · obtain ⟨x, hx⟩ : ∃ x, s.data[q]? = some x := ⟨_, List.getElem?_eq_getElem (by omega)⟩
        obtain ⟨f, hf⟩ : ∃ f, s.full[q]? = some f := ⟨_, List.getElem?_eq_getElem (by omega)⟩
        obtain ⟨gf, of, rfl, hcf⟩ := (hsV.below hbel).full_get hf
        obtain ⟨gd, od, B, nx, cb, rfl, hcd, hxn, hxr⟩ := (hsV.below hbel).data_get hx
        have hxs : nx ≤ 494 := by have := SltM.sum_get hx; omega
        have hnum : SltM.num f x = if f then nx + 1 else 0 := by unfold SltM.num; rw [hxn]
        obtain ⟨m, hm2⟩ : ∃ m, SltM.num f x = m := ⟨_, rfl⟩
        have hm500 : m ≤ 495 := by rw [← hm2, hnum]; split <;> omega
        have HM2 := Lib.hid hm2
        have HX := Lib.hid hx
        have HF := Lib.hid hf
        have HP16 : Hid (∀ w', Row w' A5 (bs (p1 ++ SltM.nums (s.full.take q) (s.data.take q))) → Calls Try.prog 41 #[.slice A5 n5 c5, .int .u16 (m : Int)] w' (NewB (p1 ++ SltM.nums (s.full.take q) (s.data.take q) ++ CodeM.fx 2 m) w')) := Lib.hid fun w' h => by
          rw [← hn5]; exact Put16_any A5 c5 m _ w' h (by have := HN5.out; omega) (by omega)
        have hw16 : IntKind.u16.wrap (m : Int) = (m : Int) := by rw [IntKind.wrap_u16]; omega
        have hmv : f = true → ((nx : Int) + 1) = (m : Int) := fun e => by rw [hm2, e] at hnum; simp at hnum; omega
        have hm0 : f = false → m = 0 := fun e => by rw [hm2, e] at hnum; simpa using hnum
        clear hnum hm2 hx hf
        cases f with
        | true =>
          have hmv := hmv rfl
          clear hm0
          go_wp2_with fail
          clear x0 x1 x2 x3
          refine (HP16.out _ h5.row).mono ?_
          rintro e w5 ⟨A7, n7, c7, rfl, hn7, h7, b7⟩
          have hb5 := below_step hbel b7 (Nat.le_refl _)
          have h77 := h7.base_ hsz
          have HL1 : (p1 ++ SltM.nums (s.full.take (q + 1)) (s.data.take (q + 1))) = p1 ++ SltM.nums (s.full.take q) (s.data.take q) ++ CodeM.fx 2 m := by rw [SltM.nums_snoc HF.out HX.out, HM2.out, List.append_assoc]
          have HH1 := Lib.hid HL1
          clear HL1
          go_wp2
          go_roundw
          case rel => exact ⟨q + 1, A7, n7, c7, rfl, by go_num, by omega, by rw [HH1.out]; exact hn7.out, by rw [HH1.out]; exact h77, hb5⟩
          case measure => simp [RowKit.intOf]; omega
        | false =>
          have hm0 := hm0 rfl
          subst hm0
          clear hmv
          go_wp2_with fail
          clear x0 x1 x2 x3
          refine (HP16.out _ h5.row).mono ?_
          rintro e w5 ⟨A7, n7, c7, rfl, hn7, h7, b7⟩
          have hb5 := below_step hbel b7 (Nat.le_refl _)
          have h77 := h7.base_ hsz
          have HL1 : (p1 ++ SltM.nums (s.full.take (q + 1)) (s.data.take (q + 1))) = p1 ++ SltM.nums (s.full.take q) (s.data.take q) ++ CodeM.fx 2 0 := by rw [SltM.nums_snoc HF.out HX.out, HM2.out, List.append_assoc]
          have HH1 := Lib.hid HL1
          clear HL1
          go_wp2
          go_roundw
          case rel => exact ⟨q + 1, A7, n7, c7, rfl, by go_num, by omega, by rw [HH1.out]; exact hn7.out, by rw [HH1.out]; exact h77, hb5⟩
          case measure => simp [RowKit.intOf]; omega
      · obtain rfl : q = nF := by omega
        have e1 : s.full.take q = s.full := List.take_of_length_le (by omega)
        have e2 : s.data.take q = s.data := List.take_of_length_le (by omega)
        rw [e1, e2] at hn5 h5
        obtain ⟨HD, hHD⟩ : ∃ l, p1 ++ SltM.nums s.full s.data = l := ⟨_, rfl⟩
        rw [hHD] at hn5 h5
        obtain ⟨m6, hm6⟩ : ∃ m6, s.data.flatten.length = m6 := ⟨_, rfl⟩
        have h56 : n5 + m6 ≤ 500 := by have := HN5.out; have := SltM.sum_flatten s.data; omega
        have HHD := Lib.hid hHD
        have HM6 := Lib.hid hm6
        clear hHD e1 e2 hm6
        have hn5p : 6 ≤ n5 := by have := HN5.out; omega
        clear x0 x1 x2 x3
        obtain ⟨N5, hN5⟩ : ∃ N5 : Nat, N5 = 500 := ⟨_, rfl⟩
        have HN := Lib.hid hN5
        clear hN5
        go_wp2_with (at_make; refine wpl_make2 _ rfl (.const (.int .i64 500)) (.const (.int .i64 500)) rfl N5 N5 (by rw [HN.out]; rfl) (by rw [HN.out]; rfl) (by omega) (by have := HN.out; omega) ?_)
        have hrow : Hid ((wr.alloc (.cells (bs (List.replicate N5 0)).toArray 5)).heap[wr.heap.size]? = some (.cells (bs (List.replicate 500 0)).toArray 5 (0, 0))) := Lib.hid (by rw [← HN.out]; exact Blk.new wr _ _)
        have hbz := hbel.alloc hbel.size (.cells (bs (List.replicate N5 0)).toArray 5)
        have h5z := h5.alloc (.cells (bs (List.replicate N5 0)).toArray 5)
        have hglt : wr.heap.size < (wr.alloc (.cells (bs (List.replicate N5 0)).toArray 5)).heap.size := by simp
        generalize wr.alloc (.cells (bs (List.replicate N5 0)).toArray 5) = V2 at *
        generalize wr.heap.size = g at *
        clear h5 hbel
        obtain ⟨p50, hp50⟩ : ∃ p : Option Addr, p = if n5 = N5 then some ⟨g, 0, none⟩ else some ⟨g, n5, none⟩ := ⟨_, rfl⟩
        refine wp_named fun a0 ha0 => ?_
        have z1 : a0.tmps.getD 1 undef = .pointer (some ⟨g1, 0, none⟩) := by rw [ha0.out]; rfl
        have z4 : a0.tmps.getD 4 undef = .slice A5 n5 c5 := by rw [ha0.out]; rfl
        have z8 : a0.tmps.getD 8 undef = .slice (some ⟨g, 0, none⟩) N5 N5 := by rw [ha0.out]; rfl
        have hsz0 : a0.tmps.size = 56 := by rw [ha0.out]; rfl
        refine wp_region_invB _ (by kernel_rfl) (fun L a wv => ∃ AJ cJ, PIF a0 [46, 47, 48, 49, 50, 51, 52, 53, 54] (bzP g g1 A5 n5 c5 p50 D q cD m6 N5 AJ cJ) L a ∧ BzW V g A5 HD s.data.flatten n5 AJ (L 3) (L 7) (L 8) wv ∧ (L 4 = true → L 3 = true)) (by kernel_rfl) ?_ ?_ ?_
        · exact ⟨none, 0, PIF.start _ _ _, ⟨nofun, ⟨hbz.os, hbz.tape, hbz.output, hbz.size, hbz.block⟩, hsz, hglt, fun _ => hrow.out, nofun, nofun, fun _ => h5z.row, nofun⟩, nofun⟩
        · rintro L a wz ⟨AJ, cJ, hp, hw, hps⟩ hL
          have hfin := hw.r8 (hL 8 (by simp))
          have hbw := hw.bel
          have hgV := hw.gV
          rw [hp.eq]
          refine of_assigns (P := Try.prog) _ _ _ _ ?_
          rw [ha0.out]
          simp only [asgs, List.map]
          generalize a.tmps.getD 46 undef = q46
          generalize a.tmps.getD 47 undef = q47
          generalize a.tmps.getD 48 undef = q48
          generalize a.tmps.getD 49 undef = q49
          generalize a.tmps.getD 50 undef = q50
          generalize a.tmps.getD 51 undef = q51
          generalize a.tmps.getD 52 undef = q52
          generalize a.tmps.getD 53 undef = q53
          generalize a.tmps.getD 54 undef = q54
          have HFIN := Lib.hid hfin
          clear hp hw hps hL ha0 z1 z4 z8 hsz0 hfin
          clear a0 a L
          go_wp2
          go_ret2
          refine ⟨g, ?_, ?_, below_join hVb hbw⟩
          · have h9 := HN.out
            subst h9
            rfl
          · have hform : HD ++ s.data.flatten ++ List.replicate (500 - (n5 + m6)) 0 = SltM.form s := by
              have hc1 : SltM.core s = HD ++ s.data.flatten := by rw [← HHD.out, ← HP1.out]; rfl
              unfold SltM.form
              rw [hc1, List.length_append, hn5, HM6.out]
            rw [← hform]
            exact fin_own HFIN.out hn5 HM6.out h56 (by have := hVb.size; omega)
        · refine ⟨?_, ?_, ?_, ?_, ?_, ?_, ?_, ?_, ?_, trivial⟩
          · intro L a w1 hI hi hd
            obtain ⟨AJ, cJ, hp, hw, hps⟩ := hI
            have t8 := hp.at_ 8 _ rfl z8
            have t8' := t8
            rw [Array.getD_eq_getD_getElem?] at t8'
            exact rstep_valW (wanted_none rfl _) (.slice (some ⟨g, 0, none⟩) N5 N5) w1 (by go_simp) ⟨AJ, cJ, (hp.put 0 46 (.slice (some ⟨g, 0, none⟩) N5 N5) (by simp [bzP]) (by simp [bzP]) rfl (by rw [hsz0]; decide)), hw, hps⟩
          · intro L a w1 hI hi hd
            obtain ⟨AJ, cJ, hp, hw, hps⟩ := hI
            have t8 := hp.at_ 8 _ rfl z8
            have t8' := t8
            rw [Array.getD_eq_getD_getElem?] at t8'
            exact rstep_valW (wanted_none rfl _) (.slice (some ⟨g, 0, none⟩) N5 N5) w1 (by go_simp) ⟨AJ, cJ, (hp.put 1 47 (.slice (some ⟨g, 0, none⟩) N5 N5) (by simp [bzP]) (by simp [bzP]) rfl (by rw [hsz0]; decide)), hw, hps⟩
          · intro L a w1 hI hi hd
            obtain ⟨AJ, cJ, hp, hw, hps⟩ := hI
            have t4 := hp.at_ 4 _ rfl z4
            have t4' := t4
            rw [Array.getD_eq_getD_getElem?] at t4'
            exact rstep_valW (wanted_none rfl _) (.slice A5 n5 c5) w1 (by go_simp) ⟨AJ, cJ, (hp.put 2 48 (.slice A5 n5 c5) (by simp [bzP]) (by simp [bzP]) rfl (by rw [hsz0]; decide)), hw, hps⟩
          · intro L a w1 hI hi hd
            obtain ⟨AJ, cJ, hp, hw, hps⟩ := hI
            simp [Region.binds] at hd
            have e1 := hp.pu (1, 47, (.slice (some ⟨g, 0, none⟩) N5 N5)) (by simp [bzP]) (by simp [hd])
            simp only at e1
            have f1 : a.tmps[47]?.getD undef = (.slice (some ⟨g, 0, none⟩) N5 N5) := by rw [← Array.getD_eq_getD_getElem?]; exact e1
            have e2 := hp.pu (2, 48, (.slice A5 n5 c5)) (by simp [bzP]) (by simp [hd])
            simp only at e2
            have f2 : a.tmps[48]?.getD undef = (.slice A5 n5 c5) := by rw [← Array.getD_eq_getD_getElem?]; exact e2
            have hi : L 3 = false := hi
            have hr := hw.hH hi
            refine step_copyG rfl (.tmp 47) (.tmp 48) rfl (some ⟨g, 0, none⟩) A5 N5 N5 n5 c5 e1 e2 g 0 (bs (List.replicate 500 0)) (hw.r0 hi) (bs HD) (by rw [bs_length, hn5]; exact (Nat.min_eq_left (by have := HN.out; omega)).symm) (fun h => ⟨rfl, ?_⟩) (by rw [bs_length, bs_length, List.length_replicate, hn5]; omega) (bs_one HD) fun w2 h1 h2 => ?_
            · obtain ⟨b, o, e, hcell⟩ := hr.resolve_left (by intro h9; rw [h9] at h; simp at h)
              exact ⟨_, e, fun j v hv => by rw [Addr.add_lit]; exact hcell j v hv⟩
            · rw [bs_length, hn5]
              exact ⟨AJ, cJ, (hp.put 3 49 (.int .i64 (n5 : Int)) (by simp [bzP]) (by simp [bzP]) rfl (by rw [hsz0]; decide)), hw.at3 hi h1.out h2, fun _ => upd_eq _ _⟩
          · intro L a w1 hI hi hd
            obtain ⟨AJ, cJ, hp, hw, hps⟩ := hI
            simp [Region.binds] at hd
            have e0 := hp.pu (0, 46, (.slice (some ⟨g, 0, none⟩) N5 N5)) (by simp [bzP]) (by simp [hd])
            simp only at e0
            have f0 : a.tmps[46]?.getD undef = (.slice (some ⟨g, 0, none⟩) N5 N5) := by rw [← Array.getD_eq_getD_getElem?]; exact e0
            have e3 := hp.pu (3, 49, (.int .i64 (n5 : Int))) (by simp [bzP]) (by simp [hd])
            simp only at e3
            have f3 : a.tmps[49]?.getD undef = (.int .i64 (n5 : Int)) := by rw [← Array.getD_eq_getD_getElem?]; exact e3
            have hN := HN.out
            by_cases hc : n5 = N5
            · have e50 : p50 = some ⟨g, 0, none⟩ := by rw [hp50, if_pos hc]
              have hs0 : N5 - n5 = 0 := by omega
              have hle : (n5 : Int) = (N5 : Int) := by omega
              clear hN
              exact rstep_valW (wanted_none rfl _) (.slice p50 (N5 - n5) (N5 - n5)) w1 (by rw [e50, hs0]; subst hc; clear hp50 hs0 hle; go_simp) ⟨AJ, cJ, (hp.put 4 50 (.slice p50 (N5 - n5) (N5 - n5)) (by simp [bzP]) (by simp [bzP]) rfl (by rw [hsz0]; decide)), hw, fun _ => by simp [hd, upd]⟩
            · have e50 : p50 = some ⟨g, n5, none⟩ := by rw [hp50, if_neg hc]
              have hlt : n5 < N5 := by omega
              clear hN
              exact rstep_valW (wanted_none rfl _) (.slice p50 (N5 - n5) (N5 - n5)) w1 (by rw [e50]; clear hp50; have hle : n5 ≤ N5 := (by omega); have hne : ¬ N5 = n5 := (by omega); go_simp) ⟨AJ, cJ, (hp.put 4 50 (.slice p50 (N5 - n5) (N5 - n5)) (by simp [bzP]) (by simp [bzP]) rfl (by rw [hsz0]; decide)), hw, fun _ => by simp [hd, upd]⟩
          · intro L a w1 hI hi hd
            obtain ⟨AJ, cJ, hp, hw, hps⟩ := hI
            have t1 := hp.at_ 1 _ rfl z1
            have t1' := t1
            rw [Array.getD_eq_getD_getElem?] at t1'
            exact rstep_valW (wanted_none rfl _) (.pointer (some ⟨g1, 3, none⟩)) w1 (by go_simp) ⟨AJ, cJ, (hp.put 5 51 (.pointer (some ⟨g1, 3, none⟩)) (by simp [bzP]) (by simp [bzP]) rfl (by rw [hsz0]; decide)), hw, hps⟩
          · intro L a w1 hI hi hd
            obtain ⟨AJ, cJ, hp, hw, hps⟩ := hI
            simp [Region.binds] at hd
            have e5 := hp.pu (5, 51, (.pointer (some ⟨g1, 3, none⟩))) (by simp [bzP]) (by simp [hd])
            simp only at e5
            have f5 : a.tmps[51]?.getD undef = (.pointer (some ⟨g1, 3, none⟩)) := by rw [← Array.getD_eq_getD_getElem?]; exact e5
            obtain ⟨x0, x1, x2, x3⟩ := (hbx.below hw.bel hbx.lt).c4
            exact rstep_valW (wanted_none rfl _) (.slice D q cD) w1 (by go_simp) ⟨AJ, cJ, (hp.put 6 52 (.slice D q cD) (by simp [bzP]) (by simp [bzP]) rfl (by rw [hsz0]; decide)), hw, hps⟩
          · intro L a w1 hI hi hd
            obtain ⟨AJ, cJ, hp, hw, hps⟩ := hI
            simp [Region.binds] at hd
            have e6 := hp.pu (6, 52, (.slice D q cD)) (by simp [bzP]) (by simp [hd])
            simp only at e6
            have f6 : a.tmps[52]?.getD undef = (.slice D q cD) := by rw [← Array.getD_eq_getD_getElem?]; exact e6
            have hi : L 7 = false := hi
            have n8 := hw.no8 (.inr hi)
            refine rstep_callW (wanted_none rfl _) 42 #[.slice D q cD, .slice none 0 0] (by go_simp) ?_
            refine (join8_any s A q cA D q cD w1 (hsV.below hw.bel) (by omega) (by omega)).mono ?_
            rintro e w2 ⟨A', n', c', rfl, hn', hr, hbl, hb⟩
            obtain rfl : m6 = n' := by have := HM6.out; omega
            exact ⟨A', c', PIF.put (PIF.swap (p2 := (bzP g g1 A5 n5 c5 p50 D q cD m6 N5 A' c')) hp (by intro q hq hL; simp only [bzP, List.mem_cons, List.not_mem_nil, or_false] at hq; rcases hq with rfl | rfl | rfl | rfl | rfl | rfl | rfl | rfl | rfl <;> first | (simp [bzP]; done) | exact absurd hL (by show ¬ L 7 = true; rw [hi]; simp))) 7 53 (.slice A' m6 c') (by simp [bzP]) (by simp [bzP]) rfl (by rw [hsz0]; decide), hw.at7 hi hr hbl hb, hps⟩
          · intro L a w1 hI hi hd
            obtain ⟨AJ, cJ, hp, hw, hps⟩ := hI
            simp [Region.binds] at hd
            have e4 := hp.pu (4, 50, (.slice p50 (N5 - n5) (N5 - n5))) (by simp [bzP]) (by simp [hd])
            simp only at e4
            have f4 : a.tmps[50]?.getD undef = (.slice p50 (N5 - n5) (N5 - n5)) := by rw [← Array.getD_eq_getD_getElem?]; exact e4
            have e7 := hp.pu (7, 53, (.slice AJ m6 cJ)) (by simp [bzP]) (by simp [hd])
            simp only at e7
            have f7 : a.tmps[53]?.getD undef = (.slice AJ m6 cJ) := by rw [← Array.getD_eq_getD_getElem?]; exact e7
            have hi : L 8 = false := hi
            have q3 : L 3 = true := hps (by simp [hd])
            have q7 : L 7 = true := by simp [hd]
            obtain ⟨hr, hne⟩ := hw.hJ q7 hi
            refine step_copyG rfl (.tmp 50) (.tmp 53) rfl p50 AJ (N5 - n5) (N5 - n5) m6 cJ e4 e7 g n5 (splice (bs (List.replicate 500 0)) 0 (bs HD)) (hw.r3 q3 hi) (bs s.data.flatten) (by rw [bs_length, HM6.out]; exact (Nat.min_eq_left (by have := HN.out; omega)).symm) (fun h => ⟨?_, ?_⟩) (by rw [length_splice _ _ _ (by rw [bs_length, bs_length, List.length_replicate, hn5]; omega), bs_length, bs_length, List.length_replicate, HM6.out]; omega) (bs_one _) fun w2 h1 h2 => ?_
            · rw [bs_length, HM6.out] at h
              rw [hp50, if_neg (by have := HN.out; omega)]
            · obtain ⟨b, o, e, hcell⟩ := hr.resolve_left (by intro h9; rw [h9] at h; simp at h)
              exact ⟨_, e, fun j v hv => by rw [Addr.add_lit]; exact hcell j v hv⟩
            · rw [bs_length, HM6.out]
              exact ⟨AJ, cJ, (hp.put 8 54 (.int .i64 (m6 : Int)) (by simp [bzP]) (by simp [bzP]) rfl (by rw [hsz0]; decide)), hw.at8 hi q3 q7 h1.out h2, hps⟩
  · refine ⟨?_, ?_, ?_, ?_, ?_, ?_, ?_, ?_, ?_, ?_, ?_, ?_, ?_, trivial⟩
    · intro L a w1 hI hi hd
      obtain ⟨g9, A2, c2, g8, A3, c3, hp, hw, hps⟩ := hI
      have t1 := hp.at_ 1 _ rfl z1
      have t1' := t1
      rw [Array.getD_eq_getD_getElem?] at t1'
      exact rstep_valW (wanted_none rfl _) (.pointer (some ⟨g1, 0, none⟩)) w1 (by go_simp) ⟨g9, A2, c2, g8, A3, c3, (hp.put 0 12 (.pointer (some ⟨g1, 0, none⟩)) (by simp [byP]) (by simp [byP]) rfl (by rw [hsz0]; decide)), hw, hps⟩
    · intro L a w1 hI hi hd
      obtain ⟨g9, A2, c2, g8, A3, c3, hp, hw, hps⟩ := hI
      simp [Region.binds] at hd
      have e0 := hp.pu (0, 12, (.pointer (some ⟨g1, 0, none⟩))) (by simp [byP]) (by simp [hd])
      simp only at e0
      have f0 : a.tmps[12]?.getD undef = (.pointer (some ⟨g1, 0, none⟩)) := by rw [← Array.getD_eq_getD_getElem?]; exact e0
      obtain ⟨x0, x1, x2, x3⟩ := (hbx.below hw.bel hbx.lt).c4
      exact rstep_valW (wanted_none rfl _) (.int .u8 (s.kind : Int)) w1 (by go_simp) ⟨g9, A2, c2, g8, A3, c3, (hp.put 1 13 (.int .u8 (s.kind : Int)) (by simp [byP]) (by simp [byP]) rfl (by rw [hsz0]; decide)), hw, hps⟩
    · intro L a w1 hI hi hd
      obtain ⟨g9, A2, c2, g8, A3, c3, hp, hw, hps⟩ := hI
      simp [Region.binds] at hd
      have e1 := hp.pu (1, 13, (.int .u8 (s.kind : Int))) (by simp [byP]) (by simp [hd])
      simp only at e1
      have f1 : a.tmps[13]?.getD undef = (.int .u8 (s.kind : Int)) := by rw [← Array.getD_eq_getD_getElem?]; exact e1
      have hi : L 2 = false := hi
      have n5 := hw.no5 hi
      have n11 := hw.no11 (.inl n5)
      refine rstep_valW (wanted_none rfl _) (.slice (some ⟨w1.heap.size, 0, none⟩) 1 1) (w1.alloc (.cells #[.int .u8 (s.kind : Int)] 5)) (by go_simp) ⟨w1.heap.size, A2, c2, g8, A3, c3, PIF.put (PIF.swap (p2 := (byP s D nD cD g1 w1.heap.size A2 c2 g8 A3 c3)) hp (by intro q hq hL; simp only [byP, List.mem_cons, List.not_mem_nil, or_false] at hq; rcases hq with rfl | rfl | rfl | rfl | rfl | rfl | rfl | rfl | rfl | rfl | rfl | rfl | rfl <;> first | (simp [byP]; done) | exact absurd hL (by show ¬ L 2 = true; rw [hi]; simp) | exact absurd hL (by show ¬ L 5 = true; rw [n5]; simp) | exact absurd hL (by show ¬ L 11 = true; rw [n11]; simp) | exact absurd (hps hL) (by rw [n11]; simp))) 2 14 (.slice (some ⟨w1.heap.size, 0, none⟩) 1 1) (by simp [byP]) (by simp [byP]) rfl (by rw [hsz0]; decide), ?_, hps⟩
      exact hw.at2 hi hk
    · intro L a w1 hI hi hd
      obtain ⟨g9, A2, c2, g8, A3, c3, hp, hw, hps⟩ := hI
      have t1 := hp.at_ 1 _ rfl z1
      have t1' := t1
      rw [Array.getD_eq_getD_getElem?] at t1'
      exact rstep_valW (wanted_none rfl _) (.pointer (some ⟨g1, 1, none⟩)) w1 (by go_simp) ⟨g9, A2, c2, g8, A3, c3, (hp.put 3 15 (.pointer (some ⟨g1, 1, none⟩)) (by simp [byP]) (by simp [byP]) rfl (by rw [hsz0]; decide)), hw, hps⟩
    · intro L a w1 hI hi hd
      obtain ⟨g9, A2, c2, g8, A3, c3, hp, hw, hps⟩ := hI
      simp [Region.binds] at hd
      have e3 := hp.pu (3, 15, (.pointer (some ⟨g1, 1, none⟩))) (by simp [byP]) (by simp [hd])
      simp only at e3
      have f3 : a.tmps[15]?.getD undef = (.pointer (some ⟨g1, 1, none⟩)) := by rw [← Array.getD_eq_getD_getElem?]; exact e3
      obtain ⟨x0, x1, x2, x3⟩ := (hbx.below hw.bel hbx.lt).c4
      exact rstep_valW (wanted_none rfl _) (.int .u32 (s.next : Int)) w1 (by go_simp) ⟨g9, A2, c2, g8, A3, c3, (hp.put 4 16 (.int .u32 (s.next : Int)) (by simp [byP]) (by simp [byP]) rfl (by rw [hsz0]; decide)), hw, hps⟩
    · intro L a w1 hI hi hd
      obtain ⟨g9, A2, c2, g8, A3, c3, hp, hw, hps⟩ := hI
      simp [Region.binds] at hd
      have e2 := hp.pu (2, 14, (.slice (some ⟨g9, 0, none⟩) 1 1)) (by simp [byP]) (by simp [hd])
      simp only at e2
      have f2 : a.tmps[14]?.getD undef = (.slice (some ⟨g9, 0, none⟩) 1 1) := by rw [← Array.getD_eq_getD_getElem?]; exact e2
      have e4 := hp.pu (4, 16, (.int .u32 (s.next : Int))) (by simp [byP]) (by simp [hd])
      simp only at e4
      have f4 : a.tmps[16]?.getD undef = (.int .u32 (s.next : Int)) := by rw [← Array.getD_eq_getD_getElem?]; exact e4
      have hi : L 5 = false := hi
      have n5 := hi
      have n11 := hw.no11 (.inl hi)
      refine rstep_callW (wanted_none rfl _) 40 #[.slice (some ⟨g9, 0, none⟩) 1 1, .int .u32 (s.next : Int)] (by go_simp) ?_
      refine (Put32_any (some ⟨g9, 0, none⟩) 1 s.next [CodeM.byte s.kind] w1 (hw.f2 hd.1 hi) (by simp) hnx).mono ?_
      rintro e w2 ⟨A', n', c', rfl, hn', hO, hb⟩
      obtain rfl : 5 = n' := by have := hn'.out; rw [List.length_append, CodeM.fx_length] at this; exact this
      exact ⟨g9, A', c', g8, A3, c3, PIF.put (PIF.swap (p2 := (byP s D nD cD g1 g9 A' c' g8 A3 c3)) hp (by intro q hq hL; simp only [byP, List.mem_cons, List.not_mem_nil, or_false] at hq; rcases hq with rfl | rfl | rfl | rfl | rfl | rfl | rfl | rfl | rfl | rfl | rfl | rfl | rfl <;> first | (simp [byP]; done) | exact absurd hL (by show ¬ L 5 = true; rw [hi]; simp) | exact absurd hL (by show ¬ L 5 = true; rw [n5]; simp) | exact absurd hL (by show ¬ L 11 = true; rw [n11]; simp) | exact absurd (hps hL) (by rw [n11]; simp))) 5 17 (.slice A' 5 c') (by simp [byP]) (by simp [byP]) rfl (by rw [hsz0]; decide), hw.at5 hi hd.1 hO hb, hps⟩
    · intro L a w1 hI hi hd
      obtain ⟨g9, A2, c2, g8, A3, c3, hp, hw, hps⟩ := hI
      have t1 := hp.at_ 1 _ rfl z1
      have t1' := t1
      rw [Array.getD_eq_getD_getElem?] at t1'
      exact rstep_valW (wanted_none rfl _) (.pointer (some ⟨g1, 3, none⟩)) w1 (by go_simp) ⟨g9, A2, c2, g8, A3, c3, (hp.put 6 18 (.pointer (some ⟨g1, 3, none⟩)) (by simp [byP]) (by simp [byP]) rfl (by rw [hsz0]; decide)), hw, hps⟩
    · intro L a w1 hI hi hd
      obtain ⟨g9, A2, c2, g8, A3, c3, hp, hw, hps⟩ := hI
      simp [Region.binds] at hd
      have e6 := hp.pu (6, 18, (.pointer (some ⟨g1, 3, none⟩))) (by simp [byP]) (by simp [hd])
      simp only at e6
      have f6 : a.tmps[18]?.getD undef = (.pointer (some ⟨g1, 3, none⟩)) := by rw [← Array.getD_eq_getD_getElem?]; exact e6
      obtain ⟨x0, x1, x2, x3⟩ := (hbx.below hw.bel hbx.lt).c4
      exact rstep_valW (wanted_none rfl _) (.slice D nD cD) w1 (by go_simp) ⟨g9, A2, c2, g8, A3, c3, (hp.put 7 19 (.slice D nD cD) (by simp [byP]) (by simp [byP]) rfl (by rw [hsz0]; decide)), hw, hps⟩
    · intro L a w1 hI hi hd
      obtain ⟨g9, A2, c2, g8, A3, c3, hp, hw, hps⟩ := hI
      simp [Region.binds] at hd
      have e7 := hp.pu (7, 19, (.slice D nD cD)) (by simp [byP]) (by simp [hd])
      simp only at e7
      have f7 : a.tmps[19]?.getD undef = (.slice D nD cD) := by rw [← Array.getD_eq_getD_getElem?]; exact e7
      exact rstep_valW (wanted_none rfl _) (.int .i64 (nD : Int)) w1 (by go_simp) ⟨g9, A2, c2, g8, A3, c3, (hp.put 8 20 (.int .i64 (nD : Int)) (by simp [byP]) (by simp [byP]) rfl (by rw [hsz0]; decide)), hw, hps⟩
    · intro L a w1 hI hi hd
      obtain ⟨g9, A2, c2, g8, A3, c3, hp, hw, hps⟩ := hI
      simp [Region.binds] at hd
      have e8 := hp.pu (8, 20, (.int .i64 (nD : Int))) (by simp [byP]) (by simp [hd])
      simp only at e8
      have f8 : a.tmps[20]?.getD undef = (.int .i64 (nD : Int)) := by rw [← Array.getD_eq_getD_getElem?]; exact e8
      have hwb : IntKind.u8.wrap (nD : Int) = (nD : Int) := by rw [IntKind.wrap_u8]; omega
      exact rstep_valW (wanted_none rfl _) (.int .u8 (nD : Int)) w1 (by go_simp) ⟨g9, A2, c2, g8, A3, c3, (hp.put 9 21 (.int .u8 (nD : Int)) (by simp [byP]) (by simp [byP]) rfl (by rw [hsz0]; decide)), hw, hps⟩
    · intro L a w1 hI hi hd
      obtain ⟨g9, A2, c2, g8, A3, c3, hp, hw, hps⟩ := hI
      simp [Region.binds] at hd
      have e9 := hp.pu (9, 21, (.int .u8 (nD : Int))) (by simp [byP]) (by simp [hd])
      simp only at e9
      have f9 : a.tmps[21]?.getD undef = (.int .u8 (nD : Int)) := by rw [← Array.getD_eq_getD_getElem?]; exact e9
      have hi : L 10 = false := hi
      have n11 := hw.no11 (.inr hi)
      have n5 : True := trivial
      refine rstep_valW (wanted_none rfl _) (.slice (some ⟨w1.heap.size, 0, none⟩) 1 1) (w1.alloc (.cells #[.int .u8 (nD : Int)] 5)) (by go_simp) ⟨g9, A2, c2, w1.heap.size, A3, c3, PIF.put (PIF.swap (p2 := (byP s D nD cD g1 g9 A2 c2 w1.heap.size A3 c3)) hp (by intro q hq hL; simp only [byP, List.mem_cons, List.not_mem_nil, or_false] at hq; rcases hq with rfl | rfl | rfl | rfl | rfl | rfl | rfl | rfl | rfl | rfl | rfl | rfl | rfl <;> first | (simp [byP]; done) | exact absurd hL (by show ¬ L 10 = true; rw [hi]; simp) | exact absurd hL (by show ¬ L 5 = true; rw [n5]; simp) | exact absurd hL (by show ¬ L 11 = true; rw [n11]; simp) | exact absurd (hps hL) (by rw [n11]; simp))) 10 22 (.slice (some ⟨w1.heap.size, 0, none⟩) 1 1) (by simp [byP]) (by simp [byP]) rfl (by rw [hsz0]; decide), ?_, hps⟩
      exact hw.at10 hi (by omega)
    · intro L a w1 hI hi hd
      obtain ⟨g9, A2, c2, g8, A3, c3, hp, hw, hps⟩ := hI
      simp [Region.binds] at hd
      have e5 := hp.pu (5, 17, (.slice A2 5 c2)) (by simp [byP]) (by simp [hd])
      simp only at e5
      have f5 : a.tmps[17]?.getD undef = (.slice A2 5 c2) := by rw [← Array.getD_eq_getD_getElem?]; exact e5
      have e10 := hp.pu (10, 22, (.slice (some ⟨g8, 0, none⟩) 1 1)) (by simp [byP]) (by simp [hd])
      simp only at e10
      have f10 : a.tmps[22]?.getD undef = (.slice (some ⟨g8, 0, none⟩) 1 1) := by rw [← Array.getD_eq_getD_getElem?]; exact e10
      have hi : L 11 = false := hi
      have n11 := hi
      have n5 : True := trivial
      have hO := hw.f5 hd.1 hi
      have hr := hw.f10 (by simp [hd]) hi
      obtain ⟨i0, hi0, hz0, hz1, hz2⟩ := info_parts info_u8
      refine rstep_wp rfl (wp_append_row w1 (.tmp 17) (.tmp 22) _ rfl V.heap.size 5 i0 _ 1 1 Try.underlying27 hi0 hz0 hz1 hz2 rfl (by omega) (.slice A2 5 c2) 5 (bs ([CodeM.byte s.kind] ++ CodeM.fx 4 s.next)) e5 hO (some ⟨g8, 0, none⟩) 1 1 (bs [CodeM.byte nD]) e10 rfl hr (bs_one _) (by unfold maxLen; omega) (by omega) hw.bel.size fun A' c' w2 h1 h2 h3 => ?_)
      rw [← bs_append] at h1
      refine ⟨g9, A2, c2, g8, A', c', PIF.put (PIF.swap (p2 := (byP s D nD cD g1 g9 A2 c2 g8 A' c')) hp (by intro q hq hL; simp only [byP, List.mem_cons, List.not_mem_nil, or_false] at hq; rcases hq with rfl | rfl | rfl | rfl | rfl | rfl | rfl | rfl | rfl | rfl | rfl | rfl | rfl <;> first | (simp [byP]; done) | exact absurd hL (by show ¬ L 11 = true; rw [hi]; simp) | exact absurd hL (by show ¬ L 5 = true; rw [n5]; simp) | exact absurd hL (by show ¬ L 11 = true; rw [n11]; simp) | exact absurd (hps hL) (by rw [n11]; simp))) 11 23 (.slice A' 6 c') (by simp [byP]) (by simp [byP]) rfl (by rw [hsz0]; decide), ?_, fun _ => upd_eq _ _⟩
      exact hw.at11 hi hd.1 (by simp [hd]) h1 h2
    · intro L a w1 hI hi hd
      obtain ⟨g9, A2, c2, g8, A3, c3, hp, hw, hps⟩ := hI
      simp [Region.binds] at hd
      have e11 := hp.pu (11, 23, (.slice A3 6 c3)) (by simp [byP]) (by simp [hd])
      simp only at e11
      have f11 : a.tmps[23]?.getD undef = (.slice A3 6 c3) := by rw [← Array.getD_eq_getD_getElem?]; exact e11
      exact rstep_valW (wanted_none rfl _) (.slice A3 6 c3) w1 (by go_simp) ⟨g9, A2, c2, g8, A3, c3, (hp.put 12 4 (.slice A3 6 c3) (by simp [byP]) (by simp [byP]) rfl (by rw [hsz0]; decide)), hw, fun _ => by simp [hd, upd]⟩
end Go.Proofs.Ytofbfehpadjbbaa
