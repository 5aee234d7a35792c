/-
  The document's form of a slotted body.
  Conditions: the lengths fit.
-/
import Derived.Test.YtofbfehpadjbbaaReg4
import Derived.Test.YtofbfehpadjbbaaSltB1
import Derived.Test.YtofbfehpadjbbaaSltB2
import Derived.Test.YtofbfehpadjbbaaSltC3
import Derived.Test.YtofbfehpadjbbaaSltB0
namespace Go.Proofs.Ytofbfehpadjbbaa
open Go.RowKit Go.Sort Go.Lib
set_option linter.unusedVariables false
set_option linter.unusedSimpArgs false
def foP (s : Slt) (g1 g9 : Nat) (A2 : Option Addr) (c2 : Nat) (A3 : Option Addr) (c3 : Nat) : List (Nat × Nat × Value) :=
  [(0, 7, (.pointer (some ⟨g1, 0, none⟩))), (1, 8, (.int .u8 (s.kind : Int))), (2, 9, (.slice (some ⟨g9, 0, none⟩) 1 1)), (3, 10, (.pointer (some ⟨g1, 1, none⟩))), (4, 11, (.int .u32 (s.next : Int))), (5, 12, (.int .u64 (s.next : Int))), (6, 13, (.slice A2 4 c2)), (7, 14, (.slice A3 5 c3)), (8, 3, (.slice A3 5 c3))]
structure FoW (V : World) (s : Slt) (g9 : Nat) (A2 : Option Addr) (c2 : Nat) (A3 : Option Addr) (c3 : Nat) (b2 b6 b7 : Bool) (w : World) : Prop where
  k7 : b7 = true → b2 = true ∧ b6 = true
  bel : Below V.heap.size V w
  f2 : b2 = true → b7 = false → w.ownsRow V.heap.size 5 1 (.slice (some ⟨g9, 0, none⟩) 1 1) 1 (bs [CodeM.byte s.kind])
  f6 : b6 = true → b7 = false → Row w A2 (bs (CodeM.fx 4 s.next))
  f7 : b7 = true → w.ownsRow V.heap.size 5 1 (.slice A3 5 c3) 5 (bs ([CodeM.byte s.kind] ++ CodeM.fx 4 s.next))
section
variable {V : World} {s : Slt} {g9 : Nat} {A2 : Option Addr} {c2 : Nat} {A3 : Option Addr} {c3 : Nat} {b2 b6 b7 : Bool} {w w' : World}
theorem FoW.no7 (h : FoW V s g9 A2 c2 A3 c3 b2 b6 b7 w) (q : b2 = false ∨ b6 = false) : b7 = false := by
  cases hb : b7 with
  | false => rfl
  | true => obtain ⟨h1, h2⟩ := h.k7 hb; rcases q with q | q <;> simp_all
theorem FoW.at2 (h : FoW V s g9 A2 c2 A3 c3 b2 b6 b7 w) (q : b2 = false) (hk : s.kind < 256 := by omega) : FoW V s w.heap.size A2 c2 A3 c3 true b6 b7 (w.alloc (.cells #[.int .u8 (s.kind : Int)] 5)) := by
  subst q
  obtain rfl := h.no7 (.inl rfl)
  exact ⟨nofun, h.bel.alloc h.bel.size _, fun _ _ => owns_made w _ _ #[.int .u8 (s.kind : Int)] 1 _ h.bel.size rfl (by show [Value.int .u8 (s.kind : Int)] = [Value.int .u8 ((CodeM.byte s.kind).toNat : Int)]; rw [CodeM.ofNat_toNat _ hk]) (by decide), fun a b => (h.f6 a b).alloc _, nofun⟩
theorem FoW.at6 {A' : Option Addr} {c' : Nat} (h : FoW V s g9 A2 c2 A3 c3 b2 b6 b7 w) (q : b6 = false) (hr : Row w' A' (bs (CodeM.fx 4 s.next))) (hb : Below w.heap.size w w') : FoW V s g9 A' c' A3 c3 b2 true b7 w' := by
  subst q
  obtain rfl := h.no7 (.inr rfl)
  exact ⟨nofun, below_step h.bel hb (Nat.le_refl _), fun a b => Own.below (c := 1) (l := [CodeM.byte s.kind]) (h.f2 a b) hb, fun _ _ => hr, nofun⟩
theorem FoW.at7 {A' : Option Addr} {c' : Nat} (h : FoW V s g9 A2 c2 A3 c3 b2 b6 b7 w) (q : b7 = false) (q2 : b2 = true) (q6 : b6 = true) (h1 : w'.ownsRow V.heap.size 5 1 (.slice A' 5 c') 5 (bs ([CodeM.byte s.kind] ++ CodeM.fx 4 s.next))) (h2 : w.grownBy w' (Value.slice (some ⟨g9, 0, none⟩) 1 1).ownBlock) : FoW V s g9 A2 c2 A' c' b2 b6 true w' := by
  subst q q2 q6
  have hl := ((h.f2 rfl rfl).lt g9 rfl).1
  have e2 : (Value.slice (some (⟨g9, 0, none⟩ : Addr)) 1 1).ownBlock = some g9 := rfl
  rw [e2] at h2
  exact ⟨fun _ => ⟨rfl, rfl⟩, h.bel.grown h2 h.bel.size (fun q hq => by injection hq with hq; omega), nofun, nofun, fun _ => h1⟩
end
theorem own_kept2 {w w' : World} {base c : Nat} {A : Option Addr} {l : List UInt8} {row : Option Nat} (h : Own w base A c l) (hg : w.grownBy w' row) (hne : ∀ a, A = some a → row ≠ some a.block) : Own w' base A c l := by
  refine World.ownsRow.kept h hg ?_
  cases A with
  | none => exact .inl rfl
  | some a => exact .inr fun q => hne a rfl q.symm
theorem ap_row {A5 A6 : Option Addr} {n5 c5 : Nat} (hap : ∀ a a', A5 = some a → A6 = some a' → a.block ≠ a'.block) : ∀ a', A6 = some a' → (Value.slice A5 n5 c5).ownBlock ≠ some a'.block := by
  intro a' ha' q
  cases A5 with
  | none => cases q
  | some x => injection q with q; exact hap x a' rfl ha' q
theorem ap_grow {A5 A8 A6 : Option Addr} {n5 n8 c5 c8 K : Nat} (hap : ∀ a a', A5 = some a → A6 = some a' → a.block ≠ a'.block) (ho : (Value.slice A8 n8 c8).ownBlock = (Value.slice A5 n5 c5).ownBlock ∨ (Value.slice A8 n8 c8).ownBlock = some K) (h6 : ∀ a', A6 = some a' → a'.block < K) : ∀ a a', A8 = some a → A6 = some a' → a.block ≠ a'.block := by
  intro a a' ha ha'
  subst ha
  rcases ho with ho | ho
  · cases A5 with
    | none => cases ho
    | some x => injection ho with ho; rw [ho]; exact hap x a' rfl ha'
  · injection ho with ho; have := h6 a' ha'; omega
set_option maxRecDepth 100000 in
set_option maxHeartbeats 4000000 in
theorem refform8_any (s : Slt) (A : Option Addr) (nF cA : Nat) (D : Option Addr) (nD cD : Nat) (w : World) (hs : SltAt w A nF cA D nD cD s) (hm : SltM.May s) (hk : s.kind < 256) (hnx : s.next < 4294967296) :
    Calls Try.prog 26 #[.agg #[.int .u8 (s.kind : Int), .int .u32 (s.next : Int), .slice A nF cA, .slice D nD cD]] w (NewB (SltM.form s) w) := by
  have h247 := hm.most
  have hFD := hm.len
  have hlF := hs.lf
  have hlD := hs.ld
  go_enter Try.func26, Try.ntmps26
  go_wp2
  have hbx := Blk.new w 26 #[.int .u8 (s.kind : Int), .int .u32 (s.next : Int), .slice A nF cA, .slice D nD cD]
  have hVb : Below w.heap.size w (w.alloc (.cells #[.int .u8 (s.kind : Int), .int .u32 (s.next : Int), .slice A nF cA, .slice D nD cD] 26)) := (Below.refl w.heap.size w).alloc (Nat.le_refl _) _
  generalize w.alloc (.cells #[.int .u8 (s.kind : Int), .int .u32 (s.next : Int), .slice A nF cA, .slice D nD cD] 26) = V at *
  have hsV := hs.below hVb
  obtain ⟨g1, hg1⟩ : ∃ g1, w.heap.size = g1 := ⟨_, rfl⟩
  rw [hg1] at hbx ⊢
  refine wp_named fun a0 ha0 => ?_
  have z1 : a0.tmps.getD 1 undef = .pointer (some ⟨g1, 0, none⟩) := by rw [ha0.out]; rfl
  have hsz0 : a0.tmps.size = 61 := by rw [ha0.out]; rfl
  refine wp_region_invB _ (by kernel_rfl) (fun L a wv => ∃ g9 A2 c2 A3 c3, PIF a0 [3, 7, 8, 9, 10, 11, 12, 13, 14] (foP s g1 g9 A2 c2 A3 c3) L a ∧ FoW V s g9 A2 c2 A3 c3 (L 2) (L 6) (L 7) wv ∧ (L 8 = true → L 7 = true)) (by kernel_rfl) ?_ ?_ ?_
  · exact ⟨0, none, 0, none, 0, PIF.start _ _ _, ⟨nofun, ⟨rfl, rfl, rfl, Nat.le_refl _, fun _ _ => rfl⟩, nofun, nofun, nofun⟩, nofun⟩
  · rintro L a wv ⟨g9, A2, c2, A3, c3, hp, hw, hps⟩ hL
    have e3 := hp.pu (8, 3, (.slice A3 5 c3)) (by simp [foP]) (hL 8 (by simp))
    simp only at e3
    have hO3 := hw.f7 (hL 7 (by simp))
    have hwb := hw.bel
    rw [hp.eq]
    refine of_assigns (P := Try.prog) _ _ _ _ ?_
    rw [ha0.out]
    simp only [asgs, List.map, e3]
    generalize a.tmps.getD 7 undef = u7
    generalize a.tmps.getD 8 undef = u8
    generalize a.tmps.getD 9 undef = u9
    generalize a.tmps.getD 10 undef = u10
    generalize a.tmps.getD 11 undef = u11
    generalize a.tmps.getD 12 undef = u12
    generalize a.tmps.getD 13 undef = u13
    generalize a.tmps.getD 14 undef = u14
    clear hp hw hps hL e3 ha0 z1 hsz0
    clear a0 a L
    obtain ⟨p0, hp0⟩ : ∃ p0, [CodeM.byte s.kind] ++ CodeM.fx 4 s.next = p0 := ⟨_, rfl⟩
    rw [hp0] at hO3
    have hp5 : p0.length = 5 := by rw [← hp0, List.length_append, CodeM.fx_length]; rfl
    have hOw : Own wv V.heap.size A3 c3 p0 := by unfold Own; rw [hp5]; exact hO3
    clear hO3
    obtain ⟨x0, x1, x2, x3⟩ := (hbx.below hwb hbx.lt).c4
    have hbyte : IntKind.u8.wrap (nD : Int) = ((CodeM.byte nD).toNat : Int) := by
      rw [IntKind.wrap_u8, CodeM.ofNat_toNat _ (by omega)]; omega
    obtain ⟨bn, hbn⟩ : ∃ bn, CodeM.byte nD = bn := ⟨_, rfl⟩
    rw [hbn] at hbyte
    have HBN := Lib.hid hbn
    clear hbn
    go_wp2_with (at_builtin; refine wpl_app' _ rfl (.tmp 15) (.tmp 20) rfl V.heap.size A3 c3 p0 5 rfl hp5 (hOw.alloc _) (some ⟨wv.heap.size, 0, none⟩) 1 [bn] 1 rfl rfl (row_one wv _ _ rfl) ?_ ?_ ?_)
    · omega
    · have := hwb.size; simp; omega
    intro A4 c4 w4 h4 hg4 _
    have hb4 : Below V.heap.size V w4 := (hOw.alloc (.cells #[.int .u8 (bn.toNat : Int)] 5)).grown_below (by rw [hp5]) hg4 (hwb.alloc hwb.size _) (Nat.le_refl _) (by have := hwb.size; simp; omega)
    clear x0 x1 x2 x3 hbyte hg4 hOw hwb
    obtain ⟨p1, hp1⟩ : ∃ p1, p0 ++ [bn] = p1 := ⟨_, rfl⟩
    rw [hp1] at h4
    have hp6 : p1.length = 6 := by rw [← hp1, List.length_append, hp5]; rfl
    have HP1 : Hid ([CodeM.byte s.kind] ++ CodeM.fx 4 s.next ++ [CodeM.byte s.data.length] = p1) := Lib.hid (by rw [hp0, hlD, HBN.out]; exact hp1)
    clear hp0 hp1 hp5
    have hroom := hm.room
    unfold SltM.left at hroom
    go_wp2
    go_loopw [3, 4, 5] (fun b tl i wr => ∃ (q : Nat) (A5 : Option Addr) (n5 c5 : Nat) (A6 : Option Addr) (n6 c6 : Nat), b = .slice A5 n5 c5 ∧ tl = .slice A6 n6 c6 ∧ i = .int .i64 (q : Int) ∧ q ≤ nD ∧ (p1 ++ SltM.nums (s.full.take q) (s.data.take q)).length = n5 ∧ (s.data.take q).flatten.length = n6 ∧
      Own wr V.heap.size A5 c5 (p1 ++ SltM.nums (s.full.take q) (s.data.take q)) ∧ Own wr V.heap.size A6 c6 (s.data.take q).flatten ∧ (∀ a a', A5 = some a → A6 = some a' → a.block ≠ a'.block) ∧ Below V.heap.size V wr) (fun _ _ i _ => nD - (RowKit.intOf i).toNat)
    case atStart => exact ⟨0, A4, 6, c4, none, 0, 0, rfl, rfl, rfl, by omega, by simp [SltM.nums, hp6], rfl, by simpa [SltM.nums] using h4, Own.nil_ _ _, nofun, hb4⟩
    case round =>
      clear h4 hb4
      obtain ⟨q, A5, n5, c5, A6, n6, c6, rfl, rfl, rfl, hq, hn5, hn6, h5, h6, hap, hbel⟩ := hrel
      obtain ⟨x0, x1, x2, x3⟩ := (hbx.below hbel hbx.lt).c4
      have hcD := hsV.cd
      have hcF := hsV.cf
      have hsz := hbel.size
      have HN5 : Hid (n5 = 6 + 2 * q) := Lib.hid <| by rw [← hn5, List.length_append, hp6, SltM.nums_length (by rw [List.length_take, List.length_take, hlF, hlD]; omega), List.length_take, hlD]; omega
      have hn6' : n6 ≤ 494 := by
        have := SltM.sum_le (l := s.data) q
        rw [← hn6, SltM.sum_flatten]; omega
      by_cases hlt : q < nD
      · obtain ⟨x, hx⟩ : ∃ x, s.data[q]? = some x := ⟨_, List.getElem?_eq_getElem (by omega)⟩
        obtain ⟨f, hf⟩ : ∃ f, s.full[q]? = some f := ⟨_, List.getElem?_eq_getElem (by omega)⟩
        obtain ⟨gf, of, rfl, hcf⟩ := (hsV.below hbel).full_get hf
        obtain ⟨gd, od, B, nx, cb, rfl, hcd, hxn, hxr⟩ := (hsV.below hbel).data_get hx
        have hxs : nx ≤ 494 := by have := SltM.sum_get hx; omega
        have hnum : SltM.num f x = if f then nx + 1 else 0 := by unfold SltM.num; rw [hxn]
        obtain ⟨m, hm2⟩ : ∃ m, SltM.num f x = m := ⟨_, rfl⟩
        have hm500 : m ≤ 495 := by rw [← hm2, hnum]; split <;> omega
        have HM2 := Lib.hid hm2
        have HX := Lib.hid hx
        have HF := Lib.hid hf
        have HFX := Lib.hid (reffixed_any m 2)
        have hw64 : IntKind.u64.wrap (m : Int) = (m : Int) := by rw [IntKind.wrap_u64]; omega
        have hmv : f = true → ((nx : Int) + 1) = (m : Int) := fun e => by rw [hm2, e] at hnum; simp at hnum; omega
        have hm0 : f = false → m = 0 := fun e => by rw [hm2, e] at hnum; simpa using hnum
        clear hnum hm2 hx hf
        cases f with
        | true =>
          have hmv := hmv rfl
          clear hm0
          go_wp2_with fail
          clear x0 x1 x2 x3
          refine (HFX.out _ (by omega) (by omega)).mono ?_
          rintro e w5 ⟨A7, n7, c7, rfl, hn7, h7, b7⟩
          obtain rfl : 2 = n7 := by have := hn7.out; rw [CodeM.fx_length] at this; exact this
          have hb5 := below_step hbel b7 (Nat.le_refl _)
          have hs5 := b7.size
          have h55 := h5.below b7
          have h65 := h6.below b7
          have L2 := CodeM.fx_length 2 m
          go_wp2_with (at_builtin; refine wpl_app' _ rfl (.tmp 41) (.tmp 44) rfl V.heap.size A5 c5 (p1 ++ SltM.nums (s.full.take q) (s.data.take q)) n5 rfl hn5 h55 A7 c7 (CodeM.fx 2 m) 2 rfl L2 h7.row ?_ ?_ ?_)
          · have := HN5.out; omega
          · omega
          intro A8 c8 w6 h8 hg8 ho8
          have hb6 := h55.grown_below (by rw [hn5]) hg8 hb5 (Nat.le_refl _) (by omega)
          have hs6 := hg8.size
          have h66 := own_kept2 h65 hg8 (ap_row hap)
          have hap8 := ap_grow hap ho8 (fun a' ha' => by subst ha'; exact (World.ownsRow.lt h65 a'.block rfl).2)
          obtain ⟨x0, x1, x2, x3⟩ := (hbx.below hb6 hbx.lt).c4
          obtain ⟨gd', od', B', nx', cb', eD, hcd6, hxn', hxr'⟩ := (hsV.below hb6).data_get HX.out
          cases eD
          obtain rfl : nx = nx' := by omega
          go_wp2_with (at_builtin; refine wpl_app' _ rfl (.tmp 46) (.tmp 51) rfl V.heap.size A6 c6 (s.data.take q).flatten n6 rfl hn6 h66 B' cb' x nx rfl hxn' hxr' ?_ ?_ ?_)
          · omega
          · omega
          intro A9 c9 w7 h9 hg9 ho9
          have hb7 := h66.grown_below (by rw [hn6]) hg9 hb6 (Nat.le_refl _) (by omega)
          have h87 := own_kept2 h8 hg9 (ap_row (fun a a' ha ha' q => hap8 a' a ha' ha q.symm))
          have hap9 : ∀ a a', A8 = some a → A9 = some a' → a.block ≠ a'.block := fun a a' ha ha' q => ap_grow (A5 := A6) (A8 := A9) (A6 := A8) (fun y y' hy hy' r => hap8 y' y hy' hy r.symm) ho9 (fun z hz => by subst hz; exact (World.ownsRow.lt h8 z.block rfl).2) a' a ha' ha q.symm
          clear x0 x1 x2 x3 hcd6
          have HL1 : (p1 ++ SltM.nums (s.full.take (q + 1)) (s.data.take (q + 1))) = p1 ++ SltM.nums (s.full.take q) (s.data.take q) ++ CodeM.fx 2 m := by rw [SltM.nums_snoc HF.out HX.out, HM2.out, List.append_assoc]
          have HL2 : (s.data.take (q + 1)).flatten = (s.data.take q).flatten ++ x := by rw [List.take_add_one, HX.out, List.flatten_append]; simp
          have HH1 := Lib.hid HL1
          have HH2 := Lib.hid HL2
          clear HL1 HL2
          go_wp2
          go_roundw
          case rel => exact ⟨q + 1, A8, n5 + 2, c8, A9, n6 + nx, c9, rfl, rfl, by go_num, by omega, by rw [HH1.out, List.length_append, hn5, L2], by rw [HH2.out, List.length_append, hn6, hxn'], by rw [HH1.out]; first | exact h87 | (rw [List.append_assoc]; exact h87), by rw [HH2.out]; exact h9, hap9, hb7⟩
          case measure => simp [RowKit.intOf]; omega
        | false =>
          have hm0 := hm0 rfl
          subst hm0
          clear hmv
          go_wp2_with fail
          clear x0 x1 x2 x3
          refine (HFX.out _ (by omega) (by omega)).mono ?_
          rintro e w5 ⟨A7, n7, c7, rfl, hn7, h7, b7⟩
          obtain rfl : 2 = n7 := by have := hn7.out; rw [CodeM.fx_length] at this; exact this
          have hb5 := below_step hbel b7 (Nat.le_refl _)
          have hs5 := b7.size
          have h55 := h5.below b7
          have h65 := h6.below b7
          have L2 := CodeM.fx_length 2 0
          go_wp2_with (at_builtin; refine wpl_app' _ rfl (.tmp 41) (.tmp 44) rfl V.heap.size A5 c5 (p1 ++ SltM.nums (s.full.take q) (s.data.take q)) n5 rfl hn5 h55 A7 c7 (CodeM.fx 2 0) 2 rfl L2 h7.row ?_ ?_ ?_)
          · have := HN5.out; omega
          · omega
          intro A8 c8 w6 h8 hg8 ho8
          have hb6 := h55.grown_below (by rw [hn5]) hg8 hb5 (Nat.le_refl _) (by omega)
          have hs6 := hg8.size
          have h66 := own_kept2 h65 hg8 (ap_row hap)
          have hap8 := ap_grow hap ho8 (fun a' ha' => by subst ha'; exact (World.ownsRow.lt h65 a'.block rfl).2)
          obtain ⟨x0, x1, x2, x3⟩ := (hbx.below hb6 hbx.lt).c4
          obtain ⟨gd', od', B', nx', cb', eD, hcd6, hxn', hxr'⟩ := (hsV.below hb6).data_get HX.out
          cases eD
          obtain rfl : nx = nx' := by omega
          go_wp2_with (at_builtin; refine wpl_app' _ rfl (.tmp 46) (.tmp 51) rfl V.heap.size A6 c6 (s.data.take q).flatten n6 rfl hn6 h66 B' cb' x nx rfl hxn' hxr' ?_ ?_ ?_)
          · omega
          · omega
          intro A9 c9 w7 h9 hg9 ho9
          have hb7 := h66.grown_below (by rw [hn6]) hg9 hb6 (Nat.le_refl _) (by omega)
          have h87 := own_kept2 h8 hg9 (ap_row (fun a a' ha ha' q => hap8 a' a ha' ha q.symm))
          have hap9 : ∀ a a', A8 = some a → A9 = some a' → a.block ≠ a'.block := fun a a' ha ha' q => ap_grow (A5 := A6) (A8 := A9) (A6 := A8) (fun y y' hy hy' r => hap8 y' y hy' hy r.symm) ho9 (fun z hz => by subst hz; exact (World.ownsRow.lt h8 z.block rfl).2) a' a ha' ha q.symm
          clear x0 x1 x2 x3 hcd6
          have HL1 : (p1 ++ SltM.nums (s.full.take (q + 1)) (s.data.take (q + 1))) = p1 ++ SltM.nums (s.full.take q) (s.data.take q) ++ CodeM.fx 2 0 := by rw [SltM.nums_snoc HF.out HX.out, HM2.out, List.append_assoc]
          have HL2 : (s.data.take (q + 1)).flatten = (s.data.take q).flatten ++ x := by rw [List.take_add_one, HX.out, List.flatten_append]; simp
          have HH1 := Lib.hid HL1
          have HH2 := Lib.hid HL2
          clear HL1 HL2
          go_wp2
          go_roundw
          case rel => exact ⟨q + 1, A8, n5 + 2, c8, A9, n6 + nx, c9, rfl, rfl, by go_num, by omega, by rw [HH1.out, List.length_append, hn5, L2], by rw [HH2.out, List.length_append, hn6, hxn'], by rw [HH1.out]; first | exact h87 | (rw [List.append_assoc]; exact h87), by rw [HH2.out]; exact h9, hap9, hb7⟩
          case measure => simp [RowKit.intOf]; omega
      · obtain rfl : q = nD := by omega
        have e1 : s.full.take q = s.full := List.take_of_length_le (by omega)
        have e2 : s.data.take q = s.data := List.take_of_length_le (by omega)
        rw [e1, e2] at hn5 h5
        rw [e2] at hn6 h6
        have hlen : n5 + n6 ≤ 500 := by have := HN5.out; have := SltM.sum_flatten s.data; omega
        have HLEN := Lib.hid hlen
        go_wp2_with (at_builtin; refine wpl_app' _ rfl (.tmp 53) (.tmp 54) rfl V.heap.size A5 c5 (p1 ++ SltM.nums s.full s.data) n5 rfl hn5 h5 A6 c6 s.data.flatten n6 rfl hn6 h6.row ?_ ?_ ?_)
        · omega
        · omega
        intro A7 c7 w5 h7 hg7 _
        have hb5 := h5.grown_below (by rw [hn5]) hg7 hbel (Nat.le_refl _) (by omega)
        have hcore : p1 ++ SltM.nums s.full s.data ++ s.data.flatten = SltM.core s := by rw [← HP1.out]; rfl
        rw [show p1 ++ SltM.nums s.full s.data ++ s.data.flatten = p1 ++ (SltM.nums s.full s.data ++ s.data.flatten) from List.append_assoc _ _ _] at hcore
        first | rw [hcore] at h7 | (rw [List.append_assoc, hcore] at h7)
        have hcl : (SltM.core s).length = n5 + n6 := by rw [← hcore, ← List.append_assoc, List.length_append, hn5, hn6]
        clear hcore
        obtain ⟨g7, rfl, hg7a, hg7b⟩ := h7.some_ (by intro e; rw [e] at hcl; have := HN5.out; simp at hcl; omega)
        obtain ⟨kk, hkk⟩ : ∃ kk : Nat, (500 : Int) - ((n5 : Int) + (n6 : Int)) = (kk : Int) := ⟨500 - (n5 + n6), by omega⟩
        have hkl : n5 + n6 + kk = 500 := by omega
        go_wp2_with (at_builtin; refine wpl_appZ _ rfl (.tmp 56) (.tmp 59) rfl V.heap.size g7 (n5 + n6) c7 (SltM.core s) rfl hcl h7 kk (by first | rfl | simp [hkk]) (by omega) (by omega) ?_)
        intro A8 c8 w6 h8 hg8
        have hb6 : Below V.heap.size V w6 := hb5.grown hg8 hb5.size (fun q hq => by injection hq with hq; omega)
        go_wp2
        go_ret
        have hform : SltM.core s ++ List.replicate kk 0 = SltM.form s := by unfold SltM.form; rw [hcl]; congr 2; omega
        rw [hform] at h8
        have hfl : (SltM.form s).length = 500 := SltM.form_length hm
        exact ⟨A8, _, c8, rfl, Lib.hid hfl, h8.base_ hVb.size, below_join hVb hb6⟩
  · refine ⟨?_, ?_, ?_, ?_, ?_, ?_, ?_, ?_, ?_, trivial⟩
    · intro L a w1 hI hi hd
      obtain ⟨g9, A2, c2, A3, c3, hp, hw, hps⟩ := hI
      have t1 := hp.at_ 1 _ rfl z1
      have t1' := t1
      rw [Array.getD_eq_getD_getElem?] at t1'
      exact rstep_valW (wanted_none rfl _) (.pointer (some ⟨g1, 0, none⟩)) w1 (by go_simp) ⟨g9, A2, c2, A3, c3, (hp.put 0 7 (.pointer (some ⟨g1, 0, none⟩)) (by simp [foP]) (by simp [foP]) rfl (by rw [hsz0]; decide)), hw, hps⟩
    · intro L a w1 hI hi hd
      obtain ⟨g9, A2, c2, A3, c3, hp, hw, hps⟩ := hI
      simp [Region.binds] at hd
      have e0 := hp.pu (0, 7, (.pointer (some ⟨g1, 0, none⟩))) (by simp [foP]) (by simp [hd])
      simp only at e0
      have f0 : a.tmps[7]?.getD undef = (.pointer (some ⟨g1, 0, none⟩)) := by rw [← Array.getD_eq_getD_getElem?]; exact e0
      obtain ⟨x0, x1, x2, x3⟩ := (hbx.below hw.bel hbx.lt).c4
      exact rstep_valW (wanted_none rfl _) (.int .u8 (s.kind : Int)) w1 (by go_simp) ⟨g9, A2, c2, A3, c3, (hp.put 1 8 (.int .u8 (s.kind : Int)) (by simp [foP]) (by simp [foP]) rfl (by rw [hsz0]; decide)), hw, hps⟩
    · intro L a w1 hI hi hd
      obtain ⟨g9, A2, c2, A3, c3, hp, hw, hps⟩ := hI
      simp [Region.binds] at hd
      have e1 := hp.pu (1, 8, (.int .u8 (s.kind : Int))) (by simp [foP]) (by simp [hd])
      simp only at e1
      have f1 : a.tmps[8]?.getD undef = (.int .u8 (s.kind : Int)) := by rw [← Array.getD_eq_getD_getElem?]; exact e1
      have hi : L 2 = false := hi
      have n7 := hw.no7 (.inl hi)
      refine rstep_valW (wanted_none rfl _) (.slice (some ⟨w1.heap.size, 0, none⟩) 1 1) (w1.alloc (.cells #[.int .u8 (s.kind : Int)] 5)) (by go_simp) ⟨w1.heap.size, A2, c2, A3, c3, PIF.put (PIF.swap (p2 := (foP s g1 w1.heap.size A2 c2 A3 c3)) hp (by intro q hq hL; simp only [foP, List.mem_cons, List.not_mem_nil, or_false] at hq; rcases hq with rfl | rfl | rfl | rfl | rfl | rfl | rfl | rfl | rfl <;> first | (simp [foP]; done) | exact absurd hL (by show ¬ L 2 = true; rw [hi]; simp) | exact absurd hL (by show ¬ L 7 = true; rw [n7]; simp) | exact absurd (hps hL) (by rw [n7]; simp))) 2 9 (.slice (some ⟨w1.heap.size, 0, none⟩) 1 1) (by simp [foP]) (by simp [foP]) rfl (by rw [hsz0]; decide), ?_, hps⟩
      exact hw.at2 hi
    · intro L a w1 hI hi hd
      obtain ⟨g9, A2, c2, A3, c3, hp, hw, hps⟩ := hI
      have t1 := hp.at_ 1 _ rfl z1
      have t1' := t1
      rw [Array.getD_eq_getD_getElem?] at t1'
      exact rstep_valW (wanted_none rfl _) (.pointer (some ⟨g1, 1, none⟩)) w1 (by go_simp) ⟨g9, A2, c2, A3, c3, (hp.put 3 10 (.pointer (some ⟨g1, 1, none⟩)) (by simp [foP]) (by simp [foP]) rfl (by rw [hsz0]; decide)), hw, hps⟩
    · intro L a w1 hI hi hd
      obtain ⟨g9, A2, c2, A3, c3, hp, hw, hps⟩ := hI
      simp [Region.binds] at hd
      have e3 := hp.pu (3, 10, (.pointer (some ⟨g1, 1, none⟩))) (by simp [foP]) (by simp [hd])
      simp only at e3
      have f3 : a.tmps[10]?.getD undef = (.pointer (some ⟨g1, 1, none⟩)) := by rw [← Array.getD_eq_getD_getElem?]; exact e3
      obtain ⟨x0, x1, x2, x3⟩ := (hbx.below hw.bel hbx.lt).c4
      exact rstep_valW (wanted_none rfl _) (.int .u32 (s.next : Int)) w1 (by go_simp) ⟨g9, A2, c2, A3, c3, (hp.put 4 11 (.int .u32 (s.next : Int)) (by simp [foP]) (by simp [foP]) rfl (by rw [hsz0]; decide)), hw, hps⟩
    · intro L a w1 hI hi hd
      obtain ⟨g9, A2, c2, A3, c3, hp, hw, hps⟩ := hI
      simp [Region.binds] at hd
      have e4 := hp.pu (4, 11, (.int .u32 (s.next : Int))) (by simp [foP]) (by simp [hd])
      simp only at e4
      have f4 : a.tmps[11]?.getD undef = (.int .u32 (s.next : Int)) := by rw [← Array.getD_eq_getD_getElem?]; exact e4
      have hwr : IntKind.u64.wrap (s.next : Int) = (s.next : Int) := by rw [IntKind.wrap_u64]; omega
      exact rstep_valW (wanted_none rfl _) (.int .u64 (s.next : Int)) w1 (by go_simp) ⟨g9, A2, c2, A3, c3, (hp.put 5 12 (.int .u64 (s.next : Int)) (by simp [foP]) (by simp [foP]) rfl (by rw [hsz0]; decide)), hw, hps⟩
    · intro L a w1 hI hi hd
      obtain ⟨g9, A2, c2, A3, c3, hp, hw, hps⟩ := hI
      simp [Region.binds] at hd
      have e5 := hp.pu (5, 12, (.int .u64 (s.next : Int))) (by simp [foP]) (by simp [hd])
      simp only at e5
      have f5 : a.tmps[12]?.getD undef = (.int .u64 (s.next : Int)) := by rw [← Array.getD_eq_getD_getElem?]; exact e5
      have hi : L 6 = false := hi
      have n7 := hw.no7 (.inr hi)
      refine rstep_callW (wanted_none rfl _) 44 #[.int .u64 (s.next : Int), .int .i64 4] (by go_simp) ?_
      refine (reffixed_any s.next 4 w1 (by omega) (by omega)).mono ?_
      rintro e w2 ⟨A', n', c', rfl, hn', hO, hb⟩
      obtain rfl : 4 = n' := by have := hn'.out; rw [CodeM.fx_length] at this; exact this
      exact ⟨g9, A', c', A3, c3, PIF.put (PIF.swap (p2 := (foP s g1 g9 A' c' A3 c3)) hp (by intro q hq hL; simp only [foP, List.mem_cons, List.not_mem_nil, or_false] at hq; rcases hq with rfl | rfl | rfl | rfl | rfl | rfl | rfl | rfl | rfl <;> first | (simp [foP]; done) | exact absurd hL (by show ¬ L 6 = true; rw [hi]; simp) | exact absurd hL (by show ¬ L 7 = true; rw [n7]; simp) | exact absurd (hps hL) (by rw [n7]; simp))) 6 13 (.slice A' 4 c') (by simp [foP]) (by simp [foP]) rfl (by rw [hsz0]; decide), hw.at6 hi hO.row hb, hps⟩
    · intro L a w1 hI hi hd
      obtain ⟨g9, A2, c2, A3, c3, hp, hw, hps⟩ := hI
      simp [Region.binds] at hd
      have e2 := hp.pu (2, 9, (.slice (some ⟨g9, 0, none⟩) 1 1)) (by simp [foP]) (by simp [hd])
      simp only at e2
      have f2 : a.tmps[9]?.getD undef = (.slice (some ⟨g9, 0, none⟩) 1 1) := by rw [← Array.getD_eq_getD_getElem?]; exact e2
      have e6 := hp.pu (6, 13, (.slice A2 4 c2)) (by simp [foP]) (by simp [hd])
      simp only at e6
      have f6 : a.tmps[13]?.getD undef = (.slice A2 4 c2) := by rw [← Array.getD_eq_getD_getElem?]; exact e6
      have hi : L 7 = false := hi
      have n7 := hi
      have hO := hw.f2 hd.1 hi
      have hr := hw.f6 (by simp [hd]) hi
      obtain ⟨i0, hi0, hz0, hz1, hz2⟩ := info_parts info_u8
      refine rstep_wp rfl (wp_append_row w1 (.tmp 9) (.tmp 13) _ rfl V.heap.size 5 i0 _ 1 1 Try.underlying27 hi0 hz0 hz1 hz2 rfl (by omega) (.slice (some ⟨g9, 0, none⟩) 1 1) 1 (bs [CodeM.byte s.kind]) e2 hO A2 4 c2 (bs (CodeM.fx 4 s.next)) e6 (by rw [bs_length, CodeM.fx_length]) hr (bs_one _) (by unfold maxLen; omega) (by omega) hw.bel.size fun A' c' w2 h1 h2 h3 => ?_)
      rw [← bs_append] at h1
      refine ⟨g9, A2, c2, A', c', PIF.put (PIF.swap (p2 := (foP s g1 g9 A2 c2 A' c')) hp (by intro q hq hL; simp only [foP, List.mem_cons, List.not_mem_nil, or_false] at hq; rcases hq with rfl | rfl | rfl | rfl | rfl | rfl | rfl | rfl | rfl <;> first | (simp [foP]; done) | exact absurd hL (by show ¬ L 7 = true; rw [hi]; simp) | exact absurd hL (by show ¬ L 7 = true; rw [n7]; simp) | exact absurd (hps hL) (by rw [n7]; simp))) 7 14 (.slice A' 5 c') (by simp [foP]) (by simp [foP]) rfl (by rw [hsz0]; decide), ?_, fun _ => upd_eq _ _⟩
      exact hw.at7 hi hd.1 (by simp [hd]) h1 h2
    · intro L a w1 hI hi hd
      obtain ⟨g9, A2, c2, A3, c3, hp, hw, hps⟩ := hI
      simp [Region.binds] at hd
      have e7 := hp.pu (7, 14, (.slice A3 5 c3)) (by simp [foP]) (by simp [hd])
      simp only at e7
      have f7 : a.tmps[14]?.getD undef = (.slice A3 5 c3) := by rw [← Array.getD_eq_getD_getElem?]; exact e7
      exact rstep_valW (wanted_none rfl _) (.slice A3 5 c3) w1 (by go_simp) ⟨g9, A2, c2, A3, c3, (hp.put 8 3 (.slice A3 5 c3) (by simp [foP]) (by simp [foP]) rfl (by rw [hsz0]; decide)), hw, fun _ => by simp [hd, upd]⟩
end Go.Proofs.Ytofbfehpadjbbaa
