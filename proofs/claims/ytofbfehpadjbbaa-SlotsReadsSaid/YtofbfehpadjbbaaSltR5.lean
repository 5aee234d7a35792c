/-
  slots.Read: what any bytes are read as.
  Conditions: the bytes lie in memory as a list.
-/
import Derived.Test.YtofbfehpadjbbaaSltR4
import Derived.Test.YtofbfehpadjbbaaSltR3
import Derived.Test.YtofbfehpadjbbaaSltR2
import Derived.Deep.Cut
namespace Go.Proofs.Ytofbfehpadjbbaa
open Go.RowKit Go.Sort Go.Lib
set_option linter.unusedVariables false
set_option linter.unusedSimpArgs false
/-- What comes back. -/
def RP8w (r : Option Slt) (w : World) (e : Ending) (w' : World) : Prop := match r with
  | none => e = .returned (.tuple #[.agg #[.int .u8 0, .int .u32 0, .slice none 0 0, .slice none 0 0], .int .i64 4]) ∧ Below w.heap.size w w'
  | some s => ∃ A' n1 c1 D' n2 c2, e = .returned (.tuple #[.agg #[.int .u8 (s.kind : Int), .int .u32 (s.next : Int), .slice A' n1 c1, .slice D' n2 c2], .int .i64 0]) ∧ SltNew w' w.heap.size A' n1 c1 D' n2 c2 s ∧ Below w.heap.size w w'
/-- A slotted body in new memory that may be written. -/
def SltNewN (w : World) (base : Nat) (A : Option Addr) (nF cA : Nat) (D : Option Addr) (nD cD : Nat) (s : Slt) : Prop := ∃ G ps, ps.map Sl.l = s.data ∧ OwnP w base G A nF cA D nD cD s.full ps ∧ NF w ps
theorem SltNewN.new {w : World} {base : Nat} {A : Option Addr} {nF cA : Nat} {D : Option Addr} {nD cD : Nat} {s : Slt} (h : SltNewN w base A nF cA D nD cD s) : SltNew w base A nF cA D nD cD s := by
  obtain ⟨G, ps, h1, h2, _⟩ := h
  exact ⟨G, ps, h1, h2⟩
/-- What comes back, in memory that may be written. -/
def RP8 (r : Option Slt) (w : World) (e : Ending) (w' : World) : Prop := match r with
  | none => e = .returned (.tuple #[.agg #[.int .u8 0, .int .u32 0, .slice none 0 0, .slice none 0 0], .int .i64 4]) ∧ Below w.heap.size w w'
  | some s => ∃ A' n1 c1 D' n2 c2, e = .returned (.tuple #[.agg #[.int .u8 (s.kind : Int), .int .u32 (s.next : Int), .slice A' n1 c1, .slice D' n2 c2], .int .i64 0]) ∧ SltNewN w' w.heap.size A' n1 c1 D' n2 c2 s ∧ Below w.heap.size w w'
theorem fixed_at {l : List UInt8} {a k : Nat} (h : a + k ≤ l.length) : CodeM.Rd.fixed k ⟨l.drop a, 0⟩ = (CodeM.le ((l.drop a).take k), ⟨l.drop (a + k), 0⟩) := by
  rw [CodeM.fixed_ok (by rw [List.length_drop]; omega), List.drop_drop]
theorem RdAt.belowB {t : TypeId} {bl B : Nat} {w w' : World} {g : Nat} {r : CodeM.Rd} (h : RdAt t bl w g r) (hb : Below B w w') (h1 : g < B) (h2 : bl < B) : RdAt t bl w' g r := by
  obtain ⟨A, n, c, hB, e1, e2, ⟨e3, e4⟩, e5⟩ := h
  refine ⟨A, n, c, hB.below hb h1, e1, e2, ⟨e3, e4⟩, ?_⟩
  rcases e5 with e5 | ⟨b, o, rfl, hc⟩
  · exact .inl e5
  · refine .inr ⟨b, o, rfl, fun j u hu => ?_⟩
    rw [hb.cell (by show b < B; have h5 : b = bl := e4 ⟨b, o, none⟩ rfl; omega)]
    exact hc j u hu
theorem le_one (l : List UInt8) (h : l ≠ []) : CodeM.le (l.take 1) = (l.headD 0).toNat := by
  cases l with
  | nil => exact absurd rfl h
  | cons u l => show u.toNat + 256 * 0 = u.toNat; omega
set_option maxRecDepth 100000 in
set_option maxHeartbeats 4000000 in
theorem read8_500 (ab ao c : Nat) (l : List UInt8) (w : World) (hr : Row w (some ⟨ab, ao, none⟩) (bs l)) (hn : l.length = 500) (hc5 : 500 ≤ c) (hc : c ≤ maxLen) :
    Calls Try.prog 22 #[.slice (some ⟨ab, ao, none⟩) 500 c] w (RP8 (SltM.readP l) w) := by
  unfold maxLen at hc
  obtain ⟨k0, hk0⟩ : ∃ k0, (l.headD 0).toNat = k0 := ⟨_, rfl⟩
  obtain ⟨k1, hk1⟩ : ∃ k1, CodeM.le ((l.drop 1).take 4) = k1 := ⟨_, rfl⟩
  obtain ⟨m, hm⟩ : ∃ m, ((l.drop 5).headD 0).toNat = m := ⟨_, rfl⟩
  have hm256 : m < 256 := by rw [← hm]; exact UInt8.toNat_lt _
  have hne : ∀ a, a < 500 → l.drop a ≠ [] := fun a ha e => by have := congrArg List.length e; rw [List.length_drop, hn] at this; simp at this; omega
  have r1 : CodeM.Rd.fixed 1 ⟨l, 0⟩ = (k0, ⟨l.drop 1, 0⟩) := by have := @fixed_at l 0 1 (by omega); rw [List.drop_zero, le_one _ (by have := hne 0 (by omega); rwa [List.drop_zero] at this), hk0] at this; exact this
  have r2 : CodeM.Rd.fixed 4 ⟨l.drop 1, 0⟩ = (k1, ⟨l.drop 5, 0⟩) := by rw [fixed_at (by omega), hk1]
  have r3 : CodeM.Rd.fixed 1 ⟨l.drop 5, 0⟩ = (m, ⟨l.drop 6, 0⟩) := by rw [fixed_at (by omega), le_one _ (hne 5 (by omega)), hm]
  have C1 : Hid (∀ bl g w', RdAt 73 bl w' g ⟨l, 0⟩ → Calls Try.prog 35 #[.pointer (some ⟨g, 0, none⟩)] w' (RdStep 73 bl g (.int .u8 (k0 : Int)) ⟨l.drop 1, 0⟩ w')) := Lib.hid fun bl g w' h => by have := u8_any bl g _ w' h; rwa [r1] at this
  have C2 : Hid (∀ bl g w', RdAt 73 bl w' g ⟨l.drop 1, 0⟩ → Calls Try.prog 36 #[.pointer (some ⟨g, 0, none⟩)] w' (RdStep 73 bl g (.int .u32 (k1 : Int)) ⟨l.drop 5, 0⟩ w')) := Lib.hid fun bl g w' h => by have := u32_any bl g _ w' h; rwa [r2] at this
  have C3 : Hid (∀ bl g w', RdAt 73 bl w' g ⟨l.drop 5, 0⟩ → Calls Try.prog 35 #[.pointer (some ⟨g, 0, none⟩)] w' (RdStep 73 bl g (.int .u8 (m : Int)) ⟨l.drop 6, 0⟩ w')) := Lib.hid fun bl g w' h => by have := u8_any bl g _ w' h; rwa [r3] at this
  have hnr : Hid (∀ w', Row w' (some ⟨ab, ao, none⟩) (bs l) → Calls Try.prog 34 #[.slice (some ⟨ab, ao, none⟩) 500 c] w' (NewR 73 ⟨l, 0⟩ w')) := Lib.hid fun w' h => by rw [← hn]; exact newreader_any (some ⟨ab, ao, none⟩) c l w' h (by omega)
  have HN := Lib.hid hn
  have H0 := Lib.hid hk0
  have H1 := Lib.hid hk1
  have HM := Lib.hid hm
  clear r1 r2 r3 hn hk0 hk1 hm hne
  go_enter Try.func22, Try.ntmps22
  have hR0 := Blk.new w 26 #[.int .u8 0, .int .u32 0, .slice none 0 0, .slice none 0 0]
  have hB0 : Below w.heap.size w (w.alloc (.cells #[.int .u8 0, .int .u32 0, .slice none 0 0, .slice none 0 0] 26)) := (Below.refl w.heap.size w).alloc (Nat.le_refl _) _
  obtain ⟨rb, hrb⟩ : ∃ rb, w.heap.size = rb := ⟨_, rfl⟩
  go_wp2_with fail
  generalize w.alloc (.cells #[.int .u8 0, .int .u32 0, .slice none 0 0, .slice none 0 0] 26) = V at *
  rw [hrb] at hR0
  refine (hnr.out V (hr.below hB0)).mono ?_
  rintro e w1 ⟨gr, bl, rfl, ⟨hgr, hbl⟩, hrd, b1⟩
  have hB1 := below_step hB0 b1 (Nat.le_refl _)
  have hR1 := hR0.below b1 hR0.lt
  have hrgr : rb < gr := Nat.lt_of_lt_of_le hR0.lt hgr
  clear hB0 hR0 b1 hgr
  go_wp2_with fail
  refine (C1.out bl gr w1 hrd).mono ?_
  rintro e w2 ⟨rfl, hrd2, hg2⟩
  have hB2 := below_grown hB1 hg2 hB1.size (by omega)
  have hR2 := hR1.grown hg2 (fun q => by injection q with q; omega)
  have hbl2 := Nat.lt_of_lt_of_le hbl hg2.size
  clear hB1 hR1 hrd hg2 hbl
  go_wp2_with fail
  refine (C2.out bl gr w2 hrd2).mono ?_
  rintro e w3 ⟨rfl, hrd3, hg3⟩
  have hB3 := below_grown hB2 hg3 hB2.size (by omega)
  have hR3 := hR2.grown hg3 (fun q => by injection q with q; omega)
  have hbl3 := Nat.lt_of_lt_of_le hbl2 hg3.size
  clear hB2 hR2 hrd2 hg3 hbl2
  have hG0 := Blk.new w3 26 #[.int .u8 0, .int .u32 0, .slice none 0 0, .slice none 0 0]
  have k0' := hG0.frozen 0
  have k1' := hG0.frozen 1
  have k2' := hG0.frozen 2
  have k3' := hG0.frozen 3
  go_wp2_with fail
  clear k0' k1' k2' k3' hG0
  have hG4 := Blk.new w3 26 #[.int .u8 (k0 : Int), .int .u32 (k1 : Int), .slice none 0 0, .slice none 0 0]
  have hb4 : Below w3.heap.size w3 (w3.alloc (.cells #[.int .u8 (k0 : Int), .int .u32 (k1 : Int), .slice none 0 0, .slice none 0 0] 26)) := (Below.refl w3.heap.size w3).alloc (Nat.le_refl _) _
  generalize w3.alloc (.cells #[.int .u8 (k0 : Int), .int .u32 (k1 : Int), .slice none 0 0, .slice none 0 0] 26) = w4 at *
  have hrd4 := hrd3.below hb4
  have hR4 := hR3.below hb4 hR3.lt
  have hB4 := below_step hB3 hb4 (Nat.le_refl _)
  have hgrG := hrd3.lt
  obtain ⟨G, hG⟩ : ∃ G, w3.heap.size = G := ⟨_, rfl⟩
  rw [hG] at hG4 hgrG hbl3 ⊢
  clear hrd3 hR3 hB3 hb4 hG
  refine (C3.out bl gr w4 hrd4).mono ?_
  rintro e w5 ⟨rfl, hrd5, hg5⟩
  have hB5 := below_grown hB4 hg5 hB4.size (by omega)
  have hR5 := hR4.grown hg5 (fun q => by injection q with q; omega)
  have hG5 := hG4.grown hg5 (fun q => by injection q with q; omega)
  clear hB4 hR4 hrd4 hg5 hG4
  go_wp2
  go_loopw [7, 28] (fun a i wr => ∃ (q p : Nat) (A1 : Option Addr) (c1 : Nat) (D1 : Option Addr) (cD1 : Nat) (fl : List Bool) (ps : List Sl), a = .int .i64 (p : Int) ∧ i = .int .i64 (q : Int) ∧ q ≤ m ∧ (6 + 2 * m ≤ p ∧ (q = 0 ∧ p = 6 + 2 * m ∨ p ≤ 500) ∧ SltM.sum (ps.map Sl.l) ≤ p) ∧
    Hid (SltM.parse l (SltM.sizes l m 6) (6 + 2 * m) = SltM.rest l m q p fl (ps.map Sl.l)) ∧ RdAt 73 bl wr gr ⟨l.drop (6 + 2 * q), 0⟩ ∧ Blk wr G 26 #[.int .u8 (k0 : Int), .int .u32 (k1 : Int), .slice A1 q c1, .slice D1 q cD1] ∧ (OwnP wr G G A1 q c1 D1 q cD1 fl ps ∧ NF wr ps) ∧ Blk wr rb 26 #[.int .u8 0, .int .u32 0, .slice none 0 0, .slice none 0 0] ∧ Below w.heap.size w wr) (fun _ i _ => m - (RowKit.intOf i).toNat)
  case atStart =>
    exact ⟨0, 6 + 2 * m, none, 0, none, 0, [], [], by go_num, rfl, by omega, ⟨by omega, .inl ⟨rfl, rfl⟩, Nat.zero_le _⟩, Lib.hid (SltM.rest_start l m _).symm, hrd5, hG5, ⟨⟨World.ownsRow_nil _ _ _ _, World.ownsRow_nil _ _ _ _, nofun, nofun, nofun, nofun⟩, nofun⟩, hR5, hB5⟩
  case round =>
    clear hrd5 hG5 hR5 hB5
    obtain ⟨k, p, A1, c1, D1, cD1, fl, ps, rfl, rfl, hq, ⟨hp1, hp2, hp3⟩, hrest, hrd, hGr, ⟨hown, hnf⟩, hRr, hbel⟩ := hrel
    by_cases hlt : k < m
    · obtain ⟨z, hz⟩ : ∃ z, CodeM.le ((l.drop (6 + 2 * k)).take 2) = z := ⟨_, rfl⟩
      have h500 : 6 + 2 * k + 2 ≤ 500 := by omega
      have hzl : z < 65536 := by
        rw [← hz]
        have := CodeM.le_lt ((l.drop (6 + 2 * k)).take 2)
        rw [List.length_take, List.length_drop, HN.out, Nat.min_eq_left (by omega)] at this
        exact this
      have C16 : Hid (Calls Try.prog 37 #[.pointer (some ⟨gr, 0, none⟩)] wr (RdStep 73 bl gr (.int .u16 (z : Int)) ⟨l.drop (6 + 2 * (k + 1)), 0⟩ wr)) := Lib.hid (by
        have h1 := u16_any bl gr _ wr hrd
        rw [fixed_at (by rw [HN.out]; exact h500), hz] at h1
        exact h1)
      have HZ := Lib.hid hz
      clear hz
      go_wp2_with fail
      refine C16.out.mono ?_
      rintro e wn ⟨rfl, hrdn, hgn⟩
      have hRn := hRr.grown hgn (fun q => by injection q with q; omega)
      have hGn := hGr.grown hgn (fun q => by injection q with q; omega)
      have hbn := below_grown hbel hgn hbel.size (by omega)
      have hon := hown.kept hgn (fun a ha q => by injection q with q; have := (hown.fu.blk ha).1; omega) (fun a ha q => by injection q with q; have := (hown.li.blk ha).1; omega) (fun x hx => (hown.each x hx).2.2.imp id fun h4 a ha q => by injection q with q; have := (h4 a ha).1.1; omega)
      have hnf1 := hnf.kept hgn (fun x hx => (hown.each x hx).2.2.imp id fun h4 a ha q => by injection q with q; have := (h4 a ha).1.1; omega)
      clear C16 hRr hGr hbel hown hgn hrd hnf
      obtain ⟨y, hy⟩ : ∃ y, z - 1 = y := ⟨_, rfl⟩
      have hmax : max (0 : Int) ((z : Int) - 1) = (y : Int) := by omega
      have hyl : y < 65536 := by omega
      have HY := Lib.hid hy
      clear hy
      by_cases h5 : 500 < p + y
      · have HP : Hid (SltM.readP l = none) := Lib.hid (SltM.readP_none HM.out (hrest.out.trans (SltM.rest_none hlt HZ.out (by rw [HY.out]; exact h5))))
        have f0 := hRn.frozen 0
        have f1 := hRn.frozen 1
        have f2 := hRn.frozen 2
        have f3 := hRn.frozen 3
        obtain ⟨x0, x1, x2, x3⟩ := hRn.c4
        go_wp2
        refine ret_cell rfl rb #[.int .u8 0, .int .u32 0, .slice none 0 0, .slice none 0 0] _ rfl (hRn.set4 _ _ _ _) Try.underlying26 rfl (by kernel_rfl) rfl ?_
        rw [HP.out]
        exact ⟨rfl, hbn.grown (grown4 _ _ _ _ _ _) hbn.size (fun q hq => by injection hq with hq; omega)⟩
      · obtain ⟨y0, y1, y2, y3⟩ := hGn.c4
        have hgA : ∀ a, A1 = some a → G < a.block := fun a ha => by have := (hon.fu.blk ha).1; have := hon.gA a ha; omega
        have hon2 := hon.alloc (.cells #[Value.bool (decide (0 < z))] 4)
        have hGl : G < (wn.alloc (.cells #[Value.bool (decide (0 < z))] 4)).heap.size := by have := hGn.lt; simp; omega
        go_wp2_with (at_builtin; refine wpl_rdF _ rfl (.tmp 44) (.tmp 47) rfl rfl hon2 hGl (Nat.le_of_lt hGl) (some ⟨wn.heap.size, 0, none⟩) 1 (decide (0 < z)) rfl (row_new wn _ _ _ _ rfl) (by omega) ?_)
        clear y0 y1 y2 y3
        intro Af cf wf hPf hgF
        have hnr : ∀ j, (Value.slice A1 k c1).ownBlock = some j → G < j := by
          intro j hj
          have := hPf
          cases A1 with
          | none => cases hj
          | some y => injection hj with hj; have h1 := hgA y rfl; omega
        have hal : Below wn.heap.size wn (wn.alloc (.cells #[Value.bool (decide (0 < z))] 4)) := (Below.refl _ _).alloc (Nat.le_refl _) _
        have hGf := (hGn.alloc (.cells #[Value.bool (decide (0 < z))] 4)).grown hgF (fun q => by have := hnr _ q.symm; omega)
        have hRf := (hRn.alloc (.cells #[Value.bool (decide (0 < z))] 4)).grown hgF (fun q => by have := hnr _ q.symm; omega)
        have hdf := (hrdn.below hal).far hgF (fun q => by have := hnr _ q; omega) (fun q => by have := hnr _ q; omega)
        have hbf := (below_step hbn hal (Nat.le_refl _)).grown hgF (by have := hbn.size; simp; omega) (fun q hq => by have := hnr _ hq; omega)
        have hnf2 := (hnf1.below hal).kept hgF (fun p hp => (hon2.each p hp).2.2.imp id fun h4 a ha q => by
          cases A1 with
          | none => cases q
          | some y => injection q with q; exact (h4 a ha).2.2.1 y rfl q.symm)
        clear hon2 hon hnf1
        have gg := grownBy_setCell wf G 2 (.slice Af (k + 1) cf)
        have hnfx := hnf2.kept gg (fun p hp => (hPf.each p hp).2.2.imp id fun h4 a ha q => by injection q with q; exact (h4 a ha).2.1 q.symm)
        have hGx : Blk (wf.setCell ⟨G, 2, none⟩ (.slice Af (k + 1) cf)) G 26 #[.int .u8 (k0 : Int), .int .u32 (k1 : Int), .slice Af (k + 1) cf, .slice D1 k cD1] := hGf.set_ 2 (.slice Af (k + 1) cf)
        have hRx := hRf.grown gg (fun q => by injection q with q; omega)
        have hdx := hdf.far gg (fun q => by injection q with q; omega) (fun q => by injection q with q; omega)
        have hbx := hbf.grown gg hbf.size (fun q hq => by injection hq with hq; omega)
        have hox := hPf.setG 2 (.slice Af (k + 1) cf)
        obtain ⟨y0, y1, y2, y3⟩ := hGf.c4
        have j2 := hGf.frozen 2
        go_upto_region 14 with fail
        clear y0 y1 y2 y3 j2 hal hnf2 hGf hRf hdf hbf gg hPf hgF hGn hRn hrdn hbn hgA hnr hGl
        generalize wf.setCell ⟨G, 2, none⟩ (.slice Af (k + 1) cf) = VX at *
        clear wf
        generalize wn.heap.size = gq at *
        have hlx := hr.below hbx
        obtain ⟨ed, hed⟩ : ∃ ed, p + y = ed := ⟨_, rfl⟩
        have hedI : (p : Int) + (y : Int) = (ed : Int) := by omega
        obtain ⟨B, hB⟩ : ∃ B, (if c = p then (some ⟨ab, ao, none⟩ : Option Addr) else some ⟨ab, ao + p, none⟩) = B := ⟨_, rfl⟩
        obtain ⟨x, hx⟩ : ∃ x, (l.drop p).take y = x := ⟨_, rfl⟩
        have hx2 : Row VX B (bs x) := by
          have := (hlx.cut (k := p) (cap := c) (by rw [bs_length, HN.out]; exact hc5)).take y
          simp only [Option.map_some, Addr.add_lit] at this
          rw [hB] at this
          rw [← hx]
          unfold bs at this ⊢
          rw [List.map_take, List.map_drop]
          exact this
        have hxl : Hid (x.length = y) := Lib.hid (by rw [← hx, List.length_take, List.length_drop, HN.out]; omega)
        obtain ⟨cb, hcb⟩ : ∃ cb, c - p = cb := ⟨_, rfl⟩
        have hcl : Hid (∀ w', Row w' B (bs x) → Calls Try.prog 29 #[.slice B y cb] w' (NewB x w')) := Lib.hid fun w' h => by rw [← hxl.out]; exact clone_any B cb x w' h (by rw [hxl.out]; omega)
        have hown := hox
        have hedc : ed ≤ c := by omega
        have hped : p ≤ ed := by omega
        have heds : ed - p = y := by omega
        refine wp_named fun a0 ha0 => ?_
        have z0 : a0.tmps.getD 0 undef = .slice (some ⟨ab, ao, none⟩) 500 c := by rw [ha0.out]; rfl
        have z5 : a0.tmps.getD 5 undef = .pointer (some ⟨G, 0, none⟩) := by rw [ha0.out]; rfl
        have z7 : a0.tmps.getD 7 undef = .int .i64 (p : Int) := by rw [ha0.out]; rfl
        have z9 : a0.tmps.getD 9 undef = .int .i64 (ed : Int) := by rw [ha0.out]; exact congrArg (Value.int .i64) hedI
        have hsz0 : a0.tmps.size = 85 := by rw [ha0.out]; rfl
        refine wp_region_invB _ (by kernel_rfl) (fun L a wv => ∃ B1 c3 g3 D2 c2, PIF a0 [50, 51, 52, 53, 54, 55, 56, 57, 58, 59] (crP ab ao c p ed D1 k cD1 G B y cb B1 c3 g3 D2 c2) L a ∧ CrW VX k0 k1 Af (k + 1) cf G D1 k cD1 (fl ++ [decide (0 < z)]) ps x y B1 c3 g3 D2 c2 (L 1) (L 6) (L 7) (L 8) (L 10) wv) (by kernel_rfl) ?_ ?_ ?_
        · exact ⟨none, 0, 0, none, 0, PIF.start _ _ _, nofun, nofun, nofun, ⟨rfl, rfl, rfl, Nat.le_refl _, fun _ _ => rfl⟩, Nat.le_refl _, hGx.lt, fun _ => ⟨rfl, rfl, rfl, Nat.le_refl _, fun _ _ => rfl⟩, fun _ => hGx, nofun, nofun, nofun, hnfx, nofun, nofun⟩
        · rintro L a wv ⟨B1, c3, g3, D2, c2, hpf, hw⟩ hL
          have hzn := hw.zn (hL 10 (by simp))
          have hfin := hw.fin (hL 8 (by simp))
          have hnfz := NF.snoc (p := ⟨B1, y, c3, x⟩) hw.nf (.inr (hw.nfn (hL 6 (by simp))))
          have hwb := hw.bel
          have hgr2 := hw.gr
          rw [hpf.eq]
          refine of_assigns (P := Try.prog) _ _ _ _ ?_
          rw [ha0.out]
          simp only [asgs, List.map]
          generalize a.tmps.getD 50 undef = u50
          generalize a.tmps.getD 51 undef = u51
          generalize a.tmps.getD 52 undef = u52
          generalize a.tmps.getD 53 undef = u53
          generalize a.tmps.getD 54 undef = u54
          generalize a.tmps.getD 55 undef = u55
          generalize a.tmps.getD 56 undef = u56
          generalize a.tmps.getD 57 undef = u57
          generalize a.tmps.getD 58 undef = u58
          generalize a.tmps.getD 59 undef = u59
          clear hpf hw hL ha0 z0 z5 z7 z9 hsz0
          clear a0 a L
          have hRn := hRx.below hwb (by omega)
          have hdn := hdx.belowB hwb hgrG hbl3
          have hbn := hbx.trans (hwb.mono (by omega))
          have hrn : Hid (SltM.parse l (SltM.sizes l m 6) (6 + 2 * m) = SltM.rest l m (k + 1) ed (fl ++ [decide (0 < z)]) ((ps ++ [(⟨B1, y, c3, x⟩ : Sl)]).map Sl.l)) := Lib.hid (by
            have h := SltM.rest_step (fl := fl) (ds := ps.map Sl.l) hlt HZ.out (by rw [HY.out]; omega)
            rw [HY.out, hed, hx] at h
            rw [hrest.out, h, List.map_append]
            rfl)
          have hsn : SltM.sum ((ps ++ [(⟨B1, y, c3, x⟩ : Sl)]).map Sl.l) ≤ ed := by
            rw [List.map_append, SltM.sum_append]
            have : SltM.sum ([(⟨B1, y, c3, x⟩ : Sl)].map Sl.l) = y := by show SltM.sum [x] = y; rw [SltM.sum_cons, SltM.sum_nil, hxl.out]; rfl
            omega
          go_wp2
          go_roundw
          case rel => exact ⟨k + 1, ed, Af, cf, D2, c2, fl ++ [decide (0 < z)], ps ++ [⟨B1, y, c3, x⟩], congrArg (Value.int .i64) hedI, by go_num, by omega, ⟨by omega, .inr (by omega), hsn⟩, hrn, hdn, hzn, ⟨hfin, hnfz⟩, hRn, hbn⟩
          case measure => simp [RowKit.intOf]; omega
        · refine ⟨?_, ?_, ?_, ?_, ?_, ?_, ?_, ?_, ?_, ?_, ?_, trivial⟩
          · intro L a w1 hI hi hd
            obtain ⟨B1, c3, g3, D2, c2, hp, hw⟩ := hI
            have t5 := hp.at_ 5 _ rfl z5
            have t5' := t5
            rw [Array.getD_eq_getD_getElem?] at t5'
            exact rstep_valW (wanted_none rfl _) (.pointer (some ⟨G, 3, none⟩)) w1 (by go_simp) ⟨B1, c3, g3, D2, c2, (hp.put 0 50 (.pointer (some ⟨G, 3, none⟩)) (by simp [crP]) (by simp [crP]) rfl (by rw [hsz0]; decide)), hw⟩
          · intro L a w1 hI hi hd
            obtain ⟨B1, c3, g3, D2, c2, hp, hw⟩ := hI
            simp [Region.binds] at hd
            have e0 := hp.pu (0, 50, (.pointer (some ⟨G, 3, none⟩))) (by simp [crP]) (by simp [hd])
            simp only at e0
            have f0 : a.tmps[50]?.getD undef = (.pointer (some ⟨G, 3, none⟩)) := by rw [← Array.getD_eq_getD_getElem?]; exact e0
            have hi : L 1 = false := hi
            have hG := hw.z (hw.no10 (hw.no8 hi))
            obtain ⟨y0, y1, y2, y3⟩ := hG.c4
            exact rstep_valW (wanted_none rfl _) (.slice D1 k cD1) w1 (by go_simp) ⟨B1, c3, g3, D2, c2, (hp.put 1 51 (.slice D1 k cD1) (by simp [crP]) (by simp [crP]) rfl (by rw [hsz0]; decide)), hw.at1⟩
          · intro L a w1 hI hi hd
            obtain ⟨B1, c3, g3, D2, c2, hp, hw⟩ := hI
            have t0 := hp.at_ 0 _ rfl z0
            have t0' := t0
            rw [Array.getD_eq_getD_getElem?] at t0'
            exact rstep_valW (wanted_none rfl _) (.slice (some ⟨ab, ao, none⟩) 500 c) w1 (by go_simp) ⟨B1, c3, g3, D2, c2, (hp.put 2 52 (.slice (some ⟨ab, ao, none⟩) 500 c) (by simp [crP]) (by simp [crP]) rfl (by rw [hsz0]; decide)), hw⟩
          · intro L a w1 hI hi hd
            obtain ⟨B1, c3, g3, D2, c2, hp, hw⟩ := hI
            have t7 := hp.at_ 7 _ rfl z7
            have t7' := t7
            rw [Array.getD_eq_getD_getElem?] at t7'
            exact rstep_valW (wanted_none rfl _) (.int .i64 (p : Int)) w1 (by go_simp) ⟨B1, c3, g3, D2, c2, (hp.put 3 53 (.int .i64 (p : Int)) (by simp [crP]) (by simp [crP]) rfl (by rw [hsz0]; decide)), hw⟩
          · intro L a w1 hI hi hd
            obtain ⟨B1, c3, g3, D2, c2, hp, hw⟩ := hI
            have t9 := hp.at_ 9 _ rfl z9
            have t9' := t9
            rw [Array.getD_eq_getD_getElem?] at t9'
            exact rstep_valW (wanted_none rfl _) (.int .i64 (ed : Int)) w1 (by go_simp) ⟨B1, c3, g3, D2, c2, (hp.put 4 54 (.int .i64 (ed : Int)) (by simp [crP]) (by simp [crP]) rfl (by rw [hsz0]; decide)), hw⟩
          · intro L a w1 hI hi hd
            obtain ⟨B1, c3, g3, D2, c2, hp, hw⟩ := hI
            simp [Region.binds] at hd
            have e2 := hp.pu (2, 52, (.slice (some ⟨ab, ao, none⟩) 500 c)) (by simp [crP]) (by simp [hd])
            simp only at e2
            have f2 : a.tmps[52]?.getD undef = (.slice (some ⟨ab, ao, none⟩) 500 c) := by rw [← Array.getD_eq_getD_getElem?]; exact e2
            have e3 := hp.pu (3, 53, (.int .i64 (p : Int))) (by simp [crP]) (by simp [hd])
            simp only at e3
            have f3 : a.tmps[53]?.getD undef = (.int .i64 (p : Int)) := by rw [← Array.getD_eq_getD_getElem?]; exact e3
            have e4 := hp.pu (4, 54, (.int .i64 (ed : Int))) (by simp [crP]) (by simp [hd])
            simp only at e4
            have f4 : a.tmps[54]?.getD undef = (.int .i64 (ed : Int)) := by rw [← Array.getD_eq_getD_getElem?]; exact e4
            exact rstep_valW (wanted_none rfl _) (.slice B y cb) w1 (by go_simp; done) ⟨B1, c3, g3, D2, c2, (hp.put 5 55 (.slice B y cb) (by simp [crP]) (by simp [crP]) rfl (by rw [hsz0]; decide)), hw⟩
          · intro L a w1 hI hi hd
            obtain ⟨B1, c3, g3, D2, c2, hp, hw⟩ := hI
            simp [Region.binds] at hd
            have e5 := hp.pu (5, 55, (.slice B y cb)) (by simp [crP]) (by simp [hd])
            simp only at e5
            have f5 : a.tmps[55]?.getD undef = (.slice B y cb) := by rw [← Array.getD_eq_getD_getElem?]; exact e5
            have hi : L 6 = false := hi
            have n7 := hw.no7 hi
            have n8 := hw.no8' n7
            refine rstep_callW (wanted_none rfl _) 29 #[.slice B y cb] (by go_simp) ?_
            refine (hcl.out w1 (hx2.below (hw.bwr n8))).mono ?_
            rintro e w2 ⟨B', n', c', rfl, hn', hO, hb⟩
            obtain rfl : y = n' := by rw [← hxl.out]; exact hn'.out
            refine ⟨B', c', g3, D2, c2, PIF.put (PIF.swap (p2 := (crP ab ao c p ed D1 k cD1 G B y cb B' c' g3 D2 c2)) hp (by intro q hq hL; simp only [crP, List.mem_cons, List.not_mem_nil, or_false] at hq; rcases hq with rfl | rfl | rfl | rfl | rfl | rfl | rfl | rfl | rfl | rfl <;> first | (simp [crP]; done) | (exfalso; simp_all))) 6 56 (.slice B' y c') (by simp [crP]) (by simp [crP]) rfl (by rw [hsz0]; decide), ?_⟩
            exact hw.at6 hi hxl.out hO hb
          · intro L a w1 hI hi hd
            obtain ⟨B1, c3, g3, D2, c2, hp, hw⟩ := hI
            simp [Region.binds] at hd
            have e6 := hp.pu (6, 56, (.slice B1 y c3)) (by simp [crP]) (by simp [hd])
            simp only at e6
            have f6 : a.tmps[56]?.getD undef = (.slice B1 y c3) := by rw [← Array.getD_eq_getD_getElem?]; exact e6
            have hi : L 7 = false := hi
            have n8 := hw.no8' hi
            refine rstep_valW (wanted_none rfl _) (.slice (some ⟨w1.heap.size, 0, none⟩) 1 1) (w1.alloc (.cells #[.slice B1 y c3] 27)) (by go_simp) ⟨B1, c3, w1.heap.size, D2, c2, PIF.put (PIF.swap (p2 := (crP ab ao c p ed D1 k cD1 G B y cb B1 c3 w1.heap.size D2 c2)) hp (by intro q hq hL; simp only [crP, List.mem_cons, List.not_mem_nil, or_false] at hq; rcases hq with rfl | rfl | rfl | rfl | rfl | rfl | rfl | rfl | rfl | rfl <;> first | (simp [crP]; done) | (exfalso; simp_all))) 7 57 (.slice (some ⟨w1.heap.size, 0, none⟩) 1 1) (by simp [crP]) (by simp [crP]) rfl (by rw [hsz0]; decide), ?_⟩
            exact hw.at7 hi hd
          · intro L a w1 hI hi hd
            obtain ⟨B1, c3, g3, D2, c2, hp, hw⟩ := hI
            simp [Region.binds] at hd
            have e1 := hp.pu (1, 51, (.slice D1 k cD1)) (by simp [crP]) (by simp [hd])
            simp only at e1
            have f1 : a.tmps[51]?.getD undef = (.slice D1 k cD1) := by rw [← Array.getD_eq_getD_getElem?]; exact e1
            have e7 := hp.pu (7, 57, (.slice (some ⟨g3, 0, none⟩) 1 1)) (by simp [crP]) (by simp [hd])
            simp only at e7
            have f7 : a.tmps[57]?.getD undef = (.slice (some ⟨g3, 0, none⟩) 1 1) := by rw [← Array.getD_eq_getD_getElem?]; exact e7
            have hi : L 8 = false := hi
            have hown2 := hown.below (hw.bwr hi)
            have hrow := hw.f7 (by simp [hd]) hi
            obtain ⟨i0, hi0, hz0, hz1, hz2⟩ := info_parts info_sl
            refine rstep_wp rfl (wp_append_row w1 (.tmp 51) (.tmp 57) _ rfl G 27 i0 _ 1 24 Try.underlying24 hi0 hz0 hz1 hz2 rfl (by omega) (.slice D1 k cD1) k (ps.map Sl.val) e1 hown2.li (some ⟨g3, 0, none⟩) 1 1 [.slice B1 y c3] e7 rfl hrow (by intro u hu; rw [List.mem_singleton] at hu; subst hu; rfl) (by unfold maxLen; omega) (by omega) (Nat.le_trans (Nat.le_of_lt hw.hG) hw.gr) fun D' c' w2 h1 h2 h3 => ?_)
            refine ⟨B1, c3, g3, D', c', PIF.put (PIF.swap (p2 := (crP ab ao c p ed D1 k cD1 G B y cb B1 c3 g3 D' c')) hp (by intro q hq hL; simp only [crP, List.mem_cons, List.not_mem_nil, or_false] at hq; rcases hq with rfl | rfl | rfl | rfl | rfl | rfl | rfl | rfl | rfl | rfl <;> first | (simp [crP]; done) | (exfalso; simp_all))) 8 58 (.slice D' (k + 1) c') (by simp [crP]) (by simp [crP]) rfl (by rw [hsz0]; decide), ?_⟩
            exact hw.at8 hown hi (by simp [hd]) (by simp [hd]) h1 h2 h3
          · intro L a w1 hI hi hd
            obtain ⟨B1, c3, g3, D2, c2, hp, hw⟩ := hI
            have t5 := hp.at_ 5 _ rfl z5
            have t5' := t5
            rw [Array.getD_eq_getD_getElem?] at t5'
            exact rstep_valW (wanted_none rfl _) (.pointer (some ⟨G, 3, none⟩)) w1 (by go_simp) ⟨B1, c3, g3, D2, c2, (hp.put 9 59 (.pointer (some ⟨G, 3, none⟩)) (by simp [crP]) (by simp [crP]) rfl (by rw [hsz0]; decide)), hw⟩
          · intro L a w1 hI hi hd
            obtain ⟨B1, c3, g3, D2, c2, hp, hw⟩ := hI
            simp [Region.binds] at hd
            have e8 := hp.pu (8, 58, (.slice D2 (k + 1) c2)) (by simp [crP]) (by simp [hd])
            simp only at e8
            have f8 : a.tmps[58]?.getD undef = (.slice D2 (k + 1) c2) := by rw [← Array.getD_eq_getD_getElem?]; exact e8
            have e9 := hp.pu (9, 59, (.pointer (some ⟨G, 3, none⟩))) (by simp [crP]) (by simp [hd])
            simp only at e9
            have f9 : a.tmps[59]?.getD undef = (.pointer (some ⟨G, 3, none⟩)) := by rw [← Array.getD_eq_getD_getElem?]; exact e9
            have hi : L 10 = false := hi
            have h8 : L 8 = true := by simp [hd]
            have hG := hw.z hi
            obtain ⟨y0, y1, y2, y3⟩ := hG.c4
            have k3 := hG.frozen 3
            refine rstep_skip rfl (w1.setCell ⟨G, 3, none⟩ (.slice D2 (k + 1) c2)) (by go_simp) ⟨B1, c3, g3, D2, c2, (hp.skip 10 undef (by simp [crP])), ?_⟩
            exact hw.at10 hi h8
    · obtain rfl : k = m := by omega
      have hp500 : p ≤ 500 := by omega
      have hpe : SltM.parse l (SltM.sizes l k 6) (6 + 2 * k) = some (fl, ps.map Sl.l, p) := hrest.out.trans (SltM.rest_end l k p fl _)
      obtain ⟨s, hs⟩ : ∃ s : Slt, (⟨k0, k1, fl, ps.map Sl.l⟩ : Slt) = s := ⟨_, rfl⟩
      have HP := Lib.hid (SltM.readP_some HN.out H0.out H1.out HM.out hpe)
      rw [hs] at HP
      have hat : SltAt wr A1 k c1 D1 k cD1 s := by rw [← hs]; exact hown.at_ (s := ⟨k0, k1, fl, ps.map Sl.l⟩) rfl
      have hma : Hid (∀ w', Below wr.heap.size wr w' → Calls Try.prog 9 #[.agg #[.int .u8 (k0 : Int), .int .u32 (k1 : Int), .slice A1 k c1, .slice D1 k cD1]] w' (MayPost s w')) := Lib.hid fun w' hb => by
        have h := may_any s A1 k c1 D1 k cD1 w' (hat.below hb) (by rw [← hs]; show SltM.sum (ps.map Sl.l) ≤ _; omega) (by omega) (by omega)
        rw [← hs] at h ⊢
        exact h
      have HS := Lib.hid hs
      clear hs hpe hat hlt
      obtain ⟨y0, y1, y2, y3⟩ := hGr.c4
      go_wp2_with fail
      refine (hma.out wr (Below.refl _ _)).mono ?_
      rintro e wm ⟨r, rfl, hrm, bm⟩
      have hRm := hRr.below bm hRr.lt
      have hGm := hGr.below bm hGr.lt
      have hom := hown.below bm
      have hnm := hnf.below bm
      have hbm := below_step hbel bm (Nat.le_refl _)
      have hlm := hr.below hbm
      clear y0 y1 y2 y3 hRr hGr hown hbel hma bm hrd
      cases r with
      | false =>
        have HN2 : Hid (SltM.readP l = none) := Lib.hid (by rw [HP.out, if_neg]; rintro ⟨h, _⟩; have := hrm.out.2 h; cases this)
        have f0 := hRm.frozen 0
        have f1 := hRm.frozen 1
        have f2 := hRm.frozen 2
        have f3 := hRm.frozen 3
        obtain ⟨x0, x1, x2, x3⟩ := hRm.c4
        go_wp2
        refine ret_cell rfl rb #[.int .u8 0, .int .u32 0, .slice none 0 0, .slice none 0 0] _ rfl (hRm.set4 _ _ _ _) Try.underlying26 rfl (by kernel_rfl) rfl ?_
        rw [HN2.out]
        exact ⟨rfl, hbm.grown (grown4 _ _ _ _ _ _) hbm.size (fun q hq => by injection hq with hq; omega)⟩
      | true =>
        have hmy : Hid (SltM.May s) := Lib.hid (hrm.out.1 rfl)
        obtain ⟨a2, ha2⟩ : ∃ a2, (if c = p then (some ⟨ab, ao, none⟩ : Option Addr) else some ⟨ab, ao + p, none⟩) = some a2 := by split <;> exact ⟨_, rfl⟩
        have hx2 : Row wm (some a2) (bs (l.drop p)) := by
          have := hlm.cut (k := p) (cap := c) (by rw [bs_length, HN.out]; exact hc5)
          simp only [Option.map_some, Addr.add_lit] at this
          rw [ha2] at this
          unfold bs at this ⊢
          rw [List.map_drop]
          exact this
        obtain ⟨np, hnp⟩ : ∃ np, 500 - p = np := ⟨_, rfl⟩
        obtain ⟨cb, hcb⟩ : ∃ cb, c - p = cb := ⟨_, rfl⟩
        obtain ⟨cn, hcn⟩ : ∃ cn, Lib.countByte (l.drop p) 0 = cn := ⟨_, rfl⟩
        have hln : (l.drop p).length = np := by rw [List.length_drop, HN.out]; exact hnp
        have hall : Hid (cn = np ↔ ∀ u ∈ l.drop p, u = 0) := Lib.hid (by rw [← hcn, ← hln]; exact count0_all _)
        have hnpI : (500 : Int) - (p : Int) = (np : Int) := by omega
        have hct : Hid (∀ w' b2, Row w' (some a2) (bs (l.drop p)) → w'.cell? ⟨b2, 0, none⟩ = some (.int .u8 0) → Calls Try.prog 38 #[.slice (some a2) np cb, .slice (some ⟨b2, 0, none⟩) 1 1] w' fun e w'' => e = .returned (.int .i64 (cn : Int)) ∧ w'' = w') := Lib.hid fun w' b2 h1 h2 => by rw [← hcn]; exact count0_any a2 np cb b2 _ w' h1 hln h2
        have HC := Lib.hid hcn
        have HL := Lib.hid hln
        clear hcn hln
        have hal : Below wm.heap.size wm (wm.alloc (.cells #[.int .u8 0] 5)) := (Below.refl _ _).alloc (Nat.le_refl _) _
        have hb0 := Blk.new wm 5 #[.int .u8 0]
        have hx3 := hx2.below hal
        go_wp2_with fail
        have hc0 := hb0.cell 0
        simp only [List.getElem?_toArray, List.getElem?_cons_zero] at hc0
        refine (hct.out _ _ hx3 hc0).mono ?_
        rintro e wc ⟨rfl, rfl⟩
        have hRc := hRm.below hal hRm.lt
        have hGc := hGm.below hal hGm.lt
        have hoc := hom.below hal
        have hnc := hnm.below hal
        have hbc := below_step hbm hal (Nat.le_refl _)
        clear hRm hGm hom hbm hlm hx2 hx3 hct hb0 hc0 hal
        generalize wm.alloc (.cells #[.int .u8 0] 5) = wc at *
        generalize wm.heap.size = gq at *
        have f0 := hRc.frozen 0
        have f1 := hRc.frozen 1
        have f2 := hRc.frozen 2
        have f3 := hRc.frozen 3
        obtain ⟨x0, x1, x2, x3⟩ := hRc.c4
        obtain ⟨y0, y1, y2, y3⟩ := hGc.c4
        by_cases hq : cn = np
        · have HR : Hid (SltM.readP l = some s) := Lib.hid (by rw [HP.out, if_pos ⟨hmy.out, hall.out.1 hq⟩])
          have hneq : ((cn : Int) != (np : Int)) = false := by rw [hq]; simp
          clear hq
          have hq := Lib.hid hneq
          go_wp2
          refine ret_cell rfl rb #[.int .u8 (k0 : Int), .int .u32 (k1 : Int), .slice A1 k c1, .slice D1 k cD1] _ rfl (hRc.set4 _ _ _ _) Try.underlying26 rfl (by kernel_rfl) rfl ?_
          rw [HR.out]
          have hbe := hbc.grown (grown4 wc rb (.int .u8 (k0 : Int)) (.int .u32 (k1 : Int)) (.slice A1 k c1) (.slice D1 k cD1)) hbc.size (fun q hq => by injection hq with hq; omega)
          obtain rfl := HS.out
          exact ⟨A1, k, c1, D1, k, cD1, rfl, ⟨G, ps, rfl, (((((hoc.far _ 0 _ (by omega)).far _ 1 _ (by omega)).far _ 2 _ (by omega)).far _ 3 _ (by omega)).base_ (by omega)), hnc.kept (grown4 wc rb (.int .u8 (k0 : Int)) (.int .u32 (k1 : Int)) (.slice A1 k c1) (.slice D1 k cD1)) (fun p hp => (hoc.each p hp).2.2.imp id fun h4 a ha q => by injection q with q; have := (h4 a ha).1.1; omega)⟩, hbe⟩
        · have HR : Hid (SltM.readP l = none) := Lib.hid (by rw [HP.out, if_neg]; rintro ⟨_, h⟩; exact hq (hall.out.2 h))
          have hneq : ((cn : Int) != (np : Int)) = true := by simp; omega
          have hq := Lib.hid hq
          go_wp2
          refine ret_cell rfl rb #[.int .u8 0, .int .u32 0, .slice none 0 0, .slice none 0 0] _ rfl (hRc.set4 _ _ _ _) Try.underlying26 rfl (by kernel_rfl) rfl ?_
          rw [HR.out]
          exact ⟨rfl, hbc.grown (grown4 _ _ _ _ _ _) hbc.size (fun q hq => by injection hq with hq; omega)⟩
set_option maxRecDepth 100000 in
set_option maxHeartbeats 4000000 in
/-- slots.Read computes SltM.readP. -/
theorem read8_any (A : Option Addr) (n c : Nat) (l : List UInt8) (w : World) (hr : Row w A (bs l)) (hn : l.length = n) (hnc : n ≤ c) (hc : c ≤ maxLen) :
    Calls Try.prog 22 #[.slice A n c] w (RP8 (SltM.readP l) w) := by
  by_cases h5 : n = 500
  · subst h5
    rcases hr with e | ⟨b, o, rfl, hcc⟩
    · have := congrArg List.length e; rw [bs_length, hn] at this; cases this
    · exact read8_500 b o c l w (.inr ⟨b, o, rfl, hcc⟩) hn hnc hc
  · unfold maxLen at hc
    have hnone : SltM.readP l = none := by unfold SltM.readP; rw [if_pos (by omega)]
    rw [hnone]
    have hne : ((n : Int) != 500) = true := by simp; omega
    clear hnone
    go_enter Try.func22, Try.ntmps22
    have hR0 := Blk.new w 26 #[.int .u8 0, .int .u32 0, .slice none 0 0, .slice none 0 0]
    have hB0 : Below w.heap.size w (w.alloc (.cells #[.int .u8 0, .int .u32 0, .slice none 0 0, .slice none 0 0] 26)) := (Below.refl w.heap.size w).alloc (Nat.le_refl _) _
    have k0 := hR0.frozen 0
    have k1 := hR0.frozen 1
    have k2 := hR0.frozen 2
    have k3 := hR0.frozen 3
    go_wp2
    refine ret_cell rfl w.heap.size #[.int .u8 0, .int .u32 0, .slice none 0 0, .slice none 0 0] _ rfl hR0 Try.underlying26 rfl (by kernel_rfl) rfl ?_
    exact ⟨rfl, hB0⟩
end Go.Proofs.Ytofbfehpadjbbaa
