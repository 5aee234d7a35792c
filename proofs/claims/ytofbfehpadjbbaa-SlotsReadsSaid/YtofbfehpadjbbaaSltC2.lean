/-
  The document's copy of a slotted body: its bytes.
  Conditions: the lengths fit.
-/
import Derived.Test.YtofbfehpadjbbaaSltC1
namespace Go.Proofs.Ytofbfehpadjbbaa
open Go.RowKit Go.Sort Go.Lib
set_option linter.unusedVariables false
set_option linter.unusedSimpArgs false
/-- The list of slices has grown by one. -/
theorem OwnP.appP {w w' : World} {base G nF cA nD cD : Nat} {A D : Option Addr} {full : List Bool} {ps : List Sl} {D' : Option Addr} {c' : Nat} {p0 : Sl} (h : OwnP w base G A nF cA D nD cD full ps) (hG : G < w.heap.size) (h1 : OwnLs w' base D' (nD + 1) c' (ps ++ [p0])) (hg : w.grownBy w' (Value.slice D nD cD).ownBlock)
    (hn : (Value.slice D' (nD + 1) c').ownBlock = (Value.slice D nD cD).ownBlock ∨ (Value.slice D' (nD + 1) c').ownBlock = some w.heap.size)
    (hp0 : p0.l.length = p0.n ∧ Row w p0.A (bs p0.l) ∧ (p0.l = [] ∨ ∀ a, p0.A = some a → (base ≤ a.block ∧ a.block < w.heap.size) ∧ a.block ≠ G ∧ (∀ x, A = some x → a.block ≠ x.block) ∧ (∀ x, D = some x → a.block ≠ x.block))) : OwnP w' base G A nF cA D' (nD + 1) c' full (ps ++ [p0]) := by
  have hA : ∀ a, D' = some a → (∃ x, D = some x ∧ a.block = x.block) ∨ a.block = w.heap.size := by
    intro a ha
    subst ha
    rcases hn with hn | hn
    · cases D with
      | none => cases hn
      | some x => injection hn with hn; exact .inl ⟨x, rfl, hn⟩
    · injection hn with hn; exact .inr hn
  have hrow : ∀ k, (Value.slice D nD cD).ownBlock = some k → ∃ x, D = some x ∧ x.block = k := by
    intro k hk
    cases D with
    | none => cases hk
    | some x => injection hk with hk; exact ⟨x, rfl, hk⟩
  refine ⟨h.fu.kept hg (fun a ha q => ?_), h1, fun p hp => ?_, fun a d ha hd => ?_, h.gA, fun a ha => ?_⟩
  · obtain ⟨x, hx, e⟩ := hrow _ q
    exact h.ap a x ha hx e.symm
  · have hp' : p.l.length = p.n ∧ Row w p.A (bs p.l) ∧ (p.l = [] ∨ ∀ a, p.A = some a → (base ≤ a.block ∧ a.block < w.heap.size) ∧ a.block ≠ G ∧ (∀ x, A = some x → a.block ≠ x.block) ∧ (∀ x, D = some x → a.block ≠ x.block)) := by
      rcases List.mem_append.1 hp with hp | hp
      · exact h.each p hp
      · rw [List.mem_singleton] at hp
        subst hp
        exact hp0
    obtain ⟨e1, e2, e3⟩ := hp'
    refine ⟨e1, ?_, e3.imp id fun h4 a ha => ⟨⟨(h4 a ha).1.1, Nat.lt_of_lt_of_le (h4 a ha).1.2 hg.size⟩, (h4 a ha).2.1, (h4 a ha).2.2.1, fun x hx => ?_⟩⟩
    · rcases e3 with e3 | e3
      · rw [e3]; exact Row.nil _ _
      · exact row_grown e2 hg (fun a ha q => by obtain ⟨x, hx, e⟩ := hrow _ q; exact (e3 a ha).2.2.2 x hx e.symm)
    · rcases hA x hx with ⟨y, hy, e⟩ | e
      · rw [e]; exact (h4 a ha).2.2.2 y hy
      · have := (h4 a ha).1.2; omega
  · rcases hA d hd with ⟨y, hy, e⟩ | e
    · rw [e]; exact h.ap a y ha hy
    · have := (h.fu.blk ha).2; omega
  · rcases hA a ha with ⟨y, hy, e⟩ | e
    · rw [e]; exact h.gD y hy
    · omega
def cdP (D1 : Option Addr) (k cD1 g1 G gd od nD cD : Nat) (B : Option Addr) (nx cb g2 : Nat) (B1 : Option Addr) (c3 g3 : Nat) (D2 : Option Addr) (c2 : Nat) : List (Nat × Nat × Value) :=
  [(0, 21, (.pointer (some ⟨G, 3, none⟩))), (1, 22, (.slice D1 k cD1)), (2, 23, (.slice (some ⟨g2, 0, none⟩) 0 0)), (3, 24, (.pointer (some ⟨g1, 3, none⟩))), (4, 25, (.slice (some ⟨gd, od, none⟩) nD cD)), (5, 26, (.int .i64 (k : Int))), (6, 27, (.pointer (some ⟨gd, od + k, none⟩))), (7, 28, (.slice B nx cb)), (8, 29, (.slice B1 nx c3)), (9, 30, (.slice (some ⟨g3, 0, none⟩) 1 1)), (10, 31, (.slice D2 (k + 1) c2)), (11, 32, (.pointer (some ⟨G, 3, none⟩)))]
/-- What is made while one more slice is copied. -/
structure CdW (V wr : World) (s : Slt) (A : Option Addr) (nF cA gd od nD cD g1 : Nat) (A1 : Option Addr) (c1 G : Nat) (D1 : Option Addr) (k cD1 : Nat) (ps : List Sl) (x : List UInt8) (nx g2 : Nat) (B1 : Option Addr) (c3 g3 : Nat) (D2 : Option Addr) (c2 : Nat) (b1 b2 b8 b9 b10 b12 : Bool) (w : World) : Prop where
  k8 : b8 = true → b2 = true
  k9 : b9 = true → b8 = true
  k10 : b10 = true → b9 = true ∧ b1 = true
  k12 : b12 = true → b10 = true
  bel : Below V.heap.size V w
  gr : wr.heap.size ≤ w.heap.size
  gV : V.heap.size ≤ wr.heap.size
  bwr : b10 = false → Below wr.heap.size wr w
  bx : Blk w g1 26 #[.int .u8 (s.kind : Int), .int .u32 (s.next : Int), .slice A nF cA, .slice (some ⟨gd, od, none⟩) nD cD]
  hg1 : g1 < V.heap.size
  z : b12 = false → Blk w G 26 #[.int .u8 (s.kind : Int), .int .u32 (s.next : Int), .slice A1 nF c1, .slice D1 k cD1]
  hG : V.heap.size ≤ G ∧ G < wr.heap.size
  zn : b12 = true → Blk w G 26 #[.int .u8 (s.kind : Int), .int .u32 (s.next : Int), .slice A1 nF c1, .slice D2 (k + 1) c2]
  f2 : b2 = true → b8 = false → w.ownsRow wr.heap.size 5 1 (.slice (some ⟨g2, 0, none⟩) 0 0) 0 []
  f8 : b8 = true → w.ownsRow wr.heap.size 5 1 (.slice B1 nx c3) nx (bs x) ∧ x.length = nx
  f9 : b9 = true → b10 = false → Row w (some ⟨g3, 0, none⟩) [.slice B1 nx c3]
  fin : b10 = true → OwnP w V.heap.size G A1 nF c1 D2 (k + 1) c2 s.full (ps ++ [⟨B1, nx, c3, x⟩])
section
variable {V wr : World} {s : Slt} {A : Option Addr} {nF cA gd od nD cD g1 : Nat} {A1 : Option Addr} {c1 G : Nat} {D1 : Option Addr} {k cD1 : Nat} {ps : List Sl} {x : List UInt8} {nx g2 : Nat} {B1 : Option Addr} {c3 g3 : Nat} {D2 : Option Addr} {c2 : Nat} {b1 b2 b8 b9 b10 b12 : Bool} {w w' : World}
theorem CdW.no12 (h : CdW V wr s A nF cA gd od nD cD g1 A1 c1 G D1 k cD1 ps x nx g2 B1 c3 g3 D2 c2 b1 b2 b8 b9 b10 b12 w) (q : b10 = false) : b12 = false := by cases hb : b12 with | false => rfl | true => have := h.k12 hb; rw [q] at this; cases this
theorem CdW.no10 (h : CdW V wr s A nF cA gd od nD cD g1 A1 c1 G D1 k cD1 ps x nx g2 B1 c3 g3 D2 c2 b1 b2 b8 b9 b10 b12 w) (q : b1 = false) : b10 = false := by cases hb : b10 with | false => rfl | true => have := (h.k10 hb).2; rw [q] at this; cases this
theorem CdW.no10' (h : CdW V wr s A nF cA gd od nD cD g1 A1 c1 G D1 k cD1 ps x nx g2 B1 c3 g3 D2 c2 b1 b2 b8 b9 b10 b12 w) (q : b9 = false) : b10 = false := by cases hb : b10 with | false => rfl | true => have := (h.k10 hb).1; rw [q] at this; cases this
theorem CdW.no9 (h : CdW V wr s A nF cA gd od nD cD g1 A1 c1 G D1 k cD1 ps x nx g2 B1 c3 g3 D2 c2 b1 b2 b8 b9 b10 b12 w) (q : b8 = false) : b9 = false := by cases hb : b9 with | false => rfl | true => have := h.k9 hb; rw [q] at this; cases this
theorem CdW.no8 (h : CdW V wr s A nF cA gd od nD cD g1 A1 c1 G D1 k cD1 ps x nx g2 B1 c3 g3 D2 c2 b1 b2 b8 b9 b10 b12 w) (q : b2 = false) : b8 = false := by cases hb : b8 with | false => rfl | true => have := h.k8 hb; rw [q] at this; cases this
theorem CdW.src (h : CdW V wr s A nF cA gd od nD cD g1 A1 c1 G D1 k cD1 ps x nx g2 B1 c3 g3 D2 c2 b1 b2 b8 b9 b10 b12 w) {p : Addr} {v : Value} (hc : V.cell? p = some v) : w.cell? p = some v := by
  rw [h.bel.cell (World.block_lt_of_cell? V _ hc)]; exact hc
theorem CdW.at1 (h : CdW V wr s A nF cA gd od nD cD g1 A1 c1 G D1 k cD1 ps x nx g2 B1 c3 g3 D2 c2 b1 b2 b8 b9 b10 b12 w) : CdW V wr s A nF cA gd od nD cD g1 A1 c1 G D1 k cD1 ps x nx g2 B1 c3 g3 D2 c2 true b2 b8 b9 b10 b12 w :=
  ⟨h.k8, h.k9, fun q => ⟨(h.k10 q).1, rfl⟩, h.k12, h.bel, h.gr, h.gV, h.bwr, h.bx, h.hg1, h.z, h.hG, h.zn, h.f2, h.f8, h.f9, h.fin⟩
theorem CdW.at2 (h : CdW V wr s A nF cA gd od nD cD g1 A1 c1 G D1 k cD1 ps x nx g2 B1 c3 g3 D2 c2 b1 b2 b8 b9 b10 b12 w) (q2 : b2 = false) : CdW V wr s A nF cA gd od nD cD g1 A1 c1 G D1 k cD1 ps x nx w.heap.size B1 c3 g3 D2 c2 b1 true b8 b9 b10 b12 (w.alloc (.cells #[] 5)) := by
  subst q2
  obtain rfl := h.no8 rfl
  obtain rfl := h.no9 rfl
  obtain rfl := h.no10' rfl
  obtain rfl := h.no12 rfl
  exact ⟨nofun, nofun, nofun, nofun, h.bel.alloc h.bel.size _, Nat.le_trans h.gr (by simp), h.gV, fun _ => (h.bwr rfl).alloc h.gr _, h.bx.alloc _, h.hg1, fun _ => (h.z rfl).alloc _, h.hG, nofun, fun _ _ => owns_made w _ _ #[] 0 [] h.gr rfl rfl (by decide), nofun, nofun, nofun⟩
theorem CdW.at8 {B' : Option Addr} {c' : Nat} (h : CdW V wr s A nF cA gd od nD cD g1 A1 c1 G D1 k cD1 ps x nx g2 B1 c3 g3 D2 c2 b1 b2 b8 b9 b10 b12 w) (q8 : b8 = false) (q2 : b2 = true) (hx : x.length = nx) (h1 : w'.ownsRow wr.heap.size 5 1 (.slice B' nx c') nx (bs x)) (h2 : w.grownBy w' (Value.slice (some ⟨g2, 0, none⟩) 0 0).ownBlock) :
    CdW V wr s A nF cA gd od nD cD g1 A1 c1 G D1 k cD1 ps x nx g2 B' c' g3 D2 c2 b1 b2 true b9 b10 b12 w' := by
  subst q8 q2
  obtain rfl := h.no9 rfl
  obtain rfl := h.no10' rfl
  obtain rfl := h.no12 rfl
  have hl := ((h.f2 rfl rfl).lt g2 rfl).1
  have e2 : (Value.slice (some (⟨g2, 0, none⟩ : Addr)) 0 0).ownBlock = some g2 := rfl
  rw [e2] at h2
  have hgV := h.gV
  have hGl := h.hG
  have hg1 := h.hg1
  exact ⟨fun _ => rfl, nofun, nofun, nofun, h.bel.grown h2 h.bel.size (fun q hq => by injection hq with hq; omega), Nat.le_trans h.gr h2.size, h.gV, fun _ => (h.bwr rfl).grown h2 h.gr (fun q hq => by injection hq with hq; omega), h.bx.grown h2 (fun q => by injection q with q; omega), h.hg1, fun _ => (h.z rfl).grown h2 (fun q => by injection q with q; omega), h.hG, nofun, nofun, fun _ => ⟨h1, hx⟩, nofun, nofun⟩
theorem CdW.at9 (h : CdW V wr s A nF cA gd od nD cD g1 A1 c1 G D1 k cD1 ps x nx g2 B1 c3 g3 D2 c2 b1 b2 b8 b9 b10 b12 w) (q9 : b9 = false) (q8 : b8 = true) : CdW V wr s A nF cA gd od nD cD g1 A1 c1 G D1 k cD1 ps x nx g2 B1 c3 w.heap.size D2 c2 b1 b2 b8 true b10 b12 (w.alloc (.cells #[.slice B1 nx c3] 27)) := by
  subst q9 q8
  obtain rfl := h.no10' rfl
  obtain rfl := h.no12 rfl
  exact ⟨h.k8, fun _ => rfl, nofun, nofun, h.bel.alloc h.bel.size _, Nat.le_trans h.gr (by simp), h.gV, fun _ => (h.bwr rfl).alloc h.gr _, h.bx.alloc _, h.hg1, fun _ => (h.z rfl).alloc _, h.hG, nofun, fun _ q => (by cases q), fun _ => ⟨(h.f8 rfl).1.alloc _, (h.f8 rfl).2⟩, fun _ _ => row_new w _ _ _ _ rfl, nofun⟩
theorem CdW.at10 {D' : Option Addr} {c' : Nat} (h : CdW V wr s A nF cA gd od nD cD g1 A1 c1 G D1 k cD1 ps x nx g2 B1 c3 g3 D2 c2 b1 b2 b8 b9 b10 b12 w) (hown : OwnP wr V.heap.size G A1 nF c1 D1 k cD1 s.full ps) (q10 : b10 = false) (q1 : b1 = true) (q9 : b9 = true) (h1 : w'.ownsRow V.heap.size 27 1 (.slice D' (k + 1) c') (k + 1) (ps.map Sl.val ++ [.slice B1 nx c3])) (h2 : w.grownBy w' (Value.slice D1 k cD1).ownBlock)
    (h3 : (Value.slice D' (k + 1) c').ownBlock = (Value.slice D1 k cD1).ownBlock ∨ (Value.slice D' (k + 1) c').ownBlock = some w.heap.size) :
    CdW V wr s A nF cA gd od nD cD g1 A1 c1 G D1 k cD1 ps x nx g2 B1 c3 g3 D' c' b1 b2 b8 b9 true b12 w' := by
  subst q10 q9 q1
  obtain rfl := h.no12 rfl
  obtain rfl := h.k9 rfl
  have hOP := hown.below (h.bwr rfl)
  obtain ⟨o8, l8⟩ := h.f8 rfl
  have hrow : ∀ j, (Value.slice D1 k cD1).ownBlock = some j → ∃ y, D1 = some y ∧ y.block = j := by
    intro j hj
    cases D1 with
    | none => cases hj
    | some y => injection hj with hj; exact ⟨y, rfl, hj⟩
  have hgV := h.gV
  have hGl := h.hG
  have hg1 := h.hg1
  have hgr := h.gr
  have hDl : ∀ j, (Value.slice D1 k cD1).ownBlock = some j → V.heap.size ≤ j ∧ j < wr.heap.size ∧ j ≠ G := by
    intro j hj
    obtain ⟨y, hy, e⟩ := hrow j hj
    have := hown.li.blk hy
    have := hown.gD y hy
    omega
  have hBl : ∀ a, B1 = some a → wr.heap.size ≤ a.block ∧ a.block < w.heap.size := by
    intro a ha
    subst ha
    exact o8.lt _ rfl
  refine ⟨h.k8, h.k9, fun _ => ⟨rfl, rfl⟩, fun _ => rfl, h.bel.grown h2 h.bel.size (fun q hq => (hDl q hq).1), Nat.le_trans h.gr h2.size, h.gV, nofun, h.bx.grown h2 (fun q => by have := (hDl _ q.symm).1; omega), h.hg1, fun _ => (h.z rfl).grown h2 (fun q => (hDl _ q.symm).2.2 rfl), h.hG, nofun, fun _ q => (by cases q), fun _ => ⟨o8.kept h2 ?_, l8⟩, nofun, fun _ => ?_⟩
  · cases hB : B1 with
    | none => exact .inl rfl
    | some a =>
      right
      intro q
      have h5 := hBl a hB
      have h6 := hDl a.block q.symm
      omega
  · refine hOP.appP (by omega) (by unfold OwnLs; rw [List.map_append]; exact h1) h2 h3 ⟨l8, Row.of_own o8, .inr fun a ha => ?_⟩
    have h5 := hBl a ha
    exact ⟨⟨by omega, h5.2⟩, by omega, fun y hy => by have := (hown.fu.blk hy).2; omega, fun y hy => by have := (hown.li.blk hy).2; omega⟩
theorem CdW.at12 (h : CdW V wr s A nF cA gd od nD cD g1 A1 c1 G D1 k cD1 ps x nx g2 B1 c3 g3 D2 c2 b1 b2 b8 b9 b10 b12 w) (q12 : b12 = false) (q10 : b10 = true) : CdW V wr s A nF cA gd od nD cD g1 A1 c1 G D1 k cD1 ps x nx g2 B1 c3 g3 D2 c2 b1 b2 b8 b9 b10 true (w.setCell ⟨G, 3, none⟩ (.slice D2 (k + 1) c2)) := by
  subst q12 q10
  obtain ⟨q9, q1⟩ := h.k10 rfl
  have q8 := h.k9 q9
  have gg := grownBy_setCell w G 3 (.slice D2 (k + 1) c2)
  have hgV := h.gV
  have hGl := h.hG
  have hg1 := h.hg1
  obtain ⟨o8, l8⟩ := h.f8 q8
  refine ⟨h.k8, h.k9, h.k10, fun _ => rfl, h.bel.grown gg h.bel.size (fun q hq => by injection hq with hq; omega), Nat.le_trans h.gr gg.size, h.gV, nofun, h.bx.grown gg (fun q => by injection q with q; omega), h.hg1, nofun, h.hG, fun _ => (h.z rfl).set_ 3 _, fun _ q => (by rw [q8] at q; cases q), fun _ => ⟨o8.kept gg ?_, l8⟩, fun _ q => (by cases q), fun _ => (h.fin rfl).setG 3 _⟩
  cases hB : B1 with
  | none => exact .inl rfl
  | some a =>
    right
    intro q
    injection q with q
    have := (o8.lt a.block (by rw [hB]; rfl)).1
    omega
end
set_option maxRecDepth 100000 in
set_option maxHeartbeats 4000000 in
theorem refcopy8_any (s : Slt) (A : Option Addr) (nF cA : Nat) (D : Option Addr) (nD cD : Nat) (w : World) (hs : SltAt w A nF cA D nD cD s) (hmF : nF ≤ 1000000) (hmD : nD ≤ 1000000) (hmx : ∀ x ∈ s.data, x.length ≤ 1000000) :
    Calls Try.prog 17 #[.agg #[.int .u8 (s.kind : Int), .int .u32 (s.next : Int), .slice A nF cA, .slice D nD cD]] w
      fun e w' => ∃ A' cA' D' cD', e = .returned (.agg #[.int .u8 (s.kind : Int), .int .u32 (s.next : Int), .slice A' nF cA', .slice D' nD cD']) ∧ SltNew w' w.heap.size A' nF cA' D' nD cD' s ∧ Below w.heap.size w w' := by
  go_enter Try.func17, Try.ntmps17
  go_wp2
  have hbx := (Blk.new w 26 #[.int .u8 (s.kind : Int), .int .u32 (s.next : Int), .slice A nF cA, .slice D nD cD]).alloc (.cells #[.int .u8 0, .int .u32 0, .slice none 0 0, .slice none 0 0] 26)
  have hb2 : Blk ((w.alloc (.cells #[.int .u8 (s.kind : Int), .int .u32 (s.next : Int), .slice A nF cA, .slice D nD cD] 26)).alloc (.cells #[.int .u8 0, .int .u32 0, .slice none 0 0, .slice none 0 0] 26)) (w.heap.size + 1) 26 #[.int .u8 0, .int .u32 0, .slice none 0 0, .slice none 0 0] := by
    have := Blk.new (w.alloc (.cells #[.int .u8 (s.kind : Int), .int .u32 (s.next : Int), .slice A nF cA, .slice D nD cD] 26)) 26 #[.int .u8 0, .int .u32 0, .slice none 0 0, .slice none 0 0]
    simpa using this
  have hVb : Below w.heap.size w ((w.alloc (.cells #[.int .u8 (s.kind : Int), .int .u32 (s.next : Int), .slice A nF cA, .slice D nD cD] 26)).alloc (.cells #[.int .u8 0, .int .u32 0, .slice none 0 0, .slice none 0 0] 26)) := ((Below.refl w.heap.size w).alloc (Nat.le_refl _) _).alloc (by simp) _
  have hVs : ((w.alloc (.cells #[.int .u8 (s.kind : Int), .int .u32 (s.next : Int), .slice A nF cA, .slice D nD cD] 26)).alloc (.cells #[.int .u8 0, .int .u32 0, .slice none 0 0, .slice none 0 0] 26)).heap.size = w.heap.size + 2 := by simp
  generalize (w.alloc (.cells #[.int .u8 (s.kind : Int), .int .u32 (s.next : Int), .slice A nF cA, .slice D nD cD] 26)).alloc (.cells #[.int .u8 0, .int .u32 0, .slice none 0 0, .slice none 0 0] 26) = V at *
  have hsV := hs.below hVb
  have hrF := hsV.rf
  have hlf := hsV.lf
  obtain ⟨g1, hg1⟩ : ∃ g1, w.heap.size = g1 := ⟨_, rfl⟩
  rw [hg1] at hbx hb2 ⊢
  refine wp_named fun a0 ha0 => ?_
  have z1 : a0.tmps.getD 1 undef = .pointer (some ⟨g1, 0, none⟩) := by rw [ha0.out]; rfl
  have hsz0 : a0.tmps.size = 34 := by rw [ha0.out]; rfl
  refine wp_region_inv _ (by kernel_rfl) (fun L a w => ∃ g9 A1 c1 G, PIF a0 [5, 6, 7, 8, 9, 10, 11, 12, 13, 3] (cfP s A nF cA g1 g9 A1 c1 G) L a ∧ CfW V s A nF cA D nD cD g1 g9 A1 c1 G (L 4) (L 7) (L 8) (L 9) (L 10) w) (by kernel_rfl) ?_ ?_ ?_
  · exact ⟨0, none, 0, 0, PIF.start _ _ _, nofun, nofun, nofun, ⟨rfl, rfl, rfl, Nat.le_refl _, fun _ _ => rfl⟩, hbx, hbx.lt, nofun, nofun, nofun, nofun, nofun, nofun, nofun⟩
  · rintro L a w1 ⟨g9, A1, c1, G, hp, hw⟩ hL
    have e3 := hp.pu (9, 3, .pointer (some ⟨G, 0, none⟩)) (by simp [cfP]) (hL 9 (by simp))
    simp only at e3
    rw [hp.eq, ha0.out]
    simp only [putAll, e3]
    clear hp e3
    generalize a.tmps.getD 5 undef = u5
    generalize a.tmps.getD 6 undef = u6
    generalize a.tmps.getD 7 undef = u7
    generalize a.tmps.getD 8 undef = u8
    generalize a.tmps.getD 9 undef = u9
    generalize a.tmps.getD 10 undef = u10
    generalize a.tmps.getD 11 undef = u11
    generalize a.tmps.getD 12 undef = u12
    generalize a.tmps.getD 13 undef = u13
    have h9 := hL 9 (by simp)
    have h7 := hL 7 (by simp)
    have h10 := hL 10 (by simp)
    have hGb := hw.n9 h10
    have hfu := hw.f7 h7
    have hAG := hw.a7 h9 h7
    have hGV := hw.g9' h9
    have hwb := hw.bel
    clear hL hw ha0 z1 hsz0 h9 h7 h10
    clear a0 a L
    go_wp2
    go_loopw [4] (fun i wr => ∃ (k : Nat) (D1 : Option Addr) (cD1 : Nat) (ps : List Sl), i = .int .i64 (k : Int) ∧ k ≤ nD ∧ ps.map Sl.l = s.data.take k ∧ OwnP wr V.heap.size G A1 nF c1 D1 k cD1 s.full ps ∧ Blk wr G 26 #[.int .u8 (s.kind : Int), .int .u32 (s.next : Int), .slice A1 nF c1, .slice D1 k cD1] ∧ Below V.heap.size V wr) (fun i _ => nD - (RowKit.intOf i).toNat)
    case atStart =>
      exact ⟨0, none, 0, [], rfl, by omega, rfl, ⟨hfu, World.ownsRow_nil _ _ _ _, nofun, nofun, hAG, nofun⟩, hGb, hwb⟩
    case round =>
      obtain ⟨k, D1, cD1, ps, rfl, hk, hps, hown, hGr, hbel⟩ := hrel
      have hxr := hbx.below hbel hbx.lt
      obtain ⟨x0, x1, x2, x3⟩ := hxr.c4
      have hcD := hsV.cd
      by_cases hlt : k < nD
      · obtain ⟨x, hx⟩ : ∃ x, s.data[k]? = some x := ⟨_, List.getElem?_eq_getElem (by rw [hsV.ld]; exact hlt)⟩
        obtain ⟨gd, od, B0, nx0, cb0, rfl, hcd, hxl, hx2⟩ := (hsV.below hbel).data_get hx
        obtain ⟨gd', od', B, nx, cb, eD, hcd', _⟩ := hsV.data_get hx
        injection eD with eD
        injection eD with e1 e2
        subst e1 e2
        have hcdV := hcd'
        rw [hbel.cell (World.block_lt_of_cell? V _ hcdV), hcdV] at hcd
        injection hcd with hcd
        injection hcd with e1 e2 e3
        subst e1 e2 e3
        have hxs := hmx x (List.mem_of_getElem? hx)
        go_wp2
        refine wp_named fun a0 ha0 => ?_
        have z1 : a0.tmps.getD 1 undef = .pointer (some ⟨g1, 0, none⟩) := by rw [ha0.out]; rfl
        have z3 : a0.tmps.getD 3 undef = .pointer (some ⟨G, 0, none⟩) := by rw [ha0.out]; rfl
        have z4 : a0.tmps.getD 4 undef = .int .i64 (k : Int) := by rw [ha0.out]; rfl
        have hsz0 : a0.tmps.size = 34 := by rw [ha0.out]; rfl
        have hcd := hcdV
        refine wp_region_inv _ (by kernel_rfl) (fun L a w => ∃ g2 B1 c3 g3 D2 c2, PIF a0 [21, 22, 23, 24, 25, 26, 27, 28, 29, 30, 31, 32] (cdP D1 k cD1 g1 G gd od nD cD B nx cb g2 B1 c3 g3 D2 c2) L a ∧ CdW V wr s A nF cA gd od nD cD g1 A1 c1 G D1 k cD1 ps x nx g2 B1 c3 g3 D2 c2 (L 1) (L 2) (L 8) (L 9) (L 10) (L 12) w) (by kernel_rfl) ?_ ?_ ?_
        · exact ⟨0, none, 0, 0, none, 0, PIF.start _ _ _, nofun, nofun, nofun, nofun, ⟨hbel.os, hbel.tape, hbel.output, hbel.size, hbel.block⟩, Nat.le_refl _, hbel.size, fun _ => ⟨rfl, rfl, rfl, Nat.le_refl _, fun _ _ => rfl⟩, hxr, hbx.lt, fun _ => hGr, ⟨hGV, hGr.lt⟩, nofun, nofun, nofun, nofun, nofun⟩
        · rintro L a w1 ⟨g2, B1, c3, g3, D2, c2, hp, hw⟩ hL
          rw [hp.eq, ha0.out]
          simp only [putAll]
          have h12 := hL 12 (by simp)
          have hzn := hw.zn h12
          have hfin := hw.fin (hw.k12 h12)
          have hb := hw.bel
          clear hp hw
          go_wp2
          go_roundw
          case rel => exact ⟨k + 1, D2, c2, ps ++ [⟨B1, nx, c3, x⟩], by go_num, by omega, by rw [List.map_append, hps, List.take_add_one, hx]; rfl, hfin, hzn, hb⟩
          case measure => simp [RowKit.intOf]; omega
        · refine ⟨?_, ?_, ?_, ?_, ?_, ?_, ?_, ?_, ?_, ?_, ?_, ?_, ?_, trivial⟩
          · intro L a w1 hI hi hd
            obtain ⟨g2, B1, c3, g3, D2, c2, hp, hw⟩ := hI
            have t3 := hp.at_ 3 _ rfl z3
            have t3' := t3
            rw [Array.getD_eq_getD_getElem?] at t3'
            exact rstep_valW (wanted_none rfl _) (.pointer (some ⟨G, 3, none⟩)) w1 (by go_simp) ⟨g2, B1, c3, g3, D2, c2, (hp.put 0 21 (.pointer (some ⟨G, 3, none⟩)) (by simp [cdP]) (by simp [cdP]) rfl (by rw [hsz0]; decide)), hw⟩
          · intro L a w1 hI hi hd
            obtain ⟨g2, B1, c3, g3, D2, c2, hp, hw⟩ := hI
            simp [Region.binds] at hd
            have e0 := hp.pu (0, 21, (.pointer (some ⟨G, 3, none⟩))) (by simp [cdP]) (by simp [hd])
            simp only at e0
            have f0 : a.tmps[21]?.getD undef = (.pointer (some ⟨G, 3, none⟩)) := by rw [← Array.getD_eq_getD_getElem?]; exact e0
            have hi : L 1 = false := hi
            have hG := hw.z (hw.no12 (hw.no10 hi))
            obtain ⟨y0, y1, y2, y3⟩ := hG.c4
            exact rstep_valW (wanted_none rfl _) (.slice D1 k cD1) w1 (by go_simp) ⟨g2, B1, c3, g3, D2, c2, (hp.put 1 22 (.slice D1 k cD1) (by simp [cdP]) (by simp [cdP]) rfl (by rw [hsz0]; decide)), hw.at1⟩
          · intro L a w1 hI hi hd
            obtain ⟨g2, B1, c3, g3, D2, c2, hp, hw⟩ := hI
            have hi : L 2 = false := hi
            refine rstep_valW (wanted_none rfl _) (.slice (some ⟨w1.heap.size, 0, none⟩) 0 0) (w1.alloc (.cells #[] 5)) (by go_simp) ⟨w1.heap.size, B1, c3, g3, D2, c2, PIF.put (PIF.swap (p2 := (cdP D1 k cD1 g1 G gd od nD cD B nx cb w1.heap.size B1 c3 g3 D2 c2)) hp (by intro q hq hL; simp only [cdP, List.mem_cons, List.not_mem_nil, or_false] at hq; rcases hq with rfl | rfl | rfl | rfl | rfl | rfl | rfl | rfl | rfl | rfl | rfl | rfl <;> first | (simp [cdP]; done) | (exfalso; simp_all))) 2 23 (.slice (some ⟨w1.heap.size, 0, none⟩) 0 0) (by simp [cdP]) (by simp [cdP]) rfl (by rw [hsz0]; decide), ?_⟩
            exact hw.at2 hi
          · intro L a w1 hI hi hd
            obtain ⟨g2, B1, c3, g3, D2, c2, hp, hw⟩ := hI
            have t1 := hp.at_ 1 _ rfl z1
            have t1' := t1
            rw [Array.getD_eq_getD_getElem?] at t1'
            exact rstep_valW (wanted_none rfl _) (.pointer (some ⟨g1, 3, none⟩)) w1 (by go_simp) ⟨g2, B1, c3, g3, D2, c2, (hp.put 3 24 (.pointer (some ⟨g1, 3, none⟩)) (by simp [cdP]) (by simp [cdP]) rfl (by rw [hsz0]; decide)), hw⟩
          · intro L a w1 hI hi hd
            obtain ⟨g2, B1, c3, g3, D2, c2, hp, hw⟩ := hI
            simp [Region.binds] at hd
            have e3 := hp.pu (3, 24, (.pointer (some ⟨g1, 3, none⟩))) (by simp [cdP]) (by simp [hd])
            simp only at e3
            have f3 : a.tmps[24]?.getD undef = (.pointer (some ⟨g1, 3, none⟩)) := by rw [← Array.getD_eq_getD_getElem?]; exact e3
            obtain ⟨x0, x1, x2, x3⟩ := hw.bx.c4
            exact rstep_valW (wanted_none rfl _) (.slice (some ⟨gd, od, none⟩) nD cD) w1 (by go_simp) ⟨g2, B1, c3, g3, D2, c2, (hp.put 4 25 (.slice (some ⟨gd, od, none⟩) nD cD) (by simp [cdP]) (by simp [cdP]) rfl (by rw [hsz0]; decide)), hw⟩
          · intro L a w1 hI hi hd
            obtain ⟨g2, B1, c3, g3, D2, c2, hp, hw⟩ := hI
            have t4 := hp.at_ 4 _ rfl z4
            have t4' := t4
            rw [Array.getD_eq_getD_getElem?] at t4'
            exact rstep_valW (wanted_none rfl _) (.int .i64 (k : Int)) w1 (by go_simp) ⟨g2, B1, c3, g3, D2, c2, (hp.put 5 26 (.int .i64 (k : Int)) (by simp [cdP]) (by simp [cdP]) rfl (by rw [hsz0]; decide)), hw⟩
          · intro L a w1 hI hi hd
            obtain ⟨g2, B1, c3, g3, D2, c2, hp, hw⟩ := hI
            simp [Region.binds] at hd
            have e4 := hp.pu (4, 25, (.slice (some ⟨gd, od, none⟩) nD cD)) (by simp [cdP]) (by simp [hd])
            simp only at e4
            have f4 : a.tmps[25]?.getD undef = (.slice (some ⟨gd, od, none⟩) nD cD) := by rw [← Array.getD_eq_getD_getElem?]; exact e4
            have e5 := hp.pu (5, 26, (.int .i64 (k : Int))) (by simp [cdP]) (by simp [hd])
            simp only at e5
            have f5 : a.tmps[26]?.getD undef = (.int .i64 (k : Int)) := by rw [← Array.getD_eq_getD_getElem?]; exact e5
            exact rstep_valW (wanted_none rfl _) (.pointer (some ⟨gd, od + k, none⟩)) w1 (by go_simp) ⟨g2, B1, c3, g3, D2, c2, (hp.put 6 27 (.pointer (some ⟨gd, od + k, none⟩)) (by simp [cdP]) (by simp [cdP]) rfl (by rw [hsz0]; decide)), hw⟩
          · intro L a w1 hI hi hd
            obtain ⟨g2, B1, c3, g3, D2, c2, hp, hw⟩ := hI
            simp [Region.binds] at hd
            have e6 := hp.pu (6, 27, (.pointer (some ⟨gd, od + k, none⟩))) (by simp [cdP]) (by simp [hd])
            simp only at e6
            have f6 : a.tmps[27]?.getD undef = (.pointer (some ⟨gd, od + k, none⟩)) := by rw [← Array.getD_eq_getD_getElem?]; exact e6
            have hcell := hw.src hcd
            exact rstep_valW (wanted_none rfl _) (.slice B nx cb) w1 (by go_simp) ⟨g2, B1, c3, g3, D2, c2, (hp.put 7 28 (.slice B nx cb) (by simp [cdP]) (by simp [cdP]) rfl (by rw [hsz0]; decide)), hw⟩
          · intro L a w1 hI hi hd
            obtain ⟨g2, B1, c3, g3, D2, c2, hp, hw⟩ := hI
            simp [Region.binds] at hd
            have e2 := hp.pu (2, 23, (.slice (some ⟨g2, 0, none⟩) 0 0)) (by simp [cdP]) (by simp [hd])
            simp only at e2
            have f2 : a.tmps[23]?.getD undef = (.slice (some ⟨g2, 0, none⟩) 0 0) := by rw [← Array.getD_eq_getD_getElem?]; exact e2
            have e7 := hp.pu (7, 28, (.slice B nx cb)) (by simp [cdP]) (by simp [hd])
            simp only at e7
            have f7 : a.tmps[28]?.getD undef = (.slice B nx cb) := by rw [← Array.getD_eq_getD_getElem?]; exact e7
            have hi : L 8 = false := hi
            have n9 := hw.no9 hi
            have n10 := hw.no10' n9
            have hO := hw.f2 hd.1 hi
            have hrx := hx2.below (hw.bwr n10)
            obtain ⟨i0, hi0, hz0, hz1, hz2⟩ := info_parts info_u8
            refine rstep_wp rfl (wp_append_row w1 (.tmp 23) (.tmp 28) _ rfl wr.heap.size 5 i0 _ 1 1 Try.underlying27 hi0 hz0 hz1 hz2 rfl (by omega) (.slice (some ⟨g2, 0, none⟩) 0 0) 0 [] e2 hO B nx cb (bs x) e7 (by rw [bs_length]; omega) hrx (bs_one x) (by unfold maxLen; omega) (by omega) hw.gr fun B' c' w2 h1 h2 h3 => ?_)
            simp only [Nat.zero_add, List.nil_append] at h1 h3 ⊢
            refine ⟨g2, B', c', g3, D2, c2, PIF.put (PIF.swap (p2 := (cdP D1 k cD1 g1 G gd od nD cD B nx cb g2 B' c' g3 D2 c2)) hp (by intro q hq hL; simp only [cdP, List.mem_cons, List.not_mem_nil, or_false] at hq; rcases hq with rfl | rfl | rfl | rfl | rfl | rfl | rfl | rfl | rfl | rfl | rfl | rfl <;> first | (simp [cdP]; done) | (exfalso; simp_all))) 8 29 (.slice B' nx c') (by simp [cdP]) (by simp [cdP]) rfl (by rw [hsz0]; decide), ?_⟩
            exact hw.at8 hi hd.1 hxl h1 h2
          · intro L a w1 hI hi hd
            obtain ⟨g2, B1, c3, g3, D2, c2, hp, hw⟩ := hI
            simp [Region.binds] at hd
            have e8 := hp.pu (8, 29, (.slice B1 nx c3)) (by simp [cdP]) (by simp [hd])
            simp only at e8
            have f8 : a.tmps[29]?.getD undef = (.slice B1 nx c3) := by rw [← Array.getD_eq_getD_getElem?]; exact e8
            have hi : L 9 = false := hi
            refine rstep_valW (wanted_none rfl _) (.slice (some ⟨w1.heap.size, 0, none⟩) 1 1) (w1.alloc (.cells #[.slice B1 nx c3] 27)) (by go_simp) ⟨g2, B1, c3, w1.heap.size, D2, c2, PIF.put (PIF.swap (p2 := (cdP D1 k cD1 g1 G gd od nD cD B nx cb g2 B1 c3 w1.heap.size D2 c2)) hp (by intro q hq hL; simp only [cdP, List.mem_cons, List.not_mem_nil, or_false] at hq; rcases hq with rfl | rfl | rfl | rfl | rfl | rfl | rfl | rfl | rfl | rfl | rfl | rfl <;> first | (simp [cdP]; done) | (exfalso; simp_all))) 9 30 (.slice (some ⟨w1.heap.size, 0, none⟩) 1 1) (by simp [cdP]) (by simp [cdP]) rfl (by rw [hsz0]; decide), ?_⟩
            exact hw.at9 hi (by simp [hd])
          · intro L a w1 hI hi hd
            obtain ⟨g2, B1, c3, g3, D2, c2, hp, hw⟩ := hI
            simp [Region.binds] at hd
            have e1 := hp.pu (1, 22, (.slice D1 k cD1)) (by simp [cdP]) (by simp [hd])
            simp only at e1
            have f1 : a.tmps[22]?.getD undef = (.slice D1 k cD1) := by rw [← Array.getD_eq_getD_getElem?]; exact e1
            have e9 := hp.pu (9, 30, (.slice (some ⟨g3, 0, none⟩) 1 1)) (by simp [cdP]) (by simp [hd])
            simp only at e9
            have f9 : a.tmps[30]?.getD undef = (.slice (some ⟨g3, 0, none⟩) 1 1) := by rw [← Array.getD_eq_getD_getElem?]; exact e9
            have hi : L 10 = false := hi
            have q9 : L 9 = true := by simp [hd]
            have q1 : L 1 = true := by simp [hd]
            have hr9 := hw.f9 q9 hi
            have hOP := hown.below (hw.bwr hi)
            obtain ⟨i0, hi0, hz0, hz1, hz2⟩ := info_parts info_sl
            refine rstep_wp rfl (wp_append_row w1 (.tmp 22) (.tmp 30) _ rfl V.heap.size 27 i0 _ 1 24 Try.underlying24 hi0 hz0 hz1 hz2 rfl (by omega) (.slice D1 k cD1) k (ps.map Sl.val) e1 hOP.li (some ⟨g3, 0, none⟩) 1 1 [.slice B1 nx c3] e9 rfl hr9 (by intro u hu; rw [List.mem_singleton] at hu; subst hu; rfl) (by unfold maxLen; omega) (by omega) hw.bel.size fun D' c' w2 h1 h2 h3 => ?_)
            refine ⟨g2, B1, c3, g3, D', c', PIF.put (PIF.swap (p2 := (cdP D1 k cD1 g1 G gd od nD cD B nx cb g2 B1 c3 g3 D' c')) hp (by intro q hq hL; simp only [cdP, List.mem_cons, List.not_mem_nil, or_false] at hq; rcases hq with rfl | rfl | rfl | rfl | rfl | rfl | rfl | rfl | rfl | rfl | rfl | rfl <;> first | (simp [cdP]; done) | (exfalso; simp_all))) 10 31 (.slice D' (k + 1) c') (by simp [cdP]) (by simp [cdP]) rfl (by rw [hsz0]; decide), ?_⟩
            exact hw.at10 hown hi q1 q9 h1 h2 h3
          · intro L a w1 hI hi hd
            obtain ⟨g2, B1, c3, g3, D2, c2, hp, hw⟩ := hI
            have t3 := hp.at_ 3 _ rfl z3
            have t3' := t3
            rw [Array.getD_eq_getD_getElem?] at t3'
            exact rstep_valW (wanted_none rfl _) (.pointer (some ⟨G, 3, none⟩)) w1 (by go_simp) ⟨g2, B1, c3, g3, D2, c2, (hp.put 11 32 (.pointer (some ⟨G, 3, none⟩)) (by simp [cdP]) (by simp [cdP]) rfl (by rw [hsz0]; decide)), hw⟩
          · intro L a w1 hI hi hd
            obtain ⟨g2, B1, c3, g3, D2, c2, hp, hw⟩ := hI
            simp [Region.binds] at hd
            have e10 := hp.pu (10, 31, (.slice D2 (k + 1) c2)) (by simp [cdP]) (by simp [hd])
            simp only at e10
            have f10 : a.tmps[31]?.getD undef = (.slice D2 (k + 1) c2) := by rw [← Array.getD_eq_getD_getElem?]; exact e10
            have e11 := hp.pu (11, 32, (.pointer (some ⟨G, 3, none⟩))) (by simp [cdP]) (by simp [hd])
            simp only at e11
            have f11 : a.tmps[32]?.getD undef = (.pointer (some ⟨G, 3, none⟩)) := by rw [← Array.getD_eq_getD_getElem?]; exact e11
            have hi : L 12 = false := hi
            have q10 : L 10 = true := by simp [hd]
            have hG := hw.z hi
            obtain ⟨y0, y1, y2, y3⟩ := hG.c4
            have k3 := hG.frozen 3
            refine rstep_skip rfl (w1.setCell ⟨G, 3, none⟩ (.slice D2 (k + 1) c2)) (by go_simp) ⟨g2, B1, c3, g3, D2, c2, (hp.skip 12 undef (by simp [cdP])), ?_⟩
            exact hw.at12 hi q10
      · obtain rfl : k = nD := by omega
        obtain ⟨y0, y1, y2, y3⟩ := hGr.c4
        have hB2 := hb2.below hbel hb2.lt
        obtain ⟨v0, v1, v2, v3⟩ := hB2.c4
        have k0 := hB2.frozen 0
        have k1 := hB2.frozen 1
        have k2 := hB2.frozen 2
        have k3 := hB2.frozen 3
        have hlV := hb2.lt
        go_wp2
        refine ret_cell1 rfl (g1 + 1) #[.int .u8 (s.kind : Int), .int .u32 (s.next : Int), .slice A1 nF c1, .slice D1 k cD1] _ rfl (hB2.set4 _ _ _ _) Try.underlying26 rfl (by kernel_rfl) rfl ?_
        refine ⟨A1, c1, D1, cD1, rfl, ⟨G, ps, by rw [hps, ← hsV.ld, List.take_length], ?_⟩, ?_⟩
        · exact ((((hown.far _ 0 _ hlV).far _ 1 _ hlV).far _ 2 _ hlV).far _ 3 _ hlV).base_ (by omega)
        · have hj := below_join hVb hbel
          exact hj.grown (grown4 _ _ _ _ _ _) hj.size (fun q hq => by injection hq with hq; omega)
  · refine ⟨?_, ?_, ?_, ?_, ?_, ?_, ?_, ?_, ?_, ?_, ?_, trivial⟩
    · intro L a w1 hI hi hd
      obtain ⟨g9, A1, c1, G, hp, hw⟩ := hI
      have t1 := hp.at_ 1 _ rfl z1
      have t1' := t1
      rw [Array.getD_eq_getD_getElem?] at t1'
      exact rstep_valW (wanted_none rfl _) (.pointer (some ⟨g1, 0, none⟩)) w1 (by go_simp) ⟨g9, A1, c1, G, (hp.put 0 5 (.pointer (some ⟨g1, 0, none⟩)) (by simp [cfP]) (by simp [cfP]) rfl (by rw [hsz0]; decide)), hw⟩
    · intro L a w1 hI hi hd
      obtain ⟨g9, A1, c1, G, hp, hw⟩ := hI
      simp [Region.binds] at hd
      have e0 := hp.pu (0, 5, (.pointer (some ⟨g1, 0, none⟩))) (by simp [cfP]) (by simp [hd])
      simp only at e0
      have f0 : a.tmps[5]?.getD undef = (.pointer (some ⟨g1, 0, none⟩)) := by rw [← Array.getD_eq_getD_getElem?]; exact e0
      obtain ⟨x0, x1, x2, x3⟩ := hw.bx.c4
      exact rstep_valW (wanted_none rfl _) (.int .u8 (s.kind : Int)) w1 (by go_simp) ⟨g9, A1, c1, G, (hp.put 1 6 (.int .u8 (s.kind : Int)) (by simp [cfP]) (by simp [cfP]) rfl (by rw [hsz0]; decide)), hw⟩
    · intro L a w1 hI hi hd
      obtain ⟨g9, A1, c1, G, hp, hw⟩ := hI
      have t1 := hp.at_ 1 _ rfl z1
      have t1' := t1
      rw [Array.getD_eq_getD_getElem?] at t1'
      exact rstep_valW (wanted_none rfl _) (.pointer (some ⟨g1, 1, none⟩)) w1 (by go_simp) ⟨g9, A1, c1, G, (hp.put 2 7 (.pointer (some ⟨g1, 1, none⟩)) (by simp [cfP]) (by simp [cfP]) rfl (by rw [hsz0]; decide)), hw⟩
    · intro L a w1 hI hi hd
      obtain ⟨g9, A1, c1, G, hp, hw⟩ := hI
      simp [Region.binds] at hd
      have e2 := hp.pu (2, 7, (.pointer (some ⟨g1, 1, none⟩))) (by simp [cfP]) (by simp [hd])
      simp only at e2
      have f2 : a.tmps[7]?.getD undef = (.pointer (some ⟨g1, 1, none⟩)) := by rw [← Array.getD_eq_getD_getElem?]; exact e2
      obtain ⟨x0, x1, x2, x3⟩ := hw.bx.c4
      exact rstep_valW (wanted_none rfl _) (.int .u32 (s.next : Int)) w1 (by go_simp) ⟨g9, A1, c1, G, (hp.put 3 8 (.int .u32 (s.next : Int)) (by simp [cfP]) (by simp [cfP]) rfl (by rw [hsz0]; decide)), hw⟩
    · intro L a w1 hI hi hd
      obtain ⟨g9, A1, c1, G, hp, hw⟩ := hI
      have hi : L 4 = false := hi
      have n7 := hw.no7 hi
      have n8 := hw.no8 n7
      refine rstep_valW (wanted_none rfl _) (.slice (some ⟨w1.heap.size, 0, none⟩) 0 0) (w1.alloc (.cells #[] 4)) (by go_simp) ⟨w1.heap.size, A1, c1, G, PIF.put (PIF.swap (p2 := (cfP s A nF cA g1 w1.heap.size A1 c1 G)) hp (by intro q hq hL; simp only [cfP, List.mem_cons, List.not_mem_nil, or_false] at hq; rcases hq with rfl | rfl | rfl | rfl | rfl | rfl | rfl | rfl | rfl | rfl <;> first | (simp [cfP]; done) | (exfalso; simp_all))) 4 9 (.slice (some ⟨w1.heap.size, 0, none⟩) 0 0) (by simp [cfP]) (by simp [cfP]) rfl (by rw [hsz0]; decide), ?_⟩
      exact hw.at4 hi
    · intro L a w1 hI hi hd
      obtain ⟨g9, A1, c1, G, hp, hw⟩ := hI
      have t1 := hp.at_ 1 _ rfl z1
      have t1' := t1
      rw [Array.getD_eq_getD_getElem?] at t1'
      exact rstep_valW (wanted_none rfl _) (.pointer (some ⟨g1, 2, none⟩)) w1 (by go_simp) ⟨g9, A1, c1, G, (hp.put 5 10 (.pointer (some ⟨g1, 2, none⟩)) (by simp [cfP]) (by simp [cfP]) rfl (by rw [hsz0]; decide)), hw⟩
    · intro L a w1 hI hi hd
      obtain ⟨g9, A1, c1, G, hp, hw⟩ := hI
      simp [Region.binds] at hd
      have e5 := hp.pu (5, 10, (.pointer (some ⟨g1, 2, none⟩))) (by simp [cfP]) (by simp [hd])
      simp only at e5
      have f5 : a.tmps[10]?.getD undef = (.pointer (some ⟨g1, 2, none⟩)) := by rw [← Array.getD_eq_getD_getElem?]; exact e5
      obtain ⟨x0, x1, x2, x3⟩ := hw.bx.c4
      exact rstep_valW (wanted_none rfl _) (.slice A nF cA) w1 (by go_simp) ⟨g9, A1, c1, G, (hp.put 6 11 (.slice A nF cA) (by simp [cfP]) (by simp [cfP]) rfl (by rw [hsz0]; decide)), hw⟩
    · intro L a w1 hI hi hd
      obtain ⟨g9, A1, c1, G, hp, hw⟩ := hI
      simp [Region.binds] at hd
      have e4 := hp.pu (4, 9, (.slice (some ⟨g9, 0, none⟩) 0 0)) (by simp [cfP]) (by simp [hd])
      simp only at e4
      have f4 : a.tmps[9]?.getD undef = (.slice (some ⟨g9, 0, none⟩) 0 0) := by rw [← Array.getD_eq_getD_getElem?]; exact e4
      have e6 := hp.pu (6, 11, (.slice A nF cA)) (by simp [cfP]) (by simp [hd])
      simp only at e6
      have f6 : a.tmps[11]?.getD undef = (.slice A nF cA) := by rw [← Array.getD_eq_getD_getElem?]; exact e6
      have hi : L 7 = false := hi
      have n8 := hw.no8 hi
      have hO := hw.f4 hd.1 hi
      obtain ⟨i0, hi0, hz0, hz1, hz2⟩ := info_parts info_bool
      refine rstep_wp rfl (wp_append_row w1 (.tmp 9) (.tmp 11) _ rfl V.heap.size 4 i0 _ 1 1 Try.underlying23 hi0 hz0 hz1 hz2 rfl (by omega) (.slice (some ⟨g9, 0, none⟩) 0 0) 0 [] e4 hO A nF cA (s.full.map .bool) e6 (by rw [List.length_map]; omega) (hrF.below hw.bel) (flags_one s.full) (by unfold maxLen; omega) (by omega) hw.bel.size fun A' c' w2 h1 h2 h3 => ?_)
      simp only [Nat.zero_add, List.nil_append] at h1 h3 ⊢
      refine ⟨g9, A', c', G, PIF.put (PIF.swap (p2 := (cfP s A nF cA g1 g9 A' c' G)) hp (by intro q hq hL; simp only [cfP, List.mem_cons, List.not_mem_nil, or_false] at hq; rcases hq with rfl | rfl | rfl | rfl | rfl | rfl | rfl | rfl | rfl | rfl <;> first | (simp [cfP]; done) | (exfalso; simp_all))) 7 12 (.slice A' nF c') (by simp [cfP]) (by simp [cfP]) rfl (by rw [hsz0]; decide), ?_⟩
      exact hw.at7 hi hd.1 h1 h2 h3
    · intro L a w1 hI hi hd
      obtain ⟨g9, A1, c1, G, hp, hw⟩ := hI
      simp [Region.binds] at hd
      have e1 := hp.pu (1, 6, (.int .u8 (s.kind : Int))) (by simp [cfP]) (by simp [hd])
      simp only at e1
      have f1 : a.tmps[6]?.getD undef = (.int .u8 (s.kind : Int)) := by rw [← Array.getD_eq_getD_getElem?]; exact e1
      have e3 := hp.pu (3, 8, (.int .u32 (s.next : Int))) (by simp [cfP]) (by simp [hd])
      simp only at e3
      have f3 : a.tmps[8]?.getD undef = (.int .u32 (s.next : Int)) := by rw [← Array.getD_eq_getD_getElem?]; exact e3
      have e7 := hp.pu (7, 12, (.slice A1 nF c1)) (by simp [cfP]) (by simp [hd])
      simp only at e7
      have f7 : a.tmps[12]?.getD undef = (.slice A1 nF c1) := by rw [← Array.getD_eq_getD_getElem?]; exact e7
      exact rstep_valW (wanted_none rfl _) (.agg #[.int .u8 (s.kind : Int), .int .u32 (s.next : Int), .slice A1 nF c1, .slice none 0 0]) w1 (by go_simp) ⟨g9, A1, c1, G, (hp.put 8 13 (.agg #[.int .u8 (s.kind : Int), .int .u32 (s.next : Int), .slice A1 nF c1, .slice none 0 0]) (by simp [cfP]) (by simp [cfP]) rfl (by rw [hsz0]; decide)), (hw.at8 (by simp [hd]))⟩
    · intro L a w1 hI hi hd
      obtain ⟨g9, A1, c1, G, hp, hw⟩ := hI
      have hi : L 9 = false := hi
      have n10 := hw.no10 hi
      refine rstep_valW (wanted_none rfl _) (.pointer (some ⟨w1.heap.size, 0, none⟩)) (w1.alloc (.cells #[.int .u8 0, .int .u32 0, .slice none 0 0, .slice none 0 0] 26)) (by go_simp) ⟨g9, A1, c1, w1.heap.size, PIF.put (PIF.swap (p2 := (cfP s A nF cA g1 g9 A1 c1 w1.heap.size)) hp (by intro q hq hL; simp only [cfP, List.mem_cons, List.not_mem_nil, or_false] at hq; rcases hq with rfl | rfl | rfl | rfl | rfl | rfl | rfl | rfl | rfl | rfl <;> first | (simp [cfP]; done) | (exfalso; simp_all))) 9 3 (.pointer (some ⟨w1.heap.size, 0, none⟩)) (by simp [cfP]) (by simp [cfP]) rfl (by rw [hsz0]; decide), ?_⟩
      exact hw.at9 hi
    · intro L a w1 hI hi hd
      obtain ⟨g9, A1, c1, G, hp, hw⟩ := hI
      simp [Region.binds] at hd
      have e8 := hp.pu (8, 13, (.agg #[.int .u8 (s.kind : Int), .int .u32 (s.next : Int), .slice A1 nF c1, .slice none 0 0])) (by simp [cfP]) (by simp [hd])
      simp only at e8
      have f8 : a.tmps[13]?.getD undef = (.agg #[.int .u8 (s.kind : Int), .int .u32 (s.next : Int), .slice A1 nF c1, .slice none 0 0]) := by rw [← Array.getD_eq_getD_getElem?]; exact e8
      have e9 := hp.pu (9, 3, (.pointer (some ⟨G, 0, none⟩))) (by simp [cfP]) (by simp [hd])
      simp only at e9
      have f9 : a.tmps[3]?.getD undef = (.pointer (some ⟨G, 0, none⟩)) := by rw [← Array.getD_eq_getD_getElem?]; exact e9
      have hi : L 10 = false := hi
      have h8 : L 8 = true := by simp [hd]
      have h9 : L 9 = true := by simp [hd]
      have hG := hw.z9 h9 hi
      obtain ⟨y0, y1, y2, y3⟩ := hG.c4
      have k0 := hG.frozen 0
      have k1 := hG.frozen 1
      have k2 := hG.frozen 2
      have k3 := hG.frozen 3
      refine rstep_skip rfl ((((w1.setCell ⟨G, 0, none⟩ (.int .u8 (s.kind : Int))).setCell ⟨G, 1, none⟩ (.int .u32 (s.next : Int))).setCell ⟨G, 2, none⟩ (.slice A1 nF c1)).setCell ⟨G, 3, none⟩ (.slice none 0 0)) (by go_simp) ⟨g9, A1, c1, G, (hp.skip 10 undef (by simp [cfP])), ?_⟩
      exact hw.at10 hi h8 h9
end Go.Proofs.Ytofbfehpadjbbaa
