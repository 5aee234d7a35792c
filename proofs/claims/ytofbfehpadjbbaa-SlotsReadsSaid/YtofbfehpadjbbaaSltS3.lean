/-
  Two regions of the document's reading that draw their order: a flag goes behind the list, bytes go behind the list.
  Conditions: none.
-/
import Derived.Test.YtofbfehpadjbbaaSltC2
namespace Go.Proofs.Ytofbfehpadjbbaa
open Go.RowKit Go.Sort Go.Lib
set_option linter.unusedVariables false
set_option linter.unusedSimpArgs false
/-- What was below b0 stays, but for the block G. -/
structure Keep (b0 G : Nat) (a w : World) : Prop where
  os : w.os = a.os
  tape : w.tape = a.tape
  output : w.output = a.output
  size : a.heap.size ≤ w.heap.size
  block : ∀ j, j < b0 → j ≠ G → w.heap[j]? = a.heap[j]?
section
variable {b0 G : Nat} {a w w' : World}
theorem Keep.refl (b0 G : Nat) (w : World) : Keep b0 G w w := ⟨rfl, rfl, rfl, Nat.le_refl _, fun _ _ _ => rfl⟩
theorem Keep.drew (b0 G : Nat) (w : World) : Keep b0 G w w.drew := ⟨rfl, rfl, rfl, Nat.le_refl _, fun _ _ _ => rfl⟩
theorem Keep.trans {c : World} (h : Keep b0 G a w) (k : Keep b0 G w c) : Keep b0 G a c := ⟨k.os.trans h.os, k.tape.trans h.tape, k.output.trans h.output, Nat.le_trans h.size k.size, fun i hi hn => (k.block i hi hn).trans (h.block i hi hn)⟩
theorem Keep.below {B : Nat} (h : Keep b0 G a w) (k : Below B w w') (hB : b0 ≤ B) : Keep b0 G a w' := ⟨k.os.trans h.os, k.tape.trans h.tape, k.output.trans h.output, Nat.le_trans h.size k.size, fun i hi hn => (k.block i (by omega)).trans (h.block i hi hn)⟩
theorem Keep.grown {row : Option Nat} (h : Keep b0 G a w) (k : w.grownBy w' row) (hs : b0 ≤ w.heap.size) (hr : ∀ j, row = some j → b0 ≤ j ∨ j = G) : Keep b0 G a w' := ⟨k.os.trans h.os, k.tape.trans h.tape, k.output.trans h.output, Nat.le_trans h.size k.size, fun i hi hn => (k.block i (by omega) (fun e => by rcases hr i e.symm with h | h <;> omega)).trans (h.block i hi hn)⟩
theorem Keep.blk {g : Nat} {t : TypeId} {cs : Array Value} (h : Keep b0 G a w) (hB : Blk a g t cs) (hg : g < b0) (hn : g ≠ G) : Blk w g t cs := (h.block g hg hn).trans hB
theorem Keep.cell {p : Addr} {v : Value} (h : Keep b0 G a w) (hc : a.cell? p = some v) (hg : p.block < b0) (hn : p.block ≠ G) : w.cell? p = some v := (World.cell?_of_block (h.block p.block hg hn)).trans hc
theorem Keep.row {A : Option Addr} {xs : List Value} (h : Keep b0 G a w) (hr : Row a A xs) (hA : ∀ x, A = some x → x.block < b0 ∧ x.block ≠ G) : Row w A xs := by
  rcases hr with e | ⟨b, o, rfl, hc⟩
  · exact .inl e
  · exact .inr ⟨b, o, rfl, fun j u hu => h.cell (hc j u hu) (hA _ rfl).1 (hA _ rfl).2⟩
theorem Keep.to_below {B : Nat} (h : Keep b0 G a w) (h1 : B ≤ b0) (h2 : B ≤ G) : Below B a w := ⟨h.os, h.tape, h.output, h.size, fun i hi => h.block i (by omega) (by omega)⟩
end
def cgP (G : Nat) (A1 : Option Addr) (k c1 gz oz nz cz z g3 : Nat) (A2 : Option Addr) (c2 : Nat) : List (Nat × Nat × Value) :=
  [(0, 58, (.pointer (some ⟨G, 2, none⟩))), (1, 59, (.slice A1 k c1)), (2, 60, (.slice (some ⟨gz, oz, none⟩) nz cz)), (3, 61, (.int .i64 (k : Int))), (4, 62, (.pointer (some ⟨gz, oz + k, none⟩))), (5, 63, (.int .i64 (z : Int))), (6, 64, (.bool (decide (0 < z)))), (7, 65, (.slice (some ⟨g3, 0, none⟩) 1 1)), (8, 66, (.slice A2 (k + 1) c2)), (9, 67, (.pointer (some ⟨G, 2, none⟩)))]
structure CgW (b0 G : Nat) (wr : World) (k0 k1 : Nat) (A1 : Option Addr) (k c1 : Nat) (D1 : Option Addr) (cD1 : Nat) (fl : List Bool) (ps : List Sl) (z g3 : Nat) (A2 : Option Addr) (c2 : Nat) (b1 b7 b8 b10 : Bool) (w : World) : Prop where
  k8 : b8 = true → b7 = true ∧ b1 = true
  k10 : b10 = true → b8 = true
  kp : Keep b0 G wr w
  hb : b0 ≤ wr.heap.size
  bwr : b8 = false → Below wr.heap.size wr w
  zz : b10 = false → Blk w G 26 #[.int .u8 (k0 : Int), .int .u32 (k1 : Int), .slice A1 k c1, .slice D1 k cD1]
  zn : b10 = true → Blk w G 26 #[.int .u8 (k0 : Int), .int .u32 (k1 : Int), .slice A2 (k + 1) c2, .slice D1 k cD1]
  f7 : b7 = true → b8 = false → Row w (some ⟨g3, 0, none⟩) [.bool (decide (0 < z))]
  fin : b8 = true → OwnP w b0 G A2 (k + 1) c2 D1 k cD1 (fl ++ [decide (0 < z)]) ps
section
variable {b0 G : Nat} {wr : World} {k0 k1 : Nat} {A1 : Option Addr} {k c1 : Nat} {D1 : Option Addr} {cD1 : Nat} {fl : List Bool} {ps : List Sl} {z g3 : Nat} {A2 : Option Addr} {c2 : Nat} {b1 b7 b8 b10 : Bool} {w w' : World}
theorem CgW.no10 (h : CgW b0 G wr k0 k1 A1 k c1 D1 cD1 fl ps z g3 A2 c2 b1 b7 b8 b10 w) (q : b8 = false) : b10 = false := by cases hb : b10 with | false => rfl | true => have := h.k10 hb; rw [q] at this; cases this
theorem CgW.no8 (h : CgW b0 G wr k0 k1 A1 k c1 D1 cD1 fl ps z g3 A2 c2 b1 b7 b8 b10 w) (q : b1 = false) : b8 = false := by cases hb : b8 with | false => rfl | true => have := (h.k8 hb).2; rw [q] at this; cases this
theorem CgW.no8' (h : CgW b0 G wr k0 k1 A1 k c1 D1 cD1 fl ps z g3 A2 c2 b1 b7 b8 b10 w) (q : b7 = false) : b8 = false := by cases hb : b8 with | false => rfl | true => have := (h.k8 hb).1; rw [q] at this; cases this
theorem CgW.at1 (h : CgW b0 G wr k0 k1 A1 k c1 D1 cD1 fl ps z g3 A2 c2 b1 b7 b8 b10 w) : CgW b0 G wr k0 k1 A1 k c1 D1 cD1 fl ps z g3 A2 c2 true b7 b8 b10 w := ⟨fun q => ⟨(h.k8 q).1, rfl⟩, h.k10, h.kp, h.hb, h.bwr, h.zz, h.zn, h.f7, h.fin⟩
theorem CgW.at7 (h : CgW b0 G wr k0 k1 A1 k c1 D1 cD1 fl ps z g3 A2 c2 b1 b7 b8 b10 w) (q7 : b7 = false) : CgW b0 G wr k0 k1 A1 k c1 D1 cD1 fl ps z w.heap.size A2 c2 b1 true b8 b10 (w.alloc (.cells #[.bool (decide (0 < z))] 4)) := by
  subst q7
  obtain rfl := h.no8' rfl
  obtain rfl := h.no10 rfl
  have ha : Below w.heap.size w (w.alloc (.cells #[.bool (decide (0 < z))] 4)) := (Below.refl _ _).alloc (Nat.le_refl _) _
  exact ⟨nofun, nofun, h.kp.below ha (Nat.le_trans h.hb h.kp.size), h.hb, fun _ => below_step (h.bwr rfl) ha (Nat.le_refl _), fun _ => (h.zz rfl).alloc _, nofun, fun _ _ => row_new w _ _ _ _ rfl, nofun⟩
theorem CgW.at8 {A' : Option Addr} {c' : Nat} (h : CgW b0 G wr k0 k1 A1 k c1 D1 cD1 fl ps z g3 A2 c2 b1 b7 b8 b10 w) (hown : OwnP wr b0 G A1 k c1 D1 k cD1 fl ps) (q8 : b8 = false) (q1 : b1 = true) (q7 : b7 = true) (h1 : w'.ownsRow b0 4 1 (.slice A' (k + 1) c') (k + 1) (fl.map .bool ++ [.bool (decide (0 < z))])) (h2 : w.grownBy w' (Value.slice A1 k c1).ownBlock)
    (h3 : (Value.slice A' (k + 1) c').ownBlock = (Value.slice A1 k c1).ownBlock ∨ (Value.slice A' (k + 1) c').ownBlock = some w.heap.size) :
    CgW b0 G wr k0 k1 A1 k c1 D1 cD1 fl ps z g3 A' c' b1 b7 true b10 w' := by
  subst q8 q7 q1
  obtain rfl := h.no10 rfl
  have hOP := hown.below (h.bwr rfl)
  have hG := (h.zz rfl).lt
  refine ⟨fun _ => ⟨rfl, rfl⟩, nofun, h.kp.grown h2 (Nat.le_trans h.hb h.kp.size) (fun j hj => .inl (hOP.rowF j hj).1), h.hb, nofun, fun _ => (h.zz rfl).grown h2 (fun q => (hOP.rowF _ q.symm).2.2 rfl), nofun, fun _ q => (by cases q), fun _ => hOP.appF hG (by unfold OwnF; rw [List.map_append]; exact h1) h2 h3⟩
theorem CgW.at10 (h : CgW b0 G wr k0 k1 A1 k c1 D1 cD1 fl ps z g3 A2 c2 b1 b7 b8 b10 w) (q10 : b10 = false) (q8 : b8 = true) : CgW b0 G wr k0 k1 A1 k c1 D1 cD1 fl ps z g3 A2 c2 b1 b7 b8 true (w.setCell ⟨G, 2, none⟩ (.slice A2 (k + 1) c2)) := by
  subst q10 q8
  have gg := grownBy_setCell w G 2 (.slice A2 (k + 1) c2)
  exact ⟨h.k8, fun _ => rfl, h.kp.grown gg (Nat.le_trans h.hb h.kp.size) (fun j hj => by injection hj with hj; exact .inr hj.symm), h.hb, nofun, nofun, fun _ => (h.zz rfl).set_ 2 _, fun _ q => (by cases q), fun _ => (h.fin rfl).setG 2 _⟩
end
def chP (G : Nat) (D1 : Option Addr) (k cD1 gr : Nat) (B : Option Addr) (nB cB y g2 : Nat) (B1 : Option Addr) (c3 g3 : Nat) (D2 : Option Addr) (c2 : Nat) : List (Nat × Nat × Value) :=
  [(0, 68, (.pointer (some ⟨G, 3, none⟩))), (1, 69, (.slice D1 k cD1)), (2, 70, (.slice (some ⟨g2, 0, none⟩) 0 0)), (3, 71, (.pointer (some ⟨gr, 0, none⟩))), (4, 72, (.slice B nB cB)), (5, 73, (.int .i64 (y : Int))), (6, 74, (.slice B y cB)), (7, 75, (.slice B1 y c3)), (8, 76, (.slice (some ⟨g3, 0, none⟩) 1 1)), (9, 77, (.slice D2 (k + 1) c2)), (10, 78, (.pointer (some ⟨G, 3, none⟩)))]
structure ChW (b0 G : Nat) (wr : World) (k0 k1 : Nat) (A1 : Option Addr) (nF c1 : Nat) (D1 : Option Addr) (k cD1 : Nat) (fl : List Bool) (ps : List Sl) (x : List UInt8) (y g2 : Nat) (B1 : Option Addr) (c3 g3 : Nat) (D2 : Option Addr) (c2 : Nat) (b1 b2 b7 b8 b9 b11 : Bool) (w : World) : Prop where
  k7 : b7 = true → b2 = true
  k8 : b8 = true → b7 = true
  k9 : b9 = true → b8 = true ∧ b1 = true
  k11 : b11 = true → b9 = true
  kp : Keep b0 G wr w
  gr : wr.heap.size ≤ w.heap.size
  hb : b0 ≤ wr.heap.size
  hG : G < b0
  bwr : b9 = false → Below wr.heap.size wr w
  zz : b11 = false → Blk w G 26 #[.int .u8 (k0 : Int), .int .u32 (k1 : Int), .slice A1 nF c1, .slice D1 k cD1]
  zn : b11 = true → Blk w G 26 #[.int .u8 (k0 : Int), .int .u32 (k1 : Int), .slice A1 nF c1, .slice D2 (k + 1) c2]
  f2 : b2 = true → b7 = false → w.ownsRow wr.heap.size 5 1 (.slice (some ⟨g2, 0, none⟩) 0 0) 0 []
  f7 : b7 = true → w.ownsRow wr.heap.size 5 1 (.slice B1 y c3) y (bs x) ∧ x.length = y
  f8 : b8 = true → b9 = false → Row w (some ⟨g3, 0, none⟩) [.slice B1 y c3]
  fin : b9 = true → OwnP w b0 G A1 nF c1 D2 (k + 1) c2 fl (ps ++ [⟨B1, y, c3, x⟩])
section
variable {b0 G : Nat} {wr : World} {k0 k1 : Nat} {A1 : Option Addr} {nF c1 : Nat} {D1 : Option Addr} {k cD1 : Nat} {fl : List Bool} {ps : List Sl} {x : List UInt8} {y g2 : Nat} {B1 : Option Addr} {c3 g3 : Nat} {D2 : Option Addr} {c2 : Nat} {b1 b2 b7 b8 b9 b11 : Bool} {w w' : World}
theorem ChW.no11 (h : ChW b0 G wr k0 k1 A1 nF c1 D1 k cD1 fl ps x y g2 B1 c3 g3 D2 c2 b1 b2 b7 b8 b9 b11 w) (q : b9 = false) : b11 = false := by cases hb : b11 with | false => rfl | true => have := h.k11 hb; rw [q] at this; cases this
theorem ChW.no9 (h : ChW b0 G wr k0 k1 A1 nF c1 D1 k cD1 fl ps x y g2 B1 c3 g3 D2 c2 b1 b2 b7 b8 b9 b11 w) (q : b1 = false) : b9 = false := by cases hb : b9 with | false => rfl | true => have := (h.k9 hb).2; rw [q] at this; cases this
theorem ChW.no9' (h : ChW b0 G wr k0 k1 A1 nF c1 D1 k cD1 fl ps x y g2 B1 c3 g3 D2 c2 b1 b2 b7 b8 b9 b11 w) (q : b8 = false) : b9 = false := by cases hb : b9 with | false => rfl | true => have := (h.k9 hb).1; rw [q] at this; cases this
theorem ChW.no8 (h : ChW b0 G wr k0 k1 A1 nF c1 D1 k cD1 fl ps x y g2 B1 c3 g3 D2 c2 b1 b2 b7 b8 b9 b11 w) (q : b7 = false) : b8 = false := by cases hb : b8 with | false => rfl | true => have := h.k8 hb; rw [q] at this; cases this
theorem ChW.no7 (h : ChW b0 G wr k0 k1 A1 nF c1 D1 k cD1 fl ps x y g2 B1 c3 g3 D2 c2 b1 b2 b7 b8 b9 b11 w) (q : b2 = false) : b7 = false := by cases hb : b7 with | false => rfl | true => have := h.k7 hb; rw [q] at this; cases this
theorem ChW.at1 (h : ChW b0 G wr k0 k1 A1 nF c1 D1 k cD1 fl ps x y g2 B1 c3 g3 D2 c2 b1 b2 b7 b8 b9 b11 w) : ChW b0 G wr k0 k1 A1 nF c1 D1 k cD1 fl ps x y g2 B1 c3 g3 D2 c2 true b2 b7 b8 b9 b11 w := ⟨h.k7, h.k8, fun q => ⟨(h.k9 q).1, rfl⟩, h.k11, h.kp, h.gr, h.hb, h.hG, h.bwr, h.zz, h.zn, h.f2, h.f7, h.f8, h.fin⟩
theorem ChW.at2 (h : ChW b0 G wr k0 k1 A1 nF c1 D1 k cD1 fl ps x y g2 B1 c3 g3 D2 c2 b1 b2 b7 b8 b9 b11 w) (q2 : b2 = false) : ChW b0 G wr k0 k1 A1 nF c1 D1 k cD1 fl ps x y w.heap.size B1 c3 g3 D2 c2 b1 true b7 b8 b9 b11 (w.alloc (.cells #[] 5)) := by
  subst q2
  obtain rfl := h.no7 rfl
  obtain rfl := h.no8 rfl
  obtain rfl := h.no9' rfl
  obtain rfl := h.no11 rfl
  have ha : Below w.heap.size w (w.alloc (.cells #[] 5)) := (Below.refl _ _).alloc (Nat.le_refl _) _
  exact ⟨nofun, nofun, nofun, nofun, h.kp.below ha (Nat.le_trans h.hb h.kp.size), Nat.le_trans h.gr (by simp), h.hb, h.hG, fun _ => below_step (h.bwr rfl) ha (Nat.le_refl _), fun _ => (h.zz rfl).alloc _, nofun, fun _ _ => owns_made w _ _ #[] 0 [] h.gr rfl rfl (by decide), nofun, nofun, nofun⟩
theorem ChW.at7 {B' : Option Addr} {c' : Nat} (h : ChW b0 G wr k0 k1 A1 nF c1 D1 k cD1 fl ps x y g2 B1 c3 g3 D2 c2 b1 b2 b7 b8 b9 b11 w) (q7 : b7 = false) (q2 : b2 = true) (hx : x.length = y) (h1 : w'.ownsRow wr.heap.size 5 1 (.slice B' y c') y (bs x)) (h2 : w.grownBy w' (Value.slice (some ⟨g2, 0, none⟩) 0 0).ownBlock) :
    ChW b0 G wr k0 k1 A1 nF c1 D1 k cD1 fl ps x y g2 B' c' g3 D2 c2 b1 b2 true b8 b9 b11 w' := by
  subst q7 q2
  obtain rfl := h.no8 rfl
  obtain rfl := h.no9' rfl
  obtain rfl := h.no11 rfl
  have hl := ((h.f2 rfl rfl).lt g2 rfl).1
  have e2 : (Value.slice (some (⟨g2, 0, none⟩ : Addr)) 0 0).ownBlock = some g2 := rfl
  rw [e2] at h2
  have hb := h.hb
  have hG := h.hG
  exact ⟨fun _ => rfl, nofun, nofun, nofun, h.kp.grown h2 (Nat.le_trans h.hb h.kp.size) (fun q hq => by injection hq with hq; omega), Nat.le_trans h.gr h2.size, h.hb, h.hG, fun _ => (h.bwr rfl).grown h2 h.gr (fun q hq => by injection hq with hq; omega), fun _ => (h.zz rfl).grown h2 (fun q => by injection q with q; omega), nofun, nofun, fun _ => ⟨h1, hx⟩, nofun, nofun⟩
theorem ChW.at8 (h : ChW b0 G wr k0 k1 A1 nF c1 D1 k cD1 fl ps x y g2 B1 c3 g3 D2 c2 b1 b2 b7 b8 b9 b11 w) (q8 : b8 = false) (q7 : b7 = true) : ChW b0 G wr k0 k1 A1 nF c1 D1 k cD1 fl ps x y g2 B1 c3 w.heap.size D2 c2 b1 b2 b7 true b9 b11 (w.alloc (.cells #[.slice B1 y c3] 27)) := by
  subst q8 q7
  obtain rfl := h.no9' rfl
  obtain rfl := h.no11 rfl
  have ha : Below w.heap.size w (w.alloc (.cells #[.slice B1 y c3] 27)) := (Below.refl _ _).alloc (Nat.le_refl _) _
  exact ⟨h.k7, fun _ => rfl, nofun, nofun, h.kp.below ha (Nat.le_trans h.hb h.kp.size), Nat.le_trans h.gr (by simp), h.hb, h.hG, fun _ => below_step (h.bwr rfl) ha (Nat.le_refl _), fun _ => (h.zz rfl).alloc _, nofun, fun _ q => (by cases q), fun _ => ⟨(h.f7 rfl).1.alloc _, (h.f7 rfl).2⟩, fun _ _ => row_new w _ _ _ _ rfl, nofun⟩
theorem ChW.at9 {D' : Option Addr} {c' : Nat} (h : ChW b0 G wr k0 k1 A1 nF c1 D1 k cD1 fl ps x y g2 B1 c3 g3 D2 c2 b1 b2 b7 b8 b9 b11 w) (hown : OwnP wr b0 G A1 nF c1 D1 k cD1 fl ps) (q9 : b9 = false) (q1 : b1 = true) (q8 : b8 = true) (h1 : w'.ownsRow b0 27 1 (.slice D' (k + 1) c') (k + 1) (ps.map Sl.val ++ [.slice B1 y c3])) (h2 : w.grownBy w' (Value.slice D1 k cD1).ownBlock)
    (h3 : (Value.slice D' (k + 1) c').ownBlock = (Value.slice D1 k cD1).ownBlock ∨ (Value.slice D' (k + 1) c').ownBlock = some w.heap.size) :
    ChW b0 G wr k0 k1 A1 nF c1 D1 k cD1 fl ps x y g2 B1 c3 g3 D' c' b1 b2 b7 b8 true b11 w' := by
  subst q9 q8 q1
  obtain rfl := h.no11 rfl
  obtain rfl := h.k8 rfl
  have hOP := hown.below (h.bwr rfl)
  obtain ⟨o8, l8⟩ := h.f7 rfl
  have hb := h.hb
  have hG := h.hG
  have hgr := h.gr
  have hrow : ∀ j, (Value.slice D1 k cD1).ownBlock = some j → b0 ≤ j ∧ j < wr.heap.size ∧ j ≠ G := hown.rowD
  have hBl : ∀ a, B1 = some a → wr.heap.size ≤ a.block ∧ a.block < w.heap.size := by
    intro a ha
    subst ha
    exact o8.lt _ rfl
  refine ⟨h.k7, h.k8, fun _ => ⟨rfl, rfl⟩, nofun, h.kp.grown h2 (by omega) (fun q hq => .inl (hrow q hq).1), Nat.le_trans h.gr h2.size, h.hb, h.hG, nofun, fun _ => (h.zz rfl).grown h2 (fun q => (hrow _ q.symm).2.2 rfl), nofun, fun _ q => (by rw [h.k8 rfl] at q; cases q), fun _ => ⟨o8.kept h2 ?_, l8⟩, fun _ q => (by cases q), fun _ => ?_⟩
  · cases hB : B1 with
    | none => exact .inl rfl
    | some a =>
      right
      intro q
      have h5 := hBl a hB
      have h6 := hrow a.block q.symm
      omega
  · refine hOP.appP (by omega) (by unfold OwnLs; rw [List.map_append]; exact h1) h2 h3 ⟨l8, Row.of_own o8, .inr fun a ha => ?_⟩
    have h5 := hBl a ha
    exact ⟨⟨by omega, h5.2⟩, by omega, fun y hy => by have := (hown.fu.blk hy).2; omega, fun y hy => by have := (hown.li.blk hy).2; omega⟩
theorem ChW.at11 (h : ChW b0 G wr k0 k1 A1 nF c1 D1 k cD1 fl ps x y g2 B1 c3 g3 D2 c2 b1 b2 b7 b8 b9 b11 w) (q11 : b11 = false) (q9 : b9 = true) : ChW b0 G wr k0 k1 A1 nF c1 D1 k cD1 fl ps x y g2 B1 c3 g3 D2 c2 b1 b2 b7 b8 b9 true (w.setCell ⟨G, 3, none⟩ (.slice D2 (k + 1) c2)) := by
  subst q11 q9
  have q8 := (h.k9 rfl).1
  have q7 := h.k8 q8
  have gg := grownBy_setCell w G 3 (.slice D2 (k + 1) c2)
  have hb := h.hb
  have hG := h.hG
  obtain ⟨o8, l8⟩ := h.f7 q7
  refine ⟨h.k7, h.k8, h.k9, fun _ => rfl, h.kp.grown gg (Nat.le_trans h.hb h.kp.size) (fun j hj => by injection hj with hj; exact .inr hj.symm), Nat.le_trans h.gr gg.size, h.hb, h.hG, nofun, nofun, fun _ => (h.zz rfl).set_ 3 _, fun _ q => (by rw [q7] at q; cases q), fun _ => ⟨o8.kept gg ?_, l8⟩, fun _ q => (by cases q), fun _ => (h.fin rfl).setG 3 _⟩
  cases hB : B1 with
  | none => exact .inl rfl
  | some a =>
    right
    intro q
    injection q with q
    have := (o8.lt a.block (by rw [hB]; rfl)).1
    omega
end
end Go.Proofs.Ytofbfehpadjbbaa
