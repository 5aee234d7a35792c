/-
  Two copies, each in a block of its own, in whatever order.
  Conditions: none.
-/
import Derived.Test.YtofbfehpadjbbaaSltP3
namespace Go.Proofs.Ytofbfehpadjbbaa
open Go.RowKit Go.Sort Go.Lib
set_option linter.unusedVariables false
structure PiW (V : World) (t : Slt) (y1 y2 : Sls) (g5 g6 : Nat) (b1 b3 b4 b5 b6 b7 : Bool) (w : World) : Prop where
  k6 : b6 = true → b1 = true ∧ b4 = true
  k7 : b7 = true → b3 = true ∧ b5 = true
  bel : Below V.heap.size V w
  x1 : b1 = true → SltX w (fun k => V.heap.size ≤ k ∧ k < w.heap.size ∧ (b4 = true → k ≠ g5) ∧ (b5 = true → k ≠ g6)) y1 t
  x2 : b3 = true → SltX w (fun k => V.heap.size ≤ k ∧ k < w.heap.size ∧ (b4 = true → k ≠ g5) ∧ (b5 = true → k ≠ g6)) y2 t
  z5 : b4 = true → b6 = false → Blk w g5 26 #[.int .u8 0, .int .u32 0, .slice none 0 0, .slice none 0 0]
  n5 : b6 = true → Blk w g5 26 #[.int .u8 (t.kind : Int), .int .u32 (t.next : Int), .slice y1.A y1.nF y1.cA, .slice y1.D y1.nD y1.cD]
  z6 : b5 = true → b7 = false → Blk w g6 26 #[.int .u8 0, .int .u32 0, .slice none 0 0, .slice none 0 0]
  n6 : b7 = true → Blk w g6 26 #[.int .u8 (t.kind : Int), .int .u32 (t.next : Int), .slice y2.A y2.nF y2.cA, .slice y2.D y2.nD y2.cD]
  h5 : b4 = true → V.heap.size ≤ g5 ∧ g5 < w.heap.size
  h6 : b5 = true → V.heap.size ≤ g6 ∧ g6 < w.heap.size
  ne : b4 = true → b5 = true → g5 ≠ g6
section
variable {V : World} {t : Slt} {y1 y2 : Sls} {g5 g6 : Nat} {b1 b3 b4 b5 b6 b7 : Bool} {w w' : World}
theorem PiW.no6 (h : PiW V t y1 y2 g5 g6 b1 b3 b4 b5 b6 b7 w) (q : b1 = false ∨ b4 = false) : b6 = false := by
  cases hb : b6 with
  | false => rfl
  | true => obtain ⟨h1, h2⟩ := h.k6 hb; rcases q with q | q <;> simp_all
theorem PiW.no7 (h : PiW V t y1 y2 g5 g6 b1 b3 b4 b5 b6 b7 w) (q : b3 = false ∨ b5 = false) : b7 = false := by
  cases hb : b7 with
  | false => rfl
  | true => obtain ⟨h1, h2⟩ := h.k7 hb; rcases q with q | q <;> simp_all
theorem PiW.call1 (h : PiW V t y1 y2 g5 g6 b1 b3 b4 b5 b6 b7 w) (q : b1 = false) (y : Sls) (hb : Below w.heap.size w w') (hx : SltX w' (fun k => w.heap.size ≤ k ∧ k < w'.heap.size) y t) : PiW V t y y2 g5 g6 true b3 b4 b5 b6 b7 w' := by
  obtain rfl := h.no6 (.inl q)
  have hs := hb.size
  have hv := h.bel.size
  exact ⟨nofun, h.k7, below_step h.bel hb (Nat.le_refl _), fun _ => hx.mono fun k hk => ⟨by omega, hk.2, fun e => by have := (h.h5 e).2; omega, fun e => by have := (h.h6 e).2; omega⟩, fun e => (h.x2 e).below hb fun k hk => ⟨hk.1, by omega, hk.2.2⟩,
    fun e q => (h.z5 e q).below hb (h.z5 e q).lt, nofun, fun e q => (h.z6 e q).below hb (h.z6 e q).lt, fun e => (h.n6 e).below hb (h.n6 e).lt, fun e => ⟨(h.h5 e).1, by have := (h.h5 e).2; omega⟩, fun e => ⟨(h.h6 e).1, by have := (h.h6 e).2; omega⟩, h.ne⟩
theorem PiW.call2 (h : PiW V t y1 y2 g5 g6 b1 b3 b4 b5 b6 b7 w) (q : b3 = false) (y : Sls) (hb : Below w.heap.size w w') (hx : SltX w' (fun k => w.heap.size ≤ k ∧ k < w'.heap.size) y t) : PiW V t y1 y g5 g6 b1 true b4 b5 b6 b7 w' := by
  obtain rfl := h.no7 (.inl q)
  have hs := hb.size
  have hv := h.bel.size
  exact ⟨h.k6, nofun, below_step h.bel hb (Nat.le_refl _), fun e => (h.x1 e).below hb fun k hk => ⟨hk.1, by omega, hk.2.2⟩, fun _ => hx.mono fun k hk => ⟨by omega, hk.2, fun e => by have := (h.h5 e).2; omega, fun e => by have := (h.h6 e).2; omega⟩,
    fun e q => (h.z5 e q).below hb (h.z5 e q).lt, fun e => (h.n5 e).below hb (h.n5 e).lt, fun e q => (h.z6 e q).below hb (h.z6 e q).lt, nofun, fun e => ⟨(h.h5 e).1, by have := (h.h5 e).2; omega⟩, fun e => ⟨(h.h6 e).1, by have := (h.h6 e).2; omega⟩, h.ne⟩
theorem PiW.alloc5 (h : PiW V t y1 y2 g5 g6 b1 b3 b4 b5 b6 b7 w) (q : b4 = false) : PiW V t y1 y2 w.heap.size g6 b1 b3 true b5 b6 b7 (w.alloc (.cells #[.int .u8 0, .int .u32 0, .slice none 0 0, .slice none 0 0] 26)) := by
  subst q
  obtain rfl := h.no6 (.inr rfl)
  have hb : Below w.heap.size w (w.alloc (.cells #[.int .u8 0, .int .u32 0, .slice none 0 0, .slice none 0 0] 26)) := (Below.refl _ _).alloc (Nat.le_refl _) _
  have hs : (w.alloc (.cells #[.int .u8 0, .int .u32 0, .slice none 0 0, .slice none 0 0] 26)).heap.size = w.heap.size + 1 := by simp
  have hv := h.bel.size
  exact ⟨nofun, h.k7, below_step h.bel hb (Nat.le_refl _), fun e => (h.x1 e).below hb fun k hk => ⟨hk.1, by omega, fun _ => by omega, hk.2.2.2⟩, fun e => (h.x2 e).below hb fun k hk => ⟨hk.1, by omega, fun _ => by omega, hk.2.2.2⟩,
    fun _ _ => Blk.new w _ _, nofun, fun e q => (h.z6 e q).alloc _, fun e => (h.n6 e).alloc _, fun _ => ⟨hv, by omega⟩, fun e => ⟨(h.h6 e).1, by have := (h.h6 e).2; omega⟩, fun _ e => by have := (h.h6 e).2; omega⟩
theorem PiW.alloc6 (h : PiW V t y1 y2 g5 g6 b1 b3 b4 b5 b6 b7 w) (q : b5 = false) : PiW V t y1 y2 g5 w.heap.size b1 b3 b4 true b6 b7 (w.alloc (.cells #[.int .u8 0, .int .u32 0, .slice none 0 0, .slice none 0 0] 26)) := by
  subst q
  obtain rfl := h.no7 (.inr rfl)
  have hb : Below w.heap.size w (w.alloc (.cells #[.int .u8 0, .int .u32 0, .slice none 0 0, .slice none 0 0] 26)) := (Below.refl _ _).alloc (Nat.le_refl _) _
  have hs : (w.alloc (.cells #[.int .u8 0, .int .u32 0, .slice none 0 0, .slice none 0 0] 26)).heap.size = w.heap.size + 1 := by simp
  have hv := h.bel.size
  exact ⟨h.k6, nofun, below_step h.bel hb (Nat.le_refl _), fun e => (h.x1 e).below hb fun k hk => ⟨hk.1, by omega, hk.2.2.1, fun _ => by omega⟩, fun e => (h.x2 e).below hb fun k hk => ⟨hk.1, by omega, hk.2.2.1, fun _ => by omega⟩,
    fun e q => (h.z5 e q).alloc _, fun e => (h.n5 e).alloc _, fun _ _ => Blk.new w _ _, nofun, fun e => ⟨(h.h5 e).1, by have := (h.h5 e).2; omega⟩, fun _ => ⟨hv, by omega⟩, fun e _ => by have := (h.h5 e).2; omega⟩
theorem PiW.store5 (h : PiW V t y1 y2 g5 g6 b1 b3 b4 b5 b6 b7 w) (q : b6 = false) (q1 : b1 = true) (q4 : b4 = true) : PiW V t y1 y2 g5 g6 b1 b3 b4 b5 true b7 ((((w.setCell ⟨g5, 0, none⟩ (.int .u8 (t.kind : Int))).setCell ⟨g5, 1, none⟩ (.int .u32 (t.next : Int))).setCell ⟨g5, 2, none⟩ (.slice y1.A y1.nF y1.cA)).setCell ⟨g5, 3, none⟩ (.slice y1.D y1.nD y1.cD)) := by
  subst q q1 q4
  have gg := grown4 w g5 (.int .u8 (t.kind : Int)) (.int .u32 (t.next : Int)) (.slice y1.A y1.nF y1.cA) (.slice y1.D y1.nD y1.cD)
  have hg := h.h5 rfl
  have hs := gg.size
  exact ⟨fun _ => ⟨rfl, rfl⟩, h.k7, h.bel.grown gg h.bel.size (fun k hk => by injection hk with hk; omega), fun e => ((h.x1 e).grown gg (fun q => q.2.2.1 rfl rfl)).mono fun k hk => ⟨hk.1, by omega, hk.2.2⟩, fun e => ((h.x2 e).grown gg (fun q => q.2.2.1 rfl rfl)).mono fun k hk => ⟨hk.1, by omega, hk.2.2⟩, fun _ e => (by cases e), fun _ => (h.z5 rfl rfl).set4 _ _ _ _,
    fun e q => (h.z6 e q).grown gg (fun r => by injection r with r; exact h.ne rfl e r.symm), fun e => (h.n6 e).grown gg (fun r => by injection r with r; exact h.ne rfl (h.k7 e).2 r.symm), fun _ => ⟨hg.1, by omega⟩, fun e => ⟨(h.h6 e).1, by have := (h.h6 e).2; omega⟩, h.ne⟩
theorem PiW.store6 (h : PiW V t y1 y2 g5 g6 b1 b3 b4 b5 b6 b7 w) (q : b7 = false) (q3 : b3 = true) (q5 : b5 = true) : PiW V t y1 y2 g5 g6 b1 b3 b4 b5 b6 true ((((w.setCell ⟨g6, 0, none⟩ (.int .u8 (t.kind : Int))).setCell ⟨g6, 1, none⟩ (.int .u32 (t.next : Int))).setCell ⟨g6, 2, none⟩ (.slice y2.A y2.nF y2.cA)).setCell ⟨g6, 3, none⟩ (.slice y2.D y2.nD y2.cD)) := by
  subst q q3 q5
  have gg := grown4 w g6 (.int .u8 (t.kind : Int)) (.int .u32 (t.next : Int)) (.slice y2.A y2.nF y2.cA) (.slice y2.D y2.nD y2.cD)
  have hg := h.h6 rfl
  have hs := gg.size
  exact ⟨h.k6, fun _ => ⟨rfl, rfl⟩, h.bel.grown gg h.bel.size (fun k hk => by injection hk with hk; omega), fun e => ((h.x1 e).grown gg (fun q => q.2.2.2 rfl rfl)).mono fun k hk => ⟨hk.1, by omega, hk.2.2⟩, fun e => ((h.x2 e).grown gg (fun q => q.2.2.2 rfl rfl)).mono fun k hk => ⟨hk.1, by omega, hk.2.2⟩,
    fun e q => (h.z5 e q).grown gg (fun r => by injection r with r; exact h.ne e rfl r), fun e => (h.n5 e).grown gg (fun r => by injection r with r; exact h.ne (h.k6 e).2 rfl r), fun _ e => (by cases e), fun _ => (h.z6 rfl rfl).set4 _ _ _ _, fun e => ⟨(h.h5 e).1, by have := (h.h5 e).2; omega⟩, fun _ => ⟨hg.1, by omega⟩, h.ne⟩
end
/-- The two bodies, between the changes. -/
structure Pst (w0 : World) (gs g5 g6 : Nat) (t : Slt) (x z : Sls) (w : World) : Prop where
  bel : Below w0.heap.size w0 w
  h5 : w0.heap.size ≤ g5
  h6 : w0.heap.size ≤ g6
  ne : g5 ≠ g6
  b5 : Blk w g5 26 #[.int .u8 (t.kind : Int), .int .u32 (t.next : Int), .slice x.A x.nF x.cA, .slice x.D x.nD x.cD]
  b6 : Blk w g6 26 #[.int .u8 (t.kind : Int), .int .u32 (t.next : Int), .slice z.A z.nF z.cA, .slice z.D z.nD z.cD]
  hx : SltX w (fun k => k ≠ g5 ∧ k ≠ g6 ∧ k < w.heap.size) x t
  hz : SltX w (fun k => k ≠ g5 ∧ k ≠ g6 ∧ k < w.heap.size) z t
  bd : SltM.Bnd t
theorem PiW.pst {w0 V w : World} {t : Slt} {y1 y2 : Sls} {g5 g6 gs : Nat} (h : PiW V t y1 y2 g5 g6 true true true true true true w) (hb : Below w0.heap.size w0 V) (hd : SltM.Bnd t) : Pst w0 gs g5 g6 t y1 y2 w :=
  ⟨below_join hb h.bel, Nat.le_trans hb.size (h.h5 rfl).1, Nat.le_trans hb.size (h.h6 rfl).1, h.ne rfl rfl, h.n5 rfl, h.n6 rfl, (h.x1 rfl).mono fun k hk => ⟨hk.2.2.1 rfl, hk.2.2.2 rfl, hk.2.1⟩, (h.x2 rfl).mono fun k hk => ⟨hk.2.2.1 rfl, hk.2.2.2 rfl, hk.2.1⟩, hd⟩
end Go.Proofs.Ytofbfehpadjbbaa
