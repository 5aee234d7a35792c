/-
  What a change has given becomes the body.
  Conditions: none.
-/
import Derived.Test.YtofbfehpadjbbaaSltP4
namespace Go.Proofs.Ytofbfehpadjbbaa
open Go.RowKit Go.Sort Go.Lib
set_option linter.unusedVariables false
structure PeW (w0 : World) (g5 g6 g10 g13 : Nat) (t : Slt) (x z0 : Sls) (R : Slt) (y z : Sls) (b2 b3 : Bool) (w : World) : Prop where
  bel : Below w0.heap.size w0 w
  h5 : w0.heap.size ≤ g5 ∧ g5 ≠ g10 ∧ g5 ≠ g13 ∧ g5 ≠ g6
  h6 : w0.heap.size ≤ g6 ∧ g6 ≠ g10 ∧ g6 ≠ g13
  b10 : Blk w g10 26 #[.int .u8 (R.kind : Int), .int .u32 (R.next : Int), .slice y.A y.nF y.cA, .slice y.D y.nD y.cD]
  b13 : Blk w g13 26 #[.int .u8 (R.kind : Int), .int .u32 (R.next : Int), .slice z.A z.nF z.cA, .slice z.D z.nD z.cD]
  z5 : b2 = false → Blk w g5 26 #[.int .u8 (t.kind : Int), .int .u32 (t.next : Int), .slice x.A x.nF x.cA, .slice x.D x.nD x.cD]
  n5 : b2 = true → Blk w g5 26 #[.int .u8 (R.kind : Int), .int .u32 (R.next : Int), .slice y.A y.nF y.cA, .slice y.D y.nD y.cD]
  z6 : b3 = false → Blk w g6 26 #[.int .u8 (t.kind : Int), .int .u32 (t.next : Int), .slice z0.A z0.nF z0.cA, .slice z0.D z0.nD z0.cD]
  n6 : b3 = true → Blk w g6 26 #[.int .u8 (R.kind : Int), .int .u32 (R.next : Int), .slice z.A z.nF z.cA, .slice z.D z.nD z.cD]
  hx : SltX w (fun k => k ≠ g5 ∧ k ≠ g6 ∧ k < w.heap.size) y R
  hz : SltX w (fun k => k ≠ g5 ∧ k ≠ g6 ∧ k < w.heap.size) z R
  bd : SltM.Bnd R
section
variable {w0 : World} {g5 g6 g10 g13 : Nat} {t : Slt} {x z0 : Sls} {R : Slt} {y z : Sls} {b2 b3 : Bool} {w : World}
theorem PeW.st5 (h : PeW w0 g5 g6 g10 g13 t x z0 R y z b2 b3 w) (q : b2 = false) : PeW w0 g5 g6 g10 g13 t x z0 R y z true b3 ((((w.setCell ⟨g5, 0, none⟩ (.int .u8 (R.kind : Int))).setCell ⟨g5, 1, none⟩ (.int .u32 (R.next : Int))).setCell ⟨g5, 2, none⟩ (.slice y.A y.nF y.cA)).setCell ⟨g5, 3, none⟩ (.slice y.D y.nD y.cD)) := by
  have gg := grown4 w g5 (.int .u8 (R.kind : Int)) (.int .u32 (R.next : Int)) (.slice y.A y.nF y.cA) (.slice y.D y.nD y.cD)
  have h5 := h.h5
  have hs := gg.size
  exact ⟨h.bel.grown gg h.bel.size (fun k hk => by injection hk with hk; omega), h.h5, h.h6, h.b10.grown gg (fun q => by injection q with q; omega), h.b13.grown gg (fun q => by injection q with q; omega), nofun, fun _ => (h.z5 q).set4 _ _ _ _, fun e => (h.z6 e).grown gg (fun q => by injection q with q; omega), fun e => (h.n6 e).grown gg (fun q => by injection q with q; omega),
    (h.hx.grown gg (fun q => q.1 rfl)).mono fun k hk => ⟨hk.1, hk.2.1, by omega⟩, (h.hz.grown gg (fun q => q.1 rfl)).mono fun k hk => ⟨hk.1, hk.2.1, by omega⟩, h.bd⟩
theorem PeW.st6 (h : PeW w0 g5 g6 g10 g13 t x z0 R y z b2 b3 w) (q : b3 = false) : PeW w0 g5 g6 g10 g13 t x z0 R y z b2 true ((((w.setCell ⟨g6, 0, none⟩ (.int .u8 (R.kind : Int))).setCell ⟨g6, 1, none⟩ (.int .u32 (R.next : Int))).setCell ⟨g6, 2, none⟩ (.slice z.A z.nF z.cA)).setCell ⟨g6, 3, none⟩ (.slice z.D z.nD z.cD)) := by
  have gg := grown4 w g6 (.int .u8 (R.kind : Int)) (.int .u32 (R.next : Int)) (.slice z.A z.nF z.cA) (.slice z.D z.nD z.cD)
  have h5 := h.h5
  have h6 := h.h6
  have hs := gg.size
  exact ⟨h.bel.grown gg h.bel.size (fun k hk => by injection hk with hk; omega), h.h5, h.h6, h.b10.grown gg (fun q => by injection q with q; omega), h.b13.grown gg (fun q => by injection q with q; omega), fun e => (h.z5 e).grown gg (fun q => by injection q with q; omega), fun e => (h.n5 e).grown gg (fun q => by injection q with q; omega), nofun, fun _ => (h.z6 q).set4 _ _ _ _,
    (h.hx.grown gg (fun q => q.2.1 rfl)).mono fun k hk => ⟨hk.1, hk.2.1, by omega⟩, (h.hz.grown gg (fun q => q.2.1 rfl)).mono fun k hk => ⟨hk.1, hk.2.1, by omega⟩, h.bd⟩
theorem PeW.pst {gs : Nat} (h : PeW w0 g5 g6 g10 g13 t x z0 R y z true true w) : Pst w0 gs g5 g6 R y z w := ⟨h.bel, h.h5.1, h.h6.1, h.h5.2.2.2, h.n5 rfl, h.n6 rfl, h.hx, h.hz, h.bd⟩
/-- The iteration's memory, behind all: the bodies are as they were. -/
theorem Pst.later {gs : Nat} {w' : World} (h : Pst w0 gs g5 g6 t x z w) (hb : Below w.heap.size w w') : Pst w0 gs g5 g6 t x z w' :=
  ⟨below_step h.bel hb (Nat.le_refl _), h.h5, h.h6, h.ne, h.b5.below hb h.b5.lt, h.b6.below hb h.b6.lt, h.hx.below hb fun k hk => ⟨hk.1, hk.2.1, Nat.lt_of_lt_of_le hk.2.2 hb.size⟩, h.hz.below hb fun k hk => ⟨hk.1, hk.2.1, Nat.lt_of_lt_of_le hk.2.2 hb.size⟩, h.bd⟩
theorem PeW.start {gs g8 nb cb : Nat} {bA : Option Addr} {b : List UInt8} {was : Sls} {w' : World} (h : Pst w0 gs g5 g6 t x z0 w) (hq : Pq w g5 g6 g8 g10 g13 bA nb cb b t was R y R z w') (hb : SltM.Bnd R)
    (hx : SltX w' (fun k => k ≠ g5 ∧ k ≠ g6 ∧ k < w'.heap.size) y R) (hz : SltX w' (fun k => k ≠ g5 ∧ k ≠ g6 ∧ k < w'.heap.size) z R) : PeW w0 g5 g6 g10 g13 t x z0 R y z false false w' := by
  have h' := h.later hq.bI
  have ho := hq.ord
  exact ⟨h'.bel, ⟨h.h5, by omega, by omega, h.ne⟩, ⟨h.h6, by omega, by omega⟩, hq.b10, hq.b13, fun _ => h'.b5, nofun, fun _ => h'.b6, nofun, hx, hz, hb⟩
end
theorem SltX.lt {w : World} {P : Nat → Prop} {y : Sls} {s : Slt} (h : SltX w P y s) : SltX w (fun k => P k ∧ k < w.heap.size) y s := by
  obtain ⟨h1, h0, h2, ps, h3, h4, h5, h6⟩ := h
  have key : ∀ (A : Option Addr) (xs : List Value), Row w A xs → (xs = [] ∨ ∀ a, A = some a → P a.block) → (xs = [] ∨ ∀ a, A = some a → P a.block ∧ a.block < w.heap.size) := by
    intro A xs hr hx
    cases xs with
    | nil => exact .inl rfl
    | cons v l =>
      obtain ⟨b, o, e, hc⟩ := hr.at_ (k := 0) (by simp)
      refine .inr fun a ha => ⟨(hx.resolve_left (by simp)) a ha, ?_⟩
      rw [e] at ha
      injection ha with ha
      subst ha
      exact World.block_lt_of_cell? w _ hc
  have r1 := key _ _ h1.rf (h2.imp (fun e => by rw [e]; rfl) id)
  have r2 := key _ _ h4 (h5.imp (fun e => by rw [e]; rfl) id)
  refine ⟨h1, h0, r1.imp (fun e => List.map_eq_nil_iff.1 e) id, ps, h3, h4, r2.imp (fun e => List.map_eq_nil_iff.1 e) id, fun p hp => ⟨(h6 p hp).1, (h6 p hp).2.1, (key _ _ (h6 p hp).1 ((h6 p hp).2.2.imp (fun e => by rw [e]; rfl) id)).imp (fun e => ?_) id⟩⟩
  have := congrArg List.length e
  rw [bs_length] at this
  exact List.eq_nil_of_length_eq_zero this
end Go.Proofs.Ytofbfehpadjbbaa
