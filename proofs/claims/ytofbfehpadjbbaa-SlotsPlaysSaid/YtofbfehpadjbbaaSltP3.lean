/-
  The state of a play of changes on a slotted body.
  Conditions: none.
-/
import Derived.Test.YtofbfehpadjbbaaSltP2
namespace Go.Proofs.Ytofbfehpadjbbaa
open Go.RowKit Go.Sort Go.Lib
set_option linter.unusedVariables false
/-- Blocks that no body's lists lie in. -/
def Ex (g5 g6 g8 g10 g13 : Nat) (bA : Option Addr) (k : Nat) : Prop := k ≠ g5 ∧ k ≠ g6 ∧ k ≠ g8 ∧ k ≠ g10 ∧ k ≠ g13 ∧ ∀ a, bA = some a → k ≠ a.block
structure Pq (wI : World) (g5 g6 g8 g10 g13 : Nat) (bA : Option Addr) (nb cb : Nat) (b : List UInt8) (t : Slt) (was : Sls) (ty : Slt) (y : Sls) (tz : Slt) (z : Sls) (w : World) : Prop where
  bI : Below wI.heap.size wI w
  ord : g5 < wI.heap.size ∧ g6 < wI.heap.size ∧ wI.heap.size ≤ g8 ∧ wI.heap.size ≤ g10 ∧ wI.heap.size ≤ g13 ∧ g8 ≠ g10 ∧ g8 ≠ g13 ∧ g10 ≠ g13
  b8 : Blk w g8 26 #[.int .u8 (t.kind : Int), .int .u32 (t.next : Int), .slice was.A was.nF was.cA, .slice was.D was.nD was.cD]
  b10 : Blk w g10 26 #[.int .u8 (ty.kind : Int), .int .u32 (ty.next : Int), .slice y.A y.nF y.cA, .slice y.D y.nD y.cD]
  b13 : Blk w g13 26 #[.int .u8 (tz.kind : Int), .int .u32 (tz.next : Int), .slice z.A z.nF z.cA, .slice z.D z.nD z.cD]
  ob : w.ownsRow wI.heap.size 5 1 (.slice bA nb cb) nb (bs b)
  bn : ∀ a, bA = some a → a.block ≠ g8 ∧ a.block ≠ g10 ∧ a.block ≠ g13
  len : b.length = nb
  xw : SltX w (Ex g5 g6 g8 g10 g13 bA) was t
  xy : SltX w (Ex g5 g6 g8 g10 g13 bA) y ty
  xz : SltX w (Ex g5 g6 g8 g10 g13 bA) z tz
section
variable {wI : World} {g5 g6 g8 g10 g13 : Nat} {bA : Option Addr} {nb cb : Nat} {b : List UInt8} {t : Slt} {was : Sls} {ty : Slt} {y : Sls} {tz : Slt} {z : Sls} {w w' : World}
theorem Pq.hb (h : Pq wI g5 g6 g8 g10 g13 bA nb cb b t was ty y tz z w) {a : Addr} (ha : bA = some a) : wI.heap.size ≤ a.block ∧ a.block < w.heap.size := by
  subst ha
  exact h.ob.lt _ rfl
theorem Pq.obelow (h : Pq wI g5 g6 g8 g10 g13 bA nb cb b t was ty y tz z w) (hb : Below w.heap.size w w') : w'.ownsRow wI.heap.size 5 1 (.slice bA nb cb) nb (bs b) := by
  have h1 : Own w wI.heap.size bA cb b := by unfold Own; rw [h.len]; exact h.ob
  have := h1.below hb
  unfold Own at this
  rwa [h.len] at this
theorem Pq.call (h : Pq wI g5 g6 g8 g10 g13 bA nb cb b t was ty y tz z w) (hb : Below w.heap.size w w') : Pq wI g5 g6 g8 g10 g13 bA nb cb b t was ty y tz z w' :=
  ⟨below_step h.bI hb (Nat.le_refl _), h.ord, h.b8.below hb h.b8.lt, h.b10.below hb h.b10.lt, h.b13.below hb h.b13.lt, h.obelow hb, h.bn, h.len, h.xw.below hb fun _ q => q, h.xy.below hb fun _ q => q, h.xz.below hb fun _ q => q⟩
/-- What is stored beside b. -/
theorem Pq.off (h : Pq wI g5 g6 g8 g10 g13 bA nb cb b t was ty y tz z w) {g : Nat} (hg : g = g10 ∨ g = g13) (hgr : w.grownBy w' (some g)) : Below wI.heap.size wI w' ∧ w'.ownsRow wI.heap.size 5 1 (.slice bA nb cb) nb (bs b) ∧ SltX w' (Ex g5 g6 g8 g10 g13 bA) was t ∧ SltX w' (Ex g5 g6 g8 g10 g13 bA) y ty ∧ SltX w' (Ex g5 g6 g8 g10 g13 bA) z tz := by
  have ho := h.ord
  have hne : ¬ Ex g5 g6 g8 g10 g13 bA g := fun q => by
    rcases hg with hg | hg
    · exact q.2.2.2.1 hg
    · exact q.2.2.2.2.1 hg
  refine ⟨h.bI.grown hgr h.bI.size (fun k hk => by injection hk with hk; omega), h.ob.kept hgr ?_, h.xw.grown hgr hne, h.xy.grown hgr hne, h.xz.grown hgr hne⟩
  cases hA : bA with
  | none => exact .inl rfl
  | some a =>
    right
    intro q
    injection q with q
    have := h.bn a hA
    omega
theorem Pq.setY (h : Pq wI g5 g6 g8 g10 g13 bA nb cb b t was ty y tz z w) (R : Slt) (y' : Sls) (hx : SltX w (Ex g5 g6 g8 g10 g13 bA) y' R) : Pq wI g5 g6 g8 g10 g13 bA nb cb b t was R y' tz z
    ((((w.setCell ⟨g10, 0, none⟩ (.int .u8 (R.kind : Int))).setCell ⟨g10, 1, none⟩ (.int .u32 (R.next : Int))).setCell ⟨g10, 2, none⟩ (.slice y'.A y'.nF y'.cA)).setCell ⟨g10, 3, none⟩ (.slice y'.D y'.nD y'.cD)) := by
  have gg := grown4 w g10 (.int .u8 (R.kind : Int)) (.int .u32 (R.next : Int)) (.slice y'.A y'.nF y'.cA) (.slice y'.D y'.nD y'.cD)
  obtain ⟨h1, h2, h3, h4, h5⟩ := h.off (.inl rfl) gg
  have ho := h.ord
  exact ⟨h1, h.ord, h.b8.grown gg (fun q => by injection q with q; omega), h.b10.set4 _ _ _ _, h.b13.grown gg (fun q => by injection q with q; omega), h2, h.bn, h.len, h3, hx.grown gg (fun q => q.2.2.2.1 rfl), h5⟩
theorem Pq.setZ (h : Pq wI g5 g6 g8 g10 g13 bA nb cb b t was ty y tz z w) (R : Slt) (z' : Sls) (hx : SltX w (Ex g5 g6 g8 g10 g13 bA) z' R) : Pq wI g5 g6 g8 g10 g13 bA nb cb b t was ty y R z'
    ((((w.setCell ⟨g13, 0, none⟩ (.int .u8 (R.kind : Int))).setCell ⟨g13, 1, none⟩ (.int .u32 (R.next : Int))).setCell ⟨g13, 2, none⟩ (.slice z'.A z'.nF z'.cA)).setCell ⟨g13, 3, none⟩ (.slice z'.D z'.nD z'.cD)) := by
  have gg := grown4 w g13 (.int .u8 (R.kind : Int)) (.int .u32 (R.next : Int)) (.slice z'.A z'.nF z'.cA) (.slice z'.D z'.nD z'.cD)
  obtain ⟨h1, h2, h3, h4, h5⟩ := h.off (.inr rfl) gg
  have ho := h.ord
  exact ⟨h1, h.ord, h.b8.grown gg (fun q => by injection q with q; omega), h.b10.grown gg (fun q => by injection q with q; omega), h.b13.set4 _ _ _ _, h2, h.bn, h.len, h3, h4, hx.grown gg (fun q => q.2.2.2.2.1 rfl)⟩
/-- A byte of b is stored. -/
theorem Pq.setB {gb : Nat} (h : Pq wI g5 g6 g8 g10 g13 (some ⟨gb, 0, none⟩) nb cb b t was ty y tz z w) (k : Nat) (u : UInt8) : Pq wI g5 g6 g8 g10 g13 (some ⟨gb, 0, none⟩) nb cb (b.set k u) t was ty y tz z (w.setCell ⟨gb, k, none⟩ (.int .u8 (u.toNat : Int))) := by
  have gg := grownBy_setCell w gb k (.int .u8 (u.toNat : Int))
  have hb := h.hb rfl
  have ho := h.ord
  have hn := h.bn _ rfl
  simp only at hb hn
  have hne : ¬ Ex g5 g6 g8 g10 g13 (some ⟨gb, 0, none⟩) gb := fun q => q.2.2.2.2.2 _ rfl rfl
  have h1 : Own w wI.heap.size (some ⟨gb, 0, none⟩) cb b := by unfold Own; rw [h.len]; exact h.ob
  have h2 := h1.set_ k u
  unfold Own at h2
  rw [List.length_set, h.len] at h2
  exact ⟨h.bI.grown gg h.bI.size (fun k hk => by injection hk with hk; omega), h.ord, h.b8.grown gg (fun q => by injection q with q; omega), h.b10.grown gg (fun q => by injection q with q; omega), h.b13.grown gg (fun q => by injection q with q; omega), h2, h.bn, by rw [List.length_set]; exact h.len, h.xw.grown gg hne, h.xy.grown gg hne, h.xz.grown gg hne⟩
theorem Pq.new (h : Pq wI g5 g6 g8 g10 g13 bA nb cb b t was ty y tz z w) {k : Nat} (hk : w.heap.size ≤ k) : Ex g5 g6 g8 g10 g13 bA k := by
  have h1 := h.b8.lt
  have h2 := h.b10.lt
  have h3 := h.b13.lt
  have ho := h.ord
  have hs := h.bI.size
  exact ⟨by omega, by omega, by omega, by omega, by omega, fun a ha => by have := (h.hb ha).2; omega⟩
end
/-- What is made while a change is asked for. -/
structure PcW (wI Vs : World) (X : World → Prop) (y' : Sls) (R : Slt) (bc bs : Bool) (w : World) : Prop where
  k : bs = true → bc = true
  bI : Below wI.heap.size wI w
  b0 : bs = false → Below Vs.heap.size Vs w
  y : bc = true → bs = false → SltX w (fun k => Vs.heap.size ≤ k ∧ k < w.heap.size) y' R
  fin : bs = true → X w
section
variable {wI Vs : World} {X : World → Prop} {y' : Sls} {R : Slt} {bc bs : Bool} {w w' : World}
theorem PcW.no (h : PcW wI Vs X y' R bc bs w) (q : bc = false) : bs = false := by cases hb : bs with | false => rfl | true => have := h.k hb; rw [q] at this; cases this
theorem PcW.atC {X' : World → Prop} {y2 : Sls} (h : PcW wI Vs X y' R bc bs w) (q : bc = false) (hs : wI.heap.size ≤ Vs.heap.size) (hb : Below w.heap.size w w') (hx : SltX w' (fun k => w.heap.size ≤ k ∧ k < w'.heap.size) y2 R) : PcW wI Vs X' y2 R true bs w' := by
  obtain rfl := h.no q
  have h1 := (h.b0 rfl).size
  exact ⟨nofun, below_step h.bI hb (Nat.le_refl _), fun _ => below_step (h.b0 rfl) hb (Nat.le_refl _), fun _ _ => hx.mono fun k hk => ⟨by omega, hk.2⟩, nofun⟩
theorem PcW.atS (h : PcW wI Vs X y' R bc bs w) (q : bc = true) (hI : Below wI.heap.size wI w') (hX : X w') : PcW wI Vs X y' R bc true w' := ⟨fun _ => q, hI, nofun, fun _ q => (by cases q), fun _ => hX⟩
end
/-- What is made while a slot is asked for. -/
structure PgW (wI Vs : World) (F : World → Prop) (bc : Bool) (w : World) : Prop where
  bI : Below wI.heap.size wI w
  b0 : Below Vs.heap.size Vs w
  fin : bc = true → F w
end Go.Proofs.Ytofbfehpadjbbaa
