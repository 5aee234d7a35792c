/-
  What both readings give, as one body and one number; a body's bytes are written over.
  Conditions: none.
-/
import Derived.Test.YtofbfehpadjbbaaSltR5
import Derived.Test.YtofbfehpadjbbaaSltP1
namespace Go.Proofs.Ytofbfehpadjbbaa
open Go.RowKit Go.Sort Go.Lib
set_option linter.unusedVariables false
namespace SltM
def gR (r : Option Slt) : Slt := r.getD s0
def gE (r : Option Slt) : Int := if r.isSome then 0 else 4
end SltM
/-- The program's reading, as one body and one number. -/
def RX (r : Option Slt) (w : World) (e : Ending) (w' : World) : Prop := ∃ y : Sls, e = .returned (.tuple #[.agg #[.int .u8 ((SltM.gR r).kind : Int), .int .u32 ((SltM.gR r).next : Int), .slice y.A y.nF y.cA, .slice y.D y.nD y.cD], .int .i64 (SltM.gE r)]) ∧ SltNewN w' w.heap.size y.A y.nF y.cA y.D y.nD y.cD (SltM.gR r) ∧ Below w.heap.size w w'
def RXw (r : Option Slt) (w : World) (e : Ending) (w' : World) : Prop := ∃ y : Sls, e = .returned (.tuple #[.agg #[.int .u8 ((SltM.gR r).kind : Int), .int .u32 ((SltM.gR r).next : Int), .slice y.A y.nF y.cA, .slice y.D y.nD y.cD], .int .i64 (SltM.gE r)]) ∧ SltAt w' y.A y.nF y.cA y.D y.nD y.cD (SltM.gR r) ∧ Below w.heap.size w w'
theorem RP8.x {r : Option Slt} {w w' : World} {e : Ending} (h : RP8 r w e w') : RX r w e w' := by
  cases r with
  | none =>
    obtain ⟨rfl, hb⟩ := h
    exact ⟨⟨none, 0, 0, none, 0, 0⟩, rfl, ⟨0, [], rfl, ⟨World.ownsRow_nil _ _ _ _, World.ownsRow_nil _ _ _ _, nofun, nofun, nofun, nofun⟩, nofun⟩, hb⟩
  | some s =>
    obtain ⟨A', n1, c1, D', n2, c2, rfl, hN, hb⟩ := h
    exact ⟨⟨A', n1, c1, D', n2, c2⟩, rfl, hN, hb⟩
theorem RP8w.x {r : Option Slt} {w w' : World} {e : Ending} (h : RP8w r w e w') : RXw r w e w' := by
  cases r with
  | none =>
    obtain ⟨rfl, hb⟩ := h
    exact ⟨⟨none, 0, 0, none, 0, 0⟩, rfl, (SltX.zero w' (fun _ => True)).at_, hb⟩
  | some s =>
    obtain ⟨A', n1, c1, D', n2, c2, rfl, hN, hb⟩ := h
    exact ⟨⟨A', n1, c1, D', n2, c2⟩, rfl, hN.at_, hb⟩
theorem gR_bnd (l : List UInt8) : SltM.Bnd (SltM.gR (SltM.readP l)) := by
  unfold SltM.gR
  cases h : SltM.readP l with
  | none => exact SltM.bnd0
  | some s =>
    refine SltM.Bnd.of_may ?_
    unfold SltM.readP at h
    split at h
    · cases h
    · split at h
      · cases h
      · rename_i r hr
        split at h
        · rename_i hm
          injection h with h
          rw [← h]
          exact hm.1
        · cases h
/-- A body's slices while its bytes are written over. -/
structure Rw (V : World) (base g4 : Nat) (yA : Option Addr) (yF ycA : Nat) (yD : Option Addr) (ynD ycD : Nat) (v0 v1 : Value) (ps : List Sl) (wr : World) : Prop where
  bel : Below base V wr
  bx : Blk wr g4 26 #[v0, v1, .slice yA yF ycA, .slice yD ynD ycD]
  li : Row wr yD (ps.map Sl.val)
  ce : ∀ p ∈ ps, ∀ j, j < p.n → ∃ (b o : Nat) (u : UInt8), p.A = some ⟨b, o, none⟩ ∧ wr.cell? ⟨b, o + j, none⟩ = some (B u) ∧ wr.frozen? ⟨b, o + j, none⟩ = false
theorem Rw.start {w : World} {base nF cA nD cD g4 : Nat} {A D : Option Addr} {s : Slt} {G : Nat} {ps : List Sl} {v0 v1 : Value} (h : OwnP w base G A nF cA D nD cD s.full ps) (hf : NF w ps) (hx : Blk w g4 26 #[v0, v1, .slice A nF cA, .slice D nD cD]) : Rw w base g4 A nF cA D nD cD v0 v1 ps w := by
  refine ⟨Below.refl _ _, hx, Row.of_own h.li, fun p hp j hj => ?_⟩
  obtain ⟨h1, h2, h3⟩ := h.each p hp
  have hjl : j < p.l.length := by omega
  obtain ⟨b, o, hA, hc⟩ := Row.byte h2 hjl
  refine ⟨b, o, p.l[j], hA, hc, ?_⟩
  rcases hf p hp with h4 | h4
  · rw [h4] at hjl; simp at hjl
  · obtain ⟨t, cs, hB⟩ := h4 _ hA
    exact hB.frozen _
theorem Rw.set {V wr : World} {base g4 : Nat} {yA : Option Addr} {yF ycA : Nat} {yD : Option Addr} {ynD ycD : Nat} {v0 v1 : Value} {ps : List Sl} (h : Rw V base g4 yA yF ycA yD ynD ycD v0 v1 ps wr) {b i : Nat} {u : UInt8} (hb : base ≤ b) (h4 : b ≠ g4) (hD : ∀ x : Addr, yD = some x → b ≠ x.block) (hc : ∃ x, wr.cell? ⟨b, i, none⟩ = some x) : Rw V base g4 yA yF ycA yD ynD ycD v0 v1 ps (wr.setCell ⟨b, i, none⟩ (B u)) := by
  obtain ⟨x0, hx0⟩ := hc
  have gg := grownBy_setCell wr b i (B u)
  have hs : V.heap.size ≤ wr.heap.size := h.bel.size
  refine ⟨⟨gg.os.trans h.bel.os, gg.tape.trans h.bel.tape, gg.output.trans h.bel.output, Nat.le_trans hs gg.size, fun k hk => (Below.heap_setCell wr ⟨b, i, none⟩ (B u) k (by show k ≠ b; omega)).trans (h.bel.block k hk)⟩, h.bx.grown gg (fun q => by injection q with q; omega), row_grown h.li gg (fun a ha q => by injection q with q; exact hD a ha q), fun p hp j hj => ?_⟩
  obtain ⟨b', o', u', hA, hcell, hfr⟩ := h.ce p hp j hj
  by_cases he : (⟨b, i, none⟩ : Addr) = ⟨b', o' + j, none⟩
  · refine ⟨b', o', u, hA, ?_, by rw [World.frozen?_setCell]; exact hfr⟩
    rw [← he]
    exact World.cell?_setCell_same _ _ _ hx0
  · refine ⟨b', o', u', hA, ?_, by rw [World.frozen?_setCell]; exact hfr⟩
    rw [World.cell?_setCell_other _ _ _ _ he]
    exact hcell
theorem row_belowB {w w' : World} {A : Option Addr} {xs : List Value} {B : Nat} (h : Row w A xs) (hb : Below B w w') (hA : ∀ x : Addr, A = some x → x.block < B) : Row w' A xs := by
  rcases h with e | ⟨b, o, rfl, hc⟩
  · exact .inl e
  · exact .inr ⟨b, o, rfl, fun j u hu => (World.cell?_of_block (hb.block b (hA _ rfl))).trans (hc j u hu)⟩
theorem byte_of (v : Int) (h0 : 0 ≤ v) (h1 : v < 256) : ∃ u : UInt8, B u = .int .u8 v := ⟨UInt8.ofNat v.toNat, by
  unfold B
  congr 1
  rw [UInt8.toNat_ofNat']
  omega⟩
end Go.Proofs.Ytofbfehpadjbbaa
