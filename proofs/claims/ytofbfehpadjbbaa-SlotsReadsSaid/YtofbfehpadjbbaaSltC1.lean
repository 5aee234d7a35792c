/-
  The document's copy of a slotted body.
  Conditions: the lengths fit.
-/
import Derived.Test.YtofbfehpadjbbaaReg3
import Derived.Test.YtofbfehpadjbbaaSltW8
namespace Go.Proofs.Ytofbfehpadjbbaa
open Go.RowKit Go.Sort Go.Lib
set_option linter.unusedVariables false
set_option linter.unusedSimpArgs false
theorem owns_made (w : World) (base : Nat) (t : TypeId) (cs : Array Value) (n : Nat) (xs : List Value) (hb : base ≤ w.heap.size) (hs : cs.size = n) (hx : cs.toList = xs) (hm : n ≤ maxLen) : (w.alloc (.cells cs t)).ownsRow base t 1 (.slice (some ⟨w.heap.size, 0, none⟩) n n) n xs := by
  refine ⟨by rw [← hx, Array.length_toList]; omega, .inr ⟨w.heap.size, n, cs, rfl, hb, heap_alloc_new w _, Nat.le_refl _, hm, by omega, ?_⟩⟩
  rw [← hx, ← hs, Nat.mul_one, ← Array.length_toList, List.take_length]
theorem Blk.c4 {w : World} {g : Nat} {t : TypeId} {v0 v1 v2 v3 : Value} (h : Blk w g t #[v0, v1, v2, v3]) : w.cell? ⟨g, 0, none⟩ = some v0 ∧ w.cell? ⟨g, 1, none⟩ = some v1 ∧ w.cell? ⟨g, 2, none⟩ = some v2 ∧ w.cell? ⟨g, 3, none⟩ = some v3 := by
  have c0 := h.cell 0
  have c1 := h.cell 1
  have c2 := h.cell 2
  have c3 := h.cell 3
  simp only [List.getElem?_toArray, List.getElem?_cons_zero, List.getElem?_cons_succ] at c0 c1 c2 c3
  exact ⟨c0, c1, c2, c3⟩
theorem Blk.set4 {w : World} {g : Nat} {t : TypeId} {v0 v1 v2 v3 : Value} (h : Blk w g t #[v0, v1, v2, v3]) (u0 u1 u2 u3 : Value) : Blk ((((w.setCell ⟨g, 0, none⟩ u0).setCell ⟨g, 1, none⟩ u1).setCell ⟨g, 2, none⟩ u2).setCell ⟨g, 3, none⟩ u3) g t #[u0, u1, u2, u3] := (((h.set_ 0 u0).set_ 1 u1).set_ 2 u2).set_ 3 u3
theorem grown4 (w : World) (g : Nat) (u0 u1 u2 u3 : Value) : w.grownBy ((((w.setCell ⟨g, 0, none⟩ u0).setCell ⟨g, 1, none⟩ u1).setCell ⟨g, 2, none⟩ u2).setCell ⟨g, 3, none⟩ u3) (some g) :=
  (grownBy_setCell _ _ _ _).trans ((grownBy_setCell _ _ _ _).trans ((grownBy_setCell _ _ _ _).trans (grownBy_setCell _ _ _ _)))
def cfP (s : Slt) (A : Option Addr) (nF cA g1 g9 : Nat) (A1 : Option Addr) (c1 G : Nat) : List (Nat × Nat × Value) :=
  [(0, 5, (.pointer (some ⟨g1, 0, none⟩))), (1, 6, (.int .u8 (s.kind : Int))), (2, 7, (.pointer (some ⟨g1, 1, none⟩))), (3, 8, (.int .u32 (s.next : Int))), (4, 9, (.slice (some ⟨g9, 0, none⟩) 0 0)), (5, 10, (.pointer (some ⟨g1, 2, none⟩))), (6, 11, (.slice A nF cA)), (7, 12, (.slice A1 nF c1)), (8, 13, (.agg #[.int .u8 (s.kind : Int), .int .u32 (s.next : Int), .slice A1 nF c1, .slice none 0 0])), (9, 3, (.pointer (some ⟨G, 0, none⟩)))]
/-- What is made while the flags are copied: the empty list (b4), the copy (b7), the struct (b8), its block (b9), the storing (b10). -/
structure CfW (V : World) (s : Slt) (A : Option Addr) (nF cA : Nat) (D : Option Addr) (nD cD g1 g9 : Nat) (A1 : Option Addr) (c1 G : Nat) (b4 b7 b8 b9 b10 : Bool) (w : World) : Prop where
  c7 : b7 = true → b4 = true
  c8 : b8 = true → b7 = true
  c10 : b10 = true → b8 = true ∧ b9 = true
  bel : Below V.heap.size V w
  bx : Blk w g1 26 #[.int .u8 (s.kind : Int), .int .u32 (s.next : Int), .slice A nF cA, .slice D nD cD]
  hg1 : g1 < V.heap.size
  f4 : b4 = true → b7 = false → OwnF w V.heap.size (some ⟨g9, 0, none⟩) 0 0 []
  f7 : b7 = true → OwnF w V.heap.size A1 nF c1 s.full
  z9 : b9 = true → b10 = false → Blk w G 26 #[.int .u8 0, .int .u32 0, .slice none 0 0, .slice none 0 0]
  n9 : b10 = true → Blk w G 26 #[.int .u8 (s.kind : Int), .int .u32 (s.next : Int), .slice A1 nF c1, .slice none 0 0]
  g9' : b9 = true → V.heap.size ≤ G
  a4 : b9 = true → b4 = true → b7 = false → g9 ≠ G
  a7 : b9 = true → b7 = true → ∀ a, A1 = some a → a.block ≠ G
section
variable {V : World} {s : Slt} {A : Option Addr} {nF cA : Nat} {D : Option Addr} {nD cD g1 g9 : Nat} {A1 : Option Addr} {c1 G : Nat} {b4 b7 b8 b9 b10 : Bool} {w w' : World}
theorem CfW.no7 (h : CfW V s A nF cA D nD cD g1 g9 A1 c1 G b4 b7 b8 b9 b10 w) (q : b4 = false) : b7 = false := by cases hb : b7 with | false => rfl | true => have := h.c7 hb; rw [q] at this; cases this
theorem CfW.no8 (h : CfW V s A nF cA D nD cD g1 g9 A1 c1 G b4 b7 b8 b9 b10 w) (q : b7 = false) : b8 = false := by cases hb : b8 with | false => rfl | true => have := h.c8 hb; rw [q] at this; cases this
theorem CfW.no10 (h : CfW V s A nF cA D nD cD g1 g9 A1 c1 G b4 b7 b8 b9 b10 w) (q : b9 = false) : b10 = false := by cases hb : b10 with | false => rfl | true => have := (h.c10 hb).2; rw [q] at this; cases this
theorem CfW.no10' (h : CfW V s A nF cA D nD cD g1 g9 A1 c1 G b4 b7 b8 b9 b10 w) (q : b8 = false) : b10 = false := by cases hb : b10 with | false => rfl | true => have := (h.c10 hb).1; rw [q] at this; cases this
theorem CfW.at4 (h : CfW V s A nF cA D nD cD g1 g9 A1 c1 G b4 b7 b8 b9 b10 w) (q4 : b4 = false) : CfW V s A nF cA D nD cD g1 w.heap.size A1 c1 G true b7 b8 b9 b10 (w.alloc (.cells #[] 4)) := by
  subst q4
  obtain rfl := h.no7 rfl
  obtain rfl := h.no8 rfl
  obtain rfl := h.no10' rfl
  exact ⟨nofun, nofun, nofun, h.bel.alloc h.bel.size _, h.bx.alloc _, h.hg1, fun _ _ => owns_made w _ _ #[] 0 [] h.bel.size rfl rfl (by decide), nofun, fun q _ => (h.z9 q rfl).alloc _, nofun, h.g9', fun q _ _ e => by have := (h.z9 q rfl).lt; omega, nofun⟩
theorem CfW.at7 {A' : Option Addr} {c' : Nat} (h : CfW V s A nF cA D nD cD g1 g9 A1 c1 G b4 b7 b8 b9 b10 w) (q7 : b7 = false) (q4 : b4 = true) (h1 : w'.ownsRow V.heap.size 4 1 (.slice A' nF c') nF (s.full.map .bool)) (h2 : w.grownBy w' (Value.slice (some ⟨g9, 0, none⟩) 0 0).ownBlock)
    (h3 : (Value.slice A' nF c').ownBlock = (Value.slice (some ⟨g9, 0, none⟩) 0 0).ownBlock ∨ (Value.slice A' nF c').ownBlock = some w.heap.size) : CfW V s A nF cA D nD cD g1 g9 A' c' G b4 true b8 b9 b10 w' := by
  subst q4 q7
  obtain rfl := h.no8 rfl
  obtain rfl := h.no10' rfl
  have hO := h.f4 rfl rfl
  have hl := (hO.blk rfl).1
  have e2 : (Value.slice (some (⟨g9, 0, none⟩ : Addr)) 0 0).ownBlock = some g9 := rfl
  rw [e2] at h2 h3
  simp only at hl
  refine ⟨fun _ => rfl, nofun, nofun, h.bel.grown h2 h.bel.size (fun k hk => by injection hk with hk; omega), h.bx.grown h2 (fun q => by injection q with q; have := h.hg1; omega), h.hg1, nofun, fun _ => h1, fun q _ => (h.z9 q rfl).grown h2 (fun e => by injection e with e; exact h.a4 q rfl rfl e.symm), nofun, h.g9', nofun, fun q _ a ha => ?_⟩
  subst ha
  rcases h3 with h3 | h3
  · injection h3 with h3; rw [h3]; exact h.a4 q rfl rfl
  · injection h3 with h3; have := (h.z9 q rfl).lt; omega
theorem CfW.at8 (h : CfW V s A nF cA D nD cD g1 g9 A1 c1 G b4 b7 b8 b9 b10 w) (q : b7 = true) : CfW V s A nF cA D nD cD g1 g9 A1 c1 G b4 b7 true b9 b10 w :=
  ⟨h.c7, fun _ => q, fun e => ⟨rfl, (h.c10 e).2⟩, h.bel, h.bx, h.hg1, h.f4, h.f7, h.z9, h.n9, h.g9', h.a4, h.a7⟩
theorem CfW.at9 (h : CfW V s A nF cA D nD cD g1 g9 A1 c1 G b4 b7 b8 b9 b10 w) (q9 : b9 = false) : CfW V s A nF cA D nD cD g1 g9 A1 c1 w.heap.size b4 b7 b8 true b10 (w.alloc (.cells #[.int .u8 0, .int .u32 0, .slice none 0 0, .slice none 0 0] 26)) := by
  subst q9
  obtain rfl := h.no10 rfl
  exact ⟨h.c7, h.c8, nofun, h.bel.alloc h.bel.size _, h.bx.alloc _, h.hg1, fun p q => (h.f4 p q).alloc _, fun p => (h.f7 p).alloc _, fun _ _ => Blk.new w _ _, nofun, fun _ => h.bel.size, fun _ p q e => by have := ((h.f4 p q).blk rfl).2; simp only at this; omega, fun _ p a ha e => by have := ((h.f7 p).blk ha).2; omega⟩
theorem CfW.at10 (h : CfW V s A nF cA D nD cD g1 g9 A1 c1 G b4 b7 b8 b9 b10 w) (q10 : b10 = false) (q8 : b8 = true) (q9 : b9 = true) : CfW V s A nF cA D nD cD g1 g9 A1 c1 G b4 b7 b8 b9 true ((((w.setCell ⟨G, 0, none⟩ (.int .u8 (s.kind : Int))).setCell ⟨G, 1, none⟩ (.int .u32 (s.next : Int))).setCell ⟨G, 2, none⟩ (.slice A1 nF c1)).setCell ⟨G, 3, none⟩ (.slice none 0 0)) := by
  subst q10
  have hG := h.z9 q9 rfl
  have q7 := h.c8 q8
  have hg := h.g9' q9
  have gg := grown4 w G (.int .u8 (s.kind : Int)) (.int .u32 (s.next : Int)) (.slice A1 nF c1) (.slice none 0 0)
  exact ⟨h.c7, h.c8, fun _ => ⟨q8, q9⟩, h.bel.grown gg h.bel.size (fun k hk => by injection hk with hk; omega), h.bx.grown gg (fun q => by injection q with q; have := h.hg1; omega), h.hg1, fun _ e => (by rw [q7] at e; cases e), fun _ => (h.f7 q7).kept gg (fun a ha q => by injection q with q; exact h.a7 q9 q7 a ha q.symm), nofun, fun _ => hG.set4 _ _ _ _, h.g9', h.a4, h.a7⟩
end
end Go.Proofs.Ytofbfehpadjbbaa
