/-
  Two copies into a block, and a joining, in whatever order.
  Conditions: none.
-/
import Derived.Test.YtofbfehpadjbbaaSltB4
namespace Go.Proofs.Ytofbfehpadjbbaa
open Go.RowKit Go.Sort Go.Lib
set_option linter.unusedVariables false
set_option linter.unusedSimpArgs false
def bzP (g g1 : Nat) (A5 : Option Addr) (n5 c5 : Nat) (p50 D : Option Addr) (q cD m6 N5 : Nat) (AJ : Option Addr) (cJ : Nat) : List (Nat × Nat × Value) :=
  [(0, 46, (.slice (some ⟨g, 0, none⟩) N5 N5)), (1, 47, (.slice (some ⟨g, 0, none⟩) N5 N5)), (2, 48, (.slice A5 n5 c5)), (3, 49, (.int .i64 (n5 : Int))), (4, 50, (.slice p50 (N5 - n5) (N5 - n5))), (5, 51, (.pointer (some ⟨g1, 3, none⟩))), (6, 52, (.slice D q cD)), (7, 53, (.slice AJ m6 cJ)), (8, 54, (.int .i64 (m6 : Int)))]
structure BzW (V : World) (g : Nat) (A5 : Option Addr) (H F : List UInt8) (n5 : Nat) (AJ : Option Addr) (b3 b7 b8 : Bool) (w : World) : Prop where
  k8 : b8 = true → b3 = true ∧ b7 = true
  bel : Below V.heap.size V w
  gV : V.heap.size ≤ g
  gl : g < w.heap.size
  r0 : b3 = false → w.heap[g]? = some (.cells (bs (List.replicate 500 0)).toArray 5 (0, 0))
  r3 : b3 = true → b8 = false → w.heap[g]? = some (.cells (splice (bs (List.replicate 500 0)) 0 (bs H)).toArray 5 (0, 0))
  r8 : b8 = true → w.heap[g]? = some (.cells (splice (splice (bs (List.replicate 500 0)) 0 (bs H)) n5 (bs F)).toArray 5 (0, 0))
  hH : b3 = false → Row w A5 (bs H)
  hJ : b7 = true → b8 = false → Row w AJ (bs F) ∧ ∀ a, AJ = some a → a.block ≠ g
section
variable {V : World} {g : Nat} {A5 : Option Addr} {H F : List UInt8} {n5 : Nat} {AJ : Option Addr} {b3 b7 b8 : Bool} {w w' : World}
theorem BzW.no8 (h : BzW V g A5 H F n5 AJ b3 b7 b8 w) (q : b3 = false ∨ b7 = false) : b8 = false := by
  cases hb : b8 with
  | false => rfl
  | true => obtain ⟨h1, h2⟩ := h.k8 hb; rcases q with q | q <;> simp_all
theorem fin_own {base n5 m6 : Nat} (h : w.heap[g]? = some (.cells (splice (splice (bs (List.replicate 500 0)) 0 (bs H)) n5 (bs F)).toArray 5 (0, 0))) (hn : H.length = n5) (hm : F.length = m6) (hs : n5 + m6 ≤ 500) (hb : base ≤ g) : Own w base (some ⟨g, 0, none⟩) 500 (H ++ F ++ List.replicate (500 - (n5 + m6)) 0) := by
  have e1 : splice (bs (List.replicate 500 0)) 0 (bs H) = bs H ++ bs (List.replicate (500 - n5) 0) := by
    unfold splice
    rw [List.take_zero, List.nil_append, bs_length, hn, Nat.zero_add]
    unfold bs
    rw [← List.map_drop, List.drop_replicate]
  have e2 : splice (bs H ++ bs (List.replicate (500 - n5) 0)) n5 (bs F) = bs (H ++ F ++ List.replicate (500 - (n5 + m6)) 0) := by
    unfold splice
    have t1 : (bs H ++ bs (List.replicate (500 - n5) 0)).take n5 = bs H := by rw [← hn, ← bs_length H, List.take_left]
    have t2 : (bs H ++ bs (List.replicate (500 - n5) 0)).drop (n5 + (bs F).length) = bs (List.replicate (500 - (n5 + m6)) 0) := by
      rw [bs_length, hm, ← hn, ← bs_length H, List.drop_append, bs_length]
      simp only [Nat.add_sub_cancel_left]
      rw [List.drop_eq_nil_of_le (by rw [bs_length]; omega), List.nil_append]
      unfold bs
      rw [← List.map_drop, List.drop_replicate]
      congr 2; omega
    rw [t1, t2, bs_append, bs_append, List.append_assoc]
  rw [e1, e2] at h
  have hl : (H ++ F ++ List.replicate (500 - (n5 + m6)) 0).length = 500 := by rw [List.length_append, List.length_append, List.length_replicate, hn, hm]; omega
  unfold Own
  rw [hl]
  refine ⟨by rw [bs_length, hl], .inr ⟨g, 500, _, rfl, hb, h, Nat.le_refl _, by unfold maxLen; omega, by rw [List.size_toArray, bs_length, hl], ?_⟩⟩
  refine List.take_of_length_le ?_
  show (bs _).length ≤ _
  rw [bs_length, hl]
  omega
theorem BzW.at3 (h : BzW V g A5 H F n5 AJ b3 b7 b8 w) (q : b3 = false) (h1 : w'.heap[g]? = some (.cells (splice (bs (List.replicate 500 0)) 0 (bs H)).toArray 5 (0, 0))) (h2 : w.grownBy w' (some g)) : BzW V g A5 H F n5 AJ true b7 b8 w' := by
  subst q
  obtain rfl := h.no8 (.inl rfl)
  exact ⟨nofun, h.bel.grown h2 h.bel.size (fun k hk => by injection hk with hk; have := h.gV; omega), h.gV, Nat.lt_of_lt_of_le h.gl h2.size, nofun, fun _ _ => h1, nofun, nofun, fun e _ => ⟨row_grown (h.hJ e rfl).1 h2 (fun a ha q => by injection q with q; exact (h.hJ e rfl).2 a ha q.symm), (h.hJ e rfl).2⟩⟩
theorem BzW.at7 {A' : Option Addr} (h : BzW V g A5 H F n5 AJ b3 b7 b8 w) (q : b7 = false) (hr : Row w' A' (bs F)) (hbl : ∀ a, A' = some a → w.heap.size ≤ a.block) (hb : Below w.heap.size w w') : BzW V g A5 H F n5 A' b3 true b8 w' := by
  subst q
  obtain rfl := h.no8 (.inr rfl)
  have hg := hb.block g h.gl
  exact ⟨nofun, below_step h.bel hb (Nat.le_refl _), h.gV, Nat.lt_of_lt_of_le h.gl hb.size, fun e => hg.trans (h.r0 e), fun e f => hg.trans (h.r3 e f), nofun, fun e => (h.hH e).below hb, fun _ _ => ⟨hr, fun a ha => by have := hbl a ha; have := h.gl; omega⟩⟩
theorem BzW.at8 (h : BzW V g A5 H F n5 AJ b3 b7 b8 w) (q : b8 = false) (q3 : b3 = true) (q7 : b7 = true) (h1 : w'.heap[g]? = some (.cells (splice (splice (bs (List.replicate 500 0)) 0 (bs H)) n5 (bs F)).toArray 5 (0, 0))) (h2 : w.grownBy w' (some g)) : BzW V g A5 H F n5 AJ b3 b7 true w' := by
  subst q q3 q7
  exact ⟨fun _ => ⟨rfl, rfl⟩, h.bel.grown h2 h.bel.size (fun k hk => by injection hk with hk; have := h.gV; omega), h.gV, Nat.lt_of_lt_of_le h.gl h2.size, nofun, fun _ e => (by cases e), fun _ => h1, nofun, fun _ e => (by cases e)⟩
end
end Go.Proofs.Ytofbfehpadjbbaa
