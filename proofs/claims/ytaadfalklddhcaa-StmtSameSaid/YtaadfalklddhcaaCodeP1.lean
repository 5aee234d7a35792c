/-
  Lists of slices in memory; append as one step of a region whose order is open.
  Conditions: none.
-/
import Derived.Test.YtaadfalklddhcaaCodeR3
import Derived.Test.YtaadfalklddhcaaCodeW14
import Derived.Deep.RegionHeldLaw
namespace Go.Proofs.Ytaadfalklddhcaa
open Go.RowKit Go.Sort Go.Lib
set_option linter.unusedVariables false
/-- append at a step of a region that draws its order. -/
theorem step_app' (w : World) {ops : Array Oper} {o : Oper} {a : Act} {K : Act → World → Prop} {Q : Exit → Act → World → Prop} {E : Prop} (hgd : o.guard = none) (s x : Operand)
    (ho : o.op = .call { callee := .builtin .append, args := #[s, x], argTypes := #[22, 22] })
    (base : Nat) (A : Option Addr) (c : Nat) (l : List UInt8) (n : Nat) (hs : a.eval s = .slice A n c) (hn : l.length = n) (hown : Own w base A c l)
    (A2 : Option Addr) (c2 : Nat) (m : List UInt8) (k : Nat) (hx : a.eval x = .slice A2 k c2) (hk : m.length = k) (hr : Row w A2 (bs m))
    (hlen : n + k ≤ 140737488355328) (hbase : base ≤ w.heap.size)
    (h : ∀ A' c' w', Own w' base A' c' (l ++ m) → w.grownBy w' (Value.slice A n c).ownBlock → K (a.put o.dst (.slice A' (n + k) c')) w') :
    if Region.wanted o (yielded ops a.tmps) = true then Oper.wp Try.prog o a w K Q else E := by
  have hw : Region.wanted o (yielded ops a.tmps) = true := by simp [Region.wanted, hgd]
  rw [if_pos hw]
  subst hn hk
  obtain ⟨i0, hi0, hz0, hz1, hz2⟩ := info_parts info_u8
  refine wp_append_row w s x _ ho base 5 i0 _ 1 1 Try.underlying22 hi0 hz0 hz1 hz2 rfl (by omega) _ l.length (bs l) hs hown A2 m.length c2 (bs m) hx (by rw [bs_length]; omega) hr (bs_one m)
    (by unfold maxLen; omega) (by omega) hbase fun A' c' w' h1 h2 h3 => h A' c' w' ?_ h2
  unfold Own
  rw [List.length_append, bs_append]
  exact h1
theorem fx_mod (k n : Nat) : CodeM.fx k (n % 256 ^ k) = CodeM.fx k n := by
  have h := CodeM.fx_le (CodeM.fx k n)
  rwa [CodeM.fx_length, CodeM.le_fx] at h
/-- A slice whose bytes begin its block. -/
structure Pt where
  g : Nat
  n : Nat
  c : Nat
  l : List UInt8
def Pt.val (p : Pt) : Value := .slice (some ⟨p.g, 0, none⟩) p.n p.c
def Lst (w : World) (G : Nat) (ps : List Pt) : Prop := Blk w G 22 (ps.map Pt.val).toArray
theorem Lst.cell {w : World} {G : Nat} {ps : List Pt} (h : Lst w G ps) {k : Nat} {p : Pt} (hp : ps[k]? = some p) : w.cell? ⟨G, k, none⟩ = some (.slice (some ⟨p.g, 0, none⟩) p.n p.c) := by
  have := Blk.cell h k
  rw [this]
  simp [hp, Pt.val]
/-- What holds ahead of round k: nobody has written over the slices from k on. -/
structure Inv (w0 : World) (s0 gx gy G1 G2 : Nat) (x y : List UInt8) (Ps Qs : List Pt) (k : Nat) (w : World) : Prop where
  l1 : Lst w G1 Ps
  l2 : Lst w G2 Qs
  o1 : ∀ p ∈ Ps.drop k, Own w s0 (some ⟨p.g, 0, none⟩) p.c p.l
  o2 : ∀ q ∈ Qs, Row w (some ⟨q.g, 0, none⟩) (bs q.l)
  rx : Row w (some ⟨gx, 0, none⟩) (bs x)
  ry : Row w (some ⟨gy, 0, none⟩) (bs y)
  bel : Below w0.heap.size w0 w
  size : s0 ≤ w.heap.size
section
variable {w0 w w' : World} {s0 gx gy G1 G2 : Nat} {x y : List UInt8} {Ps Qs : List Pt} {k : Nat}
theorem Inv.below (h : Inv w0 s0 gx gy G1 G2 x y Ps Qs k w) (hb : Below w.heap.size w w') : Inv w0 s0 gx gy G1 G2 x y Ps Qs k w' :=
  ⟨Blk.below h.l1 hb (Blk.lt h.l1), Blk.below h.l2 hb (Blk.lt h.l2), fun p hp => (h.o1 p hp).below hb, fun q hq => (h.o2 q hq).below hb, h.rx.below hb, h.ry.below hb, below_step h.bel hb (Nat.le_refl _), Nat.le_trans h.size hb.size⟩
theorem Inv.next (h : Inv w0 s0 gx gy G1 G2 x y Ps Qs k w) : Inv w0 s0 gx gy G1 G2 x y Ps Qs (k + 1) w :=
  ⟨h.l1, h.l2, fun p hp => h.o1 p (by rw [← List.drop_drop] at hp; exact List.mem_of_mem_drop hp), h.o2, h.rx, h.ry, h.bel, h.size⟩
theorem row_apart2 {A : Nat} {g : Nat} {l : List UInt8} (h : Row w (some ⟨A, 0, none⟩) (bs l)) (hg : w.grownBy w' (some g)) (hne : A ≠ g) : Row w' (some ⟨A, 0, none⟩) (bs l) := by
  rcases h with h | ⟨b, o, e, hc⟩
  · exact .inl h
  · refine .inr ⟨b, o, e, fun j u hu => ?_⟩
    injection e with e
    injection e with e1 e2
    subst e1 e2
    exact hg.cell (hc j u hu) (by simpa using hne)
theorem own_apart {b : Nat} {c g g' : Nat} {l : List UInt8} (h : Own w b (some ⟨g', 0, none⟩) c l) (hg : w.grownBy w' (some g)) (hne : g' ≠ g) : Own w' b (some ⟨g', 0, none⟩) c l :=
  World.ownsRow.kept h hg (.inr (by simp only [Value.ownBlock]; intro q; injection q with q; exact hne q))
/-- A store into a slice that is looked at no more. -/
theorem Inv.store {g : Nat} (h : Inv w0 s0 gx gy G1 G2 x y Ps Qs (k + 1) w) (hg : w.grownBy w' (some g)) (h1 : w0.heap.size ≤ g) (h2 : g ≠ G1) (h3 : g ≠ G2) (h4 : gx ≠ g) (h5 : gy ≠ g)
    (h6 : ∀ p ∈ Ps.drop (k + 1), p.g ≠ g) (h7 : ∀ q ∈ Qs, q.g ≠ g) : Inv w0 s0 gx gy G1 G2 x y Ps Qs (k + 1) w' :=
  ⟨Blk.grown h.l1 hg (by intro q; injection q with q; exact h2 q.symm), Blk.grown h.l2 hg (by intro q; injection q with q; exact h3 q.symm), fun p hp => own_apart (h.o1 p hp) hg (h6 p hp), fun q hq => row_apart2 (h.o2 q hq) hg (h7 q hq),
    row_apart2 h.rx hg h4, row_apart2 h.ry hg h5, h.bel.grown hg h.bel.size (fun k hk => by injection hk with hk; omega), Nat.le_trans h.size hg.size⟩
end
end Go.Proofs.Ytaadfalklddhcaa
