/-
  More words of memory: a new slice of bytes, filled in place; a region whose order is open and whose calls only add memory.
  Conditions: none.
-/
import Derived.Test.YtplknfbdonenmaaMem
import Derived.Lib.QuietBelow
import Derived.Laws.CopyOwn
namespace Go.Proofs.Ytplknfbdonenmaa
open Go.RowKit Go.Sort
set_option linter.unusedVariables false

/-- The block g holds just these bytes. -/
def Bytes (w : World) (g : Nat) (l : List UInt8) : Prop := Blk w g 5 (bs l).toArray
section
variable {w w' : World} {g : Nat} {l : List UInt8}
theorem Bytes.lt (h : Bytes w g l) : g < w.heap.size := Blk.lt h
theorem Bytes.cell (h : Bytes w g l) {i : Nat} (hi : i < l.length) : w.cell? ⟨g, i, none⟩ = some (.int .u8 ((l[i]).toNat : Int)) := by
  rw [Blk.cell h i]
  simp [bs, B, hi]
theorem Bytes.frozen (h : Bytes w g l) (i : Nat) : w.frozen? ⟨g, i, none⟩ = false := Blk.frozen h i
theorem Bytes.row (h : Bytes w g l) : Row w (some ⟨g, 0, none⟩) (bs l) :=
  .inr ⟨g, 0, rfl, fun j u hu => by rw [Nat.zero_add, Blk.cell h j]; simpa using hu⟩
theorem Bytes.alloc (h : Bytes w g l) (o : Obj) : Bytes (w.alloc o) g l := Blk.alloc h o
theorem Bytes.below (h : Bytes w g l) (hb : Below w.heap.size w w') : Bytes w' g l := Blk.below h hb h.lt
theorem Bytes.set_ (h : Bytes w g l) (i : Nat) (c : UInt8) : Bytes (w.setCell ⟨g, i, none⟩ (.int .u8 (c.toNat : Int))) g (l.set i c) := by
  have := Blk.set_ h i (.int .u8 (c.toNat : Int))
  unfold Bytes
  have e : (bs (l.set i c)).toArray = (bs l).toArray.setIfInBounds i (.int .u8 (c.toNat : Int)) := by
    apply Array.ext'
    simp only [Array.toList_setIfInBounds]
    unfold bs
    rw [List.map_set]
    rfl
  rw [e]; exact this
theorem Bytes.new (w : World) (l : List UInt8) : Bytes (w.alloc (.cells (bs l).toArray 5)) w.heap.size l := Blk.new w _ _
theorem Bytes.own (h : Bytes w g l) {base : Nat} (hb : base ≤ g) (hl : l.length ≤ maxLen) : Own w base (some ⟨g, 0, none⟩) l.length l :=
  ⟨by rw [bs_length]; omega, .inr ⟨g, l.length, _, rfl, hb, h, Nat.le_refl _, hl, by simp [bs], by rw [Nat.mul_one, ← bs_length l, List.take_length]⟩⟩
end
theorem zeros_made (n : Nat) : madeCells #[Value.int .u8 0] n = (bs (List.replicate n 0)).toArray := by
  apply Array.ext'
  rw [toList_madeCells_one]
  simp [bs, B]
theorem row_at {w : World} {A : Option Addr} {l : List UInt8} (h : Row w A (bs l)) {k : Nat} {u : UInt8} (hu : l[k]? = some u) : ∃ b o, A = some ⟨b, o, none⟩ ∧ w.cell? ⟨b, o + k, none⟩ = some (.int .u8 (u.toNat : Int)) := by
  obtain ⟨hk, e⟩ := List.getElem?_eq_some_iff.1 hu
  obtain ⟨b, o, e1, e2⟩ := h.byte hk
  rw [e] at e2
  exact ⟨b, o, e1, e2⟩
theorem xor_u8 (a b : UInt8) : bits .xor .u8 (a.toNat : Int) (b.toNat : Int) = ((a ^^^ b).toNat : Int) := by
  rw [u8_xor_nat _ _ a.toNat_lt b.toNat_lt, UInt8.toNat_xor]
theorem bs_take (l : List UInt8) (k : Nat) : bs (l.take k) = (bs l).take k := List.map_take ..
/-- A store into a row of the call's own. -/
theorem Own.cell {w : World} {base g c : Nat} {l : List UInt8} (h : Own w base (some ⟨g, 0, none⟩) c l) {k : Nat} {u : UInt8} (hu : l[k]? = some u) : w.cell? ⟨g, k, none⟩ = some (.int .u8 (u.toNat : Int)) := by
  obtain ⟨b, o, e, hc⟩ := row_at h.row hu
  simp only [Option.some.injEq, Addr.mk.injEq, and_true] at e
  obtain ⟨rfl, rfl⟩ := e
  rw [Nat.zero_add] at hc
  exact hc
theorem Own.frozen {w : World} {base g c : Nat} {l : List UInt8} (h : Own w base (some ⟨g, 0, none⟩) c l) (k : Nat) : w.frozen? ⟨g, k, none⟩ = false := by
  rcases h.2 with ⟨hv, hn⟩ | ⟨g', cap, cur, hv, hb, hg, _⟩
  · injection hv with e; cases e
  · injection hv with e
    simp only [Option.some.injEq, Addr.mk.injEq, and_true] at e
    subst e
    exact Blk.frozen (cs := cur) hg k
theorem Own.set_ {w : World} {base g c : Nat} {l : List UInt8} (h : Own w base (some ⟨g, 0, none⟩) c l) (k : Nat) (u : UInt8) : Own (w.setCell ⟨g, k, none⟩ (.int .u8 (u.toNat : Int))) base (some ⟨g, 0, none⟩) c (l.set k u) := by
  have e2 : bs (l.set k u) = (bs l).set k (.int .u8 (u.toNat : Int)) := by unfold bs; rw [List.map_set]; rfl
  refine ⟨by rw [bs_length]; omega, ?_⟩
  rcases h.2 with ⟨hv, hn⟩ | ⟨g', cap, cur, hv, hb, hg, h1, h2, h3, h4⟩
  · injection hv with e; cases e
  · injection hv with e ec en
    simp only [Option.some.injEq, Addr.mk.injEq, and_true] at e
    subst e
    refine .inr ⟨g, c, cur.setIfInBounds k (.int .u8 (u.toNat : Int)), rfl, hb, Blk.set_ (cs := cur) hg k _, by rw [List.length_set]; omega, by omega, by rw [Array.size_setIfInBounds]; omega, ?_⟩
    rw [Array.toList_setIfInBounds, List.length_set, e2, ← h4, List.take_set]
theorem Own.drewN {w : World} {base c : Nat} {A : Option Addr} {l : List UInt8} (h : Own w base A c l) (n : Nat) : Own (w.drewN n) base A c l := h
/-- One byte, laid in a block of its own. -/
theorem row_one (w : World) (v : Int) (c : UInt8) (h : v = (c.toNat : Int)) : Row (w.alloc (.cells #[.int .u8 v] 5)) (some ⟨w.heap.size, 0, none⟩) (bs [c]) := by
  subst h
  exact row_lit w [c] _ _ _ rfl
/-- What a copy to the head of a new row leaves. -/
theorem copied (w : World) (g : Nat) (l : List UInt8) (size : Nat) (h : w.heap[g]? = some (.cells (splice (bs (List.replicate (l.length + size) 0)) 0 (bs l)).toArray 5 (0, 0))) (hm : l.length + size ≤ maxLen) : Own w g (some ⟨g, 0, none⟩) (l.length + size) l := by
  refine ⟨by rw [bs_length]; omega, .inr ⟨g, l.length + size, _, rfl, Nat.le_refl _, h, by omega, hm, ?_, ?_⟩⟩
  · have := length_splice (bs (List.replicate (l.length + size) 0)) 0 (bs l) (by rw [bs_length, bs_length, List.length_replicate]; omega)
    rw [List.size_toArray, this, bs_length, List.length_replicate]; omega
  · unfold splice
    rw [List.take_zero, List.nil_append, Nat.mul_one]
    show (bs l ++ _).take _ = _
    rw [← bs_length l, List.take_left]
/-- A row stays, in every world of a quiet region's class. -/
theorem row_regrown {w : World} {A : Option Addr} {xs : List Value} (h : Row w A xs) (d : Nat) (os : Array Obj) : Row (grow (redrawn w d) os) A xs := h.below (below_regrown w d os)
end Go.Proofs.Ytplknfbdonenmaa
