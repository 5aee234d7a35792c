/-
  The words of memory at this program's own types: bytes.
  Conditions: none.
-/
import Derived.Test.YtplknfbdonenmaaRows
import Derived.Test.YtplknfbdonenmaaKit
namespace Go.Proofs.Ytplknfbdonenmaa
open Go.RowKit
set_option linter.unusedVariables false
theorem info_u8 : (Try.prog.info? 5).map (fun i => (i.zero, i.size, i.bytes)) = some (some (.int .u8 0), 1, 1) := by kernel_rfl
/-- The slice of bytes (A, c) is the call's own, and holds l. -/
def Own (w : World) (base : Nat) (A : Option Addr) (c : Nat) (l : List UInt8) : Prop := w.ownsRow base 5 1 (.slice A l.length c) l.length (bs l)
section
variable {w w' : World} {base : Nat} {A : Option Addr} {c : Nat} {l : List UInt8}
theorem Own.nil_ (w : World) (base : Nat) : Own w base none 0 [] := World.ownsRow_nil w base 5 1
theorem Own.made (w : World) (cur : Array Value) (cap : Nat) (hb : base ≤ w.heap.size) (hm : cap ≤ maxLen) (hs : cur.size = cap) : Own (w.alloc (.cells cur 5)) base (some ⟨w.heap.size, 0, none⟩) cap [] :=
  World.ownsRow_made w cur cap hb hm (by omega)
theorem Own.row (h : Own w base A c l) : Row w A (bs l) := Row.of_own h
theorem Own.le (h : Own w base A c l) : l.length ≤ c ∧ c ≤ maxLen := by
  rcases h.2 with ⟨hv, hn⟩ | ⟨g, cap, cur, hv, _, _, h1, h2, _⟩
  · injection hv with _ e1 e2; unfold maxLen; omega
  · injection hv with _ e1 e2; omega
theorem Own.some_ (h : Own w base A c l) (hl : l ≠ []) : ∃ g, A = some ⟨g, 0, none⟩ ∧ base ≤ g ∧ g < w.heap.size := by
  rcases h.2 with ⟨hv, hn⟩ | ⟨g, cap, cur, hv, hb, hg, _⟩
  · exact absurd (List.eq_nil_of_length_eq_zero hn) hl
  · injection hv with e
    exact ⟨g, e, hb, (Array.getElem?_eq_some_iff.1 hg).1⟩
theorem Own.alloc (h : Own w base A c l) (o : Obj) : Own (w.alloc o) base A c l := World.ownsRow.alloc h o
theorem Own.drew (h : Own w base A c l) : Own w.drew base A c l := h
theorem Own.below (h : Own w base A c l) (hb : Below w.heap.size w w') : Own w' base A c l := by
  refine ⟨h.1, ?_⟩
  rcases h.2 with hn | ⟨g, cap, cur, e, hb', hg, rest⟩
  · exact .inl hn
  · refine .inr ⟨g, cap, cur, e, hb', ?_, rest⟩
    rw [hb.block g (Array.getElem?_eq_some_iff.1 hg).1]; exact hg
theorem Own.base_ {b : Nat} (h : Own w base A c l) (hb : b ≤ base) : Own w b A c l := by
  refine ⟨h.1, ?_⟩
  rcases h.2 with hn | ⟨g, cap, cur, e, hb', rest⟩
  · exact .inl hn
  · exact .inr ⟨g, cap, cur, e, by omega, rest⟩
/-- What an append leaves, below the base. -/
theorem Own.grown_below {row : Option Nat} {B : Nat} {w0 : World} (h : Own w base A c l) (hrow : row = (Value.slice A l.length c).ownBlock) (hg : w.grownBy w' row) (hb : Below B w0 w) (hB : B ≤ base) (hs : B ≤ w.heap.size) : Below B w0 w' :=
  hb.grown hg hs fun k hk => by
    have := World.ownsRow.lt h k (by rw [← hrow]; exact hk)
    omega
/-- A short literal. -/
theorem row_lit (w : World) (l : List UInt8) (cs : Array Value) (t : TypeId) (fr : Nat × Nat) (h : cs.toList = bs l) : Row (w.alloc (.cells cs t fr)) (some ⟨w.heap.size, 0, none⟩) (bs l) :=
  .inr ⟨w.heap.size, 0, rfl, fun j u hu => by rw [cell_of_row _ w.heap.size (0 + j) cs t fr (heap_alloc_new w _), Nat.zero_add, ← Array.getElem?_toList, h, hu]⟩
end
end Go.Proofs.Ytplknfbdonenmaa
