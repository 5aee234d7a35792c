/-
  What a reader's methods return, and what they leave of it.
  Conditions: the reader lies in a block of its own; its bytes lie in memory as a list.
-/
import Derived.Test.YtaadfalklddhcaaCodeW2
namespace Go.Proofs.Ytaadfalklddhcaa
open Go.RowKit
set_option linter.unusedVariables false
/-- A reader in memory (t: its type). -/
def RdAt (t : TypeId) (w : World) (g : Nat) (r : CodeM.Rd) : Prop := ∃ A n c, Blk w g t #[.slice A n c, .int .i64 (r.e : Int)] ∧ r.l.length = n ∧ (n ≤ c ∧ n ≤ 140737488355328) ∧ c ≤ maxLen ∧ Row w A (bs r.l)
/-- A new reader. -/
def NewR (t : TypeId) (r : CodeM.Rd) (w : World) (e : Ending) (w' : World) : Prop := ∃ g, e = .returned (.pointer (some ⟨g, 0, none⟩)) ∧ w.heap.size ≤ g ∧ RdAt t w' g r ∧ Below w.heap.size w w'
/-- Bytes lie in no reader's block. -/
theorem row_apart {w : World} {A : Option Addr} {l : List UInt8} {g : Nat} {t : TypeId} {cs : Array Value} (h : Row w A (bs l)) (hB : Blk w g t cs) (hcs : ∀ v ∈ cs.toList, ∀ c : UInt8, v ≠ B c) : l = [] ∨ ∃ b o, A = some ⟨b, o, none⟩ ∧ b ≠ g ∧ ∀ j u, (bs l)[j]? = some u → w.cell? ⟨b, o + j, none⟩ = some u := by
  rcases h with h | ⟨b, o, e, hc⟩
  · exact .inl (List.map_eq_nil_iff.1 h)
  · by_cases hl : l = []
    · exact .inl hl
    · refine .inr ⟨b, o, e, ?_, hc⟩
      rintro rfl
      obtain ⟨u, l', rfl⟩ : ∃ u l', l = u :: l' := by
        cases l with
        | nil => exact absurd rfl hl
        | cons u l' => exact ⟨u, l', rfl⟩
      have h0 := hc 0 (B u) rfl
      rw [hB.cell] at h0
      exact hcs _ (by rw [← Array.getElem?_toList] at h0; exact List.mem_of_getElem? h0) u rfl
theorem row_other {w w' : World} {A : Option Addr} {l : List UInt8} {g : Nat} {t : TypeId} {cs : Array Value} (h : Row w A (bs l)) (hB : Blk w g t cs) (hcs : ∀ v ∈ cs.toList, ∀ c : UInt8, v ≠ B c) (hg : w.grownBy w' (some g)) : Row w' A (bs l) := by
  rcases row_apart h hB hcs with rfl | ⟨b, o, e, hne, hc⟩
  · exact .inl rfl
  · refine .inr ⟨b, o, e, fun j u hu => ?_⟩
    have := hc j u hu
    exact hg.cell this (by simpa using hne)
theorem reader_apart (A : Option Addr) (n c : Nat) (e : Int) : ∀ v ∈ (#[Value.slice A n c, Value.int .i64 e] : Array Value).toList, ∀ c : UInt8, v ≠ B c := by
  intro v hv c
  simp at hv
  rcases hv with rfl | rfl <;> simp [B]
/-- Bytes stay where a reader alone has changed. -/
theorem RdAt.row {t : TypeId} {w w' : World} {g : Nat} {r : CodeM.Rd} (h : RdAt t w g r) (hg : w.grownBy w' (some g)) {A : Option Addr} {l : List UInt8} (hr : Row w A (bs l)) : Row w' A (bs l) := by
  obtain ⟨_, _, _, hB, _⟩ := h
  exact row_other hr hB (reader_apart _ _ _ _) hg
theorem RdAt.below {t : TypeId} {w w' : World} {g : Nat} {r : CodeM.Rd} (h : RdAt t w g r) (hb : Below w.heap.size w w') : RdAt t w' g r := by
  obtain ⟨A, n, c, hB, h1, h2, h3, h4⟩ := h
  exact ⟨A, n, c, hB.below hb hB.lt, h1, h2, h3, h4.below hb⟩
theorem RdAt.lt {t : TypeId} {w : World} {g : Nat} {r : CodeM.Rd} (h : RdAt t w g r) : g < w.heap.size := by
  obtain ⟨A, n, c, hB, _⟩ := h
  exact hB.lt
theorem below_grown {B g : Nat} {a w w' : World} (h : Below B a w) (hg : w.grownBy w' (some g)) (hs : B ≤ w.heap.size) (hB : B ≤ g) : Below B a w' := h.grown hg hs (fun k hk => by injection hk with hk; omega)
set_option maxRecDepth 100000 in
theorem newreader_any (A : Option Addr) (c : Nat) (l : List UInt8) (w : World) (hr : Row w A (bs l)) (hc : l.length ≤ 140737488355328) :
    Calls Try.prog 28 #[.slice A l.length c] w (NewR 111 ⟨l, 0⟩ w) := by
  go_enter Try.func28, Try.ntmps28
  go_wp2_with fail
  refine (clone_any A c l _ hr hc).mono ?_
  rintro e w1 ⟨A1, n1, c1, rfl, hn1, h1, b1⟩
  have hs := b1.size
  go_wp2
  go_ret
  exact ⟨w1.heap.size, rfl, by omega, ⟨A1, n1, c1, Blk.new w1 _ _, hn1.out, ⟨hn1.out ▸ h1.le.1, hn1.out ▸ hc⟩, h1.le.2, (h1.alloc _).row⟩, b1.alloc hs _⟩
theorem err_any (g : Nat) (r : CodeM.Rd) (w : World) (hr : RdAt 111 w g r) :
    Calls Try.prog 91 #[.pointer (some ⟨g, 0, none⟩)] w fun e w' => e = .returned (.int .i64 (r.e : Int)) ∧ w = w' := by
  obtain ⟨A, n, c, hB, hn, hc, hc2, hrow⟩ := hr
  have c1 := hB.cell 1
  simp only [List.getElem?_toArray, List.getElem?_cons_zero, List.getElem?_cons_succ] at c1
  clear hB hn
  go_enter Try.func91, Try.ntmps91
  go_wp2
  go_ret
  exact ⟨rfl, rfl⟩
end Go.Proofs.Ytaadfalklddhcaa
