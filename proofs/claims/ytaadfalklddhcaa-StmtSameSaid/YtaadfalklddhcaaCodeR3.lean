/-
  Questions in memory; the law's helpers lent and kept; a new reader whose bytes are its own.
  Conditions: the bytes lie in memory as a list.
-/
import Derived.Test.YtaadfalklddhcaaCodeR2
namespace Go.Proofs.Ytaadfalklddhcaa
open Go.RowKit Go.Sort Go.Lib
set_option linter.unusedVariables false
/-- A question. -/
structure Que where
  kind : Int
  most : Int
  h0 : -9223372036854775808 ≤ most
  h1 : most < 9223372036854775808
def Que.cells (q : Que) : List Value := [.int .i64 q.kind, .int .i64 q.most]
theorem ques_get : ∀ (l : List Que) (k : Nat) (s : Que), l[k]? = some s → (l.flatMap Que.cells)[k * 2]? = some (.int .i64 s.kind) ∧ (l.flatMap Que.cells)[k * 2 + 1]? = some (.int .i64 s.most)
  | a :: l, 0, s, h => by simp at h; subst h; simp [Que.cells]
  | a :: l, k + 1, s, h => by
    have ih := ques_get l k s (by simpa using h)
    have e : (a :: l).flatMap Que.cells = .int .i64 a.kind :: .int .i64 a.most :: l.flatMap Que.cells := rfl
    rw [e, show (k + 1) * 2 = k * 2 + 1 + 1 by omega]
    simpa using ih
  | [], _, _, h => by simp at h
theorem row_que {w : World} {A : Option Addr} {l : List Que} (h : Row w A (l.flatMap Que.cells)) {k : Nat} {s : Que} (hs : l[k]? = some s) :
    ∃ b o, A = some ⟨b, o, none⟩ ∧ w.cell? ⟨b, o + k * 2, none⟩ = some (.int .i64 s.kind) ∧ w.cell? ⟨b, o + k * 2 + 1, none⟩ = some (.int .i64 s.most) := by
  obtain ⟨g1, g2⟩ := ques_get l k s hs
  rcases h with h | ⟨b, o, e, hc⟩
  · rw [h] at g1; simp at g1
  · exact ⟨b, o, e, hc _ _ g1, by rw [Nat.add_assoc]; exact hc _ _ g2⟩
/-- What lent returns. -/
def LentPost (l : List UInt8) (w : World) (e : Ending) (w' : World) : Prop := ∃ g c', e = .returned (.slice (some ⟨g, 0, none⟩) l.length c') ∧ l.length + 2 ≤ c' ∧ c' ≤ maxLen ∧ w.heap.size ≤ g ∧ g < w'.heap.size ∧ Own w' w.heap.size (some ⟨g, 0, none⟩) c' (l ++ [77, 78]) ∧ Below w.heap.size w w'
/-- A new reader, its bytes new memory. -/
def NewRO (l : List UInt8) (w : World) (e : Ending) (w' : World) : Prop := ∃ g A c, e = .returned (.pointer (some ⟨g, 0, none⟩)) ∧ w.heap.size ≤ g ∧ g < w'.heap.size ∧ Blk w' g 111 #[.slice A l.length c, .int .i64 0] ∧ Own w' w.heap.size A c l ∧ Below w.heap.size w w'
set_option maxRecDepth 100000 in
theorem newreaderO_any (A : Option Addr) (c : Nat) (l : List UInt8) (w : World) (hr : Row w A (bs l)) (hc : l.length ≤ 140737488355328) :
    Calls Try.prog 28 #[.slice A l.length c] w (NewRO l w) := by
  go_enter Try.func28, Try.ntmps28
  go_wp2_with fail
  refine (clone_any A c l w hr hc).mono ?_
  rintro e w1 ⟨A1, n1, c1, rfl, hn1, h1, b1⟩
  have hs := b1.size
  go_wp2
  go_ret
  obtain rfl := hn1.out
  exact ⟨w1.heap.size, A1, c1, rfl, by omega, by simp, Blk.new w1 _ _, h1.alloc _, b1.alloc hs _⟩
end Go.Proofs.Ytaadfalklddhcaa
