/-
  Questions in memory; the law's helpers lent and kept; a new reader whose bytes are its own.
  Conditions: the bytes lie in memory as a list.
-/
import Derived.Test.YteanmmdlgolljaaCodeR2
namespace Go.Proofs.Yteanmmdlgolljaa
open Go.RowKit Go.Sort Go.Lib
set_option linter.unusedVariables false
/-- A question. -/
structure Que where
  kind : Int
  most : Int
  h0 : -9223372036854775808 ≤ most
  h1 : most < 9223372036854775808
def Que.cells (q : Que) : List Value := [.int .i64 q.kind, .int .i64 q.most]
theorem ques_get : ∀ (l : List Que) (k : Nat) (s : Que), l[k]? = some s → (l.flatMap Que.cells)[k * 2]? = some (.int .i64 s.kind) ∧ (l.flatMap Que.cells)[k * 2 + 1]? = some (.int .i64 s.most)
  | a :: l, 0, s, h => by simp at h; subst h; simp [Que.cells]
  | a :: l, k + 1, s, h => by
    have ih := ques_get l k s (by simpa using h)
    have e : (a :: l).flatMap Que.cells = .int .i64 a.kind :: .int .i64 a.most :: l.flatMap Que.cells := rfl
    rw [e, show (k + 1) * 2 = k * 2 + 1 + 1 by omega]
    simpa using ih
  | [], _, _, h => by simp at h
theorem row_que {w : World} {A : Option Addr} {l : List Que} (h : Row w A (l.flatMap Que.cells)) {k : Nat} {s : Que} (hs : l[k]? = some s) :
    ∃ b o, A = some ⟨b, o, none⟩ ∧ w.cell? ⟨b, o + k * 2, none⟩ = some (.int .i64 s.kind) ∧ w.cell? ⟨b, o + k * 2 + 1, none⟩ = some (.int .i64 s.most) := by
  obtain ⟨g1, g2⟩ := ques_get l k s hs
  rcases h with h | ⟨b, o, e, hc⟩
  · rw [h] at g1; simp at g1
  · exact ⟨b, o, e, hc _ _ g1, by rw [Nat.add_assoc]; exact hc _ _ g2⟩
/-- What lent returns. -/
def LentPost (l : List UInt8) (w : World) (e : Ending) (w' : World) : Prop := ∃ g c', e = .returned (.slice (some ⟨g, 0, none⟩) l.length c') ∧ l.length + 2 ≤ c' ∧ c' ≤ maxLen ∧ w.heap.size ≤ g ∧ g < w'.heap.size ∧ Own w' w.heap.size (some ⟨g, 0, none⟩) c' (l ++ [77, 78]) ∧ Below w.heap.size w w'
theorem lent02_any (A : Option Addr) (c : Nat) (l : List UInt8) (w : World) (hr : Row w A (bs l)) (hc : l.length ≤ 140737488351232) :
    Calls Try.prog 20 #[.slice A l.length c] w (LentPost l w) := by
  go_enter Try.func20, Try.ntmps20
  go_wp2_with (at_builtin; refine wpl_app _ rfl (.tmp 3) (.tmp 4) rfl w.heap.size (some ⟨w.heap.size, 0, none⟩) 0 [] rfl (Own.made w #[] 0 (Nat.le_refl _) (by unfold maxLen; omega) rfl) A c l rfl (hr.alloc _) ?_ ?_ ?_)
  · simp; omega
  · simp
  intro A1 c1 w1 h1 hg1 _
  have hb1 : Below w.heap.size w w1 := ((Below.refl w.heap.size w).alloc (Nat.le_refl _) (.cells #[] 5)).grown hg1 (by simp) (by intro k hk; simp [Value.ownBlock] at hk; omega)
  have hs1 := hb1.size
  go_wp2_with (at_builtin; refine wpl_app _ rfl (.tmp 5) (.tmp 6) rfl w.heap.size A1 c1 l rfl (h1.alloc _) (some ⟨w1.heap.size, 0, none⟩) 2 [77, 78] rfl (row_lit w1 [77, 78] _ _ _ rfl) ?_ ?_ ?_)
  · simp; omega
  · simp; omega
  intro A2 c2 w2 h2 hg2 _
  obtain ⟨g, rfl, hge, hgl⟩ := h2.some_ (by simp)
  have hle := h2.le
  simp only [List.length_append, List.length_cons, List.length_nil] at hle
  have hb2 : Below w.heap.size w w2 := by
    refine Own.grown_below (h1.alloc (.cells #[.int .u8 77, .int .u8 78] 5)) rfl hg2 (hb1.alloc hs1 _) (Nat.le_refl _) (by simp; omega)
  have hlen : ((l.length : Nat) : Int) ≤ c2 := by omega
  go_wp2
  go_ret
  exact ⟨g, c2, rfl, by omega, hle.2, hge, hgl, h2, hb2⟩
theorem kept02_any (A A2 : Option Addr) (c c2 : Nat) (l : List UInt8) (w : World) (hr : Row w A (bs (l ++ [77, 78]))) (hc : l.length + 2 ≤ c) (hm : c ≤ maxLen) (hr2 : Row w A2 (bs l)) (hc2 : l.length ≤ c2) :
    Calls Try.prog 28 #[.slice A l.length c, .slice A2 l.length c2] w fun e w' => e = .returned (.bool true) ∧ w = w' := by
  unfold maxLen at hm
  obtain ⟨b, o, rfl, h77⟩ := hr.byte (k := l.length) (by simp)
  obtain ⟨b', o', e, h78⟩ := hr.byte (k := l.length + 1) (by simp)
  injection e with e
  injection e with e1 e2
  subst e1 e2
  have s1 := run_str w c (l := l) (by have := hr.take l.length; rwa [← bs_length l, bs_append, List.take_left] at this)
  have s2 := run_str w c2 hr2
  rw [List.getElem_append_right (Nat.le_refl _)] at h77
  rw [List.getElem_append_right (by omega)] at h78
  simp only [Nat.sub_self, List.getElem_cons_zero, Nat.add_sub_cancel_left, List.getElem_cons_succ] at h77 h78
  go_enter Try.func28, Try.ntmps28
  go_wp2
  go_ret
  exact ⟨rfl, rfl⟩
/-- A new reader, its bytes new memory. -/
def NewRO (l : List UInt8) (w : World) (e : Ending) (w' : World) : Prop := ∃ g A c, e = .returned (.pointer (some ⟨g, 0, none⟩)) ∧ w.heap.size ≤ g ∧ g < w'.heap.size ∧ Blk w' g 76 #[.slice A l.length c, .int .i64 0] ∧ Own w' w.heap.size A c l ∧ Below w.heap.size w w'
set_option maxRecDepth 100000 in
theorem newreaderO_any (A : Option Addr) (c : Nat) (l : List UInt8) (w : World) (hr : Row w A (bs l)) (hc : l.length ≤ 140737488355328) :
    Calls Try.prog 14 #[.slice A l.length c] w (NewRO l w) := by
  go_enter Try.func14, Try.ntmps14
  go_wp2_with fail
  refine (clone_any A c l w hr hc).mono ?_
  rintro e w1 ⟨A1, n1, c1, rfl, hn1, h1, b1⟩
  have hs := b1.size
  go_wp2
  go_ret
  obtain rfl := hn1.out
  exact ⟨w1.heap.size, A1, c1, rfl, by omega, by simp, Blk.new w1 _ _, h1.alloc _, b1.alloc hs _⟩
end Go.Proofs.Yteanmmdlgolljaa
