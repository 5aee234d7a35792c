/-
  Whether a record may be: what the program and the document answer.
  Conditions: the lengths fit.
-/
import Derived.Test.YteanmmdlgolljaaItemM
import Derived.Test.YteanmmdlgolljaaCodeP1
namespace Go.Proofs.Yteanmmdlgolljaa
open Go.RowKit Go.Sort Go.Lib
set_option linter.unusedVariables false
theorem may_any (k : Int) (A A2 : Option Addr) (n c m c2 : Nat) (w : World) (hn : n ≤ 9223372036854775807) (hm : m ≤ 9223372036854775807) :
    Calls Try.prog 38 #[.agg #[.int .u64 k, .slice A n c, .slice A2 m c2]] w fun e w' => e = .returned (.int .i64 ((if n = 0 ∨ 4096 < n then 9 else if 1024 < m then 3 else 0 : Nat) : Int)) ∧ Below w.heap.size w w' := by
  have hb : Below w.heap.size w (w.alloc (.cells #[.int .u64 k, .slice A n c, .slice A2 m c2] 58)) := (Below.refl _ _).alloc (Nat.le_refl _) _
  by_cases h0 : n = 0
  · subst h0
    rw [if_pos (.inl rfl)]
    go_enter Try.func38, Try.ntmps38
    go_wp2
    go_ret
    exact ⟨rfl, hb⟩
  · have e0 : ((n : Int) == 0) = false := beq_eq_false_iff_ne.2 (by omega)
    have e0' : decide ((n : Int) < 1) = false := decide_eq_false (by omega)
    by_cases h1 : 4096 < n
    · have e1 : decide ((4096 : Int) < n) = true := decide_eq_true (by omega)
      rw [if_pos (.inr h1)]
      go_enter Try.func38, Try.ntmps38
      go_wp2
      go_ret
      exact ⟨rfl, hb⟩
    · have e1 : decide ((4096 : Int) < n) = false := decide_eq_false (by omega)
      rw [if_neg (by omega)]
      by_cases h2 : 1024 < m
      · rw [if_pos h2]
        go_enter Try.func38, Try.ntmps38
        go_wp2
        go_ret
        exact ⟨rfl, hb⟩
      · rw [if_neg h2]
        go_enter Try.func38, Try.ntmps38
        go_wp2
        go_ret
        exact ⟨rfl, hb⟩
theorem refmay_any (k : Int) (A A2 : Option Addr) (n c m c2 : Nat) (w : World) (hn : n ≤ 9223372036854775807) (hm : m ≤ 9223372036854775807) :
    Calls Try.prog 41 #[.agg #[.int .u64 k, .slice A n c, .slice A2 m c2]] w fun e w' => e = .returned (.int .i64 ((if n = 0 ∨ 4096 < n then 9 else if 1024 < m then 3 else 0 : Nat) : Int)) ∧ Below w.heap.size w w' := by
  have hb : Below w.heap.size w (w.alloc (.cells #[.int .u64 k, .slice A n c, .slice A2 m c2] 58)) := (Below.refl _ _).alloc (Nat.le_refl _) _
  by_cases h0 : n = 0
  · subst h0
    rw [if_pos (.inl rfl)]
    go_enter Try.func41, Try.ntmps41
    go_wp2
    go_ret
    exact ⟨rfl, hb⟩
  · have e0 : ((n : Int) == 0) = false := beq_eq_false_iff_ne.2 (by omega)
    have e0' : decide ((n : Int) < 1) = false := decide_eq_false (by omega)
    by_cases h1 : 4096 < n
    · have e1 : decide ((4096 : Int) < n) = true := decide_eq_true (by omega)
      rw [if_pos (.inr h1)]
      go_enter Try.func41, Try.ntmps41
      go_wp2
      go_ret
      exact ⟨rfl, hb⟩
    · have e1 : decide ((4096 : Int) < n) = false := decide_eq_false (by omega)
      rw [if_neg (by omega)]
      by_cases h2 : 1024 < m
      · rw [if_pos h2]
        go_enter Try.func41, Try.ntmps41
        go_wp2
        go_ret
        exact ⟨rfl, hb⟩
      · rw [if_neg h2]
        go_enter Try.func41, Try.ntmps41
        go_wp2
        go_ret
        exact ⟨rfl, hb⟩
theorem large05_any (k : Int) (A A2 : Option Addr) (n c m c2 : Nat) (w : World) (hn : n ≤ 9223372036854775807) (hm : m ≤ 9223372036854775807) :
    Calls Try.prog 35 #[.agg #[.int .u64 k, .slice A n c, .slice A2 m c2]] w fun e w' => e = .returned (.bool (decide (6000 < n ∨ 4000 < m))) ∧ Below w.heap.size w w' := by
  have hb : Below w.heap.size w (w.alloc (.cells #[.int .u64 k, .slice A n c, .slice A2 m c2] 58)) := (Below.refl _ _).alloc (Nat.le_refl _) _
  by_cases h0 : 6000 < n
  · rw [decide_eq_true (.inl h0)]
    have e0 : decide ((6000 : Int) < n) = true := decide_eq_true (by omega)
    go_enter Try.func35, Try.ntmps35
    go_wp2
    go_ret
    exact ⟨rfl, hb⟩
  · have e0 : decide ((6000 : Int) < n) = false := decide_eq_false (by omega)
    by_cases h1 : 4000 < m
    · rw [decide_eq_true (.inr h1)]
      have e1 : decide ((4000 : Int) < m) = true := decide_eq_true (by omega)
      go_enter Try.func35, Try.ntmps35
      go_wp2
      go_ret
      exact ⟨rfl, hb⟩
    · rw [decide_eq_false (by omega)]
      have e1 : decide ((4000 : Int) < m) = false := decide_eq_false (by omega)
      go_enter Try.func35, Try.ntmps35
      go_wp2
      go_ret
      exact ⟨rfl, hb⟩
end Go.Proofs.Yteanmmdlgolljaa
