/-
  Whether a record may be: what the program and the document answer.
  Conditions: the lengths fit.
-/
import Derived.Test.YtaadfalklddhcaaItemM
import Derived.Test.YtaadfalklddhcaaCodeP1
namespace Go.Proofs.Ytaadfalklddhcaa
open Go.RowKit Go.Sort Go.Lib
set_option linter.unusedVariables false
theorem may_any (k : Int) (A A2 : Option Addr) (n c m c2 : Nat) (w : World) (hn : n ≤ 9223372036854775807) (hm : m ≤ 9223372036854775807) :
    Calls Try.prog 46 #[.agg #[.int .u64 k, .slice A n c, .slice A2 m c2]] w fun e w' => e = .returned (.int .i64 ((if n = 0 ∨ 4096 < n then 9 else if 1024 < m then 3 else 0 : Nat) : Int)) ∧ Below w.heap.size w w' := by
  have hb : Below w.heap.size w (w.alloc (.cells #[.int .u64 k, .slice A n c, .slice A2 m c2] 30)) := (Below.refl _ _).alloc (Nat.le_refl _) _
  by_cases h0 : n = 0
  · subst h0
    rw [if_pos (.inl rfl)]
    go_enter Try.func46, Try.ntmps46
    go_wp2
    go_ret
    exact ⟨rfl, hb⟩
  · have e0 : ((n : Int) == 0) = false := beq_eq_false_iff_ne.2 (by omega)
    have e0' : decide ((n : Int) < 1) = false := decide_eq_false (by omega)
    by_cases h1 : 4096 < n
    · have e1 : decide ((4096 : Int) < n) = true := decide_eq_true (by omega)
      rw [if_pos (.inr h1)]
      go_enter Try.func46, Try.ntmps46
      go_wp2
      go_ret
      exact ⟨rfl, hb⟩
    · have e1 : decide ((4096 : Int) < n) = false := decide_eq_false (by omega)
      rw [if_neg (by omega)]
      by_cases h2 : 1024 < m
      · rw [if_pos h2]
        go_enter Try.func46, Try.ntmps46
        go_wp2
        go_ret
        exact ⟨rfl, hb⟩
      · rw [if_neg h2]
        go_enter Try.func46, Try.ntmps46
        go_wp2
        go_ret
        exact ⟨rfl, hb⟩
theorem refmay_any (k : Int) (A A2 : Option Addr) (n c m c2 : Nat) (w : World) (hn : n ≤ 9223372036854775807) (hm : m ≤ 9223372036854775807) :
    Calls Try.prog 78 #[.agg #[.int .u64 k, .slice A n c, .slice A2 m c2]] w fun e w' => e = .returned (.int .i64 ((if n = 0 ∨ 4096 < n then 9 else if 1024 < m then 3 else 0 : Nat) : Int)) ∧ Below w.heap.size w w' := by
  have hb : Below w.heap.size w (w.alloc (.cells #[.int .u64 k, .slice A n c, .slice A2 m c2] 30)) := (Below.refl _ _).alloc (Nat.le_refl _) _
  by_cases h0 : n = 0
  · subst h0
    rw [if_pos (.inl rfl)]
    go_enter Try.func78, Try.ntmps78
    go_wp2
    go_ret
    exact ⟨rfl, hb⟩
  · have e0 : ((n : Int) == 0) = false := beq_eq_false_iff_ne.2 (by omega)
    have e0' : decide ((n : Int) < 1) = false := decide_eq_false (by omega)
    by_cases h1 : 4096 < n
    · have e1 : decide ((4096 : Int) < n) = true := decide_eq_true (by omega)
      rw [if_pos (.inr h1)]
      go_enter Try.func78, Try.ntmps78
      go_wp2
      go_ret
      exact ⟨rfl, hb⟩
    · have e1 : decide ((4096 : Int) < n) = false := decide_eq_false (by omega)
      rw [if_neg (by omega)]
      by_cases h2 : 1024 < m
      · rw [if_pos h2]
        go_enter Try.func78, Try.ntmps78
        go_wp2
        go_ret
        exact ⟨rfl, hb⟩
      · rw [if_neg h2]
        go_enter Try.func78, Try.ntmps78
        go_wp2
        go_ret
        exact ⟨rfl, hb⟩
end Go.Proofs.Ytaadfalklddhcaa
