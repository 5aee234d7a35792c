/-
  Plain words of versions: what bytes are read as; no program in sight.
  Conditions: none.
-/
import Derived.Test.YteanmmdlgolljaaItemM2
namespace Go.Proofs.Yteanmmdlgolljaa
open Go.RowKit
set_option linter.unusedVariables false
/-- A version. -/
structure Ver where
  txn : Nat
  dead : Bool
  gone : Bool
  prev : Nat
  x : Itm
namespace VerM
open CodeM
/-- What bytes are read as, the first byte read. -/
def body (f t p : Nat) (r : Rd) : Option Ver :=
  if f / 2 % 2 = 1 then
    (if (r.fixed 8).2.e ≠ 0 ∨ (r.fixed 8).2.l ≠ [] then none else some ⟨t, decide (f % 2 = 1), true, p, ⟨(r.fixed 8).1, [], []⟩⟩)
  else (ItemM.readR r.l).map fun x => ⟨t, decide (f % 2 = 1), false, p, x⟩
def read (b : List UInt8) : Option Ver :=
  if 3 < (Rd.fixed 1 ⟨b, 0⟩).1 ∨ (((Rd.fixed 1 ⟨b, 0⟩).2.fixed 8).2.fixed 8).2.e ≠ 0 then none
  else body (Rd.fixed 1 ⟨b, 0⟩).1 ((Rd.fixed 1 ⟨b, 0⟩).2.fixed 8).1 (((Rd.fixed 1 ⟨b, 0⟩).2.fixed 8).2.fixed 8).1 (((Rd.fixed 1 ⟨b, 0⟩).2.fixed 8).2.fixed 8).2
/-- The head's three numbers, where the bytes are enough. -/
theorem head_ok {b : List UInt8} (h : 17 ≤ b.length) : Rd.fixed 1 ⟨b, 0⟩ = (le (b.take 1), ⟨b.drop 1, 0⟩) ∧ Rd.fixed 8 ⟨b.drop 1, 0⟩ = (le ((b.drop 1).take 8), ⟨b.drop 9, 0⟩) ∧ Rd.fixed 8 ⟨b.drop 9, 0⟩ = (le ((b.drop 9).take 8), ⟨b.drop 17, 0⟩) := by
  refine ⟨fixed_ok (by omega), ?_, ?_⟩
  · rw [fixed_ok (by rw [List.length_drop]; omega), List.drop_drop]
  · rw [fixed_ok (by rw [List.length_drop]; omega), List.drop_drop]
theorem head_short {b : List UInt8} (h : b.length < 17) : (((Rd.fixed 1 ⟨b, 0⟩).2.fixed 8).2.fixed 8).2.e ≠ 0 := by
  intro h0
  obtain ⟨h1, _, h2⟩ := fixed_inv h0
  obtain ⟨h3, _, h4⟩ := fixed_inv h1
  obtain ⟨h5, _, h6⟩ := fixed_inv h3
  have e1 := congrArg List.length h2
  have e2 := congrArg List.length h4
  have e3 := congrArg List.length h6
  rw [List.length_append, fx_length] at e1 e2 e3
  have e4 : (⟨b, 0⟩ : Rd).l.length = b.length := rfl
  omega
theorem read_short {b : List UInt8} (h : b.length < 17) : read b = none := by
  unfold read
  rw [if_pos (.inr (head_short h))]
theorem le_one {b : List UInt8} {u : UInt8} (h : b[0]? = some u) : le (b.take 1) = u.toNat := by
  rw [List.take_add_one, h]
  show u.toNat + 256 * 0 = _
  omega
/-- The reading, where the bytes are enough. -/
theorem read_long {b : List UInt8} (h : 17 ≤ b.length) : read b = if 3 < le (b.take 1) then none else body (le (b.take 1)) (le ((b.drop 1).take 8)) (le ((b.drop 9).take 8)) ⟨b.drop 17, 0⟩ := by
  obtain ⟨h1, h2, h3⟩ := head_ok h
  unfold read
  rw [h1]
  simp only [h2, h3]
  simp only [ne_eq, not_true, or_false]
end VerM
end Go.Proofs.Yteanmmdlgolljaa
