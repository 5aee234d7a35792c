/-
  Plain words of frames: a frame's form, how many bytes the first one has; no program in sight.
  Conditions: none.
-/
import Derived.Test.YtgcognefggbpjaaCodeM
namespace Go.Proofs.Ytgcognefggbpjaa
open Go.RowKit
set_option linter.unusedVariables false
namespace FrmM
def form (p : List UInt8) : List UInt8 := CodeM.fx 4 p.length ++ p
/-- How many bytes the first frame has, and the error. -/
def sz (b : List UInt8) : Nat × Nat :=
  if b.length < 4 then (0, 7) else if 20000 < CodeM.le (b.take 4) then (0, 3) else if b.length - 4 < CodeM.le (b.take 4) then (0, 7) else (CodeM.le (b.take 4), 0)
theorem form_length (p : List UInt8) : (form p).length = p.length + 4 := by unfold form; rw [List.length_append, CodeM.fx_length]; omega
theorem sz_form {p : List UInt8} (h : p.length ≤ 20000) (z : List UInt8) : sz (form p ++ z) = (p.length, 0) := by
  have h1 : (form p ++ z).take 4 = CodeM.fx 4 p.length := by
    unfold form
    rw [List.append_assoc]
    exact List.take_left' (CodeM.fx_length 4 _)
  have h2 : CodeM.le (CodeM.fx 4 p.length) = p.length := by
    rw [CodeM.le_fx]; exact Nat.mod_eq_of_lt (by omega)
  have h3 : (form p ++ z).length = p.length + 4 + z.length := by rw [List.length_append, form_length]
  unfold sz
  rw [h1, h2, h3, if_neg (by omega), if_neg (by omega), if_neg (by omega)]
/-- What is known of the first frame. -/
theorem sz_cases (b : List UInt8) : (sz b).2 = 7 ∨ (sz b).2 = 3 ∨ ((sz b).2 = 0 ∧ (sz b).1 ≤ 20000 ∧ 4 + (sz b).1 ≤ b.length) := by
  unfold sz
  split
  · exact .inl rfl
  · split
    · exact .inr (.inl rfl)
    · split
      · exact .inl rfl
      · exact .inr (.inr ⟨rfl, by dsimp only; omega, by dsimp only; omega⟩)
end FrmM
theorem le4 (a b c d : UInt8) : CodeM.le [a, b, c, d] = a.toNat + 256 * (b.toNat + 256 * (c.toNat + 256 * (d.toNat + 256 * 0))) := rfl
/-- The four bytes, put together by shifts. -/
theorem or4 (a b c d : Nat) (ha : a < 256) (hb : b < 256) (hc : c < 256) (hd : d < 256) :
    ((a ||| b <<< 8) ||| c <<< 16) ||| d <<< 24 = a + 256 * (b + 256 * (c + 256 * d)) := by
  have h1 : a ||| b <<< 8 = a + 256 * b := by
    rw [Nat.or_comm, ← Nat.shiftLeft_add_eq_or_of_lt (by omega : a < 2 ^ 8), Nat.shiftLeft_eq]; omega
  have h2 : (a + 256 * b) ||| c <<< 16 = a + 256 * b + 65536 * c := by
    rw [Nat.or_comm, ← Nat.shiftLeft_add_eq_or_of_lt (by omega : a + 256 * b < 2 ^ 16), Nat.shiftLeft_eq]; omega
  have h3 : (a + 256 * b + 65536 * c) ||| d <<< 24 = a + 256 * b + 65536 * c + 16777216 * d := by
    rw [Nat.or_comm, ← Nat.shiftLeft_add_eq_or_of_lt (by omega : a + 256 * b + 65536 * c < 2 ^ 24), Nat.shiftLeft_eq]; omega
  rw [h1, h2, h3]; omega
end Go.Proofs.Ytgcognefggbpjaa
