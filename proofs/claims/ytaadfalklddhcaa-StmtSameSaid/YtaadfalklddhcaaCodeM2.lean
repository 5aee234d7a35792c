/-
  Plain words of the code: what was put is read again, and cut anywhere it is told; no program in sight.
  Conditions: none.
-/
import Derived.Test.YtaadfalklddhcaaCodeW10
namespace Go.Proofs.Ytaadfalklddhcaa
open Go.RowKit
set_option linter.unusedVariables false
namespace CodeM
theorem back_fixed {m : Nat} (hm : m < 65536) (z : List UInt8) : Rd.fixed 2 ⟨fx 2 m ++ z, 0⟩ = (m, ⟨z, 0⟩) := by
  have hl := fx_length 2 m
  rw [fixed_ok (by rw [List.length_append, hl]; omega), List.take_left' hl, List.drop_left' hl, le_fx, Nat.mod_eq_of_lt (by omega)]
theorem back_uv {n : Nat} (hn : n < 2 ^ 64) (z : List UInt8) : Rd.uv ⟨uv n ++ z, 0⟩ = (n, ⟨z, 0⟩) := by
  rw [uv_ok (cnt_uv n z hn), List.drop_left]
theorem back_text {s : List UInt8} (hs : s.length < 2 ^ 64) (z : List UInt8) : Rd.text (s.length : Int) ⟨tx s ++ z, 0⟩ = (s, ⟨z, 0⟩) := by
  unfold tx
  rw [List.append_assoc]
  have hc := cnt_uv s.length (s ++ z) hs
  rw [text_ok hc (by omega) (by simp)]
  congr 1
  · rw [List.drop_left, List.take_left]
  · rw [← List.drop_drop, List.drop_left, List.drop_left]
theorem cut_text {s : List UInt8} (hs : s.length < 2 ^ 64) (j : Nat) (hj : j < (tx s).length) : (Rd.text (s.length : Int) ⟨(tx s).take j, 0⟩).2.e = 4 := by
  unfold tx at hj ⊢
  rcases Nat.lt_or_ge j (uv s.length).length with h | h
  · rw [List.take_append_of_le_length (by omega), text_none (cnt_cut h)]
  · obtain ⟨i, rfl⟩ : ∃ i, j = (uv s.length).length + i := ⟨j - (uv s.length).length, by omega⟩
    rw [List.length_append] at hj
    rw [List.take_length_add_append]
    have hc := cnt_uv s.length (s.take i) hs
    rw [text_short hc (by omega) (by simp; omega)]
theorem uv_keeps {l : List UInt8} : (Rd.uv ⟨l, 4⟩).2 = ⟨l, 4⟩ := by rw [uv_err (by omega)]
theorem text_keeps {l : List UInt8} {k : Int} : (Rd.text k ⟨l, 4⟩).2 = ⟨l, 4⟩ := by rw [text_err (by omega)]
/-- What was put, cut anywhere, is told. -/
theorem cut_all {m n : Nat} {s : List UInt8} (hm : m < 65536) (hn : n < 2 ^ 64) (hs : s.length < 2 ^ 64) (j : Nat) (hj : j < (fx 2 m ++ uv n ++ tx s).length) :
    (Rd.text (s.length : Int) (Rd.uv (Rd.fixed 2 ⟨(fx 2 m ++ uv n ++ tx s).take j, 0⟩).2).2).2.e = 4 := by
  have hl := fx_length 2 m
  rw [List.append_assoc] at hj ⊢
  rcases Nat.lt_or_ge j 2 with h | h
  · rw [fixed_fail (by rw [List.length_take]; omega), uv_keeps, text_keeps]
  · obtain ⟨i, rfl⟩ : ∃ i, j = (fx 2 m).length + i := ⟨j - 2, by omega⟩
    rw [List.take_length_add_append, back_fixed hm]
    rw [List.length_append] at hj
    simp only
    rcases Nat.lt_or_ge i (uv n).length with h2 | h2
    · rw [List.take_append_of_le_length (by omega), uv_fail (cnt_cut h2), text_keeps]
    · obtain ⟨i, rfl⟩ : ∃ i', i = (uv n).length + i' := ⟨i - (uv n).length, by omega⟩
      rw [List.length_append] at hj
      rw [List.take_length_add_append, back_uv hn]
      exact cut_text hs i (by omega)
end CodeM
end Go.Proofs.Ytaadfalklddhcaa
