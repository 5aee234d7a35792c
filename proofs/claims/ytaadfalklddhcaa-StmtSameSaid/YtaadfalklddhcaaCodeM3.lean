/-
  What a reader has read, put again, is what it has read; what was put is read again; no program in sight.
  Conditions: none.
-/
import Derived.Test.YtaadfalklddhcaaCodeM2
namespace Go.Proofs.Ytaadfalklddhcaa
open Go.RowKit
set_option linter.unusedVariables false
namespace CodeM
theorem back_fx {k m : Nat} (hm : m < 256 ^ k) (z : List UInt8) : Rd.fixed k ⟨fx k m ++ z, 0⟩ = (m, ⟨z, 0⟩) := by
  rw [fixed_ok (by rw [List.length_append, fx_length]; omega)]
  have e1 : (fx k m ++ z).take k = fx k m := by
    have := List.take_left' (l₂ := z) (fx_length k m); exact this
  have e2 : (fx k m ++ z).drop k = z := by
    have := List.drop_left' (l₂ := z) (fx_length k m); exact this
  rw [e1, e2, le_fx, Nat.mod_eq_of_lt hm]
theorem back_tx {most : Int} {s : List UInt8} (hs : (s.length : Int) ≤ most) (h64 : s.length < 2 ^ 64) (z : List UInt8) : Rd.text most ⟨tx s ++ z, 0⟩ = (s, ⟨z, 0⟩) := by
  have hc : cnt (tx s ++ z) = some (s.length, (uv s.length).length) := by
    unfold tx
    rw [List.append_assoc, cnt_uv _ _ h64]
  have hl : (tx s ++ z).length = (uv s.length).length + s.length + z.length := by unfold tx; simp; omega
  unfold Rd.text
  simp only [ne_eq, not_true, if_false, hc]
  rw [if_neg (by omega), if_neg (by omega)]
  have e1 : (tx s ++ z).drop (uv s.length).length = s ++ z := by
    unfold tx; rw [List.append_assoc, List.drop_left]
  have e2 : (tx s ++ z).drop ((uv s.length).length + s.length) = z := by
    rw [← List.drop_drop, e1, List.drop_left]
  rw [e1, e2, List.take_left]
theorem fixed_inv {r : Rd} {k : Nat} (h : (r.fixed k).2.e = 0) : r.e = 0 ∧ (r.fixed k).1 < 256 ^ k ∧ r.l = fx k (r.fixed k).1 ++ (r.fixed k).2.l := by
  obtain ⟨l, e⟩ := r
  by_cases he : e = 0
  · subst he
    by_cases hl : l.length < k
    · rw [fixed_fail hl] at h; cases h
    · rw [fixed_ok hl]
      refine ⟨rfl, le_take_lt l k (by omega), ?_⟩
      have : fx k (le (l.take k)) = l.take k := by
        have := fx_le (l.take k)
        rwa [List.length_take, Nat.min_eq_left (by omega)] at this
      show l = fx k (le (l.take k)) ++ l.drop k
      rw [this, List.take_append_drop]
  · rw [fixed_err he] at h; exact absurd h he
theorem uv_inv {r : Rd} (h : (r.uv).2.e = 0) : r.e = 0 ∧ (r.uv).1 < 2 ^ 64 ∧ r.l = uv (r.uv).1 ++ (r.uv).2.l := by
  obtain ⟨l, e⟩ := r
  by_cases he : e = 0
  · subst he
    cases hc : cnt l with
    | none => rw [uv_fail hc] at h; cases h
    | some q =>
      obtain ⟨n, k⟩ := q
      obtain ⟨h1, _, h2, _, h3⟩ := cnt_some hc
      rw [uv_ok hc]
      refine ⟨rfl, h1, ?_⟩
      show l = uv n ++ l.drop k
      rw [← h3, List.take_append_drop]
  · rw [uv_err he] at h; exact absurd h he
theorem text_inv {r : Rd} {most : Int} (h : (r.text most).2.e = 0) : r.e = 0 ∧ ((r.text most).1.length : Int) ≤ max 0 most ∧ (r.text most).1.length < 2 ^ 64 ∧ r.l = tx (r.text most).1 ++ (r.text most).2.l := by
  obtain ⟨l, e⟩ := r
  by_cases he : e = 0
  · subst he
    cases hc : cnt l with
    | none => simp [Rd.text, hc] at h
    | some q =>
      obtain ⟨n, k⟩ := q
      obtain ⟨h1, _, h2, _, h3⟩ := cnt_some hc
      by_cases hm : max 0 most < (n : Int)
      · unfold Rd.text at h
        simp only [ne_eq, not_true, if_false, hc] at h
        rw [if_pos hm] at h; cases h
      · by_cases hn : l.length - k < n
        · unfold Rd.text at h
          simp only [ne_eq, not_true, if_false, hc] at h
          rw [if_neg hm, if_pos hn] at h; cases h
        · have e1 : Rd.text most ⟨l, 0⟩ = ((l.drop k).take n, ⟨l.drop (k + n), 0⟩) := by
            unfold Rd.text
            simp only [ne_eq, not_true, if_false, hc]
            rw [if_neg hm, if_neg hn]
          have e2 : ((l.drop k).take n).length = n := by rw [List.length_take, List.length_drop]; omega
          rw [e1]
          refine ⟨rfl, by show (((l.drop k).take n).length : Int) ≤ _; rw [e2]; omega, by show ((l.drop k).take n).length < _; rw [e2]; exact h1, ?_⟩
          show l = tx ((l.drop k).take n) ++ l.drop (k + n)
          unfold tx
          rw [e2, ← h3, List.append_assoc, ← List.drop_drop, List.take_append_drop, List.take_append_drop]
  · rw [text_err he] at h; exact absurd h he
theorem fixed_stuck {r : Rd} {k : Nat} (h : r.e ≠ 0) : r.fixed k = (0, r) := by simp [Rd.fixed, h]
theorem uv_stuck {r : Rd} (h : r.e ≠ 0) : r.uv = (0, r) := by simp [Rd.uv, h]
theorem text_stuck {r : Rd} {most : Int} (h : r.e ≠ 0) : r.text most = ([], r) := by simp [Rd.text, h]
end CodeM
end Go.Proofs.Ytaadfalklddhcaa
