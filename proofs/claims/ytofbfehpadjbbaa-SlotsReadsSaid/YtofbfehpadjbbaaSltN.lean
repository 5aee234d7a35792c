/-
  What stands in a slot taken out: plain words.
  Conditions: none.
-/
import Derived.Test.YtofbfehpadjbbaaSltM
namespace Go.Proofs.Ytofbfehpadjbbaa
open Go.RowKit
set_option linter.unusedVariables false
namespace SltM
/-- How many slots are left when those behind the last that has something are cut. -/
def trim (l : List Bool) : Nat → Nat
  | 0 => 0
  | n + 1 => if l[n]? = some true then n + 1 else trim l n
theorem trim_le (l : List Bool) : ∀ n, trim l n ≤ n
  | 0 => Nat.le_refl _
  | n + 1 => by
    unfold trim
    split
    · exact Nat.le_refl _
    · have := trim_le l n; omega
def del (s : Slt) (k : Nat) : Slt := { s with full := (s.full.set k false).take (trim (s.full.set k false) s.full.length), data := (s.data.set k []).take (trim (s.full.set k false) s.full.length) }
theorem trim_full {s : Slt} (h : May s) : trim s.full s.full.length = s.full.length := by
  match hn : s.full.length with
  | 0 => rfl
  | n + 1 =>
    unfold trim
    rw [if_pos (h.last n hn)]
theorem trim_take {l m : List Bool} : ∀ n, (∀ j, j < n → l[j]? = m[j]?) → trim l n = trim m n
  | 0, _ => rfl
  | n + 1, h => by
    unfold trim
    rw [h n (by omega), trim_take n (fun j hj => h j (by omega))]
/-- What was put into the first slot that has nothing, taken out: it is as it was. -/
theorem del_put {s : Slt} (h : May s) (b : List UInt8) : del (put s (idx s.full) b) (idx s.full) = s := by
  have hle := idx_le s.full
  by_cases e : idx s.full = s.full.length
  · have h1 : (put s (idx s.full) b).full = s.full ++ [true] := by unfold put; rw [if_pos e]
    have h2 : (put s (idx s.full) b).data = s.data ++ [b] := by unfold put; rw [if_pos e]
    have h3 : (s.full ++ [true]).set (idx s.full) false = s.full ++ [false] := by rw [e, List.set_append_right _ _ (Nat.le_refl _), Nat.sub_self]; rfl
    have h4 : (s.data ++ [b]).set (idx s.full) [] = s.data ++ [[]] := by rw [e, h.len, List.set_append_right _ _ (Nat.le_refl _), Nat.sub_self]; rfl
    have h5 : trim (s.full ++ [false]) (s.full.length + 1) = s.full.length := by
      unfold trim
      rw [if_neg (by rw [List.getElem?_append_right (Nat.le_refl _), Nat.sub_self]; simp), trim_take (m := s.full) _ (fun j hj => List.getElem?_append_left hj), trim_full h]
    unfold del
    rw [h1, h2, h3, h4, List.length_append, List.length_singleton, h5, List.take_left' rfl, List.take_left' h.len.symm]
    unfold put
    rw [if_pos e]
  · have hlt : idx s.full < s.full.length := by omega
    have hf := idx_false hlt
    have hd := h.non _ hf
    have h1 : (put s (idx s.full) b).full = s.full.set (idx s.full) true := by unfold put; rw [if_neg e]
    have h2 : (put s (idx s.full) b).data = s.data.set (idx s.full) b := by unfold put; rw [if_neg e]
    have h3 : (s.full.set (idx s.full) true).set (idx s.full) false = s.full := by
      rw [List.set_set]
      refine List.ext_getElem? fun j => ?_
      by_cases e2 : j = idx s.full
      · rw [e2, List.getElem?_set_self hlt, hf]
      · rw [List.getElem?_set_ne (fun q => e2 q.symm)]
    have h4 : (s.data.set (idx s.full) b).set (idx s.full) [] = s.data := by
      rw [List.set_set]
      refine List.ext_getElem? fun j => ?_
      by_cases e2 : j = idx s.full
      · rw [e2, List.getElem?_set_self (List.getElem?_eq_some_iff.1 hd).1, hd]
      · rw [List.getElem?_set_ne (fun q => e2 q.symm)]
    unfold del
    rw [h1, h2, h3, h4, List.length_set, trim_full h, List.take_length, h.len, List.take_length]
    unfold put
    rw [if_neg e]
/-- What stands in the slots of a body with bytes put into the first slot that has nothing. -/
theorem put_at {s : Slt} (h : May s) (b : List UInt8) : (put s (idx s.full) b).full[idx s.full]? = some true ∧ (put s (idx s.full) b).data[idx s.full]? = some b := by
  have hle := idx_le s.full
  unfold put
  split
  · rename_i e
    refine ⟨?_, ?_⟩
    · show (s.full ++ [true])[idx s.full]? = _
      rw [e, List.getElem?_append_right (Nat.le_refl _), Nat.sub_self]; rfl
    · show (s.data ++ [b])[idx s.full]? = _
      rw [e, h.len, List.getElem?_append_right (Nat.le_refl _), Nat.sub_self]; rfl
  · rename_i e
    exact ⟨List.getElem?_set_self (by omega), List.getElem?_set_self (by rw [← h.len]; omega)⟩
theorem put_ne {s : Slt} (h : May s) (b : List UInt8) {j : Nat} (hj : j ≠ idx s.full) (hl : j < (put s (idx s.full) b).full.length) : (put s (idx s.full) b).full[j]? = s.full[j]? ∧ (put s (idx s.full) b).data[j]? = s.data[j]? ∧ j < s.full.length := by
  have hle := idx_le s.full
  unfold put at hl ⊢
  split
  · rename_i e
    rw [if_pos e] at hl
    have hl' : j < (s.full ++ [true]).length := hl
    rw [List.length_append, List.length_singleton] at hl'
    have hjl : j < s.full.length := by omega
    exact ⟨List.getElem?_append_left hjl, List.getElem?_append_left (by rw [← h.len]; exact hjl), hjl⟩
  · rename_i e
    rw [if_neg e] at hl
    have hl' : j < (s.full.set (idx s.full) true).length := hl
    rw [List.length_set] at hl'
    exact ⟨List.getElem?_set_ne (fun q => hj q.symm), List.getElem?_set_ne (fun q => hj q.symm), hl'⟩
theorem left_ins {s : Slt} (h : May s) (b : List UInt8) : left (put s (idx s.full) b) = left s - b.length - (if idx s.full = s.full.length then 2 else 0) := by
  have hle := idx_le s.full
  by_cases e : idx s.full = s.full.length
  · rw [if_pos e]
    unfold put left
    rw [if_pos e]
    simp only [List.length_append, List.length_singleton, sum_append, sum_cons, sum_nil]
    omega
  · rw [if_neg e]
    have hd := h.non _ (idx_false (by omega))
    have := left_put h.len hd b
    rw [this]
    simp
theorem may_ins {s : Slt} (h : May s) (b : List UInt8) (hn : ¬ May (put s (idx s.full) b)) : left s < (b.length : Int) + 4 := by
  have hle := idx_le s.full
  have hli := left_ins h b
  have hr : ¬ 0 ≤ left (put s (idx s.full) b) ∨ s.full.length = 247 := by
    by_cases q : s.full.length = 247
    · exact .inr q
    · refine .inl fun hr => hn ?_
      have hp := put_at h b
      refine ⟨?_, ?_, fun k hk => ?_, fun i hi => ?_, hr⟩
      · unfold put
        split
        · show (s.full ++ [true]).length = (s.data ++ [b]).length
          rw [List.length_append, List.length_append, h.len]; rfl
        · show (s.full.set _ true).length = (s.data.set _ b).length
          rw [List.length_set, List.length_set, h.len]
      · have := h.most
        unfold put
        split
        · show (s.full ++ [true]).length ≤ 247
          rw [List.length_append, List.length_singleton]; omega
        · show (s.full.set _ true).length ≤ 247
          rw [List.length_set]; omega
      · by_cases e : k = idx s.full
        · rw [e]; exact hp.1
        · have h3 := put_ne h b e (by omega)
          rw [h3.1]
          refine h.last k ?_
          by_cases e2 : idx s.full = s.full.length
          · unfold put at hk
            rw [if_pos e2] at hk
            have hk' : (s.full ++ [true]).length = k + 1 := hk
            rw [List.length_append, List.length_singleton] at hk'
            omega
          · unfold put at hk
            rw [if_neg e2] at hk
            have hk' : (s.full.set (idx s.full) true).length = k + 1 := hk
            rw [List.length_set] at hk'
            exact hk'
      · by_cases e : i = idx s.full
        · rw [e, hp.1] at hi; cases hi
        · have h3 := put_ne h b e (List.getElem?_eq_some_iff.1 hi).1
          rw [h3.1] at hi
          rw [h3.2.1]
          exact h.non i hi
  rcases hr with hr | hr
  · split at hli <;> omega
  · have : left s = 494 - 2 * (s.data.length : Int) - (sum s.data : Int) := rfl
    rw [← h.len, hr] at this
    omega
end SltM
end Go.Proofs.Ytofbfehpadjbbaa
