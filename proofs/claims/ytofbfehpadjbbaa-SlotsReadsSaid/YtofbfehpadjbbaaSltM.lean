/-
  Plain words of slotted bodies: which may be, what is left, what stands in a slot, other bytes in a slot; no program in sight.
  Conditions: none.
-/
import Derived.Test.YtofbfehpadjbbaaKit
namespace Go.Proofs.Ytofbfehpadjbbaa
open Go.RowKit
set_option linter.unusedVariables false
/-- A slotted body. -/
structure Slt where
  kind : Nat
  next : Nat
  full : List Bool
  data : List (List UInt8)
namespace SltM
def sum (l : List (List UInt8)) : Nat := (l.map List.length).sum
theorem sum_nil : sum [] = 0 := rfl
theorem sum_cons (a : List UInt8) (l : List (List UInt8)) : sum (a :: l) = a.length + sum l := by simp [sum]
theorem sum_append (a b : List (List UInt8)) : sum (a ++ b) = sum a + sum b := by simp [sum]
theorem sum_take {l : List (List UInt8)} {k : Nat} {x : List UInt8} (h : l[k]? = some x) : sum (l.take (k + 1)) = sum (l.take k) + x.length := by
  obtain ⟨h1, h2⟩ := List.getElem?_eq_some_iff.1 h
  rw [take_snoc l k h1, sum_append, h2, sum_cons, sum_nil, Nat.add_zero]
theorem sum_le {l : List (List UInt8)} : ∀ k, sum (l.take k) ≤ sum l := by
  intro k
  have h := sum_append (l.take k) (l.drop k)
  rw [List.take_append_drop] at h
  omega
theorem sum_get {l : List (List UInt8)} {k : Nat} {x : List UInt8} (h : l[k]? = some x) : x.length ≤ sum l := by
  have h1 := sum_take h
  have h2 := sum_le (l := l) (k + 1)
  omega
theorem sum_set {l : List (List UInt8)} {k : Nat} {x : List UInt8} (h : l[k]? = some x) (y : List UInt8) : sum (l.set k y) + x.length = sum l + y.length := by
  induction l generalizing k with
  | nil => simp at h
  | cons a t ih =>
    cases k with
    | zero =>
      simp at h; subst h
      rw [List.set_cons_zero, sum_cons, sum_cons]; omega
    | succ k =>
      have := ih (k := k) (by simpa using h)
      rw [List.set_cons_succ, sum_cons, sum_cons]; omega
def left (s : Slt) : Int := 494 - 2 * (s.data.length : Int) - (sum s.data : Int)
/-- It may be. -/
structure May (s : Slt) : Prop where
  len : s.full.length = s.data.length
  most : s.full.length ≤ 247
  last : ∀ k : Nat, s.full.length = k + 1 → s.full[k]? = some true
  non : ∀ i : Nat, s.full[i]? = some false → s.data[i]? = some []
  room : 0 ≤ left s
/-- The first slot that has nothing. -/
def idx : List Bool → Nat
  | [] => 0
  | true :: t => idx t + 1
  | false :: _ => 0
theorem idx_le (l : List Bool) : idx l ≤ l.length := by
  induction l with
  | nil => exact Nat.le_refl _
  | cons a t ih => cases a <;> simp [idx] <;> omega
theorem idx_false {l : List Bool} (h : idx l < l.length) : l[idx l]? = some false := by
  induction l with
  | nil => simp at h
  | cons a t ih =>
    cases a with
    | true =>
      have := ih (by simpa [idx] using h)
      simpa [idx] using this
    | false => simp [idx]
theorem idx_true {l : List Bool} : ∀ {k}, k < idx l → l[k]? = some true := by
  induction l with
  | nil => intro k h; simp [idx] at h
  | cons a t ih =>
    intro k h
    cases a with
    | true =>
      cases k with
      | zero => rfl
      | succ k => exact ih (by simp [idx] at h; omega)
    | false => simp [idx] at h
theorem idx_of {l : List Bool} {k : Nat} (h1 : ∀ j, j < k → l[j]? = some true) (h2 : l[k]? = some false ∨ k = l.length) : idx l = k := by
  have h3 := idx_le l
  rcases Nat.lt_trichotomy (idx l) k with h | h | h
  · have h4 : idx l < l.length := by
      rcases h2 with h2 | h2
      · have := (List.getElem?_eq_some_iff.1 h2).1; omega
      · omega
    have := idx_false h4
    rw [h1 _ h] at this
    cases this
  · exact h
  · have := idx_true h
    rcases h2 with h2 | h2
    · rw [h2] at this; cases this
    · omega
/-- With other bytes in a slot (the one behind the last, too). -/
def put (s : Slt) (at_ : Nat) (b : List UInt8) : Slt :=
  if at_ = s.full.length then { s with full := s.full ++ [true], data := s.data ++ [b] } else { s with full := s.full.set at_ true, data := s.data.set at_ b }
theorem left_put {s : Slt} (hl : s.full.length = s.data.length) {k : Nat} {x : List UInt8} (h : s.data[k]? = some x) (b : List UInt8) : left (put s k b) = left s + x.length - b.length := by
  have hk := (List.getElem?_eq_some_iff.1 h).1
  have h1 := sum_set h b
  unfold put left
  rw [if_neg (by omega)]
  simp only [List.length_set]
  omega
theorem put_full {s : Slt} {k : Nat} (hk : s.full[k]? = some true) (b : List UInt8) : put s k b = { s with data := s.data.set k b } := by
  have h1 := (List.getElem?_eq_some_iff.1 hk)
  have h2 := h1.1
  unfold put
  rw [if_neg (by omega)]
  congr 1
  refine List.ext_getElem? fun j => ?_
  by_cases e : j = k
  · subst e
    rw [List.getElem?_set_self h1.1, hk]
  · rw [List.getElem?_set_ne (fun q => e q.symm)]
theorem may_put {s : Slt} (h : May s) {k : Nat} (hk : s.full[k]? = some true) (b : List UInt8) : May (put s k b) ↔ 0 ≤ left (put s k b) := by
  refine ⟨fun h => h.room, fun hr => ?_⟩
  rw [put_full hk] at hr ⊢
  refine ⟨by simp [h.len], h.most, h.last, fun i hi => ?_, hr⟩
  show (s.data.set k b)[i]? = _
  rw [List.getElem?_set_ne (by intro e; subst e; rw [hk] at hi; cases hi)]
  exact h.non i hi
/-- Put back, it is as it was. -/
theorem put_back {s : Slt} {k : Nat} {x b : List UInt8} (hk : s.full[k]? = some true) (hx : s.data[k]? = some x) : put (put s k b) k x = s := by
  have h1 : (put s k b).full = s.full := by rw [put_full hk]
  rw [put_full (by rw [h1]; exact hk), put_full hk]
  show ({ s with data := (s.data.set k b).set k x } : Slt) = s
  have : (s.data.set k b).set k x = s.data := by
    rw [List.set_set]
    refine List.ext_getElem? fun j => ?_
    by_cases e : j = k
    · subst e
      rw [List.getElem?_set_self (List.getElem?_eq_some_iff.1 hx).1, hx]
    · rw [List.getElem?_set_ne (fun q => e q.symm)]
  rw [this]
end SltM
end Go.Proofs.Ytofbfehpadjbbaa
