/-
  Plain words of the looks: what a look sees.
  Conditions: none.
-/
import Derived.Test.YtplknfbdonenmaaKit
namespace Go.Proofs.Ytplknfbdonenmaa
open Go.RowKit
set_option linter.unusedVariables false
theorem ret_bool {a b : Bool} (h : a = b) : Ending.returned (.bool a) = .returned (.bool b) := by rw [h]
structure Stp where
  txn : Nat
  at_ : Nat
structure Hed where
  txn : Nat
  dead : Bool
  gone : Bool
structure Lok where
  self : Nat
  start : Nat
  base : Nat
  done : List Stp
def Stp.cells (s : Stp) : List Value := [.int .u64 (s.txn : Int), .int .u64 (s.at_ : Int)]
def Hed.cells (h : Hed) : List Value := [.int .u64 (h.txn : Int), .bool h.dead, .bool h.gone]
/-- The number of the first that holds, or -1. -/
def ix {α : Type} (p : α → Bool) (l : List α) : Int := match l.findIdx? p with | some i => (i : Int) | none => -1
section
variable {α : Type} {p : α → Bool} {l : List α}
theorem ix_hit {k : Nat} (hk : k < l.length) (h : p l[k] = true) (hall : ∀ j : Nat, j < k → (l[j]?.map p) = some false) : ix p l = (k : Int) := by
  unfold ix
  have : l.findIdx? p = some k := by
    rw [List.findIdx?_eq_some_iff_getElem]
    refine ⟨hk, h, fun j hj => ?_⟩
    have := hall j hj
    rw [List.getElem?_eq_getElem (by omega)] at this
    simpa using this
  rw [this]
theorem ix_miss (hall : ∀ j : Nat, j < l.length → (l[j]?.map p) = some false) : ix p l = -1 := by
  unfold ix
  have : l.findIdx? p = none := by
    rw [List.findIdx?_eq_none_iff]
    intro x hx
    obtain ⟨j, hj, rfl⟩ := List.getElem_of_mem hx
    have := hall j hj
    rw [List.getElem?_eq_getElem hj] at this
    simpa using this
  rw [this]
theorem ix_some {k : Nat} (h : ix p l = (k : Int)) : ∃ hk : k < l.length, p l[k] = true ∧ ∀ j : Nat, (hj : j < k) → p l[j] = false := by
  unfold ix at h
  cases e : l.findIdx? p with
  | none => rw [e] at h; simp only at h; omega
  | some i =>
    rw [e] at h; simp only at h
    have hik : i = k := by omega
    rw [hik, List.findIdx?_eq_some_iff_getElem] at e
    obtain ⟨hk, h1, h2⟩ := e
    exact ⟨hk, h1, fun j hj => by simpa using h2 j hj⟩
theorem ix_neg (h : ix p l < 0) : ∀ x ∈ l, p x = false := by
  unfold ix at h
  cases e : l.findIdx? p with
  | none => rw [List.findIdx?_eq_none_iff] at e; exact e
  | some i => rw [e] at h; simp only at h; omega
theorem ix_range (p : α → Bool) (l : List α) : -1 ≤ ix p l ∧ ix p l < l.length := by
  unfold ix
  cases e : l.findIdx? p with
  | none => simp only; omega
  | some i =>
    simp only
    rw [List.findIdx?_eq_some_iff_getElem] at e
    obtain ⟨h, _⟩ := e
    omega
end
def isTxn (t : Nat) (s : Stp) : Bool := ((s.txn : Int) == (t : Int))
/-- When a transaction was committed, if the stamps say so. -/
def doneAt (l : List Stp) (t : Nat) : Option Nat := (l.find? (isTxn t)).map (·.at_)
def seesB (k : Lok) (h : Hed) : Bool :=
  !h.dead && ((k.self != 0 && h.txn == k.self) || decide (h.txn < k.base) || (match doneAt k.done h.txn with | some a => decide (a ≤ k.start) | none => false))
def dAt (l : List Stp) (t : Nat) : Nat := (doneAt l t).getD 0
def dOk (l : List Stp) (t : Nat) : Bool := (doneAt l t).isSome
theorem seesB_live (k : Lok) (tx : Nat) (gg : Bool) : seesB k ⟨tx, false, gg⟩ = ((k.self != 0 && tx == k.self) || (decide (tx < k.base) || (dOk k.done tx && decide (dAt k.done tx ≤ k.start)))) := by
  unfold seesB dOk dAt
  cases doneAt k.done tx <;> simp [Bool.or_assoc]
def sees (k : Lok) (chain : List Hed) : Int := ix (seesB k) chain
theorem doneAt_hit {l : List Stp} {t k : Nat} (h : ix (isTxn t) l = (k : Int)) : ∃ s, l[k]? = some s ∧ doneAt l t = some s.at_ := by
  obtain ⟨hk, h1, h2⟩ := ix_some h
  refine ⟨l[k], List.getElem?_eq_getElem hk, ?_⟩
  unfold doneAt
  have : l.find? (isTxn t) = some l[k] := by
    rw [List.find?_eq_some_iff_getElem]
    exact ⟨h1, k, hk, rfl, fun j hj => by simpa using h2 j hj⟩
  rw [this]; rfl
theorem doneAt_miss {l : List Stp} {t : Nat} (h : ix (isTxn t) l < 0) : doneAt l t = none := by
  unfold doneAt
  have : l.find? (isTxn t) = none := by
    rw [List.find?_eq_none]
    intro x hx
    have := ix_neg h x hx
    simpa using this
  rw [this]; rfl
/-! ### Rows of structs -/
theorem stps_length (l : List Stp) : (l.flatMap Stp.cells).length = 2 * l.length := by
  induction l with
  | nil => rfl
  | cons a l ih => rw [List.flatMap_cons, List.length_append, ih, List.length_cons]; simp [Stp.cells]; omega
theorem heds_length (l : List Hed) : (l.flatMap Hed.cells).length = 3 * l.length := by
  induction l with
  | nil => rfl
  | cons a l ih => rw [List.flatMap_cons, List.length_append, ih, List.length_cons]; simp [Hed.cells]; omega
theorem stps_get : ∀ (l : List Stp) (k : Nat) (s : Stp), l[k]? = some s → (l.flatMap Stp.cells)[k * 2]? = some (.int .u64 (s.txn : Int)) ∧ (l.flatMap Stp.cells)[k * 2 + 1]? = some (.int .u64 (s.at_ : Int))
  | a :: l, 0, s, h => by simp at h; subst h; simp [Stp.cells]
  | a :: l, k + 1, s, h => by
    have ih := stps_get l k s (by simpa using h)
    have e : (a :: l).flatMap Stp.cells = .int .u64 (a.txn : Int) :: .int .u64 (a.at_ : Int) :: l.flatMap Stp.cells := rfl
    rw [e, show (k + 1) * 2 = k * 2 + 1 + 1 by omega]
    simpa using ih
  | [], _, _, h => by simp at h
theorem heds_get : ∀ (l : List Hed) (k : Nat) (s : Hed), l[k]? = some s → (l.flatMap Hed.cells)[k * 3]? = some (.int .u64 (s.txn : Int)) ∧ (l.flatMap Hed.cells)[k * 3 + 1]? = some (.bool s.dead) ∧ (l.flatMap Hed.cells)[k * 3 + 2]? = some (.bool s.gone)
  | a :: l, 0, s, h => by simp at h; subst h; simp [Hed.cells]
  | a :: l, k + 1, s, h => by
    have ih := heds_get l k s (by simpa using h)
    have e : (a :: l).flatMap Hed.cells = .int .u64 (a.txn : Int) :: .bool a.dead :: .bool a.gone :: l.flatMap Hed.cells := rfl
    rw [e, show (k + 1) * 3 = k * 3 + 1 + 1 + 1 by omega, show k * 3 + 1 + 1 + 1 + 1 = k * 3 + 1 + 1 + 1 + 1 from rfl]
    simpa using ih
  | [], _, _, h => by simp at h
theorem row_stp {w : World} {A : Option Addr} {l : List Stp} (h : Row w A (l.flatMap Stp.cells)) {k : Nat} {s : Stp} (hs : l[k]? = some s) :
    ∃ b o, A = some ⟨b, o, none⟩ ∧ w.cell? ⟨b, o + k * 2, none⟩ = some (.int .u64 (s.txn : Int)) ∧ w.cell? ⟨b, o + k * 2 + 1, none⟩ = some (.int .u64 (s.at_ : Int)) := by
  obtain ⟨g1, g2⟩ := stps_get l k s hs
  rcases h with h | ⟨b, o, e, hc⟩
  · rw [h] at g1; simp at g1
  · exact ⟨b, o, e, hc _ _ g1, by rw [Nat.add_assoc]; exact hc _ _ g2⟩
theorem row_hed {w : World} {A : Option Addr} {l : List Hed} (h : Row w A (l.flatMap Hed.cells)) {k : Nat} {s : Hed} (hs : l[k]? = some s) :
    ∃ b o, A = some ⟨b, o, none⟩ ∧ w.cell? ⟨b, o + k * 3, none⟩ = some (.int .u64 (s.txn : Int)) ∧ w.cell? ⟨b, o + k * 3 + 1, none⟩ = some (.bool s.dead) ∧ w.cell? ⟨b, o + k * 3 + 2, none⟩ = some (.bool s.gone) := by
  obtain ⟨g1, g2, g3⟩ := heds_get l k s hs
  rcases h with h | ⟨b, o, e, hc⟩
  · rw [h] at g1; simp at g1
  · exact ⟨b, o, e, hc _ _ g1, by rw [Nat.add_assoc]; exact hc _ _ g2, by rw [Nat.add_assoc]; exact hc _ _ g3⟩
end Go.Proofs.Ytplknfbdonenmaa
