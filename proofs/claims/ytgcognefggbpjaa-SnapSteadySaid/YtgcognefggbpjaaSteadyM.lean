/-
  A look sees the same where newer versions and later stamps have come; no program in sight.
  Conditions: none.
-/
import Derived.Test.YtgcognefggbpjaaSnapM
namespace Go.Proofs.Ytgcognefggbpjaa
open Go.RowKit
set_option linter.unusedVariables false
/-- The stamps that are kept: those above the look's start. -/
def lateB (k : Lok) (s : Stp) : Bool := decide (k.start < s.at_)
/-- Does a stamp's list have a transaction? -/
def inB (l : List Stp) (t : Nat) : Bool := l.any fun s => s.txn == t
/-- The versions that are kept. -/
def newB (k : Lok) (h : Hed) : Bool := h.dead || (h.txn != k.self && decide (k.base ≤ h.txn) && !inB k.done h.txn)
def later (k : Lok) (more : List Stp) : Lok := ⟨k.self, k.start, k.base, k.done ++ more.filter (lateB k)⟩
theorem isTxn_eq (t : Nat) (s : Stp) : isTxn t s = (s.txn == t) := by
  unfold isTxn
  by_cases h : s.txn = t
  · subst h; simp
  · rw [beq_eq_false_iff_ne.2 h]; exact beq_eq_false_iff_ne.2 (by omega)
theorem find_late {k : Lok} {more : List Stp} {t : Nat} {s : Stp} (h : (more.filter (lateB k)).find? (isTxn t) = some s) : k.start < s.at_ := by
  have := List.mem_of_find?_eq_some h
  rw [List.mem_filter] at this
  simpa [lateB] using this.2
/-- What the look knows of a transaction stays. -/
theorem seen_later (k : Lok) (more : List Stp) (t : Nat) : (match doneAt (later k more).done t with | some a => decide (a ≤ k.start) | none => false) = (match doneAt k.done t with | some a => decide (a ≤ k.start) | none => false) := by
  unfold doneAt later
  dsimp only
  rw [List.find?_append]
  cases h : k.done.find? (isTxn t) with
  | some s => simp
  | none =>
    cases h2 : (more.filter (lateB k)).find? (isTxn t) with
    | none => simp
    | some s =>
      have := find_late h2
      simp; omega
theorem sees_later (k : Lok) (more : List Stp) (h : Hed) : seesB (later k more) h = seesB k h := by
  have := seen_later k more h.txn
  unfold seesB
  rw [show (later k more).self = k.self from rfl, show (later k more).base = k.base from rfl, show (later k more).start = k.start from rfl]
  congr 2
theorem new_unseen {k : Lok} {h : Hed} (hn : newB k h = true) : seesB k h = false := by
  unfold newB at hn
  unfold seesB
  cases hd : h.dead with
  | true => rfl
  | false =>
    rw [hd] at hn
    simp only [Bool.false_or, Bool.and_eq_true, bne_iff_ne, ne_eq, decide_eq_true_eq, Bool.not_eq_true'] at hn
    obtain ⟨⟨h1, h2⟩, h3⟩ := hn
    have e1 : (h.txn == k.self) = false := beq_eq_false_iff_ne.2 h1
    have e2 : decide (h.txn < k.base) = false := decide_eq_false (by omega)
    have e3 : doneAt k.done h.txn = none := by
      unfold doneAt
      have : k.done.find? (isTxn h.txn) = none := by
        rw [List.find?_eq_none]
        intro s hs hq
        rw [isTxn_eq] at hq
        unfold inB at h3
        rw [List.any_eq_false] at h3
        exact h3 s hs hq
      rw [this]; rfl
    rw [e1, e2, e3]; simp
theorem ix_false_append {α : Type} {p : α → Bool} (l m : List α) (h : ∀ x ∈ l, p x = false) : ix p (l ++ m) = if ix p m < 0 then -1 else ix p m + l.length := by
  unfold ix
  have e : (l ++ m).findIdx? p = (m.findIdx? p).map (· + l.length) := by
    rw [List.findIdx?_append]
    have : l.findIdx? p = none := by rw [List.findIdx?_eq_none_iff]; exact h
    rw [this]; simp
  rw [e]
  cases m.findIdx? p with
  | none => simp
  | some i => simp; omega
/-- The law. -/
theorem steady (k : Lok) (more : List Stp) (chain newer : List Hed) :
    sees (later k more) (newer.filter (newB k) ++ chain) = if sees k chain < 0 then -1 else sees k chain + (newer.filter (newB k)).length := by
  have e : seesB (later k more) = seesB k := funext fun h => sees_later k more h
  unfold sees
  rw [e]
  exact ix_false_append _ _ (fun x hx => new_unseen (List.mem_filter.1 hx).2)
end Go.Proofs.Ytgcognefggbpjaa
