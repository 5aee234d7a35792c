/-
  Frames put together: what they are split into, piece by piece; no program in sight.
  Conditions: each has at most 20000 bytes.
-/
import Derived.Test.YtgcognefggbpjaaFrmM2
namespace Go.Proofs.Ytgcognefggbpjaa
open Go.RowKit
set_option linter.unusedVariables false
namespace FrmM
def cat : List (List UInt8) → List UInt8
  | [] => []
  | p :: t => form p ++ cat t
theorem cat_append (a b : List (List UInt8)) : cat (a ++ b) = cat a ++ cat b := by
  induction a with
  | nil => rfl
  | cons p t ih =>
    show form p ++ cat (t ++ b) = form p ++ cat t ++ cat b
    rw [ih, List.append_assoc]
theorem cat_one (p : List UInt8) : cat [p] = form p := List.append_nil _
theorem cat_len (ps : List (List UInt8)) (h : ∀ p ∈ ps, p.length ≤ 2000) : (cat ps).length ≤ 2004 * ps.length := by
  induction ps with
  | nil => exact Nat.le_refl _
  | cons p t ih =>
    show (form p ++ cat t).length ≤ _
    have h1 := ih (fun q hq => h q (List.mem_cons_of_mem _ hq))
    have h2 := h p List.mem_cons_self
    rw [List.length_append, form_length, List.length_cons]; omega
theorem sz_nil : sz [] = (0, 7) := rfl
/-- What bytes begin with that begin with a frame. -/
theorem sz_prefix {p z b r : List UInt8} (hp : p.length ≤ 20000) (h : form p ++ z = b ++ r) : (sz b).2 = 7 ∨ ((sz b) = (p.length, 0) ∧ (b.drop 4).take p.length = p ∧ z = b.drop (4 + p.length) ++ r) := by
  by_cases hb : b.length < p.length + 4
  · left
    unfold sz
    by_cases h4 : b.length < 4
    · rw [if_pos h4]
    · have h1 : b.take 4 = CodeM.fx 4 p.length := by
        have h2 : (b ++ r).take 4 = b.take 4 := List.take_append_of_le_length (by omega)
        rw [← h2, ← h]
        unfold form
        rw [List.append_assoc]
        exact List.take_left' (CodeM.fx_length 4 _)
      have h2 : CodeM.le (CodeM.fx 4 p.length) = p.length := by
        rw [CodeM.le_fx]; exact Nat.mod_eq_of_lt (by omega)
      rw [if_neg h4, h1, h2, if_neg (by omega), if_pos (by omega)]
  · right
    have hf : b.take (p.length + 4) = form p := by
      have h2 : (b ++ r).take (p.length + 4) = b.take (p.length + 4) := List.take_append_of_le_length (by omega)
      rw [← h2, ← h, List.take_left' (form_length p)]
    have hz : z = b.drop (p.length + 4) ++ r := by
      have h2 : (b ++ r).drop (p.length + 4) = b.drop (p.length + 4) ++ r := List.drop_append_of_le_length (by omega)
      rw [← h2, ← h, List.drop_left' (form_length p)]
    have hb2 : b = form p ++ b.drop (p.length + 4) := by rw [← hf, List.take_append_drop]
    refine ⟨?_, ?_, by rw [Nat.add_comm 4]; exact hz⟩
    · rw [hb2]; exact sz_form hp _
    · rw [hb2]
      unfold form
      rw [List.append_assoc, List.drop_left' (CodeM.fx_length 4 _)]
      exact List.take_left' rfl
theorem it_cat {ps : List (List UInt8)} (h : ∀ p ∈ ps, p.length ≤ 20000) : ∀ k, k ≤ ps.length → it (cat ps) k = cat (ps.drop k)
  | 0, _ => rfl
  | k + 1, hk => by
    have ih := it_cat h k (by omega)
    show (it (cat ps) k).drop (4 + (sz (it (cat ps) k)).1) = _
    have hlt : k < ps.length := hk
    rw [ih, List.drop_eq_getElem_cons hlt]
    show (form _ ++ cat _).drop (4 + (sz (form _ ++ cat _)).1) = _
    rw [sz_form (h _ (List.getElem_mem _)), Nat.add_comm 4, List.drop_left' (form_length _)]
theorem sz_cat {ps : List (List UInt8)} (h : ∀ p ∈ ps, p.length ≤ 20000) {k : Nat} {p : List UInt8} (hk : ps[k]? = some p) : sz (it (cat ps) k) = (p.length, 0) ∧ pc (cat ps) k = p := by
  obtain ⟨h1, h2⟩ := List.getElem?_eq_some_iff.1 hk
  have e : it (cat ps) k = form p ++ cat (ps.drop (k + 1)) := by
    rw [it_cat h k (by omega), List.drop_eq_getElem_cons h1, h2]; rfl
  have hp := h p (List.mem_of_getElem? hk)
  refine ⟨by rw [e]; exact sz_form hp _, ?_⟩
  unfold pc
  rw [e, sz_form hp]
  unfold form
  rw [List.append_assoc, List.drop_left' (CodeM.fx_length 4 _)]
  exact List.take_left' rfl
/-- How many frames there are. -/
theorem cat_count {ps : List (List UInt8)} (h : ∀ p ∈ ps, p.length ≤ 20000) {K : Nat} (ok : ∀ j, j < K → (sz (it (cat ps) j)).2 = 0) (stop : (sz (it (cat ps) K)).2 ≠ 0) : K = ps.length ∧ (sz (it (cat ps) K)).2 = 7 ∧ it (cat ps) K = [] := by
  have e : it (cat ps) ps.length = [] := by rw [it_cat h _ (Nat.le_refl _), List.drop_eq_nil_of_le (Nat.le_refl _)]; rfl
  have hK : K = ps.length := by
    rcases Nat.lt_trichotomy K ps.length with h1 | h1 | h1
    · exact absurd (by rw [(sz_cat h (List.getElem?_eq_getElem h1)).1]) stop
    · exact h1
    · have := ok _ h1
      rw [e] at this
      exact absurd this (by decide)
  rw [hK, e]
  exact ⟨rfl, rfl, rfl⟩
/-- What bytes begin with that are fed piece by piece. -/
theorem cat_step {ps : List (List UInt8)} (h : ∀ p ∈ ps, p.length ≤ 20000) {q : Nat} {b r : List UInt8} (hq : q ≤ ps.length) (e : cat (ps.drop q) = b ++ r) : (sz b).2 = 7 ∨ ∃ p, ps[q]? = some p ∧ sz b = (p.length, 0) ∧ (b.drop 4).take p.length = p ∧ cat (ps.drop (q + 1)) = b.drop (4 + p.length) ++ r := by
  by_cases hlt : q < ps.length
  · rw [List.drop_eq_getElem_cons hlt] at e
    rcases sz_prefix (h _ (List.getElem_mem hlt)) (e : form ps[q] ++ cat (ps.drop (q + 1)) = b ++ r) with h1 | h1
    · exact .inl h1
    · exact .inr ⟨ps[q], List.getElem?_eq_getElem hlt, h1⟩
  · rw [List.drop_eq_nil_of_le (by omega)] at e
    have : b = [] := (List.append_eq_nil_iff.1 e.symm).1
    subst this
    exact .inl rfl
/-- All is fed, and no whole frame is left. -/
theorem cat_end {ps : List (List UInt8)} (h : ∀ p ∈ ps, p.length ≤ 20000) {q : Nat} {b : List UInt8} (hq : q ≤ ps.length) (e : cat (ps.drop q) = b) (hz : (sz b).2 = 7) : q = ps.length ∧ b = [] := by
  by_cases hlt : q < ps.length
  · rw [List.drop_eq_getElem_cons hlt] at e
    rw [← e] at hz
    have : sz (form ps[q] ++ cat (ps.drop (q + 1))) = (ps[q].length, 0) := sz_form (h _ (List.getElem_mem hlt)) _
    have hz : (sz (form ps[q] ++ cat (ps.drop (q + 1)))).2 = 7 := hz
    rw [this] at hz
    have h9 : (0 : Nat) = 7 := hz
    cases h9
  · have : q = ps.length := by omega
    refine ⟨this, ?_⟩
    rw [this, List.drop_eq_nil_of_le (Nat.le_refl _)] at e
    exact e.symm
end FrmM
end Go.Proofs.Ytgcognefggbpjaa
