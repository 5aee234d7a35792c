/-
  A region whose order is open, beside a frame: what it does not write stays.
  Conditions: none.
-/
import Derived.Test.YtplknfbdonenmaaReg2
namespace Go.Proofs.Ytplknfbdonenmaa
open Go.RowKit
set_option linter.unusedVariables false
/-- The frame beside what the region writes; the values known ahead. -/
structure PIF (a0 : Act) (ds : List Nat) (pures : List (Nat × Nat × Value)) (L : Nat → Bool) (a : Act) : Prop where
  df : a.defers = a0.defers
  sz : a.tmps.size = a0.tmps.size
  fr : ∀ t, ds.contains t = false → a.tmps.getD t undef = a0.tmps.getD t undef
  pu : ∀ q ∈ pures, L q.1 = true → a.tmps.getD q.2.1 undef = q.2.2
theorem PIF.start (a0 : Act) (ds : List Nat) (pures : List (Nat × Nat × Value)) : PIF a0 ds pures (fun _ => false) a0 := ⟨rfl, rfl, fun _ _ => rfl, nofun⟩
section
variable {a0 : Act} {ds : List Nat} {pures p2 : List (Nat × Nat × Value)} {L : Nat → Bool} {a : Act}
theorem PIF.at_ (h : PIF a0 ds pures L a) (t : Nat) (v : Value) (ht : ds.contains t = false) (h0 : a0.tmps.getD t undef = v) : a.tmps.getD t undef = v := (h.fr t ht).trans h0
theorem PIF.put (h : PIF a0 ds pures L a) (i d : Nat) (v : Value) (h1 : ∀ q ∈ pures, q.1 = i → q.2.1 = d ∧ q.2.2 = v) (h2 : ∀ q ∈ pures, q.2.1 = d → q.1 = i) (hd : ds.contains d = true) (hlt : d < a0.tmps.size) : PIF a0 ds pures (upd L i) (a.put (some d) v) := by
  have ha : ∀ t, d ≠ t → (a.put (some d) v).tmps.getD t undef = a.tmps.getD t undef := fun t q => act_ne a v q
  refine ⟨h.df, by rw [act_size]; exact h.sz, fun t ht => ?_, fun q hq hL => ?_⟩
  · by_cases e : d = t
    · subst e; rw [hd] at ht; cases ht
    · rw [ha _ e]; exact h.fr t ht
  · by_cases e : q.1 = i
    · obtain ⟨e1, e2⟩ := h1 q hq e
      rw [e1, e2, act_eq a v (by rw [h.sz]; exact hlt)]
    · rw [upd_ne L e] at hL
      rw [ha _ (fun x => e (h2 q hq x.symm))]
      exact h.pu q hq hL
theorem PIF.skip (h : PIF a0 ds pures L a) (i : Nat) (v : Value) (h1 : ∀ q ∈ pures, q.1 ≠ i) : PIF a0 ds pures (upd L i) (a.put none v) :=
  ⟨h.df, h.sz, h.fr, fun q hq hL => by rw [upd_ne L (h1 q hq)] at hL; exact h.pu q hq hL⟩
theorem PIF.swap (h : PIF a0 ds pures L a) (hp : ∀ q ∈ p2, L q.1 = true → q ∈ pures) : PIF a0 ds p2 L a :=
  ⟨h.df, h.sz, h.fr, fun q hq hL => h.pu q (hp q hq hL) hL⟩
end
def putAll (f : Nat → Value) : List Nat → Act → Act
  | [], a => a
  | d :: ds, a => putAll f ds (a.put (some d) (f d))
theorem putAll_size (f : Nat → Value) : ∀ (ds : List Nat) (a : Act), (putAll f ds a).tmps.size = a.tmps.size
  | [], a => rfl
  | d :: ds, a => by rw [putAll, putAll_size f ds, act_size]
theorem putAll_defers (f : Nat → Value) : ∀ (ds : List Nat) (a : Act), (putAll f ds a).defers = a.defers
  | [], a => rfl
  | d :: ds, a => by rw [putAll, putAll_defers f ds, act_defers]
theorem putAll_get (f : Nat → Value) (n t : Nat) (ht : t < n) : ∀ (ds : List Nat) (a : Act), a.tmps.size = n → (putAll f ds a).tmps.getD t undef = if ds.contains t then f t else a.tmps.getD t undef
  | [], a, _ => rfl
  | d :: ds, a, h => by
    rw [putAll, putAll_get f n t ht ds _ (by rw [act_size]; exact h)]
    rw [List.contains_cons]
    by_cases e : d = t
    · subst e
      simp only [beq_self_eq_true, Bool.true_or, if_true]
      rw [act_eq a _ (by omega)]
      split <;> rfl
    · rw [act_ne a _ e]
      have : (t == d) = false := beq_eq_false_iff_ne.2 (fun q => e q.symm)
      rw [this, Bool.false_or]
/-- The frame behind the region: what it writes put into what was. -/
theorem PIF.eq {a0 : Act} {ds : List Nat} {pures : List (Nat × Nat × Value)} {L : Nat → Bool} {a : Act} (h : PIF a0 ds pures L a) : a = putAll (fun t => a.tmps.getD t undef) ds a0 := by
  refine (act_list a a0.tmps.size a0.defers h.sz h.df).trans (Eq.trans ?_ (act_list (putAll (fun t => a.tmps.getD t undef) ds a0) a0.tmps.size a0.defers (putAll_size _ _ _) (putAll_defers _ _ _)).symm)
  congr 2
  refine List.map_congr_left fun t ht => ?_
  rw [List.mem_range] at ht
  rw [putAll_get _ a0.tmps.size t ht ds a0 rfl]
  cases e : ds.contains t with
  | true => rfl
  | false => exact h.fr t e
theorem wp_named {P : Program} {Q : Exit → Act → World → Prop} {s : Code} {a : Act} {w : World} (h : ∀ a0, Hid (a0 = a) → s.wp P Q a0 w) : s.wp P Q a w := h a (Lib.hid rfl)
end Go.Proofs.Ytplknfbdonenmaa
