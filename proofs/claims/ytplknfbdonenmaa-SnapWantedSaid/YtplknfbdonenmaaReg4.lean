/-
  A region whose order is open, where some edges bind only elsewhere.
  Conditions: none.
-/
import Derived.Test.YtplknfbdonenmaaReg3
namespace Go.Proofs.Ytplknfbdonenmaa
open Go.RowKit
set_option linter.unusedVariables false
def acycB (md : Region.Mode) (ops : List Oper) : Nat → Bool
  | 0 => true
  | n + 1 => acycB md ops n && ((ops[n]?).map fun o => o.after.toList.all fun e => !Region.binds md e || decide (e.on < n)).getD false
theorem acycB_get {md : Region.Mode} {ops : List Oper} : ∀ n, acycB md ops n = true → ∀ i, i < n → ∃ o, ops[i]? = some o ∧ ∀ e ∈ o.after.toList, Region.binds md e = true → e.on < i
  | 0, _, i, h => by omega
  | n + 1, h, i, hi => by
    simp only [acycB, Bool.and_eq_true] at h
    rcases Nat.lt_or_ge i n with h2 | h2
    · exact acycB_get n h.1 i h2
    · obtain rfl : i = n := by omega
      have h3 := h.2
      cases ho : ops[i]? with
      | none => rw [ho] at h3; cases h3
      | some o =>
        rw [ho] at h3
        refine ⟨o, rfl, fun e he hb => ?_⟩
        have := List.all_eq_true.1 (show o.after.toList.all _ = true from h3) e he
        rw [hb] at this
        exact of_decide_eq_true (by simpa using this)
theorem wpAny_invB {P : Program} {md : Region.Mode} {Q : Exit → Act → World → Prop} (l : List Oper) (I : (Nat → Bool) → Act → World → Prop) (hac : acycB md l l.length = true)
    (hs : RSteps P md l.toArray Q I 0 l) (hQ : ∀ L a w, I L a w → (∀ i, i < l.length → L i = true) → Q .normal a w) :
    ∀ (fuel : Nat) (listed : Array Bool) (a : Act) (w : World), listed.size = l.length → l.length ≤ fuel + countOf (fun j => listed.getD j false) l.length → I (fun j => listed.getD j false) a w → wpAny P md l.toArray Q fuel listed a w := by
  have key : ∀ (listed : Array Bool), listed.size = l.length → Region.ready md l.toArray listed = [] → ∀ i, i < l.length → listed.getD i false = true := by
    intro listed hsz hr i
    induction i using Nat.strongRecOn with
    | ind i ih =>
      intro hi
      obtain ⟨o, ho, hd⟩ := acycB_get _ hac i hi
      cases hl : listed.getD i false with
      | true => rfl
      | false =>
        have : i ∈ Region.ready md l.toArray listed := (ready_mem hsz).2 ⟨o, ho, hl, fun e he hb => ih _ (hd e he hb) (by have := hd e he hb; omega)⟩
        rw [hr] at this
        cases this
  intro fuel
  induction fuel with
  | zero =>
    intro listed a w hsz hc hI
    have hfull := countOf_full (fun j => listed.getD j false) l.length (by have := countOf_le (fun j => listed.getD j false) l.length; omega)
    refine ⟨?_, hQ _ _ _ hI hfull⟩
    cases hr : Region.ready md l.toArray listed with
    | nil => rfl
    | cons i rs =>
      have : i ∈ Region.ready md l.toArray listed := by rw [hr]; simp
      obtain ⟨o, ho, hl, _⟩ := (ready_mem hsz).1 this
      have hi : i < l.length := by
        rcases Nat.lt_or_ge i l.length with h | h
        · exact h
        · rw [List.getElem?_eq_none h] at ho; cases ho
      have := hfull i hi
      simp only [hl] at this
      cases this
  | succ fuel ih =>
    intro listed a w hsz hc hI
    refine ⟨fun hr => hQ _ _ _ hI (key listed hsz hr), fun i hi => ?_⟩
    obtain ⟨o, ho, hl, hd⟩ := (ready_mem hsz).1 hi
    have hil : i < l.length := by
      rcases Nat.lt_or_ge i l.length with h | h
      · exact h
      · rw [List.getElem?_eq_none h] at ho; cases ho
    have hst := rsteps_get l 0 i o hs ho
    rw [Nat.zero_add] at hst
    have hst := hst (fun j => listed.getD j false) a w hI hl hd
    have hL : (fun j => (listed.setIfInBounds i true).getD j false) = upd (fun j => listed.getD j false) i := by
      funext j
      unfold upd
      by_cases h : j = i
      · subst h
        have : j < listed.size := by omega
        rw [if_pos rfl]; simp [Array.getD, this]
      · rw [if_neg h]
        simp only [Array.getD_eq_getD_getElem?]
        rw [Array.getElem?_setIfInBounds_ne (by omega)]
    have hnext : ∀ a' w', I (upd (fun j => listed.getD j false) i) a' w' → wpAny P md l.toArray Q fuel (listed.setIfInBounds i true) a' w' := by
      intro a' w' h
      refine ih _ a' w' (by simpa using hsz) ?_ (by rw [hL]; exact h)
      rw [hL, countOf_upd _ i hl, if_pos hil]; omega
    unfold wpOp
    rw [List.getElem?_toArray, ho]
    show if Region.wanted o (yielded l.toArray a.tmps) = true then _ else _
    by_cases hw : Region.wanted o (yielded l.toArray a.tmps) = true
    · rw [if_pos hw] at hst ⊢
      exact .inl (Oper.wp_mono hnext hst)
    · rw [if_neg hw] at hst ⊢
      exact hnext _ _ hst
theorem wp_region_invB {P : Program} {Q : Exit → Act → World → Prop} {id : Nat} (l : List Oper) {a : Act} {w : World} (hm : P.follows .mixedOrders = true) (I : (Nat → Bool) → Act → World → Prop) (hac : acycB .any l l.length = true)
    (h0 : I (fun _ => false) a w.drew) (hQ : ∀ L a w, I L a w → (∀ i, i < l.length → L i = true) → Q .normal a w) (hs : RSteps P .any l.toArray Q I 0 l) : (Code.region id l.toArray true).wp P Q a w := by
  refine wp_region_any hm (wpAny_invB l I hac hs hQ _ _ _ _ (by simp) (by simp) ?_)
  have : (fun j => (Array.replicate l.toArray.size false).getD j false) = fun _ => false := by
    funext j
    simp only [Array.getD_eq_getD_getElem?, Array.getElem?_replicate]
    split <;> rfl
  rw [this]
  exact h0
/-- What a region has written, as assignments in their order: the walk writes them into the frame. -/
def asgs (f : Nat → Value) (ds : List Nat) : List Oper := ds.map fun d => { dst := some d, op := .assign (.const (f d)), type := 0, pos := "", after := #[], guard := none }
theorem of_assigns {P : Program} {Q : Exit → Act → World → Prop} (f : Nat → Value) : ∀ (ds : List Nat) (a : Act) (w : World), wpList P #[] Q (asgs f ds) a w → Q .normal (putAll f ds a) w
  | [], _, _, h => h
  | d :: ds, a, w, h => by
    refine of_assigns (P := P) f ds _ w ?_
    have h' : if Region.wanted _ (yielded #[] a.tmps) = true then _ else _ := h
    have hw : Region.wanted ({ dst := some d, op := .assign (.const (f d)), type := 0, pos := "", after := #[], guard := none } : Oper) (yielded #[] a.tmps) = true := by simp [Region.wanted]
    rw [if_pos hw] at h'
    rcases h' with h' | ⟨h', _⟩
    · exact h'
    · exfalso
      have h1 := h'.1
      have h2 : ((execOp a.eval ({ dst := some d, op := .assign (.const (f d)), type := 0, pos := "", after := #[], guard := none } : Oper)).runT P w #[]).2 = #[] := rfl
      rw [h2] at h1
      simp at h1
end Go.Proofs.Ytplknfbdonenmaa
