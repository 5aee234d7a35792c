/-
  A region in a round of a range over a function, at the wide fence: drawn, or in order.
  Conditions: none.
-/
import Derived.Test.YtplknfbdonenmaaReg5
import Derived.OrdersIn
import Derived.RangeFuncNested
import Derived.RangeFuncBound
import Derived.RangeFuncCalls
import Derived.RangeFuncLeaves
namespace Go.Proofs.Ytplknfbdonenmaa
open Go.RowKit
set_option linter.unusedVariables false
def plainOps (l : List Oper) : Bool := l.all fun o => match o.op with
  | .defer _ => false
  | _ => true
theorem plainOps_get {l : List Oper} (h : plainOps l = true) {i : Nat} {o : Oper} (ho : l[i]? = some o) : ∀ c, o.op ≠ .defer c := by
  intro c hc
  have := List.all_eq_true.1 h o (List.mem_of_getElem? ho)
  rw [hc] at this
  cases this
theorem oper_in {P : Program} {o : Oper} {a : Act} {w : World} {K : Act → World → Prop} {Q : Exit → Act → World → Prop} {n r : Nat} (hd : ∀ c, o.op ≠ .defer c) (h : Oper.wp P o a w K Q) : Oper.wpIn (Fence.wide.inRound r) n P o a w K Q := by
  refine ⟨fun _ _ => trivial, ?_⟩
  show o.uponIn _ n P a K Q ((o.semAt (some r) a.eval).run P w)
  rw [Oper.semAt_some r _ o hd]
  unfold Oper.wp at h
  cases hr : (execOp a.eval o).run P w with
  | ok x w' =>
    rw [hr] at h
    cases x with
    | enter f args => exact ⟨nofun, CallsIn.inRound r (callsIn_wide.2 h)⟩
    | row nm args => exact ⟨nofun, fun c cs _ => let ⟨v, w'', q, s⟩ := h c cs; ⟨v, w'', q, stepsIn_wide.2 s⟩⟩
    | round _ _ _ _ _ => exact False.elim h
    | _ => exact h
  | halt x w' =>
    rw [hr] at h
    cases x <;> exact h
theorem wpAnyIn_inv {P : Program} {md : Region.Mode} {Q : Exit → Act → World → Prop} {n r : Nat} (l : List Oper) (I : (Nat → Bool) → Act → World → Prop) (hac : acycB md l l.length = true) (hpl : plainOps l = true)
    (hs : RSteps P md l.toArray Q I 0 l) (hQ : ∀ L a w, I L a w → (∀ i, i < l.length → L i = true) → Q .normal a w) :
    ∀ (fuel : Nat) (listed : Array Bool) (a : Act) (w : World), listed.size = l.length → l.length ≤ fuel + countOf (fun j => listed.getD j false) l.length → I (fun j => listed.getD j false) a w → wpAnyIn (Fence.wide.inRound r) n P md l.toArray Q fuel listed a w := by
  have key : ∀ (listed : Array Bool), listed.size = l.length → Region.ready md l.toArray listed = [] → ∀ i, i < l.length → listed.getD i false = true := by
    intro listed hsz hr i
    induction i using Nat.strongRecOn with
    | ind i ih =>
      intro hi
      obtain ⟨o, ho, hd⟩ := acycB_get _ hac i hi
      cases hl : listed.getD i false with
      | true => rfl
      | false =>
        have : i ∈ Region.ready md l.toArray listed := (ready_mem hsz).2 ⟨o, ho, hl, fun e he hb => ih _ (hd e he hb) (by have := hd e he hb; omega)⟩
        rw [hr] at this
        cases this
  intro fuel
  induction fuel with
  | zero =>
    intro listed a w hsz hc hI
    have hfull := countOf_full (fun j => listed.getD j false) l.length (by have := countOf_le (fun j => listed.getD j false) l.length; omega)
    refine ⟨?_, hQ _ _ _ hI hfull⟩
    cases hr : Region.ready md l.toArray listed with
    | nil => rfl
    | cons i rs =>
      have : i ∈ Region.ready md l.toArray listed := by rw [hr]; simp
      obtain ⟨o, ho, hl, _⟩ := (ready_mem hsz).1 this
      have hi : i < l.length := by
        rcases Nat.lt_or_ge i l.length with h | h
        · exact h
        · rw [List.getElem?_eq_none h] at ho; cases ho
      have := hfull i hi
      simp only [hl] at this
      cases this
  | succ fuel ih =>
    intro listed a w hsz hc hI
    refine ⟨fun hr => hQ _ _ _ hI (key listed hsz hr), fun i hi => ?_⟩
    obtain ⟨o, ho, hl, hd⟩ := (ready_mem hsz).1 hi
    have hil : i < l.length := by
      rcases Nat.lt_or_ge i l.length with h | h
      · exact h
      · rw [List.getElem?_eq_none h] at ho; cases ho
    have hst := rsteps_get l 0 i o hs ho
    rw [Nat.zero_add] at hst
    have hst := hst (fun j => listed.getD j false) a w hI hl hd
    have hL : (fun j => (listed.setIfInBounds i true).getD j false) = upd (fun j => listed.getD j false) i := by
      funext j
      unfold upd
      by_cases h : j = i
      · subst h
        have : j < listed.size := by omega
        rw [if_pos rfl]; simp [Array.getD, this]
      · rw [if_neg h]
        simp only [Array.getD_eq_getD_getElem?]
        rw [Array.getElem?_setIfInBounds_ne (by omega)]
    have hnext : ∀ a' w', I (upd (fun j => listed.getD j false) i) a' w' → wpAnyIn (Fence.wide.inRound r) n P md l.toArray Q fuel (listed.setIfInBounds i true) a' w' := by
      intro a' w' h
      refine ih _ a' w' (by simpa using hsz) ?_ (by rw [hL]; exact h)
      rw [hL, countOf_upd _ i hl, if_pos hil]; omega
    unfold wpOpIn
    rw [List.getElem?_toArray, ho]
    show if Region.wanted o (yielded l.toArray a.tmps) = true then _ else _
    by_cases hw : Region.wanted o (yielded l.toArray a.tmps) = true
    · rw [if_pos hw] at hst ⊢
      exact oper_in (plainOps_get hpl ho) (Oper.wp_mono hnext hst)
    · rw [if_neg hw] at hst ⊢
      exact ⟨fun _ _ => trivial, hnext _ _ hst⟩
theorem wpIn_region_invB {P : Program} {Q : Exit → Act → World → Prop} {id n r : Nat} (l : List Oper) {a : Act} {w : World} (hm : P.follows .mixedOrders = true) (I : (Nat → Bool) → Act → World → Prop) (hac : acycB .any l l.length = true) (hpl : plainOps l = true)
    (h0 : I (fun _ => false) a w.drew) (hQ : ∀ L a w, I L a w → (∀ i, i < l.length → L i = true) → Q .normal a w) (hs : RSteps P .any l.toArray Q I 0 l) : (Code.region id l.toArray true).wpIn (Fence.wide.inRound r) n P Q a w := by
  refine wpIn_region_any hm (wpAnyIn_inv l I hac hpl hs hQ _ _ _ _ (by simp) (by simp) ?_)
  have : (fun j => (Array.replicate l.toArray.size false).getD j false) = fun _ => false := by
    funext j
    simp only [Array.getD_eq_getD_getElem?, Array.getElem?_replicate]
    split <;> rfl
  rw [this]
  exact h0
/-- A region in its order. -/
theorem wpIn_region_seqB {P : Program} {Q : Exit → Act → World → Prop} {id n r : Nat} (l : List Oper) {a : Act} {w : World} (I : (Nat → Bool) → Act → World → Prop) (hac : acycB .any l l.length = true) (hpl : plainOps l = true)
    (h0 : I (fun _ => false) a w) (hQ : ∀ L a w, I L a w → (∀ i, i < l.length → L i = true) → Q .normal a w) (hs : RSteps P .any l.toArray Q I 0 l) : (Code.region id l.toArray false).wpIn (Fence.wide.inRound r) n P Q a w := by
  refine wpIn_region ?_
  rw [List.range_eq_range']
  have key : ∀ (m k : Nat), k + m = l.length → ∀ a w, I (fun j => decide (j < k)) a w → wpOpsIn (Fence.wide.inRound r) n P l.toArray Q (List.range' k m) a w := by
    intro m
    induction m with
    | zero =>
      intro k hk a w hI
      exact hQ _ _ _ hI fun i hi => decide_eq_true (by omega)
    | succ m ih =>
      intro k hk a w hI
      have hkl : k < l.length := by omega
      obtain ⟨o, ho, hd⟩ := acycB_get _ hac k hkl
      have hst := rsteps_get l 0 k o hs ho
      rw [Nat.zero_add] at hst
      have hst := hst (fun j => decide (j < k)) a w hI (decide_eq_false (by omega)) (fun e he hb => decide_eq_true (hd e he hb))
      have hL : upd (fun j => decide (j < k)) k = fun j => decide (j < k + 1) := by
        funext j
        unfold upd
        by_cases h : j = k
        · subst h; rw [if_pos rfl]; simp
        · rw [if_neg h]
          show decide (j < k) = decide (j < k + 1)
          by_cases q : j < k
          · rw [decide_eq_true q, decide_eq_true (by omega)]
          · rw [decide_eq_false q, decide_eq_false (by omega)]
      rw [hL] at hst
      rw [List.range'_succ, wpOpsIn_cons]
      unfold wpOpIn
      rw [List.getElem?_toArray, ho]
      show if Region.wanted o (yielded l.toArray a.tmps) = true then _ else _
      by_cases hw : Region.wanted o (yielded l.toArray a.tmps) = true
      · rw [if_pos hw] at hst ⊢
        exact oper_in (plainOps_get hpl ho) (Oper.wp_mono (fun a' w' h => ih (k + 1) (by omega) a' w' h) hst)
      · rw [if_neg hw] at hst ⊢
        exact ⟨fun _ _ => trivial, ih (k + 1) (by omega) _ _ hst⟩
  refine key _ 0 (by simp) a w ?_
  have : (fun j => decide (j < 0)) = fun _ : Nat => false := by funext j; simp
  rw [this]; exact h0
/-- An operation is passed over where its guard was. -/
theorem unwanted_undef {ops : List Oper} {o : Oper} {tm : Array Value} (j d : Nat) (b : Bool) (hg : o.guard = some (j, b)) (ho : (ops[j]?).bind (·.dst) = some d) (hv : tm.getD d undef = undef) : Region.wanted o (yielded ops.toArray tm) = false := by
  have h2 : tm[d]?.getD undef = undef := by rw [← Array.getD_eq_getD_getElem?]; exact hv
  simp [Region.wanted, hg, yielded, ho]
  cases h3 : tm[d]? with
  | none => simp
  | some v =>
    rw [h3] at h2
    simp only [Option.getD_some] at h2
    subst h2
    simp [undef]
end Go.Proofs.Ytplknfbdonenmaa
