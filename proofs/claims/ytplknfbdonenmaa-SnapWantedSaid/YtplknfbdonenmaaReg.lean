/-
  A region whose order is open, by what holds whatever has been done; no program in sight.
  Conditions: none.
-/
import Derived.Test.YtplknfbdonenmaaKit
import Derived.Deep.RegionLaw
namespace Go.Proofs.Ytplknfbdonenmaa
open Go.RowKit
set_option linter.unusedVariables false
/-- What has been done, and i besides. -/
def upd (L : Nat → Bool) (i : Nat) : Nat → Bool := fun j => if j = i then true else L j
theorem upd_eq (L : Nat → Bool) (i : Nat) : upd L i i = true := if_pos rfl
theorem upd_ne (L : Nat → Bool) {i j : Nat} (h : j ≠ i) : upd L i j = L j := if_neg h
/-- What one step must keep. -/
def RStep (P : Program) (md : Region.Mode) (ops : Array Oper) (Q : Exit → Act → World → Prop) (I : (Nat → Bool) → Act → World → Prop) (i : Nat) (o : Oper) : Prop :=
  ∀ L a w, I L a w → L i = false → (∀ e ∈ o.after.toList, Region.binds md e = true → L e.on = true) →
    if Region.wanted o (yielded ops a.tmps) = true then Oper.wp P o a w (I (upd L i)) Q else I (upd L i) (a.put o.dst undef) w
def RSteps (P : Program) (md : Region.Mode) (ops : Array Oper) (Q : Exit → Act → World → Prop) (I : (Nat → Bool) → Act → World → Prop) : Nat → List Oper → Prop
  | _, [] => True
  | k, o :: l => RStep P md ops Q I k o ∧ RSteps P md ops Q I (k + 1) l
theorem rsteps_get {P : Program} {md : Region.Mode} {ops : Array Oper} {Q : Exit → Act → World → Prop} {I : (Nat → Bool) → Act → World → Prop} :
    ∀ (l : List Oper) (k i : Nat) (o : Oper), RSteps P md ops Q I k l → l[i]? = some o → RStep P md ops Q I (k + i) o := by
  intro l
  induction l with
  | nil => intro k i o _ h; cases h
  | cons x l ih =>
    intro k i o h hi
    cases i with
    | zero => injection hi with hi; subst hi; exact h.1
    | succ i => have := ih (k + 1) i o h.2 hi; rwa [show k + 1 + i = k + (i + 1) by omega] at this
def countOf (L : Nat → Bool) : Nat → Nat
  | 0 => 0
  | n + 1 => countOf L n + (if L n = true then 1 else 0)
theorem countOf_le (L : Nat → Bool) : ∀ n, countOf L n ≤ n
  | 0 => Nat.le_refl _
  | n + 1 => by have := countOf_le L n; simp only [countOf]; split <;> omega
theorem countOf_full (L : Nat → Bool) : ∀ n, countOf L n = n → ∀ i, i < n → L i = true
  | 0, _, i, h => by omega
  | n + 1, h, i, hi => by
    have h1 := countOf_le L n
    simp only [countOf] at h
    by_cases hn : L n = true
    · rw [if_pos hn] at h
      rcases Nat.lt_or_ge i n with h2 | h2
      · exact countOf_full L n (by omega) i h2
      · rw [show i = n by omega]; exact hn
    · rw [if_neg hn] at h; omega
theorem countOf_upd (L : Nat → Bool) (i : Nat) (hi : L i = false) : ∀ n, countOf (upd L i) n = countOf L n + (if i < n then 1 else 0)
  | 0 => by simp [countOf]
  | n + 1 => by
    simp only [countOf, countOf_upd L i hi n]
    by_cases h : n = i
    · subst h; rw [upd_eq, hi]; simp
    · rw [upd_ne L h]
      rcases Nat.lt_or_ge i n with h2 | h2
      · rw [if_pos h2, if_pos (by omega : i < n + 1)]; omega
      · rw [if_neg (by omega : ¬ i < n), if_neg (by omega : ¬ i < n + 1)]; omega
def acyc (ops : List Oper) : Nat → Bool
  | 0 => true
  | n + 1 => acyc ops n && ((ops[n]?).map fun o => o.after.toList.all fun e => decide (e.on < n)).getD false
theorem acyc_get {ops : List Oper} : ∀ n, acyc ops n = true → ∀ i, i < n → ∃ o, ops[i]? = some o ∧ ∀ e ∈ o.after.toList, e.on < i
  | 0, _, i, h => by omega
  | n + 1, h, i, hi => by
    simp only [acyc, Bool.and_eq_true] at h
    rcases Nat.lt_or_ge i n with h2 | h2
    · exact acyc_get n h.1 i h2
    · obtain rfl : i = n := by omega
      have h3 := h.2
      cases ho : ops[i]? with
      | none => rw [ho] at h3; cases h3
      | some o =>
        rw [ho] at h3
        refine ⟨o, rfl, fun e he => ?_⟩
        have := List.all_eq_true.1 (show o.after.toList.all _ = true from h3) e he
        exact of_decide_eq_true this
theorem ready_mem {md : Region.Mode} {ops : List Oper} {listed : Array Bool} {i : Nat} (hsz : listed.size = ops.length) :
    i ∈ Region.ready md ops.toArray listed ↔ ∃ o, ops[i]? = some o ∧ listed.getD i false = false ∧ ∀ e ∈ o.after.toList, Region.binds md e = true → listed.getD e.on false = true := by
  unfold Region.ready
  rw [List.mem_filter, List.mem_range]
  simp only [List.size_toArray, List.getElem?_toArray, Bool.and_eq_true, Bool.not_eq_true']
  constructor
  · rintro ⟨h1, h2, h3⟩
    cases ho : ops[i]? with
    | none => rw [ho] at h3; cases h3
    | some o =>
      rw [ho] at h3
      refine ⟨o, rfl, ?_, fun e he hb => ?_⟩
      · have hi : i < listed.size := by omega
        simp only [Array.getD, hi, dif_pos] at h2 ⊢
        exact h2
      · have h4 : (o.after.all fun e => !Region.binds md e || listed.getD e.on false) = true := h3
        rw [← Array.all_toList] at h4
        have := List.all_eq_true.1 h4 e he
        rw [hb] at this
        simpa using this
  · rintro ⟨o, ho, h2, h3⟩
    have hi : i < ops.length := by
      rcases Nat.lt_or_ge i ops.length with h | h
      · exact h
      · rw [List.getElem?_eq_none h] at ho; cases ho
    refine ⟨hi, ?_, ?_⟩
    · have hi' : i < listed.size := by omega
      simp only [Array.getD, hi', dif_pos] at h2 ⊢
      exact h2
    · rw [ho]
      show (o.after.all fun e => !Region.binds md e || listed.getD e.on false) = true
      rw [← Array.all_toList]
      refine List.all_eq_true.2 fun e he => ?_
      cases hb : Region.binds md e with
      | false => rfl
      | true => rw [h3 e he hb]; rfl
theorem wpAny_inv {P : Program} {md : Region.Mode} {Q : Exit → Act → World → Prop} (l : List Oper) (I : (Nat → Bool) → Act → World → Prop) (hac : acyc l l.length = true)
    (hs : RSteps P md l.toArray Q I 0 l) (hQ : ∀ L a w, I L a w → (∀ i, i < l.length → L i = true) → Q .normal a w) :
    ∀ (fuel : Nat) (listed : Array Bool) (a : Act) (w : World), listed.size = l.length → l.length ≤ fuel + countOf (fun j => listed.getD j false) l.length → I (fun j => listed.getD j false) a w → wpAny P md l.toArray Q fuel listed a w := by
  have key : ∀ (listed : Array Bool), listed.size = l.length → Region.ready md l.toArray listed = [] → ∀ i, i < l.length → listed.getD i false = true := by
    intro listed hsz hr i
    induction i using Nat.strongRecOn with
    | ind i ih =>
      intro hi
      obtain ⟨o, ho, hd⟩ := acyc_get _ hac i hi
      cases hl : listed.getD i false with
      | true => rfl
      | false =>
        have : i ∈ Region.ready md l.toArray listed := (ready_mem hsz).2 ⟨o, ho, hl, fun e he _ => ih _ (hd e he) (by have := hd e he; omega)⟩
        rw [hr] at this
        cases this
  intro fuel
  induction fuel with
  | zero =>
    intro listed a w hsz hc hI
    have hfull := countOf_full (fun j => listed.getD j false) l.length (by have := countOf_le (fun j => listed.getD j false) l.length; omega)
    refine ⟨?_, hQ _ _ _ hI hfull⟩
    cases hr : Region.ready md l.toArray listed with
    | nil => rfl
    | cons i rs =>
      have : i ∈ Region.ready md l.toArray listed := by rw [hr]; simp
      obtain ⟨o, ho, hl, _⟩ := (ready_mem hsz).1 this
      have hi : i < l.length := by
        rcases Nat.lt_or_ge i l.length with h | h
        · exact h
        · rw [List.getElem?_eq_none h] at ho; cases ho
      have := hfull i hi
      simp only [hl] at this
      cases this
  | succ fuel ih =>
    intro listed a w hsz hc hI
    refine ⟨fun hr => hQ _ _ _ hI (key listed hsz hr), fun i hi => ?_⟩
    obtain ⟨o, ho, hl, hd⟩ := (ready_mem hsz).1 hi
    have hil : i < l.length := by
      rcases Nat.lt_or_ge i l.length with h | h
      · exact h
      · rw [List.getElem?_eq_none h] at ho; cases ho
    have hst := rsteps_get l 0 i o hs ho
    rw [Nat.zero_add] at hst
    have hst := hst (fun j => listed.getD j false) a w hI hl hd
    have hL : (fun j => (listed.setIfInBounds i true).getD j false) = upd (fun j => listed.getD j false) i := by
      funext j
      unfold upd
      by_cases h : j = i
      · subst h
        have : j < listed.size := by omega
        rw [if_pos rfl]; simp [Array.getD, this]
      · rw [if_neg h]
        simp only [Array.getD_eq_getD_getElem?]
        rw [Array.getElem?_setIfInBounds_ne (by omega)]
    have hnext : ∀ a' w', I (upd (fun j => listed.getD j false) i) a' w' → wpAny P md l.toArray Q fuel (listed.setIfInBounds i true) a' w' := by
      intro a' w' h
      refine ih _ a' w' (by simpa using hsz) ?_ (by rw [hL]; exact h)
      rw [hL, countOf_upd _ i hl, if_pos hil]; omega
    unfold wpOp
    rw [List.getElem?_toArray, ho]
    show if Region.wanted o (yielded l.toArray a.tmps) = true then _ else _
    by_cases hw : Region.wanted o (yielded l.toArray a.tmps) = true
    · rw [if_pos hw] at hst ⊢
      exact .inl (Oper.wp_mono hnext hst)
    · rw [if_neg hw] at hst ⊢
      exact hnext _ _ hst
/-- The region's rule. -/
theorem wp_region_inv {P : Program} {Q : Exit → Act → World → Prop} {id : Nat} (l : List Oper) {a : Act} {w : World} (hm : P.follows .mixedOrders = true) (I : (Nat → Bool) → Act → World → Prop) (hac : acyc l l.length = true)
    (h0 : I (fun _ => false) a w.drew) (hQ : ∀ L a w, I L a w → (∀ i, i < l.length → L i = true) → Q .normal a w) (hs : RSteps P .any l.toArray Q I 0 l) : (Code.region id l.toArray true).wp P Q a w := by
  refine wp_region_any hm (wpAny_inv l I hac hs hQ _ _ _ _ (by simp) (by simp) ?_)
  have : (fun j => (Array.replicate l.toArray.size false).getD j false) = fun _ => false := by
    funext j
    simp only [Array.getD_eq_getD_getElem?, Array.getElem?_replicate]
    split <;> rfl
  rw [this]
  exact h0
theorem act_ne (a : Act) {d t : Nat} (v : Value) (h : d ≠ t) : (a.put (some d) v).tmps.getD t undef = a.tmps.getD t undef := by
  simp only [Act.put, Array.getD_eq_getD_getElem?]
  rw [Array.getElem?_setIfInBounds_ne h]
theorem act_eq (a : Act) {d : Nat} (v : Value) (h : d < a.tmps.size) : (a.put (some d) v).tmps.getD d undef = v := by
  simp only [Act.put, Array.getD_eq_getD_getElem?]
  rw [Array.getElem?_setIfInBounds_self_of_lt h]; rfl
theorem act_size (a : Act) (d : Option Nat) (v : Value) : (a.put d v).tmps.size = a.tmps.size := by cases d <;> simp [Act.put]
theorem act_defers (a : Act) (d : Option Nat) (v : Value) : (a.put d v).defers = a.defers := by cases d <;> rfl
theorem rstep_val {P : Program} {ops : Array Oper} {o : Oper} {a : Act} {w : World} {K : Act → World → Prop} {Q : Exit → Act → World → Prop} {E : Prop} (hg : o.guard = none) (v : Value) (w' : World)
    (hrun : (execOp a.eval o).run P w = .ok (.value v) w') (hK : K (a.put o.dst v) w') : if Region.wanted o (yielded ops a.tmps) = true then Oper.wp P o a w K Q else E := by
  have hw : Region.wanted o (yielded ops a.tmps) = true := by simp [Region.wanted, hg]
  rw [if_pos hw]
  unfold Oper.wp
  rw [hrun]
  exact hK
theorem rstep_skip {P : Program} {ops : Array Oper} {o : Oper} {a : Act} {w : World} {K : Act → World → Prop} {Q : Exit → Act → World → Prop} {E : Prop} (hg : o.guard = none) (w' : World)
    (hrun : (execOp a.eval o).run P w = .ok .skip w') (hK : K (a.put o.dst undef) w') : if Region.wanted o (yielded ops a.tmps) = true then Oper.wp P o a w K Q else E := by
  have hw : Region.wanted o (yielded ops a.tmps) = true := by simp [Region.wanted, hg]
  rw [if_pos hw]
  unfold Oper.wp
  rw [hrun]
  exact hK
theorem rstep_wp {P : Program} {ops : Array Oper} {o : Oper} {a : Act} {w : World} {K : Act → World → Prop} {Q : Exit → Act → World → Prop} {E : Prop} (hg : o.guard = none)
    (h : Oper.wp P o a w K Q) : if Region.wanted o (yielded ops a.tmps) = true then Oper.wp P o a w K Q else E := by
  have hw : Region.wanted o (yielded ops a.tmps) = true := by simp [Region.wanted, hg]
  rw [if_pos hw]
  exact h
/-! ### A region whose values are all known ahead -/
theorem wanted_of {ops : List Oper} {o : Oper} {tm : Array Value} (j d : Nat) (b : Bool) (hg : o.guard = some (j, b)) (ho : (ops[j]?).bind (·.dst) = some d) (hv : tm.getD d undef = .bool b) : Region.wanted o (yielded ops.toArray tm) = true := by
  have hlt : d < tm.size := by
    rcases Nat.lt_or_ge d tm.size with h | h
    · exact h
    · rw [Array.getD_eq_getD_getElem?, Array.getElem?_eq_none h] at hv; cases hv
  have h2 : tm[d]? = some (.bool b) := by
    rw [Array.getD_eq_getD_getElem?, Array.getElem?_eq_getElem hlt] at hv
    rw [Array.getElem?_eq_getElem hlt]
    exact congrArg some hv
  simp [Region.wanted, hg, yielded, ho, h2]
section
variable {P : Program} {ops : Array Oper} {o : Oper} {a : Act} {w : World} {K : Act → World → Prop} {Q : Exit → Act → World → Prop} {E : Prop}
theorem wanted_none (hg : o.guard = none) (f : Nat → Option Bool) : Region.wanted o f = true := by simp [Region.wanted, hg]
theorem rstep_valW (hw : Region.wanted o (yielded ops a.tmps) = true) (v : Value) (w' : World) (hrun : (execOp a.eval o).run P w = .ok (.value v) w') (hK : K (a.put o.dst v) w') : if Region.wanted o (yielded ops a.tmps) = true then Oper.wp P o a w K Q else E := by
  rw [if_pos hw]
  unfold Oper.wp
  rw [hrun]
  exact hK
theorem rstep_callW (hw : Region.wanted o (yielded ops a.tmps) = true) (f : FuncId) (args : Array Value) (hrun : (execOp a.eval o).run P w = .ok (.enter f args) w)
    (hc : Calls P f args w fun
      | .returned v, w'' => K (a.put o.dst v) w''
      | .panicked chain, w'' => Q (.panic chain) a w''
      | .outgrown, _ => LetsOut Q) : if Region.wanted o (yielded ops a.tmps) = true then Oper.wp P o a w K Q else E := by
  rw [if_pos hw]
  unfold Oper.wp
  rw [hrun, Oper.upon_enter]
  exact hc
end
structure PI (n : Nat) (fx : List (Nat × Value)) (pures : List (Nat × Nat × Value)) (W : (Nat → Bool) → World → Prop) (L : Nat → Bool) (a : Act) (w : World) : Prop where
  df : a.defers = []
  sz : a.tmps.size = n
  fx : ∀ q ∈ fx, a.tmps.getD q.1 undef = q.2
  pu : ∀ q ∈ pures, L q.1 = true → a.tmps.getD q.2.1 undef = q.2.2
  wd : W L w
theorem PI.put {n : Nat} {fx : List (Nat × Value)} {pures : List (Nat × Nat × Value)} {W : (Nat → Bool) → World → Prop} {L : Nat → Bool} {a : Act} {w w' : World} (h : PI n fx pures W L a w) (i d : Nat) (v : Value)
    (h1 : ∀ q ∈ pures, q.1 = i → q.2.1 = d ∧ q.2.2 = v) (h2 : ∀ q ∈ pures, q.2.1 = d → q.1 = i) (h3 : ∀ q ∈ fx, q.1 ≠ d) (hlt : d < n) (hw : W (upd L i) w') : PI n fx pures W (upd L i) (a.put (some d) v) w' := by
  have ha : ∀ t, d ≠ t → (a.put (some d) v).tmps.getD t undef = a.tmps.getD t undef := fun t q => act_ne a v q
  refine ⟨h.df, by rw [act_size]; exact h.sz, fun q hq => by rw [ha _ (fun e => h3 q hq e.symm)]; exact h.fx q hq, fun q hq hL => ?_, hw⟩
  by_cases e : q.1 = i
  · obtain ⟨e1, e2⟩ := h1 q hq e
    rw [e1, e2, act_eq a v (by rw [h.sz]; exact hlt)]
  · rw [upd_ne L e] at hL
    rw [ha _ (fun x => e (h2 q hq x.symm))]
    exact h.pu q hq hL
end Go.Proofs.Ytplknfbdonenmaa
