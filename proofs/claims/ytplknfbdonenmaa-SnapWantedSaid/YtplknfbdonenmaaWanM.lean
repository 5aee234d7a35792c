/-
  What of a chain is wanted, for some looks; no program in sight.
  Conditions: none.
-/
import Derived.Test.YtplknfbdonenmaaSnapM
namespace Go.Proofs.Ytplknfbdonenmaa
open Go.RowKit
set_option linter.unusedVariables false
namespace WanM
/-- Does some look see the i-th? -/
def seenB (ks : List Lok) (chain : List Hed) (i : Nat) : Bool := ks.any fun k => decide (sees k chain = (i : Int))
/-- Is a transaction open yet, by the first look? -/
def openB (ks : List Lok) (t : Nat) : Bool := match ks with
  | [] => false
  | k :: _ => !decide (t < k.base) && !dOk k.done t
def val (sn : Nat → Bool) (op : Nat → Bool) (i : Nat) (h : Hed) (b : Bool) : Bool := !h.dead && (op h.txn || (sn i && (!h.gone || b)))
/-- Of what begins at i: what is wanted; and whether anything is. -/
def wf (sn : Nat → Bool) (op : Nat → Bool) : List Hed → Nat → List Bool × Bool
  | [], _ => ([], false)
  | h :: l, i => (val sn op i h (wf sn op l (i + 1)).2 :: (wf sn op l (i + 1)).1, (wf sn op l (i + 1)).2 || val sn op i h (wf sn op l (i + 1)).2)
def wanted (ks : List Lok) (chain : List Hed) : List Bool := (wf (seenB ks chain) (openB ks) chain 0).1
theorem wf_length (sn : Nat → Bool) (op : Nat → Bool) : ∀ (l : List Hed) (i : Nat), (wf sn op l i).1.length = l.length
  | [], _ => rfl
  | h :: l, i => by show (wf sn op l (i + 1)).1.length + 1 = _; rw [wf_length sn op l (i + 1)]; rfl
/-- All of a row, where what lies at i and behind is done. -/
def outs (sn : Nat → Bool) (op : Nat → Bool) (chain : List Hed) (i : Nat) : List Bool := List.replicate i false ++ (wf sn op (chain.drop i) i).1
def beh (sn : Nat → Bool) (op : Nat → Bool) (chain : List Hed) (i : Nat) : Bool := (wf sn op (chain.drop i) i).2
section
variable {sn : Nat → Bool} {op : Nat → Bool} {chain : List Hed} {i : Nat} {h : Hed}
theorem wf_step (hh : chain[i]? = some h) : wf sn op (chain.drop i) i = (val sn op i h (beh sn op chain (i + 1)) :: (wf sn op (chain.drop (i + 1)) (i + 1)).1, beh sn op chain (i + 1) || val sn op i h (beh sn op chain (i + 1))) := by
  obtain ⟨h1, h2⟩ := List.getElem?_eq_some_iff.1 hh
  have e : chain.drop i = h :: chain.drop (i + 1) := by rw [← List.getElem_cons_drop h1, h2]
  rw [e]; rfl
theorem outs_step (hh : chain[i]? = some h) : (outs sn op chain (i + 1)).set i (val sn op i h (beh sn op chain (i + 1))) = outs sn op chain i := by
  unfold outs
  rw [wf_step hh, List.replicate_succ', List.append_assoc, List.singleton_append, List.set_append_right _ _ (by simp)]
  simp
theorem beh_step (hh : chain[i]? = some h) : beh sn op chain i = (beh sn op chain (i + 1) || val sn op i h (beh sn op chain (i + 1))) := by
  show (wf sn op (chain.drop i) i).2 = _
  rw [wf_step hh]
theorem outs_len (hi : i ≤ chain.length) : (outs sn op chain i).length = chain.length := by
  unfold outs
  rw [List.length_append, List.length_replicate, wf_length, List.length_drop]; omega
theorem outs_end : outs sn op chain chain.length = List.replicate chain.length false := by
  unfold outs; rw [List.drop_length]; simp [wf]
theorem beh_end : beh sn op chain chain.length = false := by
  unfold beh; rw [List.drop_length]; rfl
end
/-- The same, round by round. -/
def stp (sn : Nat → Bool) (op : Nat → Bool) (n : Nat) (s : List Bool × Bool) (x : Nat × Hed) : List Bool × Bool := (s.1.set (x.1 % n) (val sn op (x.1 % n) x.2 s.2), s.2 || val sn op (x.1 % n) x.2 s.2)
def st (sn : Nat → Bool) (op : Nat → Bool) (n : Nat) (pre : List (Nat × Hed)) : List Bool × Bool := pre.foldl (stp sn op n) (List.replicate n false, false)
theorem st_snoc (sn : Nat → Bool) (op : Nat → Bool) (n : Nat) (pre : List (Nat × Hed)) (x : Nat × Hed) : st sn op n (pre ++ [x]) = stp sn op n (st sn op n pre) x := by unfold st; rw [List.foldl_append]; rfl
theorem st_len (sn : Nat → Bool) (op : Nat → Bool) (n : Nat) (pre : List (Nat × Hed)) : (st sn op n pre).1.length = n := by
  have key : ∀ (l : List (Nat × Hed)) (s : List Bool × Bool), s.1.length = n → (l.foldl (stp sn op n) s).1.length = n := by
    intro l
    induction l with
    | nil => intro s h; exact h
    | cons x l ih => intro s h; exact ih _ (by unfold stp; rw [List.length_set]; exact h)
  exact key pre _ (by simp)
/-- What comes from the last to the first. -/
def upto (chain : List Hed) (k : Nat) : List (Nat × Hed) := (List.range k).map fun j => (chain.length - 1 - j, (chain[chain.length - 1 - j]?).getD ⟨0, false, false⟩)
theorem upto_succ (chain : List Hed) (k : Nat) : upto chain (k + 1) = upto chain k ++ [(chain.length - 1 - k, (chain[chain.length - 1 - k]?).getD ⟨0, false, false⟩)] := by simp [upto, List.range_succ]
theorem upto_length (chain : List Hed) (k : Nat) : (upto chain k).length = k := by simp [upto]
theorem st_upto (sn : Nat → Bool) (op : Nat → Bool) (chain : List Hed) : ∀ k, k ≤ chain.length → st sn op chain.length (upto chain k) = (outs sn op chain (chain.length - k), beh sn op chain (chain.length - k))
  | 0, _ => by
    rw [Nat.sub_zero, outs_end, beh_end]; rfl
  | k + 1, hk => by
    rw [upto_succ, st_snoc, st_upto sn op chain k (by omega)]
    have hi : chain.length - 1 - k < chain.length := by omega
    have e : chain.length - k = chain.length - 1 - k + 1 := by omega
    have e2 : chain.length - (k + 1) = chain.length - 1 - k := by omega
    have hh : chain[chain.length - 1 - k]? = some chain[chain.length - 1 - k] := List.getElem?_eq_getElem hi
    rw [hh, Option.getD_some, e2]
    unfold stp
    simp only
    rw [Nat.mod_eq_of_lt hi, e, outs_step hh, ← beh_step hh]
theorem st_all (ks : List Lok) (chain : List Hed) : (st (seenB ks chain) (openB ks) chain.length (upto chain chain.length)).1 = wanted ks chain := by
  rw [st_upto _ _ chain chain.length (Nat.le_refl _), Nat.sub_self]
  unfold outs wanted
  rw [List.drop_zero]; rfl
/-- The row of what is seen, look by look. -/
def snl (ks : List Lok) (chain : List Hed) : List Bool := (List.range chain.length).map (seenB ks chain)
theorem snl_nil (chain : List Hed) : snl [] chain = List.replicate chain.length false := by
  unfold snl
  have : seenB [] chain = fun _ => false := by funext i; rfl
  rw [this, List.map_const', List.length_range]
theorem snl_get {ks : List Lok} {chain : List Hed} {i : Nat} (hi : i < chain.length) : (snl ks chain)[i]? = some (seenB ks chain i) := by
  unfold snl
  rw [List.getElem?_map, List.getElem?_range hi]; rfl
theorem snl_len (ks : List Lok) (chain : List Hed) : (snl ks chain).length = chain.length := by simp [snl]
theorem seenB_snoc (ks : List Lok) (k : Lok) (chain : List Hed) (i : Nat) : seenB (ks ++ [k]) chain i = (seenB ks chain i || decide (sees k chain = (i : Int))) := by simp [seenB]
theorem snl_hit {ks : List Lok} {k : Lok} {chain : List Hed} {i : Nat} (h : sees k chain = (i : Int)) : snl (ks ++ [k]) chain = (snl ks chain).set i true := by
  apply List.ext_getElem?
  intro j
  by_cases hj : j < chain.length
  · rw [snl_get hj, seenB_snoc, h]
    by_cases e : i = j
    · subst e
      rw [List.getElem?_set_self (by rw [snl_len]; exact hj)]; simp
    · rw [List.getElem?_set_ne e, snl_get hj, decide_eq_false (by omega), Bool.or_false]
  · rw [List.getElem?_eq_none (by rw [snl_len]; omega), List.getElem?_eq_none (by rw [List.length_set, snl_len]; omega)]
theorem snl_miss {ks : List Lok} {k : Lok} {chain : List Hed} (h : sees k chain < 0) : snl (ks ++ [k]) chain = snl ks chain := by
  apply List.ext_getElem?
  intro j
  by_cases hj : j < chain.length
  · rw [snl_get hj, snl_get hj, seenB_snoc, decide_eq_false (by omega), Bool.or_false]
  · rw [List.getElem?_eq_none (by rw [snl_len]; omega), List.getElem?_eq_none (by rw [snl_len]; omega)]
theorem take_snoc {α : Type} {l : List α} {k : Nat} {x : α} (h : l[k]? = some x) : l.take (k + 1) = l.take k ++ [x] := by
  rw [List.take_add_one, h]; rfl
end WanM
end Go.Proofs.Ytplknfbdonenmaa
