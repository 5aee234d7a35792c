/-
  How the arguments of a law read: slices of whatever reads as cells, structs.
  Conditions: none.
-/
import Derived.Test.YtplknfbdonenmaaFrame
import Derived.Deep.Slices
import Derived.Deep.Fields
namespace Go.Proofs.Ytplknfbdonenmaa
open Go.ChangeShapes Go.WideShapes Go.ChangeAt Go.RowKit Go.Deep
set_option linter.unusedVariables false
section
variable {H : Type} {enc : TypeId × Value → H} {P : Program} {w : World}
/-- From 'for each i there is' to a list. -/
theorem choose_list {α : Type} (n : Nat) (Q : Nat → α → Prop) (h : ∀ i, i < n → ∃ x, Q i x) : ∃ xs : List α, xs.length = n ∧ ∀ i (hi : i < xs.length), Q i xs[i] := by
  induction n with
  | zero => exact ⟨[], rfl, fun i hi => by cases hi⟩
  | succ n ih =>
    obtain ⟨xs, hl, hx⟩ := ih (fun i hi => h i (by omega))
    obtain ⟨x, hxn⟩ := h n (by omega)
    refine ⟨xs ++ [x], by simp [hl], fun i hi => ?_⟩
    by_cases e : i < xs.length
    · rw [List.getElem_append_left e]; exact hx i e
    · have : i = xs.length := by simp at hi; omega
      subst this
      rw [List.getElem_append_right (Nat.le_refl _)]
      simp only [Nat.sub_self, List.getElem_cons_zero]
      rw [hl]; exact hxn
theorem flatMap_get {α : Type} {cells : α → List Value} {size : Nat} (hsz : ∀ x, (cells x).length = size) : ∀ (xs : List α) (i j : Nat) (x : α), xs[i]? = some x → j < size → (xs.flatMap cells)[i * size + j]? = (cells x)[j]?
  | a :: l, 0, j, x, h, hj => by
    simp at h; subst h
    rw [Nat.zero_mul, Nat.zero_add, List.flatMap_cons, List.getElem?_append_left (by rw [hsz]; exact hj)]
  | a :: l, i + 1, j, x, h, hj => by
    have ih := flatMap_get hsz l i j x (by simpa using h) hj
    rw [List.flatMap_cons, List.getElem?_append_right (by rw [hsz, Nat.succ_mul]; omega), hsz, show (i + 1) * size + j - size = i * size + j by rw [Nat.succ_mul]; omega]
    exact ih
  | [], _, _, _, h, _ => by simp at h
theorem flatMap_length {α : Type} {cells : α → List Value} {size : Nat} (hsz : ∀ x, (cells x).length = size) (xs : List α) : (xs.flatMap cells).length = xs.length * size := by
  induction xs with
  | nil => simp
  | cons a l ih => rw [List.flatMap_cons, List.length_append, ih, hsz, List.length_cons, Nat.succ_mul, Nat.add_comm]
theorem read_slice {α : Type} {cells : α → List Value} {size : Nat} {t e : TypeId} {fuel : Nat} {cs : List Value} {y : DataW H × List MemPlace} (hsz : ∀ x, (cells x).length = size) (hpos : 0 < size) (ht : P.underlying t = some (.slice e)) (hC : P.cellsOf e = size)
    (rd : ∀ (fuel : Nat) (cs : List Value) (y : DataW H × List MemPlace), DataW.trod enc P w 0 (fun _ => true) true fuel e cs = some y → ∃ x, cs = cells x)
    (h : DataW.trod enc P w 0 (fun _ => true) true fuel t cs = some y) :
    ∃ (A : Option Addr) (c : Nat) (xs : List α), cs = [.slice A xs.length c] ∧ Row w A (xs.flatMap cells) ∧ xs.length ≤ c ∧ c ≤ maxLen ∧
      ((c = 0 ∧ y.1 = .nil) ∨ ∃ es sp, y.1 = .slice es sp ∧ es.length + sp.length = c) := by
  rcases open_slice ht h with ⟨hcs, hx⟩ | ⟨a, len, cap, m, n, D, Pl, hcs, _, hl, hm, hmm, hx, hi⟩
  · refine ⟨none, 0, [], hcs, Row.nil _ _, Nat.le_refl _, Nat.zero_le _, .inl ⟨rfl, ?_⟩⟩
    rw [hx]
  · simp only [if_true] at hmm
    subst hmm
    rw [hC] at hi
    obtain ⟨xs, hxl, hxs⟩ := choose_list len (fun i x => w.cells? 0 (a.add (i * size)) size = some (cells x)) (fun i hil => by
      obtain ⟨cs', hc, htt⟩ := hi i (by omega)
      obtain ⟨x, rfl⟩ := rd n cs' _ htt
      exact ⟨x, hc⟩)
    subst hxl
    refine ⟨some a, m, xs, hcs, ?_, hl, hm, .inr ⟨_, _, by rw [hx], by simp; omega⟩⟩
    by_cases h0 : xs.length = 0
    · have : xs = [] := List.eq_nil_of_length_eq_zero h0
      subst this
      exact .inl rfl
    · have hcell : ∀ i (hil : i < xs.length) j, j < size → w.cell? (a.add (i * size + j)) = (cells xs[i])[j]? := fun i hil j hj => by
        obtain ⟨_, hcl, hat⟩ := World.cells?_some (hxs i hil)
        rw [← add_add, hat j hj]
      have hc0 := hcell 0 (by omega) 0 hpos
      obtain ⟨b, off, spot⟩ := a
      rw [Nat.zero_mul, Nat.zero_add, List.getElem?_eq_getElem (by rw [hsz]; exact hpos)] at hc0
      have hspot : spot = none := by simpa [Addr.add] using World.cell?_spot hc0
      subst hspot
      refine .inr ⟨b, off, rfl, fun j u hu => ?_⟩
      have hj : j < xs.length * size := by rw [← flatMap_length hsz]; exact (List.getElem?_eq_some_iff.1 hu).1
      have hd : j / size < xs.length := by
        rw [Nat.mul_comm] at hj
        exact Nat.div_lt_of_lt_mul hj
      have hjj : j = j / size * size + j % size := by have := Nat.div_add_mod j size; rw [Nat.mul_comm] at this; omega
      have := hcell (j / size) hd (j % size) (Nat.mod_lt _ hpos)
      rw [← hjj, Addr.add_lit] at this
      rw [this]
      have hf := flatMap_get hsz xs (j / size) (j % size) _ (List.getElem?_eq_getElem hd) (Nat.mod_lt _ hpos)
      rw [← hjj, hu] at hf
      exact hf.symm
/-- A struct's cells, field by field (all of one cell). -/
theorem read_struct {t : TypeId} {fs : Array Field} {fuel : Nat} {cs : List Value} {y : DataW H × List MemPlace} (ht : P.underlying t = some (.struct fs)) (hone : oneCellFields P fs = true) (hC : P.cellsOf t = fs.size)
    (h : DataW.trod enc P w 0 (fun _ => true) true fuel t cs = some y) : cs.length = fs.size ∧ ∃ n, ∀ (j : Nat) (f : Field), fs[j]? = some f → ∃ (v : Value) (z : DataW H × List MemPlace), cs[j]? = some v ∧ DataW.trod enc P w 0 (fun _ => true) true n f.type [v] = some z := by
  obtain ⟨ys, n', hn', hy, hlen, hyl, hf⟩ := DataW.trod_struct ht h
  rw [hC] at hlen
  refine ⟨hlen, n', fun j f hj => ?_⟩
  obtain ⟨ho, hk⟩ := hone_of hone j f hj
  have hjl : j < fs.size := (Array.getElem?_eq_some_iff.1 hj).1
  have h1 := hf j f hj
  rw [ho, hk] at h1
  have hone' : (cs.drop j).take 1 = [cs[j]'(by omega)] := by
    rw [List.drop_eq_getElem_cons (by omega)]
    rfl
  rw [hone'] at h1
  have hys : ys[j]? = some (ys[j]'(by omega)) := List.getElem?_eq_getElem (by omega)
  exact ⟨_, _, List.getElem?_eq_getElem (by omega), h1.trans hys⟩
/-- The cells of a value of one of the types that are written out. -/
theorem u64_nat {n : Int} (h : (Lit.int .u64 n).wf = true) : ∃ k : Nat, n = (k : Int) ∧ k < 18446744073709551616 := by
  have hb : 0 ≤ n ∧ n ≤ 18446744073709551615 := by simpa [Lit.wf, IntKind.min, IntKind.max, IntKind.signed, IntKind.bits] using h
  exact ⟨n.toNat, by omega, by omega⟩
end
end Go.Proofs.Ytplknfbdonenmaa
