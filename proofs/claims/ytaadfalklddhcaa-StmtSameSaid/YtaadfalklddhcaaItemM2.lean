/-
  What bytes are read as, as a record: its form is read as it, nothing else is; no program in sight.
  Conditions: none.
-/
import Derived.Test.YtaadfalklddhcaaItemM
import Derived.Test.YtaadfalklddhcaaCodeM3
namespace Go.Proofs.Ytaadfalklddhcaa
open Go.RowKit
set_option linter.unusedVariables false
namespace ItemM
open CodeM
theorem vecs_stuck (n : Nat) {r : Rd} (h : r.e ≠ 0) : (vecs n r).2 = r := by
  induction n with
  | zero => rfl
  | succ n ih =>
    show ((vecs n r).2.fixed 4).2 = r
    rw [ih, fixed_stuck h]
theorem vecs_inv (n : Nat) {r : Rd} (h : (vecs n r).2.e = 0) : r.e = 0 ∧ (∀ v ∈ (vecs n r).1, -2147483648 ≤ v ∧ v < 2147483648) ∧ r.l = vb (vecs n r).1 ++ (vecs n r).2.l := by
  induction n with
  | zero => exact ⟨h, fun v hv => (by cases hv), rfl⟩
  | succ n ih =>
    have h' : ((vecs n r).2.fixed 4).2.e = 0 := h
    obtain ⟨h1, h2, h3⟩ := fixed_inv h'
    obtain ⟨g1, g2, g3⟩ := ih h1
    refine ⟨g1, ?_, ?_⟩
    · intro v hv
      have hv' : v ∈ (vecs n r).1 ++ [i32 ((vecs n r).2.fixed 4).1] := hv
      rcases List.mem_append.1 hv' with hv' | hv'
      · exact g2 v hv'
      · rw [List.mem_singleton] at hv'; rw [hv']; exact i32_range _
    · show r.l = vb ((vecs n r).1 ++ [i32 ((vecs n r).2.fixed 4).1]) ++ ((vecs n r).2.fixed 4).2.l
      rw [vb_snoc, u32_i32 (by simpa using h2), List.append_assoc, ← h3]
      exact g3
theorem back_vecs (l : List Int) (hl : ∀ v ∈ l, -2147483648 ≤ v ∧ v < 2147483648) (z : List UInt8) : ∀ n, n ≤ l.length → vecs n ⟨vb l ++ z, 0⟩ = (l.take n, ⟨vb (l.drop n) ++ z, 0⟩)
  | 0, _ => rfl
  | n + 1, h => by
    have ih := back_vecs l hl z n (by omega)
    obtain ⟨u, hu⟩ : ∃ u, l[n]? = some u := ⟨_, List.getElem?_eq_getElem h⟩
    obtain ⟨h1, h2⟩ := List.getElem?_eq_some_iff.1 hu
    have e : l.drop n = u :: l.drop (n + 1) := by rw [← List.getElem_cons_drop h1, h2]
    have e2 : vb (l.drop n) ++ z = fx 4 (u32 u) ++ (vb (l.drop (n + 1)) ++ z) := by
      rw [e]
      show (fx 4 (u32 _) ++ vb _) ++ z = _
      rw [List.append_assoc]
    have e3 : (vecs n ⟨vb l ++ z, 0⟩).2.fixed 4 = (u32 u, ⟨vb (l.drop (n + 1)) ++ z, 0⟩) := by
      rw [ih]
      show Rd.fixed 4 ⟨vb (l.drop n) ++ z, 0⟩ = _
      have h5 := u32_lt u
      rw [e2, back_fx (k := 4) h5]
    have e4 : i32 (u32 u) = u := i32_u32 (hl _ (List.mem_of_getElem? hu))
    show ((vecs n ⟨vb l ++ z, 0⟩).1 ++ [i32 ((vecs n ⟨vb l ++ z, 0⟩).2.fixed 4).1], ((vecs n ⟨vb l ++ z, 0⟩).2.fixed 4).2) = _
    rw [e3, ih, List.take_add_one, hu]
    show (l.take n ++ [i32 (u32 u)], _) = _
    rw [e4]; rfl
/-- The end of both readings. -/
def fin (k : Nat) (v : List Int) (t : List UInt8 × Rd) : Option Itm := if t.2.e ≠ 0 ∨ t.2.l ≠ [] ∨ may ⟨k, v, t.1⟩ ≠ 0 then none else some ⟨k, v, t.1⟩
/-- The document's reading, and the program's. -/
def readR (b : List UInt8) : Option Itm :=
  if (Rd.fixed 8 ⟨b, 0⟩).2.uv.2.e ≠ 0 ∨ 4096 < (Rd.fixed 8 ⟨b, 0⟩).2.uv.1 then none
  else fin (Rd.fixed 8 ⟨b, 0⟩).1 (vecs (Rd.fixed 8 ⟨b, 0⟩).2.uv.1 (Rd.fixed 8 ⟨b, 0⟩).2.uv.2).1 ((vecs (Rd.fixed 8 ⟨b, 0⟩).2.uv.1 (Rd.fixed 8 ⟨b, 0⟩).2.uv.2).2.text 1024)
def readP (b : List UInt8) : Option Itm :=
  if 4096 < (Rd.fixed 8 ⟨b, 0⟩).2.uv.1 ∨ (Rd.fixed 8 ⟨b, 0⟩).2.uv.2.l.length < 4 * (Rd.fixed 8 ⟨b, 0⟩).2.uv.1 then none
  else fin (Rd.fixed 8 ⟨b, 0⟩).1 (vecs (Rd.fixed 8 ⟨b, 0⟩).2.uv.1 (Rd.fixed 8 ⟨b, 0⟩).2.uv.2).1 ((vecs (Rd.fixed 8 ⟨b, 0⟩).2.uv.1 (Rd.fixed 8 ⟨b, 0⟩).2.uv.2).2.text 1024)
theorem fin_bad {k : Nat} {v : List Int} {r : Rd} (h : r.e ≠ 0) : fin k v (r.text 1024) = none := by
  unfold fin
  rw [text_stuck h, if_pos (.inl h)]
theorem readP_eq (b : List UInt8) : readP b = readR b := by
  unfold readP readR
  by_cases hn : 4096 < (Rd.fixed 8 ⟨b, 0⟩).2.uv.1
  · rw [if_pos (.inl hn), if_pos (.inr hn)]
  · by_cases he : (Rd.fixed 8 ⟨b, 0⟩).2.uv.2.e = 0
    · rw [if_neg (c := _ ∨ 4096 < _) (fun h => h.elim (fun q => q he) hn)]
      by_cases hl : (Rd.fixed 8 ⟨b, 0⟩).2.uv.2.l.length < 4 * (Rd.fixed 8 ⟨b, 0⟩).2.uv.1
      · rw [if_pos (.inr hl), fin_bad]
        intro h0
        obtain ⟨_, _, h3⟩ := vecs_inv _ h0
        have := congrArg List.length h3
        rw [List.length_append, vb_length, vecs_length] at this
        omega
      · rw [if_neg (fun h => h.elim hn hl)]
    · rw [if_pos (c := _ ∨ 4096 < _) (.inl he)]
      have h0 : (Rd.fixed 8 ⟨b, 0⟩).2.uv.1 = 0 := by
        generalize (Rd.fixed 8 ⟨b, 0⟩).2 = r at he ⊢
        obtain ⟨l, e⟩ := r
        by_cases h1 : e = 0
        · subst h1
          cases hc : cnt l with
          | none => rw [uv_fail hc]
          | some q => obtain ⟨n, k⟩ := q; rw [uv_ok hc] at he; exact absurd rfl he
        · rw [uv_err h1]
      rw [if_neg (by omega), h0]
      exact fin_bad he
theorem read_inv {b : List UInt8} {x : Itm} (h : readR b = some x) : form x = b ∧ may x = 0 ∧ x.Ok := by
  unfold readR at h
  by_cases h1 : (Rd.fixed 8 ⟨b, 0⟩).2.uv.2.e ≠ 0 ∨ 4096 < (Rd.fixed 8 ⟨b, 0⟩).2.uv.1
  · rw [if_pos h1] at h; cases h
  · rw [if_neg h1] at h
    unfold fin at h
    split at h
    · cases h
    · rename_i h2
      injection h with h
      have h3 : ((vecs (Rd.fixed 8 ⟨b, 0⟩).2.uv.1 (Rd.fixed 8 ⟨b, 0⟩).2.uv.2).2.text 1024).2.e = 0 := by
        by_cases q : ((vecs (Rd.fixed 8 ⟨b, 0⟩).2.uv.1 (Rd.fixed 8 ⟨b, 0⟩).2.uv.2).2.text 1024).2.e = 0
        · exact q
        · exact absurd (.inl q) h2
      have h4 : ((vecs (Rd.fixed 8 ⟨b, 0⟩).2.uv.1 (Rd.fixed 8 ⟨b, 0⟩).2.uv.2).2.text 1024).2.l = [] := by
        by_cases q : ((vecs (Rd.fixed 8 ⟨b, 0⟩).2.uv.1 (Rd.fixed 8 ⟨b, 0⟩).2.uv.2).2.text 1024).2.l = []
        · exact q
        · exact absurd (.inr (.inl q)) h2
      obtain ⟨t1, t2, t3, t4⟩ := text_inv h3
      obtain ⟨v1, v2, v3⟩ := vecs_inv _ t1
      obtain ⟨u1, u2, u3⟩ := uv_inv v1
      obtain ⟨f1, f2, f3⟩ := fixed_inv u1
      subst h
      refine ⟨?_, ?_, ⟨by simpa using f2, v2⟩⟩
      · unfold form
        show fx 8 _ ++ (uv (vecs _ _).1.length ++ (vb _ ++ tx _)) = b
        rw [vecs_length]
        rw [h4, List.append_nil] at t4
        rw [← t4, ← v3, ← u3]
        exact f3.symm
      · by_cases q : may ⟨(Rd.fixed 8 ⟨b, 0⟩).1, (vecs (Rd.fixed 8 ⟨b, 0⟩).2.uv.1 (Rd.fixed 8 ⟨b, 0⟩).2.uv.2).1, ((vecs (Rd.fixed 8 ⟨b, 0⟩).2.uv.1 (Rd.fixed 8 ⟨b, 0⟩).2.uv.2).2.text 1024).1⟩ = 0
        · exact q
        · exact absurd (.inr (.inr q)) h2
theorem may_zero {x : Itm} (h : may x = 0) : 1 ≤ x.vec.length ∧ x.vec.length ≤ 4096 ∧ x.note.length ≤ 1024 := by
  unfold may at h
  split at h
  · cases h
  · split at h
    · cases h
    · omega
theorem read_form {x : Itm} (hx : x.Ok) (hm : may x = 0) (z : List UInt8) : readR (form x ++ z) = if z = [] then some x else none := by
  obtain ⟨m1, m2, m3⟩ := may_zero hm
  have e1 : Rd.fixed 8 ⟨form x ++ z, 0⟩ = (x.key, ⟨uv x.vec.length ++ (vb x.vec ++ (tx x.note ++ z)), 0⟩) := by
    unfold form
    rw [List.append_assoc, back_fx (by have := hx.hk; omega), List.append_assoc, List.append_assoc]
  have e2 : Rd.uv ⟨uv x.vec.length ++ (vb x.vec ++ (tx x.note ++ z)), 0⟩ = (x.vec.length, ⟨vb x.vec ++ (tx x.note ++ z), 0⟩) := back_uv (by omega) _
  have e3 := back_vecs x.vec hx.hv (tx x.note ++ z) x.vec.length (Nat.le_refl _)
  rw [List.take_length, List.drop_length] at e3
  have e4 : Rd.text 1024 ⟨vb [] ++ (tx x.note ++ z), 0⟩ = (x.note, ⟨z, 0⟩) := back_tx (by omega) (by omega) z
  unfold readR
  rw [e1]
  simp only [e2, e3]
  rw [if_neg (by omega), e4]
  unfold fin
  simp only [ne_eq, not_true, false_or, hm, or_false]
  by_cases hz : z = []
  · subst hz; simp
  · simp [hz]
theorem read_cut {x : Itm} (hx : x.Ok) (hm : may x = 0) {j : Nat} (hj : j < (form x).length) : readR ((form x).take j) = none := by
  cases h : readR ((form x).take j) with
  | none => rfl
  | some y =>
    obtain ⟨h1, h2, h3⟩ := read_inv h
    have e := List.take_append_drop j (form x)
    rw [← h1] at e
    have q := read_form h3 h2 ((form x).drop j)
    rw [e, if_neg (by intro q; have := congrArg List.length q; rw [List.length_drop] at this; simp at this; omega)] at q
    have := read_form hx hm []
    rw [List.append_nil, if_pos rfl, q] at this
    cases this
end ItemM
end Go.Proofs.Ytaadfalklddhcaa
