/-
  What bytes are read as, as a record: its form is read as it, nothing else is; no program in sight.
  Conditions: none.
-/
import Derived.Test.YtaadfalklddhcaaZBj
/-! part -/
namespace Go.Proofs.Ytaadfalklddhcaa
open Go.RowKit
set_option linter.unusedVariables false
namespace CodeM
theorem back_fixed {m : Nat} (hm : m < 65536) (z : List UInt8) : Rd.fixed 2 ⟨fx 2 m ++ z, 0⟩ = (m, ⟨z, 0⟩) := by
  have hl := fx_length 2 m
  rw [fixed_ok (by rw [List.length_append, hl]; omega), List.take_left' hl, List.drop_left' hl, le_fx, Nat.mod_eq_of_lt (by omega)]
theorem back_uv {n : Nat} (hn : n < 2 ^ 64) (z : List UInt8) : Rd.uv ⟨uv n ++ z, 0⟩ = (n, ⟨z, 0⟩) := by
  rw [uv_ok (cnt_uv n z hn), List.drop_left]
theorem back_text {s : List UInt8} (hs : s.length < 2 ^ 64) (z : List UInt8) : Rd.text (s.length : Int) ⟨tx s ++ z, 0⟩ = (s, ⟨z, 0⟩) := by
  unfold tx
  rw [List.append_assoc]
  have hc := cnt_uv s.length (s ++ z) hs
  rw [text_ok hc (by omega) (by simp)]
  congr 1
  · rw [List.drop_left, List.take_left]
  · rw [← List.drop_drop, List.drop_left, List.drop_left]
theorem cut_text {s : List UInt8} (hs : s.length < 2 ^ 64) (j : Nat) (hj : j < (tx s).length) : (Rd.text (s.length : Int) ⟨(tx s).take j, 0⟩).2.e = 4 := by
  unfold tx at hj ⊢
  rcases Nat.lt_or_ge j (uv s.length).length with h | h
  · rw [List.take_append_of_le_length (by omega), text_none (cnt_cut h)]
  · obtain ⟨i, rfl⟩ : ∃ i, j = (uv s.length).length + i := ⟨j - (uv s.length).length, by omega⟩
    rw [List.length_append] at hj
    rw [List.take_length_add_append]
    have hc := cnt_uv s.length (s.take i) hs
    rw [text_short hc (by omega) (by simp; omega)]
theorem uv_keeps {l : List UInt8} : (Rd.uv ⟨l, 4⟩).2 = ⟨l, 4⟩ := by rw [uv_err (by omega)]
theorem text_keeps {l : List UInt8} {k : Int} : (Rd.text k ⟨l, 4⟩).2 = ⟨l, 4⟩ := by rw [text_err (by omega)]
/-- What was put, cut anywhere, is told. -/
theorem cut_all {m n : Nat} {s : List UInt8} (hm : m < 65536) (hn : n < 2 ^ 64) (hs : s.length < 2 ^ 64) (j : Nat) (hj : j < (fx 2 m ++ uv n ++ tx s).length) :
    (Rd.text (s.length : Int) (Rd.uv (Rd.fixed 2 ⟨(fx 2 m ++ uv n ++ tx s).take j, 0⟩).2).2).2.e = 4 := by
  have hl := fx_length 2 m
  rw [List.append_assoc] at hj ⊢
  rcases Nat.lt_or_ge j 2 with h | h
  · rw [fixed_fail (by rw [List.length_take]; omega), uv_keeps, text_keeps]
  · obtain ⟨i, rfl⟩ : ∃ i, j = (fx 2 m).length + i := ⟨j - 2, by omega⟩
    rw [List.take_length_add_append, back_fixed hm]
    rw [List.length_append] at hj
    simp only
    rcases Nat.lt_or_ge i (uv n).length with h2 | h2
    · rw [List.take_append_of_le_length (by omega), uv_fail (cnt_cut h2), text_keeps]
    · obtain ⟨i, rfl⟩ : ∃ i', i = (uv n).length + i' := ⟨i - (uv n).length, by omega⟩
      rw [List.length_append] at hj
      rw [List.take_length_add_append, back_uv hn]
      exact cut_text hs i (by omega)
end CodeM
end Go.Proofs.Ytaadfalklddhcaa
/-! part -/
namespace Go.Proofs.Ytaadfalklddhcaa
open Go.RowKit
set_option linter.unusedVariables false
/-- A record. -/
structure Itm where
  key : Nat
  vec : List Int
  note : List UInt8
/-- Its numbers are in range. -/
structure Itm.Ok (x : Itm) : Prop where
  hk : x.key < 18446744073709551616
  hv : ∀ v ∈ x.vec, -2147483648 ≤ v ∧ v < 2147483648
namespace ItemM
def u32 (v : Int) : Nat := (v % 4294967296).toNat
def i32 (n : Nat) : Int := ((n : Int) + 2147483648) % 4294967296 - 2147483648
theorem u32_lt (v : Int) : u32 v < 4294967296 := by unfold u32; omega
theorem i32_u32 {v : Int} (h : -2147483648 ≤ v ∧ v < 2147483648) : i32 (u32 v) = v := by unfold i32 u32; omega
theorem u32_i32 {n : Nat} (h : n < 4294967296) : u32 (i32 n) = n := by unfold i32 u32; omega
theorem i32_range (n : Nat) : -2147483648 ≤ i32 n ∧ i32 n < 2147483648 := by unfold i32; omega
/-- The components' bytes. -/
def vb (l : List Int) : List UInt8 := l.flatMap fun v => CodeM.fx 4 (u32 v)
theorem vb_length (l : List Int) : (vb l).length = 4 * l.length := by
  induction l with
  | nil => rfl
  | cons v l ih =>
    show (CodeM.fx 4 (u32 v) ++ vb l).length = _
    rw [List.length_append, CodeM.fx_length, ih, List.length_cons]; omega
theorem vb_snoc (l : List Int) (v : Int) : vb (l ++ [v]) = vb l ++ CodeM.fx 4 (u32 v) := by
  unfold vb
  rw [List.flatMap_append]; simp
def may (x : Itm) : Nat := if x.vec.length = 0 ∨ 4096 < x.vec.length then 9 else if 1024 < x.note.length then 3 else 0
def form (x : Itm) : List UInt8 := CodeM.fx 8 x.key ++ (CodeM.uv x.vec.length ++ (vb x.vec ++ CodeM.tx x.note))
def same (a b : Itm) : Bool := decide (a.key = b.key ∧ a.vec = b.vec ∧ a.note = b.note)
theorem same_iff (a b : Itm) : same a b = true ↔ a = b := by
  cases a; cases b
  simp [same]
theorem same_refl (a : Itm) : same a a = true := by simp [same]
theorem same_comm (a b : Itm) : same a b = same b a := by
  exact decide_eq_decide.2 ⟨fun h => ⟨h.1.symm, h.2.1.symm, h.2.2.symm⟩, fun h => ⟨h.1.symm, h.2.1.symm, h.2.2.symm⟩⟩
/-- So many components, one after the other. -/
def vecs : Nat → CodeM.Rd → List Int × CodeM.Rd
  | 0, r => ([], r)
  | i + 1, r => ((vecs i r).1 ++ [i32 ((vecs i r).2.fixed 4).1], ((vecs i r).2.fixed 4).2)
/-- What bytes are read as; none: the error. -/
def read (b : List UInt8) : Option Itm :=
  let k := CodeM.Rd.fixed 8 ⟨b, 0⟩
  let n := k.2.uv
  if n.2.e ≠ 0 ∨ 4096 < n.1 then none else
  let v := vecs n.1 n.2
  let t := v.2.text 1024
  if t.2.e ≠ 0 ∨ t.2.l ≠ [] ∨ n.1 = 0 then none else some ⟨k.1, v.1, t.1⟩
theorem vecs_length (i : Nat) (r : CodeM.Rd) : (vecs i r).1.length = i := by
  induction i with
  | zero => rfl
  | succ i ih => show ((vecs i r).1 ++ [_]).length = _; rw [List.length_append, ih]; rfl
theorem form_length (x : Itm) : (form x).length ≤ 4 * x.vec.length + x.note.length + 28 := by
  have h1 := (CodeM.uv_length x.vec.length).2
  have h2 := (CodeM.uv_length x.note.length).2
  unfold form CodeM.tx
  simp only [List.length_append, CodeM.fx_length, vb_length]; omega
theorem form_ne (x : Itm) : form x ≠ [] := by
  intro h
  have := congrArg List.length h
  unfold form at this
  simp only [List.length_append, CodeM.fx_length, List.length_nil] at this; omega
end ItemM
end Go.Proofs.Ytaadfalklddhcaa
/-! part -/
namespace Go.Proofs.Ytaadfalklddhcaa
open Go.RowKit
set_option linter.unusedVariables false
namespace CodeM
theorem back_fx {k m : Nat} (hm : m < 256 ^ k) (z : List UInt8) : Rd.fixed k ⟨fx k m ++ z, 0⟩ = (m, ⟨z, 0⟩) := by
  rw [fixed_ok (by rw [List.length_append, fx_length]; omega)]
  have e1 : (fx k m ++ z).take k = fx k m := by
    have := List.take_left' (l₂ := z) (fx_length k m); exact this
  have e2 : (fx k m ++ z).drop k = z := by
    have := List.drop_left' (l₂ := z) (fx_length k m); exact this
  rw [e1, e2, le_fx, Nat.mod_eq_of_lt hm]
theorem back_tx {most : Int} {s : List UInt8} (hs : (s.length : Int) ≤ most) (h64 : s.length < 2 ^ 64) (z : List UInt8) : Rd.text most ⟨tx s ++ z, 0⟩ = (s, ⟨z, 0⟩) := by
  have hc : cnt (tx s ++ z) = some (s.length, (uv s.length).length) := by
    unfold tx
    rw [List.append_assoc, cnt_uv _ _ h64]
  have hl : (tx s ++ z).length = (uv s.length).length + s.length + z.length := by unfold tx; simp; omega
  unfold Rd.text
  simp only [ne_eq, not_true, if_false, hc]
  rw [if_neg (by omega), if_neg (by omega)]
  have e1 : (tx s ++ z).drop (uv s.length).length = s ++ z := by
    unfold tx; rw [List.append_assoc, List.drop_left]
  have e2 : (tx s ++ z).drop ((uv s.length).length + s.length) = z := by
    rw [← List.drop_drop, e1, List.drop_left]
  rw [e1, e2, List.take_left]
theorem fixed_inv {r : Rd} {k : Nat} (h : (r.fixed k).2.e = 0) : r.e = 0 ∧ (r.fixed k).1 < 256 ^ k ∧ r.l = fx k (r.fixed k).1 ++ (r.fixed k).2.l := by
  obtain ⟨l, e⟩ := r
  by_cases he : e = 0
  · subst he
    by_cases hl : l.length < k
    · rw [fixed_fail hl] at h; cases h
    · rw [fixed_ok hl]
      refine ⟨rfl, le_take_lt l k (by omega), ?_⟩
      have : fx k (le (l.take k)) = l.take k := by
        have := fx_le (l.take k)
        rwa [List.length_take, Nat.min_eq_left (by omega)] at this
      show l = fx k (le (l.take k)) ++ l.drop k
      rw [this, List.take_append_drop]
  · rw [fixed_err he] at h; exact absurd h he
theorem uv_inv {r : Rd} (h : (r.uv).2.e = 0) : r.e = 0 ∧ (r.uv).1 < 2 ^ 64 ∧ r.l = uv (r.uv).1 ++ (r.uv).2.l := by
  obtain ⟨l, e⟩ := r
  by_cases he : e = 0
  · subst he
    cases hc : cnt l with
    | none => rw [uv_fail hc] at h; cases h
    | some q =>
      obtain ⟨n, k⟩ := q
      obtain ⟨h1, _, h2, _, h3⟩ := cnt_some hc
      rw [uv_ok hc]
      refine ⟨rfl, h1, ?_⟩
      show l = uv n ++ l.drop k
      rw [← h3, List.take_append_drop]
  · rw [uv_err he] at h; exact absurd h he
theorem text_inv {r : Rd} {most : Int} (h : (r.text most).2.e = 0) : r.e = 0 ∧ ((r.text most).1.length : Int) ≤ max 0 most ∧ (r.text most).1.length < 2 ^ 64 ∧ r.l = tx (r.text most).1 ++ (r.text most).2.l := by
  obtain ⟨l, e⟩ := r
  by_cases he : e = 0
  · subst he
    cases hc : cnt l with
    | none => simp [Rd.text, hc] at h
    | some q =>
      obtain ⟨n, k⟩ := q
      obtain ⟨h1, _, h2, _, h3⟩ := cnt_some hc
      by_cases hm : max 0 most < (n : Int)
      · unfold Rd.text at h
        simp only [ne_eq, not_true, if_false, hc] at h
        rw [if_pos hm] at h; cases h
      · by_cases hn : l.length - k < n
        · unfold Rd.text at h
          simp only [ne_eq, not_true, if_false, hc] at h
          rw [if_neg hm, if_pos hn] at h; cases h
        · have e1 : Rd.text most ⟨l, 0⟩ = ((l.drop k).take n, ⟨l.drop (k + n), 0⟩) := by
            unfold Rd.text
            simp only [ne_eq, not_true, if_false, hc]
            rw [if_neg hm, if_neg hn]
          have e2 : ((l.drop k).take n).length = n := by rw [List.length_take, List.length_drop]; omega
          rw [e1]
          refine ⟨rfl, by show (((l.drop k).take n).length : Int) ≤ _; rw [e2]; omega, by show ((l.drop k).take n).length < _; rw [e2]; exact h1, ?_⟩
          show l = tx ((l.drop k).take n) ++ l.drop (k + n)
          unfold tx
          rw [e2, ← h3, List.append_assoc, ← List.drop_drop, List.take_append_drop, List.take_append_drop]
  · rw [text_err he] at h; exact absurd h he
theorem fixed_stuck {r : Rd} {k : Nat} (h : r.e ≠ 0) : r.fixed k = (0, r) := by simp [Rd.fixed, h]
theorem uv_stuck {r : Rd} (h : r.e ≠ 0) : r.uv = (0, r) := by simp [Rd.uv, h]
theorem text_stuck {r : Rd} {most : Int} (h : r.e ≠ 0) : r.text most = ([], r) := by simp [Rd.text, h]
end CodeM
end Go.Proofs.Ytaadfalklddhcaa
/-! part -/
namespace Go.Proofs.Ytaadfalklddhcaa
open Go.RowKit
set_option linter.unusedVariables false
namespace ItemM
open CodeM
theorem vecs_stuck (n : Nat) {r : Rd} (h : r.e ≠ 0) : (vecs n r).2 = r := by
  induction n with
  | zero => rfl
  | succ n ih =>
    show ((vecs n r).2.fixed 4).2 = r
    rw [ih, fixed_stuck h]
theorem vecs_inv (n : Nat) {r : Rd} (h : (vecs n r).2.e = 0) : r.e = 0 ∧ (∀ v ∈ (vecs n r).1, -2147483648 ≤ v ∧ v < 2147483648) ∧ r.l = vb (vecs n r).1 ++ (vecs n r).2.l := by
  induction n with
  | zero => exact ⟨h, fun v hv => (by cases hv), rfl⟩
  | succ n ih =>
    have h' : ((vecs n r).2.fixed 4).2.e = 0 := h
    obtain ⟨h1, h2, h3⟩ := fixed_inv h'
    obtain ⟨g1, g2, g3⟩ := ih h1
    refine ⟨g1, ?_, ?_⟩
    · intro v hv
      have hv' : v ∈ (vecs n r).1 ++ [i32 ((vecs n r).2.fixed 4).1] := hv
      rcases List.mem_append.1 hv' with hv' | hv'
      · exact g2 v hv'
      · rw [List.mem_singleton] at hv'; rw [hv']; exact i32_range _
    · show r.l = vb ((vecs n r).1 ++ [i32 ((vecs n r).2.fixed 4).1]) ++ ((vecs n r).2.fixed 4).2.l
      rw [vb_snoc, u32_i32 (by simpa using h2), List.append_assoc, ← h3]
      exact g3
theorem back_vecs (l : List Int) (hl : ∀ v ∈ l, -2147483648 ≤ v ∧ v < 2147483648) (z : List UInt8) : ∀ n, n ≤ l.length → vecs n ⟨vb l ++ z, 0⟩ = (l.take n, ⟨vb (l.drop n) ++ z, 0⟩)
  | 0, _ => rfl
  | n + 1, h => by
    have ih := back_vecs l hl z n (by omega)
    obtain ⟨u, hu⟩ : ∃ u, l[n]? = some u := ⟨_, List.getElem?_eq_getElem h⟩
    obtain ⟨h1, h2⟩ := List.getElem?_eq_some_iff.1 hu
    have e : l.drop n = u :: l.drop (n + 1) := by rw [← List.getElem_cons_drop h1, h2]
    have e2 : vb (l.drop n) ++ z = fx 4 (u32 u) ++ (vb (l.drop (n + 1)) ++ z) := by
      rw [e]
      show (fx 4 (u32 _) ++ vb _) ++ z = _
      rw [List.append_assoc]
    have e3 : (vecs n ⟨vb l ++ z, 0⟩).2.fixed 4 = (u32 u, ⟨vb (l.drop (n + 1)) ++ z, 0⟩) := by
      rw [ih]
      show Rd.fixed 4 ⟨vb (l.drop n) ++ z, 0⟩ = _
      have h5 := u32_lt u
      rw [e2, back_fx (k := 4) h5]
    have e4 : i32 (u32 u) = u := i32_u32 (hl _ (List.mem_of_getElem? hu))
    show ((vecs n ⟨vb l ++ z, 0⟩).1 ++ [i32 ((vecs n ⟨vb l ++ z, 0⟩).2.fixed 4).1], ((vecs n ⟨vb l ++ z, 0⟩).2.fixed 4).2) = _
    rw [e3, ih, List.take_add_one, hu]
    show (l.take n ++ [i32 (u32 u)], _) = _
    rw [e4]; rfl
/-- The end of both readings. -/
def fin (k : Nat) (v : List Int) (t : List UInt8 × Rd) : Option Itm := if t.2.e ≠ 0 ∨ t.2.l ≠ [] ∨ may ⟨k, v, t.1⟩ ≠ 0 then none else some ⟨k, v, t.1⟩
/-- The document's reading, and the program's. -/
def readR (b : List UInt8) : Option Itm :=
  if (Rd.fixed 8 ⟨b, 0⟩).2.uv.2.e ≠ 0 ∨ 4096 < (Rd.fixed 8 ⟨b, 0⟩).2.uv.1 then none
  else fin (Rd.fixed 8 ⟨b, 0⟩).1 (vecs (Rd.fixed 8 ⟨b, 0⟩).2.uv.1 (Rd.fixed 8 ⟨b, 0⟩).2.uv.2).1 ((vecs (Rd.fixed 8 ⟨b, 0⟩).2.uv.1 (Rd.fixed 8 ⟨b, 0⟩).2.uv.2).2.text 1024)
def readP (b : List UInt8) : Option Itm :=
  if 4096 < (Rd.fixed 8 ⟨b, 0⟩).2.uv.1 ∨ (Rd.fixed 8 ⟨b, 0⟩).2.uv.2.l.length < 4 * (Rd.fixed 8 ⟨b, 0⟩).2.uv.1 then none
  else fin (Rd.fixed 8 ⟨b, 0⟩).1 (vecs (Rd.fixed 8 ⟨b, 0⟩).2.uv.1 (Rd.fixed 8 ⟨b, 0⟩).2.uv.2).1 ((vecs (Rd.fixed 8 ⟨b, 0⟩).2.uv.1 (Rd.fixed 8 ⟨b, 0⟩).2.uv.2).2.text 1024)
theorem fin_bad {k : Nat} {v : List Int} {r : Rd} (h : r.e ≠ 0) : fin k v (r.text 1024) = none := by
  unfold fin
  rw [text_stuck h, if_pos (.inl h)]
theorem readP_eq (b : List UInt8) : readP b = readR b := by
  unfold readP readR
  by_cases hn : 4096 < (Rd.fixed 8 ⟨b, 0⟩).2.uv.1
  · rw [if_pos (.inl hn), if_pos (.inr hn)]
  · by_cases he : (Rd.fixed 8 ⟨b, 0⟩).2.uv.2.e = 0
    · rw [if_neg (c := _ ∨ 4096 < _) (fun h => h.elim (fun q => q he) hn)]
      by_cases hl : (Rd.fixed 8 ⟨b, 0⟩).2.uv.2.l.length < 4 * (Rd.fixed 8 ⟨b, 0⟩).2.uv.1
      · rw [if_pos (.inr hl), fin_bad]
        intro h0
        obtain ⟨_, _, h3⟩ := vecs_inv _ h0
        have := congrArg List.length h3
        rw [List.length_append, vb_length, vecs_length] at this
        omega
      · rw [if_neg (fun h => h.elim hn hl)]
    · rw [if_pos (c := _ ∨ 4096 < _) (.inl he)]
      have h0 : (Rd.fixed 8 ⟨b, 0⟩).2.uv.1 = 0 := by
        generalize (Rd.fixed 8 ⟨b, 0⟩).2 = r at he ⊢
        obtain ⟨l, e⟩ := r
        by_cases h1 : e = 0
        · subst h1
          cases hc : cnt l with
          | none => rw [uv_fail hc]
          | some q => obtain ⟨n, k⟩ := q; rw [uv_ok hc] at he; exact absurd rfl he
        · rw [uv_err h1]
      rw [if_neg (by omega), h0]
      exact fin_bad he
theorem read_inv {b : List UInt8} {x : Itm} (h : readR b = some x) : form x = b ∧ may x = 0 ∧ x.Ok := by
  unfold readR at h
  by_cases h1 : (Rd.fixed 8 ⟨b, 0⟩).2.uv.2.e ≠ 0 ∨ 4096 < (Rd.fixed 8 ⟨b, 0⟩).2.uv.1
  · rw [if_pos h1] at h; cases h
  · rw [if_neg h1] at h
    unfold fin at h
    split at h
    · cases h
    · rename_i h2
      injection h with h
      have h3 : ((vecs (Rd.fixed 8 ⟨b, 0⟩).2.uv.1 (Rd.fixed 8 ⟨b, 0⟩).2.uv.2).2.text 1024).2.e = 0 := by
        by_cases q : ((vecs (Rd.fixed 8 ⟨b, 0⟩).2.uv.1 (Rd.fixed 8 ⟨b, 0⟩).2.uv.2).2.text 1024).2.e = 0
        · exact q
        · exact absurd (.inl q) h2
      have h4 : ((vecs (Rd.fixed 8 ⟨b, 0⟩).2.uv.1 (Rd.fixed 8 ⟨b, 0⟩).2.uv.2).2.text 1024).2.l = [] := by
        by_cases q : ((vecs (Rd.fixed 8 ⟨b, 0⟩).2.uv.1 (Rd.fixed 8 ⟨b, 0⟩).2.uv.2).2.text 1024).2.l = []
        · exact q
        · exact absurd (.inr (.inl q)) h2
      obtain ⟨t1, t2, t3, t4⟩ := text_inv h3
      obtain ⟨v1, v2, v3⟩ := vecs_inv _ t1
      obtain ⟨u1, u2, u3⟩ := uv_inv v1
      obtain ⟨f1, f2, f3⟩ := fixed_inv u1
      subst h
      refine ⟨?_, ?_, ⟨by simpa using f2, v2⟩⟩
      · unfold form
        show fx 8 _ ++ (uv (vecs _ _).1.length ++ (vb _ ++ tx _)) = b
        rw [vecs_length]
        rw [h4, List.append_nil] at t4
        rw [← t4, ← v3, ← u3]
        exact f3.symm
      · by_cases q : may ⟨(Rd.fixed 8 ⟨b, 0⟩).1, (vecs (Rd.fixed 8 ⟨b, 0⟩).2.uv.1 (Rd.fixed 8 ⟨b, 0⟩).2.uv.2).1, ((vecs (Rd.fixed 8 ⟨b, 0⟩).2.uv.1 (Rd.fixed 8 ⟨b, 0⟩).2.uv.2).2.text 1024).1⟩ = 0
        · exact q
        · exact absurd (.inr (.inr q)) h2
theorem may_zero {x : Itm} (h : may x = 0) : 1 ≤ x.vec.length ∧ x.vec.length ≤ 4096 ∧ x.note.length ≤ 1024 := by
  unfold may at h
  split at h
  · cases h
  · split at h
    · cases h
    · omega
theorem read_form {x : Itm} (hx : x.Ok) (hm : may x = 0) (z : List UInt8) : readR (form x ++ z) = if z = [] then some x else none := by
  obtain ⟨m1, m2, m3⟩ := may_zero hm
  have e1 : Rd.fixed 8 ⟨form x ++ z, 0⟩ = (x.key, ⟨uv x.vec.length ++ (vb x.vec ++ (tx x.note ++ z)), 0⟩) := by
    unfold form
    rw [List.append_assoc, back_fx (by have := hx.hk; omega), List.append_assoc, List.append_assoc]
  have e2 : Rd.uv ⟨uv x.vec.length ++ (vb x.vec ++ (tx x.note ++ z)), 0⟩ = (x.vec.length, ⟨vb x.vec ++ (tx x.note ++ z), 0⟩) := back_uv (by omega) _
  have e3 := back_vecs x.vec hx.hv (tx x.note ++ z) x.vec.length (Nat.le_refl _)
  rw [List.take_length, List.drop_length] at e3
  have e4 : Rd.text 1024 ⟨vb [] ++ (tx x.note ++ z), 0⟩ = (x.note, ⟨z, 0⟩) := back_tx (by omega) (by omega) z
  unfold readR
  rw [e1]
  simp only [e2, e3]
  rw [if_neg (by omega), e4]
  unfold fin
  simp only [ne_eq, not_true, false_or, hm, or_false]
  by_cases hz : z = []
  · subst hz; simp
  · simp [hz]
theorem read_cut {x : Itm} (hx : x.Ok) (hm : may x = 0) {j : Nat} (hj : j < (form x).length) : readR ((form x).take j) = none := by
  cases h : readR ((form x).take j) with
  | none => rfl
  | some y =>
    obtain ⟨h1, h2, h3⟩ := read_inv h
    have e := List.take_append_drop j (form x)
    rw [← h1] at e
    have q := read_form h3 h2 ((form x).drop j)
    rw [e, if_neg (by intro q; have := congrArg List.length q; rw [List.length_drop] at this; simp at this; omega)] at q
    have := read_form hx hm []
    rw [List.append_nil, if_pos rfl, q] at this
    cases this
end ItemM
end Go.Proofs.Ytaadfalklddhcaa
