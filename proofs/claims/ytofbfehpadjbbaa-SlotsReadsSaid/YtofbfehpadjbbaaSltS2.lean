/-
  The document's reading of a slotted body, in plain words; it reads what the program reads.
  Conditions: none.
-/
import Derived.Test.YtofbfehpadjbbaaSltR2
namespace Go.Proofs.Ytofbfehpadjbbaa
open Go.RowKit
set_option linter.unusedVariables false
namespace SltM
open Classical
def parseB : List Nat → List UInt8 → Option (List Bool × List (List UInt8) × List UInt8)
  | [], B => some ([], [], B)
  | z :: zs, B => if B.length < z - 1 then none else (parseB zs (B.drop (z - 1))).map fun r => (decide (0 < z) :: r.1, B.take (z - 1) :: r.2.1, r.2.2)
/-- What is left to read. -/
def restB (zs : List Nat) (i : Nat) (B : List UInt8) (fl : List Bool) (ds : List (List UInt8)) : Option (List Bool × List (List UInt8) × List UInt8) :=
  (parseB (zs.drop i) B).map fun r => (fl ++ r.1, ds ++ r.2.1, r.2.2)
theorem restB_start (zs : List Nat) (B : List UInt8) : restB zs 0 B [] [] = parseB zs B := by
  unfold restB
  rw [List.drop_zero]
  cases parseB zs B <;> rfl
theorem restB_end {zs : List Nat} {i : Nat} (h : zs.length ≤ i) (B : List UInt8) (fl : List Bool) (ds : List (List UInt8)) : restB zs i B fl ds = some (fl, ds, B) := by
  unfold restB
  rw [List.drop_eq_nil_of_le h]
  show some (fl ++ [], ds ++ [], B) = _
  rw [List.append_nil, List.append_nil]
theorem restB_none {zs : List Nat} {i z : Nat} {B : List UInt8} {fl : List Bool} {ds : List (List UInt8)} (hz : zs[i]? = some z) (h : B.length < z - 1) : restB zs i B fl ds = none := by
  obtain ⟨hi, e⟩ := List.getElem?_eq_some_iff.1 hz
  unfold restB
  rw [List.drop_eq_getElem_cons hi, e]
  show Option.map _ (if B.length < z - 1 then none else _) = none
  rw [if_pos h]; rfl
theorem restB_step {zs : List Nat} {i z : Nat} {B : List UInt8} {fl : List Bool} {ds : List (List UInt8)} (hz : zs[i]? = some z) (h : ¬ B.length < z - 1) : restB zs i B fl ds = restB zs (i + 1) (B.drop (z - 1)) (fl ++ [decide (0 < z)]) (ds ++ [B.take (z - 1)]) := by
  obtain ⟨hi, e⟩ := List.getElem?_eq_some_iff.1 hz
  unfold restB
  rw [List.drop_eq_getElem_cons hi, e]
  show Option.map _ (if B.length < z - 1 then none else _) = _
  rw [if_neg h]
  cases parseB (zs.drop (i + 1)) (B.drop (z - 1)) with
  | none => rfl
  | some r => simp
theorem parse_drop (l : List UInt8) (hl : l.length = 500) : ∀ (zs : List Nat) (a : Nat), a ≤ 500 → parse l zs a = (parseB zs (l.drop a)).map fun r => (r.1, r.2.1, 500 - r.2.2.length)
  | [], a, h => by
    show some ([], [], a) = some ([], [], 500 - (l.drop a).length)
    rw [List.length_drop, hl, Nat.sub_sub_self h]
  | z :: zs, a, h => by
    show (if 500 < a + (z - 1) then none else _) = Option.map _ (if (l.drop a).length < z - 1 then none else _)
    rw [List.length_drop, hl]
    by_cases h5 : 500 < a + (z - 1)
    · rw [if_pos h5, if_pos (by omega)]; rfl
    · rw [if_neg h5, if_neg (by omega), parse_drop l hl zs (a + (z - 1)) (by omega), List.drop_drop]
      cases parseB zs (l.drop (a + (z - 1))) <;> rfl
theorem parseB_data : ∀ (zs : List Nat) (B : List UInt8) (fl : List Bool) (ds : List (List UInt8)) (B' : List UInt8), parseB zs B = some (fl, ds, B') → fl.length = zs.length ∧ ds.length = zs.length ∧ ds.flatten ++ B' = B ∧ nums fl ds = zs.flatMap (CodeM.fx 2)
  | [], B, fl, ds, B', h => by
    have h : some ([], [], B) = some (fl, ds, B') := h
    injection h with h
    injection h with h1 h2
    injection h2 with h2 h3
    subst h1 h2 h3
    exact ⟨rfl, rfl, rfl, rfl⟩
  | z :: zs, B, fl, ds, B', h => by
    have h : (if B.length < z - 1 then none else (parseB zs (B.drop (z - 1))).map fun r => (decide (0 < z) :: r.1, B.take (z - 1) :: r.2.1, r.2.2)) = some (fl, ds, B') := h
    by_cases h5 : B.length < z - 1
    · rw [if_pos h5] at h; cases h
    · rw [if_neg h5] at h
      cases hp : parseB zs (B.drop (z - 1)) with
      | none => rw [hp] at h; cases h
      | some r =>
        obtain ⟨r1, r2, r3⟩ := r
        rw [hp] at h
        injection h with h
        injection h with h1 h2
        injection h2 with h2 h3
        obtain ⟨i1, i2, i3, i4⟩ := parseB_data zs _ _ _ _ hp
        simp only at h1 h2 h3
        subst h1 h2 h3
        refine ⟨by simp [i1], by simp [i2], ?_, ?_⟩
        · rw [List.flatten_cons, List.append_assoc, i3, List.take_append_drop]
        · show CodeM.fx 2 (num (decide (0 < z)) (B.take (z - 1))) ++ nums r1 r2 = CodeM.fx 2 z ++ zs.flatMap (CodeM.fx 2)
          rw [i4]
          congr 2
          unfold num
          rw [List.length_take, Nat.min_eq_left (by omega)]
          by_cases hz : 0 < z
          · rw [decide_eq_true hz]; simp; omega
          · rw [decide_eq_false hz]; simp; omega
theorem sizes_flat (l : List UInt8) : ∀ (m a : Nat), a + 2 * m ≤ l.length → (sizes l m a).flatMap (CodeM.fx 2) = (l.drop a).take (2 * m)
  | 0, a, _ => rfl
  | m + 1, a, h => by
    show CodeM.fx 2 (CodeM.le ((l.drop a).take 2)) ++ (sizes l m (a + 2)).flatMap (CodeM.fx 2) = _
    rw [sizes_flat l m (a + 2) (by omega)]
    have h1 : CodeM.fx 2 (CodeM.le ((l.drop a).take 2)) = (l.drop a).take 2 := by
      have := CodeM.fx_le ((l.drop a).take 2)
      rwa [List.length_take, List.length_drop, Nat.min_eq_left (by omega)] at this
    rw [h1, show 2 * (m + 1) = 2 + 2 * m by omega, List.take_add, List.drop_drop]
theorem sizes_length (l : List UInt8) : ∀ (m a : Nat), (sizes l m a).length = m
  | 0, _ => rfl
  | m + 1, a => by show (sizes l m (a + 2)).length + 1 = _; rw [sizes_length l m]
theorem sizes_snoc (l : List UInt8) : ∀ (m a : Nat), sizes l (m + 1) a = sizes l m a ++ [CodeM.le ((l.drop (a + 2 * m)).take 2)]
  | 0, _ => rfl
  | m + 1, a => by
    show CodeM.le ((l.drop a).take 2) :: sizes l (m + 1) (a + 2) = (CodeM.le ((l.drop a).take 2) :: sizes l m (a + 2)) ++ _
    rw [sizes_snoc l m (a + 2), show a + 2 + 2 * m = a + 2 * (m + 1) by omega]; rfl
theorem core_read {l : List UInt8} {k0 k1 m : Nat} {fl : List Bool} {ds : List (List UInt8)} {B : List UInt8} (hl : l.length = 500) (h0 : (l.headD 0).toNat = k0) (h1 : CodeM.le ((l.drop 1).take 4) = k1) (hm : ((l.drop 5).headD 0).toNat = m) (hm7 : m ≤ 247)
    (h : parseB (sizes l m 6) (l.drop (6 + 2 * m)) = some (fl, ds, B)) : core ⟨k0, k1, fl, ds⟩ ++ B = l := by
  obtain ⟨i1, i2, i3, i4⟩ := parseB_data _ _ _ _ _ h
  rw [sizes_length] at i1 i2
  rw [sizes_flat l m 6 (by omega)] at i4
  unfold core
  show [CodeM.byte k0] ++ CodeM.fx 4 k1 ++ [CodeM.byte ds.length] ++ nums fl ds ++ ds.flatten ++ B = l
  have e4 : CodeM.fx 4 k1 = (l.drop 1).take 4 := by
    rw [← h1]
    have := CodeM.fx_le ((l.drop 1).take 4)
    rwa [List.length_take, List.length_drop, Nat.min_eq_left (by omega)] at this
  have b : ∀ u : UInt8, CodeM.byte u.toNat = u := fun u => by unfold CodeM.byte; simp
  rw [List.append_assoc _ ds.flatten B, i3, i4, e4, i2, ← h0, ← hm, b, b, hm]
  have e5 : [(l.drop 5).headD 0] = (l.drop 5).take 1 := by
    cases hd : l.drop 5 with
    | nil => have := congrArg List.length hd; rw [List.length_drop, hl] at this; simp at this
    | cons u t => rfl
  have e0 : [l.headD 0] = l.take 1 := by
    cases l with
    | nil => simp at hl
    | cons u t => rfl
  rw [e0, e5]
  have s1 : l.take 1 ++ (l.drop 1).take 4 = l.take 5 := by rw [show 5 = 1 + 4 from rfl, List.take_add]
  have s2 : l.take 5 ++ (l.drop 5).take 1 = l.take 6 := by rw [show 6 = 5 + 1 from rfl, List.take_add]
  have s3 : l.take 6 ++ (l.drop 6).take (2 * m) = l.take (6 + 2 * m) := by rw [List.take_add]
  rw [s1, s2, s3, List.take_append_drop]
/-- The form is the bytes just where nothing but zeros is left. -/
theorem form_zeros {l : List UInt8} {s : Slt} {B : List UInt8} (hl : l.length = 500) (h : core s ++ B = l) : form s = l ↔ ∀ u ∈ B, u = 0 := by
  have hlen : (core s).length + B.length = 500 := by rw [← hl, ← h, List.length_append]
  unfold form
  constructor
  · intro e
    rw [← h] at e
    have e := List.append_cancel_left e
    intro u hu
    rw [← e] at hu
    exact (List.mem_replicate.1 hu).2
  · intro hz
    rw [← h]
    congr 1
    symm
    refine List.eq_replicate_iff.2 ⟨by omega, hz⟩
theorem readP_many {l : List UInt8} {m : Nat} (hm : ((l.drop 5).headD 0).toNat = m) (h : 247 < m) : readP l = none := by
  refine readP_none hm ?_
  obtain ⟨k, rfl⟩ : ∃ k, m = k + 1 := ⟨m - 1, by omega⟩
  show (if 500 < 6 + 2 * (k + 1) + _ then none else _) = none
  rw [if_pos (by omega)]
theorem readP_refnone {l : List UInt8} {m : Nat} (hl : l.length = 500) (hm : ((l.drop 5).headD 0).toNat = m) (hm7 : m ≤ 247) (h : parseB (sizes l m 6) (l.drop (6 + 2 * m)) = none) : readP l = none := by
  refine readP_none hm ?_
  rw [parse_drop l hl _ _ (by omega), h]; rfl
theorem readP_ref {l : List UInt8} {k0 k1 m : Nat} {fl : List Bool} {ds : List (List UInt8)} {B : List UInt8} (hl : l.length = 500) (h0 : (l.headD 0).toNat = k0) (h1 : CodeM.le ((l.drop 1).take 4) = k1) (hm : ((l.drop 5).headD 0).toNat = m) (hm7 : m ≤ 247)
    (h : parseB (sizes l m 6) (l.drop (6 + 2 * m)) = some (fl, ds, B)) : readP l = if May ⟨k0, k1, fl, ds⟩ ∧ form ⟨k0, k1, fl, ds⟩ = l then some ⟨k0, k1, fl, ds⟩ else none := by
  have hc := core_read hl h0 h1 hm hm7 h
  have hp := parse_drop l hl (sizes l m 6) (6 + 2 * m) (by omega)
  rw [h] at hp
  rw [readP_some hl h0 h1 hm hp]
  have hB : l.drop (500 - B.length) = B := by
    have hlen : (core ⟨k0, k1, fl, ds⟩).length + B.length = 500 := by rw [← hl, ← hc, List.length_append]
    conv => lhs; rw [← hc]
    rw [List.drop_append_of_le_length (by omega), List.drop_eq_nil_of_le (by omega), List.nil_append]
  rw [hB]
  simp only [form_zeros hl hc]
end SltM
end Go.Proofs.Ytofbfehpadjbbaa
