/-
  The reading of a slotted body, in plain words; a form is read as its body.
  Conditions: none.
-/
import Derived.Test.YtofbfehpadjbbaaSltB2
namespace Go.Proofs.Ytofbfehpadjbbaa
open Go.RowKit
set_option linter.unusedVariables false
namespace SltM
open Classical
def sizes (l : List UInt8) : Nat → Nat → List Nat
  | 0, _ => []
  | k + 1, a => CodeM.le ((l.drop a).take 2) :: sizes l k (a + 2)
def parse (l : List UInt8) : List Nat → Nat → Option (List Bool × List (List UInt8) × Nat)
  | [], a => some ([], [], a)
  | z :: zs, a => if 500 < a + (z - 1) then none else (parse l zs (a + (z - 1))).map fun r => (decide (0 < z) :: r.1, (l.drop a).take (z - 1) :: r.2.1, r.2.2)
/-- What any bytes are read as. -/
noncomputable def readP (l : List UInt8) : Option Slt :=
  if l.length ≠ 500 then none else
  match parse l (sizes l ((l.drop 5).headD 0).toNat 6) (6 + 2 * ((l.drop 5).headD 0).toNat) with
  | none => none
  | some r => if May ⟨(l.headD 0).toNat, CodeM.le ((l.drop 1).take 4), r.1, r.2.1⟩ ∧ (∀ u ∈ l.drop r.2.2, u = 0) then some ⟨(l.headD 0).toNat, CodeM.le ((l.drop 1).take 4), r.1, r.2.1⟩ else none
theorem sizes_nums (l : List UInt8) : ∀ (full : List Bool) (data : List (List UInt8)) (pre post : List UInt8), full.length = data.length → (∀ x ∈ data, x.length ≤ 1000) → l = pre ++ nums full data ++ post → sizes l data.length pre.length = List.zipWith num full data
  | [], [], _, _, _, _, _ => rfl
  | b :: f, [], _, _, h, _, _ => by cases h
  | [], x :: d, _, _, h, _, _ => by cases h
  | b :: f, x :: d, pre, post, h, hx, hl => by
    have e1 : nums (b :: f) (x :: d) = CodeM.fx 2 (num b x) ++ nums f d := rfl
    rw [e1] at hl
    have hb : num b x < 65536 := by unfold num; have := hx x (by simp); split <;> omega
    have h2 : (l.drop pre.length).take 2 = CodeM.fx 2 (num b x) := by
      rw [hl, List.append_assoc, List.append_assoc, List.drop_left]
      have t := List.take_left (l₁ := CodeM.fx 2 (num b x)) (l₂ := nums f d ++ post)
      rw [CodeM.fx_length] at t
      exact t
    have ih := sizes_nums l f d (pre ++ CodeM.fx 2 (num b x)) post (by simpa using h) (fun y hy => hx y (by simp [hy])) (by rw [hl]; simp [List.append_assoc])
    rw [List.length_append, CodeM.fx_length] at ih
    show CodeM.le ((l.drop pre.length).take 2) :: sizes l d.length (pre.length + 2) = num b x :: List.zipWith num f d
    rw [h2, ih, CodeM.le_fx, Nat.mod_eq_of_lt (by omega)]
theorem parse_data (l : List UInt8) (hl500 : l.length = 500) : ∀ (full : List Bool) (data : List (List UInt8)) (pre post : List UInt8), full.length = data.length → (∀ i : Nat, full[i]? = some false → data[i]? = some []) → l = pre ++ data.flatten ++ post →
    parse l (List.zipWith num full data) pre.length = some (full, data, pre.length + data.flatten.length)
  | [], [], _, _, _, _, _ => rfl
  | b :: f, [], _, _, h, _, _ => by cases h
  | [], x :: d, _, _, h, _, _ => by cases h
  | b :: f, x :: d, pre, post, h, hn, hl => by
    have hz : num b x - 1 = x.length := by
      cases b with
      | true => simp [num]
      | false =>
        have := hn 0 rfl
        injection this with this
        subst this
        rfl
    have hd : decide (0 < num b x) = b := by cases b <;> simp [num]
    rw [List.flatten_cons] at hl
    have hle : pre.length + x.length ≤ 500 := by
      rw [← hl500, hl]; simp only [List.length_append]; omega
    have hx : (l.drop pre.length).take x.length = x := by
      rw [hl, List.append_assoc, List.append_assoc, List.drop_left, List.take_left]
    have ih := parse_data l hl500 f d (pre ++ x) post (by simpa using h) (fun i hi => by have := hn (i + 1) (by simpa using hi); simpa using this) (by rw [hl]; simp [List.append_assoc])
    rw [List.length_append] at ih
    show (if 500 < pre.length + (num b x - 1) then none else (parse l (List.zipWith num f d) (pre.length + (num b x - 1))).map fun r => (decide (0 < num b x) :: r.1, (l.drop pre.length).take (num b x - 1) :: r.2.1, r.2.2)) = _
    rw [hz, if_neg (by omega), ih, hd, hx, List.flatten_cons, List.length_append]
    simp only [Option.map_some]
    rw [Nat.add_assoc]
theorem read_form {s : Slt} (h : May s) (hk : s.kind < 256) (hnx : s.next < 4294967296) : readP (form s) = some s := by
  have hlen := form_length h
  have hroom := h.room
  unfold left at hroom
  have hx : ∀ x ∈ s.data, x.length ≤ 1000 := fun x hx => by
    obtain ⟨j, hj, e⟩ := List.getElem_of_mem hx
    have := sum_get (l := s.data) (k := j) (x := x) (by rw [List.getElem?_eq_getElem hj, e])
    omega
  obtain ⟨zs, hzs⟩ : ∃ zs, List.replicate (500 - (core s).length) (0 : UInt8) = zs := ⟨_, rfl⟩
  have hz0 : ∀ u ∈ zs, u = 0 := by rw [← hzs]; intro u hu; exact (List.mem_replicate.1 hu).2
  obtain ⟨hd, hhd⟩ : ∃ hd, [CodeM.byte s.kind] ++ CodeM.fx 4 s.next ++ [CodeM.byte s.data.length] = hd := ⟨_, rfl⟩
  have hl6 : hd.length = 6 := by rw [← hhd, List.length_append, List.length_append, CodeM.fx_length]; rfl
  have hf : form s = hd ++ nums s.full s.data ++ s.data.flatten ++ zs := by unfold form; rw [hzs]; unfold core; rw [hhd]
  have hf2 : form s = CodeM.byte s.kind :: (CodeM.fx 4 s.next ++ (CodeM.byte s.data.length :: (nums s.full s.data ++ s.data.flatten ++ zs))) := by rw [hf, ← hhd]; simp [List.append_assoc]
  have e0 : ((form s).headD 0).toNat = s.kind := by rw [hf2]; exact CodeM.ofNat_toNat _ hk
  have e1 : (form s).drop 1 = CodeM.fx 4 s.next ++ (CodeM.byte s.data.length :: (nums s.full s.data ++ s.data.flatten ++ zs)) := by rw [hf2]; rfl
  have e2 : CodeM.le (((form s).drop 1).take 4) = s.next := by
    rw [e1]
    have := List.take_left (l₁ := CodeM.fx 4 s.next) (l₂ := CodeM.byte s.data.length :: (nums s.full s.data ++ s.data.flatten ++ zs))
    rw [CodeM.fx_length] at this
    rw [this, CodeM.le_fx, Nat.mod_eq_of_lt (by omega)]
  have e5 : ((form s).drop 5).headD 0 = CodeM.byte s.data.length := by
    have : (form s).drop 5 = ((form s).drop 1).drop 4 := by rw [List.drop_drop]
    rw [this, e1]
    have := List.drop_left (l₁ := CodeM.fx 4 s.next) (l₂ := CodeM.byte s.data.length :: (nums s.full s.data ++ s.data.flatten ++ zs))
    rw [CodeM.fx_length] at this
    rw [this]; rfl
  have e6 : (((form s).drop 5).headD 0).toNat = s.data.length := by rw [e5]; exact CodeM.ofNat_toNat _ (by omega)
  have h1 := sizes_nums (form s) s.full s.data hd (s.data.flatten ++ zs) h.len hx (by rw [hf]; simp [List.append_assoc])
  have h2 := parse_data (form s) hlen s.full s.data (hd ++ nums s.full s.data) zs h.len h.non hf
  rw [hl6] at h1
  rw [List.length_append, hl6, nums_length h.len] at h2
  have h3 : (form s).drop (6 + 2 * s.data.length + s.data.flatten.length) = zs := by
    rw [hf]
    have : (hd ++ nums s.full s.data ++ s.data.flatten).length = 6 + 2 * s.data.length + s.data.flatten.length := by rw [List.length_append, List.length_append, hl6, nums_length h.len]
    rw [← this, List.drop_left]
  unfold readP
  rw [if_neg (by rw [hlen]; simp), e6, h1, h2]
  dsimp only
  rw [e0, e2, h3, if_pos ⟨h, hz0⟩]
/-- One round of the reading. -/
theorem parse_step (l : List UInt8) (q m p : Nat) (h : q < m) : parse l (sizes l (m - q) (6 + 2 * q)) p = if 500 < p + (CodeM.le ((l.drop (6 + 2 * q)).take 2) - 1) then none else
    (parse l (sizes l (m - (q + 1)) (6 + 2 * (q + 1))) (p + (CodeM.le ((l.drop (6 + 2 * q)).take 2) - 1))).map fun r => (decide (0 < CodeM.le ((l.drop (6 + 2 * q)).take 2)) :: r.1, (l.drop p).take (CodeM.le ((l.drop (6 + 2 * q)).take 2) - 1) :: r.2.1, r.2.2) := by
  have e : m - q = (m - (q + 1)) + 1 := by omega
  rw [e]
  rfl
/-- What is left to read, behind what has been read. -/
def rest (l : List UInt8) (m q p : Nat) (fl : List Bool) (ds : List (List UInt8)) : Option (List Bool × List (List UInt8) × Nat) :=
  (parse l (sizes l (m - q) (6 + 2 * q)) p).map fun r => (fl ++ r.1, ds ++ r.2.1, r.2.2)
theorem rest_start (l : List UInt8) (m p : Nat) : rest l m 0 p [] [] = parse l (sizes l m 6) p := by
  unfold rest
  cases parse l (sizes l m 6) p with
  | none => rfl
  | some r => rfl
theorem rest_end (l : List UInt8) (m p : Nat) (fl : List Bool) (ds : List (List UInt8)) : rest l m m p fl ds = some (fl, ds, p) := by
  unfold rest
  rw [Nat.sub_self]
  show some (fl ++ [], ds ++ [], p) = _
  rw [List.append_nil, List.append_nil]
theorem rest_none {l : List UInt8} {m q p z : Nat} {fl : List Bool} {ds : List (List UInt8)} (h : q < m) (hz : CodeM.le ((l.drop (6 + 2 * q)).take 2) = z) (h5 : 500 < p + (z - 1)) : rest l m q p fl ds = none := by
  unfold rest
  rw [parse_step l q m p h, hz, if_pos h5]
  rfl
theorem rest_step {l : List UInt8} {m q p z : Nat} {fl : List Bool} {ds : List (List UInt8)} (h : q < m) (hz : CodeM.le ((l.drop (6 + 2 * q)).take 2) = z) (h5 : ¬ 500 < p + (z - 1)) : rest l m q p fl ds = rest l m (q + 1) (p + (z - 1)) (fl ++ [decide (0 < z)]) (ds ++ [(l.drop p).take (z - 1)]) := by
  unfold rest
  rw [parse_step l q m p h, hz, if_neg h5]
  cases parse l (sizes l (m - (q + 1)) (6 + 2 * (q + 1))) (p + (z - 1)) with
  | none => rfl
  | some r => simp
theorem readP_none {l : List UInt8} {m : Nat} (hm : ((l.drop 5).headD 0).toNat = m) (h : parse l (sizes l m 6) (6 + 2 * m) = none) : readP l = none := by
  unfold readP
  rw [hm, h]
  split <;> rfl
theorem readP_some {l : List UInt8} {m k0 k1 p : Nat} {fl : List Bool} {ds : List (List UInt8)} (hl : l.length = 500) (h0 : (l.headD 0).toNat = k0) (h1 : CodeM.le ((l.drop 1).take 4) = k1) (hm : ((l.drop 5).headD 0).toNat = m) (h : parse l (sizes l m 6) (6 + 2 * m) = some (fl, ds, p)) :
    readP l = if May ⟨k0, k1, fl, ds⟩ ∧ (∀ u ∈ l.drop p, u = 0) then some ⟨k0, k1, fl, ds⟩ else none := by
  unfold readP
  rw [if_neg (by rw [hl]; simp), hm, h]
  dsimp only
  rw [h0, h1]
end SltM
end Go.Proofs.Ytofbfehpadjbbaa
