/-
  Plain words of the code: fixed numbers, counts, texts, and a reader of bytes; no program in sight.
  Conditions: none.
-/
import Derived.Test.YtaadfalklddhcaaKit
namespace Go.Proofs.Ytaadfalklddhcaa
open Go.RowKit
set_option linter.unusedVariables false
namespace CodeM
/-- A number's lowest byte, behind a name. -/
def byte (n : Nat) : UInt8 := UInt8.ofNat n
/-- So many bytes of a number, lowest first. -/
def fx (k n : Nat) : List UInt8 := (List.range k).map fun i => byte (n / 256 ^ i % 256)
/-- The number that bytes are, lowest first. -/
def le : List UInt8 → Nat
  | [] => 0
  | c :: l => c.toNat + 256 * le l
/-- A count's bytes. -/
def uvF : Nat → Nat → List UInt8
  | 0, n => [byte (n % 256)]
  | f + 1, n => if n < 128 then [byte n] else byte (n % 128 + 128) :: uvF f (n / 128)
def uv (n : Nat) : List UInt8 := uvF 9 n
def tx (s : List UInt8) : List UInt8 := uv s.length ++ s
/-- A count at the beginning: from byte i on, acc being what the bytes ahead of it were. -/
def cntF (i acc : Nat) : List UInt8 → Option (Nat × Nat)
  | [] => none
  | c :: l =>
    if (i = 9 ∧ 1 < c.toNat) ∨ 9 < i then none
    else if c.toNat < 128 then (if i = 0 ∨ c.toNat ≠ 0 then some (acc + c.toNat * 2 ^ (7 * i), i + 1) else none)
    else cntF (i + 1) (acc + (c.toNat - 128) * 2 ^ (7 * i)) l
def cnt (l : List UInt8) : Option (Nat × Nat) := cntF 0 0 l
/-- A reader: what is left, and its error. -/
structure Rd where
  l : List UInt8
  e : Nat
def Rd.fixed (k : Nat) (r : Rd) : Nat × Rd := if r.e ≠ 0 then (0, r) else if r.l.length < k then (0, ⟨r.l, 4⟩) else (le (r.l.take k), ⟨r.l.drop k, 0⟩)
def Rd.uv (r : Rd) : Nat × Rd := if r.e ≠ 0 then (0, r) else match cnt r.l with
  | none => (0, ⟨r.l, 4⟩)
  | some (n, k) => (n, ⟨r.l.drop k, 0⟩)
def Rd.text (most : Int) (r : Rd) : List UInt8 × Rd := if r.e ≠ 0 then ([], r) else match cnt r.l with
  | none => ([], ⟨r.l, 4⟩)
  | some (n, k) => if max 0 most < (n : Int) then ([], ⟨r.l, 3⟩) else if r.l.length - k < n then ([], ⟨r.l, 4⟩) else ((r.l.drop k).take n, ⟨r.l.drop (k + n), 0⟩)

theorem fx_length (k n : Nat) : (fx k n).length = k := by simp [fx]
theorem fx_succ (k n : Nat) : fx (k + 1) n = fx k n ++ [byte (n / 256 ^ k % 256)] := by
  unfold fx
  rw [List.range_succ, List.map_append]; rfl
theorem le_append (l m : List UInt8) : le (l ++ m) = le l + 256 ^ l.length * le m := by
  induction l with
  | nil => simp [le]
  | cons c l ih =>
    show c.toNat + 256 * le (l ++ m) = c.toNat + 256 * le l + 256 ^ (l.length + 1) * le m
    rw [ih, Nat.mul_add, Nat.pow_succ, ← Nat.mul_assoc, Nat.mul_comm 256 (256 ^ l.length)]; omega
theorem le_lt (l : List UInt8) : le l < 256 ^ l.length := by
  induction l with
  | nil => simp [le]
  | cons c l ih =>
    have hc := c.toNat_lt
    show c.toNat + 256 * le l < 256 ^ (l.length + 1)
    rw [Nat.pow_succ]; omega
theorem ofNat_toNat (n : Nat) (h : n < 256) : (byte n).toNat = n := by unfold byte; rw [UInt8.toNat_ofNat']; exact Nat.mod_eq_of_lt h
theorem le_fx (k n : Nat) : le (fx k n) = n % 256 ^ k := by
  induction k with
  | zero => simp [fx, le, Nat.mod_one]
  | succ k ih =>
    rw [fx_succ, le_append, ih, fx_length]
    show n % 256 ^ k + 256 ^ k * ((byte (n / 256 ^ k % 256)).toNat + 256 * 0) = _
    rw [ofNat_toNat _ (Nat.mod_lt _ (by omega)), Nat.mul_zero, Nat.add_zero, Nat.pow_succ]
    exact (Nat.mod_mul).symm
/-- Bytes are the form of their number. -/
theorem fx_le (l : List UInt8) : fx l.length (le l) = l := by
  apply List.ext_getElem?
  intro i
  rcases Nat.lt_or_ge i l.length with h | h
  · unfold fx
    rw [List.getElem?_map, List.getElem?_range h, List.getElem?_eq_getElem h]
    simp only [Option.map_some, Option.some.injEq]
    have e : l = l.take i ++ l[i] :: l.drop (i + 1) := by rw [List.getElem_cons_drop, List.take_append_drop]
    have hl : (l.take i).length = i := by rw [List.length_take]; omega
    have h1 : le l = le (l.take i) + 256 ^ i * (l[i].toNat + 256 * le (l.drop (i + 1))) := by
      conv => lhs; rw [e]
      rw [le_append, hl]; rfl
    have h2 := le_lt (l.take i)
    rw [hl] at h2
    have hc := l[i].toNat_lt
    have h3 : le l / 256 ^ i = l[i].toNat + 256 * le (l.drop (i + 1)) := by
      rw [h1, Nat.add_mul_div_left _ _ (Nat.pow_pos (by omega)), Nat.div_eq_of_lt h2, Nat.zero_add]
    rw [h3]
    apply UInt8.toNat.inj
    rw [ofNat_toNat _ (Nat.mod_lt _ (by omega))]; omega
  · rw [List.getElem?_eq_none (by rw [fx_length]; exact h), List.getElem?_eq_none h]
theorem fx_inj {k n m : Nat} (hn : n < 256 ^ k) (hm : m < 256 ^ k) (h : fx k n = fx k m) : n = m := by
  have := congrArg le h
  rwa [le_fx, le_fx, Nat.mod_eq_of_lt hn, Nat.mod_eq_of_lt hm] at this
/-! ### Counts -/
theorem uvF_length (f n : Nat) : 0 < (uvF f n).length ∧ (uvF f n).length ≤ f + 1 := by
  induction f generalizing n with
  | zero => simp [uvF]
  | succ f ih =>
    unfold uvF
    split
    · simp
    · have := ih (n / 128); simp; omega
theorem uv_length (n : Nat) : 0 < (uv n).length ∧ (uv n).length ≤ 10 := uvF_length 9 n
/-- The count of a form, whatever is behind. -/
theorem cntF_uvF : ∀ (f i acc n : Nat) (rest : List UInt8), f + i = 9 → n < 2 ^ (64 - 7 * i) → (0 < i → 0 < n) → cntF i acc (uvF f n ++ rest) = some (acc + n * 2 ^ (7 * i), i + (uvF f n).length)
  | 0, i, acc, n, rest, hf, hn, hp => by
    obtain rfl : i = 9 := by omega
    have h2 : n < 2 := hn
    have hpos := hp (by omega)
    obtain rfl : n = 1 := by omega
    rfl
  | f + 1, i, acc, n, rest, hf, hn, hp => by
    unfold uvF
    have hc9 : ¬ ((i = 9 ∧ 1 < n) ∨ 9 < i) := by omega
    by_cases h : n < 128
    · rw [if_pos h]
      show cntF i acc (byte n :: rest) = _
      unfold cntF
      rw [ofNat_toNat n (by omega), if_neg (by omega), if_pos h, if_pos (by omega)]
      rfl
    · rw [if_neg h]
      show cntF i acc (byte (n % 128 + 128) :: (uvF f (n / 128) ++ rest)) = _
      unfold cntF
      rw [ofNat_toNat _ (by omega), if_neg (by omega), if_neg (by omega), cntF_uvF f (i + 1) _ (n / 128) rest (by omega) (by
        have : 2 ^ (64 - 7 * i) = 2 ^ (64 - 7 * (i + 1)) * 128 := by
          rw [show 64 - 7 * i = (64 - 7 * (i + 1)) + 7 by omega, Nat.pow_add]
        rw [this] at hn
        exact Nat.div_lt_of_lt_mul (by rw [Nat.mul_comm]; exact hn)) (fun _ => by omega)]
      congr 2
      · have e7 : 2 ^ (7 * (i + 1)) = 2 ^ (7 * i) * 128 := by rw [show 7 * (i + 1) = 7 * i + 7 by omega, Nat.pow_add]
        rw [e7]
        have hd : n = n % 128 + 128 * (n / 128) := (Nat.mod_add_div n 128).symm
        generalize 2 ^ (7 * i) = p at *
        rw [show n % 128 + 128 - 128 = n % 128 by omega]
        conv => rhs; rw [hd]
        rw [Nat.add_mul, Nat.mul_comm p 128, ← Nat.mul_assoc, Nat.mul_comm (n / 128) 128]; omega
      · simp; omega
theorem cnt_uv (n : Nat) (rest : List UInt8) (hn : n < 2 ^ 64) : cnt (uv n ++ rest) = some (n, (uv n).length) := by
  have := cntF_uvF 9 0 0 n rest rfl hn (fun h => by omega)
  simpa [cnt, uv] using this
/-- What is read as a count is its form. -/
theorem uvF_cntF : ∀ (l : List UInt8) (i acc n k : Nat), i ≤ 9 → cntF i acc l = some (n, k) → ∃ m, n = acc + m * 2 ^ (7 * i) ∧ m < 2 ^ (64 - 7 * i) ∧ (0 < i → 0 < m) ∧ i < k ∧ k - i ≤ l.length ∧ l.take (k - i) = uvF (9 - i) m
  | [], i, acc, n, k, _, h => by simp [cntF] at h
  | c :: l, i, acc, n, k, hi, h => by
    unfold cntF at h
    have hc := c.toNat_lt
    by_cases h1 : (i = 9 ∧ 1 < c.toNat) ∨ 9 < i
    · rw [if_pos h1] at h; cases h
    · rw [if_neg h1] at h
      by_cases h2 : c.toNat < 128
      · rw [if_pos h2] at h
        by_cases h3 : i = 0 ∨ c.toNat ≠ 0
        · rw [if_pos h3] at h
          simp only [Option.some.injEq, Prod.mk.injEq] at h
          obtain ⟨rfl, rfl⟩ := h
          refine ⟨c.toNat, rfl, ?_, by omega, by omega, by simp, ?_⟩
          · rcases Nat.lt_or_ge i 9 with h9 | h9
            · have : 2 ^ 8 ≤ 2 ^ (64 - 7 * i) := Nat.pow_le_pow_right (by omega) (by omega)
              omega
            · obtain rfl : i = 9 := by omega
              have : c.toNat ≤ 1 := by omega
              show c.toNat < 2
              omega
          · rw [show i + 1 - i = 1 by omega]
            show [c] = _
            rcases Nat.lt_or_ge i 9 with h9 | h9
            · rw [show 9 - i = (8 - i) + 1 by omega]
              unfold uvF
              rw [if_pos h2]
              congr 1
              exact (UInt8.ofNat_toNat).symm
            · obtain rfl : i = 9 := by omega
              show [c] = [byte (c.toNat % 256)]
              rw [Nat.mod_eq_of_lt hc]
              congr 1
              exact (UInt8.ofNat_toNat).symm
        · rw [if_neg h3] at h; cases h
      · rw [if_neg h2] at h
        have hi8 : i < 9 := by omega
        obtain ⟨m, hm, hlt, hpos, hik, hkl, htk⟩ := uvF_cntF l (i + 1) _ n k (by omega) h
        have hmp := hpos (by omega)
        have e7 : 2 ^ (7 * (i + 1)) = 2 ^ (7 * i) * 128 := by rw [show 7 * (i + 1) = 7 * i + 7 by omega, Nat.pow_add]
        refine ⟨(c.toNat - 128) + 128 * m, ?_, ?_, by omega, by omega, by simp; omega, ?_⟩
        · rw [hm, e7]
          generalize 2 ^ (7 * i) = p
          rw [Nat.add_mul, Nat.mul_comm p 128, ← Nat.mul_assoc, Nat.mul_comm m 128]; omega
        · have e : 2 ^ (64 - 7 * i) = 2 ^ (64 - 7 * (i + 1)) * 128 := by rw [show 64 - 7 * i = (64 - 7 * (i + 1)) + 7 by omega, Nat.pow_add]
          rw [e]
          omega
        · rw [show 9 - i = (9 - (i + 1)) + 1 by omega]
          unfold uvF
          rw [if_neg (by omega), show k - i = (k - (i + 1)) + 1 by omega, List.take_succ_cons, htk]
          congr 1
          · apply UInt8.toNat.inj
            rw [ofNat_toNat _ (by omega)]; omega
          · congr 1; omega
theorem cnt_some {l : List UInt8} {n k : Nat} (h : cnt l = some (n, k)) : n < 2 ^ 64 ∧ 0 < k ∧ k ≤ l.length ∧ k ≤ 10 ∧ l.take k = uv n := by
  obtain ⟨m, h1, h2, _, h3, h4, h5⟩ := uvF_cntF l 0 0 n k (by omega) h
  have : n = m := by simpa using h1
  subst this
  refine ⟨h2, h3, by omega, ?_, by simpa [uv] using h5⟩
  have := (uv_length n).2
  unfold uv at this
  rw [← h5, List.length_take] at this
  omega
/-- A form that is cut is none. -/
theorem cntF_cut : ∀ (f i acc n : Nat) (j : Nat), j < (uvF f n).length → f + i ≤ 9 → cntF i acc ((uvF f n).take j) = none
  | f, i, acc, n, 0, _, _ => by simp [cntF]
  | 0, i, acc, n, j + 1, h, _ => by simp [uvF] at h
  | f + 1, i, acc, n, j + 1, h, hf => by
    unfold uvF at h ⊢
    by_cases hn : n < 128
    · rw [if_pos hn] at h; simp at h
    · rw [if_neg hn] at h ⊢
      rw [List.take_succ_cons]
      unfold cntF
      rw [ofNat_toNat _ (by omega), if_neg (by omega), if_neg (by omega)]
      exact cntF_cut f (i + 1) _ (n / 128) j (by simpa using h) (by omega)
theorem cnt_cut {n j : Nat} (h : j < (uv n).length) : cnt ((uv n).take j) = none := cntF_cut 9 0 0 n j h (by omega)
theorem shr_byte (n j : Nat) : (n : Int) / 2 ^ (8 * j) % 256 = ((byte (n / 256 ^ j % 256)).toNat : Int) := by
  have e : (2 : Int) ^ (8 * j) = ((256 ^ j : Nat) : Int) := by
    rw [Int.pow_mul]; simp
  rw [ofNat_toNat _ (Nat.mod_lt _ (by omega)), e]
  omega
set_option maxRecDepth 100000 in
theorem or128 (m : Nat) : bits .or .u8 ((m : Int) % 256) 128 = ((byte (m % 128 + 128)).toNat : Int) := by
  have h : ∀ x : Fin 256, x.val ||| 128 = x.val % 128 + 128 := by decide +kernel
  have e : ((m : Int) % 256) = ((m % 256 : Nat) : Int) := by omega
  rw [ofNat_toNat _ (by omega), e, show (128 : Int) = ((128 : Nat) : Int) from rfl, u8_or_nat _ _ (by omega) (by omega), h ⟨m % 256, by omega⟩]
  congr 2
  show m % 256 % 128 = m % 128
  omega
end CodeM
end Go.Proofs.Ytaadfalklddhcaa
