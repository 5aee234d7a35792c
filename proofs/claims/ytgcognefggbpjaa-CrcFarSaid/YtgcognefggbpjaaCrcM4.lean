/-
  Plain laws of the checksum: a register taken through by a matrix.
  Conditions: none.
-/
import Derived.Test.YtgcognefggbpjaaCrcM2
namespace Go.Proofs.Ytgcognefggbpjaa
namespace CrcM
def sh (x : BitVec 32) (k : Nat) : BitVec 32 := x >>> k
/-- A join of two registers, behind a name. -/
def xr (x y : BitVec 32) : BitVec 32 := x ^^^ y
theorem xr_go (x y : BitVec 32) : bits BinOp.xor IntKind.u32 (x.toNat : Int) (y.toNat : Int) = ((xr x y).toNat : Int) := xor_go x y
def low (x : BitVec 32) (k : Nat) : BitVec 32 := BitVec.ofNat 32 (x.toNat % 2 ^ k)
theorem sh_zero (x : BitVec 32) : sh x 0 = x := by unfold sh; simp
theorem low_zero (x : BitVec 32) : low x 0 = 0#32 := by unfold low; simp [Nat.mod_one]
theorem low_bit (x : BitVec 32) (k i : Nat) : (low x k).getLsbD i = (decide (i < k) && x.getLsbD i) := by
  unfold low
  rw [BitVec.getLsbD_ofNat, Nat.testBit_mod_two_pow]
  rcases Nat.lt_or_ge i 32 with h | h
  · rw [decide_eq_true h, Bool.true_and]; rfl
  · rw [decide_eq_false (by omega), Bool.false_and, BitVec.getLsbD_of_ge x i h, Bool.and_false]
theorem w32_pow_bit (k i : Nat) (hk : k < 32) : (w32 (2 ^ k)).getLsbD i = decide (k = i) := by
  unfold w32
  rw [BitVec.getLsbD_ofNat, Nat.testBit_two_pow]
  by_cases h : k = i
  · subst h; simp [hk]
  · simp [h]
theorem low_succ (x : BitVec 32) (k : Nat) (hk : k < 32) : low x (k + 1) = low x k ^^^ (if x.getLsbD k then w32 (2 ^ k) else 0#32) := by
  apply BitVec.eq_of_getLsbD_eq
  intro i hi
  rw [BitVec.getLsbD_xor, low_bit, low_bit]
  cases h : x.getLsbD k with
  | true =>
    rw [if_pos rfl, w32_pow_bit k i hk]
    by_cases e : k = i
    · subst e; rw [h]; simp
    · rw [decide_eq_false e, Bool.xor_false, show decide (i < k + 1) = decide (i < k) from by rw [decide_eq_decide]; omega]
  | false =>
    rw [if_neg (by simp), BitVec.getLsbD_zero, Bool.xor_false]
    by_cases e : k = i
    · subst e; rw [h]; simp
    · rw [show decide (i < k + 1) = decide (i < k) from by rw [decide_eq_decide]; omega]
theorem sh_next (x : BitVec 32) (k : Nat) : ((sh x k).toNat : Int) / (2 : Int) = ((sh x (k + 1)).toNat : Int) := by
  rw [half_go]
  unfold sh
  rw [← BitVec.shiftRight_add]
theorem sh_toNat (x : BitVec 32) (k : Nat) : (sh x k).toNat = x.toNat / 2 ^ k := by unfold sh; rw [BitVec.toNat_ushiftRight, Nat.shiftRight_eq_div_pow]
theorem sh_ne (x : BitVec 32) (k : Nat) (h : (sh x k).toNat ≠ 0) : k < 32 := by
  rw [sh_toNat] at h
  rcases Nat.lt_or_ge k 32 with h' | h'
  · exact h'
  · exfalso; apply h
    exact Nat.div_eq_of_lt (Nat.lt_of_lt_of_le x.isLt (Nat.pow_le_pow_right (by omega) h'))
theorem low_all (x : BitVec 32) (k : Nat) (h : (sh x k).toNat = 0) : low x k = x := by
  rw [sh_toNat] at h
  have : x.toNat < 2 ^ k := by
    rcases Nat.lt_or_ge x.toNat (2 ^ k) with h' | h'
    · exact h'
    · have := Nat.div_pos h' (Nat.pow_pos (by omega)); omega
  unfold low
  rw [Nat.mod_eq_of_lt this]
  exact BitVec.ofNat_toNat _ _ |>.trans (by simp)
theorem acc_go (x : BitVec 32) (n k : Nat) (hk : k < 32) :
    bits BinOp.xor IntKind.u32 ((stp n (low x k)).toNat : Int) (bits BinOp.and IntKind.u32 ((stp n (w32 (2 ^ k))).toNat : Int) (-bits BinOp.and IntKind.u32 ((sh x k).toNat : Int) 1 % 4294967296)) = ((stp n (low x (k + 1))).toNat : Int) := by
  rw [and_one, low_succ x k hk, stp_xor]
  have e : (sh x k).getLsbD 0 = x.getLsbD k := by unfold sh; rw [BitVec.getLsbD_ushiftRight, Nat.add_zero]
  rw [e]
  cases h : x.getLsbD k with
  | true =>
    rw [if_pos rfl, if_pos rfl, show (-1 % 4294967296 : Int) = ((BitVec.allOnes 32).toNat : Int) from by decide, and_go, BitVec.and_allOnes, xor_go]
  | false =>
    rw [if_neg (by simp), if_neg (by simp), show (-0 % 4294967296 : Int) = ((0#32).toNat : Int) from by decide, and_go, BitVec.and_zero, xor_go, stp_zero]
theorem w32_pow (k : Nat) (hk : k < 32) : (2 : Int) ^ k % 4294967296 = ((w32 (2 ^ k)).toNat : Int) := by
  have hp : (2 : Nat) ^ k < 4294967296 := by
    have := Nat.pow_le_pow_right (show 0 < 2 by omega) (show k ≤ 31 by omega)
    omega
  rw [w32_toNat _ hp]
  have h2 : (2 : Int) ^ k = ((2 ^ k : Nat) : Int) := by simp
  rw [h2]
  generalize 2 ^ k = q at *
  omega
theorem odd_step (e m : Nat) (a : BitVec 32) (h : m % 2 = 1) : stp ((e + e) * (m / 2)) (stp e a) = stp (e * m) a := by
  rw [← stp_add]
  congr 1
  have hm : m = 2 * (m / 2) + 1 := by omega
  generalize m / 2 = q at *
  subst hm
  rw [Nat.mul_add, Nat.mul_one, Nat.add_mul, Nat.mul_left_comm, Nat.two_mul]
theorem even_step (e m : Nat) (a : BitVec 32) (h : m % 2 = 0) : stp ((e + e) * (m / 2)) a = stp (e * m) a := by
  congr 1
  have hm : m = 2 * (m / 2) := by omega
  generalize m / 2 = q at *
  subst hm
  rw [Nat.add_mul, Nat.mul_left_comm, Nat.two_mul]
theorem ofInt_i64 (a : Nat) (ha : a < 9223372036854775808) : (BitVec.ofInt 64 (a : Int)).toNat = a := by
  rw [BitVec.ofInt_natCast, BitVec.toNat_ofNat]; exact Nat.mod_eq_of_lt (by omega)
theorem i64_and_one (a : Nat) (ha : a < 9223372036854775808) : bits .and .i64 (a : Int) 1 = if a % 2 = 1 then 1 else 0 := by
  have h1 : (BitVec.ofInt 64 (1 : Int)).toNat = 1 := by decide
  show IntKind.i64.wrap ((BitVec.ofInt 64 (a : Int) &&& BitVec.ofInt 64 (1 : Int)).toNat : Int) = _
  rw [BitVec.toNat_and, ofInt_i64 a ha, h1, Nat.and_one_is_mod, IntKind.wrap_i64]
  rcases Nat.mod_two_eq_zero_or_one a with h | h <;> simp [h]
/-- The cells of a matrix that takes a register n bits on. -/
def Mat (cs : Array Value) (n : Nat) : Prop := cs.size = 32 ∧ ∀ i : Nat, i < 32 → cs[i]? = some (.int .u32 ((stp n (w32 (2 ^ i))).toNat : Int))
theorem Mat.one {cs : Array Value} {n : Nat} (h : Mat cs n) : cs.all (·.oneCell') = true := by
  rw [Array.all_eq_true]
  intro i hi
  have := h.2 i (by have := h.1; omega)
  rw [Array.getElem?_eq_getElem hi] at this
  injection this with this
  rw [this]; rfl
end CrcM
end Go.Proofs.Ytgcognefggbpjaa
