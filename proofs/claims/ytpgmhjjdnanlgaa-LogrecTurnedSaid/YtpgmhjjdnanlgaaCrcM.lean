/-
  Plain laws of the checksum: a register of 32 bits, taken through single bits; no program in sight.
  Conditions: none.
-/
import Derived.WalkKit
namespace Go.Proofs.Ytpgmhjjdnanlgaa
namespace CrcM
def poly : BitVec 32 := 0x82F63B78#32
/-- One bit. -/
def bit (x : BitVec 32) : BitVec 32 := (x >>> 1) ^^^ (if x.getLsbD 0 then poly else 0#32)
/-- Several. -/
def stp : Nat → BitVec 32 → BitVec 32
  | 0, x => x
  | n + 1, x => bit (stp n x)
/-- A byte as a register. -/
def reg8 (c : UInt8) : BitVec 32 := c.toBitVec.setWidth 32
/-- Bytes. -/
def run (x : BitVec 32) (l : List UInt8) : BitVec 32 := l.foldl (fun x c => stp 8 (x ^^^ reg8 c)) x
/-- The same with names that no rule of simp opens. -/
def inv (x : BitVec 32) : BitVec 32 := ~~~ x
def lay (x : BitVec 32) (c : UInt8) : BitVec 32 := x ^^^ reg8 c
def w32 (k : Nat) : BitVec 32 := BitVec.ofNat 32 k
theorem w32_toNat (k : Nat) (h : k < 4294967296) : (w32 k).toNat = k := by unfold w32; rw [BitVec.toNat_ofNat]; exact Nat.mod_eq_of_lt h
def more (s : BitVec 32) (l : List UInt8) : BitVec 32 := inv (run (inv s) l)
def sum (l : List UInt8) : BitVec 32 := more 0#32 l

theorem bit_xor (x y : BitVec 32) : bit (x ^^^ y) = bit x ^^^ bit y := by
  unfold bit
  rw [BitVec.ushiftRight_xor_distrib, BitVec.getLsbD_xor]
  generalize x >>> 1 = a
  generalize y >>> 1 = b
  have lc : ∀ p q r : BitVec 32, p ^^^ (q ^^^ r) = q ^^^ (p ^^^ r) := fun p q r => by rw [← BitVec.xor_assoc, BitVec.xor_comm p q, BitVec.xor_assoc]
  cases x.getLsbD 0 <;> cases y.getLsbD 0
  · simp
  · simp [BitVec.xor_assoc]
  · simp only [Bool.xor_false, if_true, Bool.false_eq_true, if_false, BitVec.xor_zero, BitVec.xor_assoc]
    rw [BitVec.xor_comm b poly]
  · simp only [Bool.xor_true, Bool.not_true, if_true, Bool.false_eq_true, if_false, BitVec.xor_zero, BitVec.xor_assoc]
    rw [lc poly b poly, BitVec.xor_self, BitVec.xor_zero]
theorem bit_zero : bit 0#32 = 0#32 := by decide
theorem stp_xor (n : Nat) (x y : BitVec 32) : stp n (x ^^^ y) = stp n x ^^^ stp n y := by
  induction n with
  | zero => rfl
  | succ n ih => rw [stp, ih, bit_xor]; rfl
theorem stp_zero (n : Nat) : stp n 0#32 = 0#32 := by
  induction n with
  | zero => rfl
  | succ n ih => rw [stp, ih, bit_zero]
theorem stp_add (m n : Nat) (x : BitVec 32) : stp (m + n) x = stp m (stp n x) := by
  induction m with
  | zero => rw [Nat.zero_add]; rfl
  | succ m ih => rw [Nat.succ_add, stp, ih]; rfl
theorem stp_succ' (n : Nat) (x : BitVec 32) : stp (n + 1) x = stp n (bit x) := stp_add n 1 x

theorem bit_ne (x : BitVec 32) (h : x ≠ 0#32) : bit x ≠ 0#32 := by
  intro hb
  apply h
  have h31 : (bit x).getLsbD 31 = false := by rw [hb]; rfl
  have hp : poly.getLsbD 31 = true := by decide
  have h0 : x.getLsbD 0 = false := by
    unfold bit at h31
    rw [BitVec.getLsbD_xor, BitVec.getLsbD_ushiftRight, BitVec.getLsbD_of_ge x (1 + 31) (by omega), Bool.false_xor] at h31
    cases hx : x.getLsbD 0 with
    | false => rfl
    | true => rw [hx, if_pos rfl, hp] at h31; cases h31
  unfold bit at hb
  rw [h0, if_neg (by simp), BitVec.xor_zero] at hb
  apply BitVec.eq_of_getLsbD_eq
  intro i hi
  cases i with
  | zero => rw [h0]; rfl
  | succ i =>
    have : (x >>> 1).getLsbD i = false := by rw [hb]; exact BitVec.getLsbD_zero
    rw [BitVec.getLsbD_ushiftRight, Nat.add_comm] at this
    rw [this]; exact BitVec.getLsbD_zero.symm
theorem stp_ne (n : Nat) (x : BitVec 32) (h : x ≠ 0#32) : stp n x ≠ 0#32 := by
  induction n with
  | zero => exact h
  | succ n ih => exact bit_ne _ ih

theorem run_nil (x : BitVec 32) : run x [] = x := rfl
theorem run_cons (x : BitVec 32) (c : UInt8) (l : List UInt8) : run x (c :: l) = run (stp 8 (x ^^^ reg8 c)) l := rfl
theorem run_append (x : BitVec 32) (l m : List UInt8) : run x (l ++ m) = run (run x l) m := by unfold run; rw [List.foldl_append]
theorem run_snoc (x : BitVec 32) (l : List UInt8) (c : UInt8) : run x (l ++ [c]) = stp 8 (lay (run x l) c) := by rw [run_append]; rfl
theorem run_xor (l : List UInt8) : ∀ x y : BitVec 32, run (x ^^^ y) l = stp (8 * l.length) x ^^^ run y l := by
  induction l with
  | nil => intro x y; simp [run, stp]
  | cons c l ih =>
    intro x y
    rw [run_cons, run_cons, BitVec.xor_assoc, stp_xor, ih]
    congr 1
    rw [← stp_add, List.length_cons]
    congr 1

/-- Of the sum of two texts. -/
theorem join_law (a b : List UInt8) : stp (8 * b.length) (sum a) ^^^ sum b = sum (a ++ b) := by
  have not_eq : ∀ x : BitVec 32, ~~~x = x ^^^ 0xFFFFFFFF#32 := fun x => by
    apply BitVec.eq_of_getLsbD_eq
    intro i hi
    rw [BitVec.getLsbD_not, BitVec.getLsbD_xor]
    have : (0xFFFFFFFF#32).getLsbD i = true := by
      rw [show (0xFFFFFFFF#32) = BitVec.allOnes 32 from rfl, BitVec.getLsbD_allOnes]; simpa using hi
    rw [this, decide_eq_true hi]; simp
  unfold sum more inv
  rw [run_append]
  generalize hA : run (~~~0#32) a = A
  have e1 : run A b = stp (8 * b.length) (A ^^^ ~~~0#32) ^^^ run (~~~0#32) b := by
    rw [← run_xor, BitVec.xor_assoc, BitVec.xor_self, BitVec.xor_zero]
  rw [e1, show ~~~A = A ^^^ ~~~0#32 from not_eq A, not_eq (run (~~~0#32) b), not_eq (_ ^^^ _), BitVec.xor_assoc]

/-! ### The walk's spelling -/
theorem toNat_lt (x : BitVec 32) : x.toNat < 4294967296 := x.isLt
theorem and_one (x : BitVec 32) : bits BinOp.and IntKind.u32 (x.toNat : Int) 1 = if x.getLsbD 0 then 1 else 0 := by
  have h := u32_and_nat x.toNat 1 (toNat_lt x) (by decide)
  rw [show ((1 : Nat) : Int) = 1 from rfl] at h
  rw [h, Nat.and_one_is_mod]
  have : x.getLsbD 0 = decide (x.toNat % 2 = 1) := by
    rw [BitVec.getLsbD, Nat.testBit_zero]
  rw [this]
  rcases Nat.mod_two_eq_zero_or_one x.toNat with h | h <;> simp [h]
theorem half_go (x : BitVec 32) : (x.toNat : Int) / (2 : Int) = ((x >>> 1).toNat : Int) := by
  rw [BitVec.toNat_ushiftRight, Nat.shiftRight_eq_div_pow]; simp
theorem xor_go (x y : BitVec 32) : bits BinOp.xor IntKind.u32 (x.toNat : Int) (y.toNat : Int) = ((x ^^^ y).toNat : Int) := by
  rw [u32_xor_nat _ _ (toNat_lt x) (toNat_lt y), BitVec.toNat_xor]
theorem and_go (x y : BitVec 32) : bits BinOp.and IntKind.u32 (x.toNat : Int) (y.toNat : Int) = ((x &&& y).toNat : Int) := by
  rw [u32_and_nat _ _ (toNat_lt x) (toNat_lt y), BitVec.toNat_and]
theorem bit_odd (x : BitVec 32) (h : x.getLsbD 0 = true) : bits BinOp.xor IntKind.u32 ((x.toNat : Int) / 2) 2197175160 = ((bit x).toNat : Int) := by
  rw [half_go, show (2197175160 : Int) = (poly.toNat : Int) from by decide, xor_go]
  unfold bit; rw [if_pos h]
theorem bit_even (x : BitVec 32) (h : x.getLsbD 0 = false) : ((x.toNat : Int) / 2) = ((bit x).toNat : Int) := by
  rw [half_go]; unfold bit; rw [h, if_neg (by simp), BitVec.xor_zero]
theorem bit_go (x : BitVec 32) : bits BinOp.xor IntKind.u32 ((x.toNat : Int) / 2) (bits BinOp.and IntKind.u32 2197175160 (-bits BinOp.and IntKind.u32 (x.toNat : Int) 1 % 4294967296)) = ((bit x).toNat : Int) := by
  rw [and_one]
  cases h : x.getLsbD 0 with
  | true =>
    rw [if_pos rfl, show (-1 % 4294967296 : Int) = ((BitVec.allOnes 32).toNat : Int) from by decide, show (2197175160 : Int) = (poly.toNat : Int) from by decide, and_go]
    rw [BitVec.and_allOnes, ← bit_odd x h]; rfl
  | false =>
    rw [if_neg (by simp), show (-0 % 4294967296 : Int) = ((0#32).toNat : Int) from by decide, show (2197175160 : Int) = (poly.toNat : Int) from by decide, and_go, BitVec.and_zero, half_go, xor_go]
    unfold bit; rw [h, if_neg (by simp)]
theorem not_go (x : BitVec 32) : bits BinOp.xor IntKind.u32 IntKind.u32.max (x.toNat : Int) = ((inv x).toNat : Int) := by
  rw [show (IntKind.u32.max : Int) = ((BitVec.allOnes 32).toNat : Int) from by decide, xor_go]
  congr 2

/-- Four bits by a table of sixteen. -/
theorem nibble (x : BitVec 32) : (x >>> 4) ^^^ stp 4 (w32 (x.toNat % 16)) = stp 4 x := by
  unfold w32
  have hx : x = ((x >>> 4) <<< 4) ^^^ BitVec.ofNat 32 (x.toNat % 16) := by
    apply BitVec.eq_of_getLsbD_eq
    intro i hi
    rw [BitVec.getLsbD_xor, BitVec.getLsbD_shiftLeft, BitVec.getLsbD_ushiftRight, BitVec.getLsbD_ofNat, show (16 : Nat) = 2 ^ 4 from rfl, Nat.testBit_mod_two_pow]
    rcases Nat.lt_or_ge i 4 with h | h
    · simp [h, hi, BitVec.getLsbD]
    · have h4 : ¬ i < 4 := by omega
      simp [h4, hi, show 4 + (i - 4) = i by omega]
  have hs : ∀ y : BitVec 32, y.toNat < 2 ^ 28 → stp 4 (y <<< 4) = y := by
    have one : ∀ (y : BitVec 32) (k : Nat), y.toNat < 2 ^ 28 → k < 4 → bit (y <<< (k + 1)) = y <<< k := by
      intro y k hy hk
      have h0 : (y <<< (k + 1)).getLsbD 0 = false := by rw [BitVec.getLsbD_shiftLeft]; simp
      unfold bit
      rw [h0, if_neg (by simp), BitVec.xor_zero]
      apply BitVec.eq_of_getLsbD_eq
      intro i hi
      rw [BitVec.getLsbD_ushiftRight, BitVec.getLsbD_shiftLeft, BitVec.getLsbD_shiftLeft]
      by_cases hi2 : 1 + i < 32
      · rcases Nat.lt_or_ge i k with h | h
        · simp [hi, hi2, h, show 1 + i < k + 1 by omega]
        · simp [hi, hi2, show ¬ i < k by omega, show ¬ 1 + i < k + 1 by omega, show 1 + i - (k + 1) = i - k by omega]
      · have : y.getLsbD (i - k) = false := by
          rw [BitVec.getLsbD]
          exact Nat.testBit_lt_two_pow (Nat.lt_of_lt_of_le hy (Nat.pow_le_pow_right (by omega) (by omega)))
        simp [hi2, this]
    intro y hy
    rw [show stp 4 (y <<< 4) = bit (bit (bit (bit (y <<< (3 + 1))))) from rfl, one y 3 hy (by omega), one y 2 hy (by omega), one y 1 hy (by omega), one y 0 hy (by omega)]
    simp
  conv => rhs; rw [hx, stp_xor]
  congr 1
  refine (hs _ ?_).symm
  rw [BitVec.toNat_ushiftRight, Nat.shiftRight_eq_div_pow]
  have := toNat_lt x
  omega
theorem two_nibbles (x : BitVec 32) : stp 4 (stp 4 x) = stp 8 x := (stp_add 4 4 x).symm
theorem and15 (x : BitVec 32) : bits BinOp.and IntKind.u32 (x.toNat : Int) 15 = ((x.toNat % 16 : Nat) : Int) := by
  have h := u32_and_nat x.toNat 15 (toNat_lt x) (by decide)
  rw [show ((15 : Nat) : Int) = 15 from rfl] at h
  rw [h, show (15 : Nat) = 2 ^ 4 - 1 from rfl, Nat.and_two_pow_sub_one_eq_mod]
theorem quarter_go (x : BitVec 32) : (x.toNat : Int) / (16 : Int) = ((x >>> 4).toNat : Int) := by
  rw [BitVec.toNat_ushiftRight, Nat.shiftRight_eq_div_pow]; simp
theorem reg8_go (c : UInt8) : ((reg8 c).toNat : Int) = (c.toNat : Int) := by
  unfold reg8
  rw [BitVec.toNat_setWidth]
  have : c.toBitVec.toNat < 256 := c.toBitVec.isLt
  show ((c.toBitVec.toNat % 2 ^ 32 : Nat) : Int) = (c.toBitVec.toNat : Int)
  rw [Nat.mod_eq_of_lt (by omega)]
theorem xor8_go (x : BitVec 32) (c : UInt8) : bits BinOp.xor IntKind.u32 (x.toNat : Int) (c.toNat : Int) = ((lay x c).toNat : Int) := by
  rw [← reg8_go, xor_go]; rfl
theorem known : sum [49, 50, 51, 52, 53, 54, 55, 56, 57] = 0xE3069283#32 := by decide +kernel
end CrcM
end Go.Proofs.Ytpgmhjjdnanlgaa
