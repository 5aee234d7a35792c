/-
  Plain laws of the checksum: a burst of turned bits is told.
  Conditions: none.
-/
import Derived.Test.YtpgmhjjdnanlgaaCrcM2
namespace Go.Proofs.Ytpgmhjjdnanlgaa
namespace CrcM
/-- Bit number j of bytes. -/
def bitAt (l : List UInt8) (j : Nat) : Bool := (l[j / 8]?.getD 0).toNat.testBit (j % 8)
def b1 (b : Bool) : BitVec 32 := if b then 1#32 else 0#32
def runB (x : BitVec 32) (l : List Bool) : BitVec 32 := l.foldl (fun x b => bit (x ^^^ b1 b)) x
def bits8 (c : UInt8) : List Bool := (List.range 8).map fun i => c.toNat.testBit i
def bitsOf (l : List UInt8) : List Bool := l.flatMap bits8
/-- The low k bits of a register, as a list. -/
def bitsW (x : BitVec 32) (k : Nat) : List Bool := (List.range k).map fun i => x.getLsbD i

theorem bit_low (x : BitVec 32) : bit x = (x >>> 1) ^^^ bit (b1 (x.getLsbD 0)) := by
  unfold b1
  cases h : x.getLsbD 0 with
  | false => rw [if_neg (by simp), bit_zero, BitVec.xor_zero]; unfold bit; rw [h, if_neg (by simp), BitVec.xor_zero]
  | true =>
    rw [if_pos rfl]
    unfold bit
    rw [h, if_pos rfl, show (1#32).getLsbD 0 = true from by decide, if_pos rfl, show (1#32 >>> 1 : BitVec 32) = 0#32 from by decide, BitVec.zero_xor]
theorem bitsW_succ (x : BitVec 32) (k : Nat) : bitsW x (k + 1) = x.getLsbD 0 :: bitsW (x >>> 1) k := by
  unfold bitsW
  rw [List.range_succ_eq_map, List.map_cons, List.map_map]
  congr 1
  refine List.map_congr_left fun i _ => ?_
  show x.getLsbD (i + 1) = (x >>> 1).getLsbD i
  rw [BitVec.getLsbD_ushiftRight, Nat.add_comm]
theorem runB_word : ∀ (k : Nat) (x t : BitVec 32), t.toNat < 2 ^ k → runB x (bitsW t k) = stp k (x ^^^ t)
  | 0, x, t, h => by
    have : t = 0#32 := by apply BitVec.eq_of_toNat_eq; simpa using h
    subst this
    simp [runB, bitsW, stp]
  | k + 1, x, t, h => by
    rw [bitsW_succ, stp_succ']
    show runB (bit (x ^^^ b1 (t.getLsbD 0))) (bitsW (t >>> 1) k) = _
    rw [runB_word k _ _ (by rw [BitVec.toNat_ushiftRight, Nat.shiftRight_eq_div_pow, Nat.pow_one]; rw [Nat.pow_succ] at h; omega)]
    congr 1
    rw [bit_xor, bit_xor, bit_low t, BitVec.xor_assoc, BitVec.xor_comm (bit (b1 _))]
theorem bits8_eq (c : UInt8) : bits8 c = bitsW (reg8 c) 8 := by
  unfold bits8 bitsW
  refine List.map_congr_left fun i hi => ?_
  have hi' : i < 8 := by simpa using hi
  unfold reg8
  rw [BitVec.getLsbD_setWidth, decide_eq_true (by omega), Bool.true_and]
  rfl
theorem reg8_lt (c : UInt8) : (reg8 c).toNat < 2 ^ 8 := by
  have h := reg8_go c
  have := c.toNat_lt
  omega
theorem runB_append (x : BitVec 32) (l m : List Bool) : runB x (l ++ m) = runB (runB x l) m := by unfold runB; rw [List.foldl_append]
theorem run_bits : ∀ (l : List UInt8) (x : BitVec 32), run x l = runB x (bitsOf l)
  | [], x => rfl
  | c :: l, x => by
    rw [run_cons, run_bits l]
    show _ = runB x (bits8 c ++ bitsOf l)
    rw [runB_append, bits8_eq, runB_word 8 x _ (reg8_lt c)]
theorem runB_false : ∀ (k : Nat) (x : BitVec 32), runB x (List.replicate k false) = stp k x
  | 0, x => rfl
  | k + 1, x => by
    rw [List.replicate_succ, stp_succ', ← runB_false k]
    show runB (bit (x ^^^ b1 false)) _ = _
    rw [show b1 false = 0#32 from rfl, BitVec.xor_zero]
theorem bitsOf_length (l : List UInt8) : (bitsOf l).length = 8 * l.length := by
  induction l with
  | nil => rfl
  | cons c l ih =>
    show (bits8 c ++ bitsOf l).length = _
    rw [List.length_append, ih, List.length_cons]
    simp [bits8]; omega
theorem bitsOf_get : ∀ (l : List UInt8) (j : Nat), j < 8 * l.length → (bitsOf l)[j]? = some (bitAt l j)
  | [], j, h => by simp at h
  | c :: l, j, h => by
    show (bits8 c ++ bitsOf l)[j]? = _
    have h8 : (bits8 c).length = 8 := by simp [bits8]
    rcases Nat.lt_or_ge j 8 with hj | hj
    · rw [List.getElem?_append_left (by omega)]
      unfold bits8 bitAt
      rw [List.getElem?_map, List.getElem?_range hj, Nat.div_eq_of_lt hj, Nat.mod_eq_of_lt hj]
      rfl
    · rw [List.getElem?_append_right (by omega), h8, bitsOf_get l (j - 8) (by rw [List.length_cons] at h; omega)]
      unfold bitAt
      rw [show j / 8 = (j - 8) / 8 + 1 by omega, List.getElem?_cons_succ, show (j - 8) % 8 = j % 8 by omega]
/-- Bytes whose bits are those of a word that is not nought, from some bit on, and else nought. -/
theorem burst_run (e : List UInt8) (from_ : Nat) (t : BitVec 32) (ht : t ≠ 0#32) (hf : from_ + 32 ≤ 8 * e.length)
    (h : ∀ j : Nat, j < 8 * e.length → bitAt e j = (decide (from_ ≤ j ∧ j < from_ + 32) && t.getLsbD (j - from_))) : run 0#32 e ≠ 0#32 := by
  have hb : bitsOf e = List.replicate from_ false ++ (bitsW t 32 ++ List.replicate (8 * e.length - from_ - 32) false) := by
    have hl : (bitsW t 32).length = 32 := by simp [bitsW]
    apply List.ext_getElem?
    intro j
    rcases Nat.lt_or_ge j (8 * e.length) with hj | hj
    · rw [bitsOf_get e j hj, h j hj]
      rcases Nat.lt_or_ge j from_ with h1 | h1
      · rw [List.getElem?_append_left (by simpa using h1), List.getElem?_replicate, if_pos h1, decide_eq_false (by omega)]; rfl
      · rw [List.getElem?_append_right (by simpa using h1), List.length_replicate]
        rcases Nat.lt_or_ge (j - from_) 32 with h2 | h2
        · rw [List.getElem?_append_left (by omega), decide_eq_true (by omega)]
          unfold bitsW
          rw [List.getElem?_map, List.getElem?_range h2]
          rfl
        · rw [List.getElem?_append_right (by omega), hl, List.getElem?_replicate, if_pos (by omega), decide_eq_false (by omega)]; rfl
    · rw [List.getElem?_eq_none (by rw [bitsOf_length]; exact hj), List.getElem?_eq_none (by simp [hl]; omega)]
  rw [run_bits, hb, runB_append, runB_append, runB_false, runB_false, stp_zero, runB_word 32 _ _ t.isLt, BitVec.zero_xor]
  exact stp_ne _ _ (stp_ne _ _ ht)
theorem run_diff : ∀ (b c e : List UInt8), b.length = c.length → e.length = c.length → (∀ j : Nat, j < c.length → c[j]? = some ((b[j]?.getD 0) ^^^ (e[j]?.getD 0))) → ∀ s1 s2 : BitVec 32, run (s1 ^^^ s2) c = run s1 b ^^^ run s2 e
  | [], [], [], _, _, _, _, _ => rfl
  | p :: b, y :: c, q :: e, hb, he, h, s1, s2 => by
    have h0 := h 0 (by simp)
    simp only [List.getElem?_cons_zero, Option.some.injEq, Option.getD_some] at h0
    subst h0
    rw [run_cons, run_cons, run_cons, ← run_diff b c e (by simpa using hb) (by simpa using he) (fun j hj => by
      have := h (j + 1) (by simpa using hj)
      simpa using this)]
    congr 1
    rw [← stp_xor, reg8_xor]
    congr 1
    simp only [BitVec.xor_assoc]
    rw [xor_lc s2 (reg8 p)]
  | [], _ :: _, _, hb, _, _, _, _ => by simp at hb
  | _ :: _, [], _, hb, _, _, _, _ => by simp at hb
  | _, [], _ :: _, _, he, _, _, _ => by simp at he
  | _, _ :: _, [], _, he, _, _, _ => by simp at he
theorem burst (b c : List UInt8) (from_ : Nat) (t : BitVec 32) (ht : t ≠ 0#32) (hl : b.length = c.length) (hf : from_ + 32 ≤ 8 * c.length)
    (h : ∀ j : Nat, j < 8 * c.length → bitAt c j = (bitAt b j ^^ (decide (from_ ≤ j ∧ j < from_ + 32) && t.getLsbD (j - from_)))) : sum c ≠ sum b := by
  let e : List UInt8 := (List.range c.length).map fun i => (b[i]?.getD 0) ^^^ (c[i]?.getD 0)
  have hel : e.length = c.length := by simp [e]
  have heg : ∀ j, j < c.length → e[j]? = some ((b[j]?.getD 0) ^^^ (c[j]?.getD 0)) := fun j hj => by
    simp only [e]
    rw [List.getElem?_map, List.getElem?_range hj]; rfl
  have hrun := run_diff b c e hl hel (fun j hj => by
    rw [heg j hj, List.getElem?_eq_getElem hj, Option.getD_some, Option.getD_some, ← UInt8.xor_assoc, UInt8.xor_self, UInt8.zero_xor]) (inv 0#32) 0#32
  rw [BitVec.xor_zero] at hrun
  have hne := burst_run e from_ t ht (by rw [hel]; exact hf) (fun j hj => by
    rw [hel] at hj
    have hd : j / 8 < c.length := by omega
    have := h j hj
    unfold bitAt at this ⊢
    rw [heg _ hd, Option.getD_some, UInt8.toNat_xor, Nat.testBit_xor, this]
    cases (b[j / 8]?.getD 0).toNat.testBit (j % 8) <;> simp)
  intro hs
  apply hne
  unfold sum more at hs
  rw [hrun] at hs
  generalize run (inv 0#32) b = X at hs
  generalize run 0#32 e = Y at hs ⊢
  rw [inv_xor, inv_xor X, BitVec.xor_comm X Y, BitVec.xor_assoc] at hs
  have h2 := congrArg (· ^^^ (X ^^^ BitVec.allOnes 32)) hs
  simp only [BitVec.xor_assoc Y, BitVec.xor_self, BitVec.xor_zero] at h2
  exact h2
theorem flip_go (u : UInt8) (m : Nat) (hm : m < 8) : ∃ v : UInt8, bits BinOp.xor IntKind.u8 (u.toNat : Int) (2 ^ m % 256) = (v.toNat : Int) ∧ ∀ i : Nat, v.toNat.testBit i = (u.toNat.testBit i ^^ decide (m = i)) := by
  have hp : (2 : Nat) ^ m < 256 := by
    have := Nat.pow_le_pow_right (show 0 < 2 by omega) (show m ≤ 7 by omega)
    omega
  have e : ((2 : Int) ^ m % 256) = (((2 ^ m : Nat)) : Int) := by
    have h2 : (2 : Int) ^ m = ((2 ^ m : Nat) : Int) := by simp
    rw [h2]
    generalize 2 ^ m = q at *
    omega
  have hx : u.toNat ^^^ 2 ^ m < 256 := Nat.xor_lt_two_pow (n := 8) u.toNat_lt hp
  refine ⟨UInt8.ofNat (u.toNat ^^^ 2 ^ m), ?_, fun i => ?_⟩
  · rw [e, u8_xor_nat _ _ u.toNat_lt hp, UInt8.toNat_ofNat', Nat.mod_eq_of_lt hx]
  · rw [UInt8.toNat_ofNat', Nat.mod_eq_of_lt hx, Nat.testBit_xor, Nat.testBit_two_pow]
theorem bitAt_set (x : List UInt8) (n : Nat) (u v : UInt8) (hu : x[n / 8]? = some u) (hv : ∀ i : Nat, v.toNat.testBit i = (u.toNat.testBit i ^^ decide (n % 8 = i))) (j : Nat) :
    bitAt (x.set (n / 8) v) j = (bitAt x j ^^ decide (n = j)) := by
  unfold bitAt
  rw [List.getElem?_set]
  have hn := (List.getElem?_eq_some_iff.1 hu).1
  by_cases e : n / 8 = j / 8
  · rw [if_pos e, if_pos hn, Option.getD_some, hv, ← e, hu, Option.getD_some]
    congr 1
    rw [decide_eq_decide]; omega
  · rw [if_neg e, decide_eq_false (by omega), Bool.xor_false]
theorem bit_at_go (t : BitVec 32) (k : Nat) : bits BinOp.and IntKind.u32 ((t.toNat : Int) / 2 ^ k) 1 = if t.getLsbD k then 1 else 0 := by
  have e : ((t.toNat : Int) / 2 ^ k) = ((t >>> k).toNat : Int) := by
    rw [BitVec.toNat_ushiftRight, Nat.shiftRight_eq_div_pow]; simp
  rw [e, and_one, BitVec.getLsbD_ushiftRight, Nat.add_zero]
end CrcM
end Go.Proofs.Ytpgmhjjdnanlgaa
