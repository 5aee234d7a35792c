/-
  Plain laws of the checksum: of three texts; of a burst.
  Conditions: none.
-/
import Derived.Test.YtpgmhjjdnanlgaaCrcM
namespace Go.Proofs.Ytpgmhjjdnanlgaa
namespace CrcM
theorem xor_lc (p q r : BitVec 32) : p ^^^ (q ^^^ r) = q ^^^ (p ^^^ r) := by rw [← BitVec.xor_assoc, BitVec.xor_comm p q, BitVec.xor_assoc]
theorem reg8_xor (a b : UInt8) : reg8 (a ^^^ b) = reg8 a ^^^ reg8 b := by
  unfold reg8
  rw [UInt8.toBitVec_xor]
  apply BitVec.eq_of_getLsbD_eq
  intro i hi
  rw [BitVec.getLsbD_setWidth, BitVec.getLsbD_xor, BitVec.getLsbD_xor, BitVec.getLsbD_setWidth, BitVec.getLsbD_setWidth]
  cases decide (i < 32) <;> simp
theorem run_three : ∀ (a b c x : List UInt8), a.length = x.length → b.length = x.length → c.length = x.length →
    (∀ j : Nat, j < x.length → x[j]? = some ((a[j]?.getD 0) ^^^ (b[j]?.getD 0) ^^^ (c[j]?.getD 0))) → ∀ s1 s2 s3 : BitVec 32, run (s1 ^^^ s2 ^^^ s3) x = run s1 a ^^^ run s2 b ^^^ run s3 c
  | [], [], [], [], _, _, _, _, _, _, _ => rfl
  | p :: a, q :: b, r :: c, y :: x, ha, hb, hc, h, s1, s2, s3 => by
    have h0 := h 0 (by simp)
    simp only [List.getElem?_cons_zero, Option.some.injEq, Option.getD_some] at h0
    subst h0
    rw [run_cons, run_cons, run_cons, run_cons, ← run_three a b c x (by simpa using ha) (by simpa using hb) (by simpa using hc) (fun j hj => by
      have := h (j + 1) (by simpa using hj)
      simpa using this)]
    congr 1
    rw [← stp_xor, ← stp_xor, reg8_xor, reg8_xor]
    congr 1
    simp only [BitVec.xor_assoc]
    rw [xor_lc s3 (reg8 p), xor_lc s2 (reg8 p), xor_lc s3 (reg8 q)]
  | [], _, _, _ :: _, ha, _, _, _, _, _, _ => by simp at ha
  | _ :: _, _, _, [], ha, _, _, _, _, _, _ => by simp at ha
  | _, [], _, _ :: _, _, hb, _, _, _, _, _ => by simp at hb
  | _, _ :: _, _, [], _, hb, _, _, _, _, _ => by simp at hb
  | _, _, [], _ :: _, _, _, hc, _, _, _, _ => by simp at hc
  | _, _, _ :: _, [], _, _, hc, _, _, _, _ => by simp at hc
theorem inv_xor (x : BitVec 32) : inv x = x ^^^ BitVec.allOnes 32 := by
  unfold inv
  apply BitVec.eq_of_getLsbD_eq
  intro i hi
  rw [BitVec.getLsbD_not, BitVec.getLsbD_xor, BitVec.getLsbD_allOnes, decide_eq_true hi]
  simp
theorem sum_three (a b c x : List UInt8) (ha : a.length = x.length) (hb : b.length = x.length) (hc : c.length = x.length)
    (h : ∀ j : Nat, j < x.length → x[j]? = some ((a[j]?.getD 0) ^^^ (b[j]?.getD 0) ^^^ (c[j]?.getD 0))) : sum x = sum a ^^^ sum b ^^^ sum c := by
  unfold sum more
  have := run_three a b c x ha hb hc h (inv 0#32) (inv 0#32) (inv 0#32)
  rw [BitVec.xor_self, BitVec.zero_xor] at this
  rw [this]
  generalize run (inv 0#32) a = A
  generalize run (inv 0#32) b = B
  generalize run (inv 0#32) c = C
  rw [inv_xor, inv_xor A, inv_xor B, inv_xor C]
  generalize BitVec.allOnes 32 = o
  simp only [BitVec.xor_assoc]
  rw [xor_lc o C, BitVec.xor_self, BitVec.xor_zero, xor_lc o B, BitVec.xor_comm o C]
end CrcM
end Go.Proofs.Ytpgmhjjdnanlgaa
