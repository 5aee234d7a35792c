/-
  A form that was cut or turned is none; no program in sight.
  Conditions: none.
-/
import Derived.Test.YtpgmhjjdnanlgaaLogM2
namespace Go.Proofs.Ytpgmhjjdnanlgaa
open Go.RowKit
set_option linter.unusedVariables false
set_option linter.unusedSimpArgs false
namespace LogM
open CodeM
theorem uv_ge (n : Nat) : 1 ≤ (uv n).length := by
  unfold uv uvF
  split <;> simp
theorem tail_ge {x : Lrec} (h : May x) : 2 ≤ (tail x).length := by
  have hk := ((mayR_iff x).2 h).1
  unfold tail
  by_cases h1 : x.kind = 1
  · rw [if_pos h1]; simp only [List.length_append, fx_length]; omega
  rw [if_neg h1]
  by_cases h2 : x.kind = 2
  · rw [if_pos h2]; simp only [List.length_append, fx_length]; omega
  rw [if_neg h2]
  by_cases h3 : x.kind = 3
  · rw [if_pos h3]; simp only [List.length_append, fx_length]; omega
  rw [if_neg h3]
  by_cases h4 : x.kind = 4
  · rw [if_pos h4]; simp only [fx_length]; omega
  rw [if_neg h4, if_pos (by omega)]
  have h5 := uv_ge x.opn.length
  have h6 := uv_ge x.dirty.length
  simp only [List.length_append]; omega
theorem form_size0 {x : Lrec} (hm : May x) : le (((form x).drop 4).take 2) = (form x).length := by
  have := form_size hm []
  rwa [List.append_nil] at this
theorem readI_cut {x : Lrec} (hm : May x) {k : Nat} (hk : k < (form x).length) : readI ((form x).take k) = none := by
  have hl : ((form x).take k).length = k := by rw [List.length_take]; omega
  unfold readI
  by_cases h6 : k < 6
  · rw [if_pos (by omega)]
  · have hs : (((form x).take k).drop 4).take 2 = ((form x).drop 4).take 2 := by
      rw [List.drop_take, List.take_take, Nat.min_eq_left (by omega)]
    rw [hs, form_size0 hm, hl, if_neg (by omega), if_pos (by omega)]
theorem byte_bit (t : BitVec 32) (k r : Nat) (hr : r < 8) : (UInt8.ofNat (t.toNat / 2 ^ (8 * k))).toNat.testBit r = t.getLsbD (8 * k + r) := by
  rw [UInt8.toNat_ofNat', show (2 : Nat) ^ 8 = 2 ^ 8 from rfl, Nat.testBit_mod_two_pow, Nat.testBit_div_two_pow]
  simp only [hr, decide_true, Bool.true_and, BitVec.getLsbD]
  rw [Nat.add_comm]
theorem turned_none {x : Lrec} (hm : May x) {b : List UInt8} {f : Nat} {t : BitVec 32} (ht : t ≠ 0#32) (hl : b.length = (form x).length) (h6 : 6 ≤ f) (hf4 : f + 4 ≤ (form x).length)
    (hb : ∀ j, b[j]? = if f ≤ j ∧ j < f + 4 then ((form x)[j]?).map (fun u => u ^^^ UInt8.ofNat (t.toNat / 2 ^ (8 * (j - f)))) else (form x)[j]?) : readI b = none := by
  have h4 : b.take 4 = (form x).take 4 := by
    apply List.ext_getElem?
    intro j
    rw [List.getElem?_take, List.getElem?_take]
    split
    · rw [hb j, if_neg (by omega)]
    · rfl
  have h5 : (b.drop 4).take 2 = ((form x).drop 4).take 2 := by
    apply List.ext_getElem?
    intro j
    rw [List.getElem?_take, List.getElem?_take]
    split
    · rw [List.getElem?_drop, List.getElem?_drop, hb (4 + j), if_neg (by omega)]
    · rfl
  have hlen := form_length x
  have htl := tail_le hm
  have hsum := form_take4 x []
  have hdr := form_drop4 x []
  rw [List.append_nil] at hsum hdr
  rw [List.append_nil] at hdr
  have hB := CrcM.burst ((form x).drop 4) (b.drop 4) (8 * (f - 4)) t ht (by rw [List.length_drop, List.length_drop, hl]) (by rw [List.length_drop, hl]; omega) (fun j hj => by
    unfold CrcM.bitAt
    have hd : j % 8 < 8 := Nat.mod_lt _ (by decide)
    rw [List.getElem?_drop, List.getElem?_drop, hb (4 + j / 8)]
    by_cases hc : f ≤ 4 + j / 8 ∧ 4 + j / 8 < f + 4
    · rw [if_pos hc]
      have hlt : 4 + j / 8 < (form x).length := by omega
      rw [List.getElem?_eq_getElem hlt, Option.map_some, Option.getD_some, Option.getD_some, UInt8.toNat_xor, Nat.testBit_xor, byte_bit t _ _ hd]
      rw [decide_eq_true (show 8 * (f - 4) ≤ j ∧ j < 8 * (f - 4) + 32 by omega), Bool.true_and]
      rw [show 8 * (4 + j / 8 - f) + j % 8 = j - 8 * (f - 4) by omega]
    · rw [if_neg hc, decide_eq_false (show ¬ (8 * (f - 4) ≤ j ∧ j < 8 * (f - 4) + 32) by omega)]
      simp)
  unfold readI
  have htk : b.take (form x).length = b := List.take_of_length_le (by omega)
  rw [h5, form_size0 hm, htk, if_neg (by omega), if_neg (by omega), if_pos]
  rw [h4, hsum, le_fx, Nat.mod_eq_of_lt (CrcM.sum (rest x)).isLt]
  intro q
  apply hB
  rw [hdr]
  exact (BitVec.eq_of_toNat_eq q).symm
end LogM
end Go.Proofs.Ytpgmhjjdnanlgaa
