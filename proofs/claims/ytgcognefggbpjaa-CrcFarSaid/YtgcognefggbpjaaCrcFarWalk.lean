/-
  The walk of CrcFar: it returns true and changes nothing that was there.
  Conditions: the numbers fit their kinds.
-/
import Derived.Test.YtgcognefggbpjaaCrcW2
import Derived.Test.YtgcognefggbpjaaCrcW3
namespace Go.Proofs.Ytgcognefggbpjaa
open Go.RowKit
set_option linter.unusedVariables false
theorem crcFar_known (a0 a1 a2 : Int) (w : World) (h : a1 < 0 ∨ (0 ≤ a1 ∧ a2 < 0) ∨ (0 ≤ a1 ∧ 0 ≤ a2 ∧ 2305843009213693952 < a1) ∨ (0 ≤ a1 ∧ 0 ≤ a2 ∧ a1 ≤ 2305843009213693952 ∧ 2305843009213693952 < a2)) :
    Calls Try.prog 7 #[.int .u32 a0, .int .i64 a1, .int .i64 a2] w fun e w' => e = .returned (.bool true) ∧ Below w.heap.size w w' := by
  rcases h with h | ⟨h1, h⟩ | ⟨h1, h2, h⟩ | ⟨h1, h2, h3, h⟩
  all_goals
    go_enter Try.func7, Try.ntmps7
    go_wp2_with (go_at_call 21; refine (known01_any _).mono ?_; rintro e w' ⟨rfl, hb⟩)
    go_ret
    exact ⟨rfl, hb⟩
theorem crcFar_walk (a0 a1 a2 : Int) (w : World) (w0 : (Lit.int .u32 a0).wf = true) (w1 : (Lit.int .i64 a1).wf = true) (w2 : (Lit.int .i64 a2).wf = true) :
    Calls Try.prog 7 #[.int .u32 a0, .int .i64 a1, .int .i64 a2] w fun e w' => e = .returned (.bool true) ∧ Below w.heap.size w w' := by
  have g0 : 0 ≤ a0 ∧ a0 ≤ 4294967295 := by simpa [Lit.wf, IntKind.min, IntKind.max, IntKind.signed, IntKind.bits] using w0
  have g1 : -9223372036854775808 ≤ a1 ∧ a1 ≤ 9223372036854775807 := by simpa [Lit.wf, IntKind.min, IntKind.max, IntKind.signed, IntKind.bits] using w1
  have g2 : -9223372036854775808 ≤ a2 ∧ a2 ≤ 9223372036854775807 := by simpa [Lit.wf, IntKind.min, IntKind.max, IntKind.signed, IntKind.bits] using w2
  by_cases hk : a1 < 0 ∨ (0 ≤ a1 ∧ a2 < 0) ∨ (0 ≤ a1 ∧ 0 ≤ a2 ∧ 2305843009213693952 < a1) ∨ (0 ≤ a1 ∧ 0 ≤ a2 ∧ a1 ≤ 2305843009213693952 ∧ 2305843009213693952 < a2)
  · exact crcFar_known a0 a1 a2 w hk
  have h1 : 0 ≤ a1 := by omega
  have h2 : 0 ≤ a2 := by omega
  have h3 : a1 ≤ 2305843009213693952 := by omega
  have h4 : a2 ≤ 2305843009213693952 := by omega
  clear hk g1 g2 w1 w2
  obtain ⟨t, rfl⟩ : ∃ t : BitVec 32, a0 = (t.toNat : Int) := ⟨BitVec.ofNat 32 a0.toNat, by rw [BitVec.toNat_ofNat, Nat.mod_eq_of_lt (by omega)]; omega⟩
  have hj : ∀ (x : BitVec 32) (n : Int), 0 ≤ n → n ≤ 4611686018427387904 → ∀ W : World, Calls Try.prog 22 #[.int .u32 (x.toNat : Int), .int .u32 0, .int .i64 n] W fun e w' => e = .returned (.int .u32 ((CrcM.stp (8 * n.toNat) x).toNat : Int)) ∧ Below W.heap.size W w' := by
    intro x n hn hn' W
    have h := join_any x 0#32 n (by omega) (by omega) W
    rw [show CrcM.xr (CrcM.stp (8 * n.toNat) x) 0#32 = CrcM.stp (8 * n.toNat) x from BitVec.xor_zero] at h
    exact h
  have HJ := Lib.hid hj
  have he : CrcM.stp (8 * a2.toNat) (CrcM.stp (8 * a1.toNat) t) = CrcM.stp (8 * (a1 + a2).toNat) t := by
    rw [← CrcM.stp_add]; congr 1; omega
  have HE := Lib.hid he
  clear hj he
  go_enter Try.func7, Try.ntmps7
  go_wp2_with fail
  refine (HJ.out t a1 h1 (by omega) _).mono ?_
  rintro e w1 ⟨rfl, b1⟩
  go_wp2_with fail
  refine (HJ.out _ a2 h2 (by omega) _).mono ?_
  rintro e w2 ⟨rfl, b2⟩
  rw [HE.out]
  go_wp2_with fail
  refine (HJ.out t (a1 + a2) (by omega) (by omega) _).mono ?_
  rintro e w3 ⟨rfl, b3⟩
  go_wp2_with fail
  refine (known01_any _).mono ?_
  rintro e w4 ⟨rfl, b4⟩
  go_wp2
  go_ret
  exact ⟨rfl, below_join (below_join (below_join b1 b2) b3) b4⟩
end Go.Proofs.Ytgcognefggbpjaa
