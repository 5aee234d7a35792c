/-
  The walk of CrcTells: it returns true and changes nothing that was there.
  Conditions: the two slices of bytes lie in memory as lists; each is at most 2^47 - 4096 bytes.
-/
import Derived.Test.YtgcognefggbpjaaCrcW2
namespace Go.Proofs.Ytgcognefggbpjaa
open Go.RowKit
set_option linter.unusedVariables false
set_option maxRecDepth 100000 in
theorem crcTells_walk (A0 : Option Addr) (c0 : Nat) (l0 : List UInt8) (A1 : Option Addr) (c1 : Nat) (l1 : List UInt8) (w : World)
    (r0 : Row w A0 (bs l0)) (_h0 : l0.length ≤ c0) (m0 : l0.length ≤ 140737488351232) (r1 : Row w A1 (bs l1)) (_h1 : l1.length ≤ c1) (m1 : l1.length ≤ 140737488351232) :
    Calls Try.prog 3 #[.slice A0 l0.length c0, .slice A1 l1.length c1] w fun e w' => e = .returned (.bool true) ∧ Below w.heap.size w w' := by
  go_enter Try.func3, Try.ntmps3
  go_wp2_with fail
  refine (lent01_any A0 c0 l0 _ r0 m0).mono ?_
  rintro e w1 ⟨g1, d1, rfl, k1, j1, s1, b1⟩
  go_wp2_with fail
  refine (lent01_any A1 c1 l1 _ (r1.below b1) m1).mono ?_
  rintro e w2 ⟨g2, d2, rfl, k2, j2, s2, b2⟩
  go_wp2_with fail
  refine (sum_any _ d1 l0 _ ((by have := s1.take l0.length; rwa [← bs_length l0, bs_append, List.take_left] at this : Row w1 _ (bs l0)).below b2) (by omega)).mono ?_
  rintro e w3 ⟨rfl, b3⟩
  go_wp2_with fail
  refine (more_any _ _ d2 l1 _ ((by have := s2.take l1.length; rwa [← bs_length l1, bs_append, List.take_left] at this : Row w2 _ (bs l1)).below b3) (by omega)).mono ?_
  rintro e w4 ⟨rfl, b4⟩
  have b14 := below_join (below_join b2 b3) b4
  have b24 := below_join b3 b4
  have b04 := below_join b1 b14
  go_wp2_with fail
  refine (refsum_any A0 c0 l0 _ (r0.below b04) (by omega)).mono ?_
  rintro e w5 ⟨rfl, rfl⟩
  go_wp2_with fail
  refine (refsum_any A0 c0 l0 _ (r0.below b04) (by omega)).mono ?_
  rintro e w5 ⟨rfl, rfl⟩
  go_wp2_with fail
  refine (refmore_any _ A1 c1 l1 _ (r1.below b04) (by omega)).mono ?_
  rintro e w5 ⟨rfl, rfl⟩
  go_wp2_with fail
  refine (kept01_any (some ⟨g1, 0, none⟩) A0 d1 c0 l0 _ (s1.below b14) k1 j1 (r0.below b04) (by omega)).mono ?_
  rintro e w5 ⟨rfl, rfl⟩
  go_wp2_with fail
  refine (kept01_any (some ⟨g2, 0, none⟩) A1 d2 c1 l1 _ (s2.below b24) k2 j2 (r1.below b04) (by omega)).mono ?_
  rintro e w5 ⟨rfl, rfl⟩
  go_wp2_with fail
  refine (known01_any _).mono ?_
  rintro e w6 ⟨rfl, b6⟩
  go_wp2
  go_ret
  exact ⟨rfl, below_join b04 b6⟩
end Go.Proofs.Ytgcognefggbpjaa
