/-
  The walk of CrcJoins: it returns true and changes nothing that was there.
  Conditions: the two slices of bytes lie in memory as lists, each of at most 1048576 bytes; the numbers fit their kinds.
-/
import Derived.Test.YtgcognefggbpjaaCrcW2
import Derived.Test.YtgcognefggbpjaaCrcW3
namespace Go.Proofs.Ytgcognefggbpjaa
open Go.RowKit
set_option linter.unusedVariables false
set_option maxRecDepth 100000 in
theorem crcJoins_rest (A0 : Option Addr) (c0 : Nat) (l0 : List UInt8) (A1 : Option Addr) (c1 : Nat) (l1 : List UInt8) (s t : BitVec 32) (n : Int) (w : World)
    (r0 : Row w A0 (bs l0)) (m0 : l0.length ≤ 1048576) (r1 : Row w A1 (bs l1)) (m1 : l1.length ≤ 1048576) (g4 : -9223372036854775808 ≤ n ∧ n ≤ 9223372036854775807) :
    Calls Try.prog 6 #[.slice A0 l0.length c0, .slice A1 l1.length c1, .int .u32 (s.toNat : Int), .int .u32 (t.toNat : Int), .int .i64 n] w fun e w' => e = .returned (.bool true) ∧ Below w.heap.size w w' := by
  have hE := Lib.hid (CrcM.join_law l0 l1)
  have hlaw := Lib.hid (show CrcM.xr (CrcM.stp (8 * ((l1.length : Int)).toNat) (CrcM.sum l0)) (CrcM.sum l1) = CrcM.sum (l0 ++ l1) from by rw [Int.toNat_natCast]; exact hE.out)
  go_enter Try.func6, Try.ntmps6
  by_cases h5 : n ≤ 5000
  · go_wp2_with fail
    refine (join_any s t n g4.1 g4.2 _).mono ?_
    rintro e w1 ⟨rfl, b1⟩
    go_wp2_with fail
    refine (refjoin_any s t n g4.2 _).mono ?_
    rintro e w2 ⟨rfl, rfl⟩
    go_wp2_with fail
    refine (sum_any A0 c0 l0 _ (r0.below b1) (by omega)).mono ?_
    rintro e w2 ⟨rfl, b2⟩
    have b02 := below_join b1 b2
    go_wp2_with fail
    refine (sum_any A1 c1 l1 _ (r1.below b02) (by omega)).mono ?_
    rintro e w3 ⟨rfl, b3⟩
    have b03 := below_join b02 b3
    go_wp2_with fail
    refine (join_any (CrcM.sum l0) (CrcM.sum l1) l1.length (by omega) (by omega) _).mono ?_
    rintro e w4 ⟨rfl, b4⟩
    have b04 := below_join b03 b4
    rw [hlaw.out]
    have s4 := b04.size
    go_wp2_with (at_builtin; refine wpl_app _ rfl (.tmp 31) (.tmp 32) rfl w.heap.size (some ⟨w4.heap.size, 0, none⟩) 0 [] rfl (Own.made w4 #[] 0 s4 (by unfold maxLen; omega) rfl) A0 c0 l0 rfl ((r0.below b04).alloc _) ?_ ?_ ?_)
    · simp; omega
    · simp; omega
    intro A2 c2 w5 h5' hg5 _
    have b05 : Below w.heap.size w w5 := ((b04.alloc s4 (.cells #[] 5))).grown hg5 (by simp; omega) (by intro k hk; simp [Value.ownBlock] at hk; omega)
    have s5 := b05.size
    go_wp2_with (at_builtin; refine wpl_app _ rfl (.tmp 33) (.tmp 34) rfl w.heap.size A2 c2 l0 rfl h5' A1 c1 l1 rfl (r1.below b05) ?_ ?_ ?_)
    · omega
    · exact s5
    intro A3 c3 w6 h6 hg6 _
    have b06 : Below w.heap.size w w6 := Own.grown_below h5' rfl hg6 b05 (Nat.le_refl _) s5
    go_wp2_with fail
    refine (sum_at A3 c3 (l0.length + l1.length) (l0 ++ l1) _ h6.row (by rw [List.length_append]) (by omega)).mono ?_
    rintro e w7 ⟨rfl, b7⟩
    go_wp2_with fail
    refine (known01_any _).mono ?_
    rintro e w8 ⟨rfl, b8⟩
    go_wp2
    go_ret
    exact ⟨rfl, below_join (below_join b06 b7) b8⟩
  · have b1 : Below w.heap.size w w := Below.refl _ _
    go_wp2_with fail
    refine (sum_any A0 c0 l0 _ (r0.below b1) (by omega)).mono ?_
    rintro e w2 ⟨rfl, b2⟩
    have b02 := below_join b1 b2
    go_wp2_with fail
    refine (sum_any A1 c1 l1 _ (r1.below b02) (by omega)).mono ?_
    rintro e w3 ⟨rfl, b3⟩
    have b03 := below_join b02 b3
    go_wp2_with fail
    refine (join_any (CrcM.sum l0) (CrcM.sum l1) l1.length (by omega) (by omega) _).mono ?_
    rintro e w4 ⟨rfl, b4⟩
    have b04 := below_join b03 b4
    rw [hlaw.out]
    have s4 := b04.size
    go_wp2_with (at_builtin; refine wpl_app _ rfl (.tmp 31) (.tmp 32) rfl w.heap.size (some ⟨w4.heap.size, 0, none⟩) 0 [] rfl (Own.made w4 #[] 0 s4 (by unfold maxLen; omega) rfl) A0 c0 l0 rfl ((r0.below b04).alloc _) ?_ ?_ ?_)
    · simp; omega
    · simp; omega
    intro A2 c2 w5 h5' hg5 _
    have b05 : Below w.heap.size w w5 := ((b04.alloc s4 (.cells #[] 5))).grown hg5 (by simp; omega) (by intro k hk; simp [Value.ownBlock] at hk; omega)
    have s5 := b05.size
    go_wp2_with (at_builtin; refine wpl_app _ rfl (.tmp 33) (.tmp 34) rfl w.heap.size A2 c2 l0 rfl h5' A1 c1 l1 rfl (r1.below b05) ?_ ?_ ?_)
    · omega
    · exact s5
    intro A3 c3 w6 h6 hg6 _
    have b06 : Below w.heap.size w w6 := Own.grown_below h5' rfl hg6 b05 (Nat.le_refl _) s5
    go_wp2_with fail
    refine (sum_at A3 c3 (l0.length + l1.length) (l0 ++ l1) _ h6.row (by rw [List.length_append]) (by omega)).mono ?_
    rintro e w7 ⟨rfl, b7⟩
    go_wp2_with fail
    refine (known01_any _).mono ?_
    rintro e w8 ⟨rfl, b8⟩
    go_wp2
    go_ret
    exact ⟨rfl, below_join (below_join b06 b7) b8⟩
theorem crcJoins_walk (A0 : Option Addr) (c0 : Nat) (l0 : List UInt8) (A1 : Option Addr) (c1 : Nat) (l1 : List UInt8) (a2 a3 a4 : Int) (w : World)
    (r0 : Row w A0 (bs l0)) (h0 : l0.length ≤ c0) (m0 : l0.length ≤ 1048576) (r1 : Row w A1 (bs l1)) (h1 : l1.length ≤ c1) (m1 : l1.length ≤ 1048576)
    (w2 : (Lit.int .u32 a2).wf = true) (w3 : (Lit.int .u32 a3).wf = true) (w4 : (Lit.int .i64 a4).wf = true) :
    Calls Try.prog 6 #[.slice A0 l0.length c0, .slice A1 l1.length c1, .int .u32 a2, .int .u32 a3, .int .i64 a4] w fun e w' => e = .returned (.bool true) ∧ Below w.heap.size w w' := by
  have g2 : 0 ≤ a2 ∧ a2 ≤ 4294967295 := by simpa [Lit.wf, IntKind.min, IntKind.max, IntKind.signed, IntKind.bits] using w2
  have g3 : 0 ≤ a3 ∧ a3 ≤ 4294967295 := by simpa [Lit.wf, IntKind.min, IntKind.max, IntKind.signed, IntKind.bits] using w3
  have g4 : -9223372036854775808 ≤ a4 ∧ a4 ≤ 9223372036854775807 := by simpa [Lit.wf, IntKind.min, IntKind.max, IntKind.signed, IntKind.bits] using w4
  obtain ⟨s, rfl⟩ : ∃ t : BitVec 32, a2 = (t.toNat : Int) := ⟨BitVec.ofNat 32 a2.toNat, by rw [BitVec.toNat_ofNat, Nat.mod_eq_of_lt (by omega)]; omega⟩
  obtain ⟨t, rfl⟩ : ∃ t : BitVec 32, a3 = (t.toNat : Int) := ⟨BitVec.ofNat 32 a3.toNat, by rw [BitVec.toNat_ofNat, Nat.mod_eq_of_lt (by omega)]; omega⟩
  exact crcJoins_rest A0 c0 l0 A1 c1 l1 s t a4 w r0 m0 r1 m1 g4
end Go.Proofs.Ytgcognefggbpjaa
