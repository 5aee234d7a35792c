/-
  The walk of CrcBurst: it returns true and changes nothing that was there.
  Conditions: the slice of bytes lies in memory as a list; it is at most 2^47 - 4096 bytes; the numbers fit their kinds.
-/
import Derived.Test.YtgcognefggbpjaaCrcW2
import Derived.Test.YtgcognefggbpjaaCrcM3
import Derived.Test.YtgcognefggbpjaaMem2
namespace Go.Proofs.Ytgcognefggbpjaa
open Go.RowKit Go.Sort
set_option linter.unusedVariables false
set_option maxRecDepth 100000 in
theorem crcBurst_walk (A0 : Option Addr) (c0 : Nat) (l0 : List UInt8) (a1 : Int) (a2 : Int) (w : World)
    (r0 : Row w A0 (bs l0)) (h0 : l0.length ≤ c0) (m0 : l0.length ≤ 140737488351232) (w1 : (Lit.int .i64 a1).wf = true) (w2 : (Lit.int .u32 a2).wf = true) :
    Calls Try.prog 4 #[.slice A0 l0.length c0, .int .i64 a1, .int .u32 a2] w fun e w' => e = .returned (.bool true) ∧ Below w.heap.size w w' := by
  have g1 : -9223372036854775808 ≤ a1 ∧ a1 ≤ 9223372036854775807 := by simpa [Lit.wf, IntKind.min, IntKind.max, IntKind.signed, IntKind.bits] using w1
  have g2 : 0 ≤ a2 ∧ a2 ≤ 4294967295 := by simpa [Lit.wf, IntKind.min, IntKind.max, IntKind.signed, IntKind.bits] using w2
  by_cases hs : l0.length < 5
  · go_enter Try.func4, Try.ntmps4
    go_wp2_with (go_at_call 21; refine (known01_any _).mono ?_; rintro e w' ⟨rfl, hb⟩)
    go_ret
    exact ⟨rfl, hb⟩
  by_cases hz : a2 = 0
  · go_enter Try.func4, Try.ntmps4
    go_wp2_with (go_at_call 21; refine (known01_any _).mono ?_; rintro e w' ⟨rfl, hb⟩)
    go_ret
    exact ⟨rfl, hb⟩
  have hz' : (a2 == 0) = false := by simpa using hz
  obtain ⟨t, rfl⟩ : ∃ t : BitVec 32, a2 = (t.toNat : Int) := ⟨BitVec.ofNat 32 a2.toNat, by rw [BitVec.toNat_ofNat, Nat.mod_eq_of_lt (by omega)]; omega⟩
  have hu := IntKind.wrap_u64 a1
  have hu0 : 0 ≤ IntKind.u64.wrap a1 := by rw [hu]; omega
  obtain ⟨f, hf⟩ : ∃ f : Nat, (IntKind.u64.wrap a1).tmod (8 * (l0.length : Int) - 32) = (f : Int) := ⟨((IntKind.u64.wrap a1).tmod (8 * (l0.length : Int) - 32)).toNat, by
    have := Int.tmod_nonneg (8 * (l0.length : Int) - 32) hu0
    omega⟩
  have hfl : f + 32 < 8 * l0.length := by
    have := Int.tmod_lt_of_pos (IntKind.u64.wrap a1) (show 0 < 8 * (l0.length : Int) - 32 by omega)
    omega
  clear hu hu0 w1 w2 g1
  go_enter Try.func4, Try.ntmps4
  go_wp2_with (at_builtin; refine wpl_app _ rfl (.tmp 30) (.tmp 31) rfl w.heap.size (some ⟨w.heap.size, 0, none⟩) 0 [] rfl (Own.made w #[] 0 (Nat.le_refl _) (by unfold maxLen; omega) rfl) A0 c0 l0 rfl (r0.alloc _) ?_ ?_ ?_)
  · simp; omega
  · simp
  intro A1 c1 w1 h1 hg1 _
  obtain ⟨g, rfl, hge, _⟩ := h1.some_ (by intro h; rw [h] at hs; simp at hs)
  have hb1 : Below w.heap.size w w1 := ((Below.refl w.heap.size w).alloc (Nat.le_refl _) (.cells #[] 5)).grown hg1 (by simp) (by intro k hk; simp [Value.ownBlock] at hk; omega)
  clear hf hg1
  go_wp2
  go_loopw [10] (fun i wr => ∃ (k : Nat) (x : List UInt8), k ≤ 32 ∧ i = .int .i64 k ∧ Own wr w.heap.size (some ⟨g, 0, none⟩) c1 x ∧ x.length = l0.length ∧ Below w.heap.size w wr ∧
      ∀ j : Nat, j < 8 * l0.length → CrcM.bitAt x j = (CrcM.bitAt l0 j ^^ (decide (f ≤ j ∧ j < f + k) && t.getLsbD (j - f)))) (fun i _ => 32 - (intOf i).toNat)
  case atStart => exact ⟨0, l0, Nat.zero_le _, rfl, h1, rfl, hb1, fun j hj => by rw [decide_eq_false (by omega)]; simp⟩
  case round =>
    obtain ⟨k, x, hk, rfl, hx, hxl, hbel, hall⟩ := hrel
    by_cases hlt : k < 32
    · have HA := Lib.hid (And.intro hxl hall)
      clear hxl hall
      have hbit := CrcM.bit_at_go t k
      cases htk : t.getLsbD k with
      | true =>
        rw [if_pos htk] at hbit
        obtain ⟨u, hu⟩ : ∃ u, x[(f + k) / 8]? = some u := ⟨_, List.getElem?_eq_getElem (by rw [HA.out.1]; omega)⟩
        have hc := hx.cell hu
        have hz := hx.frozen ((f + k) / 8)
        obtain ⟨v, hv, hvb⟩ := CrcM.flip_go u ((f + k) % 8) (by omega)
        have HB := Lib.hid (And.intro htk (And.intro hu hvb))
        clear htk hu hvb
        go_wp2
        go_roundw
        case rel =>
          refine ⟨k + 1, x.set ((f + k) / 8) v, by omega, by go_num, hx.set_ _ _, by rw [List.length_set]; exact HA.out.1, hbel.setCell hge _, fun j hj => ?_⟩
          rw [CrcM.bitAt_set x (f + k) u v HB.out.2.1 HB.out.2.2, HA.out.2 j hj]
          by_cases e : j = f + k
          · subst e
            have d1 : decide (f ≤ f + k ∧ f + k < f + k) = false := decide_eq_false (by omega)
            have d2 : decide (f ≤ f + k ∧ f + k < f + (k + 1)) = true := decide_eq_true (by omega)
            rw [d1, d2, show f + k - f = k by omega, HB.out.1]; simp
          · rw [show decide (f ≤ j ∧ j < f + (k + 1)) = decide (f ≤ j ∧ j < f + k) from by rw [decide_eq_decide]; omega, decide_eq_false (show ¬ f + k = j by omega), Bool.xor_false]
        case measure => simp [intOf]; omega
      | false =>
        rw [if_neg (by rw [htk]; simp)] at hbit
        have HB := Lib.hid htk
        clear htk
        go_wp2
        go_roundw
        case rel =>
          refine ⟨k + 1, x, by omega, by go_num, hx, HA.out.1, hbel, fun j hj => ?_⟩
          rw [HA.out.2 j hj]
          by_cases e : j = f + k
          · subst e
            have d1 : decide (f ≤ f + k ∧ f + k < f + k) = false := decide_eq_false (by omega)
            have d2 : decide (f ≤ f + k ∧ f + k < f + (k + 1)) = true := decide_eq_true (by omega)
            rw [d1, d2, show f + k - f = k by omega, HB.out]; rfl
          · rw [show decide (f ≤ j ∧ j < f + (k + 1)) = decide (f ≤ j ∧ j < f + k) from by rw [decide_eq_decide]; omega]
        case measure => simp [intOf]; omega
    · obtain rfl : k = 32 := by omega
      have hne : CrcM.sum x ≠ CrcM.sum l0 := by
        refine CrcM.burst l0 x f t (fun e => hz (by rw [e]; rfl)) hxl.symm (by omega) fun j hj => ?_
        rw [hxl] at hj
        exact hall j hj
      have hb : (((CrcM.sum x).toNat : Int) != ((CrcM.sum l0).toNat : Int)) = true := by
        rw [bne_iff_ne]
        intro e
        exact hne (BitVec.eq_of_toNat_eq (by omega))
      have HX := Lib.hid (And.intro hxl hx.row)
      clear hne hxl hall hx
      go_wp2_with fail
      refine (sum_at (some ⟨g, 0, none⟩) c1 l0.length x _ HX.out.2 HX.out.1.symm (by omega)).mono ?_
      rintro e w2 ⟨rfl, b2⟩
      have b02 := below_step hbel b2 (Nat.le_refl _)
      go_wp2_with fail
      refine (sum_at A0 c0 l0.length l0 _ (r0.below b02) rfl (by omega)).mono ?_
      rintro e w3 ⟨rfl, b3⟩
      go_wp2_with fail
      refine (known01_any _).mono ?_
      rintro e w4 ⟨rfl, b4⟩
      go_wp2
      go_ret
      exact ⟨rfl, below_join (below_join b02 b3) b4⟩
end Go.Proofs.Ytgcognefggbpjaa
