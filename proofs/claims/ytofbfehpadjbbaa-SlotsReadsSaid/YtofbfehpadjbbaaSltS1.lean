/-
  The document's reader: a number of some bytes.
  Conditions: the reader lies in a block of its own.
-/
import Derived.Test.YtofbfehpadjbbaaSltR5
namespace Go.Proofs.Ytofbfehpadjbbaa
open Go.RowKit Go.Sort Go.Lib
set_option linter.unusedVariables false
namespace CodeM
theorem le_cons {l : List UInt8} {k j : Nat} {u : UInt8} (hu : l[j]? = some u) (hj : j < k) : le ((l.take k).drop j) = le ((l.take k).drop (j + 1)) * 256 + u.toNat := by
  have hjl : j < (l.take k).length := by
    rw [List.length_take]
    have := (List.getElem?_eq_some_iff.1 hu).1
    omega
  have e : (l.take k)[j]'hjl = u := by
    obtain ⟨h, e⟩ := List.getElem?_eq_some_iff.1 hu
    rw [List.getElem_take]; exact e
  rw [List.drop_eq_getElem_cons hjl, e]
  show u.toNat + 256 * le _ = _
  omega
theorem le_drop_lt {l : List UInt8} {k j : Nat} (hk : k ≤ 8) (hj : 0 < j) : le ((l.take k).drop j) < 256 ^ 7 := by
  refine Nat.lt_of_lt_of_le (le_lt _) (Nat.pow_le_pow_right (by omega) ?_)
  rw [List.length_drop, List.length_take]; omega
end CodeM
set_option maxRecDepth 100000 in
set_option maxHeartbeats 2000000 in
theorem num_any (bl g : Nat) (r : CodeM.Rd) (size : Nat) (w : World) (hr : RdAt 63 bl w g r) (hs8 : size ≤ 8) (hs0 : 0 < size) :
    Calls Try.prog 39 #[.pointer (some ⟨g, 0, none⟩), .int .i64 (size : Int)] w (RdStep 63 bl g (.int .u64 ((r.fixed size).1 : Nat)) (r.fixed size).2 w) := by
  have hr0 := Lib.hid hr
  obtain ⟨l, e⟩ := r
  obtain ⟨A, n, c, hB, rfl, ⟨hc, hn⟩, hc2, hrow⟩ := hr
  have c0 := hB.cell 0
  have c1 := hB.cell 1
  simp only [List.getElem?_toArray, List.getElem?_cons_zero, List.getElem?_cons_succ] at c0 c1
  dsimp only at hn hrow hc c1 c0
  have f0 := hB.frozen 0
  have f1 := hB.frozen 1
  go_enter Try.func39, Try.ntmps39
  by_cases he : e = 0
  · subst he
    by_cases hlt : l.length < size
    · go_wp2
      go_ret
      rw [CodeM.fixed_fail hlt]
      exact rd_step rfl (hr0.out.fail 4)
    · have HM := Lib.hid (rd_moved (e := 0) hB hc hn hc2 hrow size (show size ≤ l.length by omega))
      clear hB
      go_wp2
      go_loop [5, 6] (fun v i => ∃ j : Nat, j ≤ size ∧ i = .int .i64 ((j : Int) - 1) ∧ v = .int .u64 (CodeM.le ((l.take size).drop j) : Int)) (fun _ i => (RowKit.intOf i + 1).toNat)
      case atStart => exact ⟨size, Nat.le_refl _, by go_num, by rw [List.drop_eq_nil_of_le (by rw [List.length_take]; omega)]; rfl⟩
      case round =>
        obtain ⟨j, hj, rfl, rfl⟩ := hrel
        by_cases h0 : 0 < j
        · obtain ⟨i, rfl⟩ : ∃ i, j = i + 1 := ⟨j - 1, by omega⟩
          obtain ⟨u, hu⟩ : ∃ s, l[i]? = some s := ⟨_, List.getElem?_eq_getElem (by omega)⟩
          obtain ⟨b, o, rfl, hcell⟩ := row_at hrow hu
          have hle := CodeM.le_cons (k := size) hu (by omega)
          have hb7 := CodeM.le_drop_lt (l := l) (j := i + 1) hs8 (by omega)
          obtain ⟨m, hm⟩ : ∃ m, CodeM.le ((l.take size).drop (i + 1)) = m := ⟨_, rfl⟩
          rw [hm] at hle hb7 ⊢
          have HL := Lib.hid hle
          clear hle hm
          have hu8 := u.toNat_lt
          have hi1 : ((i + 1 : Nat) : Int) - 1 = (i : Int) := by omega
          have hw1 : IntKind.u64.wrap ((m : Int) * 256) = (m : Int) * 256 := by rw [IntKind.wrap_u64]; omega
          have hw8 : IntKind.u64.wrap (u.toNat : Int) = (u.toNat : Int) := by rw [IntKind.wrap_u64]; omega
          have hw2 : IntKind.u64.wrap ((m : Int) * 256 + (u.toNat : Int)) = (m : Int) * 256 + (u.toNat : Int) := by rw [IntKind.wrap_u64]; omega
          go_wp2
          go_round
          case rel => exact ⟨i, by omega, by go_num, congrArg (Value.int .u64) (by rw [HL.out]; push_cast; rfl)⟩
          case measure => simp [RowKit.intOf]
        · obtain rfl : j = 0 := by omega
          go_wp2
          · go_ret
            rw [CodeM.fixed_ok hlt]
            refine rd_step rfl (HM.out.1 ?_)
            assumption
          · go_ret
            rw [CodeM.fixed_ok hlt]
            exact rd_step rfl HM.out.2
  · go_wp2
    go_ret
    rw [CodeM.fixed_err he]
    exact ⟨rfl, hr0.out, World.grownBy.refl _ _⟩
end Go.Proofs.Ytofbfehpadjbbaa
