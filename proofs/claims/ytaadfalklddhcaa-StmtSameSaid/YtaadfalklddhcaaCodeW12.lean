/-
  What the document's reader answers.
  Conditions: the reader lies in a block of its own; its bytes lie in memory as a list.
-/
import Derived.Test.YtaadfalklddhcaaCodeW11
namespace Go.Proofs.Ytaadfalklddhcaa
open Go.RowKit Go.Sort Go.Lib
set_option linter.unusedVariables false
namespace CodeM
theorem le_cons {l : List UInt8} {k j : Nat} {u : UInt8} (hu : l[j]? = some u) (hj : j < k) : le ((l.take k).drop j) = le ((l.take k).drop (j + 1)) * 256 + u.toNat := by
  have h : (l.take k)[j]? = some u := by rw [List.getElem?_take_of_lt hj]; exact hu
  obtain ⟨h1, h2⟩ := List.getElem?_eq_some_iff.1 h
  rw [← List.getElem_cons_drop h1, h2]
  show u.toNat + 256 * _ = _
  omega
theorem le_small {l : List UInt8} {k j : Nat} (hk : k ≤ 8) (hj : 0 < j) : le ((l.take k).drop j) ≤ 72057594037927935 := by
  have := le_lt ((l.take k).drop j)
  have h1 : ((l.take k).drop j).length ≤ 7 := by rw [List.length_drop, List.length_take]; omega
  have h2 : 256 ^ ((l.take k).drop j).length ≤ 256 ^ 7 := Nat.pow_le_pow_right (by omega) h1
  have h3 : (256 : Nat) ^ 7 = 72057594037927936 := by decide
  omega
end CodeM
set_option maxRecDepth 100000 in
theorem refnum_any (g : Nat) (r : CodeM.Rd) (size : Nat) (w : World) (hr : RdAt 73 w g r) (hs8 : size ≤ 8) :
    Calls Try.prog 39 #[.pointer (some ⟨g, 0, none⟩), .int .i64 (size : Int)] w (RdStep 73 g (.int .u64 ((r.fixed size).1 : Nat)) (r.fixed size).2 w) := by
  have hr0 := Lib.hid hr
  obtain ⟨l, e⟩ := r
  obtain ⟨A, n, c, hB, rfl, ⟨hc, hn⟩, hc2, hrow⟩ := hr
  have c0 := hB.cell 0
  have c1 := hB.cell 1
  simp only [List.getElem?_toArray, List.getElem?_cons_zero, List.getElem?_cons_succ] at c0 c1
  dsimp only at hn hrow hc c1 c0 hB
  have f0 := hB.frozen 0
  have f1 := hB.frozen 1
  by_cases he : e = 0
  · subst he
    by_cases hlt : l.length < size
    · go_enter Try.func39, Try.ntmps39
      go_wp2
      go_ret
      rw [CodeM.fixed_fail hlt]
      exact rd_step rfl (hr0.out.fail 4)
    · have HM := Lib.hid (rd_moved (e := 0) hB hc hn hc2 hrow size (by omega))
      clear hB
      go_enter Try.func39, Try.ntmps39
      go_wp2
      go_loop [5, 6] (fun v i => ∃ k : Nat, k ≤ size ∧ i = .int .i64 ((k : Int) - 1) ∧ v = .int .u64 (CodeM.le ((l.take size).drop k) : Int)) (fun _ i => (intOf i + 1).toNat)
      case atStart => exact ⟨size, by omega, rfl, by rw [List.drop_eq_nil_of_le (by rw [List.length_take]; omega)]; rfl⟩
      case round =>
        obtain ⟨k, hk, rfl, rfl⟩ := hrel
        cases k with
        | zero =>
          rw [List.drop_zero]
          go_wp2
          · go_ret
            rw [CodeM.fixed_ok hlt]
            refine rd_step rfl (HM.out.1 ?_)
            assumption
          · go_ret
            rw [CodeM.fixed_ok hlt]
            exact rd_step rfl HM.out.2
        | succ k =>
          rw [show (((k + 1 : Nat) : Int) - 1) = (k : Int) by omega]
          obtain ⟨u, hu⟩ : ∃ s, l[k]? = some s := ⟨_, List.getElem?_eq_getElem (by omega)⟩
          obtain ⟨b, o, rfl, hcell⟩ := row_at hrow hu
          have HL := Lib.hid (CodeM.le_cons (k := size) hu (by omega))
          have hsm := CodeM.le_small (l := l) (k := size) (j := k + 1) hs8 (by omega)
          have hu8 := u.toNat_lt
          obtain ⟨N, hN⟩ : ∃ N, CodeM.le ((l.take size).drop (k + 1)) = N := ⟨_, rfl⟩
          rw [hN] at HL hsm ⊢
          have hw8 : IntKind.u64.wrap (u.toNat : Int) = (u.toNat : Int) := by rw [IntKind.wrap_u64]; omega
          clear hN
          go_wp2
          go_round
          case rel => exact ⟨k, by omega, by go_num, congrArg (Value.int .u64) (by rw [HL.out]; push_cast; rfl)⟩
          case measure => simp [intOf]
  · go_enter Try.func39, Try.ntmps39
    go_wp2
    go_ret
    rw [CodeM.fixed_err he]
    exact ⟨rfl, hr0.out, World.grownBy.refl _ _⟩
set_option maxRecDepth 100000 in
theorem refuv_any (g : Nat) (r : CodeM.Rd) (w : World) (hr : RdAt 73 w g r) :
    Calls Try.prog 41 #[.pointer (some ⟨g, 0, none⟩)] w (RdStep 73 g (.int .u64 ((r.uv).1 : Nat)) (r.uv).2 w) := by
  have hr0 := Lib.hid hr
  obtain ⟨l, e⟩ := r
  obtain ⟨A, n, c, hB, rfl, ⟨hc, hn⟩, hc2, hrow⟩ := hr
  have c0 := hB.cell 0
  have c1 := hB.cell 1
  simp only [List.getElem?_toArray, List.getElem?_cons_zero, List.getElem?_cons_succ] at c0 c1
  dsimp only at hn hrow hc c1 c0 hB
  have f0 := hB.frozen 0
  have f1 := hB.frozen 1
  by_cases he : e = 0
  · subst he
    go_enter Try.func41, Try.ntmps41
    go_wp2_with fail
    refine (refcount_any A c l w hrow hn).mono ?_
    rintro e1 w1 ⟨n, k, rfl, hcnt, rfl⟩
    by_cases hk0 : k = 0
    · subst hk0
      go_wp2
      go_ret
      rw [CodeM.uv_fail hcnt.out]
      exact rd_step rfl (hr0.out.fail 4)
    · have hcn := hcnt.out
      rw [if_neg hk0] at hcn
      have hk := (CodeM.cnt_some hcn).2.2.1
      have HM := Lib.hid (rd_moved (e := 0) hB hc hn hc2 hrow k hk)
      have HC := Lib.hid hcn
      clear hB hrow hcn hcnt
      go_wp2
      · go_ret
        rw [CodeM.uv_ok HC.out]
        refine rd_step rfl (HM.out.1 ?_)
        assumption
      · go_ret
        rw [CodeM.uv_ok HC.out]
        exact rd_step rfl HM.out.2
  · go_enter Try.func41, Try.ntmps41
    go_wp2
    go_ret
    rw [CodeM.uv_err he]
    exact ⟨rfl, hr0.out, World.grownBy.refl _ _⟩
end Go.Proofs.Ytaadfalklddhcaa
