/-
  What the reader's fixed numbers and texts are.
  Conditions: the reader lies in a block of its own; its bytes lie in memory as a list.
-/
import Derived.Test.YtaadfalklddhcaaCodeW5
namespace Go.Proofs.Ytaadfalklddhcaa
open Go.RowKit Go.Sort Go.Lib
set_option linter.unusedVariables false
namespace CodeM
theorem pow8 (k : Nat) : (2 : Nat) ^ (8 * k) = 256 ^ k := by rw [Nat.pow_mul]
theorem orfx (acc k u : Nat) (h : acc < 256 ^ k) (hu : u < 256) (hk : k < 8) : bits .or .u64 (acc : Int) (IntKind.u64.wrap ((u : Int) * 2 ^ (8 * k))) = ((acc + 256 ^ k * u : Nat) : Int) := by
  rw [← pow8] at h ⊢
  have h1 : 2 ^ (8 * k) ≤ 2 ^ 56 := Nat.pow_le_pow_right (by omega) (by omega)
  have h2 : u * 2 ^ (8 * k) ≤ 255 * 2 ^ 56 := Nat.mul_le_mul (by omega) h1
  have e : (u : Int) * 2 ^ (8 * k) = ((u * 2 ^ (8 * k) : Nat) : Int) := by push_cast; rfl
  rw [e, IntKind.wrap_u64, Int.emod_eq_of_lt (by omega) (by omega), u64_or_nat _ _ (by omega) (by omega), Nat.or_comm, ← Nat.shiftLeft_eq, ← Nat.shiftLeft_add_eq_or_of_lt h, Nat.add_comm, Nat.shiftLeft_eq, Nat.mul_comm]
theorem le_take_succ {l : List UInt8} {k : Nat} {u : UInt8} (hu : l[k]? = some u) : le (l.take (k + 1)) = le (l.take k) + 256 ^ k * u.toNat := by
  obtain ⟨hk, e⟩ := List.getElem?_eq_some_iff.1 hu
  rw [List.take_add_one, hu, le_append, List.length_take, Nat.min_eq_left (by omega)]
  simp [le]
theorem le_take_lt (l : List UInt8) (k : Nat) (hk : k ≤ l.length) : le (l.take k) < 256 ^ k := by
  have := le_lt (l.take k)
  rwa [List.length_take, Nat.min_eq_left hk] at this
theorem fixed_err {l : List UInt8} {k e : Nat} (h : e ≠ 0) : Rd.fixed k ⟨l, e⟩ = (0, ⟨l, e⟩) := by simp [Rd.fixed, h]
theorem fixed_fail {l : List UInt8} {k : Nat} (h : l.length < k) : Rd.fixed k ⟨l, 0⟩ = (0, ⟨l, 4⟩) := by simp [Rd.fixed, h]
theorem fixed_ok {l : List UInt8} {k : Nat} (h : ¬ l.length < k) : Rd.fixed k ⟨l, 0⟩ = (le (l.take k), ⟨l.drop k, 0⟩) := by simp [Rd.fixed, h]
end CodeM
set_option maxRecDepth 100000 in
theorem fixed_any (g : Nat) (r : CodeM.Rd) (size : Nat) (w : World) (hr : RdAt 111 w g r) (hs8 : size ≤ 8) :
    Calls Try.prog 88 #[.pointer (some ⟨g, 0, none⟩), .int .i64 (size : Int)] w (RdStep 111 g (.int .u64 ((r.fixed size).1 : Nat)) (r.fixed size).2 w) := by
  have hr0 := Lib.hid hr
  obtain ⟨l, e⟩ := r
  obtain ⟨A, n, c, hB, rfl, ⟨hc, hn⟩, hc2, hrow⟩ := hr
  have c0 := hB.cell 0
  have c1 := hB.cell 1
  simp only [List.getElem?_toArray, List.getElem?_cons_zero, List.getElem?_cons_succ] at c0 c1
  dsimp only at hn hrow hc c1 c0
  have f0 := hB.frozen 0
  have f1 := hB.frozen 1
  go_enter Try.func88, Try.ntmps88
  go_wp2_with fail
  refine (err_any g _ w hr0.out).mono ?_
  rintro e1 w1 ⟨rfl, rfl⟩
  by_cases he : e = 0
  · subst he
    by_cases hlt : l.length < size
    · go_wp2
      go_ret
      rw [CodeM.fixed_fail hlt]
      exact rd_step rfl (hr0.out.fail 4)
    · have HM := Lib.hid (rd_moved (e := 0) hB hc hn hc2 hrow size (by omega))
      have hsl : ∀ {k u}, k < size → l[k]? = some u → (l.take size)[k]? = some u := fun hk hu => by rw [List.getElem?_take_of_lt hk]; exact hu
      clear hB
      go_wp2
      go_loop [5, 28] (fun v i => ∃ k : Nat, k ≤ size ∧ i = .int .i64 k ∧ v = .int .u64 (CodeM.le (l.take k) : Int)) (fun _ i => size - (intOf i).toNat)
      case atStart => exact ⟨0, by omega, rfl, rfl⟩
      case round =>
        obtain ⟨k, hk, rfl, rfl⟩ := hrel
        by_cases hlk : k < size
        · obtain ⟨u, hu⟩ : ∃ s, l[k]? = some s := ⟨_, List.getElem?_eq_getElem (by omega)⟩
          obtain ⟨b, o, rfl, hcell⟩ := row_at hrow hu
          have ho := (CodeM.orfx (CodeM.le (l.take k)) k u.toNat (CodeM.le_take_lt l k (by omega)) u.toNat_lt (by omega)).trans (congrArg (fun n : Nat => (n : Int)) (CodeM.le_take_succ hu).symm)
          clear hsl
          have hw8 : IntKind.u64.wrap (u.toNat : Int) = (u.toNat : Int) := by
            have := u.toNat_lt
            rw [IntKind.wrap_u64]; omega
          have HO := Lib.hid ho
          clear ho
          go_wp2
          go_round
          case rel => exact ⟨k + 1, by omega, by go_num, congrArg (Value.int .u64) HO.out⟩
          case measure => simp [intOf]; omega
        · obtain rfl : k = size := by omega
          clear hsl
          go_wp2
          · go_ret
            rw [CodeM.fixed_ok hlt]
            refine rd_step rfl (HM.out.1 ?_)
            assumption
          · go_ret
            rw [CodeM.fixed_ok hlt]
            exact rd_step rfl HM.out.2
  · go_wp2
    go_ret
    rw [CodeM.fixed_err he]
    exact ⟨rfl, hr0.out, World.grownBy.refl _ _⟩
end Go.Proofs.Ytaadfalklddhcaa
