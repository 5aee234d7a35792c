/-
  What the reader's count returns.
  Conditions: the reader lies in a block of its own; its bytes lie in memory as a list.
-/
import Derived.Test.YtaadfalklddhcaaCodeW3
import Derived.Laws.BitsAllLaws
namespace Go.Proofs.Ytaadfalklddhcaa
open Go.RowKit
set_option linter.unusedVariables false
namespace CodeM
set_option maxRecDepth 100000 in
theorem and127 (c : UInt8) : bits .and .u8 (c.toNat : Int) 127 = ((c.toNat % 128 : Nat) : Int) := by
  have h : ∀ x : Fin 256, x.val &&& 127 = x.val % 128 := by decide +kernel
  have := c.toNat_lt
  rw [show (127 : Int) = ((127 : Nat) : Int) from rfl, u8_and_nat _ _ (by omega) (by omega), h ⟨c.toNat, by omega⟩]
theorem pow7 (k : Nat) : 2 ^ (7 * (k + 1)) = 2 ^ (7 * k) * 128 := by rw [show 7 * (k + 1) = 7 * k + 7 by omega, Nat.pow_add]
theorem acc_lt {acc k x : Nat} (h : acc < 2 ^ (7 * k)) (hx : x < 128) : acc + x * 2 ^ (7 * k) < 2 ^ (7 * (k + 1)) := by
  rw [pow7]
  generalize 2 ^ (7 * k) = p at *
  have : x * p ≤ 127 * p := Nat.mul_le_mul_right p (by omega)
  omega
theorem pow7_le {k : Nat} (h : k ≤ 9) : 2 ^ (7 * k) ≤ 2 ^ 63 := Nat.pow_le_pow_right (by omega) (by omega)
theorem orsh (acc k x : Nat) (h : acc < 2 ^ (7 * k)) (hk : k ≤ 9) (hf : x * 2 ^ (7 * k) < 18446744073709551616) : bits .or .u64 (acc : Int) ((x * 2 ^ (7 * k) : Nat) : Int) = ((acc + x * 2 ^ (7 * k) : Nat) : Int) := by
  have h1 := pow7_le hk
  rw [u64_or_nat _ _ (by omega) hf, Nat.or_comm, ← Nat.shiftLeft_eq, ← Nat.shiftLeft_add_eq_or_of_lt h, Nat.add_comm]
theorem fit (k x : Nat) (hk : k < 9) (hx : x < 128) : x * 2 ^ (7 * k) < 18446744073709551616 := by
  have h1 : 2 ^ (7 * k) ≤ 2 ^ 56 := Nat.pow_le_pow_right (by omega) (by omega)
  have h2 : x * 2 ^ (7 * k) ≤ 127 * 2 ^ 56 := Nat.mul_le_mul (by omega) h1
  omega
theorem orsh_wrap (acc k : Nat) (u : Nat) (h : acc < 2 ^ (7 * k)) (hk : k < 9) : bits .or .u64 (acc : Int) (IntKind.u64.wrap ((u : Int) % 128 * 2 ^ (7 * k))) = ((acc + u % 128 * 2 ^ (7 * k) : Nat) : Int) := by
  have hf := fit k (u % 128) hk (Nat.mod_lt _ (by omega))
  have e : (u : Int) % 128 * 2 ^ (7 * k) = ((u % 128 * 2 ^ (7 * k) : Nat) : Int) := by push_cast; rfl
  rw [e, IntKind.wrap_u64, Int.emod_eq_of_lt (by omega) (by omega)]
  exact orsh acc k _ h (by omega) hf
theorem orsh_zero (acc : Nat) (u : Nat) (h : acc < 2 ^ (7 * 0)) : bits .or .u64 (acc : Int) ((u : Int) % 128) = ((acc + u % 128 * 2 ^ (7 * 0) : Nat) : Int) := by
  have := orsh acc 0 (u % 128) h (by omega) (by omega)
  rw [← this]
  congr 1
  simp
theorem cntF_end {k acc : Nat} {u : UInt8} {l : List UInt8} (hk : k < 9 ∨ (k = 9 ∧ u.toNat ≤ 1)) (hu : u.toNat < 128) : cntF k acc (u :: l) = if ((k : Int) == 0 || (u.toNat : Int) != 0) then some (acc + u.toNat % 128 * 2 ^ (7 * k), k + 1) else none := by
  have e : ((k : Int) == 0 || (u.toNat : Int) != 0) = decide (k = 0 ∨ u.toNat ≠ 0) := by
    rw [Bool.eq_iff_iff]; simp
  rw [e]
  conv => lhs; unfold cntF
  rw [if_neg (by omega), if_pos hu, Nat.mod_eq_of_lt hu]
  by_cases h : k = 0 ∨ u.toNat ≠ 0
  · rw [if_pos h, if_pos (decide_eq_true h)]
  · rw [if_neg h, if_neg (by simpa using h)]
theorem cntF_more {k acc : Nat} {u : UInt8} {l : List UInt8} (hk : k < 9) (hu : ¬ u.toNat < 128) : cntF k acc (u :: l) = cntF (k + 1) (acc + u.toNat % 128 * 2 ^ (7 * k)) l := by
  have := u.toNat_lt
  conv => lhs; unfold cntF
  rw [if_neg (by omega), if_neg hu, show u.toNat - 128 = u.toNat % 128 by omega]
theorem cntF_stop {k acc : Nat} {u : UInt8} {l : List UInt8} (h : (k = 9 ∧ 1 < u.toNat) ∨ 9 < k) : cntF k acc (u :: l) = none := by
  unfold cntF
  rw [if_pos h]
end CodeM
/-- What a count returns. -/
def CntPost (l : List UInt8) (w : World) (e : Ending) (w' : World) : Prop := ∃ n k ok, e = .returned (.tuple #[.int .u64 (n : Nat), .int .i64 (k : Nat), .bool ok]) ∧ Hid (CodeM.cnt l = if ok then some (n, k) else none) ∧ w = w'
set_option maxRecDepth 100000 in
theorem rcount_any (g : Nat) (r : CodeM.Rd) (w : World) (hr : RdAt 111 w g r) :
    Calls Try.prog 92 #[.pointer (some ⟨g, 0, none⟩)] w (CntPost r.l w) := by
  obtain ⟨l, e⟩ := r
  obtain ⟨A, n, c, hB, rfl, ⟨hc, hn⟩, hc2, hrow⟩ := hr
  have c0 := hB.cell 0
  simp only [List.getElem?_toArray, List.getElem?_cons_zero] at c0
  clear hB
  have ha := CodeM.and127
  dsimp only at hn hrow hc
  go_enter Try.func92, Try.ntmps92
  go_wp2
  go_loop [5, 13] (fun v i => ∃ k acc : Nat, k ≤ l.length ∧ i = .int .i64 k ∧ v = .int .u64 (acc : Int) ∧ acc < 2 ^ (7 * k) ∧ k ≤ 10 ∧ CodeM.cnt l = CodeM.cntF k acc (l.drop k)) (fun _ i => l.length - (intOf i).toNat)
  case atStart => exact ⟨0, 0, by omega, rfl, rfl, by omega, by omega, rfl⟩
  case round =>
    obtain ⟨k, acc, hk, rfl, rfl, hacc, hk10, he⟩ := hrel
    by_cases hlt : k < l.length
    · obtain ⟨u, hu⟩ : ∃ s, l[k]? = some s := ⟨_, List.getElem?_eq_getElem hlt⟩
      obtain ⟨b, o, rfl, hcell⟩ := row_at hrow hu
      have hue := (List.getElem?_eq_some_iff.1 hu).2
      have hd : l.drop k = u :: l.drop (k + 1) := by rw [← hue, List.getElem_cons_drop]
      rw [hd] at he
      have hu8 := u.toNat_lt
      rcases (by omega : k < 9 ∨ (k = 9 ∧ 1 < u.toNat ∨ 9 < k) ∨ (k = 9 ∧ u.toNat ≤ 1)) with h9 | h9 | ⟨rfl, h9⟩
      · have ho := CodeM.orsh_wrap acc k u.toNat hacc h9
        by_cases h128 : u.toNat < 128
        · have HE := Lib.hid (he.trans (CodeM.cntF_end (.inl h9) h128))
          have HO := Lib.hid ho
          clear he ho
          rcases Nat.eq_zero_or_pos k with rfl | hp
          · rw [Nat.add_zero] at hcell
            have HO := Lib.hid (CodeM.orsh_zero acc u.toNat hacc)
            go_wp2
            go_ret3
            exact ⟨_, 1, true, congrArg (fun v => Ending.returned (.tuple #[.int .u64 v, .int .i64 1, .bool true])) HO.out, Lib.hid HE.out, rfl⟩
          · go_wp2
            go_ret3
            exact ⟨_, k + 1, _, congrArg (fun v => Ending.returned (.tuple #[.int .u64 v, .int .i64 ((k + 1 : Nat) : Int), .bool ((k : Int) == 0 || (u.toNat : Int) != 0)])) HO.out, Lib.hid HE.out, rfl⟩
        · have HE := Lib.hid (he.trans (CodeM.cntF_more h9 h128))
          have HA := Lib.hid (CodeM.acc_lt hacc (Nat.mod_lt u.toNat (by omega : 0 < 128)))
          have HP := Lib.hid ho
          clear he ho
          rcases Nat.eq_zero_or_pos k with rfl | hp
          · rw [Nat.add_zero] at hcell
            have HO := Lib.hid (CodeM.orsh_zero acc u.toNat hacc)
            go_wp2
            go_round
            case rel => exact ⟨1, _, by omega, by go_num, congrArg (Value.int .u64) HO.out, HA.out, by omega, HE.out⟩
            case measure => simp [intOf]; omega
          · go_wp2
            go_round
            case rel => exact ⟨k + 1, _, by omega, by go_num, congrArg (Value.int .u64) HP.out, HA.out, by omega, HE.out⟩
            case measure => simp [intOf]; omega
      · have HE := Lib.hid (he.trans (CodeM.cntF_stop h9))
        clear he hacc
        go_wp2
        all_goals go_ret3
        all_goals exact ⟨0, 0, false, rfl, HE, rfl⟩
      · have HE := Lib.hid (he.trans (CodeM.cntF_end (.inr ⟨rfl, h9⟩) (by omega)))
        have HO := Lib.hid (CodeM.orsh acc 9 (u.toNat % 128) hacc (by omega) (by rw [Nat.mod_eq_of_lt (by omega)]; omega))
        clear he hacc
        go_wp2
        go_ret3
        exact ⟨_, 10, _, congrArg (fun v => Ending.returned (.tuple #[.int .u64 v, .int .i64 10, .bool ((u.toNat : Int) != 0)])) HO.out, Lib.hid HE.out, rfl⟩
    · obtain rfl : k = l.length := by omega
      have HE : Hid (CodeM.cnt l = none) := Lib.hid (by rw [he, List.drop_length]; rfl)
      clear he hacc
      go_wp2
      go_ret3
      exact ⟨0, 0, false, rfl, HE, rfl⟩
end Go.Proofs.Ytaadfalklddhcaa
