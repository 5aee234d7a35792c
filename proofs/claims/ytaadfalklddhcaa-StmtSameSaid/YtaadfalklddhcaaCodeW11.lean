/-
  What the document's count returns.
  Conditions: the bytes lie in memory as a list.
-/
import Derived.Test.YtaadfalklddhcaaCodeW10
namespace Go.Proofs.Ytaadfalklddhcaa
open Go.RowKit Go.Sort Go.Lib
set_option linter.unusedVariables false
namespace CodeM
theorem cntF_some {k acc : Nat} {u : UInt8} {l : List UInt8} (hk : k < 9 ∨ (k = 9 ∧ u.toNat ≤ 1)) (hu : u.toNat < 128) (h : k = 0 ∨ u.toNat ≠ 0) : cntF k acc (u :: l) = some (acc + u.toNat % 128 * 2 ^ (7 * k), k + 1) := by
  conv => lhs; unfold cntF
  rw [if_neg (by omega), if_pos hu, if_pos h, Nat.mod_eq_of_lt hu]
theorem cntF_zero {k acc : Nat} {u : UInt8} {l : List UInt8} (hk : 0 < k) (h : u.toNat = 0) : cntF k acc (u :: l) = none := by
  unfold cntF
  by_cases h9 : (k = 9 ∧ 1 < u.toNat) ∨ 9 < k
  · rw [if_pos h9]
  · rw [if_neg h9, if_pos (by omega), if_neg (by omega)]
end CodeM
/-- What a count returns: none is of no bytes. -/
def CntPost2 (l : List UInt8) (w : World) (e : Ending) (w' : World) : Prop := ∃ n k, e = .returned (.tuple #[.int .u64 (n : Nat), .int .i64 (k : Nat)]) ∧ Hid (CodeM.cnt l = if k = 0 then none else some (n, k)) ∧ w = w'
set_option maxRecDepth 100000 in
theorem refcount_any (A : Option Addr) (c : Nat) (l : List UInt8) (w : World) (hrow : Row w A (bs l)) (hn : l.length ≤ 140737488355328) :
    Calls Try.prog 93 #[.slice A l.length c] w (CntPost2 l w) := by
  go_enter Try.func93, Try.ntmps93
  go_wp2
  go_loop [4, 5] (fun v i => ∃ k acc : Nat, k ≤ l.length ∧ i = .int .i64 k ∧ v = .int .u64 (acc : Int) ∧ acc < 2 ^ (7 * k) ∧ k ≤ 10 ∧ CodeM.cnt l = CodeM.cntF k acc (l.drop k)) (fun _ i => l.length - (intOf i).toNat)
  case atStart => exact ⟨0, 0, by omega, rfl, rfl, by omega, by omega, rfl⟩
  case round =>
    obtain ⟨k, acc, hk, rfl, rfl, hacc, hk10, he⟩ := hrel
    by_cases hlt : k < l.length
    · obtain ⟨u, hu⟩ : ∃ s, l[k]? = some s := ⟨_, List.getElem?_eq_getElem hlt⟩
      obtain ⟨b, o, rfl, hcell⟩ := row_at hrow hu
      have hue := (List.getElem?_eq_some_iff.1 hu).2
      have hd : l.drop k = u :: l.drop (k + 1) := by rw [← hue, List.getElem_cons_drop]
      rw [hd] at he
      clear hue hd
      have hu8 := u.toNat_lt
      rcases (by omega : k < 9 ∨ (k = 9 ∧ 1 < u.toNat) ∨ k = 10 ∨ (k = 9 ∧ u.toNat ≤ 1)) with h9 | ⟨rfl, h9⟩ | rfl | ⟨rfl, h9⟩
      · have HP := Lib.hid (CodeM.orsh_wrap acc k u.toNat hacc h9)
        by_cases h128 : u.toNat < 128
        · rcases Nat.eq_zero_or_pos k with rfl | hp
          · rw [Nat.add_zero] at hcell
            have HO := Lib.hid (CodeM.orsh_zero acc u.toNat hacc)
            have HE := Lib.hid (he.trans (CodeM.cntF_some (.inl h9) h128 (.inl rfl)))
            clear he
            by_cases hz : u.toNat = 0
            · have HZ : Hid (bits .or .u64 (acc : Int) 0 = ((acc + u.toNat % 128 * 2 ^ (7 * 0) : Nat) : Int)) := Lib.hid (by rw [← HO.out, hz]; rfl)
              go_wp2
              go_ret2
              exact ⟨_, 1, congrArg (fun v => Ending.returned (.tuple #[.int .u64 v, .int .i64 1])) HZ.out, Lib.hid HE.out, rfl⟩
            · go_wp2
              go_ret2
              exact ⟨_, 1, congrArg (fun v => Ending.returned (.tuple #[.int .u64 v, .int .i64 1])) HO.out, Lib.hid HE.out, rfl⟩
          · by_cases hz : u.toNat = 0
            · have HE := Lib.hid (he.trans (CodeM.cntF_zero hp hz))
              clear he hacc
              go_wp2
              go_ret2
              exact ⟨0, 0, rfl, Lib.hid HE.out, rfl⟩
            · have HE := Lib.hid (he.trans (CodeM.cntF_some (.inl h9) h128 (.inr hz)))
              clear he hacc
              go_wp2
              go_ret2
              exact ⟨_, k + 1, congrArg (fun v => Ending.returned (.tuple #[.int .u64 v, .int .i64 ((k + 1 : Nat) : Int)])) HP.out, Lib.hid HE.out, rfl⟩
        · have HE := Lib.hid (he.trans (CodeM.cntF_more h9 h128))
          have HA := Lib.hid (CodeM.acc_lt hacc (Nat.mod_lt u.toNat (by omega : 0 < 128)))
          clear he
          rcases Nat.eq_zero_or_pos k with rfl | hp
          · rw [Nat.add_zero] at hcell
            have HO := Lib.hid (CodeM.orsh_zero acc u.toNat hacc)
            clear hacc
            go_wp2
            go_round
            case rel => exact ⟨1, _, by omega, by go_num, congrArg (Value.int .u64) HO.out, HA.out, by omega, HE.out⟩
            case measure => simp [intOf]; omega
          · clear hacc
            go_wp2
            go_round
            case rel => exact ⟨k + 1, _, by omega, by go_num, congrArg (Value.int .u64) HP.out, HA.out, by omega, HE.out⟩
            case measure => simp [intOf]; omega
      · have HE := Lib.hid (he.trans (CodeM.cntF_stop (.inl ⟨rfl, h9⟩)))
        clear he hacc
        go_wp2
        go_ret2
        exact ⟨0, 0, rfl, Lib.hid HE.out, rfl⟩
      · have HE := Lib.hid (he.trans (CodeM.cntF_stop (.inr (by omega))))
        clear he hacc
        go_wp2
        go_ret2
        exact ⟨0, 0, rfl, Lib.hid HE.out, rfl⟩
      · have HO := Lib.hid (CodeM.orsh acc 9 (u.toNat % 128) hacc (by omega) (by rw [Nat.mod_eq_of_lt (by omega)]; omega))
        by_cases hz : u.toNat = 0
        · have HE := Lib.hid (he.trans (CodeM.cntF_zero (by omega) hz))
          clear he hacc
          go_wp2
          go_ret2
          exact ⟨0, 0, rfl, Lib.hid HE.out, rfl⟩
        · have HE := Lib.hid (he.trans (CodeM.cntF_some (.inr ⟨rfl, h9⟩) (by omega) (.inr hz)))
          clear he hacc
          go_wp2
          go_ret2
          exact ⟨_, 10, congrArg (fun v => Ending.returned (.tuple #[.int .u64 v, .int .i64 10])) HO.out, Lib.hid HE.out, rfl⟩
    · obtain rfl : k = l.length := by omega
      have HE : Hid (CodeM.cnt l = none) := Lib.hid (by rw [he, List.drop_length]; rfl)
      clear he hacc
      go_wp2
      go_ret2
      exact ⟨0, 0, rfl, Lib.hid HE.out, rfl⟩
end Go.Proofs.Ytaadfalklddhcaa
