/-
  What crc.half, crc.More (and its inner function), crc.Sum, and the document's Step, More, Sum return.
  Conditions: the bytes lie in memory as a list.
-/
import Derived.Test.YtpgmhjjdnanlgaaRows
import Derived.Test.YtpgmhjjdnanlgaaKit
import Derived.Test.YtpgmhjjdnanlgaaCrcM
namespace Go.Proofs.Ytpgmhjjdnanlgaa
open Go.RowKit
set_option linter.unusedVariables false

def u32 (x : BitVec 32) : Value := .int .u32 (x.toNat : Int)

theorem half_any (x : BitVec 32) (w : World) :
    Calls Try.prog 54 #[.int .u32 (x.toNat : Int)] w fun e w' => e = .returned (.int .u32 ((CrcM.stp 4 x).toNat : Int)) ∧ w = w' := by
  have hx := CrcM.toNat_lt x
  go_enter Try.func54, Try.ntmps54
  go_wp2
  go_loop [0, 3] (fun v i => ∃ k : Nat, k ≤ 4 ∧ i = .int .i64 k ∧ v = .int .u32 ((CrcM.stp k x).toNat : Int)) (fun _ i => 4 - (intOf i).toNat)
  case atStart => exact ⟨0, by omega, rfl, rfl⟩
  case round =>
    obtain ⟨k, hk, rfl, rfl⟩ := hrel
    have hy := CrcM.toNat_lt (CrcM.stp k x)
    by_cases hlt : k < 4
    · go_wp2
      go_round
      case rel => exact ⟨k + 1, by omega, by go_num, by rw [CrcM.bit_go]; rfl⟩
      case measure => simp [intOf]; omega
    · obtain rfl : k = 4 := by omega
      go_wp2
      go_ret
      exact ⟨rfl, rfl⟩

theorem half_nat (k : Nat) (hk : k < 16) (w : World) :
    Calls Try.prog 54 #[.int .u32 (k : Int)] w fun e w' => e = .returned (.int .u32 ((CrcM.stp 4 (CrcM.w32 k)).toNat : Int)) ∧ w = w' := by
  have h := half_any (CrcM.w32 k) w
  rw [CrcM.w32_toNat k (by omega)] at h
  exact h
theorem step_any (x : BitVec 32) (w : World) :
    Calls Try.prog 61 #[.int .u32 (x.toNat : Int)] w fun e w' => e = .returned (.int .u32 ((CrcM.stp 8 x).toNat : Int)) ∧ w = w' := by
  have hx := CrcM.toNat_lt x
  go_enter Try.func61, Try.ntmps61
  go_wp2
  go_loop [0, 3] (fun v i => ∃ k : Nat, k ≤ 8 ∧ i = .int .i64 k ∧ v = .int .u32 ((CrcM.stp k x).toNat : Int)) (fun _ i => 8 - (intOf i).toNat)
  case atStart => exact ⟨0, by omega, rfl, rfl⟩
  case round =>
    obtain ⟨k, hk, rfl, rfl⟩ := hrel
    have hy := CrcM.toNat_lt (CrcM.stp k x)
    by_cases hlt : k < 8
    · cases hb : (CrcM.stp k x).getLsbD 0 with
      | true =>
        have h1 := CrcM.and_one (CrcM.stp k x)
        rw [if_pos hb] at h1
        have h2 := CrcM.bit_odd _ hb
        have H2 := Lib.hid h2
        clear h2 hb
        go_wp2
        go_round
        case rel => exact ⟨k + 1, by omega, by go_num, by rw [H2.out]; rfl⟩
        case measure => simp [intOf]; omega
      | false =>
        have h1 := CrcM.and_one (CrcM.stp k x)
        rw [if_neg (by rw [hb]; simp)] at h1
        have h2 := CrcM.bit_even _ hb
        have H2 := Lib.hid h2
        clear h2 hb
        go_wp2
        go_round
        case rel => exact ⟨k + 1, by omega, by go_num, by rw [H2.out]; rfl⟩
        case measure => simp [intOf]; omega
    · obtain rfl : k = 8 := by omega
      go_wp2
      go_ret
      exact ⟨rfl, rfl⟩

theorem more1_any (x : BitVec 32) (w : World) (g : Nat) (h : ∀ j : Nat, j < 16 → w.cell? ⟨g, j, none⟩ = some (.int .u32 ((CrcM.stp 4 (CrcM.w32 j)).toNat : Int))) :
    Calls Try.prog 55 #[.int .u32 (x.toNat : Int), .pointer (some ⟨g, 0, none⟩)] w fun e w' => e = .returned (.int .u32 ((CrcM.stp 4 x).toNat : Int)) ∧ w = w' := by
  have hx := CrcM.toNat_lt x
  have hz := CrcM.and15 x
  have hz' : x.toNat % 16 < 16 := by omega
  have h0 := h _ hz'
  clear h
  go_enter Try.func55, Try.ntmps55
  go_wp2
  go_ret
  exact ⟨ret_int (by rw [CrcM.quarter_go, CrcM.xor_go, CrcM.nibble]), rfl⟩

theorem refmore_any (x : BitVec 32) (A : Option Addr) (c : Nat) (l : List UInt8) (w : World) (hr : Row w A (bs l)) (hc : l.length ≤ 9223372036854775807) :
    Calls Try.prog 53 #[.int .u32 (x.toNat : Int), .slice A l.length c] w fun e w' => e = .returned (.int .u32 ((CrcM.more x l).toNat : Int)) ∧ w = w' := by
  have hx := CrcM.toNat_lt x
  have hn := CrcM.not_go x
  go_enter Try.func53, Try.ntmps53
  go_wp2
  go_loop [5, 6] (fun v i => ∃ k : Nat, k ≤ l.length ∧ i = .int .i64 k ∧ v = .int .u32 ((CrcM.run (CrcM.inv x) (l.take k)).toNat : Int)) (fun _ i => l.length - (intOf i).toNat)
  case atStart => exact ⟨0, by omega, rfl, rfl⟩
  case round =>
    clear hn
    obtain ⟨k, hk, rfl, rfl⟩ := hrel
    have hy := CrcM.toNat_lt (CrcM.run (CrcM.inv x) (l.take k))
    by_cases hlt : k < l.length
    · obtain ⟨b, o, rfl, hcell⟩ := hr.byte hlt
      have hl := (l[k]).toNat_lt
      have hs := Lib.hid (take_snoc l k hlt)
      have h8 := CrcM.xor8_go (CrcM.run (CrcM.inv x) (l.take k)) l[k]
      go_wp2_with (go_at_call 61; refine (step_any _ _).mono ?_; rintro e w' ⟨rfl, rfl⟩)
      go_round
      case rel => exact ⟨k + 1, by omega, by go_num, by rw [hs.out, CrcM.run_snoc]⟩
      case measure => simp [intOf]; omega
    · obtain rfl : k = l.length := by omega
      have hn := CrcM.not_go (CrcM.run (CrcM.inv x) l)
      go_wp2
      go_ret
      exact ⟨rfl, rfl⟩
set_option maxRecDepth 100000 in
theorem more_any (x : BitVec 32) (A : Option Addr) (c : Nat) (l : List UInt8) (w : World) (hr : Row w A (bs l)) (hc : l.length ≤ 9223372036854775807) :
    Calls Try.prog 42 #[.int .u32 (x.toNat : Int), .slice A l.length c] w fun e w' => e = .returned (.int .u32 ((CrcM.more x l).toNat : Int)) ∧ Below w.heap.size w w' := by
  have hx := CrcM.toNat_lt x
  have hn := CrcM.not_go x
  go_enter Try.func42, Try.ntmps42
  go_wp2
  go_loopw [6, 11] (fun v i wr => ∃ (k : Nat) (cs : Array Value), k ≤ 16 ∧ i = .int .i64 k ∧ wr = w.alloc (.cells cs 81) ∧ cs.size = 16 ∧ ∀ j : Nat, j < k → cs[j]? = some (.int .u32 ((CrcM.stp 4 (CrcM.w32 j)).toNat : Int))) (fun _ i _ => 16 - (intOf i).toNat)
  case atStart => exact ⟨0, _, by omega, rfl, rfl, rfl, fun j hj => absurd hj (by omega)⟩
  case round =>
    obtain ⟨k, cs, hk, rfl, rfl, hsz, hcs⟩ := hrel
    by_cases hlt : k < 16
    · have HC := Lib.hid hcs
      clear hcs
      obtain ⟨u, hu⟩ : ∃ u, cs[k]? = some u := ⟨_, Array.getElem?_eq_getElem (by omega)⟩
      have hcell : (w.alloc (.cells cs 81)).cell? ⟨w.heap.size, k, none⟩ = some u := by
        rw [(Blk.new w 81 cs).cell k, hu]
      have hhs := Lib.hid hsz
      clear hsz hu
      go_wp2_with (go_at_call 54; refine (half_nat k hlt _).mono ?_; rintro e w' ⟨rfl, rfl⟩)
      go_roundw
      case rel =>
        refine ⟨k + 1, _, by omega, by go_num, rfl, by simp [hhs.out], fun j hj => ?_⟩
        rw [Array.getElem?_setIfInBounds]
        by_cases e : k = j
        · subst e; rw [if_pos rfl, if_pos (by rw [hhs.out]; exact hlt)]
        · rw [if_neg e]; exact HC.out j (by omega)
      case measure => simp [intOf]; omega
    · obtain rfl : k = 16 := by omega
      have HC := Lib.hid hcs
      clear hcs
      have hT : ∀ j : Nat, j < 16 → (w.alloc (.cells cs 81)).cell? ⟨w.heap.size, j, none⟩ = some (.int .u32 ((CrcM.stp 4 (CrcM.w32 j)).toNat : Int)) := fun j hj => by
        rw [(Blk.new w 81 cs).cell j, HC.out j hj]
      have HT := Lib.hid hT
      clear hT
      have hr' := hr.alloc (.cells cs 81)
      go_wp2
      clear hn
      go_loop [8, 25] (fun v i => ∃ k : Nat, k ≤ l.length ∧ i = .int .i64 k ∧ v = .int .u32 ((CrcM.run (CrcM.inv x) (l.take k)).toNat : Int)) (fun _ i => l.length - (intOf i).toNat)
      case atStart => exact ⟨0, by omega, rfl, rfl⟩
      case round =>
        obtain ⟨k, hk, rfl, rfl⟩ := hrel
        have hy := CrcM.toNat_lt (CrcM.run (CrcM.inv x) (l.take k))
        by_cases hlt : k < l.length
        · obtain ⟨b, o, rfl, hcell⟩ := hr'.byte hlt
          have hl := (l[k]).toNat_lt
          have hs := Lib.hid (take_snoc l k hlt)
          have h8 := CrcM.xor8_go (CrcM.run (CrcM.inv x) (l.take k)) l[k]
          go_wp2_with (go_at_call 55; refine (more1_any _ _ _ HT.out).mono ?_; rintro e w' ⟨rfl, rfl⟩)
          go_round
          case rel => exact ⟨k + 1, by omega, by go_num, by rw [hs.out, CrcM.run_snoc, CrcM.two_nibbles]⟩
          case measure => simp [intOf]; omega
        · obtain rfl : k = l.length := by omega
          have hn := CrcM.not_go (CrcM.run (CrcM.inv x) l)
          go_wp2
          go_ret
          exact ⟨rfl, (Below.refl _ _).alloc (Nat.le_refl _) _⟩
end Go.Proofs.Ytpgmhjjdnanlgaa
