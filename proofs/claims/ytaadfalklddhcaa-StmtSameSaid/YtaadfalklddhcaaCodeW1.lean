/-
  What bytes.Clone and the putting of numbers and texts return: new memory that holds the bytes, and the form behind them.
  Conditions: the bytes lie in memory as lists; their number is bounded.
-/
import Derived.Test.YtaadfalklddhcaaMem2
import Derived.Test.YtaadfalklddhcaaCodeM
import Derived.Laws.CopyOwn
namespace Go.Proofs.Ytaadfalklddhcaa
open Go.RowKit
set_option linter.unusedVariables false
/-- A slice of bytes in new memory. -/
def NewB (l : List UInt8) (w : World) (e : Ending) (w' : World) : Prop := ∃ A n c, e = .returned (.slice A n c) ∧ Hid (l.length = n) ∧ Own w' w.heap.size A c l ∧ Below w.heap.size w w'
theorem row_none {w : World} {l : List UInt8} (h : Row w none (bs l)) : l = [] := by
  rcases h with h | ⟨b, o, e, _⟩
  · exact List.map_eq_nil_iff.1 h
  · cases e
set_option maxRecDepth 100000 in
theorem clone_any (A : Option Addr) (c : Nat) (l : List UInt8) (w : World) (hr : Row w A (bs l)) (hc : l.length ≤ 140737488355328) :
    Calls Try.prog 87 #[.slice A l.length c] w (NewB l w) := by
  have hq := fun (w : World) (a : Option Addr) (l c : Nat) => Lib.run_eql_slice_nil (P := Try.prog) w 22 5 a l c 0 0 Try.underlying22
  cases A with
  | none =>
    obtain rfl := row_none hr
    go_enter Try.func87, Try.ntmps87
    go_wp2
    go_ret
    exact ⟨none, 0, 0, rfl, Lib.hid rfl, Own.nil_ _ _, Below.refl _ _⟩
  | some a =>
    go_enter Try.func87, Try.ntmps87
    go_wp2_with (at_builtin; refine wpl_app _ rfl (.tmp 5) (.tmp 6) rfl w.heap.size (some ⟨w.heap.size, 0, none⟩) 0 [] rfl (Own.made w #[] 0 (Nat.le_refl _) (by unfold maxLen; omega) rfl) (some a) c l rfl (hr.alloc _) ?_ ?_ ?_)
    · simp; omega
    · simp
    intro A1 c1 w1 h1 hg1 _
    have hb1 : Below w.heap.size w w1 := ((Below.refl w.heap.size w).alloc (Nat.le_refl _) (.cells #[] 5)).grown hg1 (by simp) (by intro k hk; simp [Value.ownBlock] at hk; omega)
    go_wp2
    go_ret
    exact ⟨A1, _, c1, rfl, Lib.hid rfl, h1, hb1⟩
set_option maxRecDepth 100000 in
theorem putuv_any (A : Option Addr) (c n : Nat) (l : List UInt8) (w : World) (hr : Row w A (bs l)) (hc : l.length ≤ 140737488355000) (hn : n < 18446744073709551616) :
    Calls Try.prog 103 #[.slice A l.length c, .int .u64 (n : Int)] w (NewB (l ++ CodeM.uv n) w) := by
  go_enter Try.func103, Try.ntmps103
  go_wp2_with fail
  refine (clone_any A c l _ hr (by omega)).mono ?_
  rintro e w1 ⟨A1, n1, c1, rfl, hn1, h1, b1⟩
  obtain rfl := hn1.out
  go_wp2
  go_loopw [1, 5] (fun v b wr => ∃ (m f : Nat) (A2 : Option Addr) (c2 : Nat) (x : List UInt8), v = .int .u64 (m : Int) ∧ m < 18446744073709551616 ∧ b = .slice A2 x.length c2 ∧ Own wr w.heap.size A2 c2 x ∧ Below w.heap.size w wr ∧ l ++ CodeM.uv n = x ++ CodeM.uvF f m ∧ m < 2 ^ (7 * f + 1) ∧ f ≤ 9 ∧ x.length + f = l.length + 9) (fun v _ _ => (intOf v).toNat)
  case atStart => exact ⟨n, 9, A1, c1, l, rfl, hn, rfl, h1, b1, rfl, by omega, by omega, rfl⟩
  case round =>
    obtain ⟨m, f, A2, c2, x, rfl, hm, rfl, hx, hbel, he, hf, hf9, hxf⟩ := hrel
    have hs := hbel.size
    by_cases hlt : m < 128
    · have hu : CodeM.uvF f m = [CodeM.byte m] := by
        cases f with
        | zero => unfold CodeM.uvF; rw [Nat.mod_eq_of_lt (by omega)]
        | succ f => unfold CodeM.uvF; rw [if_pos hlt]
      have HE := Lib.hid (he.trans (by rw [hu]))
      have hb : ((CodeM.byte m).toNat : Int) = (m : Int) := by rw [CodeM.ofNat_toNat m (by omega)]
      have HB := Lib.hid hb
      clear he hf hb hu
      go_wp2_with (at_builtin; refine wpl_app _ rfl (.tmp 18) (.tmp 21) rfl w.heap.size A2 c2 x rfl (hx.alloc _) (some ⟨wr.heap.size, 0, none⟩) 1 [CodeM.byte m] rfl (row_one wr _ _ HB.out.symm) ?_ ?_ ?_)
      · simp; omega
      · simp; omega
      intro A3 c3 w3 h3 hg3 _
      have hb3 : Below w.heap.size w w3 := (hx.alloc _).grown_below rfl hg3 (hbel.alloc hs _) (Nat.le_refl _) (by simp; omega)
      go_wp2
      go_ret
      refine ⟨A3, _, c3, rfl, Lib.hid ?_, ?_, hb3⟩
      · rw [HE.out, List.length_append]; rfl
      · rw [HE.out]; exact h3
    · obtain ⟨f, rfl⟩ : ∃ g, f = g + 1 := ⟨f - 1, by
        rcases Nat.eq_zero_or_pos f with h | h
        · subst h; omega
        · omega⟩
      have hu : CodeM.uvF (f + 1) m = CodeM.byte (m % 128 + 128) :: CodeM.uvF f (m / 128) := by
        conv => lhs; unfold CodeM.uvF
        rw [if_neg hlt]
      have HE := Lib.hid (he.trans (by rw [hu]))
      have hor := CodeM.or128 m
      clear he hu
      go_wp2_with (at_builtin; refine wpl_app _ rfl (.tmp 12) (.tmp 16) rfl w.heap.size A2 c2 x rfl (hx.alloc _) (some ⟨wr.heap.size, 0, none⟩) 1 [CodeM.byte (m % 128 + 128)] rfl (row_one wr _ _ rfl) ?_ ?_ ?_)
      · simp; omega
      · simp; omega
      intro A3 c3 w3 h3 hg3 _
      have hb3 : Below w.heap.size w w3 := (hx.alloc _).grown_below rfl hg3 (hbel.alloc hs _) (Nat.le_refl _) (by simp; omega)
      have hmd : m / 128 < 2 ^ (7 * f + 1) := by
        have e : 2 ^ (7 * (f + 1) + 1) = 2 ^ (7 * f + 1) * 128 := by rw [show 7 * (f + 1) + 1 = (7 * f + 1) + 7 by omega, Nat.pow_add]
        rw [e] at hf
        exact Nat.div_lt_of_lt_mul (by rw [Nat.mul_comm]; exact hf)
      have HM := Lib.hid hmd
      clear hmd hf
      go_wp2
      go_roundw
      case rel => exact ⟨m / 128, f, A3, c3, x ++ [CodeM.byte (m % 128 + 128)], by go_num, by omega, by rw [List.length_append]; rfl, h3, hb3, by rw [HE.out, List.append_assoc]; rfl, HM.out, by omega, by rw [List.length_append]; simp; omega⟩
      case measure => simp [intOf]; omega
end Go.Proofs.Ytaadfalklddhcaa
