/-
  What the document's putting of fixed numbers, counts and texts returns: new memory that holds the form.
  Conditions: the bytes lie in memory as lists; their number is bounded.
-/
import Derived.Test.YtaadfalklddhcaaCodeW1
namespace Go.Proofs.Ytaadfalklddhcaa
open Go.RowKit
set_option linter.unusedVariables false
set_option maxRecDepth 100000 in
theorem reffixed_any (n size : Nat) (w : World) (hn : n < 18446744073709551616) (hs8 : size ≤ 8) :
    Calls Try.prog 80 #[.int .u64 (n : Int), .int .i64 (size : Int)] w (NewB (CodeM.fx size n) w) := by
  go_enter Try.func80, Try.ntmps80
  go_wp2
  go_loopw [5, 6] (fun b i wr => ∃ (j : Nat) (A2 : Option Addr) (c2 : Nat), j ≤ size ∧ i = .int .i64 j ∧ b = .slice A2 j c2 ∧ Own wr w.heap.size A2 c2 (CodeM.fx j n) ∧ Below w.heap.size w wr) (fun _ i _ => size - (intOf i).toNat)
  case atStart => exact ⟨0, none, 0, by omega, rfl, rfl, Own.nil_ _ _, Below.refl _ _⟩
  case round =>
    obtain ⟨j, A2, c2, hj, rfl, rfl, hx, hbel⟩ := hrel
    have hs := hbel.size
    have HL := Lib.hid (CodeM.fx_length j n)
    by_cases hlt : j < size
    · have hfx := Lib.hid (CodeM.fx_succ j n)
      have hsh := CodeM.shr_byte n j
      obtain ⟨x, hx2⟩ : ∃ x, CodeM.byte (n / 256 ^ j % 256) = x := ⟨_, rfl⟩
      rw [hx2] at hsh
      have HX2 := Lib.hid hx2
      clear hx2
      go_wp2_with (at_builtin; refine wpl_app' _ rfl (.tmp 12) (.tmp 19) rfl w.heap.size A2 c2 (CodeM.fx j n) j rfl HL.out (hx.alloc _) (some ⟨wr.heap.size, 0, none⟩) 1 [x] 1 rfl rfl (row_one wr _ _ rfl) ?_ ?_ ?_)
      · omega
      · simp; omega
      intro A3 c3 w3 h3 hg3 _
      have hb3 : Below w.heap.size w w3 := (hx.alloc _).grown_below (by rw [HL.out]) hg3 (hbel.alloc hs _) (Nat.le_refl _) (by simp; omega)
      go_wp2
      go_roundw
      case rel => exact ⟨j + 1, A3, c3, by omega, by go_num, rfl, by rw [hfx.out, HX2.out]; exact h3, hb3⟩
      case measure => simp [intOf]; omega
    · obtain rfl : j = size := by omega
      go_wp2
      go_ret
      exact ⟨A2, _, c2, rfl, Lib.hid HL.out, hx, hbel⟩
theorem rem128 (m : Nat) : ((CodeM.byte (m % 128 + 128)).toNat : Int) = ((m % 128 : Nat) : Int) + 128 := by
  rw [CodeM.ofNat_toNat _ (by omega)]; omega
set_option maxRecDepth 100000 in
theorem refputuv_any (n : Nat) (w : World) (hn : n < 18446744073709551616) :
    Calls Try.prog 81 #[.int .u64 (n : Int)] w (NewB (CodeM.uv n) w) := by
  go_enter Try.func81, Try.ntmps81
  go_wp2
  go_loopw [0, 3] (fun v b wr => ∃ (m f : Nat) (A2 : Option Addr) (c2 : Nat) (x : List UInt8), v = .int .u64 (m : Int) ∧ m < 18446744073709551616 ∧ b = .slice A2 x.length c2 ∧ Own wr w.heap.size A2 c2 x ∧ Below w.heap.size w wr ∧ CodeM.uv n = x ++ CodeM.uvF f m ∧ m < 2 ^ (7 * f + 1) ∧ f ≤ 9 ∧ x.length + f = 9) (fun v _ _ => (intOf v).toNat)
  case atStart => exact ⟨n, 9, none, 0, [], rfl, hn, rfl, Own.nil_ _ _, Below.refl _ _, rfl, by omega, by omega, rfl⟩
  case round =>
    obtain ⟨m, f, A2, c2, x, rfl, hm, rfl, hx, hbel, he, hf, hf9, hxf⟩ := hrel
    have hs := hbel.size
    by_cases hlt : m < 128
    · have hu : CodeM.uvF f m = [CodeM.byte m] := by
        cases f with
        | zero => unfold CodeM.uvF; rw [Nat.mod_eq_of_lt (by omega)]
        | succ f => unfold CodeM.uvF; rw [if_pos hlt]
      have HE := Lib.hid (he.trans (by rw [hu]))
      have hb : ((CodeM.byte m).toNat : Int) = (m : Int) := by rw [CodeM.ofNat_toNat m (by omega)]
      have HB := Lib.hid hb
      clear he hf hb hu
      go_wp2_with (at_builtin; refine wpl_app _ rfl (.tmp 15) (.tmp 18) rfl w.heap.size A2 c2 x rfl (hx.alloc _) (some ⟨wr.heap.size, 0, none⟩) 1 [CodeM.byte m] rfl (row_one wr _ _ HB.out.symm) ?_ ?_ ?_)
      · simp; omega
      · simp; omega
      intro A3 c3 w3 h3 hg3 _
      have hb3 : Below w.heap.size w w3 := (hx.alloc _).grown_below rfl hg3 (hbel.alloc hs _) (Nat.le_refl _) (by simp; omega)
      go_wp2
      go_ret
      refine ⟨A3, _, c3, rfl, Lib.hid ?_, ?_, hb3⟩
      · rw [HE.out, List.length_append]; rfl
      · rw [HE.out]; exact h3
    · obtain ⟨f, rfl⟩ : ∃ g, f = g + 1 := ⟨f - 1, by
        rcases Nat.eq_zero_or_pos f with h | h
        · subst h; omega
        · omega⟩
      have hu : CodeM.uvF (f + 1) m = CodeM.byte (m % 128 + 128) :: CodeM.uvF f (m / 128) := by
        conv => lhs; unfold CodeM.uvF
        rw [if_neg hlt]
      have HE := Lib.hid (he.trans (by rw [hu]))
      have HR := Lib.hid (rem128 m)
      clear he hu
      go_wp2_with (at_builtin; refine wpl_app _ rfl (.tmp 6) (.tmp 11) rfl w.heap.size A2 c2 x rfl (hx.alloc _) (some ⟨wr.heap.size, 0, none⟩) 1 [CodeM.byte (m % 128 + 128)] rfl (row_one wr _ _ (by rw [HR.out]; go_num)) ?_ ?_ ?_)
      · simp; omega
      · simp; omega
      intro A3 c3 w3 h3 hg3 _
      have hb3 : Below w.heap.size w w3 := (hx.alloc _).grown_below rfl hg3 (hbel.alloc hs _) (Nat.le_refl _) (by simp; omega)
      have hmd : m / 128 < 2 ^ (7 * f + 1) := by
        have e : 2 ^ (7 * (f + 1) + 1) = 2 ^ (7 * f + 1) * 128 := by rw [show 7 * (f + 1) + 1 = (7 * f + 1) + 7 by omega, Nat.pow_add]
        rw [e] at hf
        exact Nat.div_lt_of_lt_mul (by rw [Nat.mul_comm]; exact hf)
      have HM := Lib.hid hmd
      clear hmd hf
      go_wp2
      go_roundw
      case rel => exact ⟨m / 128, f, A3, c3, x ++ [CodeM.byte (m % 128 + 128)], by go_num, by omega, by rw [List.length_append]; rfl, h3, hb3, by rw [HE.out, List.append_assoc]; rfl, HM.out, by omega, by rw [List.length_append]; simp; omega⟩
      case measure => simp [intOf]; omega
set_option maxRecDepth 100000 in
theorem reftxt_any (A : Option Addr) (c : Nat) (s : List UInt8) (w : World) (hr : Row w A (bs s)) (hc : s.length ≤ 140737488355000) :
    Calls Try.prog 83 #[.slice A s.length c] w (NewB (CodeM.tx s) w) := by
  go_enter Try.func83, Try.ntmps83
  go_wp2_with fail
  refine (refputuv_any s.length w (by omega)).mono ?_
  rintro e w1 ⟨A1, n1, c1, rfl, hn1, h1, b1⟩
  have hu := (CodeM.uv_length s.length).2
  have hs := b1.size
  have hle : n1 ≤ 10 := by have := hn1.out; omega
  clear hu
  go_wp2_with (at_builtin; refine wpl_app' _ rfl (.tmp 8) (.tmp 9) rfl w.heap.size A1 c1 (CodeM.uv s.length) n1 rfl hn1.out h1 A c s s.length rfl rfl (hr.below b1) ?_ ?_ ?_)
  · omega
  · omega
  intro A3 c3 w3 h3 hg3 _
  have hb3 : Below w.heap.size w w3 := h1.grown_below (by rw [hn1.out]) hg3 b1 (Nat.le_refl _) (by omega)
  go_wp2
  go_ret
  exact ⟨A3, _, c3, rfl, Lib.hid (by unfold CodeM.tx; rw [List.length_append, hn1.out]), h3, hb3⟩
end Go.Proofs.Ytaadfalklddhcaa
