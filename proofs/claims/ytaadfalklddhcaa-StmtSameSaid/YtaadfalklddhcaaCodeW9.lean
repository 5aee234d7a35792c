/-
  What the reader's numbers and texts are.
  Conditions: the reader lies in a block of its own; its bytes lie in memory as a list.
-/
import Derived.Test.YtaadfalklddhcaaCodeW8
namespace Go.Proofs.Ytaadfalklddhcaa
open Go.RowKit Go.Sort Go.Lib
set_option linter.unusedVariables false
namespace CodeM
theorem fixed_lt (k : Nat) (r : Rd) : (r.fixed k).1 < 256 ^ k := by
  unfold Rd.fixed
  have := Nat.pow_pos (n := k) (show 0 < 256 by omega)
  split
  · exact this
  · split
    · exact this
    · exact le_take_lt _ _ (by omega)
theorem text_err {l : List UInt8} {most : Int} {e : Nat} (h : e ≠ 0) : Rd.text most ⟨l, e⟩ = ([], ⟨l, e⟩) := by simp [Rd.text, h]
theorem text_none {l : List UInt8} {most : Int} (h : cnt l = none) : Rd.text most ⟨l, 0⟩ = ([], ⟨l, 4⟩) := by simp [Rd.text, h]
theorem text_long {l : List UInt8} {most : Int} {n k : Nat} (h : cnt l = some (n, k)) (h1 : max 0 most < (n : Int)) : Rd.text most ⟨l, 0⟩ = ([], ⟨l, 3⟩) := by unfold Rd.text; rw [if_neg (by simp), h]; simp only; rw [if_pos h1]
theorem text_short {l : List UInt8} {most : Int} {n k : Nat} (h : cnt l = some (n, k)) (h1 : ¬ max 0 most < (n : Int)) (h2 : l.length - k < n) : Rd.text most ⟨l, 0⟩ = ([], ⟨l, 4⟩) := by unfold Rd.text; rw [if_neg (by simp), h]; simp only; rw [if_neg h1, if_pos h2]
theorem text_ok {l : List UInt8} {most : Int} {n k : Nat} (h : cnt l = some (n, k)) (h1 : ¬ max 0 most < (n : Int)) (h2 : ¬ l.length - k < n) : Rd.text most ⟨l, 0⟩ = ((l.drop k).take n, ⟨l.drop (k + n), 0⟩) := by unfold Rd.text; rw [if_neg (by simp), h]; simp only; rw [if_neg h1, if_neg h2]
end CodeM
theorem u8_any (g : Nat) (r : CodeM.Rd) (w : World) (hr : RdAt 111 w g r) :
    Calls Try.prog 29 #[.pointer (some ⟨g, 0, none⟩)] w (RdStep 111 g (.int .u8 ((r.fixed 1).1 : Nat)) (r.fixed 1).2 w) := by
  have hl := CodeM.fixed_lt 1 r
  have hw : IntKind.u8.wrap ((r.fixed 1).1 : Int) = ((r.fixed 1).1 : Int) := by rw [IntKind.wrap_u8]; omega
  have hw2 : ((r.fixed 1).1 : Int) % 256 = ((r.fixed 1).1 : Int) := by omega
  have H := (fixed_any g r 1 w hr (by omega))
  generalize r.fixed 1 = p at *
  go_enter Try.func29, Try.ntmps29
  go_wp2_with (go_at_call 88; refine H.mono ?_; rintro e w1 ⟨rfl, h1, h2⟩)
  go_ret
  exact ⟨rfl, h1, h2⟩
theorem u16_any (g : Nat) (r : CodeM.Rd) (w : World) (hr : RdAt 111 w g r) :
    Calls Try.prog 30 #[.pointer (some ⟨g, 0, none⟩)] w (RdStep 111 g (.int .u16 ((r.fixed 2).1 : Nat)) (r.fixed 2).2 w) := by
  have hl := CodeM.fixed_lt 2 r
  have hw : IntKind.u16.wrap ((r.fixed 2).1 : Int) = ((r.fixed 2).1 : Int) := by rw [IntKind.wrap_u16]; omega
  have hw2 : ((r.fixed 2).1 : Int) % 65536 = ((r.fixed 2).1 : Int) := by omega
  have H := (fixed_any g r 2 w hr (by omega))
  generalize r.fixed 2 = p at *
  go_enter Try.func30, Try.ntmps30
  go_wp2_with (go_at_call 88; refine H.mono ?_; rintro e w1 ⟨rfl, h1, h2⟩)
  go_ret
  exact ⟨rfl, h1, h2⟩
theorem u32_any (g : Nat) (r : CodeM.Rd) (w : World) (hr : RdAt 111 w g r) :
    Calls Try.prog 69 #[.pointer (some ⟨g, 0, none⟩)] w (RdStep 111 g (.int .u32 ((r.fixed 4).1 : Nat)) (r.fixed 4).2 w) := by
  have hl := CodeM.fixed_lt 4 r
  have hw : IntKind.u32.wrap ((r.fixed 4).1 : Int) = ((r.fixed 4).1 : Int) := by rw [IntKind.wrap_u32]; omega
  have hw2 : ((r.fixed 4).1 : Int) % 4294967296 = ((r.fixed 4).1 : Int) := by omega
  have H := (fixed_any g r 4 w hr (by omega))
  generalize r.fixed 4 = p at *
  go_enter Try.func69, Try.ntmps69
  go_wp2_with (go_at_call 88; refine H.mono ?_; rintro e w1 ⟨rfl, h1, h2⟩)
  go_ret
  exact ⟨rfl, h1, h2⟩
theorem u64_any (g : Nat) (r : CodeM.Rd) (w : World) (hr : RdAt 111 w g r) :
    Calls Try.prog 37 #[.pointer (some ⟨g, 0, none⟩)] w (RdStep 111 g (.int .u64 ((r.fixed 8).1 : Nat)) (r.fixed 8).2 w) := by
  have H := (fixed_any g r 8 w hr (by omega))
  generalize r.fixed 8 = p at *
  go_enter Try.func37, Try.ntmps37
  go_wp2_with (go_at_call 88; refine H.mono ?_; rintro e w1 ⟨rfl, h1, h2⟩)
  go_ret
  exact ⟨rfl, h1, h2⟩
end Go.Proofs.Ytaadfalklddhcaa
