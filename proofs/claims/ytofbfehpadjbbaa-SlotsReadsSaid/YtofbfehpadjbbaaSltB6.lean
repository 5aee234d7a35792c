/-
  The program's form and room of a slotted body that may not be.
  Conditions: the lengths fit.
-/
import Derived.Test.YtofbfehpadjbbaaSltB5
namespace Go.Proofs.Ytofbfehpadjbbaa
open Go.RowKit Go.Sort Go.Lib
set_option linter.unusedVariables false
theorem bytes8_no (s : Slt) (A : Option Addr) (nF cA : Nat) (D : Option Addr) (nD cD : Nat) (w : World) (hs : SltAt w A nF cA D nD cD s) (hsum : SltM.sum s.data ≤ 1000000) (hmF : nF ≤ 1000000) (hmD : nD ≤ 1000000) (hm : ¬ SltM.May s) :
    Calls Try.prog 24 #[.agg #[.int .u8 (s.kind : Int), .int .u32 (s.next : Int), .slice A nF cA, .slice D nD cD]] w fun e w' => e = .returned (.tuple #[.slice none 0 0, .int .i64 2]) ∧ Below w.heap.size w w' := by
  go_enter Try.func24, Try.ntmps24
  go_wp2_with fail
  have hVb0 : Below w.heap.size w (w.alloc (.cells #[.int .u8 (s.kind : Int), .int .u32 (s.next : Int), .slice A nF cA, .slice D nD cD] 26)) := (Below.refl w.heap.size w).alloc (Nat.le_refl _) _
  generalize w.alloc (.cells #[.int .u8 (s.kind : Int), .int .u32 (s.next : Int), .slice A nF cA, .slice D nD cD] 26) = V0 at *
  refine (may_any s A nF cA D nD cD V0 (hs.below hVb0) (by omega) (by omega) (by omega)).mono ?_
  rintro e V ⟨r, rfl, hr, b1⟩
  have hVb := below_step hVb0 b1 (Nat.le_refl _)
  cases r with
  | true => exact absurd (hr.out.1 rfl) hm
  | false =>
    go_wp2
    go_ret2
    exact ⟨rfl, hVb⟩
theorem room_no (s : Slt) (A : Option Addr) (nF cA : Nat) (D : Option Addr) (nD cD : Nat) (w : World) (hs : SltAt w A nF cA D nD cD s) (hsum : SltM.sum s.data ≤ 1000000) (hmF : nF ≤ 1000000) (hmD : nD ≤ 1000000) (hm : ¬ SltM.May s) :
    Calls Try.prog 13 #[.agg #[.int .u8 (s.kind : Int), .int .u32 (s.next : Int), .slice A nF cA, .slice D nD cD]] w fun e w' => e = .returned (.int .i64 0) ∧ Below w.heap.size w w' := by
  go_enter Try.func13, Try.ntmps13
  go_wp2_with fail
  have hVb0 : Below w.heap.size w (w.alloc (.cells #[.int .u8 (s.kind : Int), .int .u32 (s.next : Int), .slice A nF cA, .slice D nD cD] 26)) := (Below.refl w.heap.size w).alloc (Nat.le_refl _) _
  generalize w.alloc (.cells #[.int .u8 (s.kind : Int), .int .u32 (s.next : Int), .slice A nF cA, .slice D nD cD] 26) = V0 at *
  refine (may_any s A nF cA D nD cD V0 (hs.below hVb0) (by omega) (by omega) (by omega)).mono ?_
  rintro e V ⟨r, rfl, hr, b1⟩
  have hVb := below_step hVb0 b1 (Nat.le_refl _)
  cases r with
  | true => exact absurd (hr.out.1 rfl) hm
  | false =>
    go_wp2
    go_ret
    exact ⟨rfl, hVb⟩
end Go.Proofs.Ytofbfehpadjbbaa
