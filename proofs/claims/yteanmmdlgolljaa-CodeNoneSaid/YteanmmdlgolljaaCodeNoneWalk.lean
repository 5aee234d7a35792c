/-
  The walk of CodeNone: it returns true and changes nothing that was there.
  Conditions: none.
-/
import Derived.Test.YteanmmdlgolljaaCodeW7
namespace Go.Proofs.Yteanmmdlgolljaa
open Go.RowKit Go.Sort Go.Lib
set_option linter.unusedVariables false
set_option maxRecDepth 100000 in
theorem codeNone_walk (w : World) :
    Calls Try.prog 6 #[] w fun e w' => e = .returned (.bool true) ∧ Below w.heap.size w w' := by
  go_enter Try.func6, Try.ntmps6
  go_wp2_with (first
    | (go_at_call 30; refine (u8_nil w).mono ?_; rintro e w1 ⟨rfl, rfl⟩)
    | (go_at_call 31; refine (u16_nil w).mono ?_; rintro e w1 ⟨rfl, rfl⟩)
    | (go_at_call 32; refine (u32_nil w).mono ?_; rintro e w1 ⟨rfl, rfl⟩)
    | (go_at_call 33; refine (u64_nil w).mono ?_; rintro e w1 ⟨rfl, rfl⟩)
    | (go_at_call 15; refine (uv_nil w).mono ?_; rintro e w1 ⟨rfl, rfl⟩)
    | (go_at_call 34; refine (text_nil 9 w).mono ?_; rintro e w1 ⟨rfl, rfl⟩)
    | (go_at_call 17; refine (left_nil w).mono ?_; rintro e w1 ⟨rfl, rfl⟩)
    | (go_at_call 16; refine (err_nil w).mono ?_; rintro e w1 ⟨rfl, rfl⟩)
    | (go_at_call 18; refine (known02_any w).mono ?_; rintro e w1 ⟨rfl, hb⟩))
  go_ret
  exact ⟨rfl, hb⟩
end Go.Proofs.Yteanmmdlgolljaa
