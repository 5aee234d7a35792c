/-
  What the law's known answer is.
  Conditions: none.
-/
import Derived.Test.YteanmmdlgolljaaCodeW5
namespace Go.Proofs.Yteanmmdlgolljaa
open Go.RowKit Go.Sort Go.Lib
set_option linter.unusedVariables false
theorem uv300 : CodeM.uv 300 = [172, 2] := by decide +kernel
theorem cnt300 : CodeM.Rd.uv ⟨[172, 2], 0⟩ = (300, ⟨[], 0⟩) := by
  rw [CodeM.uv_ok (n := 300) (k := 2) (by decide +kernel)]; rfl
set_option maxRecDepth 100000 in
theorem known02_any (w : World) : Calls Try.prog 18 #[] w fun e w' => e = .returned (.bool true) ∧ Below w.heap.size w w' := by
  go_enter Try.func18, Try.ntmps18
  go_wp2_with fail
  refine (putuv_any none 0 300 [] w (.inl rfl) (by simp) (by omega)).mono ?_
  rintro e w1 ⟨A1, n1, c1, rfl, hn1, h1, b1⟩
  rw [List.nil_append, uv300] at h1 hn1
  obtain rfl := hn1.out
  go_wp2_with fail
  refine (newreader_any A1 c1 [172, 2] w1 h1.row (by simp)).mono ?_
  rintro e w2 ⟨g, rfl, hg, h2, b2⟩
  have hs1 := b1.size
  have hb2 := below_join b1 b2
  have hr : (convert 22 9 (.slice A1 2 c1)).run Try.prog w2 = .ok (.string ⟨#[172, 2]⟩) w2 := run_str w2 (l := [172, 2]) c1 (h1.row.below b2)
  go_wp2_with fail
  refine (uv_any g ⟨[172, 2], 0⟩ w2 h2).mono ?_
  rw [cnt300]
  rintro e w3 ⟨rfl, h3, g3⟩
  have hb3 : Below w.heap.size w w3 := below_grown hb2 g3 hb2.size (by omega)
  go_wp2_with fail
  refine (err_any g _ w3 h3).mono ?_
  rintro e1 w1 ⟨rfl, rfl⟩
  go_wp2_with fail
  refine (left_any g _ w3 h3).mono ?_
  rintro e1 w1 ⟨rfl, rfl⟩
  go_wp2
  go_ret
  exact ⟨rfl, hb3⟩
end Go.Proofs.Yteanmmdlgolljaa
