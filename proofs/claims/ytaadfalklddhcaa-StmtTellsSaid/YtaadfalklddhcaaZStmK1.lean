/-
  The small request's form, that every law of this layer asks for last.
  Conditions: none.
-/
import Derived.Test.YtaadfalklddhcaaZStmW11
namespace Go.Proofs.Ytaadfalklddhcaa
open Go.RowKit Go.Sort Go.Lib
set_option linter.unusedVariables false
set_option linter.unusedSimpArgs false
def knownX : Rq := ⟨6, ⟨0, [], []⟩, 0, 0, 2, [-1], [], 0⟩
def knownV (g : Nat) : Rqv := ⟨knownX, none, 0, none, 0, some ⟨g, 0, none⟩, 1, none, 0⟩
theorem knownX_ok : knownX.Ok := ⟨by decide, StmM.no_ok, by decide, by decide, by decide, by decide, (fun v hv => by cases hv), by decide⟩
theorem knownV_at (w : World) : (knownV w.heap.size).At (w.alloc (.cells #[.int .i32 (-1)] 21)) :=
  ⟨.inl rfl, .inl rfl, row_i1 w (-1), .inl rfl, knownX_ok, Nat.le_refl _, Nat.le_refl _, Nat.le_refl _, Nat.le_refl _, Nat.zero_le _, Nat.zero_le _, by show 1 ≤ maxLen; unfold maxLen; omega, Nat.zero_le _⟩
theorem knownX_may : StmM.may knownX = true := by
  rw [StmM.may_iff]
  refine ⟨by decide, by decide, ?_, by decide, by decide, by decide, by decide, by decide, by decide, ?_⟩
  · exact (StmM.same_iff _ _).2 rfl
  · exact ⟨fun h => absurd h (by decide), fun _ => by decide⟩
theorem knownX_form : StmM.form knownX = [6, 2, 1, 255, 255, 255, 255] := by decide
theorem known_may (g : Nat) : StmM.may (knownV g).x = true := knownX_may
theorem known_form (g : Nat) : StmM.form (knownV g).x = [6, 2, 1, 255, 255, 255, 255] := knownX_form
set_option maxRecDepth 100000 in
theorem known22_any (w : World) : Calls Try.prog 9 #[] w (BoolP true w) := by
  have hb0 : Below w.heap.size w (w.alloc (.cells #[.int .i32 (-1)] 21)) := (Below.refl _ _).alloc (Nat.le_refl _) _
  have HC := Lib.hid (ask_any (knownV w.heap.size) _ (knownV_at w))
  rw [known_may, known_form] at HC
  go_enter Try.func9, Try.ntmps9
  go_wp2_with fail
  refine HC.out.mono ?_
  rintro e w2 ⟨A, n, c, rfl, hn, hO, hb⟩
  obtain rfl : 7 = n := hn.out
  have hs : (convert 22 9 (.slice A 7 c)).run Try.prog w2 = .ok (.string ⟨#[6, 2, 1, 255, 255, 255, 255]⟩) w2 := run_str w2 (l := [6, 2, 1, 255, 255, 255, 255]) c hO.row
  have HB := Lib.hid (below_join hb0 hb)
  clear hb hb0 hn
  go_wp2
  go_ret
  exact ⟨rfl, HB.out⟩
end Go.Proofs.Ytaadfalklddhcaa
