/-
  Whether two versions are alike, by the document.
  Conditions: the lists lie in memory; their lengths are bounded.
-/
import Derived.Test.YteanmmdlgolljaaVerW2
namespace Go.Proofs.Yteanmmdlgolljaa
open Go.RowKit Go.Sort Go.Lib
set_option linter.unusedVariables false
/-- What the reading returns, whatever is read. -/
def VAny (v : Ver) (ev : Nat) (w : World) (e : Ending) (w' : World) : Prop := ∃ A n c A2 n2 c2, e = .returned (.tuple #[.agg #[.int .u64 (v.txn : Int), .bool v.dead, .bool v.gone, .int .u64 (v.prev : Int), .int .u64 (v.x.key : Int), .slice A n c, .slice A2 n2 c2], .int .i64 (ev : Int)]) ∧ Hid (v.x.vec.length = n) ∧ Hid (v.x.note.length = n2) ∧ Own32 w' w.heap.size A n c v.x.vec ∧ Own w' w.heap.size A2 c2 v.x.note ∧ Below w.heap.size w w'
def verOf (r : Option Ver) : Ver := r.getD ⟨0, false, false, 0, ⟨0, [], []⟩⟩
def verErr (r : Option Ver) : Nat := if r.isSome then 0 else 4
theorem VPost.any {r : Option Ver} {w : World} {e : Ending} {w' : World} (h : VPost r w e w') : VAny (verOf r) (verErr r) w e w' := by
  cases r with
  | none => obtain ⟨rfl, hb⟩ := h; exact ⟨none, 0, 0, none, 0, 0, rfl, Lib.hid rfl, Lib.hid rfl, Own32.nil_ _ _, Own.nil_ _ _, hb⟩
  | some x => obtain ⟨A, n, c, A2, n2, c2, rfl, h1, h2, h3, h4, h5⟩ := h; exact ⟨A, n, c, A2, n2, c2, rfl, h1, h2, h3, h4, h5⟩
set_option maxRecDepth 100000 in
set_option maxHeartbeats 2000000 in
theorem refversame_eq (v : Ver) (A A2 B B2 : Option Addr) (n n2 m m2 c c2 d d2 : Nat) (w : World) (hr : Row w A (i32s v.x.vec)) (hr2 : Row w A2 (bs v.x.note)) (hs : Row w B (i32s v.x.vec)) (hs2 : Row w B2 (bs v.x.note))
    (e1 : v.x.vec.length = n) (e2 : v.x.note.length = n2) (e3 : v.x.vec.length = m) (e4 : v.x.note.length = m2) (h1 : n ≤ 9223372036854775807) :
    Calls Try.prog 51 #[.agg #[.int .u64 (v.txn : Int), .bool v.dead, .bool v.gone, .int .u64 (v.prev : Int), .int .u64 (v.x.key : Int), .slice A n c, .slice A2 n2 c2], .agg #[.int .u64 (v.txn : Int), .bool v.dead, .bool v.gone, .int .u64 (v.prev : Int), .int .u64 (v.x.key : Int), .slice B m d, .slice B2 m2 d2]] w fun e w' => e = .returned (.bool true) ∧ Below w.heap.size w w' := by
  obtain ⟨t, dd, gn, p, x⟩ := v
  dsimp only at *
  have E1 := Lib.hid e1; have E2 := Lib.hid e2; have E3 := Lib.hid e3; have E4 := Lib.hid e4
  clear e1 e2 e3 e4
  have hd : (dd == dd) = true := by simp
  have hg : (gn == gn) = true := by simp
  go_enter Try.func51, Try.ntmps51
  go_wp2_with fail
  have ba : Below w.heap.size w ((w.alloc (.cells #[.int .u64 (t : Int), .bool dd, .bool gn, .int .u64 (p : Int), .int .u64 (x.key : Int), .slice A n c, .slice A2 n2 c2] 71)).alloc (.cells #[.int .u64 (t : Int), .bool dd, .bool gn, .int .u64 (p : Int), .int .u64 (x.key : Int), .slice B m d, .slice B2 m2 d2] 71)) := ((Below.refl _ _).alloc (Nat.le_refl _) _).alloc (by simp) _
  refine (refsame_eq x A A2 B B2 n n2 m m2 c c2 d d2 _ (hr.below ba) (hr2.below ba) (hs.below ba) (hs2.below ba) E1.out E2.out E3.out E4.out h1).mono ?_
  rintro e w1 ⟨rfl, hb⟩
  go_wp2
  go_ret
  exact ⟨rfl, below_step ba hb (Nat.le_refl _)⟩
end Go.Proofs.Yteanmmdlgolljaa
