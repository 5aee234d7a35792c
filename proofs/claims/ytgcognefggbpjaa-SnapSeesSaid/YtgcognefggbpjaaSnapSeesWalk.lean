/-
  The walk of SnapSees: it returns true and changes nothing that was there.
  Conditions: the look's stamps and the chain lie in memory as lists; each slice is at most 2^47 - 4096 bytes.
-/
import Derived.Test.YtgcognefggbpjaaSnapW5
import Derived.Test.YtgcognefggbpjaaMem2
namespace Go.Proofs.Ytgcognefggbpjaa
open Go.RowKit Go.Sort
set_option linter.unusedVariables false
set_option maxRecDepth 100000 in
theorem snapSees_walk (k : Lok) (A A2 : Option Addr) (c c2 : Nat) (l : List Hed) (w : World) (hr1 : Row w A (k.done.flatMap Stp.cells)) (hl : k.done.length ≤ maxLen)
    (hr : Row w A2 (l.flatMap Hed.cells)) (hl2 : l.length ≤ maxLen) :
    Calls Try.prog 8 #[.agg #[.int .u64 (k.self : Int), .int .u64 (k.start : Int), .int .u64 (k.base : Int), .slice A k.done.length c], .slice A2 l.length c2] w fun e w' => e = .returned (.bool true) ∧ Below w.heap.size w w' := by
  unfold maxLen at hl hl2
  have hB := Blk.new w 38 #[.int .u64 (k.self : Int), .int .u64 (k.start : Int), .int .u64 (k.base : Int), .slice A k.done.length c]
  have HB := Lib.hid hB
  clear hB
  go_enter Try.func8, Try.ntmps8
  go_wp2_with fail
  refine (large_any A2 (some ⟨w.heap.size + 1, 0, none⟩) c2 1 l [⟨k, A, c⟩] _ hl2 (by simp) ?_ (by simp; omega)).mono ?_
  · have := row_new (w.alloc (.cells #[.int .u64 (k.self : Int), .int .u64 (k.start : Int), .int .u64 (k.base : Int), .slice A k.done.length c] 38)) #[.int .u64 (k.self : Int), .int .u64 (k.start : Int), .int .u64 (k.base : Int), .slice A k.done.length c] 38 (0, 0) _ rfl
    simpa [Lkv.cells] using this
  rintro e w1 ⟨r, rfl, _, rfl⟩
  have hb0 := (((Below.refl w.heap.size w).alloc (Nat.le_refl _) (.cells #[.int .u64 (k.self : Int), .int .u64 (k.start : Int), .int .u64 (k.base : Int), .slice A k.done.length c] 38)).alloc (by simp) (.cells #[.int .u64 (k.self : Int), .int .u64 (k.start : Int), .int .u64 (k.base : Int), .slice A k.done.length c] 38))
  cases r with
  | true =>
    go_wp2_with (go_at_call 25; refine (known17_any _).mono ?_; rintro e w' ⟨rfl, hb⟩)
    go_ret
    exact ⟨rfl, below_step hb0 hb (by simp)⟩
  | false =>
    have hB1 := HB.out.alloc (.cells #[.int .u64 (k.self : Int), .int .u64 (k.start : Int), .int .u64 (k.base : Int), .slice A k.done.length c] 38)
    have q1 := (hr1.alloc (.cells #[.int .u64 (k.self : Int), .int .u64 (k.start : Int), .int .u64 (k.base : Int), .slice A k.done.length c] 38)).alloc (.cells #[.int .u64 (k.self : Int), .int .u64 (k.start : Int), .int .u64 (k.base : Int), .slice A k.done.length c] 38)
    have q2 := (hr.alloc (.cells #[.int .u64 (k.self : Int), .int .u64 (k.start : Int), .int .u64 (k.base : Int), .slice A k.done.length c] 38)).alloc (.cells #[.int .u64 (k.self : Int), .int .u64 (k.start : Int), .int .u64 (k.base : Int), .slice A k.done.length c] 38)
    have hsz : (w.heap.size) < ((w.alloc (.cells #[.int .u64 (k.self : Int), .int .u64 (k.start : Int), .int .u64 (k.base : Int), .slice A k.done.length c] 38)).alloc (.cells #[.int .u64 (k.self : Int), .int .u64 (k.start : Int), .int .u64 (k.base : Int), .slice A k.done.length c] 38)).heap.size := by simp; omega
    go_wp2
    generalize (w.alloc (.cells #[.int .u64 (k.self : Int), .int .u64 (k.start : Int), .int .u64 (k.base : Int), .slice A k.done.length c] 38)).alloc (.cells #[.int .u64 (k.self : Int), .int .u64 (k.start : Int), .int .u64 (k.base : Int), .slice A k.done.length c] 38) = W at *
    have d0 := cell_regrown (hB1.cell 0)
    have d1 := cell_regrown (hB1.cell 1)
    have d2 := cell_regrown (hB1.cell 2)
    have d3 := cell_regrown (hB1.cell 3)
    have k1 := Lib.hid (fun (d : Nat) (os : Array Obj) => Calls.regrown_of (sees_any k A A2 c c2 l (grow (redrawn W d) os) (row_regrown q2 d os) (by omega) (row_regrown q1 d os) (by omega)))
    have k2 := Lib.hid (fun (d : Nat) (os : Array Obj) => Calls.regrown_of (refsees_any k A A2 c c2 l (grow (redrawn W d) os) (row_regrown q2 d os) (by omega) (row_regrown q1 d os) (by omega)))
    have k3 := Lib.hid (fun (d : Nat) (os : Array Obj) => Calls.regrown_of (known17_any (grow (redrawn W d) os)))
    refine wp_region_quiet_below (by kernel_rfl) (by kernel_rfl) ?_
    repeat (first | go_big_quiet_step (first | exact k1.out _ _ | exact k2.out _ _ | exact k3.out _ _) | quiet_step (first | exact k1.out _ _ | exact k2.out _ _ | exact k3.out _ _))
    refine wpQuiet_nil ?_
    intro _ hw'
    obtain ⟨⟨dq, osq⟩, hw''⟩ := hw'
    subst hw''
    go_wp2
    go_ret
    exact ⟨rfl, below_step hb0 (below_regrown W dq osq) (by omega)⟩
end Go.Proofs.Ytgcognefggbpjaa
