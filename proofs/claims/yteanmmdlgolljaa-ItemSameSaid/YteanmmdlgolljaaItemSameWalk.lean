/-
  The walk of ItemSame: it returns true and changes nothing that was there.
  Conditions: the records' lists lie in memory.
-/
import Derived.Test.YteanmmdlgolljaaItemF
namespace Go.Proofs.Yteanmmdlgolljaa
open Go.RowKit Go.Sort
set_option linter.unusedVariables false
set_option maxRecDepth 100000 in
set_option maxHeartbeats 4000000 in
theorem itemSame_walk (s t : Itv) (w : World) (hs : s.At w) (ht : t.At w) :
    Calls Try.prog 9 #[.agg #[.int .u64 (s.x.key : Int), .slice s.A s.x.vec.length s.c, .slice s.A2 s.x.note.length s.c2], .agg #[.int .u64 (t.x.key : Int), .slice t.A t.x.vec.length t.c, .slice t.A2 t.x.note.length t.c2]] w fun e w' => e = .returned (.bool true) ∧ Below w.heap.size w w' := by
  obtain ⟨x, A, c, A2, c2⟩ := s
  obtain ⟨y, B, d, B2, d2⟩ := t
  obtain ⟨r1, r2, ok1, l1, l2, m1, m2⟩ := hs
  obtain ⟨q1, q2, ok2, l3, l4, m3, m4⟩ := ht
  dsimp only at *
  have b0 : Below w.heap.size w ((w.alloc (.cells #[.int .u64 (x.key : Int), .slice A x.vec.length c, .slice A2 x.note.length c2] 58)).alloc (.cells #[.int .u64 (y.key : Int), .slice B y.vec.length d, .slice B2 y.note.length d2] 58)) := ((Below.refl _ _).alloc (Nat.le_refl _) _).alloc (by simp) _
  have R1 := r1.below b0; have R2 := r2.below b0; have Q1 := q1.below b0; have Q2 := q2.below b0
  have U1 := ((Blk.new w 58 #[.int .u64 (x.key : Int), .slice A x.vec.length c, .slice A2 x.note.length c2]).alloc (.cells #[.int .u64 (y.key : Int), .slice B y.vec.length d, .slice B2 y.note.length d2] 58))
  have U2 := (Blk.new (w.alloc (.cells #[.int .u64 (x.key : Int), .slice A x.vec.length c, .slice A2 x.note.length c2] 58)) 58 #[.int .u64 (y.key : Int), .slice B y.vec.length d, .slice B2 y.note.length d2])
  have e1 : (w.alloc (.cells #[.int .u64 (x.key : Int), .slice A x.vec.length c, .slice A2 x.note.length c2] 58)).heap.size = w.heap.size + 1 := by simp
  rw [e1] at U2
  unfold maxLen at m1 m2 m3 m4
  clear r1 r2 q1 q2 e1
  go_enter Try.func9, Try.ntmps9
  go_wp2
  generalize (w.alloc (.cells #[.int .u64 (x.key : Int), .slice A x.vec.length c, .slice A2 x.note.length c2] 58)).alloc (.cells #[.int .u64 (y.key : Int), .slice B y.vec.length d, .slice B2 y.note.length d2] 58) = W at *
  have y0 := U1.cell 0
  have y1 := U1.cell 1
  have y2 := U1.cell 2
  have v0 := U2.cell 0
  have v1 := U2.cell 1
  have v2 := U2.cell 2
  simp only [List.getElem?_toArray, List.getElem?_cons_zero, List.getElem?_cons_succ] at y0 y1 y2 v0 v1 v2
  have z0 := cell_regrown y0; have z1 := cell_regrown y1; have z2 := cell_regrown y2; have z3 := cell_regrown v0; have z4 := cell_regrown v1; have z5 := cell_regrown v2
  clear y0 y1 y2 v0 v1 v2
  have k1 := (fun (d_ : Nat) (os : Array Obj) => Calls.regrown_of (itemsame_any x y A A2 B B2 c c2 d d2 (grow (redrawn W d_) os) (row_regrown R1 d_ os) (row_regrown R2 d_ os) (row_regrown Q1 d_ os) (row_regrown Q2 d_ os) (by omega) (by omega)))
  have k2 := (fun (d_ : Nat) (os : Array Obj) => Calls.regrown_of (refsame_any x y A A2 B B2 c c2 d d2 (grow (redrawn W d_) os) (row_regrown R1 d_ os) (row_regrown R2 d_ os) (row_regrown Q1 d_ os) (row_regrown Q2 d_ os) (by omega) (by omega)))
  have k3 := (fun (d_ : Nat) (os : Array Obj) => Calls.regrown_of (itemsame_any y x B B2 A A2 d d2 c c2 (grow (redrawn W d_) os) (row_regrown Q1 d_ os) (row_regrown Q2 d_ os) (row_regrown R1 d_ os) (row_regrown R2 d_ os) (by omega) (by omega)))
  have k4 := (fun (d_ : Nat) (os : Array Obj) => Calls.regrown_of (itemsame_any x x A A2 A A2 c c2 c c2 (grow (redrawn W d_) os) (row_regrown R1 d_ os) (row_regrown R2 d_ os) (row_regrown R1 d_ os) (row_regrown R2 d_ os) (by omega) (by omega)))
  have k5 := Lib.hid (fun (d : Nat) (os : Array Obj) => Calls.regrown_of (known05_any (grow (redrawn W d) os)))
  rw [ItemM.same_comm y x] at k3
  rw [ItemM.same_refl] at k4
  obtain ⟨b, hb⟩ : ∃ b, ItemM.same x y = b := ⟨_, rfl⟩
  rw [hb] at k1 k2 k3
  have k1 := Lib.hid k1; have k2 := Lib.hid k2; have k3 := Lib.hid k3; have k4 := Lib.hid k4
  clear R1 R2 Q1 Q2 U1 U2 hb
  cases b
  all_goals
    refine wp_region_quiet_below (by kernel_rfl) (by kernel_rfl) ?_
    repeat (first | go_big_quiet_step (with_reducible (first | exact k1.out _ _ | exact k2.out _ _ | exact k3.out _ _ | exact k4.out _ _ | exact k5.out _ _)) | quiet_step (with_reducible (first | exact k1.out _ _ | exact k2.out _ _ | exact k3.out _ _ | exact k4.out _ _ | exact k5.out _ _)))
    refine wpQuiet_nil ?_
    intro _ hw'
    obtain ⟨⟨dq, osq⟩, hw''⟩ := hw'
    subst hw''
    go_wp2
    go_ret
    exact ⟨rfl, below_step b0 (below_regrown W dq osq) (Nat.le_refl _)⟩
end Go.Proofs.Yteanmmdlgolljaa
