/-
  The document's copy of a record: another one, with one more behind each list.
  Conditions: the lengths fit.
-/
import Derived.Test.YtaadfalklddhcaaZItemC1
namespace Go.Proofs.Ytaadfalklddhcaa
open Go.RowKit Go.Sort Go.Lib
set_option linter.unusedVariables false
set_option linter.unusedSimpArgs false
theorem setR_same (r : Nat → Rsc) (i : Nat) : setR r i (r i) = r := by
  funext j
  unfold setR
  split
  · rename_i h; rw [h]
  · rfl
theorem grown_same {w : World} {row : Option Nat} : w.grownBy w row := ⟨rfl, rfl, rfl, Nat.le_refl _, fun _ _ _ => rfl⟩
/-- A return whose only result lies in a block. -/
theorem ret_cellC {P : Program} {fn : Func} {R : Ending → World → Prop} {a : Act} {w : World} {p : Tmp} {ty : TypeId} (h : fn.results = #[.cell p ty]) (g : Nat) (cs : Array Value) (d : TypeDesc)
    (hp : a.tmps.getD p undef = .pointer (some ⟨g, 0, none⟩)) (hB : Blk w g ty cs) (hu : P.underlying ty = some d) (hd : (match d with | .struct _ | .array _ _ => true | _ => false) = true) (hi : (P.info? ty).map (·.size) = some cs.size)
    (hdf : a.defers = []) (hR : R (.returned (.agg cs)) w) : bodyPost P fn R .ret a w :=
  bodyPost_ret (results_cell_row h a.tmps w g ty cs (0, 0) d hp hB hu hd hi) hdf hR
set_option maxRecDepth 100000 in
set_option maxHeartbeats 4000000 in
theorem refcopy_any (k : Int) (A A2 : Option Addr) (n c m c2 : Nat) (vec : List Int) (note : List UInt8) (w : World) (hr : Row w A (i32s vec)) (hr2 : Row w A2 (bs note)) (hn : vec.length = n) (hm : note.length = m) (hn6 : n ≤ 1000000) (hm4 : m ≤ 1000000) :
    Calls Try.prog 76 #[.agg #[.int .u64 k, .slice A n c, .slice A2 m c2]] w fun e w' => ∃ A' c' A2' c2', e = .returned (.agg #[.int .u64 k, .slice A' n c', .slice A2' m c2']) ∧
      w'.ownsRow (w.heap.size + 2) 21 1 (.slice A' (n + 1) c') (n + 1) (i32s vec ++ [.int .i32 77]) ∧ w'.ownsRow (w.heap.size + 2) 5 1 (.slice A2' (m + 1) c2') (m + 1) (bs note ++ [.int .u8 78]) ∧ Below w.heap.size w w' := by
  go_enter Try.func76, Try.ntmps76
  go_wp2
  refine wp_region_inv _ (by kernel_rfl) (Cp k A A2 n c m c2 (i32s vec) (bs note) w) (by kernel_rfl) ?_ ?_ ?_
  · have hb0 : Below w.heap.size w (w.alloc (.cells #[.int .u64 k, .slice A n c, .slice A2 m c2] 30)) := (Below.refl _ _).alloc (Nat.le_refl _) _
    refine ⟨rfl, rfl, rfl, rfl, nofun, ?_, ?_, ?_, fun _ => ⟨5, .slice none 0 0, 0, []⟩, Rs.none_ _ _ _, Ch.none_ _ _ _ _ _ _ _ _ _ _ _ rfl rfl, Ch.none_ _ _ _ _ _ _ _ _ _ _ _ rfl rfl, nofun, nofun, fun _ => ?_, nofun⟩
    · have h := hb0.alloc (by simp) (.cells #[.int .u64 0, .slice none 0 0, .slice none 0 0] 30)
      exact ⟨h.os, h.tape, h.output, h.size, h.block⟩
    · exact (Blk.new w _ _).alloc _
    · show _ ≤ Array.size _
      simp [World.drew]
    · have := Blk.new (w.alloc (.cells #[.int .u64 k, .slice A n c, .slice A2 m c2] 30)) 30 #[.int .u64 0, .slice none 0 0, .slice none 0 0]
      rw [show (w.alloc (.cells #[.int .u64 k, .slice A n c, .slice A2 m c2] 30)).heap.size = w.heap.size + 1 by simp] at this
      exact this
  · intro L a w' hI hL
    go_wp2
    obtain ⟨r, g1, g2, g3, g4⟩ := hI.rs
    obtain ⟨A', c', A2', c2', q0, q2, _, hB⟩ := g4.g22 (hL 22 (by simp))
    have ho := g1.each 0
    have ho2 := g1.each 2
    rw [q0] at ho
    rw [q2] at ho2
    refine ret_cellC rfl (w.heap.size + 1) _ _ hI.t2 (hB (hL 23 (by simp))) Try.underlying30 rfl (by kernel_rfl) hI.df ?_
    exact ⟨A', c', A2', c2', rfl, ho, ho2, hI.bel⟩
  · refine ⟨?_, ?_, ?_, ?_, ?_, ?_, ?_, ?_, ?_, ?_, ?_, ?_, ?_, ?_, ?_, ?_, ?_, ?_, ?_, ?_, ?_, ?_, ?_, ?_, trivial⟩
    · intro L a w1 hI hi hd
      have t1 := hI.t1
      exact rstep_val rfl (.pointer (some ⟨w.heap.size, 0, none⟩)) w1 (by go_simp) (hI.pure 0 3 (.pointer (some ⟨w.heap.size, 0, none⟩)) (by simp [cpPures]) (by simp [cpPures]) (by decide) (by decide) (by decide))
    · intro L a w1 hI hi hd
      have x0 := hI.bx.cell 0
      simp only [List.getElem?_toArray, List.getElem?_cons_zero, List.getElem?_cons_succ] at x0
      simp [Region.binds] at hd
      have e := hI.pu (0, 3, (.pointer (some ⟨w.heap.size, 0, none⟩))) (by simp [cpPures]) hd
      simp only at e
      exact rstep_val rfl (.int .u64 k) w1 (by go_simp) (hI.pure 1 4 (.int .u64 k) (by simp [cpPures]) (by simp [cpPures]) (by decide) (by decide) (by decide))
    · intro L a w1 hI hi hd
      have hi : L 2 = false := hi
      obtain ⟨r, g1, g2, g3, g4⟩ := hI.rs
      have hsv := hI.sv
      have h5 : L 5 = false := by cases hb : L 5 with | false => rfl | true => have := g2.c5 hb; rw [hi] at this; cases this
      have h7 : L 7 = false := by cases hb : L 7 with | false => rfl | true => have := g2.c7 hb; rw [h5] at this; cases this
      have h11 : L 11 = false := by cases hb : L 11 with | false => rfl | true => have := g2.c11 hb; rw [h7] at this; cases this
      rw [hi] at g2
      refine rstep_val rfl (.slice (some ⟨w1.heap.size, 0, none⟩) 0 0) (w1.alloc (.cells #[] 21)) (by go_simp) ?_
      have hq := act_eq a (d := 5) (.slice (some ⟨w1.heap.size, 0, none⟩) 0 0) (by rw [hI.sz]; decide)
      refine hI.maker 2 5 (.slice (some ⟨w1.heap.size, 0, none⟩) 0 0) (by decide) (by decide) r g1 none nofun (World.grownBy_alloc w1 _ none) (setR r 0 ⟨21, (.slice (some ⟨w1.heap.size, 0, none⟩) 0 0), 0, []⟩) (g1.alloc 0 _ ⟨21, (.slice (some ⟨w1.heap.size, 0, none⟩) 0 0), 0, []⟩ (g2.f0 rfl) (owns_made w1 _ _ #[] 0 [] hsv rfl rfl (by decide)) rfl) ?_ ?_ ?_
      · simp only [hq, act_ne a (.slice (some ⟨w1.heap.size, 0, none⟩) 0 0) (by decide : (5 : Nat) ≠ 8), act_ne a (.slice (some ⟨w1.heap.size, 0, none⟩) 0 0) (by decide : (5 : Nat) ≠ 9), act_ne a (.slice (some ⟨w1.heap.size, 0, none⟩) 0 0) (by decide : (5 : Nat) ≠ 10), act_ne a (.slice (some ⟨w1.heap.size, 0, none⟩) 0 0) (by decide : (5 : Nat) ≠ 14), act_ne a (.slice (some ⟨w1.heap.size, 0, none⟩) 0 0) (by decide : (5 : Nat) ≠ 15), act_ne a (.slice (some ⟨w1.heap.size, 0, none⟩) 0 0) (by decide : (5 : Nat) ≠ 18), act_ne a (.slice (some ⟨w1.heap.size, 0, none⟩) 0 0) (by decide : (5 : Nat) ≠ 19), act_ne a (.slice (some ⟨w1.heap.size, 0, none⟩) 0 0) (by decide : (5 : Nat) ≠ 20), act_ne a (.slice (some ⟨w1.heap.size, 0, none⟩) 0 0) (by decide : (5 : Nat) ≠ 24), act_ne a (.slice (some ⟨w1.heap.size, 0, none⟩) 0 0) (by decide : (5 : Nat) ≠ 25)]
        exact g2.at2 _ _
      · simp only [hq, act_ne a (.slice (some ⟨w1.heap.size, 0, none⟩) 0 0) (by decide : (5 : Nat) ≠ 8), act_ne a (.slice (some ⟨w1.heap.size, 0, none⟩) 0 0) (by decide : (5 : Nat) ≠ 9), act_ne a (.slice (some ⟨w1.heap.size, 0, none⟩) 0 0) (by decide : (5 : Nat) ≠ 10), act_ne a (.slice (some ⟨w1.heap.size, 0, none⟩) 0 0) (by decide : (5 : Nat) ≠ 14), act_ne a (.slice (some ⟨w1.heap.size, 0, none⟩) 0 0) (by decide : (5 : Nat) ≠ 15), act_ne a (.slice (some ⟨w1.heap.size, 0, none⟩) 0 0) (by decide : (5 : Nat) ≠ 18), act_ne a (.slice (some ⟨w1.heap.size, 0, none⟩) 0 0) (by decide : (5 : Nat) ≠ 19), act_ne a (.slice (some ⟨w1.heap.size, 0, none⟩) 0 0) (by decide : (5 : Nat) ≠ 20), act_ne a (.slice (some ⟨w1.heap.size, 0, none⟩) 0 0) (by decide : (5 : Nat) ≠ 24), act_ne a (.slice (some ⟨w1.heap.size, 0, none⟩) 0 0) (by decide : (5 : Nat) ≠ 25)]
        exact g3
      · simp only [hq, act_ne a (.slice (some ⟨w1.heap.size, 0, none⟩) 0 0) (by decide : (5 : Nat) ≠ 8), act_ne a (.slice (some ⟨w1.heap.size, 0, none⟩) 0 0) (by decide : (5 : Nat) ≠ 9), act_ne a (.slice (some ⟨w1.heap.size, 0, none⟩) 0 0) (by decide : (5 : Nat) ≠ 10), act_ne a (.slice (some ⟨w1.heap.size, 0, none⟩) 0 0) (by decide : (5 : Nat) ≠ 14), act_ne a (.slice (some ⟨w1.heap.size, 0, none⟩) 0 0) (by decide : (5 : Nat) ≠ 15), act_ne a (.slice (some ⟨w1.heap.size, 0, none⟩) 0 0) (by decide : (5 : Nat) ≠ 18), act_ne a (.slice (some ⟨w1.heap.size, 0, none⟩) 0 0) (by decide : (5 : Nat) ≠ 19), act_ne a (.slice (some ⟨w1.heap.size, 0, none⟩) 0 0) (by decide : (5 : Nat) ≠ 20), act_ne a (.slice (some ⟨w1.heap.size, 0, none⟩) 0 0) (by decide : (5 : Nat) ≠ 24), act_ne a (.slice (some ⟨w1.heap.size, 0, none⟩) 0 0) (by decide : (5 : Nat) ≠ 25)]
        exact g4.early (.inl h11) (fun hz => hz.alloc _) _ _ _ _ _
    · intro L a w1 hI hi hd
      have t1 := hI.t1
      exact rstep_val rfl (.pointer (some ⟨w.heap.size, 1, none⟩)) w1 (by go_simp) (hI.pure 3 6 (.pointer (some ⟨w.heap.size, 1, none⟩)) (by simp [cpPures]) (by simp [cpPures]) (by decide) (by decide) (by decide))
    · intro L a w1 hI hi hd
      have x1 := hI.bx.cell 1
      simp only [List.getElem?_toArray, List.getElem?_cons_zero, List.getElem?_cons_succ] at x1
      simp [Region.binds] at hd
      have e := hI.pu (3, 6, (.pointer (some ⟨w.heap.size, 1, none⟩))) (by simp [cpPures]) hd
      simp only at e
      exact rstep_val rfl (.slice A n c) w1 (by go_simp) (hI.pure 4 7 (.slice A n c) (by simp [cpPures]) (by simp [cpPures]) (by decide) (by decide) (by decide))
    · intro L a w1 hI hi hd
      have hi : L 5 = false := hi
      obtain ⟨r, g1, g2, g3, g4⟩ := hI.rs
      have hsv := hI.sv
      simp [Region.binds] at hd
      have h7 : L 7 = false := by cases hb : L 7 with | false => rfl | true => have := g2.c7 hb; rw [hi] at this; cases this
      have h11 : L 11 = false := by cases hb : L 11 with | false => rfl | true => have := g2.c11 hb; rw [h7] at this; cases this
      obtain ⟨A5, c5, e5, q5⟩ := g2.f5 hd.1 hi
      have ho := g1.each 0
      rw [q5] at ho
      have e7 := hI.pu (4, 7, .slice A n c) (by simp [cpPures]) hd.2
      simp only at e7
      obtain ⟨i0, hi0, hz0, hz1, hz2⟩ := info_parts info_i32
      refine rstep_wp rfl (wp_append_row w1 (.tmp 5) (.tmp 7) _ rfl (w.heap.size + 2) 21 i0 _ 1 4 Try.underlying28 hi0 hz0 hz1 hz2 rfl (by omega) (.slice A5 0 c5) 0 [] e5 ho A n c (i32s vec) e7 (by unfold i32s; rw [List.length_map]; omega) (hr.below hI.bel) (by intro u hu; unfold i32s at hu; obtain ⟨v, _, rfl⟩ := List.mem_map.1 hu; rfl) (by unfold maxLen; omega) (by omega) hsv fun A' c' w2 h1 h2 h3 => ?_)
      simp only [Nat.zero_add, List.nil_append] at h1 h3 ⊢
      have hlt := ho.lt
      rw [hd.1, hi] at g2
      have hq := act_eq a (d := 8) (.slice A' n c') (by rw [hI.sz]; decide)
      refine hI.maker 5 8 (.slice A' n c') (by decide) (by decide) r g1 (Value.slice A5 0 c5).ownBlock (fun k hk => (hlt k hk).1) h2 (setR r 0 ⟨21, (.slice A' n c'), n, (i32s vec)⟩) (g1.step 0 ⟨21, (.slice A' n c'), n, (i32s vec)⟩ (by rw [q5]; exact h2) h1 (by rw [q5]; exact h3)) ?_ ?_ ?_
      · simp only [hq, act_ne a (.slice A' n c') (by decide : (8 : Nat) ≠ 5), act_ne a (.slice A' n c') (by decide : (8 : Nat) ≠ 9), act_ne a (.slice A' n c') (by decide : (8 : Nat) ≠ 10), act_ne a (.slice A' n c') (by decide : (8 : Nat) ≠ 14), act_ne a (.slice A' n c') (by decide : (8 : Nat) ≠ 15), act_ne a (.slice A' n c') (by decide : (8 : Nat) ≠ 18), act_ne a (.slice A' n c') (by decide : (8 : Nat) ≠ 19), act_ne a (.slice A' n c') (by decide : (8 : Nat) ≠ 20), act_ne a (.slice A' n c') (by decide : (8 : Nat) ≠ 24), act_ne a (.slice A' n c') (by decide : (8 : Nat) ≠ 25)]
        rw [show upd L 5 2 = true from hd.1]
        exact g2.at5 _ _
      · simp only [hq, act_ne a (.slice A' n c') (by decide : (8 : Nat) ≠ 5), act_ne a (.slice A' n c') (by decide : (8 : Nat) ≠ 9), act_ne a (.slice A' n c') (by decide : (8 : Nat) ≠ 10), act_ne a (.slice A' n c') (by decide : (8 : Nat) ≠ 14), act_ne a (.slice A' n c') (by decide : (8 : Nat) ≠ 15), act_ne a (.slice A' n c') (by decide : (8 : Nat) ≠ 18), act_ne a (.slice A' n c') (by decide : (8 : Nat) ≠ 19), act_ne a (.slice A' n c') (by decide : (8 : Nat) ≠ 20), act_ne a (.slice A' n c') (by decide : (8 : Nat) ≠ 24), act_ne a (.slice A' n c') (by decide : (8 : Nat) ≠ 25)]
        exact g3
      · simp only [hq, act_ne a (.slice A' n c') (by decide : (8 : Nat) ≠ 5), act_ne a (.slice A' n c') (by decide : (8 : Nat) ≠ 9), act_ne a (.slice A' n c') (by decide : (8 : Nat) ≠ 10), act_ne a (.slice A' n c') (by decide : (8 : Nat) ≠ 14), act_ne a (.slice A' n c') (by decide : (8 : Nat) ≠ 15), act_ne a (.slice A' n c') (by decide : (8 : Nat) ≠ 18), act_ne a (.slice A' n c') (by decide : (8 : Nat) ≠ 19), act_ne a (.slice A' n c') (by decide : (8 : Nat) ≠ 20), act_ne a (.slice A' n c') (by decide : (8 : Nat) ≠ 24), act_ne a (.slice A' n c') (by decide : (8 : Nat) ≠ 25)]
        exact g4.early (.inl h11) (fun hz => hz.grown h2 (fun q => by have := (hlt _ q.symm).1; omega)) _ _ _ _ _
    · intro L a w1 hI hi hd
      have hi : L 6 = false := hi
      obtain ⟨r, g1, g2, g3, g4⟩ := hI.rs
      have hsv := hI.sv
      have h7 : L 7 = false := by cases hb : L 7 with | false => rfl | true => have := g2.c6 hb; rw [hi] at this; cases this
      have h11 : L 11 = false := by cases hb : L 11 with | false => rfl | true => have := g2.c11 hb; rw [h7] at this; cases this
      rw [hi] at g2
      refine rstep_val rfl (.slice (some ⟨w1.heap.size, 0, none⟩) 1 1) (w1.alloc (.cells #[(.int .i32 77)] 21)) (by go_simp) ?_
      have hq := act_eq a (d := 9) (.slice (some ⟨w1.heap.size, 0, none⟩) 1 1) (by rw [hI.sz]; decide)
      refine hI.maker 6 9 (.slice (some ⟨w1.heap.size, 0, none⟩) 1 1) (by decide) (by decide) r g1 none nofun (World.grownBy_alloc w1 _ none) (setR r 1 ⟨21, (.slice (some ⟨w1.heap.size, 0, none⟩) 1 1), 1, [(.int .i32 77)]⟩) (g1.alloc 1 _ ⟨21, (.slice (some ⟨w1.heap.size, 0, none⟩) 1 1), 1, [(.int .i32 77)]⟩ (g2.f1 rfl) (owns_made w1 _ _ #[(.int .i32 77)] 1 [(.int .i32 77)] hsv rfl rfl (by decide)) rfl) ?_ ?_ ?_
      · simp only [hq, act_ne a (.slice (some ⟨w1.heap.size, 0, none⟩) 1 1) (by decide : (9 : Nat) ≠ 5), act_ne a (.slice (some ⟨w1.heap.size, 0, none⟩) 1 1) (by decide : (9 : Nat) ≠ 8), act_ne a (.slice (some ⟨w1.heap.size, 0, none⟩) 1 1) (by decide : (9 : Nat) ≠ 10), act_ne a (.slice (some ⟨w1.heap.size, 0, none⟩) 1 1) (by decide : (9 : Nat) ≠ 14), act_ne a (.slice (some ⟨w1.heap.size, 0, none⟩) 1 1) (by decide : (9 : Nat) ≠ 15), act_ne a (.slice (some ⟨w1.heap.size, 0, none⟩) 1 1) (by decide : (9 : Nat) ≠ 18), act_ne a (.slice (some ⟨w1.heap.size, 0, none⟩) 1 1) (by decide : (9 : Nat) ≠ 19), act_ne a (.slice (some ⟨w1.heap.size, 0, none⟩) 1 1) (by decide : (9 : Nat) ≠ 20), act_ne a (.slice (some ⟨w1.heap.size, 0, none⟩) 1 1) (by decide : (9 : Nat) ≠ 24), act_ne a (.slice (some ⟨w1.heap.size, 0, none⟩) 1 1) (by decide : (9 : Nat) ≠ 25)]
        exact g2.at6 _ _
      · simp only [hq, act_ne a (.slice (some ⟨w1.heap.size, 0, none⟩) 1 1) (by decide : (9 : Nat) ≠ 5), act_ne a (.slice (some ⟨w1.heap.size, 0, none⟩) 1 1) (by decide : (9 : Nat) ≠ 8), act_ne a (.slice (some ⟨w1.heap.size, 0, none⟩) 1 1) (by decide : (9 : Nat) ≠ 10), act_ne a (.slice (some ⟨w1.heap.size, 0, none⟩) 1 1) (by decide : (9 : Nat) ≠ 14), act_ne a (.slice (some ⟨w1.heap.size, 0, none⟩) 1 1) (by decide : (9 : Nat) ≠ 15), act_ne a (.slice (some ⟨w1.heap.size, 0, none⟩) 1 1) (by decide : (9 : Nat) ≠ 18), act_ne a (.slice (some ⟨w1.heap.size, 0, none⟩) 1 1) (by decide : (9 : Nat) ≠ 19), act_ne a (.slice (some ⟨w1.heap.size, 0, none⟩) 1 1) (by decide : (9 : Nat) ≠ 20), act_ne a (.slice (some ⟨w1.heap.size, 0, none⟩) 1 1) (by decide : (9 : Nat) ≠ 24), act_ne a (.slice (some ⟨w1.heap.size, 0, none⟩) 1 1) (by decide : (9 : Nat) ≠ 25)]
        exact g3
      · simp only [hq, act_ne a (.slice (some ⟨w1.heap.size, 0, none⟩) 1 1) (by decide : (9 : Nat) ≠ 5), act_ne a (.slice (some ⟨w1.heap.size, 0, none⟩) 1 1) (by decide : (9 : Nat) ≠ 8), act_ne a (.slice (some ⟨w1.heap.size, 0, none⟩) 1 1) (by decide : (9 : Nat) ≠ 10), act_ne a (.slice (some ⟨w1.heap.size, 0, none⟩) 1 1) (by decide : (9 : Nat) ≠ 14), act_ne a (.slice (some ⟨w1.heap.size, 0, none⟩) 1 1) (by decide : (9 : Nat) ≠ 15), act_ne a (.slice (some ⟨w1.heap.size, 0, none⟩) 1 1) (by decide : (9 : Nat) ≠ 18), act_ne a (.slice (some ⟨w1.heap.size, 0, none⟩) 1 1) (by decide : (9 : Nat) ≠ 19), act_ne a (.slice (some ⟨w1.heap.size, 0, none⟩) 1 1) (by decide : (9 : Nat) ≠ 20), act_ne a (.slice (some ⟨w1.heap.size, 0, none⟩) 1 1) (by decide : (9 : Nat) ≠ 24), act_ne a (.slice (some ⟨w1.heap.size, 0, none⟩) 1 1) (by decide : (9 : Nat) ≠ 25)]
        exact g4.early (.inl h11) (fun hz => hz.alloc _) _ _ _ _ _
    · intro L a w1 hI hi hd
      have hi : L 7 = false := hi
      obtain ⟨r, g1, g2, g3, g4⟩ := hI.rs
      have hsv := hI.sv
      simp [Region.binds] at hd
      have h11 : L 11 = false := by cases hb : L 11 with | false => rfl | true => have := g2.c11 hb; rw [hi] at this; cases this
      obtain ⟨A8, c8, e8, q8⟩ := g2.f8 hd.1 hi
      obtain ⟨A9, c9, e9, q9⟩ := g2.f9 hd.2.1
      have ho := g1.each 0
      rw [q8] at ho
      have ho9 := g1.each 1
      rw [q9] at ho9
      obtain ⟨i0, hi0, hz0, hz1, hz2⟩ := info_parts info_i32
      refine rstep_wp rfl (wp_append_row w1 (.tmp 8) (.tmp 9) _ rfl (w.heap.size + 2) 21 i0 _ 1 4 Try.underlying28 hi0 hz0 hz1 hz2 rfl (by omega) (.slice A8 n c8) n (i32s vec) e8 ho A9 1 c9 [(.int .i32 77)] e9 rfl (Row.of_own ho9) (by intro u hu; rw [List.mem_singleton] at hu; subst hu; rfl) (by unfold maxLen; omega) (by omega) hsv fun A' c' w2 h1 h2 h3 => ?_)
      have hlt := ho.lt
      have e2 : L 2 = true := g2.c5 hd.1
      rw [e2, hd.1, hd.2.1, hi] at g2
      have hq := act_eq a (d := 10) (.slice A' (n + 1) c') (by rw [hI.sz]; decide)
      refine hI.maker 7 10 (.slice A' (n + 1) c') (by decide) (by decide) r g1 (Value.slice A8 n c8).ownBlock (fun k hk => (hlt k hk).1) h2 (setR r 0 ⟨21, (.slice A' (n + 1) c'), n + 1, (i32s vec) ++ [(.int .i32 77)]⟩) (g1.step 0 ⟨21, (.slice A' (n + 1) c'), n + 1, (i32s vec) ++ [(.int .i32 77)]⟩ (by rw [q8]; exact h2) h1 (by rw [q8]; exact h3)) ?_ ?_ ?_
      · simp only [hq, act_ne a (.slice A' (n + 1) c') (by decide : (10 : Nat) ≠ 5), act_ne a (.slice A' (n + 1) c') (by decide : (10 : Nat) ≠ 8), act_ne a (.slice A' (n + 1) c') (by decide : (10 : Nat) ≠ 9), act_ne a (.slice A' (n + 1) c') (by decide : (10 : Nat) ≠ 14), act_ne a (.slice A' (n + 1) c') (by decide : (10 : Nat) ≠ 15), act_ne a (.slice A' (n + 1) c') (by decide : (10 : Nat) ≠ 18), act_ne a (.slice A' (n + 1) c') (by decide : (10 : Nat) ≠ 19), act_ne a (.slice A' (n + 1) c') (by decide : (10 : Nat) ≠ 20), act_ne a (.slice A' (n + 1) c') (by decide : (10 : Nat) ≠ 24), act_ne a (.slice A' (n + 1) c') (by decide : (10 : Nat) ≠ 25)]
        rw [show upd L 7 2 = true from e2]
        rw [show upd L 7 5 = true from hd.1]
        rw [show upd L 7 6 = true from hd.2.1]
        exact g2.at7 _ _
      · simp only [hq, act_ne a (.slice A' (n + 1) c') (by decide : (10 : Nat) ≠ 5), act_ne a (.slice A' (n + 1) c') (by decide : (10 : Nat) ≠ 8), act_ne a (.slice A' (n + 1) c') (by decide : (10 : Nat) ≠ 9), act_ne a (.slice A' (n + 1) c') (by decide : (10 : Nat) ≠ 14), act_ne a (.slice A' (n + 1) c') (by decide : (10 : Nat) ≠ 15), act_ne a (.slice A' (n + 1) c') (by decide : (10 : Nat) ≠ 18), act_ne a (.slice A' (n + 1) c') (by decide : (10 : Nat) ≠ 19), act_ne a (.slice A' (n + 1) c') (by decide : (10 : Nat) ≠ 20), act_ne a (.slice A' (n + 1) c') (by decide : (10 : Nat) ≠ 24), act_ne a (.slice A' (n + 1) c') (by decide : (10 : Nat) ≠ 25)]
        exact g3
      · simp only [hq, act_ne a (.slice A' (n + 1) c') (by decide : (10 : Nat) ≠ 5), act_ne a (.slice A' (n + 1) c') (by decide : (10 : Nat) ≠ 8), act_ne a (.slice A' (n + 1) c') (by decide : (10 : Nat) ≠ 9), act_ne a (.slice A' (n + 1) c') (by decide : (10 : Nat) ≠ 14), act_ne a (.slice A' (n + 1) c') (by decide : (10 : Nat) ≠ 15), act_ne a (.slice A' (n + 1) c') (by decide : (10 : Nat) ≠ 18), act_ne a (.slice A' (n + 1) c') (by decide : (10 : Nat) ≠ 19), act_ne a (.slice A' (n + 1) c') (by decide : (10 : Nat) ≠ 20), act_ne a (.slice A' (n + 1) c') (by decide : (10 : Nat) ≠ 24), act_ne a (.slice A' (n + 1) c') (by decide : (10 : Nat) ≠ 25)]
        exact g4.early (.inl h11) (fun hz => hz.grown h2 (fun q => by have := (hlt _ q.symm).1; omega)) _ _ _ _ _
    · intro L a w1 hI hi hd
      have t1 := hI.t1
      exact rstep_val rfl (.pointer (some ⟨w.heap.size, 1, none⟩)) w1 (by go_simp) (hI.pure 8 11 (.pointer (some ⟨w.heap.size, 1, none⟩)) (by simp [cpPures]) (by simp [cpPures]) (by decide) (by decide) (by decide))
    · intro L a w1 hI hi hd
      have x1 := hI.bx.cell 1
      simp only [List.getElem?_toArray, List.getElem?_cons_zero, List.getElem?_cons_succ] at x1
      simp [Region.binds] at hd
      have e := hI.pu (8, 11, (.pointer (some ⟨w.heap.size, 1, none⟩))) (by simp [cpPures]) hd
      simp only at e
      exact rstep_val rfl (.slice A n c) w1 (by go_simp) (hI.pure 9 12 (.slice A n c) (by simp [cpPures]) (by simp [cpPures]) (by decide) (by decide) (by decide))
    · intro L a w1 hI hi hd
      simp [Region.binds] at hd
      have e := hI.pu (9, 12, (.slice A n c)) (by simp [cpPures]) hd
      simp only at e
      exact rstep_val rfl (.int .i64 (n : Int)) w1 (by go_simp) (hI.pure 10 13 (.int .i64 (n : Int)) (by simp [cpPures]) (by simp [cpPures]) (by decide) (by decide) (by decide))
    · intro L a w1 hI hi hd
      have hi : L 11 = false := hi
      obtain ⟨r, g1, g2, g3, g4⟩ := hI.rs
      have hsv := hI.sv
      simp [Region.binds] at hd
      obtain ⟨A10, c10, e10, q10, _⟩ := g2.f10 hd.1
      have ho := g1.each 0
      rw [q10] at ho
      have e13 := hI.pu (10, 13, .int .i64 (n : Int)) (by simp [cpPures]) hd.2
      simp only at e13
      obtain ⟨ga, rfl⟩ : ∃ ga, A10 = some ⟨ga, 0, none⟩ := by
        rcases ho.2 with ⟨hv, _⟩ | ⟨ga, cap, cur, hv, _⟩
        · injection hv with _ q; omega
        · injection hv with q; exact ⟨ga, q⟩
      have hcap : n + 1 ≤ c10 ∧ c10 ≤ maxLen := by
        rcases ho.2 with ⟨hv, _⟩ | ⟨ga, cap, cur, hv, _, _, q1, q2, _⟩
        · cases hv
        · injection hv with _ _ q; omega
      have hcap2 := hcap.2
      have hcap1 : n ≤ c10 := by omega
      unfold maxLen at hcap2
      refine rstep_val rfl (.slice (some ⟨ga, 0, none⟩) n c10) w1 (by go_simp) ?_
      rw [hd.1, hi] at g2
      have hq := act_eq a (d := 14) (.slice (some ⟨ga, 0, none⟩) n c10) (by rw [hI.sz]; decide)
      refine hI.maker 11 14 (.slice (some ⟨ga, 0, none⟩) n c10) (by decide) (by decide) r g1 none nofun grown_same (setR r 0 (r 0)) ((setR_same r 0).symm ▸ g1) ?_ ?_ ?_
      · simp only [hq, act_ne a (.slice (some ⟨ga, 0, none⟩) n c10) (by decide : (14 : Nat) ≠ 5), act_ne a (.slice (some ⟨ga, 0, none⟩) n c10) (by decide : (14 : Nat) ≠ 8), act_ne a (.slice (some ⟨ga, 0, none⟩) n c10) (by decide : (14 : Nat) ≠ 9), act_ne a (.slice (some ⟨ga, 0, none⟩) n c10) (by decide : (14 : Nat) ≠ 10), act_ne a (.slice (some ⟨ga, 0, none⟩) n c10) (by decide : (14 : Nat) ≠ 15), act_ne a (.slice (some ⟨ga, 0, none⟩) n c10) (by decide : (14 : Nat) ≠ 18), act_ne a (.slice (some ⟨ga, 0, none⟩) n c10) (by decide : (14 : Nat) ≠ 19), act_ne a (.slice (some ⟨ga, 0, none⟩) n c10) (by decide : (14 : Nat) ≠ 20), act_ne a (.slice (some ⟨ga, 0, none⟩) n c10) (by decide : (14 : Nat) ≠ 24), act_ne a (.slice (some ⟨ga, 0, none⟩) n c10) (by decide : (14 : Nat) ≠ 25)]
        rw [show upd L 11 7 = true from hd.1]
        exact g2.at11 _ _ e10
      · simp only [hq, act_ne a (.slice (some ⟨ga, 0, none⟩) n c10) (by decide : (14 : Nat) ≠ 5), act_ne a (.slice (some ⟨ga, 0, none⟩) n c10) (by decide : (14 : Nat) ≠ 8), act_ne a (.slice (some ⟨ga, 0, none⟩) n c10) (by decide : (14 : Nat) ≠ 9), act_ne a (.slice (some ⟨ga, 0, none⟩) n c10) (by decide : (14 : Nat) ≠ 10), act_ne a (.slice (some ⟨ga, 0, none⟩) n c10) (by decide : (14 : Nat) ≠ 15), act_ne a (.slice (some ⟨ga, 0, none⟩) n c10) (by decide : (14 : Nat) ≠ 18), act_ne a (.slice (some ⟨ga, 0, none⟩) n c10) (by decide : (14 : Nat) ≠ 19), act_ne a (.slice (some ⟨ga, 0, none⟩) n c10) (by decide : (14 : Nat) ≠ 20), act_ne a (.slice (some ⟨ga, 0, none⟩) n c10) (by decide : (14 : Nat) ≠ 24), act_ne a (.slice (some ⟨ga, 0, none⟩) n c10) (by decide : (14 : Nat) ≠ 25)]
        exact g3
      · simp only [hq, act_ne a (.slice (some ⟨ga, 0, none⟩) n c10) (by decide : (14 : Nat) ≠ 5), act_ne a (.slice (some ⟨ga, 0, none⟩) n c10) (by decide : (14 : Nat) ≠ 8), act_ne a (.slice (some ⟨ga, 0, none⟩) n c10) (by decide : (14 : Nat) ≠ 9), act_ne a (.slice (some ⟨ga, 0, none⟩) n c10) (by decide : (14 : Nat) ≠ 10), act_ne a (.slice (some ⟨ga, 0, none⟩) n c10) (by decide : (14 : Nat) ≠ 15), act_ne a (.slice (some ⟨ga, 0, none⟩) n c10) (by decide : (14 : Nat) ≠ 18), act_ne a (.slice (some ⟨ga, 0, none⟩) n c10) (by decide : (14 : Nat) ≠ 19), act_ne a (.slice (some ⟨ga, 0, none⟩) n c10) (by decide : (14 : Nat) ≠ 20), act_ne a (.slice (some ⟨ga, 0, none⟩) n c10) (by decide : (14 : Nat) ≠ 24), act_ne a (.slice (some ⟨ga, 0, none⟩) n c10) (by decide : (14 : Nat) ≠ 25)]
        exact g4.early (.inl hi) id _ _ _ _ _
    · intro L a w1 hI hi hd
      have hi : L 12 = false := hi
      obtain ⟨r, g1, g2, g3, g4⟩ := hI.rs
      have hsv := hI.sv
      have h15 : L 15 = false := by cases hb : L 15 with | false => rfl | true => have := g3.c5 hb; rw [hi] at this; cases this
      have h17 : L 17 = false := by cases hb : L 17 with | false => rfl | true => have := g3.c7 hb; rw [h15] at this; cases this
      have h21 : L 21 = false := by cases hb : L 21 with | false => rfl | true => have := g3.c11 hb; rw [h17] at this; cases this
      rw [hi] at g3
      refine rstep_val rfl (.slice (some ⟨w1.heap.size, 0, none⟩) 0 0) (w1.alloc (.cells #[] 5)) (by go_simp) ?_
      have hq := act_eq a (d := 15) (.slice (some ⟨w1.heap.size, 0, none⟩) 0 0) (by rw [hI.sz]; decide)
      refine hI.maker 12 15 (.slice (some ⟨w1.heap.size, 0, none⟩) 0 0) (by decide) (by decide) r g1 none nofun (World.grownBy_alloc w1 _ none) (setR r 2 ⟨5, (.slice (some ⟨w1.heap.size, 0, none⟩) 0 0), 0, []⟩) (g1.alloc 2 _ ⟨5, (.slice (some ⟨w1.heap.size, 0, none⟩) 0 0), 0, []⟩ (g3.f0 rfl) (owns_made w1 _ _ #[] 0 [] hsv rfl rfl (by decide)) rfl) ?_ ?_ ?_
      · simp only [hq, act_ne a (.slice (some ⟨w1.heap.size, 0, none⟩) 0 0) (by decide : (15 : Nat) ≠ 5), act_ne a (.slice (some ⟨w1.heap.size, 0, none⟩) 0 0) (by decide : (15 : Nat) ≠ 8), act_ne a (.slice (some ⟨w1.heap.size, 0, none⟩) 0 0) (by decide : (15 : Nat) ≠ 9), act_ne a (.slice (some ⟨w1.heap.size, 0, none⟩) 0 0) (by decide : (15 : Nat) ≠ 10), act_ne a (.slice (some ⟨w1.heap.size, 0, none⟩) 0 0) (by decide : (15 : Nat) ≠ 14), act_ne a (.slice (some ⟨w1.heap.size, 0, none⟩) 0 0) (by decide : (15 : Nat) ≠ 18), act_ne a (.slice (some ⟨w1.heap.size, 0, none⟩) 0 0) (by decide : (15 : Nat) ≠ 19), act_ne a (.slice (some ⟨w1.heap.size, 0, none⟩) 0 0) (by decide : (15 : Nat) ≠ 20), act_ne a (.slice (some ⟨w1.heap.size, 0, none⟩) 0 0) (by decide : (15 : Nat) ≠ 24), act_ne a (.slice (some ⟨w1.heap.size, 0, none⟩) 0 0) (by decide : (15 : Nat) ≠ 25)]
        exact g2
      · simp only [hq, act_ne a (.slice (some ⟨w1.heap.size, 0, none⟩) 0 0) (by decide : (15 : Nat) ≠ 5), act_ne a (.slice (some ⟨w1.heap.size, 0, none⟩) 0 0) (by decide : (15 : Nat) ≠ 8), act_ne a (.slice (some ⟨w1.heap.size, 0, none⟩) 0 0) (by decide : (15 : Nat) ≠ 9), act_ne a (.slice (some ⟨w1.heap.size, 0, none⟩) 0 0) (by decide : (15 : Nat) ≠ 10), act_ne a (.slice (some ⟨w1.heap.size, 0, none⟩) 0 0) (by decide : (15 : Nat) ≠ 14), act_ne a (.slice (some ⟨w1.heap.size, 0, none⟩) 0 0) (by decide : (15 : Nat) ≠ 18), act_ne a (.slice (some ⟨w1.heap.size, 0, none⟩) 0 0) (by decide : (15 : Nat) ≠ 19), act_ne a (.slice (some ⟨w1.heap.size, 0, none⟩) 0 0) (by decide : (15 : Nat) ≠ 20), act_ne a (.slice (some ⟨w1.heap.size, 0, none⟩) 0 0) (by decide : (15 : Nat) ≠ 24), act_ne a (.slice (some ⟨w1.heap.size, 0, none⟩) 0 0) (by decide : (15 : Nat) ≠ 25)]
        exact g3.at2 _ _
      · simp only [hq, act_ne a (.slice (some ⟨w1.heap.size, 0, none⟩) 0 0) (by decide : (15 : Nat) ≠ 5), act_ne a (.slice (some ⟨w1.heap.size, 0, none⟩) 0 0) (by decide : (15 : Nat) ≠ 8), act_ne a (.slice (some ⟨w1.heap.size, 0, none⟩) 0 0) (by decide : (15 : Nat) ≠ 9), act_ne a (.slice (some ⟨w1.heap.size, 0, none⟩) 0 0) (by decide : (15 : Nat) ≠ 10), act_ne a (.slice (some ⟨w1.heap.size, 0, none⟩) 0 0) (by decide : (15 : Nat) ≠ 14), act_ne a (.slice (some ⟨w1.heap.size, 0, none⟩) 0 0) (by decide : (15 : Nat) ≠ 18), act_ne a (.slice (some ⟨w1.heap.size, 0, none⟩) 0 0) (by decide : (15 : Nat) ≠ 19), act_ne a (.slice (some ⟨w1.heap.size, 0, none⟩) 0 0) (by decide : (15 : Nat) ≠ 20), act_ne a (.slice (some ⟨w1.heap.size, 0, none⟩) 0 0) (by decide : (15 : Nat) ≠ 24), act_ne a (.slice (some ⟨w1.heap.size, 0, none⟩) 0 0) (by decide : (15 : Nat) ≠ 25)]
        exact g4.early (.inr h21) (fun hz => hz.alloc _) _ _ _ _ _
    · intro L a w1 hI hi hd
      have t1 := hI.t1
      exact rstep_val rfl (.pointer (some ⟨w.heap.size, 2, none⟩)) w1 (by go_simp) (hI.pure 13 16 (.pointer (some ⟨w.heap.size, 2, none⟩)) (by simp [cpPures]) (by simp [cpPures]) (by decide) (by decide) (by decide))
    · intro L a w1 hI hi hd
      have x2 := hI.bx.cell 2
      simp only [List.getElem?_toArray, List.getElem?_cons_zero, List.getElem?_cons_succ] at x2
      simp [Region.binds] at hd
      have e := hI.pu (13, 16, (.pointer (some ⟨w.heap.size, 2, none⟩))) (by simp [cpPures]) hd
      simp only at e
      exact rstep_val rfl (.slice A2 m c2) w1 (by go_simp) (hI.pure 14 17 (.slice A2 m c2) (by simp [cpPures]) (by simp [cpPures]) (by decide) (by decide) (by decide))
    · intro L a w1 hI hi hd
      have hi : L 15 = false := hi
      obtain ⟨r, g1, g2, g3, g4⟩ := hI.rs
      have hsv := hI.sv
      simp [Region.binds] at hd
      have h17 : L 17 = false := by cases hb : L 17 with | false => rfl | true => have := g3.c7 hb; rw [hi] at this; cases this
      have h21 : L 21 = false := by cases hb : L 21 with | false => rfl | true => have := g3.c11 hb; rw [h17] at this; cases this
      obtain ⟨A5, c5, e5, q5⟩ := g3.f5 hd.1 hi
      have ho := g1.each 2
      rw [q5] at ho
      have e7 := hI.pu (14, 17, .slice A2 m c2) (by simp [cpPures]) hd.2.1
      simp only at e7
      obtain ⟨i0, hi0, hz0, hz1, hz2⟩ := info_parts info_u8
      refine rstep_wp rfl (wp_append_row w1 (.tmp 15) (.tmp 17) _ rfl (w.heap.size + 2) 5 i0 _ 1 1 Try.underlying22 hi0 hz0 hz1 hz2 rfl (by omega) (.slice A5 0 c5) 0 [] e5 ho A2 m c2 (bs note) e7 (by rw [bs_length]; omega) (hr2.below hI.bel) (bs_one note) (by unfold maxLen; omega) (by omega) hsv fun A' c' w2 h1 h2 h3 => ?_)
      simp only [Nat.zero_add, List.nil_append] at h1 h3 ⊢
      have hlt := ho.lt
      rw [hd.1, hi] at g3
      have hq := act_eq a (d := 18) (.slice A' m c') (by rw [hI.sz]; decide)
      refine hI.maker 15 18 (.slice A' m c') (by decide) (by decide) r g1 (Value.slice A5 0 c5).ownBlock (fun k hk => (hlt k hk).1) h2 (setR r 2 ⟨5, (.slice A' m c'), m, (bs note)⟩) (g1.step 2 ⟨5, (.slice A' m c'), m, (bs note)⟩ (by rw [q5]; exact h2) h1 (by rw [q5]; exact h3)) ?_ ?_ ?_
      · simp only [hq, act_ne a (.slice A' m c') (by decide : (18 : Nat) ≠ 5), act_ne a (.slice A' m c') (by decide : (18 : Nat) ≠ 8), act_ne a (.slice A' m c') (by decide : (18 : Nat) ≠ 9), act_ne a (.slice A' m c') (by decide : (18 : Nat) ≠ 10), act_ne a (.slice A' m c') (by decide : (18 : Nat) ≠ 14), act_ne a (.slice A' m c') (by decide : (18 : Nat) ≠ 15), act_ne a (.slice A' m c') (by decide : (18 : Nat) ≠ 19), act_ne a (.slice A' m c') (by decide : (18 : Nat) ≠ 20), act_ne a (.slice A' m c') (by decide : (18 : Nat) ≠ 24), act_ne a (.slice A' m c') (by decide : (18 : Nat) ≠ 25)]
        exact g2
      · simp only [hq, act_ne a (.slice A' m c') (by decide : (18 : Nat) ≠ 5), act_ne a (.slice A' m c') (by decide : (18 : Nat) ≠ 8), act_ne a (.slice A' m c') (by decide : (18 : Nat) ≠ 9), act_ne a (.slice A' m c') (by decide : (18 : Nat) ≠ 10), act_ne a (.slice A' m c') (by decide : (18 : Nat) ≠ 14), act_ne a (.slice A' m c') (by decide : (18 : Nat) ≠ 15), act_ne a (.slice A' m c') (by decide : (18 : Nat) ≠ 19), act_ne a (.slice A' m c') (by decide : (18 : Nat) ≠ 20), act_ne a (.slice A' m c') (by decide : (18 : Nat) ≠ 24), act_ne a (.slice A' m c') (by decide : (18 : Nat) ≠ 25)]
        rw [show upd L 15 12 = true from hd.1]
        exact g3.at5 _ _
      · simp only [hq, act_ne a (.slice A' m c') (by decide : (18 : Nat) ≠ 5), act_ne a (.slice A' m c') (by decide : (18 : Nat) ≠ 8), act_ne a (.slice A' m c') (by decide : (18 : Nat) ≠ 9), act_ne a (.slice A' m c') (by decide : (18 : Nat) ≠ 10), act_ne a (.slice A' m c') (by decide : (18 : Nat) ≠ 14), act_ne a (.slice A' m c') (by decide : (18 : Nat) ≠ 15), act_ne a (.slice A' m c') (by decide : (18 : Nat) ≠ 19), act_ne a (.slice A' m c') (by decide : (18 : Nat) ≠ 20), act_ne a (.slice A' m c') (by decide : (18 : Nat) ≠ 24), act_ne a (.slice A' m c') (by decide : (18 : Nat) ≠ 25)]
        exact g4.early (.inr h21) (fun hz => hz.grown h2 (fun q => by have := (hlt _ q.symm).1; omega)) _ _ _ _ _
    · intro L a w1 hI hi hd
      have hi : L 16 = false := hi
      obtain ⟨r, g1, g2, g3, g4⟩ := hI.rs
      have hsv := hI.sv
      have h17 : L 17 = false := by cases hb : L 17 with | false => rfl | true => have := g3.c6 hb; rw [hi] at this; cases this
      have h21 : L 21 = false := by cases hb : L 21 with | false => rfl | true => have := g3.c11 hb; rw [h17] at this; cases this
      rw [hi] at g3
      refine rstep_val rfl (.slice (some ⟨w1.heap.size, 0, none⟩) 1 1) (w1.alloc (.cells #[(.int .u8 78)] 5)) (by go_simp) ?_
      have hq := act_eq a (d := 19) (.slice (some ⟨w1.heap.size, 0, none⟩) 1 1) (by rw [hI.sz]; decide)
      refine hI.maker 16 19 (.slice (some ⟨w1.heap.size, 0, none⟩) 1 1) (by decide) (by decide) r g1 none nofun (World.grownBy_alloc w1 _ none) (setR r 3 ⟨5, (.slice (some ⟨w1.heap.size, 0, none⟩) 1 1), 1, [(.int .u8 78)]⟩) (g1.alloc 3 _ ⟨5, (.slice (some ⟨w1.heap.size, 0, none⟩) 1 1), 1, [(.int .u8 78)]⟩ (g3.f1 rfl) (owns_made w1 _ _ #[(.int .u8 78)] 1 [(.int .u8 78)] hsv rfl rfl (by decide)) rfl) ?_ ?_ ?_
      · simp only [hq, act_ne a (.slice (some ⟨w1.heap.size, 0, none⟩) 1 1) (by decide : (19 : Nat) ≠ 5), act_ne a (.slice (some ⟨w1.heap.size, 0, none⟩) 1 1) (by decide : (19 : Nat) ≠ 8), act_ne a (.slice (some ⟨w1.heap.size, 0, none⟩) 1 1) (by decide : (19 : Nat) ≠ 9), act_ne a (.slice (some ⟨w1.heap.size, 0, none⟩) 1 1) (by decide : (19 : Nat) ≠ 10), act_ne a (.slice (some ⟨w1.heap.size, 0, none⟩) 1 1) (by decide : (19 : Nat) ≠ 14), act_ne a (.slice (some ⟨w1.heap.size, 0, none⟩) 1 1) (by decide : (19 : Nat) ≠ 15), act_ne a (.slice (some ⟨w1.heap.size, 0, none⟩) 1 1) (by decide : (19 : Nat) ≠ 18), act_ne a (.slice (some ⟨w1.heap.size, 0, none⟩) 1 1) (by decide : (19 : Nat) ≠ 20), act_ne a (.slice (some ⟨w1.heap.size, 0, none⟩) 1 1) (by decide : (19 : Nat) ≠ 24), act_ne a (.slice (some ⟨w1.heap.size, 0, none⟩) 1 1) (by decide : (19 : Nat) ≠ 25)]
        exact g2
      · simp only [hq, act_ne a (.slice (some ⟨w1.heap.size, 0, none⟩) 1 1) (by decide : (19 : Nat) ≠ 5), act_ne a (.slice (some ⟨w1.heap.size, 0, none⟩) 1 1) (by decide : (19 : Nat) ≠ 8), act_ne a (.slice (some ⟨w1.heap.size, 0, none⟩) 1 1) (by decide : (19 : Nat) ≠ 9), act_ne a (.slice (some ⟨w1.heap.size, 0, none⟩) 1 1) (by decide : (19 : Nat) ≠ 10), act_ne a (.slice (some ⟨w1.heap.size, 0, none⟩) 1 1) (by decide : (19 : Nat) ≠ 14), act_ne a (.slice (some ⟨w1.heap.size, 0, none⟩) 1 1) (by decide : (19 : Nat) ≠ 15), act_ne a (.slice (some ⟨w1.heap.size, 0, none⟩) 1 1) (by decide : (19 : Nat) ≠ 18), act_ne a (.slice (some ⟨w1.heap.size, 0, none⟩) 1 1) (by decide : (19 : Nat) ≠ 20), act_ne a (.slice (some ⟨w1.heap.size, 0, none⟩) 1 1) (by decide : (19 : Nat) ≠ 24), act_ne a (.slice (some ⟨w1.heap.size, 0, none⟩) 1 1) (by decide : (19 : Nat) ≠ 25)]
        exact g3.at6 _ _
      · simp only [hq, act_ne a (.slice (some ⟨w1.heap.size, 0, none⟩) 1 1) (by decide : (19 : Nat) ≠ 5), act_ne a (.slice (some ⟨w1.heap.size, 0, none⟩) 1 1) (by decide : (19 : Nat) ≠ 8), act_ne a (.slice (some ⟨w1.heap.size, 0, none⟩) 1 1) (by decide : (19 : Nat) ≠ 9), act_ne a (.slice (some ⟨w1.heap.size, 0, none⟩) 1 1) (by decide : (19 : Nat) ≠ 10), act_ne a (.slice (some ⟨w1.heap.size, 0, none⟩) 1 1) (by decide : (19 : Nat) ≠ 14), act_ne a (.slice (some ⟨w1.heap.size, 0, none⟩) 1 1) (by decide : (19 : Nat) ≠ 15), act_ne a (.slice (some ⟨w1.heap.size, 0, none⟩) 1 1) (by decide : (19 : Nat) ≠ 18), act_ne a (.slice (some ⟨w1.heap.size, 0, none⟩) 1 1) (by decide : (19 : Nat) ≠ 20), act_ne a (.slice (some ⟨w1.heap.size, 0, none⟩) 1 1) (by decide : (19 : Nat) ≠ 24), act_ne a (.slice (some ⟨w1.heap.size, 0, none⟩) 1 1) (by decide : (19 : Nat) ≠ 25)]
        exact g4.early (.inr h21) (fun hz => hz.alloc _) _ _ _ _ _
    · intro L a w1 hI hi hd
      have hi : L 17 = false := hi
      obtain ⟨r, g1, g2, g3, g4⟩ := hI.rs
      have hsv := hI.sv
      simp [Region.binds] at hd
      have h21 : L 21 = false := by cases hb : L 21 with | false => rfl | true => have := g3.c11 hb; rw [hi] at this; cases this
      obtain ⟨A8, c8, e8, q8⟩ := g3.f8 hd.1 hi
      obtain ⟨A9, c9, e9, q9⟩ := g3.f9 hd.2.1
      have ho := g1.each 2
      rw [q8] at ho
      have ho9 := g1.each 3
      rw [q9] at ho9
      obtain ⟨i0, hi0, hz0, hz1, hz2⟩ := info_parts info_u8
      refine rstep_wp rfl (wp_append_row w1 (.tmp 18) (.tmp 19) _ rfl (w.heap.size + 2) 5 i0 _ 1 1 Try.underlying22 hi0 hz0 hz1 hz2 rfl (by omega) (.slice A8 m c8) m (bs note) e8 ho A9 1 c9 [(.int .u8 78)] e9 rfl (Row.of_own ho9) (by intro u hu; rw [List.mem_singleton] at hu; subst hu; rfl) (by unfold maxLen; omega) (by omega) hsv fun A' c' w2 h1 h2 h3 => ?_)
      have hlt := ho.lt
      have e2 : L 12 = true := g3.c5 hd.1
      rw [e2, hd.1, hd.2.1, hi] at g3
      have hq := act_eq a (d := 20) (.slice A' (m + 1) c') (by rw [hI.sz]; decide)
      refine hI.maker 17 20 (.slice A' (m + 1) c') (by decide) (by decide) r g1 (Value.slice A8 m c8).ownBlock (fun k hk => (hlt k hk).1) h2 (setR r 2 ⟨5, (.slice A' (m + 1) c'), m + 1, (bs note) ++ [(.int .u8 78)]⟩) (g1.step 2 ⟨5, (.slice A' (m + 1) c'), m + 1, (bs note) ++ [(.int .u8 78)]⟩ (by rw [q8]; exact h2) h1 (by rw [q8]; exact h3)) ?_ ?_ ?_
      · simp only [hq, act_ne a (.slice A' (m + 1) c') (by decide : (20 : Nat) ≠ 5), act_ne a (.slice A' (m + 1) c') (by decide : (20 : Nat) ≠ 8), act_ne a (.slice A' (m + 1) c') (by decide : (20 : Nat) ≠ 9), act_ne a (.slice A' (m + 1) c') (by decide : (20 : Nat) ≠ 10), act_ne a (.slice A' (m + 1) c') (by decide : (20 : Nat) ≠ 14), act_ne a (.slice A' (m + 1) c') (by decide : (20 : Nat) ≠ 15), act_ne a (.slice A' (m + 1) c') (by decide : (20 : Nat) ≠ 18), act_ne a (.slice A' (m + 1) c') (by decide : (20 : Nat) ≠ 19), act_ne a (.slice A' (m + 1) c') (by decide : (20 : Nat) ≠ 24), act_ne a (.slice A' (m + 1) c') (by decide : (20 : Nat) ≠ 25)]
        exact g2
      · simp only [hq, act_ne a (.slice A' (m + 1) c') (by decide : (20 : Nat) ≠ 5), act_ne a (.slice A' (m + 1) c') (by decide : (20 : Nat) ≠ 8), act_ne a (.slice A' (m + 1) c') (by decide : (20 : Nat) ≠ 9), act_ne a (.slice A' (m + 1) c') (by decide : (20 : Nat) ≠ 10), act_ne a (.slice A' (m + 1) c') (by decide : (20 : Nat) ≠ 14), act_ne a (.slice A' (m + 1) c') (by decide : (20 : Nat) ≠ 15), act_ne a (.slice A' (m + 1) c') (by decide : (20 : Nat) ≠ 18), act_ne a (.slice A' (m + 1) c') (by decide : (20 : Nat) ≠ 19), act_ne a (.slice A' (m + 1) c') (by decide : (20 : Nat) ≠ 24), act_ne a (.slice A' (m + 1) c') (by decide : (20 : Nat) ≠ 25)]
        rw [show upd L 17 12 = true from e2]
        rw [show upd L 17 15 = true from hd.1]
        rw [show upd L 17 16 = true from hd.2.1]
        exact g3.at7 _ _
      · simp only [hq, act_ne a (.slice A' (m + 1) c') (by decide : (20 : Nat) ≠ 5), act_ne a (.slice A' (m + 1) c') (by decide : (20 : Nat) ≠ 8), act_ne a (.slice A' (m + 1) c') (by decide : (20 : Nat) ≠ 9), act_ne a (.slice A' (m + 1) c') (by decide : (20 : Nat) ≠ 10), act_ne a (.slice A' (m + 1) c') (by decide : (20 : Nat) ≠ 14), act_ne a (.slice A' (m + 1) c') (by decide : (20 : Nat) ≠ 15), act_ne a (.slice A' (m + 1) c') (by decide : (20 : Nat) ≠ 18), act_ne a (.slice A' (m + 1) c') (by decide : (20 : Nat) ≠ 19), act_ne a (.slice A' (m + 1) c') (by decide : (20 : Nat) ≠ 24), act_ne a (.slice A' (m + 1) c') (by decide : (20 : Nat) ≠ 25)]
        exact g4.early (.inr h21) (fun hz => hz.grown h2 (fun q => by have := (hlt _ q.symm).1; omega)) _ _ _ _ _
    · intro L a w1 hI hi hd
      have t1 := hI.t1
      exact rstep_val rfl (.pointer (some ⟨w.heap.size, 2, none⟩)) w1 (by go_simp) (hI.pure 18 21 (.pointer (some ⟨w.heap.size, 2, none⟩)) (by simp [cpPures]) (by simp [cpPures]) (by decide) (by decide) (by decide))
    · intro L a w1 hI hi hd
      have x2 := hI.bx.cell 2
      simp only [List.getElem?_toArray, List.getElem?_cons_zero, List.getElem?_cons_succ] at x2
      simp [Region.binds] at hd
      have e := hI.pu (18, 21, (.pointer (some ⟨w.heap.size, 2, none⟩))) (by simp [cpPures]) hd
      simp only at e
      exact rstep_val rfl (.slice A2 m c2) w1 (by go_simp) (hI.pure 19 22 (.slice A2 m c2) (by simp [cpPures]) (by simp [cpPures]) (by decide) (by decide) (by decide))
    · intro L a w1 hI hi hd
      simp [Region.binds] at hd
      have e := hI.pu (19, 22, (.slice A2 m c2)) (by simp [cpPures]) hd
      simp only at e
      exact rstep_val rfl (.int .i64 (m : Int)) w1 (by go_simp) (hI.pure 20 23 (.int .i64 (m : Int)) (by simp [cpPures]) (by simp [cpPures]) (by decide) (by decide) (by decide))
    · intro L a w1 hI hi hd
      have hi : L 21 = false := hi
      obtain ⟨r, g1, g2, g3, g4⟩ := hI.rs
      have hsv := hI.sv
      simp [Region.binds] at hd
      obtain ⟨A10, c10, e10, q10, _⟩ := g3.f10 hd.1
      have ho := g1.each 2
      rw [q10] at ho
      have e13 := hI.pu (20, 23, .int .i64 (m : Int)) (by simp [cpPures]) hd.2
      simp only at e13
      obtain ⟨ga, rfl⟩ : ∃ ga, A10 = some ⟨ga, 0, none⟩ := by
        rcases ho.2 with ⟨hv, _⟩ | ⟨ga, cap, cur, hv, _⟩
        · injection hv with _ q; omega
        · injection hv with q; exact ⟨ga, q⟩
      have hcap : m + 1 ≤ c10 ∧ c10 ≤ maxLen := by
        rcases ho.2 with ⟨hv, _⟩ | ⟨ga, cap, cur, hv, _, _, q1, q2, _⟩
        · cases hv
        · injection hv with _ _ q; omega
      have hcap2 := hcap.2
      have hcap1 : m ≤ c10 := by omega
      unfold maxLen at hcap2
      refine rstep_val rfl (.slice (some ⟨ga, 0, none⟩) m c10) w1 (by go_simp) ?_
      rw [hd.1, hi] at g3
      have hq := act_eq a (d := 24) (.slice (some ⟨ga, 0, none⟩) m c10) (by rw [hI.sz]; decide)
      refine hI.maker 21 24 (.slice (some ⟨ga, 0, none⟩) m c10) (by decide) (by decide) r g1 none nofun grown_same (setR r 0 (r 0)) ((setR_same r 0).symm ▸ g1) ?_ ?_ ?_
      · simp only [hq, act_ne a (.slice (some ⟨ga, 0, none⟩) m c10) (by decide : (24 : Nat) ≠ 5), act_ne a (.slice (some ⟨ga, 0, none⟩) m c10) (by decide : (24 : Nat) ≠ 8), act_ne a (.slice (some ⟨ga, 0, none⟩) m c10) (by decide : (24 : Nat) ≠ 9), act_ne a (.slice (some ⟨ga, 0, none⟩) m c10) (by decide : (24 : Nat) ≠ 10), act_ne a (.slice (some ⟨ga, 0, none⟩) m c10) (by decide : (24 : Nat) ≠ 14), act_ne a (.slice (some ⟨ga, 0, none⟩) m c10) (by decide : (24 : Nat) ≠ 15), act_ne a (.slice (some ⟨ga, 0, none⟩) m c10) (by decide : (24 : Nat) ≠ 18), act_ne a (.slice (some ⟨ga, 0, none⟩) m c10) (by decide : (24 : Nat) ≠ 19), act_ne a (.slice (some ⟨ga, 0, none⟩) m c10) (by decide : (24 : Nat) ≠ 20), act_ne a (.slice (some ⟨ga, 0, none⟩) m c10) (by decide : (24 : Nat) ≠ 25)]
        exact g2
      · simp only [hq, act_ne a (.slice (some ⟨ga, 0, none⟩) m c10) (by decide : (24 : Nat) ≠ 5), act_ne a (.slice (some ⟨ga, 0, none⟩) m c10) (by decide : (24 : Nat) ≠ 8), act_ne a (.slice (some ⟨ga, 0, none⟩) m c10) (by decide : (24 : Nat) ≠ 9), act_ne a (.slice (some ⟨ga, 0, none⟩) m c10) (by decide : (24 : Nat) ≠ 10), act_ne a (.slice (some ⟨ga, 0, none⟩) m c10) (by decide : (24 : Nat) ≠ 14), act_ne a (.slice (some ⟨ga, 0, none⟩) m c10) (by decide : (24 : Nat) ≠ 15), act_ne a (.slice (some ⟨ga, 0, none⟩) m c10) (by decide : (24 : Nat) ≠ 18), act_ne a (.slice (some ⟨ga, 0, none⟩) m c10) (by decide : (24 : Nat) ≠ 19), act_ne a (.slice (some ⟨ga, 0, none⟩) m c10) (by decide : (24 : Nat) ≠ 20), act_ne a (.slice (some ⟨ga, 0, none⟩) m c10) (by decide : (24 : Nat) ≠ 25)]
        rw [show upd L 21 17 = true from hd.1]
        exact g3.at11 _ _ e10
      · simp only [hq, act_ne a (.slice (some ⟨ga, 0, none⟩) m c10) (by decide : (24 : Nat) ≠ 5), act_ne a (.slice (some ⟨ga, 0, none⟩) m c10) (by decide : (24 : Nat) ≠ 8), act_ne a (.slice (some ⟨ga, 0, none⟩) m c10) (by decide : (24 : Nat) ≠ 9), act_ne a (.slice (some ⟨ga, 0, none⟩) m c10) (by decide : (24 : Nat) ≠ 10), act_ne a (.slice (some ⟨ga, 0, none⟩) m c10) (by decide : (24 : Nat) ≠ 14), act_ne a (.slice (some ⟨ga, 0, none⟩) m c10) (by decide : (24 : Nat) ≠ 15), act_ne a (.slice (some ⟨ga, 0, none⟩) m c10) (by decide : (24 : Nat) ≠ 18), act_ne a (.slice (some ⟨ga, 0, none⟩) m c10) (by decide : (24 : Nat) ≠ 19), act_ne a (.slice (some ⟨ga, 0, none⟩) m c10) (by decide : (24 : Nat) ≠ 20), act_ne a (.slice (some ⟨ga, 0, none⟩) m c10) (by decide : (24 : Nat) ≠ 25)]
        exact g4.early (.inr hi) id _ _ _ _ _
    · intro L a w1 hI hi hd
      have hi : L 22 = false := hi
      obtain ⟨r, g1, g2, g3, g4⟩ := hI.rs
      simp [Region.binds] at hd
      have e4 := hI.pu (1, 4, .int .u64 k) (by simp [cpPures]) hd.1
      simp only at e4
      obtain ⟨Aa, ca, ea, qa, ha⟩ := g2.f10 (g2.c11 hd.2.1)
      obtain ⟨Ab, cb, eb, qb, hb⟩ := g3.f10 (g3.c11 hd.2.2)
      have e14 := ha hd.2.1
      have e24 := hb hd.2.2
      have h23 : L 23 = false := by cases hb : L 23 with | false => rfl | true => have := g4.e23 hb; rw [hi] at this; cases this
      have e4' : a.tmps[4]?.getD undef = .int .u64 k := by rw [← Array.getD_eq_getD_getElem?]; exact e4
      have e14' : a.tmps[14]?.getD undef = .slice Aa n ca := by rw [← Array.getD_eq_getD_getElem?]; exact e14
      have e24' : a.tmps[24]?.getD undef = .slice Ab m cb := by rw [← Array.getD_eq_getD_getElem?]; exact e24
      refine rstep_val rfl (.agg #[.int .u64 k, .slice Aa n ca, .slice Ab m cb]) w1 (by go_simp) ?_
      have hq := act_eq a (d := 25) (.agg #[.int .u64 k, .slice Aa n ca, .slice Ab m cb]) (by rw [hI.sz]; decide)
      refine hI.maker 22 25 _ (by decide) (by decide) r g1 none nofun grown_same r g1 ?_ ?_ ?_
      · simp only [hq, act_ne a (.agg #[.int .u64 k, .slice Aa n ca, .slice Ab m cb]) (by decide : (25 : Nat) ≠ 5), act_ne a (.agg #[.int .u64 k, .slice Aa n ca, .slice Ab m cb]) (by decide : (25 : Nat) ≠ 8), act_ne a (.agg #[.int .u64 k, .slice Aa n ca, .slice Ab m cb]) (by decide : (25 : Nat) ≠ 9), act_ne a (.agg #[.int .u64 k, .slice Aa n ca, .slice Ab m cb]) (by decide : (25 : Nat) ≠ 10), act_ne a (.agg #[.int .u64 k, .slice Aa n ca, .slice Ab m cb]) (by decide : (25 : Nat) ≠ 14), act_ne a (.agg #[.int .u64 k, .slice Aa n ca, .slice Ab m cb]) (by decide : (25 : Nat) ≠ 15), act_ne a (.agg #[.int .u64 k, .slice Aa n ca, .slice Ab m cb]) (by decide : (25 : Nat) ≠ 18), act_ne a (.agg #[.int .u64 k, .slice Aa n ca, .slice Ab m cb]) (by decide : (25 : Nat) ≠ 19), act_ne a (.agg #[.int .u64 k, .slice Aa n ca, .slice Ab m cb]) (by decide : (25 : Nat) ≠ 20), act_ne a (.agg #[.int .u64 k, .slice Aa n ca, .slice Ab m cb]) (by decide : (25 : Nat) ≠ 24)]
        exact g2
      · simp only [hq, act_ne a (.agg #[.int .u64 k, .slice Aa n ca, .slice Ab m cb]) (by decide : (25 : Nat) ≠ 5), act_ne a (.agg #[.int .u64 k, .slice Aa n ca, .slice Ab m cb]) (by decide : (25 : Nat) ≠ 8), act_ne a (.agg #[.int .u64 k, .slice Aa n ca, .slice Ab m cb]) (by decide : (25 : Nat) ≠ 9), act_ne a (.agg #[.int .u64 k, .slice Aa n ca, .slice Ab m cb]) (by decide : (25 : Nat) ≠ 10), act_ne a (.agg #[.int .u64 k, .slice Aa n ca, .slice Ab m cb]) (by decide : (25 : Nat) ≠ 14), act_ne a (.agg #[.int .u64 k, .slice Aa n ca, .slice Ab m cb]) (by decide : (25 : Nat) ≠ 15), act_ne a (.agg #[.int .u64 k, .slice Aa n ca, .slice Ab m cb]) (by decide : (25 : Nat) ≠ 18), act_ne a (.agg #[.int .u64 k, .slice Aa n ca, .slice Ab m cb]) (by decide : (25 : Nat) ≠ 19), act_ne a (.agg #[.int .u64 k, .slice Aa n ca, .slice Ab m cb]) (by decide : (25 : Nat) ≠ 20), act_ne a (.agg #[.int .u64 k, .slice Aa n ca, .slice Ab m cb]) (by decide : (25 : Nat) ≠ 24)]
        exact g3
      · simp only [hq, act_ne a (.agg #[.int .u64 k, .slice Aa n ca, .slice Ab m cb]) (by decide : (25 : Nat) ≠ 5), act_ne a (.agg #[.int .u64 k, .slice Aa n ca, .slice Ab m cb]) (by decide : (25 : Nat) ≠ 8), act_ne a (.agg #[.int .u64 k, .slice Aa n ca, .slice Ab m cb]) (by decide : (25 : Nat) ≠ 9), act_ne a (.agg #[.int .u64 k, .slice Aa n ca, .slice Ab m cb]) (by decide : (25 : Nat) ≠ 10), act_ne a (.agg #[.int .u64 k, .slice Aa n ca, .slice Ab m cb]) (by decide : (25 : Nat) ≠ 14), act_ne a (.agg #[.int .u64 k, .slice Aa n ca, .slice Ab m cb]) (by decide : (25 : Nat) ≠ 15), act_ne a (.agg #[.int .u64 k, .slice Aa n ca, .slice Ab m cb]) (by decide : (25 : Nat) ≠ 18), act_ne a (.agg #[.int .u64 k, .slice Aa n ca, .slice Ab m cb]) (by decide : (25 : Nat) ≠ 19), act_ne a (.agg #[.int .u64 k, .slice Aa n ca, .slice Ab m cb]) (by decide : (25 : Nat) ≠ 20), act_ne a (.agg #[.int .u64 k, .slice Aa n ca, .slice Ab m cb]) (by decide : (25 : Nat) ≠ 24)]
        refine ⟨fun _ => hd.2, fun _ => rfl, fun _ => g4.z0 h23, fun _ => ⟨Aa, ca, Ab, cb, qa, qb, fun _ => rfl, fun h => ?_⟩⟩
        have h : L 23 = true := h
        rw [h23] at h; cases h
    · intro L a w1 hI hi hd
      have hi : L 23 = false := hi
      obtain ⟨r, g1, g2, g3, g4⟩ := hI.rs
      simp [Region.binds] at hd
      have h22 : L 22 = true := hd.1
      obtain ⟨Aa, ca, Ab, cb, qa, qb, hv, _⟩ := g4.g22 h22
      have e25 := hv hi
      have t2 := hI.t2
      have hG := g4.z0 hi
      have z0 := hG.cell 0
      have z1 := hG.cell 1
      have z2 := hG.cell 2
      have k0 := hG.frozen 0
      have k1 := hG.frozen 1
      have k2 := hG.frozen 2
      simp only [List.getElem?_toArray, List.getElem?_cons_zero, List.getElem?_cons_succ] at z0 z1 z2
      refine rstep_skip rfl (((w1.setCell ⟨w.heap.size + 1, 0, none⟩ (.int .u64 k)).setCell ⟨w.heap.size + 1, 1, none⟩ (.slice Aa n ca)).setCell ⟨w.heap.size + 1, 2, none⟩ (.slice Ab m cb)) (by go_simp) ?_
      have gb : w1.grownBy (((w1.setCell ⟨w.heap.size + 1, 0, none⟩ (.int .u64 k)).setCell ⟨w.heap.size + 1, 1, none⟩ (.slice Aa n ca)).setCell ⟨w.heap.size + 1, 2, none⟩ (.slice Ab m cb)) (some (w.heap.size + 1)) :=
        (grownBy_setCell _ _ _ _).trans ((grownBy_setCell _ _ _ _).trans (grownBy_setCell _ _ _ _))
      have hG3 := ((hG.set_ 0 (.int .u64 k)).set_ 1 (.slice Aa n ca)).set_ 2 (.slice Ab m cb)
      generalize ((w1.setCell ⟨w.heap.size + 1, 0, none⟩ (.int .u64 k)).setCell ⟨w.heap.size + 1, 1, none⟩ (.slice Aa n ca)).setCell ⟨w.heap.size + 1, 2, none⟩ (.slice Ab m cb) = w2 at gb hG3
      have hu : ∀ j, j ≠ 23 → upd L 23 j = L j := fun j q => upd_ne L q
      refine ⟨hI.df, hI.sz, hI.t1, hI.t2, ?_, hI.bel.grown gb (by have := hI.sv; omega) (fun q hq => by injection hq with hq; omega), hI.bx.grown gb (fun q => by injection q with q; omega), Nat.le_trans hI.sv gb.size, r, g1.kept gb (by omega), g2, g3, ?_⟩
      · intro q hq hL
        have e1 : q.1 ≠ 23 := by
          intro e
          simp only [cpPures, List.mem_cons, List.not_mem_nil, or_false] at hq
          rcases hq with rfl | rfl | rfl | rfl | rfl | rfl | rfl | rfl | rfl | rfl | rfl | rfl <;> simp at e
        have hL : upd L 23 q.1 = true := hL
        rw [upd_ne L e1] at hL
        exact hI.pu q hq hL
      · refine ⟨fun _ => g4.e22 h22, fun _ => h22, nofun, fun _ => ⟨Aa, ca, Ab, cb, qa, qb, nofun, fun _ => hG3⟩⟩
end Go.Proofs.Ytaadfalklddhcaa
