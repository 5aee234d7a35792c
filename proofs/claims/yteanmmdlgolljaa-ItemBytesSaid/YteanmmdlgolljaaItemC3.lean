/-
  Whether a copy is as it was: yes, where both hold the same.
  Conditions: the lengths fit.
-/
import Derived.Test.YteanmmdlgolljaaItemC2
import Derived.Test.YteanmmdlgolljaaItemW4
namespace Go.Proofs.Yteanmmdlgolljaa
open Go.RowKit Go.Sort Go.Lib
set_option linter.unusedVariables false
set_option linter.unusedSimpArgs false
def kpPures (k : Nat) (ga n cA gb m cB : Nat) (B : Option Addr) (c : Nat) (B2 : Option Addr) (c2 B0 : Nat) : List (Nat × Nat × Value) :=
  [(0, 5, (.agg #[.int .u64 (k : Int), .slice (some ⟨ga, 0, none⟩) n cA, .slice (some ⟨gb, 0, none⟩) m cB])), (1, 6, (.agg #[.int .u64 (k : Int), .slice B n c, .slice B2 m c2])), (2, 7, (.bool true)), (3, 8, (.bool true)), (4, 9, (.pointer (some ⟨B0, 1, none⟩))), (5, 10, (.slice (some ⟨ga, 0, none⟩) n cA)), (6, 11, (.pointer (some ⟨B0 + 1, 1, none⟩))), (7, 12, (.slice B n c)), (8, 13, (.int .i64 (n : Int))), (9, 14, (.int .i64 ((n : Int) + 1))), (10, 15, (.slice (some ⟨ga, 0, none⟩) (n + 1) cA)), (11, 16, (.pointer (some ⟨B0 + 1, 1, none⟩))), (12, 17, (.slice B n c)), (13, 18, (.int .i64 (n : Int))), (14, 19, (.pointer (some ⟨ga, n, none⟩))), (15, 20, (.int .i32 77)), (16, 21, (.bool true)), (17, 22, (.bool true)), (18, 23, (.bool true)), (19, 24, (.pointer (some ⟨B0, 2, none⟩))), (20, 25, (.slice (some ⟨gb, 0, none⟩) m cB)), (21, 26, (.pointer (some ⟨B0 + 1, 2, none⟩))), (22, 27, (.slice B2 m c2)), (23, 28, (.int .i64 (m : Int))), (24, 29, (.int .i64 ((m : Int) + 1))), (25, 30, (.slice (some ⟨gb, 0, none⟩) (m + 1) cB)), (26, 31, (.pointer (some ⟨B0 + 1, 2, none⟩))), (27, 32, (.slice B2 m c2)), (28, 33, (.int .i64 (m : Int))), (29, 34, (.pointer (some ⟨gb, m, none⟩))), (30, 35, (.int .u8 78)), (31, 36, (.bool true)), (32, 37, (.bool true)), (33, 4, (.bool true))]
def kpfx (B0 : Nat) : List (Nat × Value) := [(2, .pointer (some ⟨B0, 0, none⟩)), (3, .pointer (some ⟨B0 + 1, 0, none⟩))]
structure KpW (k : Nat) (ga n cA gb m cB : Nat) (B : Option Addr) (c : Nat) (B2 : Option Addr) (c2 : Nat) (w0 : World) (w : World) : Prop where
  bel : Below w0.heap.size w0 w
  b0 : Blk w w0.heap.size 58 #[.int .u64 (k : Int), .slice (some ⟨ga, 0, none⟩) n cA, .slice (some ⟨gb, 0, none⟩) m cB]
  b1 : Blk w (w0.heap.size + 1) 58 #[.int .u64 (k : Int), .slice B n c, .slice B2 m c2]
  ca : w.cell? ⟨ga, n, none⟩ = some (.int .i32 77)
  cb : w.cell? ⟨gb, m, none⟩ = some (.int .u8 78)
theorem KpW.call {k ga n cA gb m cB : Nat} {B : Option Addr} {c : Nat} {B2 : Option Addr} {c2 : Nat} {w0 w w2 : World} (h : KpW k ga n cA gb m cB B c B2 c2 w0 w) (hb : Below w.heap.size w w2) : KpW k ga n cA gb m cB B c B2 c2 w0 w2 :=
  ⟨below_step h.bel hb (Nat.le_refl _), h.b0.below hb h.b0.lt, h.b1.below hb h.b1.lt, by rw [hb.cell (World.block_lt_of_cell? w _ h.ca)]; exact h.ca, by rw [hb.cell (World.block_lt_of_cell? w _ h.cb)]; exact h.cb⟩
set_option maxRecDepth 100000 in
set_option maxHeartbeats 4000000 in
theorem kept_any (k : Nat) (ga n cA gb m cB : Nat) (B : Option Addr) (c : Nat) (B2 : Option Addr) (c2 : Nat) (vec : List Int) (note : List UInt8) (w : World) (hn : vec.length = n) (hm : note.length = m)
    (hA : Row w (some ⟨ga, 0, none⟩) (i32s vec)) (hA2 : Row w (some ⟨gb, 0, none⟩) (bs note)) (hB : Row w B (i32s vec)) (hB2 : Row w B2 (bs note)) (hca : w.cell? ⟨ga, n, none⟩ = some (.int .i32 77)) (hcb : w.cell? ⟨gb, m, none⟩ = some (.int .u8 78))
    (h1 : n + 1 ≤ cA) (h2 : m + 1 ≤ cB) (h3 : cA ≤ 9223372036854775807) (h4 : cB ≤ 9223372036854775807) :
    Calls Try.prog 42 #[.agg #[.int .u64 (k : Int), .slice (some ⟨ga, 0, none⟩) n cA, .slice (some ⟨gb, 0, none⟩) m cB], .agg #[.int .u64 (k : Int), .slice B n c, .slice B2 m c2]] w fun e w' => e = .returned (.bool true) ∧ Below w.heap.size w w' := by
  go_enter Try.func42, Try.ntmps42
  go_wp2
  refine wp_region_inv _ (by kernel_rfl) (PI 38 (kpfx w.heap.size) (kpPures k ga n cA gb m cB B c B2 c2 w.heap.size) (fun _ => KpW k ga n cA gb m cB B c B2 c2 w)) (by kernel_rfl) ?_ ?_ ?_
  · have hb0 : Below w.heap.size w (w.alloc (.cells #[.int .u64 (k : Int), .slice (some ⟨ga, 0, none⟩) n cA, .slice (some ⟨gb, 0, none⟩) m cB] 58)) := (Below.refl _ _).alloc (Nat.le_refl _) _
    have hb1 := hb0.alloc (by simp) (.cells #[.int .u64 (k : Int), .slice B n c, .slice B2 m c2] 58)
    refine ⟨rfl, rfl, by simp [kpfx], nofun, ⟨hb1.os, hb1.tape, hb1.output, hb1.size, hb1.block⟩, (Blk.new w _ _).alloc _, ?_, ?_, ?_⟩
    · have := Blk.new (w.alloc (.cells #[.int .u64 (k : Int), .slice (some ⟨ga, 0, none⟩) n cA, .slice (some ⟨gb, 0, none⟩) m cB] 58)) 58 #[.int .u64 (k : Int), .slice B n c, .slice B2 m c2]
      rw [show (w.alloc (.cells #[.int .u64 (k : Int), .slice (some ⟨ga, 0, none⟩) n cA, .slice (some ⟨gb, 0, none⟩) m cB] 58)).heap.size = w.heap.size + 1 by simp] at this
      exact this
    · have := hb1.cell (World.block_lt_of_cell? w _ hca)
      exact this.trans hca
    · have := hb1.cell (World.block_lt_of_cell? w _ hcb)
      exact this.trans hcb
  · intro L a w' hI hL
    have e := hI.pu (33, 4, .bool true) (by simp [kpPures]) (hL 33 (by simp))
    have hdf := hI.df
    simp only at e
    go_wp2
    refine bodyPost_ret (results_tmp rfl a.tmps Try.prog w') hdf ?_
    rw [e]
    exact ⟨rfl, hI.wd.bel⟩
  · refine ⟨?_, ?_, ?_, ?_, ?_, ?_, ?_, ?_, ?_, ?_, ?_, ?_, ?_, ?_, ?_, ?_, ?_, ?_, ?_, ?_, ?_, ?_, ?_, ?_, ?_, ?_, ?_, ?_, ?_, ?_, ?_, ?_, ?_, ?_, trivial⟩
    · intro L a w1 hI hi hd
      have t2 := hI.fx (2, .pointer (some ⟨w.heap.size, 0, none⟩)) (by simp [kpfx])
      simp only at t2
      have x := hI.wd.b0.cell 0
      have x1 := hI.wd.b0.cell 1
      have x2 := hI.wd.b0.cell 2
      simp only [List.getElem?_toArray, List.getElem?_cons_zero, List.getElem?_cons_succ] at x x1 x2
      exact rstep_valW (wanted_none rfl _) (.agg #[.int .u64 (k : Int), .slice (some ⟨ga, 0, none⟩) n cA, .slice (some ⟨gb, 0, none⟩) m cB]) w1 (by go_simp) (hI.put 0 5 (.agg #[.int .u64 (k : Int), .slice (some ⟨ga, 0, none⟩) n cA, .slice (some ⟨gb, 0, none⟩) m cB]) (by simp [kpPures]) (by simp [kpPures]) (by simp [kpfx]) (by decide) hI.wd)
    · intro L a w1 hI hi hd
      have t3 := hI.fx (3, .pointer (some ⟨w.heap.size + 1, 0, none⟩)) (by simp [kpfx])
      simp only at t3
      have y := hI.wd.b1.cell 0
      have y1 := hI.wd.b1.cell 1
      have y2 := hI.wd.b1.cell 2
      simp only [List.getElem?_toArray, List.getElem?_cons_zero, List.getElem?_cons_succ] at y y1 y2
      exact rstep_valW (wanted_none rfl _) (.agg #[.int .u64 (k : Int), .slice B n c, .slice B2 m c2]) w1 (by go_simp) (hI.put 1 6 (.agg #[.int .u64 (k : Int), .slice B n c, .slice B2 m c2]) (by simp [kpPures]) (by simp [kpPures]) (by simp [kpfx]) (by decide) hI.wd)
    · intro L a w1 hI hi hd
      simp [Region.binds] at hd
      have e0 := hI.pu (0, 5, (.agg #[.int .u64 (k : Int), .slice (some ⟨ga, 0, none⟩) n cA, .slice (some ⟨gb, 0, none⟩) m cB])) (by simp [kpPures]) (by simp [hd])
      simp only at e0
      have f0 : a.tmps[5]?.getD undef = (.agg #[.int .u64 (k : Int), .slice (some ⟨ga, 0, none⟩) n cA, .slice (some ⟨gb, 0, none⟩) m cB]) := by rw [← Array.getD_eq_getD_getElem?]; exact e0
      have e1 := hI.pu (1, 6, (.agg #[.int .u64 (k : Int), .slice B n c, .slice B2 m c2])) (by simp [kpPures]) (by simp [hd])
      simp only at e1
      have f1 : a.tmps[6]?.getD undef = (.agg #[.int .u64 (k : Int), .slice B n c, .slice B2 m c2]) := by rw [← Array.getD_eq_getD_getElem?]; exact e1
      refine rstep_callW (wanted_none rfl _) 45 #[.agg #[.int .u64 (k : Int), .slice (some ⟨ga, 0, none⟩) n cA, .slice (some ⟨gb, 0, none⟩) m cB], .agg #[.int .u64 (k : Int), .slice B n c, .slice B2 m c2]] (by go_simp) ?_
      have HS := refsame_len k k n n vec vec note note (some ⟨ga, 0, none⟩) (some ⟨gb, 0, none⟩) B B2 cA cB c c2 w1 (hA.below hI.wd.bel) (hA2.below hI.wd.bel) (hB.below hI.wd.bel) (hB2.below hI.wd.bel) hn hn (by omega) (by omega)
      rw [hm] at HS
      refine HS.mono ?_
      rintro e w2 ⟨rfl, hb⟩
      simp only [decide_true, Bool.and_self]
      exact hI.put 2 7 (.bool true) (by simp [kpPures]) (by simp [kpPures]) (by simp [kpfx]) (by decide) (hI.wd.call hb)
    · intro L a w1 hI hi hd
      simp [Region.binds] at hd
      have e2 := hI.pu (2, 7, (.bool true)) (by simp [kpPures]) (by simp [hd])
      simp only at e2
      have f2 : a.tmps[7]?.getD undef = (.bool true) := by rw [← Array.getD_eq_getD_getElem?]; exact e2
      exact rstep_valW (wanted_none rfl _) (.bool true) w1 (by go_simp) (hI.put 3 8 (.bool true) (by simp [kpPures]) (by simp [kpPures]) (by simp [kpfx]) (by decide) hI.wd)
    · intro L a w1 hI hi hd
      simp [Region.binds] at hd
      have e3 := hI.pu (3, 8, (.bool true)) (by simp [kpPures]) (by simp [hd])
      simp only at e3
      have f3 : a.tmps[8]?.getD undef = (.bool true) := by rw [← Array.getD_eq_getD_getElem?]; exact e3
      have t2 := hI.fx (2, .pointer (some ⟨w.heap.size, 0, none⟩)) (by simp [kpfx])
      simp only at t2
      exact rstep_valW (wanted_of 3 8 true rfl rfl e3) (.pointer (some ⟨w.heap.size, 1, none⟩)) w1 (by go_simp) (hI.put 4 9 (.pointer (some ⟨w.heap.size, 1, none⟩)) (by simp [kpPures]) (by simp [kpPures]) (by simp [kpfx]) (by decide) hI.wd)
    · intro L a w1 hI hi hd
      simp [Region.binds] at hd
      have e3 := hI.pu (3, 8, (.bool true)) (by simp [kpPures]) (by simp [hd])
      simp only at e3
      have f3 : a.tmps[8]?.getD undef = (.bool true) := by rw [← Array.getD_eq_getD_getElem?]; exact e3
      have e4 := hI.pu (4, 9, (.pointer (some ⟨w.heap.size, 1, none⟩))) (by simp [kpPures]) (by simp [hd])
      simp only at e4
      have f4 : a.tmps[9]?.getD undef = (.pointer (some ⟨w.heap.size, 1, none⟩)) := by rw [← Array.getD_eq_getD_getElem?]; exact e4
      have x := hI.wd.b0.cell 0
      have x1 := hI.wd.b0.cell 1
      have x2 := hI.wd.b0.cell 2
      simp only [List.getElem?_toArray, List.getElem?_cons_zero, List.getElem?_cons_succ] at x x1 x2
      exact rstep_valW (wanted_of 3 8 true rfl rfl e3) (.slice (some ⟨ga, 0, none⟩) n cA) w1 (by go_simp) (hI.put 5 10 (.slice (some ⟨ga, 0, none⟩) n cA) (by simp [kpPures]) (by simp [kpPures]) (by simp [kpfx]) (by decide) hI.wd)
    · intro L a w1 hI hi hd
      simp [Region.binds] at hd
      have e3 := hI.pu (3, 8, (.bool true)) (by simp [kpPures]) (by simp [hd])
      simp only at e3
      have f3 : a.tmps[8]?.getD undef = (.bool true) := by rw [← Array.getD_eq_getD_getElem?]; exact e3
      have t3 := hI.fx (3, .pointer (some ⟨w.heap.size + 1, 0, none⟩)) (by simp [kpfx])
      simp only at t3
      exact rstep_valW (wanted_of 3 8 true rfl rfl e3) (.pointer (some ⟨w.heap.size + 1, 1, none⟩)) w1 (by go_simp) (hI.put 6 11 (.pointer (some ⟨w.heap.size + 1, 1, none⟩)) (by simp [kpPures]) (by simp [kpPures]) (by simp [kpfx]) (by decide) hI.wd)
    · intro L a w1 hI hi hd
      simp [Region.binds] at hd
      have e3 := hI.pu (3, 8, (.bool true)) (by simp [kpPures]) (by simp [hd])
      simp only at e3
      have f3 : a.tmps[8]?.getD undef = (.bool true) := by rw [← Array.getD_eq_getD_getElem?]; exact e3
      have e6 := hI.pu (6, 11, (.pointer (some ⟨w.heap.size + 1, 1, none⟩))) (by simp [kpPures]) (by simp [hd])
      simp only at e6
      have f6 : a.tmps[11]?.getD undef = (.pointer (some ⟨w.heap.size + 1, 1, none⟩)) := by rw [← Array.getD_eq_getD_getElem?]; exact e6
      have y := hI.wd.b1.cell 0
      have y1 := hI.wd.b1.cell 1
      have y2 := hI.wd.b1.cell 2
      simp only [List.getElem?_toArray, List.getElem?_cons_zero, List.getElem?_cons_succ] at y y1 y2
      exact rstep_valW (wanted_of 3 8 true rfl rfl e3) (.slice B n c) w1 (by go_simp) (hI.put 7 12 (.slice B n c) (by simp [kpPures]) (by simp [kpPures]) (by simp [kpfx]) (by decide) hI.wd)
    · intro L a w1 hI hi hd
      simp [Region.binds] at hd
      have e3 := hI.pu (3, 8, (.bool true)) (by simp [kpPures]) (by simp [hd])
      simp only at e3
      have f3 : a.tmps[8]?.getD undef = (.bool true) := by rw [← Array.getD_eq_getD_getElem?]; exact e3
      have e7 := hI.pu (7, 12, (.slice B n c)) (by simp [kpPures]) (by simp [hd])
      simp only at e7
      have f7 : a.tmps[12]?.getD undef = (.slice B n c) := by rw [← Array.getD_eq_getD_getElem?]; exact e7
      exact rstep_valW (wanted_of 3 8 true rfl rfl e3) (.int .i64 (n : Int)) w1 (by go_simp) (hI.put 8 13 (.int .i64 (n : Int)) (by simp [kpPures]) (by simp [kpPures]) (by simp [kpfx]) (by decide) hI.wd)
    · intro L a w1 hI hi hd
      simp [Region.binds] at hd
      have e3 := hI.pu (3, 8, (.bool true)) (by simp [kpPures]) (by simp [hd])
      simp only at e3
      have f3 : a.tmps[8]?.getD undef = (.bool true) := by rw [← Array.getD_eq_getD_getElem?]; exact e3
      have e8 := hI.pu (8, 13, (.int .i64 (n : Int))) (by simp [kpPures]) (by simp [hd])
      simp only at e8
      have f8 : a.tmps[13]?.getD undef = (.int .i64 (n : Int)) := by rw [← Array.getD_eq_getD_getElem?]; exact e8
      have hw : IntKind.i64.wrap ((n : Int) + 1) = (n : Int) + 1 := by rw [IntKind.wrap_i64]; omega
      exact rstep_valW (wanted_of 3 8 true rfl rfl e3) (.int .i64 ((n : Int) + 1)) w1 (by go_simp) (hI.put 9 14 (.int .i64 ((n : Int) + 1)) (by simp [kpPures]) (by simp [kpPures]) (by simp [kpfx]) (by decide) hI.wd)
    · intro L a w1 hI hi hd
      simp [Region.binds] at hd
      have e3 := hI.pu (3, 8, (.bool true)) (by simp [kpPures]) (by simp [hd])
      simp only at e3
      have f3 : a.tmps[8]?.getD undef = (.bool true) := by rw [← Array.getD_eq_getD_getElem?]; exact e3
      have e5 := hI.pu (5, 10, (.slice (some ⟨ga, 0, none⟩) n cA)) (by simp [kpPures]) (by simp [hd])
      simp only at e5
      have f5 : a.tmps[10]?.getD undef = (.slice (some ⟨ga, 0, none⟩) n cA) := by rw [← Array.getD_eq_getD_getElem?]; exact e5
      have e9 := hI.pu (9, 14, (.int .i64 ((n : Int) + 1))) (by simp [kpPures]) (by simp [hd])
      simp only at e9
      have f9 : a.tmps[14]?.getD undef = (.int .i64 ((n : Int) + 1)) := by rw [← Array.getD_eq_getD_getElem?]; exact e9
      have hw : ((n : Int) + 1).toNat = n + 1 := by omega
      have h9 : (0 : Int) ≤ (n : Int) + 1 := by omega
      have h8 : ¬ ((cA : Int) < (n : Int) + 1) := by omega
      exact rstep_valW (wanted_of 3 8 true rfl rfl e3) (.slice (some ⟨ga, 0, none⟩) (n + 1) cA) w1 (by go_simp) (hI.put 10 15 (.slice (some ⟨ga, 0, none⟩) (n + 1) cA) (by simp [kpPures]) (by simp [kpPures]) (by simp [kpfx]) (by decide) hI.wd)
    · intro L a w1 hI hi hd
      simp [Region.binds] at hd
      have e3 := hI.pu (3, 8, (.bool true)) (by simp [kpPures]) (by simp [hd])
      simp only at e3
      have f3 : a.tmps[8]?.getD undef = (.bool true) := by rw [← Array.getD_eq_getD_getElem?]; exact e3
      have t3 := hI.fx (3, .pointer (some ⟨w.heap.size + 1, 0, none⟩)) (by simp [kpfx])
      simp only at t3
      exact rstep_valW (wanted_of 3 8 true rfl rfl e3) (.pointer (some ⟨w.heap.size + 1, 1, none⟩)) w1 (by go_simp) (hI.put 11 16 (.pointer (some ⟨w.heap.size + 1, 1, none⟩)) (by simp [kpPures]) (by simp [kpPures]) (by simp [kpfx]) (by decide) hI.wd)
    · intro L a w1 hI hi hd
      simp [Region.binds] at hd
      have e3 := hI.pu (3, 8, (.bool true)) (by simp [kpPures]) (by simp [hd])
      simp only at e3
      have f3 : a.tmps[8]?.getD undef = (.bool true) := by rw [← Array.getD_eq_getD_getElem?]; exact e3
      have e11 := hI.pu (11, 16, (.pointer (some ⟨w.heap.size + 1, 1, none⟩))) (by simp [kpPures]) (by simp [hd])
      simp only at e11
      have f11 : a.tmps[16]?.getD undef = (.pointer (some ⟨w.heap.size + 1, 1, none⟩)) := by rw [← Array.getD_eq_getD_getElem?]; exact e11
      have y := hI.wd.b1.cell 0
      have y1 := hI.wd.b1.cell 1
      have y2 := hI.wd.b1.cell 2
      simp only [List.getElem?_toArray, List.getElem?_cons_zero, List.getElem?_cons_succ] at y y1 y2
      exact rstep_valW (wanted_of 3 8 true rfl rfl e3) (.slice B n c) w1 (by go_simp) (hI.put 12 17 (.slice B n c) (by simp [kpPures]) (by simp [kpPures]) (by simp [kpfx]) (by decide) hI.wd)
    · intro L a w1 hI hi hd
      simp [Region.binds] at hd
      have e3 := hI.pu (3, 8, (.bool true)) (by simp [kpPures]) (by simp [hd])
      simp only at e3
      have f3 : a.tmps[8]?.getD undef = (.bool true) := by rw [← Array.getD_eq_getD_getElem?]; exact e3
      have e12 := hI.pu (12, 17, (.slice B n c)) (by simp [kpPures]) (by simp [hd])
      simp only at e12
      have f12 : a.tmps[17]?.getD undef = (.slice B n c) := by rw [← Array.getD_eq_getD_getElem?]; exact e12
      exact rstep_valW (wanted_of 3 8 true rfl rfl e3) (.int .i64 (n : Int)) w1 (by go_simp) (hI.put 13 18 (.int .i64 (n : Int)) (by simp [kpPures]) (by simp [kpPures]) (by simp [kpfx]) (by decide) hI.wd)
    · intro L a w1 hI hi hd
      simp [Region.binds] at hd
      have e3 := hI.pu (3, 8, (.bool true)) (by simp [kpPures]) (by simp [hd])
      simp only at e3
      have f3 : a.tmps[8]?.getD undef = (.bool true) := by rw [← Array.getD_eq_getD_getElem?]; exact e3
      have e10 := hI.pu (10, 15, (.slice (some ⟨ga, 0, none⟩) (n + 1) cA)) (by simp [kpPures]) (by simp [hd])
      simp only at e10
      have f10 : a.tmps[15]?.getD undef = (.slice (some ⟨ga, 0, none⟩) (n + 1) cA) := by rw [← Array.getD_eq_getD_getElem?]; exact e10
      have e13 := hI.pu (13, 18, (.int .i64 (n : Int))) (by simp [kpPures]) (by simp [hd])
      simp only at e13
      have f13 : a.tmps[18]?.getD undef = (.int .i64 (n : Int)) := by rw [← Array.getD_eq_getD_getElem?]; exact e13
      have h8 : ¬ ((n : Int) + 1 ≤ (n : Int)) := by omega
      exact rstep_valW (wanted_of 3 8 true rfl rfl e3) (.pointer (some ⟨ga, n, none⟩)) w1 (by go_simp) (hI.put 14 19 (.pointer (some ⟨ga, n, none⟩)) (by simp [kpPures]) (by simp [kpPures]) (by simp [kpfx]) (by decide) hI.wd)
    · intro L a w1 hI hi hd
      simp [Region.binds] at hd
      have e3 := hI.pu (3, 8, (.bool true)) (by simp [kpPures]) (by simp [hd])
      simp only at e3
      have f3 : a.tmps[8]?.getD undef = (.bool true) := by rw [← Array.getD_eq_getD_getElem?]; exact e3
      have e14 := hI.pu (14, 19, (.pointer (some ⟨ga, n, none⟩))) (by simp [kpPures]) (by simp [hd])
      simp only at e14
      have f14 : a.tmps[19]?.getD undef = (.pointer (some ⟨ga, n, none⟩)) := by rw [← Array.getD_eq_getD_getElem?]; exact e14
      have hc := hI.wd.ca
      exact rstep_valW (wanted_of 3 8 true rfl rfl e3) (.int .i32 77) w1 (by go_simp) (hI.put 15 20 (.int .i32 77) (by simp [kpPures]) (by simp [kpPures]) (by simp [kpfx]) (by decide) hI.wd)
    · intro L a w1 hI hi hd
      simp [Region.binds] at hd
      have e3 := hI.pu (3, 8, (.bool true)) (by simp [kpPures]) (by simp [hd])
      simp only at e3
      have f3 : a.tmps[8]?.getD undef = (.bool true) := by rw [← Array.getD_eq_getD_getElem?]; exact e3
      have e15 := hI.pu (15, 20, (.int .i32 77)) (by simp [kpPures]) (by simp [hd])
      simp only at e15
      have f15 : a.tmps[20]?.getD undef = (.int .i32 77) := by rw [← Array.getD_eq_getD_getElem?]; exact e15
      exact rstep_valW (wanted_of 3 8 true rfl rfl e3) (.bool true) w1 (by go_simp) (hI.put 16 21 (.bool true) (by simp [kpPures]) (by simp [kpPures]) (by simp [kpfx]) (by decide) hI.wd)
    · intro L a w1 hI hi hd
      simp [Region.binds] at hd
      have e3 := hI.pu (3, 8, (.bool true)) (by simp [kpPures]) (by simp [hd])
      simp only at e3
      have f3 : a.tmps[8]?.getD undef = (.bool true) := by rw [← Array.getD_eq_getD_getElem?]; exact e3
      have e16 := hI.pu (16, 21, (.bool true)) (by simp [kpPures]) (by simp [hd])
      simp only at e16
      have f16 : a.tmps[21]?.getD undef = (.bool true) := by rw [← Array.getD_eq_getD_getElem?]; exact e16
      exact rstep_valW (wanted_none rfl _) (.bool true) w1 (by go_simp) (hI.put 17 22 (.bool true) (by simp [kpPures]) (by simp [kpPures]) (by simp [kpfx]) (by decide) hI.wd)
    · intro L a w1 hI hi hd
      simp [Region.binds] at hd
      have e17 := hI.pu (17, 22, (.bool true)) (by simp [kpPures]) (by simp [hd])
      simp only at e17
      have f17 : a.tmps[22]?.getD undef = (.bool true) := by rw [← Array.getD_eq_getD_getElem?]; exact e17
      exact rstep_valW (wanted_none rfl _) (.bool true) w1 (by go_simp) (hI.put 18 23 (.bool true) (by simp [kpPures]) (by simp [kpPures]) (by simp [kpfx]) (by decide) hI.wd)
    · intro L a w1 hI hi hd
      simp [Region.binds] at hd
      have e18 := hI.pu (18, 23, (.bool true)) (by simp [kpPures]) (by simp [hd])
      simp only at e18
      have f18 : a.tmps[23]?.getD undef = (.bool true) := by rw [← Array.getD_eq_getD_getElem?]; exact e18
      have t2 := hI.fx (2, .pointer (some ⟨w.heap.size, 0, none⟩)) (by simp [kpfx])
      simp only at t2
      exact rstep_valW (wanted_of 18 23 true rfl rfl e18) (.pointer (some ⟨w.heap.size, 2, none⟩)) w1 (by go_simp) (hI.put 19 24 (.pointer (some ⟨w.heap.size, 2, none⟩)) (by simp [kpPures]) (by simp [kpPures]) (by simp [kpfx]) (by decide) hI.wd)
    · intro L a w1 hI hi hd
      simp [Region.binds] at hd
      have e18 := hI.pu (18, 23, (.bool true)) (by simp [kpPures]) (by simp [hd])
      simp only at e18
      have f18 : a.tmps[23]?.getD undef = (.bool true) := by rw [← Array.getD_eq_getD_getElem?]; exact e18
      have e19 := hI.pu (19, 24, (.pointer (some ⟨w.heap.size, 2, none⟩))) (by simp [kpPures]) (by simp [hd])
      simp only at e19
      have f19 : a.tmps[24]?.getD undef = (.pointer (some ⟨w.heap.size, 2, none⟩)) := by rw [← Array.getD_eq_getD_getElem?]; exact e19
      have x := hI.wd.b0.cell 0
      have x1 := hI.wd.b0.cell 1
      have x2 := hI.wd.b0.cell 2
      simp only [List.getElem?_toArray, List.getElem?_cons_zero, List.getElem?_cons_succ] at x x1 x2
      exact rstep_valW (wanted_of 18 23 true rfl rfl e18) (.slice (some ⟨gb, 0, none⟩) m cB) w1 (by go_simp) (hI.put 20 25 (.slice (some ⟨gb, 0, none⟩) m cB) (by simp [kpPures]) (by simp [kpPures]) (by simp [kpfx]) (by decide) hI.wd)
    · intro L a w1 hI hi hd
      simp [Region.binds] at hd
      have e18 := hI.pu (18, 23, (.bool true)) (by simp [kpPures]) (by simp [hd])
      simp only at e18
      have f18 : a.tmps[23]?.getD undef = (.bool true) := by rw [← Array.getD_eq_getD_getElem?]; exact e18
      have t3 := hI.fx (3, .pointer (some ⟨w.heap.size + 1, 0, none⟩)) (by simp [kpfx])
      simp only at t3
      exact rstep_valW (wanted_of 18 23 true rfl rfl e18) (.pointer (some ⟨w.heap.size + 1, 2, none⟩)) w1 (by go_simp) (hI.put 21 26 (.pointer (some ⟨w.heap.size + 1, 2, none⟩)) (by simp [kpPures]) (by simp [kpPures]) (by simp [kpfx]) (by decide) hI.wd)
    · intro L a w1 hI hi hd
      simp [Region.binds] at hd
      have e18 := hI.pu (18, 23, (.bool true)) (by simp [kpPures]) (by simp [hd])
      simp only at e18
      have f18 : a.tmps[23]?.getD undef = (.bool true) := by rw [← Array.getD_eq_getD_getElem?]; exact e18
      have e21 := hI.pu (21, 26, (.pointer (some ⟨w.heap.size + 1, 2, none⟩))) (by simp [kpPures]) (by simp [hd])
      simp only at e21
      have f21 : a.tmps[26]?.getD undef = (.pointer (some ⟨w.heap.size + 1, 2, none⟩)) := by rw [← Array.getD_eq_getD_getElem?]; exact e21
      have y := hI.wd.b1.cell 0
      have y1 := hI.wd.b1.cell 1
      have y2 := hI.wd.b1.cell 2
      simp only [List.getElem?_toArray, List.getElem?_cons_zero, List.getElem?_cons_succ] at y y1 y2
      exact rstep_valW (wanted_of 18 23 true rfl rfl e18) (.slice B2 m c2) w1 (by go_simp) (hI.put 22 27 (.slice B2 m c2) (by simp [kpPures]) (by simp [kpPures]) (by simp [kpfx]) (by decide) hI.wd)
    · intro L a w1 hI hi hd
      simp [Region.binds] at hd
      have e18 := hI.pu (18, 23, (.bool true)) (by simp [kpPures]) (by simp [hd])
      simp only at e18
      have f18 : a.tmps[23]?.getD undef = (.bool true) := by rw [← Array.getD_eq_getD_getElem?]; exact e18
      have e22 := hI.pu (22, 27, (.slice B2 m c2)) (by simp [kpPures]) (by simp [hd])
      simp only at e22
      have f22 : a.tmps[27]?.getD undef = (.slice B2 m c2) := by rw [← Array.getD_eq_getD_getElem?]; exact e22
      exact rstep_valW (wanted_of 18 23 true rfl rfl e18) (.int .i64 (m : Int)) w1 (by go_simp) (hI.put 23 28 (.int .i64 (m : Int)) (by simp [kpPures]) (by simp [kpPures]) (by simp [kpfx]) (by decide) hI.wd)
    · intro L a w1 hI hi hd
      simp [Region.binds] at hd
      have e18 := hI.pu (18, 23, (.bool true)) (by simp [kpPures]) (by simp [hd])
      simp only at e18
      have f18 : a.tmps[23]?.getD undef = (.bool true) := by rw [← Array.getD_eq_getD_getElem?]; exact e18
      have e23 := hI.pu (23, 28, (.int .i64 (m : Int))) (by simp [kpPures]) (by simp [hd])
      simp only at e23
      have f23 : a.tmps[28]?.getD undef = (.int .i64 (m : Int)) := by rw [← Array.getD_eq_getD_getElem?]; exact e23
      have hw : IntKind.i64.wrap ((m : Int) + 1) = (m : Int) + 1 := by rw [IntKind.wrap_i64]; omega
      exact rstep_valW (wanted_of 18 23 true rfl rfl e18) (.int .i64 ((m : Int) + 1)) w1 (by go_simp) (hI.put 24 29 (.int .i64 ((m : Int) + 1)) (by simp [kpPures]) (by simp [kpPures]) (by simp [kpfx]) (by decide) hI.wd)
    · intro L a w1 hI hi hd
      simp [Region.binds] at hd
      have e18 := hI.pu (18, 23, (.bool true)) (by simp [kpPures]) (by simp [hd])
      simp only at e18
      have f18 : a.tmps[23]?.getD undef = (.bool true) := by rw [← Array.getD_eq_getD_getElem?]; exact e18
      have e20 := hI.pu (20, 25, (.slice (some ⟨gb, 0, none⟩) m cB)) (by simp [kpPures]) (by simp [hd])
      simp only at e20
      have f20 : a.tmps[25]?.getD undef = (.slice (some ⟨gb, 0, none⟩) m cB) := by rw [← Array.getD_eq_getD_getElem?]; exact e20
      have e24 := hI.pu (24, 29, (.int .i64 ((m : Int) + 1))) (by simp [kpPures]) (by simp [hd])
      simp only at e24
      have f24 : a.tmps[29]?.getD undef = (.int .i64 ((m : Int) + 1)) := by rw [← Array.getD_eq_getD_getElem?]; exact e24
      have hw : ((m : Int) + 1).toNat = m + 1 := by omega
      have h9 : (0 : Int) ≤ (m : Int) + 1 := by omega
      have h8 : ¬ ((cB : Int) < (m : Int) + 1) := by omega
      exact rstep_valW (wanted_of 18 23 true rfl rfl e18) (.slice (some ⟨gb, 0, none⟩) (m + 1) cB) w1 (by go_simp) (hI.put 25 30 (.slice (some ⟨gb, 0, none⟩) (m + 1) cB) (by simp [kpPures]) (by simp [kpPures]) (by simp [kpfx]) (by decide) hI.wd)
    · intro L a w1 hI hi hd
      simp [Region.binds] at hd
      have e18 := hI.pu (18, 23, (.bool true)) (by simp [kpPures]) (by simp [hd])
      simp only at e18
      have f18 : a.tmps[23]?.getD undef = (.bool true) := by rw [← Array.getD_eq_getD_getElem?]; exact e18
      have t3 := hI.fx (3, .pointer (some ⟨w.heap.size + 1, 0, none⟩)) (by simp [kpfx])
      simp only at t3
      exact rstep_valW (wanted_of 18 23 true rfl rfl e18) (.pointer (some ⟨w.heap.size + 1, 2, none⟩)) w1 (by go_simp) (hI.put 26 31 (.pointer (some ⟨w.heap.size + 1, 2, none⟩)) (by simp [kpPures]) (by simp [kpPures]) (by simp [kpfx]) (by decide) hI.wd)
    · intro L a w1 hI hi hd
      simp [Region.binds] at hd
      have e18 := hI.pu (18, 23, (.bool true)) (by simp [kpPures]) (by simp [hd])
      simp only at e18
      have f18 : a.tmps[23]?.getD undef = (.bool true) := by rw [← Array.getD_eq_getD_getElem?]; exact e18
      have e26 := hI.pu (26, 31, (.pointer (some ⟨w.heap.size + 1, 2, none⟩))) (by simp [kpPures]) (by simp [hd])
      simp only at e26
      have f26 : a.tmps[31]?.getD undef = (.pointer (some ⟨w.heap.size + 1, 2, none⟩)) := by rw [← Array.getD_eq_getD_getElem?]; exact e26
      have y := hI.wd.b1.cell 0
      have y1 := hI.wd.b1.cell 1
      have y2 := hI.wd.b1.cell 2
      simp only [List.getElem?_toArray, List.getElem?_cons_zero, List.getElem?_cons_succ] at y y1 y2
      exact rstep_valW (wanted_of 18 23 true rfl rfl e18) (.slice B2 m c2) w1 (by go_simp) (hI.put 27 32 (.slice B2 m c2) (by simp [kpPures]) (by simp [kpPures]) (by simp [kpfx]) (by decide) hI.wd)
    · intro L a w1 hI hi hd
      simp [Region.binds] at hd
      have e18 := hI.pu (18, 23, (.bool true)) (by simp [kpPures]) (by simp [hd])
      simp only at e18
      have f18 : a.tmps[23]?.getD undef = (.bool true) := by rw [← Array.getD_eq_getD_getElem?]; exact e18
      have e27 := hI.pu (27, 32, (.slice B2 m c2)) (by simp [kpPures]) (by simp [hd])
      simp only at e27
      have f27 : a.tmps[32]?.getD undef = (.slice B2 m c2) := by rw [← Array.getD_eq_getD_getElem?]; exact e27
      exact rstep_valW (wanted_of 18 23 true rfl rfl e18) (.int .i64 (m : Int)) w1 (by go_simp) (hI.put 28 33 (.int .i64 (m : Int)) (by simp [kpPures]) (by simp [kpPures]) (by simp [kpfx]) (by decide) hI.wd)
    · intro L a w1 hI hi hd
      simp [Region.binds] at hd
      have e18 := hI.pu (18, 23, (.bool true)) (by simp [kpPures]) (by simp [hd])
      simp only at e18
      have f18 : a.tmps[23]?.getD undef = (.bool true) := by rw [← Array.getD_eq_getD_getElem?]; exact e18
      have e25 := hI.pu (25, 30, (.slice (some ⟨gb, 0, none⟩) (m + 1) cB)) (by simp [kpPures]) (by simp [hd])
      simp only at e25
      have f25 : a.tmps[30]?.getD undef = (.slice (some ⟨gb, 0, none⟩) (m + 1) cB) := by rw [← Array.getD_eq_getD_getElem?]; exact e25
      have e28 := hI.pu (28, 33, (.int .i64 (m : Int))) (by simp [kpPures]) (by simp [hd])
      simp only at e28
      have f28 : a.tmps[33]?.getD undef = (.int .i64 (m : Int)) := by rw [← Array.getD_eq_getD_getElem?]; exact e28
      have h8 : ¬ ((m : Int) + 1 ≤ (m : Int)) := by omega
      exact rstep_valW (wanted_of 18 23 true rfl rfl e18) (.pointer (some ⟨gb, m, none⟩)) w1 (by go_simp) (hI.put 29 34 (.pointer (some ⟨gb, m, none⟩)) (by simp [kpPures]) (by simp [kpPures]) (by simp [kpfx]) (by decide) hI.wd)
    · intro L a w1 hI hi hd
      simp [Region.binds] at hd
      have e18 := hI.pu (18, 23, (.bool true)) (by simp [kpPures]) (by simp [hd])
      simp only at e18
      have f18 : a.tmps[23]?.getD undef = (.bool true) := by rw [← Array.getD_eq_getD_getElem?]; exact e18
      have e29 := hI.pu (29, 34, (.pointer (some ⟨gb, m, none⟩))) (by simp [kpPures]) (by simp [hd])
      simp only at e29
      have f29 : a.tmps[34]?.getD undef = (.pointer (some ⟨gb, m, none⟩)) := by rw [← Array.getD_eq_getD_getElem?]; exact e29
      have hc := hI.wd.cb
      exact rstep_valW (wanted_of 18 23 true rfl rfl e18) (.int .u8 78) w1 (by go_simp) (hI.put 30 35 (.int .u8 78) (by simp [kpPures]) (by simp [kpPures]) (by simp [kpfx]) (by decide) hI.wd)
    · intro L a w1 hI hi hd
      simp [Region.binds] at hd
      have e18 := hI.pu (18, 23, (.bool true)) (by simp [kpPures]) (by simp [hd])
      simp only at e18
      have f18 : a.tmps[23]?.getD undef = (.bool true) := by rw [← Array.getD_eq_getD_getElem?]; exact e18
      have e30 := hI.pu (30, 35, (.int .u8 78)) (by simp [kpPures]) (by simp [hd])
      simp only at e30
      have f30 : a.tmps[35]?.getD undef = (.int .u8 78) := by rw [← Array.getD_eq_getD_getElem?]; exact e30
      exact rstep_valW (wanted_of 18 23 true rfl rfl e18) (.bool true) w1 (by go_simp) (hI.put 31 36 (.bool true) (by simp [kpPures]) (by simp [kpPures]) (by simp [kpfx]) (by decide) hI.wd)
    · intro L a w1 hI hi hd
      simp [Region.binds] at hd
      have e18 := hI.pu (18, 23, (.bool true)) (by simp [kpPures]) (by simp [hd])
      simp only at e18
      have f18 : a.tmps[23]?.getD undef = (.bool true) := by rw [← Array.getD_eq_getD_getElem?]; exact e18
      have e31 := hI.pu (31, 36, (.bool true)) (by simp [kpPures]) (by simp [hd])
      simp only at e31
      have f31 : a.tmps[36]?.getD undef = (.bool true) := by rw [← Array.getD_eq_getD_getElem?]; exact e31
      exact rstep_valW (wanted_none rfl _) (.bool true) w1 (by go_simp) (hI.put 32 37 (.bool true) (by simp [kpPures]) (by simp [kpPures]) (by simp [kpfx]) (by decide) hI.wd)
    · intro L a w1 hI hi hd
      simp [Region.binds] at hd
      have e32 := hI.pu (32, 37, (.bool true)) (by simp [kpPures]) (by simp [hd])
      simp only at e32
      have f32 : a.tmps[37]?.getD undef = (.bool true) := by rw [← Array.getD_eq_getD_getElem?]; exact e32
      exact rstep_valW (wanted_none rfl _) (.bool true) w1 (by go_simp) (hI.put 33 4 (.bool true) (by simp [kpPures]) (by simp [kpPures]) (by simp [kpfx]) (by decide) hI.wd)
end Go.Proofs.Yteanmmdlgolljaa
