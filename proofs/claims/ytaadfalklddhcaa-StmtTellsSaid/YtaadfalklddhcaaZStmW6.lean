/-
  The makers of the writers of floats and of a record.
  Conditions: what is handed in lies in memory.
-/
import Derived.Test.YtaadfalklddhcaaZStmW5
import Derived.Test.YtaadfalklddhcaaZEj
namespace Go.Proofs.Ytaadfalklddhcaa
open Go.RowKit Go.Sort Go.Lib
set_option linter.unusedVariables false
set_option linter.unusedSimpArgs false
set_option maxRecDepth 100000 in
theorem mkflt_any (xs : List Nat) (B : Option Addr) (bn bc : Nat) (w : World) (hr : Row w B (u64s xs)) (hm : xs.length = bn) (hb5 : bn ≤ 100000) (hv : ∀ v ∈ xs, v < 18446744073709551616) : Calls Try.prog 56 #[.slice B bn bc] w (MkP (CodeM.uv xs.length ++ fb xs) w) := by
  go_enter Try.func56, Try.ntmps56
  go_wp2
  go_ret
  exact ⟨_, rfl, fltw_any w.heap.size xs B bn bc _ ((Blk.new w 40 #[.slice B bn bc]).cell 0) (hr.alloc _) hm hb5 hv, (Below.refl _ _).alloc (Nat.le_refl _) _⟩
set_option maxRecDepth 100000 in
theorem mkrec_any (x : Itm) (A A2 : Option Addr) (n c n2 c2 : Nat) (w : World) (hk : x.key < 18446744073709551616) (hv : ∀ v ∈ x.vec, -2147483648 ≤ v ∧ v < 2147483648)
    (hr : Row w A (i32s x.vec)) (hr2 : Row w A2 (bs x.note)) (hn : x.vec.length = n) (hn2 : x.note.length = n2) (h1 : 1 ≤ x.vec.length) (h2 : x.vec.length ≤ 4096) (h3 : x.note.length ≤ 1024) :
    Calls Try.prog 53 #[.agg #[.int .u64 (x.key : Int), .slice A n c, .slice A2 n2 c2]] w (MkP (ItemM.form x) w) := by
  have hb0 : Below w.heap.size w (w.alloc (.cells #[.int .u64 (x.key : Int), .slice A n c, .slice A2 n2 c2] 30)) := (Below.refl _ _).alloc (Nat.le_refl _) _
  have HC := Lib.hid (itembytes_ok x A A2 c c2 (w.alloc (.cells #[.int .u64 (x.key : Int), .slice A n c, .slice A2 n2 c2] 30)) hk hv (hr.below hb0) (hr2.below hb0) h1 h2 h3)
  rw [hn, hn2] at HC
  clear hr hr2 hv hk h1 h2 h3
  go_enter Try.func53, Try.ntmps53
  go_wp2_with fail
  refine HC.out.mono ?_
  rintro e w2 ⟨v, rfl, hF⟩
  have hb2 := hF.bel
  obtain ⟨g, m, mc, rfl, hm, hmc, hg, hrow⟩ := hF
  have hB2 := below_step hb0 hb2 (Nat.le_refl _)
  have HX := Lib.hid (And.intro hm.out (And.intro hrow hB2))
  clear HC hb0 hb2 hm hrow hB2
  go_wp2
  go_ret
  have hba : Below w2.heap.size w2 (w2.alloc (.cells #[.slice (some ⟨g, 0, none⟩) m mc] 22)) := (Below.refl _ _).alloc (Nat.le_refl _) _
  exact ⟨_, rfl, recw_any w2.heap.size (ItemM.form x) (some ⟨g, 0, none⟩) m mc _ ((Blk.new w2 22 #[.slice (some ⟨g, 0, none⟩) m mc]).cell 0) (HX.out.2.1.1.below hba) HX.out.1, below_step HX.out.2.2 hba (Nat.le_refl _)⟩
end Go.Proofs.Ytaadfalklddhcaa
