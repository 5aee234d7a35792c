/-
  The makers of writers.
  Conditions: what is handed in lies in memory.
-/
import Derived.Test.YtaadfalklddhcaaStmW3
namespace Go.Proofs.Ytaadfalklddhcaa
open Go.RowKit Go.Sort Go.Lib
set_option linter.unusedVariables false
set_option linter.unusedSimpArgs false
/-- A writer is handed back. -/
def MkP (m : List UInt8) (w : World) (e : Ending) (w' : World) : Prop := ∃ v, e = .returned v ∧ WrOk w' v m ∧ Below w.heap.size w w'
set_option maxRecDepth 100000 in
theorem mku8_any (k : Int) (u : UInt8) (w : World) (hk : IntKind.u8.wrap k = (u.toNat : Int)) : Calls Try.prog 52 #[.int .i64 k] w (MkP ([u]) w) := by
  go_enter Try.func52, Try.ntmps52
  go_wp2
  go_ret
  exact ⟨_, rfl, u8w_any w.heap.size k u _ ((Blk.new w 3 #[.int .i64 k]).cell 0) hk, (Below.refl _ _).alloc (Nat.le_refl _) _⟩
set_option maxRecDepth 100000 in
theorem mku16_any (k : Nat) (w : World) (hk : k < 65536) : Calls Try.prog 59 #[.int .i64 (k : Int)] w (MkP (CodeM.fx 2 k) w) := by
  go_enter Try.func59, Try.ntmps59
  go_wp2
  go_ret
  exact ⟨_, rfl, u16w_any w.heap.size k _ ((Blk.new w 3 #[.int .i64 (k : Int)]).cell 0) hk, (Below.refl _ _).alloc (Nat.le_refl _) _⟩
set_option maxRecDepth 100000 in
theorem mkuv_any (k : Nat) (w : World) (hk : k < 9223372036854775808) : Calls Try.prog 60 #[.int .i64 (k : Int)] w (MkP (CodeM.uv k) w) := by
  go_enter Try.func60, Try.ntmps60
  go_wp2
  go_ret
  exact ⟨_, rfl, uvw_any w.heap.size k _ ((Blk.new w 3 #[.int .i64 (k : Int)]).cell 0) hk, (Below.refl _ _).alloc (Nat.le_refl _) _⟩
set_option maxRecDepth 100000 in
theorem mku64_any (k : Nat) (w : World) (hk : k < 18446744073709551616) : Calls Try.prog 54 #[.int .u64 (k : Int)] w (MkP (CodeM.fx 8 k) w) := by
  go_enter Try.func54, Try.ntmps54
  go_wp2
  go_ret
  exact ⟨_, rfl, u64w_any w.heap.size k _ ((Blk.new w 27 #[.int .u64 (k : Int)]).cell 0) hk, (Below.refl _ _).alloc (Nat.le_refl _) _⟩
set_option maxRecDepth 100000 in
theorem mktext_any (m : List UInt8) (B : Option Addr) (bn bc : Nat) (w : World) (hr : Row w B (bs m)) (hm : m.length = bn) : Calls Try.prog 57 #[.slice B bn bc] w (MkP (CodeM.tx m) w) := by
  go_enter Try.func57, Try.ntmps57
  go_wp2
  go_ret
  exact ⟨_, rfl, textw_any w.heap.size m B bn bc _ ((Blk.new w 22 #[.slice B bn bc]).cell 0) (hr.alloc _) hm, (Below.refl _ _).alloc (Nat.le_refl _) _⟩
set_option maxRecDepth 100000 in
theorem mknum_any (xs : List Int) (B : Option Addr) (bn bc : Nat) (w : World) (hr : Row w B (i32s xs)) (hm : xs.length = bn) (hb5 : bn ≤ 100000) (hv : ∀ v ∈ xs, -2147483648 ≤ v ∧ v < 2147483648) : Calls Try.prog 55 #[.slice B bn bc] w (MkP (CodeM.uv xs.length ++ ItemM.vb xs) w) := by
  go_enter Try.func55, Try.ntmps55
  go_wp2
  go_ret
  exact ⟨_, rfl, numw_any w.heap.size xs B bn bc _ ((Blk.new w 28 #[.slice B bn bc]).cell 0) (hr.alloc _) hm hb5 hv, (Below.refl _ _).alloc (Nat.le_refl _) _⟩
end Go.Proofs.Ytaadfalklddhcaa
