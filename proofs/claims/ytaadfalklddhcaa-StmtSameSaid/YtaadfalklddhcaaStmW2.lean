/-
  Writers of numbers, texts and bytes.
  Conditions: what is captured lies in memory.
-/
import Derived.Test.YtaadfalklddhcaaStmW1
import Derived.Test.YtaadfalklddhcaaCodeW13
import Derived.Test.YtaadfalklddhcaaCodeP1
namespace Go.Proofs.Ytaadfalklddhcaa
open Go.RowKit Go.Sort Go.Lib
set_option linter.unusedVariables false
set_option linter.unusedSimpArgs false
set_option maxRecDepth 100000 in
theorem u64w_any (g k : Nat) (w0 : World) (hc : w0.cell? ⟨g, 0, none⟩ = some (.int .u64 (k : Int))) (hk : k < 18446744073709551616) : WrOk w0 (.func (.func 100) #[] #[.pointer (some ⟨g, 0, none⟩)]) (CodeM.fx 8 k) := by
  refine ⟨_, _, rfl, fun args w => by go_simp, fun w base A n c l hb hwb hbs hO hn hlm => ?_⟩
  have hcw : w.cell? ⟨g, 0, none⟩ = some (.int .u64 (k : Int)) := by rw [hb.cell (World.block_lt_of_cell? w0 _ hc)]; exact hc
  have hl : l.length ≤ 140737488355000 := by omega
  have HC := Lib.hid (Put64_any A c k l w hO.row hl hk)
  rw [hn] at HC
  clear hl
  go_enter Try.func100, Try.ntmps100
  go_wp2_with fail
  refine HC.out.mono ?_
  rintro e w2 ⟨A', n', c', rfl, hn', hO', hb'⟩
  go_wp2
  go_ret
  exact ⟨A', n', c', rfl, hn', hO'.base_ hbs, hb'.mono hbs⟩
set_option maxRecDepth 100000 in
theorem recw_any (g : Nat) (m : List UInt8) (B : Option Addr) (bn bc : Nat) (w0 : World) (hc : w0.cell? ⟨g, 0, none⟩ = some (.slice B bn bc)) (hr : Row w0 B (bs m)) (hm : m.length = bn) : WrOk w0 (.func (.func 99) #[] #[.pointer (some ⟨g, 0, none⟩)]) m := by
  refine ⟨_, _, rfl, fun args w => by go_simp, fun w base A n c l hb hwb hbs hO hn hlm => ?_⟩
  have hcw : w.cell? ⟨g, 0, none⟩ = some (.slice B bn bc) := by rw [hb.cell (World.block_lt_of_cell? w0 _ hc)]; exact hc
  have hrw : Row w B (bs m) := hr.below hb
  go_enter Try.func99, Try.ntmps99
  go_wp2_with (at_builtin; refine wpl_app' _ rfl (.tmp 4) (.tmp 5) rfl base A c l n rfl hn hO B bc m bn rfl hm hrw ?_ ?_ ?_)
  · omega
  · omega
  intro A' c' w' h1 h2 h3
  go_wp2
  go_ret
  refine ⟨A', n + bn, c', rfl, Lib.hid (by rw [List.length_append, hn, hm]), h1, ?_⟩
  exact Own.grown_below hO (by rw [hn]) h2 (Below.refl base w) (Nat.le_refl _) hbs
set_option maxRecDepth 100000 in
theorem u16w_any (g k : Nat) (w0 : World) (hc : w0.cell? ⟨g, 0, none⟩ = some (.int .i64 (k : Int))) (hk : k < 65536) : WrOk w0 (.func (.func 107) #[] #[.pointer (some ⟨g, 0, none⟩)]) (CodeM.fx 2 k) := by
  refine ⟨_, _, rfl, fun args w => by go_simp, fun w base A n c l hb hwb hbs hO hn hlm => ?_⟩
  have hcw : w.cell? ⟨g, 0, none⟩ = some (.int .i64 (k : Int)) := by rw [hb.cell (World.block_lt_of_cell? w0 _ hc)]; exact hc
  have hl : l.length ≤ 140737488355000 := by omega
  have HC := Lib.hid (Put16_any A c k l w hO.row hl (by omega))
  rw [hn] at HC
  clear hl
  have hwk : IntKind.u16.wrap (k : Int) = (k : Int) := by rw [IntKind.wrap_u16]; omega
  go_enter Try.func107, Try.ntmps107
  go_wp2_with fail
  refine HC.out.mono ?_
  rintro e w2 ⟨A', n', c', rfl, hn', hO', hb'⟩
  go_wp2
  go_ret
  exact ⟨A', n', c', rfl, hn', hO'.base_ hbs, hb'.mono hbs⟩
set_option maxRecDepth 100000 in
theorem uvw_any (g k : Nat) (w0 : World) (hc : w0.cell? ⟨g, 0, none⟩ = some (.int .i64 (k : Int))) (hk : k < 9223372036854775808) : WrOk w0 (.func (.func 109) #[] #[.pointer (some ⟨g, 0, none⟩)]) (CodeM.uv k) := by
  refine ⟨_, _, rfl, fun args w => by go_simp, fun w base A n c l hb hwb hbs hO hn hlm => ?_⟩
  have hcw : w.cell? ⟨g, 0, none⟩ = some (.int .i64 (k : Int)) := by rw [hb.cell (World.block_lt_of_cell? w0 _ hc)]; exact hc
  have hl : l.length ≤ 140737488355000 := by omega
  have HC := Lib.hid (putuv_any A c k l w hO.row hl (by omega))
  rw [hn] at HC
  clear hl
  have hwk : IntKind.u64.wrap (k : Int) = (k : Int) := by rw [IntKind.wrap_u64]; omega
  go_enter Try.func109, Try.ntmps109
  go_wp2_with fail
  refine HC.out.mono ?_
  rintro e w2 ⟨A', n', c', rfl, hn', hO', hb'⟩
  go_wp2
  go_ret
  exact ⟨A', n', c', rfl, hn', hO'.base_ hbs, hb'.mono hbs⟩
set_option maxRecDepth 100000 in
theorem textw_any (g : Nat) (m : List UInt8) (B : Option Addr) (bn bc : Nat) (w0 : World) (hc : w0.cell? ⟨g, 0, none⟩ = some (.slice B bn bc)) (hr : Row w0 B (bs m)) (hm : m.length = bn) : WrOk w0 (.func (.func 105) #[] #[.pointer (some ⟨g, 0, none⟩)]) (CodeM.tx m) := by
  refine ⟨_, _, rfl, fun args w => by go_simp, fun w base A n c l hb hwb hbs hO hn hlm => ?_⟩
  have hcw : w.cell? ⟨g, 0, none⟩ = some (.slice B bn bc) := by rw [hb.cell (World.block_lt_of_cell? w0 _ hc)]; exact hc
  have hl : l.length + m.length ≤ 140737488354000 := by
    have h : (CodeM.tx m).length = (CodeM.uv m.length).length + m.length := by unfold CodeM.tx; rw [List.length_append]
    omega
  have HC := Lib.hid (PutText_any A B c bc l m w hO.row (hr.below hb) hl)
  rw [hn, hm] at HC
  clear hl
  go_enter Try.func105, Try.ntmps105
  go_wp2_with fail
  refine HC.out.mono ?_
  rintro e w2 ⟨A', n', c', rfl, hn', hO', hb'⟩
  go_wp2
  go_ret
  exact ⟨A', n', c', rfl, hn', hO'.base_ hbs, hb'.mono hbs⟩
end Go.Proofs.Ytaadfalklddhcaa
