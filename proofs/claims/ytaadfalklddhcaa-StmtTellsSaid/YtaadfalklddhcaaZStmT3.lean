/-
  Writers that a loop gathers: what a writer leans on lies in a stretch of memory of its own, so a row of writers may grow in place beside it.
  Conditions: what is captured lies in memory.
-/
import Derived.Test.YtaadfalklddhcaaZStmW10
import Derived.Test.YtaadfalklddhcaaZStmQ2
import Derived.Test.YtaadfalklddhcaaZGj
namespace Go.Proofs.Ytaadfalklddhcaa
open Go.RowKit Go.Sort Go.Lib
set_option linter.unusedVariables false
set_option linter.unusedSimpArgs false
/-- A writer that leans on the blocks from a up to b alone. -/
def WrIn (a b : Nat) (w : World) (v : Value) (m : List UInt8) : Prop := b ≤ w.heap.size ∧ ∀ w' : World, (∀ i, a ≤ i → i < b → w'.heap[i]? = w.heap[i]?) → b ≤ w'.heap.size → WrOk w' v m
theorem WrIn.ok {a b : Nat} {w : World} {v : Value} {m : List UInt8} (h : WrIn a b w v m) : WrOk w v m := h.2 w (fun _ _ _ => rfl) h.1
theorem WrIn.step {a b : Nat} {w w' : World} {v : Value} {m : List UInt8} (h : WrIn a b w v m) (he : ∀ i, a ≤ i → i < b → w'.heap[i]? = w.heap[i]?) (hs : b ≤ w'.heap.size) : WrIn a b w' v m :=
  ⟨hs, fun w2 h2 h3 => h.2 w2 (fun i h4 h5 => (h2 i h4 h5).trans (he i h4 h5)) h3⟩
theorem WrIn.mono {a a' b b' : Nat} {w : World} {v : Value} {m : List UInt8} (h : WrIn a b w v m) (ha : a' ≤ a) (hb : b ≤ b') (hs : b' ≤ w.heap.size) : WrIn a' b' w v m :=
  ⟨hs, fun w2 h2 h3 => h.2 w2 (fun i h4 h5 => h2 i (by omega) (by omega)) (by omega)⟩
theorem WrIn.below {a b : Nat} {w w' : World} {v : Value} {m : List UInt8} (h : WrIn a b w v m) (hb : Below w.heap.size w w') : WrIn a b w' v m :=
  h.step (fun i _ h2 => hb.block i (by have := h.1; omega)) (by have := h.1; have := hb.size; omega)
/-- A writer that does not lean on block gr. -/
def WrF (gr : Nat) (w : World) (v : Value) (m : List UInt8) : Prop := ∃ a b, (gr < a ∨ b ≤ gr) ∧ WrIn a b w v m
theorem WrF.ok {gr : Nat} {w : World} {v : Value} {m : List UInt8} (h : WrF gr w v m) : WrOk w v m := by obtain ⟨a, b, _, h⟩ := h; exact h.ok
theorem WrF.below {gr : Nat} {w w' : World} {v : Value} {m : List UInt8} (h : WrF gr w v m) (hb : Below w.heap.size w w') : WrF gr w' v m := by obtain ⟨a, b, h1, h⟩ := h; exact ⟨a, b, h1, h.below hb⟩
/-- The row grows, in place or elsewhere. -/
theorem WrF.app {gr gr' : Nat} {w w' : World} {v : Value} {m : List UInt8} (h : WrF gr w v m) (hg : w.grownBy w' (some gr)) (hr : gr' = gr ∨ gr' = w.heap.size) : WrF gr' w' v m := by
  obtain ⟨a, b, h1, h⟩ := h
  refine ⟨a, b, ?_, h.step (fun i h2 h3 => hg.block i (by have := h.1; omega) (by intro q; injection q with q; omega)) (by have := h.1; have := hg.size; omega)⟩
  rcases hr with rfl | rfl
  · exact h1
  · exact .inr h.1
/-- append of writers to a row: which block it stands in then. -/
theorem wpl_appF3 (w : World) {ops : Array Oper} {rest : List Oper} {o : Oper} {a : Act} {Q : Exit → Act → World → Prop} (hgd : Region.wanted o (yielded ops a.tmps) = true) (s x : Operand)
    (ho : o.op = .call { callee := .builtin .append, args := #[s, x], argTypes := #[86, 86] })
    (base gr : Nat) (c : Nat) (l : List Value) (n : Nat) (hs : a.eval s = .slice (some ⟨gr, 0, none⟩) n c) (hown : OwnF w base (some ⟨gr, 0, none⟩) n c l)
    (A2 : Option Addr) (c2 : Nat) (m : List Value) (k : Nat) (hx : a.eval x = .slice A2 k c2) (hk : m.length = k) (hr : Row w A2 m) (h1 : ∀ u ∈ m, u.oneCell' = true)
    (hlen : n + k ≤ 1000) (hn : 1 ≤ n) (hbase : base ≤ w.heap.size)
    (h : ∀ gr' c' w', OwnF w' base (some ⟨gr', 0, none⟩) (n + k) c' (l ++ m) → w.grownBy w' (some gr) → (gr' = gr ∨ gr' = w.heap.size) →
      wpList Try.prog ops Q rest (a.put o.dst (.slice (some ⟨gr', 0, none⟩) (n + k) c')) w') : wpList Try.prog ops Q (o :: rest) a w := by
  obtain ⟨i0, hi0, hz0, hz1, hz2⟩ := info_parts info_fn
  refine wpl_append w hgd s x _ ho base 84 i0 _ 1 8 Try.underlying86 hi0 hz0 hz1 hz2 rfl (by omega) _ n l hs hown A2 k c2 m hx (by omega) hr h1
    (by unfold maxLen; omega) (by omega) hbase fun A' c' w' h2 h3 h4 => ?_
  rcases h2.2 with ⟨hv, hn0⟩ | ⟨g', cap, cur, hv, _⟩
  · omega
  · injection hv with e1 e2 e3
    subst e1 e3
    exact h g' _ w' h2 h3 (by rcases h4 with h4 | h4 <;> (simp only [Value.ownBlock] at h4; injection h4 with h4; omega))
theorem step_appF3 (w : World) {ops : Array Oper} {o : Oper} {a : Act} {K : Act → World → Prop} {Q : Exit → Act → World → Prop} {E : Prop} (hgd : o.guard = none) (s x : Operand)
    (ho : o.op = .call { callee := .builtin .append, args := #[s, x], argTypes := #[86, 86] })
    (base gr : Nat) (c : Nat) (l : List Value) (n : Nat) (hs : a.eval s = .slice (some ⟨gr, 0, none⟩) n c) (hown : OwnF w base (some ⟨gr, 0, none⟩) n c l)
    (A2 : Option Addr) (c2 : Nat) (m : List Value) (k : Nat) (hx : a.eval x = .slice A2 k c2) (hk : m.length = k) (hr : Row w A2 m) (h1 : ∀ u ∈ m, u.oneCell' = true)
    (hlen : n + k ≤ 1000) (hn : 1 ≤ n) (hbase : base ≤ w.heap.size)
    (h : ∀ gr' c' w', OwnF w' base (some ⟨gr', 0, none⟩) (n + k) c' (l ++ m) → w.grownBy w' (some gr) → (gr' = gr ∨ gr' = w.heap.size) → K (a.put o.dst (.slice (some ⟨gr', 0, none⟩) (n + k) c')) w') :
    if Region.wanted o (yielded ops a.tmps) = true then Oper.wp Try.prog o a w K Q else E := by
  have hw : Region.wanted o (yielded ops a.tmps) = true := by simp [Region.wanted, hgd]
  rw [if_pos hw]
  obtain ⟨i0, hi0, hz0, hz1, hz2⟩ := info_parts info_fn
  refine wp_append_row w s x _ ho base 84 i0 _ 1 8 Try.underlying86 hi0 hz0 hz1 hz2 rfl (by omega) _ n l hs hown A2 k c2 m hx (by omega) hr h1
    (by unfold maxLen; omega) (by omega) hbase fun A' c' w' h2 h3 h4 => ?_
  rcases h2.2 with ⟨hv, hn0⟩ | ⟨g', cap, cur, hv, _⟩
  · omega
  · injection hv with e1 e2 e3
    subst e1 e3
    exact h g' _ w' h2 h3 (by rcases h4 with h4 | h4 <;> (simp only [Value.ownBlock] at h4; injection h4 with h4; omega))
/-! ### Makers -/
theorem cell_same {w w' : World} {g o : Nat} (h : w'.heap[g]? = w.heap[g]?) : w'.cell? ⟨g, o, none⟩ = w.cell? ⟨g, o, none⟩ := by
  unfold World.cell?
  simp only [h]
/-- A maker's writer leans on what it made, and what lies from a on. -/
def MkF (a : Nat) (m : List UInt8) (w : World) (e : Ending) (w' : World) : Prop := ∃ v, e = .returned v ∧ WrIn a w'.heap.size w' v m ∧ Below w.heap.size w w'
theorem MkF.mk {a : Nat} {m : List UInt8} {w : World} {e : Ending} {w' : World} (h : MkF a m w e w') : MkP m w e w' := by
  obtain ⟨v, h1, h2, h3⟩ := h
  exact ⟨v, h1, h2.ok, h3⟩
theorem alloc_lt (w : World) (o : Obj) : w.heap.size < (w.alloc o).heap.size := by simp
set_option maxRecDepth 100000 in
theorem mku8F_any (k : Int) (u : UInt8) (w : World) (hk : IntKind.u8.wrap k = (u.toNat : Int)) : Calls Try.prog 52 #[.int .i64 k] w (MkF w.heap.size ([u]) w) := by
  go_enter Try.func52, Try.ntmps52
  go_wp2
  go_ret
  exact ⟨_, rfl, ⟨Nat.le_refl _, fun w' h1 h2 => u8w_any w.heap.size k u w' ((cell_same (h1 _ (Nat.le_refl _) (alloc_lt _ _))).trans ((Blk.new w 3 #[.int .i64 k]).cell 0)) hk⟩, (Below.refl _ _).alloc (Nat.le_refl _) _⟩
set_option maxRecDepth 100000 in
theorem mkuvF_any (k : Nat) (w : World) (hk : k < 9223372036854775808) : Calls Try.prog 60 #[.int .i64 (k : Int)] w (MkF w.heap.size (CodeM.uv k) w) := by
  go_enter Try.func60, Try.ntmps60
  go_wp2
  go_ret
  exact ⟨_, rfl, ⟨Nat.le_refl _, fun w' h1 h2 => uvw_any w.heap.size k w' ((cell_same (h1 _ (Nat.le_refl _) (alloc_lt _ _))).trans ((Blk.new w 3 #[.int .i64 (k : Int)]).cell 0)) hk⟩, (Below.refl _ _).alloc (Nat.le_refl _) _⟩
set_option maxRecDepth 100000 in
theorem mku64F_any (k : Nat) (w : World) (hk : k < 18446744073709551616) : Calls Try.prog 54 #[.int .u64 (k : Int)] w (MkF w.heap.size (CodeM.fx 8 k) w) := by
  go_enter Try.func54, Try.ntmps54
  go_wp2
  go_ret
  exact ⟨_, rfl, ⟨Nat.le_refl _, fun w' h1 h2 => u64w_any w.heap.size k w' ((cell_same (h1 _ (Nat.le_refl _) (alloc_lt _ _))).trans ((Blk.new w 27 #[.int .u64 (k : Int)]).cell 0)) hk⟩, (Below.refl _ _).alloc (Nat.le_refl _) _⟩
set_option maxRecDepth 100000 in
/-- The bytes of the text lie in block B, from a on. -/
theorem mktextF_any (a : Nat) (m : List UInt8) (B bn bc : Nat) (w : World) (hr : Row w (some ⟨B, 0, none⟩) (bs m)) (hm : m.length = bn) (ha : a ≤ B) (hB : B < w.heap.size) : Calls Try.prog 57 #[.slice (some ⟨B, 0, none⟩) bn bc] w (MkF a (CodeM.tx m) w) := by
  have HX := Lib.hid (And.intro hr (And.intro hm (And.intro ha hB)))
  clear hr hm ha hB
  go_enter Try.func57, Try.ntmps57
  go_wp2
  go_ret
  obtain ⟨hr, hm, ha, hB⟩ := HX.out
  have hr1 : Row (w.alloc (.cells #[.slice (some ⟨B, 0, none⟩) bn bc] 22)) (some ⟨B, 0, none⟩) (bs m) := hr.alloc _
  have hsz := alloc_lt w (.cells #[.slice (some ⟨B, 0, none⟩) bn bc] 22)
  refine ⟨_, rfl, ⟨Nat.le_refl _, fun w' h1 h2 => textw_any w.heap.size m (some ⟨B, 0, none⟩) bn bc w' ((cell_same (h1 _ (by omega) hsz)).trans ((Blk.new w 22 #[.slice (some ⟨B, 0, none⟩) bn bc]).cell 0)) ?_ hm⟩, (Below.refl _ _).alloc (Nat.le_refl _) _⟩
  rcases hr1 with q | ⟨b, o, e, hc⟩
  · exact .inl q
  · refine .inr ⟨b, o, e, fun j u hu => ?_⟩
    injection e with e
    injection e with e1 e2
    subst e1 e2
    exact (cell_same (h1 _ ha (by omega))).trans (hc j u hu)
end Go.Proofs.Ytaadfalklddhcaa
