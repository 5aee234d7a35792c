/-
  Slices of structs of the call's own: append.
  Conditions: none.
-/
import Derived.Test.YtgcognefggbpjaaSnapW5
import Derived.Test.YtgcognefggbpjaaMem2
import Derived.Test.YtgcognefggbpjaaSteadyM
import Derived.Deep.RegionLaw
import Derived.Lib.BufferOwn
namespace Go.Proofs.Ytgcognefggbpjaa
open Go.RowKit Go.Sort Go.Lib
set_option linter.unusedVariables false
theorem info_stp : (Try.prog.info? 45).map (fun i => (i.zero, i.size, i.bytes)) = some (some (.agg #[.int .u64 0, .int .u64 0]), 2, 16) := by kernel_rfl
theorem info_hed : (Try.prog.info? 47).map (fun i => (i.zero, i.size, i.bytes)) = some (some (.agg #[.int .u64 0, .bool false, .bool false]), 3, 16) := by kernel_rfl
/-- The slice (A, n, c) of cells is the call's own, and holds xs. -/
def OwnS (w : World) (base : Nat) (t : TypeId) (size : Nat) (A : Option Addr) (n c : Nat) (xs : List Value) : Prop := w.ownsRow base t size (.slice A n c) n xs
section
variable {w w' : World} {base n c size : Nat} {t : TypeId} {A : Option Addr} {xs : List Value}
theorem OwnS.nil_ (w : World) (base : Nat) (t : TypeId) (size : Nat) : OwnS w base t size none 0 0 [] := World.ownsRow_nil w base t size
theorem OwnS.made (w : World) (t : TypeId) (size : Nat) {base : Nat} (hb : base ≤ w.heap.size) : OwnS (w.alloc (.cells #[] t)) base t size (some ⟨w.heap.size, 0, none⟩) 0 0 [] :=
  World.ownsRow_made w #[] 0 hb (by unfold maxLen; omega) (by simp)
theorem OwnS.row (h : OwnS w base t size A n c xs) : Row w A xs := Row.of_own h
theorem OwnS.alloc (h : OwnS w base t size A n c xs) (o : Obj) : OwnS (w.alloc o) base t size A n c xs := World.ownsRow.alloc h o
theorem OwnS.below (h : OwnS w base t size A n c xs) (hb : Below w.heap.size w w') : OwnS w' base t size A n c xs := by
  refine ⟨h.1, ?_⟩
  rcases h.2 with hn | ⟨g, cap, cur, e, hb', hg, rest⟩
  · exact .inl hn
  · refine .inr ⟨g, cap, cur, e, hb', ?_, rest⟩
    rw [hb.block g (Array.getElem?_eq_some_iff.1 hg).1]; exact hg
theorem OwnS.kept {g : Nat} (h : OwnS w base t size A n c xs) (hg : w.grownBy w' (some g)) (hlt : g < base) : OwnS w' base t size A n c xs := by
  refine World.ownsRow.kept h hg ?_
  rcases h.2 with ⟨hv, _⟩ | ⟨g', cap, cur, hv, hb, _⟩
  · left; injection hv with e; rw [e]; rfl
  · right; injection hv with e; rw [e]; simp only [Value.ownBlock]; intro q; injection q with q; omega
theorem OwnS.le (h : OwnS w base t size A n c xs) : n ≤ c ∧ c ≤ maxLen := by
  rcases h.2 with ⟨hv, hn⟩ | ⟨g, cap, cur, hv, _, _, h1, h2, _⟩
  · injection hv with _ e1 e2; unfold maxLen; omega
  · injection hv with _ e1 e2; omega
theorem OwnS.base_ {b : Nat} (h : OwnS w base t size A n c xs) (hb : b ≤ base) : OwnS w b t size A n c xs := by
  refine ⟨h.1, ?_⟩
  rcases h.2 with hn | ⟨g, cap, cur, e, hb', rest⟩
  · exact .inl hn
  · exact .inr ⟨g, cap, cur, e, by omega, rest⟩
theorem OwnS.grown_below {row : Option Nat} {B : Nat} {w0 : World} (h : OwnS w base t size A n c xs) (hrow : row = (Value.slice A n c).ownBlock) (hg : w.grownBy w' row) (hb : Below B w0 w) (hB : B ≤ base) (hs : B ≤ w.heap.size) : Below B w0 w' :=
  hb.grown hg hs fun k hk => by
    have := World.ownsRow.lt h k (by rw [← hrow]; exact hk)
    omega
theorem below_grownS {B g : Nat} {a w w' : World} (h : Below B a w) (hg : w.grownBy w' (some g)) (hs : B ≤ w.heap.size) (hB : B ≤ g) : Below B a w' := h.grown hg hs (fun k hk => by injection hk with hk; omega)
theorem below_set {B g : Nat} {a w : World} (h : Below B a w) (hs : B ≤ w.heap.size) (hg : B ≤ g) (i : Nat) (v : Value) : Below B a (w.setCell ⟨g, i, none⟩ v) := below_grownS h (grownBy_setCell w g i v) hs hg
theorem OwnS.len2 {l : List Stp} (h : OwnS w base t 2 A n c (l.flatMap Stp.cells)) : l.length = n := by
  have := h.1
  rw [stps_length] at this; omega
theorem OwnS.len3 {l : List Hed} (h : OwnS w base t 3 A n c (l.flatMap Hed.cells)) : l.length = n := by
  have := h.1
  rw [heds_length] at this; omega
theorem stp_one (l : List Stp) : ∀ u ∈ l.flatMap Stp.cells, u.oneCell' = true := by
  intro u hu
  obtain ⟨s, _, hs⟩ := List.mem_flatMap.1 hu
  simp [Stp.cells] at hs
  rcases hs with rfl | rfl <;> rfl
theorem hed_one (l : List Hed) : ∀ u ∈ l.flatMap Hed.cells, u.oneCell' = true := by
  intro u hu
  obtain ⟨s, _, hs⟩ := List.mem_flatMap.1 hu
  simp [Hed.cells] at hs
  rcases hs with rfl | rfl | rfl <;> rfl
/-- append of stamps, at a list of operations. -/
theorem wpl_appStp (w : World) {ops : Array Oper} {rest : List Oper} {o : Oper} {a : Act} {Q : Exit → Act → World → Prop} (hgd : Region.wanted o (yielded ops a.tmps) = true) (s x : Operand)
    (ho : o.op = .call { callee := .builtin .append, args := #[s, x], argTypes := #[36, 36] })
    (base : Nat) (A : Option Addr) (n c : Nat) (l : List Stp) (hs : a.eval s = .slice A n c) (hown : OwnS w base 45 2 A n c (l.flatMap Stp.cells))
    (A2 : Option Addr) (c2 : Nat) (m : List Stp) (k : Nat) (hx : a.eval x = .slice A2 k c2) (hk : m.length = k) (hr : Row w A2 (m.flatMap Stp.cells))
    (hlen : n + k ≤ 100000) (hbase : base ≤ w.heap.size)
    (h : ∀ A' c' w', OwnS w' base 45 2 A' (n + k) c' ((l ++ m).flatMap Stp.cells) → w.grownBy w' (Value.slice A n c).ownBlock → wpList Try.prog ops Q rest (a.put o.dst (.slice A' (n + k) c')) w') : wpList Try.prog ops Q (o :: rest) a w := by
  subst hk
  obtain ⟨i0, hi0, hz0, hz1, hz2⟩ := info_parts info_stp
  refine wpl_append w hgd s x _ ho base 45 i0 _ 2 16 Try.underlying36 hi0 hz0 hz1 hz2 rfl (by omega) _ n _ hs hown A2 m.length c2 _ hx (by rw [stps_length]; omega) hr (stp_one m)
    (by unfold maxLen; omega) (by omega) hbase fun A' c' w' h1 h2 h3 => h A' c' w' ?_ h2
  unfold OwnS
  rw [List.flatMap_append]
  exact h1
/-- append of stamps, at a step of a region that draws its order. -/
theorem step_appStp (w : World) {ops : Array Oper} {o : Oper} {a : Act} {K : Act → World → Prop} {Q : Exit → Act → World → Prop} {E : Prop} (hgd : o.guard = none) (s x : Operand)
    (ho : o.op = .call { callee := .builtin .append, args := #[s, x], argTypes := #[36, 36] })
    (base : Nat) (A : Option Addr) (n c : Nat) (l : List Stp) (hs : a.eval s = .slice A n c) (hown : OwnS w base 45 2 A n c (l.flatMap Stp.cells))
    (A2 : Option Addr) (c2 : Nat) (m : List Stp) (k : Nat) (hx : a.eval x = .slice A2 k c2) (hk : m.length = k) (hr : Row w A2 (m.flatMap Stp.cells))
    (hlen : n + k ≤ 100000) (hbase : base ≤ w.heap.size)
    (h : ∀ A' c' w', OwnS w' base 45 2 A' (n + k) c' ((l ++ m).flatMap Stp.cells) → w.grownBy w' (Value.slice A n c).ownBlock → K (a.put o.dst (.slice A' (n + k) c')) w') :
    if Region.wanted o (yielded ops a.tmps) = true then Oper.wp Try.prog o a w K Q else E := by
  have hw : Region.wanted o (yielded ops a.tmps) = true := by simp [Region.wanted, hgd]
  rw [if_pos hw]
  subst hk
  obtain ⟨i0, hi0, hz0, hz1, hz2⟩ := info_parts info_stp
  refine wp_append_row w s x _ ho base 45 i0 _ 2 16 Try.underlying36 hi0 hz0 hz1 hz2 rfl (by omega) _ n _ hs hown A2 m.length c2 _ hx (by rw [stps_length]; omega) hr (stp_one m)
    (by unfold maxLen; omega) (by omega) hbase fun A' c' w' h1 h2 h3 => h A' c' w' ?_ h2
  unfold OwnS
  rw [List.flatMap_append]
  exact h1
/-- append of heads. -/
theorem wpl_appHed (w : World) {ops : Array Oper} {rest : List Oper} {o : Oper} {a : Act} {Q : Exit → Act → World → Prop} (hgd : Region.wanted o (yielded ops a.tmps) = true) (s x : Operand)
    (ho : o.op = .call { callee := .builtin .append, args := #[s, x], argTypes := #[39, 39] })
    (base : Nat) (A : Option Addr) (n c : Nat) (l : List Hed) (hs : a.eval s = .slice A n c) (hown : OwnS w base 47 3 A n c (l.flatMap Hed.cells))
    (A2 : Option Addr) (c2 : Nat) (m : List Hed) (k : Nat) (hx : a.eval x = .slice A2 k c2) (hk : m.length = k) (hr : Row w A2 (m.flatMap Hed.cells))
    (hlen : n + k ≤ 100000) (hbase : base ≤ w.heap.size)
    (h : ∀ A' c' w', OwnS w' base 47 3 A' (n + k) c' ((l ++ m).flatMap Hed.cells) → w.grownBy w' (Value.slice A n c).ownBlock → wpList Try.prog ops Q rest (a.put o.dst (.slice A' (n + k) c')) w') : wpList Try.prog ops Q (o :: rest) a w := by
  subst hk
  obtain ⟨i0, hi0, hz0, hz1, hz2⟩ := info_parts info_hed
  refine wpl_append w hgd s x _ ho base 47 i0 _ 3 16 Try.underlying39 hi0 hz0 hz1 hz2 rfl (by omega) _ n _ hs hown A2 m.length c2 _ hx (by rw [heds_length]; omega) hr (hed_one m)
    (by unfold maxLen; omega) (by omega) hbase fun A' c' w' h1 h2 h3 => h A' c' w' ?_ h2
  unfold OwnS
  rw [List.flatMap_append]
  exact h1
theorem step_appHed (w : World) {ops : Array Oper} {o : Oper} {a : Act} {K : Act → World → Prop} {Q : Exit → Act → World → Prop} {E : Prop} (hgd : o.guard = none) (s x : Operand)
    (ho : o.op = .call { callee := .builtin .append, args := #[s, x], argTypes := #[39, 39] })
    (base : Nat) (A : Option Addr) (n c : Nat) (l : List Hed) (hs : a.eval s = .slice A n c) (hown : OwnS w base 47 3 A n c (l.flatMap Hed.cells))
    (A2 : Option Addr) (c2 : Nat) (m : List Hed) (k : Nat) (hx : a.eval x = .slice A2 k c2) (hk : m.length = k) (hr : Row w A2 (m.flatMap Hed.cells))
    (hlen : n + k ≤ 100000) (hbase : base ≤ w.heap.size)
    (h : ∀ A' c' w', OwnS w' base 47 3 A' (n + k) c' ((l ++ m).flatMap Hed.cells) → w.grownBy w' (Value.slice A n c).ownBlock → K (a.put o.dst (.slice A' (n + k) c')) w') :
    if Region.wanted o (yielded ops a.tmps) = true then Oper.wp Try.prog o a w K Q else E := by
  have hw : Region.wanted o (yielded ops a.tmps) = true := by simp [Region.wanted, hgd]
  rw [if_pos hw]
  subst hk
  obtain ⟨i0, hi0, hz0, hz1, hz2⟩ := info_parts info_hed
  refine wp_append_row w s x _ ho base 47 i0 _ 3 16 Try.underlying39 hi0 hz0 hz1 hz2 rfl (by omega) _ n _ hs hown A2 m.length c2 _ hx (by rw [heds_length]; omega) hr (hed_one m)
    (by unfold maxLen; omega) (by omega) hbase fun A' c' w' h1 h2 h3 => h A' c' w' ?_ h2
  unfold OwnS
  rw [List.flatMap_append]
  exact h1
end
set_option maxRecDepth 100000 in
theorem in_any (A : Option Addr) (c t : Nat) (l : List Stp) (w : World) (hr : Row w A (l.flatMap Stp.cells)) (hl : l.length ≤ 100000) :
    Calls Try.prog 28 #[.slice A l.length c, .int .u64 (t : Int)] w fun e w' => e = .returned (.bool (inB l t)) ∧ w = w' := by
  have HR := Lib.hid hr
  clear hr
  go_enter Try.func28, Try.ntmps28
  go_wp2
  go_loop [5] (fun i => ∃ k : Nat, i = .int .i64 k ∧ k ≤ l.length ∧ ∀ s ∈ l.take k, s.txn ≠ t) (fun i => l.length - (RowKit.intOf i).toNat)
  case atStart => exact ⟨0, rfl, by omega, fun s h => by simp at h⟩
  case round =>
    obtain ⟨k, rfl, hk, hall⟩ := hrel
    have HA := Lib.hid hall
    clear hall
    by_cases hlt : k < l.length
    · obtain ⟨s, hs⟩ : ∃ u, l[k]? = some u := ⟨_, List.getElem?_eq_getElem hlt⟩
      obtain ⟨b, o, rfl, e1, e2⟩ := row_stp HR.out hs
      by_cases ht : s.txn = t
      · have hd : ((s.txn : Int) == (t : Int)) = true := beq_iff_eq.2 (by omega)
        have HT : Hid (inB l t = true) := Lib.hid (List.any_eq_true.2 ⟨s, List.mem_of_getElem? hs, by simp [ht]⟩)
        clear hs
        go_wp2
        go_ret
        rw [HT.out]
        exact ⟨rfl, rfl⟩
      · have hd : ((s.txn : Int) == (t : Int)) = false := beq_eq_false_iff_ne.2 (by omega)
        have HN : Hid (∀ s ∈ l.take (k + 1), s.txn ≠ t) := Lib.hid (by
          rw [List.take_add_one, hs]
          intro q hq
          rcases List.mem_append.1 hq with h | h
          · exact HA.out q h
          · simp at h; rw [h]; exact ht)
        clear hs
        go_wp2
        go_round
        case rel => exact ⟨k + 1, by go_num, by omega, HN.out⟩
        case measure => simp [RowKit.intOf]; omega
    · obtain rfl : k = l.length := by omega
      have HT : Hid (inB l t = false) := Lib.hid (by
        have := HA.out
        rw [List.take_length] at this
        unfold inB
        rw [List.any_eq_false]
        intro s hs
        simpa using this s hs)
      go_wp2
      go_ret
      rw [HT.out]
      exact ⟨rfl, rfl⟩
end Go.Proofs.Ytgcognefggbpjaa
