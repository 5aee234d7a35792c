/-
  append of so many zeros to a list of the call's own.
  Conditions: the list isn't the nil slice.
-/
import Derived.Test.YtofbfehpadjbbaaMem2
import Derived.Lib.AppendZerosOnto
import Derived.Laws.AppendOwn
namespace Go.Proofs.Ytofbfehpadjbbaa
open Go.RowKit Go.Lib
set_option linter.unusedVariables false
set_option linter.unusedSimpArgs false
theorem zeroCells_list (k : Nat) : Builtin.zeroCells #[Value.int .u8 0] k = (List.replicate k (Value.int .u8 0)).toArray := by
  unfold Builtin.zeroCells
  apply Array.ext
  · simp
  · intro i h1 h2
    simp [Nat.mod_one]
theorem zeroCells_list' (k : Nat) : Builtin.zeroCells (Value.int .u8 0).cells k = (List.replicate k (Value.int .u8 0)).toArray := zeroCells_list k
theorem run_app_zeros (w : World) (base g n cap : Nat) (ty : TypeId) (xs : List Value) (hown : w.ownsRow base 5 1 (.slice (some ⟨g, 0, none⟩) n cap) n xs) (k : Nat) (h63 : n + k ≤ 1000000) (hbase : base ≤ w.heap.size) :
    ∃ A' c' w', (Builtin.append_ #[27, 3] ty #[.slice (some ⟨g, 0, none⟩) n cap, .int .i64 (k : Int)]).run Try.prog w = .ok (.slice A' (n + k) c') w' ∧ w'.ownsRow base 5 1 (.slice A' (n + k) c') (n + k) (xs ++ List.replicate k (Value.int .u8 0)) ∧ w.grownBy w' (some g) := by
  obtain ⟨i0, hi0, hz0, hz1, hz2⟩ := info_parts info_u8
  have hxl : xs.length = n := by have := hown.1; omega
  have hlen : (xs ++ List.replicate k (Value.int .u8 0)).length = (n + k) * 1 := by rw [List.length_append, List.length_replicate, hxl]; omega
  have hw : IntKind.i64.wrap (k : Int) = k := by rw [IntKind.wrap_i64]; omega
  have hneg : ¬ ((k : Int) < 0) := by omega
  have h48 : ¬ (281474976710656 < (k : Int)) := by omega
  have ht := Try.underlying27
  have htn := Try.underlying3
  rcases hown.2 with ⟨hv, _⟩ | ⟨g', cap', cur, hv, hbg, hg, hnc, hcm, hcs, htake⟩
  · cases hv
  injection hv with e1 e2 e3
  injection e1 with e1
  injection e1 with e1
  subst e1 e3
  by_cases hroom : n + k ≤ cap
  · by_cases h0 : k = 0
    · subst h0
      refine ⟨some ⟨g, 0, none⟩, cap, w, ?_, by simpa using hown, ⟨rfl, rfl, rfl, Nat.le_refl _, fun _ _ _ => rfl⟩⟩
      have hw0 : IntKind.i64.wrap 0 = 0 := hw
      simp [Builtin.append_, run_underlying ht, run_underlying htn, sizeOf, typeInfo, zeroValue, hi0, hz0, hz1, hz2, asInt, asIntOf, hnc, storeCells, hw0]
    · have hst := run_storeCells_at Try.prog g n 5 (List.replicate k (Value.int .u8 0)) 0 cur w hg (by rw [List.length_replicate, hcs]; omega) (by intro v hv; rw [List.mem_replicate] at hv; rw [hv.2]; rfl)
      simp only [Nat.add_zero] at hst
      refine ⟨some ⟨g, 0, none⟩, cap, w.setRow g (cur.toList.take n ++ List.replicate k (Value.int .u8 0) ++ cur.toList.drop (n + (List.replicate k (Value.int .u8 0)).length)).toArray, ?_, ⟨hlen, .inr ⟨g, cap, _, rfl, hbg, setRow_heap w g cur _ _ _ hg, hroom, hcm, ?_, ?_⟩⟩, ⟨rfl, rfl, rfl, by simp, fun j _ hj => setRow_other w g j _ (fun e => hj (by rw [e]))⟩⟩
      · have hns : ¬ (k * 1 = 0) := by omega
        simp [Builtin.append_, run_underlying ht, run_underlying htn, sizeOf, typeInfo, zeroValue, hi0, hz0, hz1, hz2, asInt, asIntOf, hw, hneg, h48, h0, hroom, Addr.add_lit, Value.cells, zeroCells_list, hst]
      · simp only [List.size_toArray, List.length_append, List.length_take, List.length_drop, Array.length_toList, List.length_replicate]
        omega
      · have ht2 : cur.toList.take n = xs := by have := htake; rwa [Nat.mul_one] at this
        show List.take ((n + k) * 1) (cur.toList.take n ++ List.replicate k (Value.int .u8 0) ++ _) = _
        rw [ht2, ← hlen]
        exact List.take_left
  · have holds : ∀ j u, xs[j]? = some u → w.cell? ((⟨g, 0, none⟩ : Addr).add j) = some u := hown.cells (g := g) rfl
    have hf := run_firstCells_some (P := Try.prog) w.drew i0.size n ⟨g, 0, none⟩ n cap xs (by rw [hz1]; omega) holds
    have hr := run_append_grow_zeros (P := Try.prog) w 27 3 ty 5 i0 _ .i64 _ ht htn hi0 hz0 (some ⟨g, 0, none⟩) n cap xs hf k (by omega) (by rw [hz1]; omega) (by omega) (by omega) (by rw [hz2]; omega) (by rw [hz2]; exact growslice_fits (by omega) (by omega))
    have hge := grownCap_ge w (n + k) cap 5
    have hcm2 : grownCap w (n + k) cap 5 ≤ maxLen := grownCap_le_maxLen w (n + k) cap 5 (by unfold maxLen; omega)
    refine ⟨_, _, _, hr, ⟨hlen, .inr ⟨w.heap.size, _, _, rfl, hbase, heap_alloc_new w.drew _, hge, hcm2, ?_, ?_⟩⟩, ⟨rfl, rfl, rfl, by simp, fun j hj _ => heap_alloc_old w.drew _ hj⟩⟩
    · rw [zeroCells_list', zeroCells_list']
      simp only [Array.size_append, List.size_toArray, List.length_replicate, hxl]
      omega
    · rw [zeroCells_list', zeroCells_list']
      simp only [Array.toList_append, List.append_assoc]
      rw [← List.append_assoc, ← hlen]
      exact List.take_left
theorem bs_zeros (k : Nat) : bs (List.replicate k 0) = List.replicate k (Value.int .u8 0) := by
  unfold bs
  rw [List.map_replicate]; rfl
theorem wpl_appZ (w : World) {ops : Array Oper} {rest : List Oper} {o : Oper} {a : Act} {Q : Exit → Act → World → Prop} (hgd : Region.wanted o (yielded ops a.tmps) = true) (s x : Operand)
    (ho : o.op = .call { callee := .builtin .append, args := #[s, x], argTypes := #[27, 3] })
    (base g n cap : Nat) (l : List UInt8) (hs : a.eval s = .slice (some ⟨g, 0, none⟩) n cap) (hn : l.length = n) (hown : Own w base (some ⟨g, 0, none⟩) cap l) (k : Nat) (hx : a.eval x = .int .i64 (k : Int)) (h63 : n + k ≤ 1000000) (hbase : base ≤ w.heap.size)
    (h : ∀ A' c' w', Own w' base A' c' (l ++ List.replicate k 0) → w.grownBy w' (some g) → wpList Try.prog ops Q rest (a.put o.dst (.slice A' (n + k) c')) w') : wpList Try.prog ops Q (o :: rest) a w := by
  subst hn
  obtain ⟨A', c', w', hrun, h2, h3⟩ := run_app_zeros w base g l.length cap o.type (bs l) hown k h63 hbase
  refine wpList_step fun _ hK => ?_
  rw [if_pos hgd]
  unfold Oper.wp execOp
  simp only [ho, resolve, invoke, builtin, Sem.run_bind, Sem.run_pure, Result.andThen_ok, List.map_toArray, List.map_cons, List.map_nil, hs, hx, hrun]
  refine hK _ _ (h A' c' w' ?_ h3)
  unfold Own
  rw [List.length_append, List.length_replicate, bs_append, bs_zeros]
  exact h2
end Go.Proofs.Ytofbfehpadjbbaa
