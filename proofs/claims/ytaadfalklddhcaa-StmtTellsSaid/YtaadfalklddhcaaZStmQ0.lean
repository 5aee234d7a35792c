/-
  A map from numbers to anything, in memory: what is put in, what is found.
  Conditions: none.
-/
import Derived.Test.YtaadfalklddhcaaZCj
import Derived.Test.YtaadfalklddhcaaZItemW5
import Derived.MapKept
import Derived.Carry
namespace Go.Proofs.Ytaadfalklddhcaa
open Go.RowKit Go.Sort Go.Lib
set_option linter.unusedVariables false
set_option linter.unusedSimpArgs false
/-- Block g is a map that holds l. -/
def MapAt (w : World) (g : Nat) (l : List (Int × Value)) : Prop := ∃ es clock, w.heap[g]? = some (.map es clock) ∧ es.toList.map (fun e => (e.key, e.val)) = l.map (fun p => (Value.int .i64 p.1, p.2))
theorem find_at (k : Int) : ∀ (l : List (Int × Value)) (es : List MapEntry) (i : Nat), es.map (fun e => (e.key, e.val)) = l.map (fun p => (Value.int .i64 p.1, p.2)) →
    ∃ j, Instr.findNow (.int .i64) (.int .i64 k) es i = some ((l.find? (fun p => k == p.1)).map fun p => (j, p.2))
  | [], [], i, _ => ⟨0, rfl⟩
  | [], _ :: _, i, h => by simp at h
  | _ :: _, [], i, h => by simp at h
  | p :: l, e :: es, i, h => by
    simp only [List.map_cons, List.cons.injEq, Prod.mk.injEq] at h
    obtain ⟨⟨h1, h2⟩, h3⟩ := h
    unfold Instr.findNow
    rw [h1]
    by_cases hk : k = p.1
    · refine ⟨i, ?_⟩
      have hb : (k == p.1) = true := by simpa using hk
      simp [Instr.sameNow, hb, List.find?_cons, h2]
    · obtain ⟨j, hj⟩ := find_at k l es (i + 1) h3
      refine ⟨j, ?_⟩
      have hb : (k == p.1) = false := beq_eq_false_iff_ne.2 hk
      simp [Instr.sameNow, hb, List.find?_cons, hj]
theorem run_findKey {P : Program} {kt : TypeId} (hk : P.underlying kt = some (.int .i64)) (k : Int) (l : List (Int × Value)) (es : List MapEntry) (w : World) (h : es.map (fun e => (e.key, e.val)) = l.map (fun p => (Value.int .i64 p.1, p.2))) :
    ∃ j, (Instr.findKey kt (.int .i64 k) es).run P w = .ok ((l.find? (fun p => k == p.1)).map fun p => (j, p.2)) w := by
  obtain ⟨j, hj⟩ := find_at k l es 0 h
  refine ⟨j, ?_⟩
  unfold Instr.findKey
  simp only [Sem.run_bind, run_underlying hk, Result.andThen_ok, hj]
  rfl
theorem run_check {P : Program} {kt : TypeId} (hk : P.underlying kt = some (.int .i64)) (k : Int) (e : Bool) (w : World) : (Instr.checkKey e 10000 kt (.int .i64 k)).run P w = .ok () w := by
  rw [show (10000 : Nat) = 9999 + 1 from rfl]
  unfold Instr.checkKey
  simp only [Sem.run_bind, run_underlying hk, Result.andThen_ok]
  rfl
theorem run_put {P : Program} {t kt et : TypeId} (ht : P.underlying t = some (.map kt et)) (hk : P.underlying kt = some (.int .i64)) {w : World} {g : Nat} {l : List (Int × Value)} (h : MapAt w g l) (k : Int) (v : Value) (hn : l.find? (fun p => k == p.1) = none) :
    ∃ w', (Instr.mapUpdate t (.map (some g)) (.int .i64 k) v).run P w = .ok () w' ∧ MapAt w' g (l ++ [(k, v)]) ∧ w.grownBy w' (some g) := by
  obtain ⟨es, clock, hg, hl⟩ := h
  obtain ⟨j, hf⟩ := run_findKey hk k l es.toList w hl
  rw [hn] at hf
  have hlt : g < w.heap.size := (Array.getElem?_eq_some_iff.1 hg).1
  refine ⟨{ w with heap := w.heap.setIfInBounds g (.map (es.push { key := .int .i64 k, val := v, born := clock }) (clock + 1)) }, ?_, ⟨es.push { key := .int .i64 k, val := v, born := clock }, clock + 1, ?_, ?_⟩, ⟨rfl, rfl, rfl, by simp, fun i hi hne => ?_⟩⟩
  · unfold Instr.mapUpdate
    simp [Sem.run_bind, run_underlying ht, MapKept.run_getObj_map hg, run_check hk, hf, MapKept.run_setObj_map _ hg, Result.andThen]
  · show (w.heap.setIfInBounds g _)[g]? = _
    rw [Array.getElem?_setIfInBounds_self_of_lt hlt]
  · rw [Array.toList_push, List.map_append, hl, List.map_append]; rfl
  · show (w.heap.setIfInBounds g _)[i]? = _
    rw [Array.getElem?_setIfInBounds_ne (fun e => hne (by rw [e]))]
theorem run_get {P : Program} {t kt et : TypeId} (ht : P.underlying t = some (.map kt et)) (hk : P.underlying kt = some (.int .i64)) {w : World} {g : Nat} {l : List (Int × Value)} (h : MapAt w g l) (k : Int) (p : Int × Value) (hp : l.find? (fun p => k == p.1) = some p) :
    (Instr.lookup t (.map (some g)) (.int .i64 k) false).run P w = .ok p.2 w := by
  obtain ⟨es, clock, hg, hl⟩ := h
  obtain ⟨j, hf⟩ := run_findKey hk k l es.toList w hl
  rw [hp] at hf
  unfold Instr.lookup
  simp [Sem.run_bind, run_underlying ht, MapKept.run_getObj_map hg, run_check hk, hf, Result.andThen]
theorem run_miss {P : Program} {t kt et : TypeId} {z : Value} (ht : P.underlying t = some (.map kt et)) (hk : P.underlying kt = some (.int .i64)) (hz : ∀ w, (zeroValue et).run P w = .ok z w) {w : World} {g : Nat} {l : List (Int × Value)} (h : MapAt w g l) (k : Int) (hp : l.find? (fun p => k == p.1) = none) :
    (Instr.lookup t (.map (some g)) (.int .i64 k) false).run P w = .ok z w := by
  obtain ⟨es, clock, hg, hl⟩ := h
  obtain ⟨j, hf⟩ := run_findKey hk k l es.toList w hl
  rw [hp] at hf
  unfold Instr.lookup
  simp [Sem.run_bind, run_underlying ht, MapKept.run_getObj_map hg, run_check hk, hf, hz, Result.andThen]
theorem MapAt.new (w : World) : MapAt (w.alloc (.map #[] 0)) w.heap.size [] := ⟨#[], 0, heap_alloc_new w _, rfl⟩
theorem MapAt.grown {w w' : World} {g : Nat} {l : List (Int × Value)} {row : Option Nat} (h : MapAt w g l) (hg : w.grownBy w' row) (hne : some g ≠ row) : MapAt w' g l := by
  obtain ⟨es, clock, h1, h2⟩ := h
  exact ⟨es, clock, (hg.block g (Array.getElem?_eq_some_iff.1 h1).1 hne).trans h1, h2⟩
theorem wpl_insert {P : Program} {ops : Array Oper} {rest : List Oper} {o : Oper} {a : Act} {w : World} {Q : Exit → Act → World → Prop} (hgd : o.guard = none) (t : TypeId) (m x y : Operand) (ho : o.op = .insert t m x y)
    {kt et : TypeId} (ht : P.underlying t = some (.map kt et)) (hk : P.underlying kt = some (.int .i64)) (g : Nat) (k : Int) (v : Value) (hm : a.eval m = .map (some g)) (hx : a.eval x = .int .i64 k) (hy : a.eval y = v)
    (l : List (Int × Value)) (hM : MapAt w g l) (hn : l.find? (fun p => k == p.1) = none)
    (h : ∀ w', MapAt w' g (l ++ [(k, v)]) → w.grownBy w' (some g) → wpList P ops Q rest (a.put o.dst undef) w') : wpList P ops Q (o :: rest) a w :=
  wpList_plain hgd fun _ hK => by
    obtain ⟨w', hrun, h1, h2⟩ := run_put ht hk hM k v hn
    unfold Oper.wp execOp
    simp only [ho, hm, hx, hy, Sem.run_bind, hrun, Result.andThen_ok]
    exact hK _ _ (h w' h1 h2)
end Go.Proofs.Ytaadfalklddhcaa
