/-
  What the reader's count reads, and the law's known answer.
  Conditions: the reader lies in a block of its own; its bytes lie in memory as a list.
-/
import Derived.Test.YtaadfalklddhcaaCodeW4
import Derived.Lib.BufferOwn
namespace Go.Proofs.Ytaadfalklddhcaa
open Go.RowKit Go.Sort Go.Lib
set_option linter.unusedVariables false
/-- A reader's method answers, and the reader alone has changed. -/
def RdStep (t : TypeId) (g : Nat) (v : Value) (r' : CodeM.Rd) (w : World) (e : Ending) (w' : World) : Prop := e = .returned v ∧ RdAt t w' g r' ∧ w.grownBy w' (some g)
/-- Its error is set. -/
theorem RdAt.fail {t : TypeId} {w : World} {g : Nat} {r : CodeM.Rd} (h : RdAt t w g r) (e : Nat) : RdAt t (w.setCell ⟨g, 1, none⟩ (.int .i64 (e : Int))) g ⟨r.l, e⟩ := by
  have hr := @RdAt.row t w (w.setCell ⟨g, 1, none⟩ (.int .i64 (e : Int))) g r h (grownBy_setCell w g 1 _)
  obtain ⟨A, n, c, hB, h1, h2, h3, h4⟩ := h
  exact ⟨A, n, c, hB.set_ 1 (.int .i64 (e : Int)), h1, h2, h3, hr h4⟩
theorem row_drop {w : World} {b o : Nat} {l : List UInt8} (h : Row w (some ⟨b, o, none⟩) (bs l)) (k : Nat) : Row w (some ⟨b, o + k, none⟩) (bs (l.drop k)) := by
  rcases h with h | ⟨b', o', e, hc⟩
  · left; rw [List.map_eq_nil_iff.1 h]; simp [bs]
  · simp only [Option.some.injEq, Addr.mk.injEq, and_true] at e
    obtain ⟨rfl, rfl⟩ := e
    refine .inr ⟨b, o + k, rfl, fun j u hu => ?_⟩
    rw [Nat.add_assoc]
    refine hc (k + j) u ?_
    unfold bs at hu ⊢
    rw [List.map_drop, List.getElem?_drop] at hu
    exact hu
theorem row_drop' {w : World} {A : Option Addr} {l : List UInt8} (h : Row w A (bs l)) (k : Nat) : Row w (A.map fun x => x.add k) (bs (l.drop k)) := by
  cases A with
  | none => left; rw [row_none h]; simp [bs]
  | some a =>
    rcases h with h | ⟨b, o, e, hc⟩
    · left; rw [List.map_eq_nil_iff.1 h]; simp [bs]
    · injection e with e; subst e
      have := row_drop (.inr ⟨b, o, rfl, hc⟩) k
      show Row w (some (Addr.add _ _)) _
      rw [Addr.add_lit]; exact this
/-- The reader has moved on. -/
theorem rd_moved {t : TypeId} {w : World} {g : Nat} {A : Option Addr} {c e : Nat} {l : List UInt8} (hB : Blk w g t #[.slice A l.length c, .int .i64 (e : Int)]) (hc : l.length ≤ c) (hn : l.length ≤ 140737488355328) (hc2 : c ≤ maxLen) (hrow : Row w A (bs l)) (k : Nat) (hk : k ≤ l.length) :
    (c = k → RdAt t (w.setCell ⟨g, 0, none⟩ (.slice A (l.length - k) 0)) g ⟨l.drop k, e⟩) ∧ RdAt t (w.setCell ⟨g, 0, none⟩ (.slice (A.map fun x => x.add k) (l.length - k) (c - k))) g ⟨l.drop k, e⟩ := by
  have hr : ∀ v (A2 : Option Addr) (m : List UInt8), Row w A2 (bs m) → Row (w.setCell ⟨g, 0, none⟩ v) A2 (bs m) := fun v A2 m h => row_other h hB (reader_apart _ _ _ _) (grownBy_setCell w g 0 v)
  refine ⟨?_, ?_⟩
  · rintro rfl
    have e0 : l.drop c = [] := List.drop_eq_nil_of_le hc
    refine ⟨A, l.length - c, 0, hB.set_ 0 _, by rw [List.length_drop], ⟨by omega, by omega⟩, by omega, ?_⟩
    left; show bs (l.drop c) = []
    rw [e0]; rfl
  · exact ⟨_, l.length - k, c - k, hB.set_ 0 _, by rw [List.length_drop], ⟨by omega, by omega⟩, by omega, hr _ _ _ (row_drop' hrow k)⟩
/-- Both writings of what has moved. -/
theorem rd_step {t : TypeId} {g : Nat} {v : Value} {r' : CodeM.Rd} {w w' : World} {b : Nat} {u : Value} (hv : w' = w.setCell ⟨g, b, none⟩ u) (h : RdAt t w' g r') : RdStep t g v r' w (.returned v) w' := ⟨rfl, h, hv ▸ grownBy_setCell w g b u⟩
namespace CodeM
theorem uv_fail {l : List UInt8} (h : cnt l = none) : Rd.uv ⟨l, 0⟩ = (0, ⟨l, 4⟩) := by simp [Rd.uv, h]
theorem uv_ok {l : List UInt8} {n k : Nat} (h : cnt l = some (n, k)) : Rd.uv ⟨l, 0⟩ = (n, ⟨l.drop k, 0⟩) := by simp [Rd.uv, h]
theorem uv_err {l : List UInt8} {e : Nat} (h : e ≠ 0) : Rd.uv ⟨l, e⟩ = (0, ⟨l, e⟩) := by simp [Rd.uv, h]
end CodeM
set_option maxRecDepth 100000 in
theorem uv_any (g : Nat) (r : CodeM.Rd) (w : World) (hr : RdAt 111 w g r) :
    Calls Try.prog 89 #[.pointer (some ⟨g, 0, none⟩)] w (RdStep 111 g (.int .u64 ((r.uv).1 : Nat)) (r.uv).2 w) := by
  have hr0 := Lib.hid hr
  obtain ⟨l, e⟩ := r
  obtain ⟨A, n, c, hB, rfl, ⟨hc, hn⟩, hc2, hrow⟩ := hr
  have c0 := hB.cell 0
  have c1 := hB.cell 1
  simp only [List.getElem?_toArray, List.getElem?_cons_zero, List.getElem?_cons_succ] at c0 c1
  dsimp only at hn hrow hc c1 c0
  have f0 := hB.frozen 0
  have f1 := hB.frozen 1
  go_enter Try.func89, Try.ntmps89
  go_wp2_with fail
  refine (err_any g _ w hr0.out).mono ?_
  rintro e1 w1 ⟨rfl, rfl⟩
  by_cases he : e = 0
  · subst he
    go_wp2_with fail
    refine (rcount_any g _ w hr0.out).mono ?_
    rintro e1 w1 ⟨n, k, ok, rfl, hcnt, rfl⟩
    cases ok with
    | false =>
      go_wp2
      go_ret
      rw [CodeM.uv_fail hcnt.out]
      exact rd_step rfl (hr0.out.fail 4)
    | true =>
      have hk := (CodeM.cnt_some hcnt.out).2.2.1
      have HM := Lib.hid (rd_moved (e := 0) hB hc hn hc2 hrow k hk)
      clear hB hrow
      go_wp2
      · go_ret
        rw [CodeM.uv_ok hcnt.out]
        refine rd_step rfl (HM.out.1 ?_)
        assumption
      · go_ret
        rw [CodeM.uv_ok hcnt.out]
        exact rd_step rfl HM.out.2
  · go_wp2
    go_ret
    rw [CodeM.uv_err he]
    exact ⟨rfl, hr0.out, World.grownBy.refl _ _⟩
end Go.Proofs.Ytaadfalklddhcaa
