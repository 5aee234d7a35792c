/-
  What a look sees: the program's Sees and what it calls.
  Conditions: the stamps and the chain lie in memory as lists; the numbers fit.
-/
import Derived.Test.YtplknfbdonenmaaSnapW1
namespace Go.Proofs.Ytplknfbdonenmaa
open Go.RowKit
set_option linter.unusedVariables false
def lokV (k : Lok) (A : Option Addr) (c : Nat) : Value := .agg #[.int .u64 (k.self : Int), .int .u64 (k.start : Int), .int .u64 (k.base : Int), .slice A k.done.length c]
set_option maxRecDepth 100000 in
theorem done_any (k : Lok) (t : Nat) (A : Option Addr) (c : Nat) (w : World) (hr : Row w A (k.done.flatMap Stp.cells)) (hl : k.done.length ≤ 9223372036854775807) :
    Calls Try.prog 10 #[.agg #[.int .u64 (k.self : Int), .int .u64 (k.start : Int), .int .u64 (k.base : Int), .slice A k.done.length c], .int .u64 (t : Int)] w fun e w' => e = .returned (.tuple #[.int .u64 (dAt k.done t : Int), .bool (dOk k.done t)]) ∧ Below w.heap.size w w' := by
  have hix := ix_range (isTxn t) k.done
  go_enter Try.func10, Try.ntmps10
  go_wp2_with fail
  refine (indexStamp_any A c t (w.heap.size + 1) k.done _ ((hr.alloc _).alloc _) hl (by simp)).mono ?_
  rintro e w1 ⟨rfl, hb1⟩
  by_cases hneg : ix (isTxn t) k.done < 0
  · have hd := doneAt_miss hneg
    have h1 : dAt k.done t = 0 := by unfold dAt; rw [hd]; rfl
    have h2 : dOk k.done t = false := by unfold dOk; rw [hd]; rfl
    have H1 := Lib.hid h1; have H2 := Lib.hid h2
    clear hd h1 h2
    go_wp2
    go_ret2
    rw [H1.out, H2.out]
    exact ⟨rfl, below_step (((Below.refl w.heap.size w).alloc (Nat.le_refl _) _).alloc (by simp) _) hb1 (by simp)⟩
  · obtain ⟨q, hq⟩ : ∃ q : Nat, ix (isTxn t) k.done = (q : Int) := ⟨(ix (isTxn t) k.done).toNat, by omega⟩
    obtain ⟨s, hs, hd⟩ := doneAt_hit hq
    have h1 : dAt k.done t = s.at_ := by unfold dAt; rw [hd]; rfl
    have h2 : dOk k.done t = true := by unfold dOk; rw [hd]; rfl
    have H1 := Lib.hid h1; have H2 := Lib.hid h2
    rw [hq] at hneg hix ⊢
    clear hd h1 h2 hq
    have hql : q < k.done.length := (List.getElem?_eq_some_iff.1 hs).1
    obtain ⟨b, o, rfl, e1, e2⟩ := row_stp (((hr.alloc _).alloc _).below hb1) hs
    clear hs
    have f0 : w1.cell? ⟨w.heap.size, 3, none⟩ = some (.slice (some ⟨b, o, none⟩) k.done.length c) := by
      refine cell_below hb1 ?_
      have := (Blk.new w 31 #[.int .u64 (k.self : Int), .int .u64 (k.start : Int), .int .u64 (k.base : Int), .slice (some ⟨b, o, none⟩) k.done.length c])
      exact (this.alloc _).cell 3
    go_wp2
    go_ret2
    rw [H1.out, H2.out]
    exact ⟨rfl, below_step (((Below.refl w.heap.size w).alloc (Nat.le_refl _) _).alloc (by simp) _) hb1 (by simp)⟩
/-- The closure of Sees. -/
theorem sees1_any (k : Lok) (h : Hed) (A : Option Addr) (c g : Nat) (w : World) (hr : Row w A (k.done.flatMap Stp.cells)) (hl : k.done.length ≤ 9223372036854775807)
    (hB : Blk w g 31 #[.int .u64 (k.self : Int), .int .u64 (k.start : Int), .int .u64 (k.base : Int), .slice A k.done.length c]) :
    Calls Try.prog 15 #[.agg #[.int .u64 (h.txn : Int), .bool h.dead, .bool h.gone], .pointer (some ⟨g, 0, none⟩)] w fun e w' => e = .returned (.bool (seesB k h)) ∧ Below w.heap.size w w' := by
  have hg := hB.lt
  have c0 := hB.cell 0
  have c1 := hB.cell 1
  have c2 := hB.cell 2
  have c3 := hB.cell 3
  simp only [List.getElem?_toArray, List.getElem?_cons_zero, List.getElem?_cons_succ] at c0 c1 c2 c3
  cases hd : h.dead with
  | true =>
    have HF := Lib.hid (show seesB k h = false from by unfold seesB; rw [hd]; rfl)
    go_enter Try.func15, Try.ntmps15
    go_wp2
    go_ret
    rw [HF.out]
    exact ⟨rfl, (Below.refl _ _).alloc (Nat.le_refl _) _⟩
  | false =>
    have hs : seesB k h = ((k.self != 0 && h.txn == k.self) || decide (h.txn < k.base) || (dOk k.done h.txn && decide (dAt k.done h.txn ≤ k.start))) := by
      unfold seesB dOk dAt
      rw [hd]
      cases doneAt k.done h.txn <;> simp
    have HS := Lib.hid hs
    have HD := Lib.hid hd
    clear hs
    go_enter Try.func15, Try.ntmps15
    go_wp2_with fail
    refine (done_any k h.txn A c _ (hr.alloc _) hl).mono ?_
    rintro e w1 ⟨rfl, hb1⟩
    have hbw : Below w.heap.size w w1 := below_step ((Below.refl w.heap.size w).alloc (Nat.le_refl _) _) hb1 (by simp)
    have f0 := cell_below hbw c0
    have f1 := cell_below hbw c1
    have f2 := cell_below hbw c2
    have hN := Blk.below (Blk.new w 36 #[.int .u64 (h.txn : Int), .bool false, .bool h.gone]) hb1 (by simp)
    have f4 := hN.cell 0
    simp only [List.getElem?_toArray, List.getElem?_cons_zero] at f4
    clear c0 c1 c2 c3 hN hd hB hg
    generalize dOk k.done h.txn = ok at *
    generalize dAt k.done h.txn = at_ at *
    go_wp2
    all_goals
      go_ret
      refine ⟨ret_bool ?_, hbw⟩
      rw [HS.out]
      cases ok <;> (rw [Bool.eq_iff_iff]; simp at *) <;> first | done | omega
end Go.Proofs.Ytplknfbdonenmaa
