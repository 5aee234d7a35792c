/-
  What a look sees: the document's Sees; the law's own helpers large and known.
  Conditions: the stamps, the looks and the chain lie in memory as lists; the numbers fit.
-/
import Derived.Test.YtplknfbdonenmaaSnapW3
namespace Go.Proofs.Ytplknfbdonenmaa
open Go.RowKit
set_option linter.unusedVariables false
theorem committed_any (k : Lok) (t : Nat) (A : Option Addr) (c : Nat) (w : World) (hr : Row w A (k.done.flatMap Stp.cells)) (hl : k.done.length ≤ 9223372036854775807) :
    Calls Try.prog 19 #[.agg #[.int .u64 (k.self : Int), .int .u64 (k.start : Int), .int .u64 (k.base : Int), .slice A k.done.length c], .int .u64 (t : Int)] w fun e w' => e = .returned (.bool (decide (t < k.base) || (dOk k.done t && decide (dAt k.done t ≤ k.start)))) ∧ Below w.heap.size w w' := by
  go_enter Try.func19, Try.ntmps19
  go_wp2_with fail
  refine (refat_any k t A c _ (hr.alloc _) hl).mono ?_
  rintro e w1 ⟨rfl, hb1⟩
  have hB := Blk.below (Blk.new w 31 #[.int .u64 (k.self : Int), .int .u64 (k.start : Int), .int .u64 (k.base : Int), .slice A k.done.length c]) hb1 (by simp)
  have f1 := hB.cell 1
  have f2 := hB.cell 2
  simp only [List.getElem?_toArray, List.getElem?_cons_zero, List.getElem?_cons_succ] at f1 f2
  have hbw : Below w.heap.size w w1 := below_step ((Below.refl w.heap.size w).alloc (Nat.le_refl _) _) hb1 (by simp)
  clear hB hb1
  obtain ⟨ok, e1⟩ : ∃ ok, dOk k.done t = ok := ⟨_, rfl⟩
  obtain ⟨at_, e2⟩ : ∃ at_, dAt k.done t = at_ := ⟨_, rfl⟩
  rw [e1, e2]
  have E1 := Lib.hid e1; have E2 := Lib.hid e2
  clear e1 e2
  go_wp2
  all_goals
    go_ret
    refine ⟨ret_bool ?_, hbw⟩
    rw [E1.out, E2.out]
    cases ok <;> (rw [Bool.eq_iff_iff]; simp at *) <;> first | done | omega
set_option maxRecDepth 100000 in
theorem refsees_any (k : Lok) (A A2 : Option Addr) (c c2 : Nat) (l : List Hed) (w : World) (hr : Row w A2 (l.flatMap Hed.cells)) (hl2 : l.length ≤ 9223372036854775807)
    (hr1 : Row w A (k.done.flatMap Stp.cells)) (hl : k.done.length ≤ 9223372036854775807) :
    Calls Try.prog 12 #[.agg #[.int .u64 (k.self : Int), .int .u64 (k.start : Int), .int .u64 (k.base : Int), .slice A k.done.length c], .slice A2 l.length c2] w fun e w' => e = .returned (.int .i64 (sees k l)) ∧ Below w.heap.size w w' := by
  go_enter Try.func12, Try.ntmps12
  go_wp2
  have hb0 := (Below.refl w.heap.size w).alloc (Nat.le_refl _) (.cells #[.int .u64 (k.self : Int), .int .u64 (k.start : Int), .int .u64 (k.base : Int), .slice A k.done.length c] 31)
  go_loopw [5] (fun i wr => ∃ q : Nat, q ≤ l.length ∧ i = .int .i64 q ∧ Below w.heap.size w wr ∧ Blk wr w.heap.size 31 #[.int .u64 (k.self : Int), .int .u64 (k.start : Int), .int .u64 (k.base : Int), .slice A k.done.length c] ∧ ∀ j : Nat, j < q → (l[j]?.map (seesB k)) = some false) (fun i _ => l.length - (intOf i).toNat)
  case atStart => exact ⟨0, by omega, rfl, hb0, Blk.new w _ _, fun j hj => absurd hj (by omega)⟩
  case round =>
    obtain ⟨q, hk, rfl, hbel, hB, hall⟩ := hrel
    have HA := Lib.hid hall
    clear hall
    by_cases hlt : q < l.length
    · obtain ⟨s, hs⟩ : ∃ s, l[q]? = some s := ⟨_, List.getElem?_eq_getElem hlt⟩
      obtain ⟨b, o, rfl, e1, e2, e3⟩ := row_hed (hr.below hbel) hs
      obtain ⟨tx, dd, gg⟩ := s
      dsimp only at e1 e2 e3
      have HS := Lib.hid hs
      clear hs
      have c0 := hB.cell 0
      have c1 := hB.cell 1
      have c2 := hB.cell 2
      have c3 := hB.cell 3
      simp only [List.getElem?_toArray, List.getElem?_cons_zero, List.getElem?_cons_succ] at c0 c1 c2 c3
      have hBl := hB.lt
      have HB := Lib.hid hB
      clear hB
      cases dd with
      | true =>
        have HF := Lib.hid (show seesB k ⟨tx, true, gg⟩ = false from rfl)
        go_wp2
        go_roundw
        case rel =>
          refine ⟨q + 1, by omega, by go_num, hbel.alloc hbel.size _, HB.out.alloc _, fun j hj => ?_⟩
          by_cases e : j = q
          · subst e; rw [HS.out, Option.map_some, HF.out]
          · exact HA.out j (by omega)
        case measure => simp [intOf]; omega
      | false =>
        have hs : seesB k ⟨tx, false, gg⟩ = ((k.self != 0 && tx == k.self) || (decide (tx < k.base) || (dOk k.done tx && decide (dAt k.done tx ≤ k.start)))) := seesB_live k tx gg
        have hcomm := fun W (h : Below w.heap.size w W) => committed_any k tx A c W (hr1.below h) hl
        obtain ⟨cb, hcb⟩ : ∃ cb, (decide (tx < k.base) || (dOk k.done tx && decide (dAt k.done tx ≤ k.start))) = cb := ⟨_, rfl⟩
        rw [hcb] at hcomm hs
        have HC := Lib.hid hcomm
        clear hcomm hcb
        have hb1 := hbel.alloc hbel.size (.cells #[.int .u64 (tx : Int), .bool false, .bool gg] 36)
        have out : ∀ r, seesB k ⟨tx, false, gg⟩ = r → (r = true → sees k l = q) ∧ (r = false → ∀ j : Nat, j < q + 1 → (l[j]?.map (seesB k)) = some false) := by
          intro r hr'
          refine ⟨fun h => ?_, fun h j hj => ?_⟩
          · obtain ⟨h1, h2⟩ := List.getElem?_eq_some_iff.1 HS.out
            exact ix_hit h1 (by rw [h2, hr', h]) HA.out
          · by_cases e : j = q
            · subst e; rw [HS.out, Option.map_some, hr', h]
            · exact HA.out j (by omega)
        by_cases q2 : k.self ≠ 0 ∧ tx = k.self
        · have t1 : ((k.self : Int) != 0) = true := by rw [bne_iff_ne]; omega
          have t2 : ((tx : Int) == (k.self : Int)) = true := by rw [beq_iff_eq]; omega
          have HO := Lib.hid ((out true (by rw [hs]; simp [q2])).1 rfl)
          clear out hs q2
          go_wp2
          go_ret
          exact ⟨ret_int HO.out.symm, hb1⟩
        · have hsf : seesB k ⟨tx, false, gg⟩ = cb := by
            rw [hs]
            have : (k.self != 0 && tx == k.self) = false := by
              rw [Bool.and_eq_false_iff, bne_eq_false_iff_eq, beq_eq_false_iff_ne]
              omega
            rw [this, Bool.false_or]
          have HO := Lib.hid (out cb hsf)
          clear out hs hsf
          have hz : (k.self : Int) = 0 ∨ ((k.self : Int) ≠ 0 ∧ ¬ (tx : Int) = (k.self : Int)) := by omega
          clear q2
          rcases hz with hz | ⟨hz, hz2⟩
          · have t1 : ((k.self : Int) != 0) = false := by rw [bne_eq_false_iff_eq]; exact hz
            clear hz
            cases cb with
            | true =>
              go_wp2_with (go_at_call 19; refine (HC.out _ hb1).mono ?_; rintro e w1 ⟨rfl, hb2⟩)
              go_ret
              exact ⟨ret_int (HO.out.1 (by trivial)).symm, below_step hb1 hb2 (Nat.le_refl _)⟩
            | false =>
              go_wp2_with (go_at_call 19; refine (HC.out _ hb1).mono ?_; rintro e w1 ⟨rfl, hb2⟩)
              go_roundw
              case rel => exact ⟨q + 1, by omega, by go_num, below_step hb1 hb2 (Nat.le_refl _), (HB.out.alloc _).below hb2 (by simp; omega), HO.out.2 (by trivial)⟩
              case measure => simp [intOf]; omega
          · have t1 : ((k.self : Int) != 0) = true := by rw [bne_iff_ne]; exact hz
            have t2 : ((tx : Int) == (k.self : Int)) = false := by rw [beq_eq_false_iff_ne]; exact hz2
            clear hz hz2
            cases cb with
            | true =>
              go_wp2_with (go_at_call 19; refine (HC.out _ hb1).mono ?_; rintro e w1 ⟨rfl, hb2⟩)
              go_ret
              exact ⟨ret_int (HO.out.1 (by trivial)).symm, below_step hb1 hb2 (Nat.le_refl _)⟩
            | false =>
              go_wp2_with (go_at_call 19; refine (HC.out _ hb1).mono ?_; rintro e w1 ⟨rfl, hb2⟩)
              go_roundw
              case rel => exact ⟨q + 1, by omega, by go_num, below_step hb1 hb2 (Nat.le_refl _), (HB.out.alloc _).below hb2 (by simp; omega), HO.out.2 (by trivial)⟩
              case measure => simp [intOf]; omega
    · obtain rfl : q = l.length := by omega
      go_wp2
      go_ret
      exact ⟨ret_int (ix_miss HA.out).symm, hbel⟩
end Go.Proofs.Ytplknfbdonenmaa
