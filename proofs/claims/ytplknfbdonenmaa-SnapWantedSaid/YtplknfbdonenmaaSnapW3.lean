/-
  What a look sees: the program's Sees, the document's Sees, and what they call.
  Conditions: the stamps and the chain lie in memory as lists; the numbers fit.
-/
import Derived.Test.YtplknfbdonenmaaSnapW2
namespace Go.Proofs.Ytplknfbdonenmaa
open Go.RowKit
set_option linter.unusedVariables false
theorem indexHead_any (k : Lok) (A A2 : Option Addr) (c c2 g : Nat) (l : List Hed) (w : World) (hr : Row w A2 (l.flatMap Hed.cells)) (hl2 : l.length ≤ 9223372036854775807)
    (hr1 : Row w A (k.done.flatMap Stp.cells)) (hl : k.done.length ≤ 9223372036854775807) (hB : Blk w g 31 #[.int .u64 (k.self : Int), .int .u64 (k.start : Int), .int .u64 (k.base : Int), .slice A k.done.length c]) :
    Calls Try.prog 14 #[.slice A2 l.length c2, .func (.func 15) #[] #[.pointer (some ⟨g, 0, none⟩)]] w fun e w' => e = .returned (.int .i64 (sees k l)) ∧ Below w.heap.size w w' := by
  have HB := Lib.hid hB
  clear hB
  go_enter Try.func14, Try.ntmps14
  go_wp2
  go_loopw [5, 8] (fun _ i wr => ∃ q : Nat, q ≤ l.length ∧ i = .int .i64 q ∧ Below w.heap.size w wr ∧ ∀ j : Nat, j < q → (l[j]?.map (seesB k)) = some false) (fun _ i _ => l.length - (intOf i).toNat)
  case atStart => exact ⟨0, by omega, rfl, Below.refl _ _, fun j hj => absurd hj (by omega)⟩
  case round =>
    obtain ⟨q, hk, rfl, hbel, hall⟩ := hrel
    have HA := Lib.hid hall
    clear hall
    by_cases hlt : q < l.length
    · obtain ⟨s, hs⟩ : ∃ s, l[q]? = some s := ⟨_, List.getElem?_eq_getElem hlt⟩
      obtain ⟨b, o, rfl, e1, e2, e3⟩ := row_hed (hr.below hbel) hs
      have HS := Lib.hid hs
      clear hs
      cases hp : seesB k s with
      | true =>
        have HP := Lib.hid hp
        clear hp
        go_wp2_with (go_at_call 15; refine (sees1_any k s A c g _ (hr1.below hbel) hl (HB.out.below hbel HB.out.lt)).mono ?_; rintro e w1 ⟨rfl, hb1⟩; rw [HP.out])
        go_ret
        refine ⟨ret_int ?_, below_step hbel hb1 (Nat.le_refl _)⟩
        obtain ⟨h1, h2⟩ := List.getElem?_eq_some_iff.1 HS.out
        exact (ix_hit h1 (by rw [h2]; exact HP.out) HA.out).symm
      | false =>
        have HP := Lib.hid hp
        clear hp
        go_wp2_with (go_at_call 15; refine (sees1_any k s A c g _ (hr1.below hbel) hl (HB.out.below hbel HB.out.lt)).mono ?_; rintro e w1 ⟨rfl, hb1⟩; rw [HP.out])
        go_roundw
        case rel =>
          refine ⟨q + 1, by omega, by go_num, below_step hbel hb1 (Nat.le_refl _), fun j hj => ?_⟩
          by_cases e : j = q
          · subst e; rw [HS.out, Option.map_some, HP.out]
          · exact HA.out j (by omega)
        case measure => simp [intOf]; omega
    · obtain rfl : q = l.length := by omega
      go_wp2
      go_ret
      exact ⟨ret_int (ix_miss HA.out).symm, hbel⟩
theorem sees_any (k : Lok) (A A2 : Option Addr) (c c2 : Nat) (l : List Hed) (w : World) (hr : Row w A2 (l.flatMap Hed.cells)) (hl2 : l.length ≤ 9223372036854775807)
    (hr1 : Row w A (k.done.flatMap Stp.cells)) (hl : k.done.length ≤ 9223372036854775807) :
    Calls Try.prog 8 #[.agg #[.int .u64 (k.self : Int), .int .u64 (k.start : Int), .int .u64 (k.base : Int), .slice A k.done.length c], .slice A2 l.length c2] w fun e w' => e = .returned (.int .i64 (sees k l)) ∧ Below w.heap.size w w' := by
  go_enter Try.func8, Try.ntmps8
  go_wp2_with fail
  refine (indexHead_any k A A2 c c2 w.heap.size l _ (hr.alloc _) hl2 (hr1.alloc _) hl (Blk.new w _ _)).mono ?_
  rintro e w1 ⟨rfl, hb1⟩
  go_wp2
  go_ret
  exact ⟨rfl, below_step ((Below.refl w.heap.size w).alloc (Nat.le_refl _) _) hb1 (by simp)⟩
theorem refat_any (k : Lok) (t : Nat) (A : Option Addr) (c : Nat) (w : World) (hr : Row w A (k.done.flatMap Stp.cells)) (hl : k.done.length ≤ 9223372036854775807) :
    Calls Try.prog 20 #[.agg #[.int .u64 (k.self : Int), .int .u64 (k.start : Int), .int .u64 (k.base : Int), .slice A k.done.length c], .int .u64 (t : Int)] w fun e w' => e = .returned (.tuple #[.int .u64 (dAt k.done t : Int), .bool (dOk k.done t)]) ∧ Below w.heap.size w w' := by
  go_enter Try.func20, Try.ntmps20
  go_wp2
  have f3 : (w.alloc (.cells #[.int .u64 (k.self : Int), .int .u64 (k.start : Int), .int .u64 (k.base : Int), .slice A k.done.length c] 31)).cell? ⟨w.heap.size, 3, none⟩ = some (.slice A k.done.length c) := by simp
  have hr' := hr.alloc (.cells #[.int .u64 (k.self : Int), .int .u64 (k.start : Int), .int .u64 (k.base : Int), .slice A k.done.length c] 31)
  go_loop [6] (fun i => ∃ q : Nat, q ≤ k.done.length ∧ i = .int .i64 q ∧ ∀ j : Nat, j < q → (k.done[j]?.map (isTxn t)) = some false) (fun i => k.done.length - (intOf i).toNat)
  case atStart => exact ⟨0, by omega, rfl, fun j hj => absurd hj (by omega)⟩
  case round =>
    obtain ⟨q, hk, rfl, hall⟩ := hrel
    have HA := Lib.hid hall
    clear hall
    by_cases hlt : q < k.done.length
    · obtain ⟨s, hs⟩ : ∃ s, k.done[q]? = some s := ⟨_, List.getElem?_eq_getElem hlt⟩
      obtain ⟨b, o, rfl, e1, e2⟩ := row_stp hr' hs
      have HS := Lib.hid hs
      clear hs
      cases hp : isTxn t s with
      | true =>
        have hq : ((s.txn : Int) == (t : Int)) = true := hp
        have HP := Lib.hid hp
        clear hp
        go_wp2
        go_ret2
        obtain ⟨h1, h2⟩ := List.getElem?_eq_some_iff.1 HS.out
        obtain ⟨s', hs', hd⟩ := doneAt_hit (ix_hit h1 (by rw [h2]; exact HP.out) HA.out)
        rw [HS.out] at hs'
        injection hs' with hs'
        subst hs'
        unfold dAt dOk
        rw [hd]
        exact ⟨rfl, (Below.refl _ _).alloc (Nat.le_refl _) _⟩
      | false =>
        have hq : ((s.txn : Int) == (t : Int)) = false := hp
        have HP := Lib.hid hp
        clear hp
        go_wp2
        go_round
        case rel =>
          refine ⟨q + 1, by omega, by go_num, fun j hj => ?_⟩
          by_cases e : j = q
          · subst e; rw [HS.out, Option.map_some, HP.out]
          · exact HA.out j (by omega)
        case measure => simp [intOf]; omega
    · obtain rfl : q = k.done.length := by omega
      go_wp2
      go_ret2
      unfold dAt dOk
      rw [doneAt_miss (by rw [ix_miss HA.out]; omega)]
      exact ⟨rfl, (Below.refl _ _).alloc (Nat.le_refl _) _⟩
end Go.Proofs.Ytplknfbdonenmaa
