/-
  What a look sees, by the program, and the law's known answer.
  Conditions: the stamps and the chain lie in memory as lists; the numbers fit.
-/
import Derived.Test.YteanmmdlgolljaaSnapW2
namespace Go.Proofs.Yteanmmdlgolljaa
open Go.RowKit
set_option linter.unusedVariables false
theorem indexHead_any (k : Lok) (A A2 : Option Addr) (c c2 g : Nat) (l : List Hed) (w : World) (hr : Row w A2 (l.flatMap Hed.cells)) (hl2 : l.length ≤ 9223372036854775807)
    (hr1 : Row w A (k.done.flatMap Stp.cells)) (hl : k.done.length ≤ 9223372036854775807) (hB : Blk w g 90 #[.int .u64 (k.self : Int), .int .u64 (k.start : Int), .int .u64 (k.base : Int), .slice A k.done.length c]) :
    Calls Try.prog 67 #[.slice A2 l.length c2, .func (.func 68) #[] #[.pointer (some ⟨g, 0, none⟩)]] w fun e w' => e = .returned (.int .i64 (sees k l)) ∧ Below w.heap.size w w' := by
  have HB := Lib.hid hB
  clear hB
  go_enter Try.func67, Try.ntmps67
  go_wp2
  go_loopw [5, 8] (fun _ i wr => ∃ q : Nat, q ≤ l.length ∧ i = .int .i64 q ∧ Below w.heap.size w wr ∧ ∀ j : Nat, j < q → (l[j]?.map (seesB k)) = some false) (fun _ i _ => l.length - (intOf i).toNat)
  case atStart => exact ⟨0, by omega, rfl, Below.refl _ _, fun j hj => absurd hj (by omega)⟩
  case round =>
    obtain ⟨q, hk, rfl, hbel, hall⟩ := hrel
    have HA := Lib.hid hall
    clear hall
    by_cases hlt : q < l.length
    · obtain ⟨s, hs⟩ : ∃ s, l[q]? = some s := ⟨_, List.getElem?_eq_getElem hlt⟩
      obtain ⟨b, o, rfl, e1, e2, e3⟩ := row_hed (hr.below hbel) hs
      have HS := Lib.hid hs
      clear hs
      cases hp : seesB k s with
      | true =>
        have HP := Lib.hid hp
        clear hp
        go_wp2_with (go_at_call 68; refine (sees1_any k s A c g _ (hr1.below hbel) hl (HB.out.below hbel HB.out.lt)).mono ?_; rintro e w1 ⟨rfl, hb1⟩; rw [HP.out])
        go_ret
        refine ⟨ret_int ?_, below_step hbel hb1 (Nat.le_refl _)⟩
        obtain ⟨h1, h2⟩ := List.getElem?_eq_some_iff.1 HS.out
        exact (ix_hit h1 (by rw [h2]; exact HP.out) HA.out).symm
      | false =>
        have HP := Lib.hid hp
        clear hp
        go_wp2_with (go_at_call 68; refine (sees1_any k s A c g _ (hr1.below hbel) hl (HB.out.below hbel HB.out.lt)).mono ?_; rintro e w1 ⟨rfl, hb1⟩; rw [HP.out])
        go_roundw
        case rel =>
          refine ⟨q + 1, by omega, by go_num, below_step hbel hb1 (Nat.le_refl _), fun j hj => ?_⟩
          by_cases e : j = q
          · subst e; rw [HS.out, Option.map_some, HP.out]
          · exact HA.out j (by omega)
        case measure => simp [intOf]; omega
    · obtain rfl : q = l.length := by omega
      go_wp2
      go_ret
      exact ⟨ret_int (ix_miss HA.out).symm, hbel⟩
theorem sees_any (k : Lok) (A A2 : Option Addr) (c c2 : Nat) (l : List Hed) (w : World) (hr : Row w A2 (l.flatMap Hed.cells)) (hl2 : l.length ≤ 9223372036854775807)
    (hr1 : Row w A (k.done.flatMap Stp.cells)) (hl : k.done.length ≤ 9223372036854775807) :
    Calls Try.prog 64 #[.agg #[.int .u64 (k.self : Int), .int .u64 (k.start : Int), .int .u64 (k.base : Int), .slice A k.done.length c], .slice A2 l.length c2] w fun e w' => e = .returned (.int .i64 (sees k l)) ∧ Below w.heap.size w w' := by
  go_enter Try.func64, Try.ntmps64
  go_wp2_with fail
  refine (indexHead_any k A A2 c c2 w.heap.size l _ (hr.alloc _) hl2 (hr1.alloc _) hl (Blk.new w _ _)).mono ?_
  rintro e w1 ⟨rfl, hb1⟩
  go_wp2
  go_ret
  exact ⟨rfl, below_step ((Below.refl w.heap.size w).alloc (Nat.le_refl _) _) hb1 (by simp)⟩
theorem row_new (w : World) (cs : Array Value) (t : TypeId) (fr : Nat × Nat) (xs : List Value) (h : cs.toList = xs) : Row (w.alloc (.cells cs t fr)) (some ⟨w.heap.size, 0, none⟩) xs :=
  .inr ⟨w.heap.size, 0, rfl, fun j u hu => by rw [cell_of_row _ w.heap.size (0 + j) cs t fr (heap_alloc_new w _), Nat.zero_add, ← Array.getElem?_toList, h, hu]⟩
theorem known17_any (w : World) :
    Calls Try.prog 48 #[] w fun e w' => e = .returned (.bool true) ∧ Below w.heap.size w w' := by
  have hk := Lib.hid (show sees ⟨8, 7, 4, [⟨5, 7⟩]⟩ [⟨6, false, false⟩, ⟨5, false, false⟩, ⟨3, false, false⟩] = 1 from by decide)
  go_enter Try.func48, Try.ntmps48
  go_wp2_with fail
  refine (sees_any ⟨8, 7, 4, [⟨5, 7⟩]⟩ (some ⟨w.heap.size, 0, none⟩) (some ⟨w.heap.size + 1 + 1, 0, none⟩) 1 3 [⟨6, false, false⟩, ⟨5, false, false⟩, ⟨3, false, false⟩] _ ?_ (by simp) (((row_new w _ _ _ [.int .u64 5, .int .u64 7] rfl).alloc _).alloc _) (by simp)).mono ?_
  · have := row_new ((w.alloc (.cells #[.int .u64 5, .int .u64 7] 87)).alloc (.cells #[.int .u64 8, .int .u64 7, .int .u64 4, .slice (some ⟨w.heap.size, 0, none⟩) 1 1] 90)) #[.int .u64 6, .bool false, .bool false, .int .u64 5, .bool false, .bool false, .int .u64 3, .bool false, .bool false] 93 (0, 0) _ rfl
    simpa [Hed.cells] using this
  rintro e w1 ⟨rfl, hb⟩
  rw [hk.out]
  go_wp2
  go_ret
  exact ⟨rfl, below_step ((((Below.refl w.heap.size w).alloc (Nat.le_refl _) _).alloc (by simp) _).alloc (by simp; omega) _) hb (by simp)⟩
end Go.Proofs.Yteanmmdlgolljaa
