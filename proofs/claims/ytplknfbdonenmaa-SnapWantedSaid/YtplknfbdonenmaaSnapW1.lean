/-
  What the look-up of a stamp returns: the program's (done) and the document's (at).
  Conditions: the stamps lie in memory as a list; the numbers fit.
-/
import Derived.Test.YtplknfbdonenmaaRows
import Derived.Test.YtplknfbdonenmaaSnapM
namespace Go.Proofs.Ytplknfbdonenmaa
open Go.RowKit
set_option linter.unusedVariables false
theorem done1_any (s : Stp) (t g : Nat) (w : World) (hc : w.cell? ⟨g, 0, none⟩ = some (.int .u64 (t : Int))) :
    Calls Try.prog 17 #[.agg #[.int .u64 (s.txn : Int), .int .u64 (s.at_ : Int)], .pointer (some ⟨g, 0, none⟩)] w fun e w' => e = .returned (.bool (isTxn t s)) ∧ Below w.heap.size w w' := by
  have hg := World.block_lt_of_cell? w _ hc
  go_enter Try.func17, Try.ntmps17
  go_wp2
  go_ret
  exact ⟨rfl, (Below.refl _ _).alloc (Nat.le_refl _) _⟩
theorem indexStamp_any (A : Option Addr) (c t g : Nat) (l : List Stp) (w : World) (hr : Row w A (l.flatMap Stp.cells)) (hl : l.length ≤ 9223372036854775807) (hc : w.cell? ⟨g, 0, none⟩ = some (.int .u64 (t : Int))) :
    Calls Try.prog 16 #[.slice A l.length c, .func (.func 17) #[] #[.pointer (some ⟨g, 0, none⟩)]] w fun e w' => e = .returned (.int .i64 (ix (isTxn t) l)) ∧ Below w.heap.size w w' := by
  go_enter Try.func16, Try.ntmps16
  go_wp2
  go_loopw [5, 8] (fun _ i wr => ∃ k : Nat, k ≤ l.length ∧ i = .int .i64 k ∧ Below w.heap.size w wr ∧ ∀ j : Nat, j < k → (l[j]?.map (isTxn t)) = some false) (fun _ i _ => l.length - (intOf i).toNat)
  case atStart => exact ⟨0, by omega, rfl, Below.refl _ _, fun j hj => absurd hj (by omega)⟩
  case round =>
    obtain ⟨k, hk, rfl, hbel, hall⟩ := hrel
    have HA := Lib.hid hall
    clear hall
    by_cases hlt : k < l.length
    · obtain ⟨s, hs⟩ : ∃ s, l[k]? = some s := ⟨_, List.getElem?_eq_getElem hlt⟩
      obtain ⟨b, o, rfl, e1, e2⟩ := row_stp (hr.below hbel) hs
      have hc' := cell_below hbel hc
      have HS := Lib.hid hs
      clear hs
      cases hp : isTxn t s with
      | true =>
        have HP := Lib.hid hp
        clear hp
        go_wp2_with (go_at_call 17; refine (done1_any s t g _ hc').mono ?_; rintro e w1 ⟨rfl, hb1⟩; rw [HP.out])
        go_ret
        refine ⟨ret_int ?_, below_step hbel hb1 (Nat.le_refl _)⟩
        obtain ⟨h1, h2⟩ := List.getElem?_eq_some_iff.1 HS.out
        exact (ix_hit h1 (by rw [h2]; exact HP.out) HA.out).symm
      | false =>
        have HP := Lib.hid hp
        clear hp
        go_wp2_with (go_at_call 17; refine (done1_any s t g _ hc').mono ?_; rintro e w1 ⟨rfl, hb1⟩; rw [HP.out])
        go_roundw
        case rel =>
          refine ⟨k + 1, by omega, by go_num, below_step hbel hb1 (Nat.le_refl _), fun j hj => ?_⟩
          by_cases e : j = k
          · subst e; rw [HS.out, Option.map_some, HP.out]
          · exact HA.out j (by omega)
        case measure => simp [intOf]; omega
    · obtain rfl : k = l.length := by omega
      go_wp2
      go_ret
      exact ⟨ret_int (ix_miss HA.out).symm, hbel⟩
end Go.Proofs.Ytplknfbdonenmaa
