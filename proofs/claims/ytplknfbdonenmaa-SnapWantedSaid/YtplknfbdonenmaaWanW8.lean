/-
  Whether looks and heads are many, for lists of any length.
  Conditions: the looks lie in memory.
-/
import Derived.Test.YtplknfbdonenmaaSnapW5
namespace Go.Proofs.Ytplknfbdonenmaa
open Go.RowKit
set_option linter.unusedVariables false
set_option maxRecDepth 100000 in
theorem large_anyW (A A2 : Option Addr) (c c2 : Nat) (l : List Hed) (ks : List Lkv) (w : World) (hl : l.length ≤ 9223372036854775807) (hk : ks.length ≤ 9223372036854775807) (hr2 : Row w A2 (ks.flatMap Lkv.cells)) (hd : ∀ s ∈ ks, s.k.done.length ≤ 9223372036854775807) :
    Calls Try.prog 4 #[.slice A l.length c, .slice A2 ks.length c2] w (LargePost l ks w) := by
  obtain ⟨m1, hm1⟩ : ∃ m1, IntKind.i64.wrap (1 + (ks.length : Int)) = m1 := ⟨_, rfl⟩
  have hm1' : wrap64 (1 + (ks.length : Int)) = m1 := by rw [← hm1, IntKind.wrap_i64]; unfold wrap64; first | rfl | omega
  obtain ⟨m, hm⟩ : ∃ m, IntKind.i64.wrap ((l.length : Int) * m1) = m := ⟨_, rfl⟩
  have hm' : wrap64 ((l.length : Int) * m1) = m := by rw [← hm, IntKind.wrap_i64]; unfold wrap64; first | rfl | (generalize (l.length : Int) * m1 = z; omega)
  go_enter Try.func4, Try.ntmps4
  go_wp2
  clear hm hm' hm1 hm1'
  go_loop [6] (fun i => ∃ q : Nat, q ≤ ks.length ∧ q ≤ 300 ∧ i = .int .i64 q ∧ ∀ j : Nat, j < q → ∀ s, ks[j]? = some s → s.k.done.length ≤ 300) (fun i => ks.length - (intOf i).toNat)
  case atStart => exact ⟨0, by omega, by omega, rfl, fun j hj => absurd hj (by omega)⟩
  case round =>
    obtain ⟨q, hq, hq3, rfl, hall⟩ := hrel
    have HA := Lib.hid hall
    clear hall
    by_cases hlt : q < ks.length
    · by_cases h3 : q < 300
      · obtain ⟨s, hs⟩ : ∃ s, ks[q]? = some s := ⟨_, List.getElem?_eq_getElem hlt⟩
        obtain ⟨b, o, rfl, e1, e2, e3, e4⟩ := row_lkv hr2 hs
        have hdl := hd s (List.mem_of_getElem? hs)
        have HS := Lib.hid hs
        clear hs
        by_cases hbig : 300 < s.k.done.length
        · go_wp2
          go_ret
          exact ⟨true, rfl, (fun h => absurd h (by simp)), rfl⟩
        · go_wp2
          go_round
          case rel =>
            refine ⟨q + 1, by omega, by omega, by go_num, fun j hj s' hs' => ?_⟩
            by_cases e : j = q
            · subst e
              rw [HS.out] at hs'
              injection hs' with hs'
              subst hs'
              omega
            · exact HA.out j (by omega) s' hs'
          case measure => simp [intOf]; omega
      · go_wp2
        all_goals
          go_ret
          refine ⟨_, rfl, (fun h => ?_), rfl⟩
          exfalso
          first | (simp at h; done) | (simp at h; omega)
    · obtain rfl : q = ks.length := by omega
      have hall : ∀ s ∈ ks, s.k.done.length ≤ 300 := fun s hs => by
        obtain ⟨j, hj, e⟩ := List.getElem_of_mem hs
        exact HA.out j hj s (by rw [List.getElem?_eq_getElem hj, e])
      have HAL := Lib.hid hall
      clear hall hd
      go_wp2
      all_goals
        go_ret
        refine ⟨_, rfl, (fun h => ?_), rfl⟩
        first
          | (simp at h; done)
          | (simp at h; exact ⟨by omega, by omega, HAL.out⟩)
          | (exfalso; simp at h; omega)
end Go.Proofs.Ytplknfbdonenmaa
