/-
  Whether some record, or some hit, of a list may not be (MayTell's two closures, slices.ContainsFunc, slices.IndexFunc).
  Conditions: the list lies in memory.
-/
import Derived.Test.YtaadfalklddhcaaZStmR1
import Derived.Test.YtaadfalklddhcaaZStmN
import Derived.Test.YtaadfalklddhcaaZEj
namespace Go.Proofs.Ytaadfalklddhcaa
open Go.RowKit Go.Sort Go.Lib
set_option linter.unusedVariables false
set_option linter.unusedSimpArgs false
/-- An index, below zero where p. -/
def IndexP (p : Prop) (w : World) (e : Ending) (w' : World) : Prop := ∃ i : Int, e = .returned (.int .i64 i) ∧ (i < 0 ↔ p) ∧ -1 ≤ i ∧ Below w.heap.size w w'
set_option maxRecDepth 100000 in
theorem badItem_any (s : Itv) (w : World) (h1 : s.x.vec.length ≤ 9223372036854775807) (h2 : s.x.note.length ≤ 9223372036854775807) :
    Calls Try.prog 49 #[.agg #[.int .u64 (s.x.key : Int), .slice s.A s.x.vec.length s.c, .slice s.A2 s.x.note.length s.c2]] w (BoolP (decide (¬ ItemM.may s.x = 0)) w) := by
  have b0 : Below w.heap.size w (w.alloc (.cells #[.int .u64 (s.x.key : Int), .slice s.A s.x.vec.length s.c, .slice s.A2 s.x.note.length s.c2] 30)) := (Below.refl _ _).alloc (Nat.le_refl _) _
  have HB0 := Lib.hid b0
  have HC := Lib.hid (may_any s.x.key s.A s.A2 s.x.vec.length s.c s.x.note.length s.c2 (w.alloc (.cells #[.int .u64 (s.x.key : Int), .slice s.A s.x.vec.length s.c, .slice s.A2 s.x.note.length s.c2] 30)) h1 h2)
  clear b0 h1 h2
  go_enter Try.func49, Try.ntmps49
  go_wp2_with fail
  refine HC.out.mono ?_
  rintro e w2 ⟨rfl, hb⟩
  have hbb := below_join HB0.out hb
  obtain ⟨m, hm⟩ : ∃ m, ItemM.may s.x = m := ⟨_, rfl⟩
  have hm' : (if s.x.vec.length = 0 ∨ 4096 < s.x.vec.length then 9 else if 1024 < s.x.note.length then 3 else 0 : Nat) = m := hm
  rw [hm]
  simp only [hm']
  go_wp2
  go_ret
  refine ⟨?_, hbb⟩
  by_cases h : m = 0
  · simp [hm, h]
  · simp [hm, h]
set_option maxRecDepth 100000 in
theorem badHit_any (s : Nat × Int) (w : World) : Calls Try.prog 51 #[.agg #[.int .u64 (s.1 : Int), .int .i64 s.2]] w (BoolP (decide (s.2 < 0)) w) := by
  have b0 : Below w.heap.size w (w.alloc (.cells #[.int .u64 (s.1 : Int), .int .i64 s.2] 67)) := (Below.refl _ _).alloc (Nat.le_refl _) _
  go_enter Try.func51, Try.ntmps51
  go_wp2
  go_ret
  exact ⟨rfl, b0⟩
set_option maxRecDepth 100000 in
set_option maxHeartbeats 4000000 in
theorem indexItem_any (A : Option Addr) (n c : Nat) (l : List Itv) (w : World) (hr : Row w A (l.flatMap Itv.cells)) (ha : ∀ s ∈ l, s.At w) (hl : l.length = n) (hm : n ≤ 9223372036854775807) :
    Calls Try.prog 96 #[.slice A n c, .func (.func 49) #[] #[]] w (IndexP (∀ s ∈ l, ItemM.may s.x = 0) w) := by
  have HL := Lib.hid hl
  have HA := Lib.hid ha
  clear ha
  have HR := Lib.hid hr
  clear hl hr
  go_enter Try.func96, Try.ntmps96
  go_wp2
  go_loopw [5, 8] (fun _ i wr => ∃ k : Nat, i = .int .i64 (k : Int) ∧ k ≤ n ∧ Below w.heap.size w wr ∧ Hid (∀ j s, j < k → l[j]? = some s → ItemM.may s.x = 0)) (fun _ i _ => n - (RowKit.intOf i).toNat)
  case atStart => exact ⟨0, rfl, Nat.zero_le _, Below.refl _ _, Lib.hid fun j s hj => by omega⟩
  case round =>
    obtain ⟨k, rfl, hk, hbel, HE⟩ := hrel
    by_cases hlt : k < n
    · obtain ⟨s, hs⟩ : ∃ s, l[k]? = some s := ⟨_, List.getElem?_eq_getElem (by rw [HL.out]; exact hlt)⟩
      obtain ⟨b, o, rfl, e1, e2, e3⟩ := row_itv (HR.out.below hbel) hs
      have sA := (HA.out s (List.mem_of_getElem? hs)).below hbel
      have HC := Lib.hid (badItem_any s wr (Nat.le_trans (Nat.le_trans sA.l1 sA.m1) (by unfold maxLen; omega)) (Nat.le_trans (Nat.le_trans sA.l2 sA.m2) (by unfold maxLen; omega)))
      have HX := Lib.hid (And.intro hs hbel)
      clear hs hbel sA
      go_wp2_with fail
      refine HC.out.mono ?_
      rintro e w2 ⟨rfl, hb2⟩
      have HB2 := Lib.hid (below_step HX.out.2 hb2 (Nat.le_refl _))
      clear hb2 HC e1 e2 e3
      by_cases hst : ItemM.may s.x = 0
      · rw [decide_eq_false (fun q => q hst)]
        go_wp2
        go_roundw
        case rel =>
          refine ⟨k + 1, by go_num, by omega, HB2.out, Lib.hid fun j s' hj hs' => ?_⟩
          by_cases e : j = k
          · subst e
            have e2 := HX.out.1.symm.trans hs'
            injection e2 with e2
            rw [← e2]; exact hst
          · exact HE.out j s' (by omega) hs'
        case measure => simp [RowKit.intOf]; omega
      · rw [decide_eq_true hst]
        go_wp2
        go_ret
        exact ⟨(k : Int), rfl, ⟨fun h => by omega, fun h => absurd (h s (List.mem_of_getElem? HX.out.1)) (by first | exact hst | omega)⟩, by omega, HB2.out⟩
    · obtain rfl : k = n := by omega
      go_wp2
      go_ret
      refine ⟨-1, rfl, ⟨fun _ s hs => ?_, fun _ => by decide⟩, by omega, hbel⟩
      obtain ⟨j, hj, e⟩ := List.getElem_of_mem hs
      exact HE.out j s (by rw [← HL.out]; exact hj) (by rw [List.getElem?_eq_getElem hj, e])
theorem containsItem_any (A : Option Addr) (n c : Nat) (l : List Itv) (w : World) (hr : Row w A (l.flatMap Itv.cells)) (ha : ∀ s ∈ l, s.At w) (hl : l.length = n) (hm : n ≤ 9223372036854775807) :
    Calls Try.prog 48 #[.slice A n c, .func (.func 49) #[] #[]] w (BoolP (!decide (∀ s ∈ l, ItemM.may s.x = 0)) w) := by
  have HC := Lib.hid (indexItem_any A n c l w hr ha hl hm)
  clear hr hl
  go_enter Try.func48, Try.ntmps48
  go_wp2_with fail
  refine HC.out.mono ?_
  rintro e w2 ⟨i, rfl, hi, hi2, hb⟩
  go_wp2
  go_ret
  refine ⟨?_, hb⟩
  by_cases h : ∀ s ∈ l, ItemM.may s.x = 0
  · have := hi.2 h
    rw [decide_eq_true h]
    simp
    omega
  · have h2 : ¬ i < 0 := fun q => h (hi.1 q)
    rw [decide_eq_false h]
    simp
    omega
set_option maxRecDepth 100000 in
set_option maxHeartbeats 4000000 in
theorem indexHit_any (A : Option Addr) (n c : Nat) (l : List (Nat × Int)) (w : World) (hr : Row w A (l.flatMap hitC)) (hl : l.length = n) (hm : n ≤ 9223372036854775807) :
    Calls Try.prog 97 #[.slice A n c, .func (.func 51) #[] #[]] w (IndexP (∀ s ∈ l, 0 ≤ s.2) w) := by
  have HL := Lib.hid hl
  have HR := Lib.hid hr
  clear hl hr
  go_enter Try.func97, Try.ntmps97
  go_wp2
  go_loopw [5, 8] (fun _ i wr => ∃ k : Nat, i = .int .i64 (k : Int) ∧ k ≤ n ∧ Below w.heap.size w wr ∧ Hid (∀ j s, j < k → l[j]? = some s → 0 ≤ s.2)) (fun _ i _ => n - (RowKit.intOf i).toNat)
  case atStart => exact ⟨0, rfl, Nat.zero_le _, Below.refl _ _, Lib.hid fun j s hj => by omega⟩
  case round =>
    obtain ⟨k, rfl, hk, hbel, HE⟩ := hrel
    by_cases hlt : k < n
    · obtain ⟨s, hs⟩ : ∃ s, l[k]? = some s := ⟨_, List.getElem?_eq_getElem (by rw [HL.out]; exact hlt)⟩
      obtain ⟨b, o, rfl, e1, e2⟩ := row_hit (HR.out.below hbel) hs
      have HC := Lib.hid (badHit_any s wr)
      have HX := Lib.hid (And.intro hs hbel)
      clear hs hbel
      go_wp2_with fail
      refine HC.out.mono ?_
      rintro e w2 ⟨rfl, hb2⟩
      have HB2 := Lib.hid (below_step HX.out.2 hb2 (Nat.le_refl _))
      clear hb2 HC e1 e2
      by_cases hst : 0 ≤ s.2
      · rw [decide_eq_false (by omega)]
        go_wp2
        go_roundw
        case rel =>
          refine ⟨k + 1, by go_num, by omega, HB2.out, Lib.hid fun j s' hj hs' => ?_⟩
          by_cases e : j = k
          · subst e
            have e2 := HX.out.1.symm.trans hs'
            injection e2 with e2
            rw [← e2]; exact hst
          · exact HE.out j s' (by omega) hs'
        case measure => simp [RowKit.intOf]; omega
      · rw [decide_eq_true (by omega)]
        go_wp2
        go_ret
        exact ⟨(k : Int), rfl, ⟨fun h => by omega, fun h => absurd (h s (List.mem_of_getElem? HX.out.1)) (by first | exact hst | omega)⟩, by omega, HB2.out⟩
    · obtain rfl : k = n := by omega
      go_wp2
      go_ret
      refine ⟨-1, rfl, ⟨fun _ s hs => ?_, fun _ => by decide⟩, by omega, hbel⟩
      obtain ⟨j, hj, e⟩ := List.getElem_of_mem hs
      exact HE.out j s (by rw [← HL.out]; exact hj) (by rw [List.getElem?_eq_getElem hj, e])
theorem containsHit_any (A : Option Addr) (n c : Nat) (l : List (Nat × Int)) (w : World) (hr : Row w A (l.flatMap hitC)) (hl : l.length = n) (hm : n ≤ 9223372036854775807) :
    Calls Try.prog 50 #[.slice A n c, .func (.func 51) #[] #[]] w (BoolP (!decide (∀ s ∈ l, 0 ≤ s.2)) w) := by
  have HC := Lib.hid (indexHit_any A n c l w hr hl hm)
  clear hr hl
  go_enter Try.func50, Try.ntmps50
  go_wp2_with fail
  refine HC.out.mono ?_
  rintro e w2 ⟨i, rfl, hi, hi2, hb⟩
  go_wp2
  go_ret
  refine ⟨?_, hb⟩
  by_cases h : ∀ s ∈ l, 0 ≤ s.2
  · have := hi.2 h
    rw [decide_eq_true h]
    simp
    omega
  · have h2 : ¬ i < 0 := fun q => h (hi.1 q)
    rw [decide_eq_false h]
    simp
    omega
end Go.Proofs.Ytaadfalklddhcaa
