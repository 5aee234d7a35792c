/-
  The library's comparison of lists of numbers of 64 bits.
  Conditions: the lists lie in memory.
-/
import Derived.Test.YtaadfalklddhcaaZStmW6
import Derived.Test.YtaadfalklddhcaaZEj
namespace Go.Proofs.Ytaadfalklddhcaa
open Go.RowKit Go.Sort Go.Lib
set_option linter.unusedVariables false
set_option linter.unusedSimpArgs false
theorem take_next64 {l m : List Nat} {k : Nat} {u : Nat} (h : l.take k = m.take k) (h1 : l[k]? = some u) (h2 : m[k]? = some u) : l.take (k + 1) = m.take (k + 1) := by
  rw [List.take_add_one, List.take_add_one, h, h1, h2]
theorem ne_at64 {l m : List Nat} {k : Nat} {u v : Nat} (h1 : l[k]? = some u) (h2 : m[k]? = some v) (h : u ≠ v) : l ≠ m := by
  rintro rfl
  rw [h1] at h2; injection h2 with h2; exact h h2
set_option maxRecDepth 100000 in
theorem equal64_any (A B : Option Addr) (c c2 : Nat) (l m : List Nat) (w : World) (hr : Row w A (u64s l)) (hr2 : Row w B (u64s m)) (hl : l.length ≤ 9223372036854775807) (hm : m.length ≤ 9223372036854775807) :
    Calls Try.prog 95 #[.slice A l.length c, .slice B m.length c2] w fun e w' => e = .returned (.bool (decide (l = m))) ∧ Below w.heap.size w w' := by
  by_cases hlen : l.length = m.length
  · have HR := Lib.hid hr
    have HR2 := Lib.hid hr2
    have HLM := Lib.hid hlen
    obtain ⟨n, hn⟩ : ∃ n, m.length = n := ⟨_, rfl⟩
    rw [hn] at hlen hm ⊢
    have HN := Lib.hid hn
    have HL := Lib.hid hlen
    rw [hlen] at hl ⊢
    clear hlen hn hr hr2
    go_enter Try.func95, Try.ntmps95
    go_wp2
    go_loopw [13] (fun i wr => ∃ k : Nat, i = .int .i64 k ∧ k ≤ n ∧ l.take k = m.take k ∧ Below w.heap.size w wr) (fun i _ => n - (RowKit.intOf i).toNat)
    case atStart => exact ⟨0, rfl, by omega, rfl, Below.refl _ _⟩
    case round =>
      obtain ⟨k, rfl, hk, heq, hbel⟩ := hrel
      have HE := Lib.hid heq
      clear heq
      by_cases hlt : k < n
      · obtain ⟨u, hu⟩ : ∃ u, l[k]? = some u := ⟨_, List.getElem?_eq_getElem (by have := HL.out; omega)⟩
        obtain ⟨v, hv⟩ : ∃ u, m[k]? = some u := ⟨_, List.getElem?_eq_getElem (by have := HN.out; omega)⟩
        obtain ⟨b1, o1, rfl, e1⟩ := row_u64 (HR.out.below hbel) hu
        obtain ⟨b2, o2, rfl, e2⟩ := row_u64 (HR2.out.below hbel) hv
        have HU := Lib.hid hu
        have HV := Lib.hid hv
        have HQ := Lib.hid hbel
        clear hu hv hbel
        by_cases huv : u = v
        · subst huv
          have HT := Lib.hid (take_next64 HE.out HU.out HV.out)
          go_wp2
          go_quiet (fail)
          go_wp2
          go_roundw
          case rel => exact ⟨k + 1, by go_num, by omega, HT.out, ⟨HQ.out.os, HQ.out.tape, HQ.out.output, HQ.out.size, HQ.out.block⟩⟩
          case measure => simp [RowKit.intOf]; omega
        · have hd : (u == v) = false := beq_eq_false_iff_ne.2 huv
          have HF := Lib.hid (decide_eq_false (ne_at64 HU.out HV.out huv))
          go_wp2
          go_quiet (fail)
          go_wp2
          go_ret
          rw [HF.out]
          exact ⟨rfl, ⟨HQ.out.os, HQ.out.tape, HQ.out.output, HQ.out.size, HQ.out.block⟩⟩
      · obtain rfl : k = n := by omega
        have HT : Hid (decide (l = m) = true) := Lib.hid (decide_eq_true (by
          have := HE.out
          rwa [List.take_of_length_le (by rw [HL.out]; omega), List.take_of_length_le (by rw [HN.out]; omega)] at this))
        go_wp2
        go_ret
        rw [HT.out]
        exact ⟨rfl, hbel⟩
  · have hne : decide (l = m) = false := decide_eq_false (fun h => hlen (by rw [h]))
    have hd : ((l.length : Int) == (m.length : Int)) = false := beq_eq_false_iff_ne.2 (by omega)
    rw [hne]
    go_enter Try.func95, Try.ntmps95
    go_wp2
    go_ret
    exact ⟨rfl, Below.refl _ _⟩
end Go.Proofs.Ytaadfalklddhcaa
