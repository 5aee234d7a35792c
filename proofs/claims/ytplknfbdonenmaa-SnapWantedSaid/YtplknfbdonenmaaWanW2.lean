/-
  Whether a transaction is open yet: the closure of snap.Wanted, and the document's open.
  Conditions: the looks and their stamps lie in memory.
-/
import Derived.Test.YtplknfbdonenmaaSnapW5
import Derived.Test.YtplknfbdonenmaaWanM
namespace Go.Proofs.Ytplknfbdonenmaa
open Go.RowKit
set_option linter.unusedVariables false
set_option linter.unusedSimpArgs false
/-- The looks lie in memory. -/
structure Lks (w : World) (A : Option Addr) (ks : List Lkv) : Prop where
  row : Row w A (ks.flatMap Lkv.cells)
  st : ∀ s ∈ ks, Row w s.A (s.k.done.flatMap Stp.cells)
  len : ∀ s ∈ ks, s.k.done.length ≤ 9223372036854775807
  le : ks.length ≤ 1000
theorem Lks.below {w w' : World} {A : Option Addr} {ks : List Lkv} (h : Lks w A ks) (hb : Below w.heap.size w w') : Lks w' A ks := ⟨h.row.below hb, fun s hs => (h.st s hs).below hb, h.len, h.le⟩
def BoolQ (r : Bool) (w : World) (e : Ending) (w' : World) : Prop := e = .returned (.bool r) ∧ Below w.heap.size w w'
def lks (ks : List Lkv) : List Lok := ks.map (·.k)
set_option maxRecDepth 100000 in
set_option maxHeartbeats 4000000 in
theorem open_any (A : Option Addr) (c t g : Nat) (ks : List Lkv) (w : World) (hL : Lks w A ks) (hg : w.cell? ⟨g, 0, none⟩ = some (.slice A ks.length c)) :
    Calls Try.prog 9 #[.int .u64 (t : Int), .pointer (some ⟨g, 0, none⟩)] w (BoolQ (WanM.openB (lks ks) t) w) := by
  cases ks with
  | nil =>
    go_enter Try.func9, Try.ntmps9
    go_wp2
    go_ret
    exact ⟨rfl, Below.refl _ _⟩
  | cons s l =>
    obtain ⟨b, o, rfl, e1, e2, e3, e4⟩ := row_lkv hL.row (k := 0) (s := s) rfl
    simp only [Nat.zero_mul, Nat.add_zero] at e1 e2 e3 e4
    have HD := Lib.hid (done_any s.k t s.A s.c w (hL.st s (by simp)) (hL.len s (by simp)))
    clear hL
    by_cases h1 : t < s.k.base
    · have ho : WanM.openB (lks (s :: l)) t = false := by show (!decide (t < s.k.base) && !dOk s.k.done t) = false; rw [decide_eq_true h1]; rfl
      rw [ho]
      clear ho HD
      go_enter Try.func9, Try.ntmps9
      go_wp2
      go_ret
      exact ⟨rfl, Below.refl _ _⟩
    · have ho : WanM.openB (lks (s :: l)) t = !dOk s.k.done t := by show (!decide (t < s.k.base) && !dOk s.k.done t) = _; rw [decide_eq_false h1]; rfl
      rw [ho]
      clear ho
      go_enter Try.func9, Try.ntmps9
      go_wp2_with fail
      refine HD.out.mono ?_
      rintro e w1 ⟨rfl, hb⟩
      generalize dOk s.k.done t = q at *
      generalize (dAt s.k.done t : Int) = v at *
      clear HD e1 e2 e3 e4 hg
      have HB := Lib.hid hb
      clear hb
      go_wp2
      go_ret
      exact ⟨rfl, HB.out⟩
set_option maxRecDepth 100000 in
set_option maxHeartbeats 4000000 in
theorem refopen_any (A : Option Addr) (c t : Nat) (ks : List Lkv) (w : World) (hL : Lks w A ks) :
    Calls Try.prog 13 #[.slice A ks.length c, .int .u64 (t : Int)] w (BoolQ (WanM.openB (lks ks) t) w) := by
  cases ks with
  | nil =>
    go_enter Try.func13, Try.ntmps13
    go_wp2
    go_ret
    exact ⟨rfl, Below.refl _ _⟩
  | cons s l =>
    obtain ⟨b, o, rfl, e1, e2, e3, e4⟩ := row_lkv hL.row (k := 0) (s := s) rfl
    simp only [Nat.zero_mul, Nat.add_zero] at e1 e2 e3 e4
    have HD := Lib.hid (refat_any s.k t s.A s.c w (hL.st s (by simp)) (hL.len s (by simp)))
    clear hL
    by_cases h1 : t < s.k.base
    · have ho : WanM.openB (lks (s :: l)) t = false := by show (!decide (t < s.k.base) && !dOk s.k.done t) = false; rw [decide_eq_true h1]; rfl
      rw [ho]
      clear ho HD
      go_enter Try.func13, Try.ntmps13
      go_wp2
      go_ret
      exact ⟨rfl, Below.refl _ _⟩
    · have ho : WanM.openB (lks (s :: l)) t = !dOk s.k.done t := by show (!decide (t < s.k.base) && !dOk s.k.done t) = _; rw [decide_eq_false h1]; rfl
      rw [ho]
      clear ho
      go_enter Try.func13, Try.ntmps13
      go_wp2_with fail
      refine HD.out.mono ?_
      rintro e w1 ⟨rfl, hb⟩
      generalize dOk s.k.done t = q at *
      generalize (dAt s.k.done t : Int) = v at *
      clear HD e1 e2 e3 e4
      have HB := Lib.hid hb
      clear hb
      go_wp2
      go_ret
      exact ⟨rfl, HB.out⟩
end Go.Proofs.Ytplknfbdonenmaa
