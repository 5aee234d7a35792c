/-
  What crc.Sum, the document's Sum, and the laws' own helpers lent, kept, known return.
  Conditions: the bytes lie in memory as a list.
-/
import Derived.Test.YtgcognefggbpjaaCrcW1
import Derived.Test.YtgcognefggbpjaaMem
namespace Go.Proofs.Ytgcognefggbpjaa
open Go.RowKit
set_option linter.unusedVariables false

theorem sum_any (A : Option Addr) (c : Nat) (l : List UInt8) (w : World) (hr : Row w A (bs l)) (hc : l.length ≤ 9223372036854775807) :
    Calls Try.prog 16 #[.slice A l.length c] w fun e w' => e = .returned (.int .u32 ((CrcM.sum l).toNat : Int)) ∧ Below w.heap.size w w' := by
  have hm := more_any 0#32 A c l w hr hc
  rw [show (((0#32 : BitVec 32).toNat : Nat) : Int) = 0 from rfl] at hm
  have HM := Lib.hid hm
  clear hm
  go_enter Try.func16, Try.ntmps16
  go_wp2_with (go_at_call 17; refine HM.out.mono ?_; rintro e w' ⟨rfl, hb⟩)
  go_ret
  exact ⟨rfl, hb⟩
theorem sum_at (A : Option Addr) (c n : Nat) (l : List UInt8) (w : World) (hr : Row w A (bs l)) (hn : n = l.length) (hc : n ≤ 9223372036854775807) :
    Calls Try.prog 16 #[.slice A n c] w fun e w' => e = .returned (.int .u32 ((CrcM.sum l).toNat : Int)) ∧ Below w.heap.size w w' := by
  subst hn
  exact sum_any A c l w hr hc
theorem refsum_any (A : Option Addr) (c : Nat) (l : List UInt8) (w : World) (hr : Row w A (bs l)) (hc : l.length ≤ 9223372036854775807) :
    Calls Try.prog 18 #[.slice A l.length c] w fun e w' => e = .returned (.int .u32 ((CrcM.sum l).toNat : Int)) ∧ w = w' := by
  have hm := refmore_any 0#32 A c l w hr hc
  rw [show (((0#32 : BitVec 32).toNat : Nat) : Int) = 0 from rfl] at hm
  have HM := Lib.hid hm
  clear hm
  go_enter Try.func18, Try.ntmps18
  go_wp2_with (go_at_call 19; refine HM.out.mono ?_; rintro e w' ⟨rfl, rfl⟩)
  go_ret
  exact ⟨rfl, rfl⟩

set_option maxRecDepth 100000 in
theorem known01_any (w : World) :
    Calls Try.prog 21 #[] w fun e w' => e = .returned (.bool true) ∧ Below w.heap.size w w' := by
  have hk := Lib.hid CrcM.known
  have kc := fun (w : World) (C : Array Value) (n c : Nat) => Lib.run_convert_bytes_const (P := Try.prog) w 22 5 C n c Try.underlying22 Try.underlying5
  go_enter Try.func21, Try.ntmps21
  go_wp2_with fail
  refine (sum_any _ 9 [49, 50, 51, 52, 53, 54, 55, 56, 57] _ (row_lit w _ _ _ _ rfl) (by decide)).mono ?_
  rintro e w1 ⟨rfl, hb⟩
  rw [hk.out]
  go_wp2
  go_ret
  exact ⟨rfl, below_step ((Below.refl w.heap.size w).alloc (Nat.le_refl _) _) hb (by simp)⟩
theorem lent01_any (A : Option Addr) (c : Nat) (l : List UInt8) (w : World) (hr : Row w A (bs l)) (hc : l.length ≤ 140737488351232) :
    Calls Try.prog 15 #[.slice A l.length c] w fun e w' => ∃ g c', e = .returned (.slice (some ⟨g, 0, none⟩) l.length c') ∧ l.length + 2 ≤ c' ∧ c' ≤ maxLen ∧ Row w' (some ⟨g, 0, none⟩) (bs (l ++ [77, 78])) ∧ Below w.heap.size w w' := by
  go_enter Try.func15, Try.ntmps15
  go_wp2_with (at_builtin; refine wpl_app _ rfl (.tmp 3) (.tmp 4) rfl w.heap.size (some ⟨w.heap.size, 0, none⟩) 0 [] rfl (Own.made w #[] 0 (Nat.le_refl _) (by unfold maxLen; omega) rfl) A c l rfl (hr.alloc _) ?_ ?_ ?_)
  · simp; omega
  · simp
  intro A1 c1 w1 h1 hg1 _
  have hb1 : Below w.heap.size w w1 := ((Below.refl w.heap.size w).alloc (Nat.le_refl _) (.cells #[] 5)).grown hg1 (by simp) (by intro k hk; simp [Value.ownBlock] at hk; omega)
  have hs1 := hb1.size
  go_wp2_with (at_builtin; refine wpl_app _ rfl (.tmp 5) (.tmp 6) rfl w.heap.size A1 c1 l rfl (h1.alloc _) (some ⟨w1.heap.size, 0, none⟩) 2 [77, 78] rfl (row_lit w1 [77, 78] _ _ _ rfl) ?_ ?_ ?_)
  · simp; omega
  · simp; omega
  intro A2 c2 w2 h2 hg2 _
  obtain ⟨g, rfl, hge, _⟩ := h2.some_ (by simp)
  have hle := h2.le
  simp only [List.length_append, List.length_cons, List.length_nil] at hle
  have hb2 : Below w.heap.size w w2 := by
    refine Own.grown_below (h1.alloc (.cells #[.int .u8 77, .int .u8 78] 5)) rfl hg2 (hb1.alloc hs1 _) (Nat.le_refl _) (by simp; omega)
  have hlen : ((l.length : Nat) : Int) ≤ c2 := by omega
  go_wp2
  go_ret
  exact ⟨g, c2, rfl, by omega, hle.2, h2.row, hb2⟩
theorem kept01_any (A A2 : Option Addr) (c c2 : Nat) (l : List UInt8) (w : World) (hr : Row w A (bs (l ++ [77, 78]))) (hc : l.length + 2 ≤ c) (hm : c ≤ maxLen) (hr2 : Row w A2 (bs l)) (hc2 : l.length ≤ c2) :
    Calls Try.prog 20 #[.slice A l.length c, .slice A2 l.length c2] w fun e w' => e = .returned (.bool true) ∧ w = w' := by
  unfold maxLen at hm
  obtain ⟨b, o, rfl, h77⟩ := hr.byte (k := l.length) (by simp)
  obtain ⟨b', o', e, h78⟩ := hr.byte (k := l.length + 1) (by simp)
  injection e with e
  injection e with e1 e2
  subst e1 e2
  have s1 := run_str w c (l := l) (by have := hr.take l.length; rwa [← bs_length l, bs_append, List.take_left] at this)
  have s2 := run_str w c2 hr2
  rw [List.getElem_append_right (Nat.le_refl _)] at h77
  rw [List.getElem_append_right (by omega)] at h78
  simp only [Nat.sub_self, List.getElem_cons_zero, Nat.add_sub_cancel_left, List.getElem_cons_succ] at h77 h78
  go_enter Try.func20, Try.ntmps20
  go_wp2
  go_ret
  exact ⟨rfl, rfl⟩
end Go.Proofs.Ytgcognefggbpjaa
