/-
  The walk of CodeOnce: it returns true and changes nothing that was there.
  Conditions: the bytes lie in memory as a list; their number is bounded.
-/
import Derived.Test.YteanmmdlgolljaaCodeW6
import Derived.BigQuiet
import Derived.BigRegion
namespace Go.Proofs.Yteanmmdlgolljaa
open Go.RowKit Go.Sort Go.Lib
set_option linter.unusedVariables false
set_option maxRecDepth 100000 in
set_option maxHeartbeats 8000000 in
theorem codeOnce_walk (A : Option Addr) (c : Nat) (l : List UInt8) (w : World) (hr : Row w A (bs l)) (hcap : l.length ≤ c) (hc : l.length ≤ 140737488351232) :
    Calls Try.prog 3 #[.slice A l.length c] w fun e w' => e = .returned (.bool true) ∧ Below w.heap.size w w' := by
  go_enter Try.func3, Try.ntmps3
  go_wp2_with fail
  refine (newreader_any A c l w hr (by omega)).mono ?_
  rintro e w1 ⟨g, rfl, hg, h1, b1⟩
  go_wp2_with fail
  refine (uv_any g ⟨l, 0⟩ w1 h1).mono ?_
  cases hcnt : CodeM.cnt l with
  | none =>
    rw [CodeM.uv_fail hcnt]
    rintro e w2 ⟨rfl, h2, g2⟩
    have b2 : Below w.heap.size w w2 := below_grown b1 g2 b1.size hg
    go_wp2_with fail
    refine (err_any g _ w2 h2).mono ?_
    rintro e1 w1 ⟨rfl, rfl⟩
    clear hcnt
    go_wp2_with fail
    refine (left_any g _ w2 h2).mono ?_
    rintro e1 w1 ⟨rfl, rfl⟩
    go_wp2_with fail
    refine (known02_any w2).mono ?_
    rintro e w3 ⟨rfl, b3⟩
    go_wp2
    go_ret
    exact ⟨rfl, below_step b2 b3 (Nat.le_refl _)⟩
  | some p =>
    obtain ⟨n, k⟩ := p
    obtain ⟨hn, hk0, hkl, _, htk⟩ := CodeM.cnt_some hcnt
    rw [CodeM.uv_ok hcnt]
    rintro e w2 ⟨rfl, h2, g2⟩
    have b2 : Below w.heap.size w w2 := below_grown b1 g2 b1.size hg
    go_wp2_with fail
    refine (err_any g _ w2 h2).mono ?_
    rintro e1 w1 ⟨rfl, rfl⟩
    clear hcnt
    have HT := Lib.hid htk
    clear htk
    go_wp2
    have hdl : ((l.drop k).length : Int) = (l.length : Int) - (k : Int) := by rw [List.length_drop]; omega
    have L1 := Lib.hid (fun (W : World) (h : RdAt 76 W g ⟨l.drop k, 0⟩) => (left_any g _ W h).mono (fun e w' (q : _ ∧ W = w') => (⟨q.1.trans (ret_int hdl), q.2⟩ : e = .returned (.int .i64 ((l.length : Int) - (k : Int))) ∧ W = w')))
    have P1 := Lib.hid (fun (W : World) => putuv_any none 0 n [] W (.inl rfl) (by simp) hn)
    have hq0 : Row w2.drew A (bs (l.take k)) := by
      have q : Row w2 A (bs l) := hr.below b2
      rw [bs_take]; exact q.take k
    have hq := Lib.hid hq0
    have b2d : Below w.heap.size w w2.drew := ⟨b2.os, b2.tape, b2.output, b2.size, b2.block⟩
    have B2 := Lib.hid b2d
    have hkl2 : (l.take k).length = k := by rw [List.length_take]; omega
    have hkl3 := Lib.hid hkl2
    have r2 : (convert 22 9 (.slice A k c)).run Try.prog w2.drew = .ok (.string (str (CodeM.uv n))) w2.drew := by
      have := run_str w2.drew c hq0
      rw [hkl2, HT.out] at this; exact this
    have HR : Hid (RdAt 76 w2.drew g ⟨l.drop k, 0⟩) := Lib.hid h2
    have hsub : IntKind.i64.wrap ((l.length : Int) - ((l.length : Int) - (k : Int))) = (k : Int) := by rw [IntKind.wrap_i64]; omega
    clear hdl hkl2 hq0 h2 g2 h1 hg b2d b2
    go_region_with (first
      | (go_at_call 19
         refine (P1.out _).mono ?_
         rintro e w3 ⟨A1, n1, c1, rfl, hn1, h3, b3⟩
         have r3 : (convert 22 9 (.slice A1 n1 c1)).run Try.prog w3 = .ok (.string (str (CodeM.uv n))) w3 := by
           have := run_str w3 c1 h3.row
           rw [hn1.out] at this; exact this
         have r4 : (convert 22 9 (.slice A k c)).run Try.prog w3 = .ok (.string (str (CodeM.uv n))) w3 := by
           have := run_str w3 c (hq.out.below b3)
           rw [hkl3.out, HT.out] at this; exact this
         have HB3 := Lib.hid (below_step B2.out b3 (Nat.le_refl _))
         have HR3 := Lib.hid (HR.out.below b3)
         clear b3 h3)
      | (go_at_call 17
         refine (L1.out _ (by first | exact HR3.out | exact HR.out)).mono ?_
         rintro e w4 ⟨rfl, rfl⟩)
      | (go_at_call 18
         refine (known02_any _).mono ?_
         rintro e w5 ⟨rfl, b5⟩
         have HB5 := Lib.hid (below_step HB3.out b5 (Nat.le_refl _))
         clear b5))
    all_goals (go_wp2; go_ret; exact ⟨rfl, HB5.out⟩)
end Go.Proofs.Yteanmmdlgolljaa
