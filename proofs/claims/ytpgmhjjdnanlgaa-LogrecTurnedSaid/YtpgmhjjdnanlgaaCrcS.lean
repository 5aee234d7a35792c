/-
  What crc.Sum and the document's Sum return.
  Conditions: the bytes lie in memory as a list.
-/
import Derived.Test.YtpgmhjjdnanlgaaCrcW1
import Derived.Test.YtpgmhjjdnanlgaaMem
namespace Go.Proofs.Ytpgmhjjdnanlgaa
open Go.RowKit
set_option linter.unusedVariables false

theorem sum_any (A : Option Addr) (c : Nat) (l : List UInt8) (w : World) (hr : Row w A (bs l)) (hc : l.length ≤ 9223372036854775807) :
    Calls Try.prog 23 #[.slice A l.length c] w fun e w' => e = .returned (.int .u32 ((CrcM.sum l).toNat : Int)) ∧ Below w.heap.size w w' := by
  have hm := more_any 0#32 A c l w hr hc
  rw [show (((0#32 : BitVec 32).toNat : Nat) : Int) = 0 from rfl] at hm
  have HM := Lib.hid hm
  clear hm
  go_enter Try.func23, Try.ntmps23
  go_wp2_with (go_at_call 42; refine HM.out.mono ?_; rintro e w' ⟨rfl, hb⟩)
  go_ret
  exact ⟨rfl, hb⟩
theorem sum_at (A : Option Addr) (c n : Nat) (l : List UInt8) (w : World) (hr : Row w A (bs l)) (hn : n = l.length) (hc : n ≤ 9223372036854775807) :
    Calls Try.prog 23 #[.slice A n c] w fun e w' => e = .returned (.int .u32 ((CrcM.sum l).toNat : Int)) ∧ Below w.heap.size w w' := by
  subst hn
  exact sum_any A c l w hr hc
theorem refsum_any (A : Option Addr) (c : Nat) (l : List UInt8) (w : World) (hr : Row w A (bs l)) (hc : l.length ≤ 9223372036854775807) :
    Calls Try.prog 37 #[.slice A l.length c] w fun e w' => e = .returned (.int .u32 ((CrcM.sum l).toNat : Int)) ∧ w = w' := by
  have hm := refmore_any 0#32 A c l w hr hc
  rw [show (((0#32 : BitVec 32).toNat : Nat) : Int) = 0 from rfl] at hm
  have HM := Lib.hid hm
  clear hm
  go_enter Try.func37, Try.ntmps37
  go_wp2_with (go_at_call 53; refine HM.out.mono ?_; rintro e w' ⟨rfl, rfl⟩)
  go_ret
  exact ⟨rfl, rfl⟩

end Go.Proofs.Ytpgmhjjdnanlgaa
