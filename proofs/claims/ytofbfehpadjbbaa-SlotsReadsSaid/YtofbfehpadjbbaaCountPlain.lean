/-
  bytes.Count's body in this program is the one that its contract was proved of.
  Conditions: none.
-/
import Derived.Test.YtofbfehpadjbbaaProg
import Derived.Shelf.Bytes.SlCountOne
namespace Go.Proofs
open Go.Shelf
def Try.lays13_ren : Go.Shelf.Ren := ⟨fun | 13 => 38 | 24 => 47 | 25 => 48 | 12 => 49 | 31 => 54 | 19 => 55 | 20 => 56 | 21 => 57 | 22 => 58 | 23 => 59 | 29 => 60 | 30 => 61 | n => n, fun | 22 => 27 | 3 => 3 | 4 => 4 | 0 => 0 | 5 => 5 | 9 => 9 | 33 => 80 | 40 => 85 | 39 => 22 | n => n, fun | 0 => 0 | n => n⟩
theorem Try.lays13 : Go.Proofs.SlLaysB.n13 Try.prog Try.lays13_ren := {
  mixed := by kernel_rfl
  f13 := Try.func38.trans (congrArg some (by kernel_rfl))
  f25 := Try.func48.trans (congrArg some (by kernel_rfl))
  t0 := Try.underlying0
  a0 := Try.isAgg0
  z0 := Try.sizeOf0
  v0 := Try.zeroValue0
  t3 := Try.underlying3
  a3 := Try.isAgg3
  z3 := Try.sizeOf3
  v3 := Try.zeroValue3
  t4 := Try.underlying4
  a4 := Try.isAgg4
  z4 := Try.sizeOf4
  v4 := Try.zeroValue4
  t5 := Try.underlying5
  a5 := Try.isAgg5
  z5 := Try.sizeOf5
  v5 := Try.zeroValue5
  t22 := Try.underlying27
  a22 := Try.isAgg27
  z22 := Try.sizeOf27
  v22 := Try.zeroValue27 }
end Go.Proofs
