/-
  No cell of these rows narrows 'for every input' (looked for: loops, veiled, ifaces, maps, wideKeys, modest, calm, conditions, laid).
  DERIVED. THE GIVEN ROWS OF THIS SEAT. 5 by the template 'for every input the law returns true; each argument reads behind the call as it read before'; 0 by the template 'total and deterministic' (their statements: YtpgmhjjdnanlgaaTotals.lean).
  GIVEN WITH THE SEED: the statements are not yours to turn. If you find one false, say at which input.
  Laid BY PROGRAM, IN A SANDBOX (cutbox-rows.mjs): the forced cells as the released guide's own fill.sh prints them over the translation 34a7f5978fb813bb… (all of the seat's roots in one cut). By AI agents, Wed Nov 11 2026. No macro, syntax, notation, axiom, sorry.
-/
import Derived.Test.YtpgmhjjdnanlgaaChecked
import GoSem.Claim
import GoSem.ClaimJoined
import GoSem.ClaimMapViews
import Derived.JoinedTies
import Derived.KernelRfl
namespace Go.Proofs.Ytpgmhjjdnanlgaa
/- THE CELL 'sum', in the pinned program and in every row, IS THE sha256 OF THE DUMP (.gsa) THAT YtpgmhjjdnanlgaaProg.lean LOADS. Nothing in Lean hashes anything: it is a label: what it is worth is what the hold of that sum in a sandbox is worth. -/
noncomputable def Try.pinned : Pinned := { name := "ytpgmhjjdnanlgaa", sum := "34a7f5978fb813bb690dd39b16c899f5448d54f53d5b860272602dc91a56763f", checked := Try.checked }
namespace Rows
def none {H : Type} : Left H := { results := [], args := [] }

/-- 'vicinagelaw09.LogrecReads': WHATEVER THE INPUT: true; the input reads as it did. -/
def logrecReadsSpec : ChangeSpec := { name := "logrecReads", fn := fun _ => fun
  | [d] => { results := [.lit (.bool true)], args := [d] }
  | _ => none }
def logrecReadsRow : OpenClaim := { program := "ytpgmhjjdnanlgaa", sum := "34a7f5978fb813bb690dd39b16c899f5448d54f53d5b860272602dc91a56763f", func := "vicinage/vicinagelaw09.LogrecReads", spec := "logrecReads", unfollowed := true, recurses := true, apart := false }
def LogrecReadsSaid : Prop := logrecReadsRow.holds Try.pinned (OpenSpec.ofChange logrecReadsSpec)

/-- ITS FALSE NEIGHBOUR: 'it returns false'. Refute it at one input. -/
def logrecReadsWrong : ChangeSpec := { name := "logrecReads", fn := fun _ => fun
  | [d] => { results := [.lit (.bool false)], args := [d] }
  | _ => none }
def LogrecReadsWrongFalsely : Prop := logrecReadsRow.holds Try.pinned (OpenSpec.ofChange logrecReadsWrong)

/-- 'vicinagelaw09.LogrecBytes': WHATEVER THE INPUT: true; the input reads as it did. -/
def logrecBytesSpec : ChangeSpec := { name := "logrecBytes", fn := fun _ => fun
  | [d] => { results := [.lit (.bool true)], args := [d] }
  | _ => none }
def logrecBytesRow : OpenClaim := { program := "ytpgmhjjdnanlgaa", sum := "34a7f5978fb813bb690dd39b16c899f5448d54f53d5b860272602dc91a56763f", func := "vicinage/vicinagelaw09.LogrecBytes", spec := "logrecBytes", unfollowed := true, recurses := true, apart := false }
def LogrecBytesSaid : Prop := logrecBytesRow.holds Try.pinned (OpenSpec.ofChange logrecBytesSpec)

/-- ITS FALSE NEIGHBOUR: 'it returns false'. Refute it at one input. -/
def logrecBytesWrong : ChangeSpec := { name := "logrecBytes", fn := fun _ => fun
  | [d] => { results := [.lit (.bool false)], args := [d] }
  | _ => none }
def LogrecBytesWrongFalsely : Prop := logrecBytesRow.holds Try.pinned (OpenSpec.ofChange logrecBytesWrong)

/-- 'vicinagelaw09.LogrecOnce': WHATEVER THE INPUT: true; the input reads as it did. -/
def logrecOnceSpec : ChangeSpec := { name := "logrecOnce", fn := fun _ => fun
  | [d] => { results := [.lit (.bool true)], args := [d] }
  | _ => none }
def logrecOnceRow : OpenClaim := { program := "ytpgmhjjdnanlgaa", sum := "34a7f5978fb813bb690dd39b16c899f5448d54f53d5b860272602dc91a56763f", func := "vicinage/vicinagelaw09.LogrecOnce", spec := "logrecOnce", unfollowed := true, recurses := true, apart := false }
def LogrecOnceSaid : Prop := logrecOnceRow.holds Try.pinned (OpenSpec.ofChange logrecOnceSpec)

/-- ITS FALSE NEIGHBOUR: 'it returns false'. Refute it at one input. -/
def logrecOnceWrong : ChangeSpec := { name := "logrecOnce", fn := fun _ => fun
  | [d] => { results := [.lit (.bool false)], args := [d] }
  | _ => none }
def LogrecOnceWrongFalsely : Prop := logrecOnceRow.holds Try.pinned (OpenSpec.ofChange logrecOnceWrong)

/-- 'vicinagelaw09.LogrecSame': WHATEVER THE INPUT: true; the input reads as it did. -/
def logrecSameSpec : ChangeSpec := { name := "logrecSame", fn := fun _ => fun
  | [d1, d2] => { results := [.lit (.bool true)], args := [d1, d2] }
  | _ => none }
def logrecSameRow : OpenClaim := { program := "ytpgmhjjdnanlgaa", sum := "34a7f5978fb813bb690dd39b16c899f5448d54f53d5b860272602dc91a56763f", func := "vicinage/vicinagelaw09.LogrecSame", spec := "logrecSame", unfollowed := true, recurses := true, apart := false }
def LogrecSameSaid : Prop := logrecSameRow.holds Try.pinned (OpenSpec.ofChange logrecSameSpec)

/-- ITS FALSE NEIGHBOUR: 'it returns false'. Refute it at one input. -/
def logrecSameWrong : ChangeSpec := { name := "logrecSame", fn := fun _ => fun
  | [d1, d2] => { results := [.lit (.bool false)], args := [d1, d2] }
  | _ => none }
def LogrecSameWrongFalsely : Prop := logrecSameRow.holds Try.pinned (OpenSpec.ofChange logrecSameWrong)

/-- 'vicinagelaw09.LogrecTurned': WHATEVER THE INPUT: true; the input reads as it did. -/
def logrecTurnedSpec : ChangeSpec := { name := "logrecTurned", fn := fun _ => fun
  | [d1, d2, d3, d4] => { results := [.lit (.bool true)], args := [d1, d2, d3, d4] }
  | _ => none }
def logrecTurnedRow : OpenClaim := { program := "ytpgmhjjdnanlgaa", sum := "34a7f5978fb813bb690dd39b16c899f5448d54f53d5b860272602dc91a56763f", func := "vicinage/vicinagelaw09.LogrecTurned", spec := "logrecTurned", unfollowed := true, recurses := true, apart := false }
def LogrecTurnedSaid : Prop := logrecTurnedRow.holds Try.pinned (OpenSpec.ofChange logrecTurnedSpec)

/-- ITS FALSE NEIGHBOUR: 'it returns false'. Refute it at one input. -/
def logrecTurnedWrong : ChangeSpec := { name := "logrecTurned", fn := fun _ => fun
  | [d1, d2, d3, d4] => { results := [.lit (.bool false)], args := [d1, d2, d3, d4] }
  | _ => none }
def LogrecTurnedWrongFalsely : Prop := logrecTurnedRow.holds Try.pinned (OpenSpec.ofChange logrecTurnedWrong)

/- THE SECOND FORM. 'bulk': how many values and letters a reading holds, each counted each time it is reached (what is shared counts as often as it is met; a slice's spare places count too). A statement '..UptoSaid' is the law's where the arguments, and the package variables that the reading takes, are together of bulk at most 1048576: NARROWER than '..Said'. Prove '..Said' where nothing that the law and all that it calls make is longer than what came in: it says more and counts as full. Else prove '..UptoSaid'. A law counts once. -/
mutual
def uptoBulk {H : Type} : DataW H → Nat
  | .lit (.string bytes) => bytes.length + 1
  | .lit _ => 1
  | .nil => 1
  | .ptr d => uptoBulk d + 1
  | .slice elems spare => uptoBulkAll elems + uptoBulkAll spare + 1
  | .agg parts => uptoBulkAll parts + 1
  | .iface _ d => uptoBulk d + 1
  | .map entries => uptoBulkEntries entries + 1
  | .held _ => 1
def uptoBulkAll {H : Type} : List (DataW H) → Nat
  | [] => 0
  | d :: r => uptoBulk d + uptoBulkAll r
def uptoBulkEntries {H : Type} : List (Lit × DataW H) → Nat
  | [] => 0
  | x :: r => uptoBulkEntry x + uptoBulkEntries r
def uptoBulkEntry {H : Type} : Lit × DataW H → Nat
  | (.string bytes, d) => bytes.length + uptoBulk d + 1
  | (_, d) => uptoBulk d + 1
 end
def uptoSmall : (H : Type) → List (DataW H) → Bool := fun _ ds => decide (uptoBulkAll ds ≤ 1048576)
def OpenSpec.upto (s : _root_.Go.ChangeSpec) : _root_.Go.OpenSpec := { _root_.Go.OpenSpec.ofChange s with cond := some uptoSmall }

/-- 'vicinagelaw09.LogrecReads', WHERE WHAT IT READS IS OF BULK AT MOST 1048576: true; the input reads as it did. -/
def logrecReadsUptoRow : OpenClaim := { program := "ytpgmhjjdnanlgaa", sum := "34a7f5978fb813bb690dd39b16c899f5448d54f53d5b860272602dc91a56763f", func := "vicinage/vicinagelaw09.LogrecReads", spec := "logrecReads", unfollowed := true, recurses := true, apart := false, narrowed := true }
def LogrecReadsUptoSaid : Prop := logrecReadsUptoRow.holds Try.pinned (OpenSpec.upto logrecReadsSpec)

/-- 'vicinagelaw09.LogrecBytes', WHERE WHAT IT READS IS OF BULK AT MOST 1048576: true; the input reads as it did. -/
def logrecBytesUptoRow : OpenClaim := { program := "ytpgmhjjdnanlgaa", sum := "34a7f5978fb813bb690dd39b16c899f5448d54f53d5b860272602dc91a56763f", func := "vicinage/vicinagelaw09.LogrecBytes", spec := "logrecBytes", unfollowed := true, recurses := true, apart := false, narrowed := true }
def LogrecBytesUptoSaid : Prop := logrecBytesUptoRow.holds Try.pinned (OpenSpec.upto logrecBytesSpec)

/-- 'vicinagelaw09.LogrecOnce', WHERE WHAT IT READS IS OF BULK AT MOST 1048576: true; the input reads as it did. -/
def logrecOnceUptoRow : OpenClaim := { program := "ytpgmhjjdnanlgaa", sum := "34a7f5978fb813bb690dd39b16c899f5448d54f53d5b860272602dc91a56763f", func := "vicinage/vicinagelaw09.LogrecOnce", spec := "logrecOnce", unfollowed := true, recurses := true, apart := false, narrowed := true }
def LogrecOnceUptoSaid : Prop := logrecOnceUptoRow.holds Try.pinned (OpenSpec.upto logrecOnceSpec)

/-- 'vicinagelaw09.LogrecSame', WHERE WHAT IT READS IS OF BULK AT MOST 1048576: true; the input reads as it did. -/
def logrecSameUptoRow : OpenClaim := { program := "ytpgmhjjdnanlgaa", sum := "34a7f5978fb813bb690dd39b16c899f5448d54f53d5b860272602dc91a56763f", func := "vicinage/vicinagelaw09.LogrecSame", spec := "logrecSame", unfollowed := true, recurses := true, apart := false, narrowed := true }
def LogrecSameUptoSaid : Prop := logrecSameUptoRow.holds Try.pinned (OpenSpec.upto logrecSameSpec)

/-- 'vicinagelaw09.LogrecTurned', WHERE WHAT IT READS IS OF BULK AT MOST 1048576: true; the input reads as it did. -/
def logrecTurnedUptoRow : OpenClaim := { program := "ytpgmhjjdnanlgaa", sum := "34a7f5978fb813bb690dd39b16c899f5448d54f53d5b860272602dc91a56763f", func := "vicinage/vicinagelaw09.LogrecTurned", spec := "logrecTurned", unfollowed := true, recurses := true, apart := false, narrowed := true }
def LogrecTurnedUptoSaid : Prop := logrecTurnedUptoRow.holds Try.pinned (OpenSpec.upto logrecTurnedSpec)

end Rows
end Go.Proofs.Ytpgmhjjdnanlgaa
