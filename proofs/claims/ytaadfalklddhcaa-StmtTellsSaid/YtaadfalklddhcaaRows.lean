/-
  No cell of these rows narrows 'for every input' (looked for: loops, veiled, ifaces, maps, wideKeys, modest, calm, conditions, laid).
  DERIVED. THE GIVEN ROWS OF THIS SEAT. 6 by the template 'for every input the law returns true; each argument reads behind the call as it read before'; 0 by the template 'total and deterministic' (their statements: YtaadfalklddhcaaTotals.lean).
  GIVEN WITH THE SEED: the statements are not yours to turn. If you find one false, say at which input.
  Laid BY PROGRAM, IN A SANDBOX (cutbox-rows.mjs): the forced cells as the released guide's own fill.sh prints them over the translation 601fe47c2fd9ab7a… (all of the seat's roots in one cut). By AI agents, Wed Nov 11 2026. No macro, syntax, notation, axiom, sorry.
-/
import Derived.Test.YtaadfalklddhcaaChecked
import GoSem.Claim
import GoSem.ClaimJoined
import GoSem.ClaimMapViews
import Derived.JoinedTies
import Derived.KernelRfl
namespace Go.Proofs.Ytaadfalklddhcaa
/- THE CELL 'sum', in the pinned program and in every row, IS THE sha256 OF THE DUMP (.gsa) THAT YtaadfalklddhcaaProg.lean LOADS. Nothing in Lean hashes anything: it is a label: what it is worth is what the hold of that sum in a sandbox is worth. -/
noncomputable def Try.pinned : Pinned := { name := "ytaadfalklddhcaa", sum := "601fe47c2fd9ab7a6719e53109b3ec8642fd719161b3b27faefc6a736d5a3758", checked := Try.checked }
namespace Rows
def none {H : Type} : Left H := { results := [], args := [] }

/-- 'vicinagelaw22.StmtHears': WHATEVER THE INPUT: true; the input reads as it did. -/
def stmtHearsSpec : ChangeSpec := { name := "stmtHears", fn := fun _ => fun
  | [d] => { results := [.lit (.bool true)], args := [d] }
  | _ => none }
def stmtHearsRow : OpenClaim := { program := "ytaadfalklddhcaa", sum := "601fe47c2fd9ab7a6719e53109b3ec8642fd719161b3b27faefc6a736d5a3758", func := "vicinage/vicinagelaw22.StmtHears", spec := "stmtHears", inPlace := ["internal/bytealg.MakeNoZero"], unfollowed := true, recurses := true, apart := false }
def StmtHearsSaid : Prop := stmtHearsRow.holds Try.pinned (OpenSpec.ofChange stmtHearsSpec)

/-- ITS FALSE NEIGHBOUR: 'it returns false'. Refute it at one input. -/
def stmtHearsWrong : ChangeSpec := { name := "stmtHears", fn := fun _ => fun
  | [d] => { results := [.lit (.bool false)], args := [d] }
  | _ => none }
def StmtHearsWrongFalsely : Prop := stmtHearsRow.holds Try.pinned (OpenSpec.ofChange stmtHearsWrong)

/-- 'vicinagelaw22.StmtCuts': WHATEVER THE INPUT: true; the input reads as it did. -/
def stmtCutsSpec : ChangeSpec := { name := "stmtCuts", fn := fun _ => fun
  | [d1, d2, d3, d4] => { results := [.lit (.bool true)], args := [d1, d2, d3, d4] }
  | _ => none }
def stmtCutsRow : OpenClaim := { program := "ytaadfalklddhcaa", sum := "601fe47c2fd9ab7a6719e53109b3ec8642fd719161b3b27faefc6a736d5a3758", func := "vicinage/vicinagelaw22.StmtCuts", spec := "stmtCuts", inPlace := ["internal/bytealg.MakeNoZero"], unfollowed := true, recurses := true, apart := false }
def StmtCutsSaid : Prop := stmtCutsRow.holds Try.pinned (OpenSpec.ofChange stmtCutsSpec)

/-- ITS FALSE NEIGHBOUR: 'it returns false'. Refute it at one input. -/
def stmtCutsWrong : ChangeSpec := { name := "stmtCuts", fn := fun _ => fun
  | [d1, d2, d3, d4] => { results := [.lit (.bool false)], args := [d1, d2, d3, d4] }
  | _ => none }
def StmtCutsWrongFalsely : Prop := stmtCutsRow.holds Try.pinned (OpenSpec.ofChange stmtCutsWrong)

/-- 'vicinagelaw22.StmtSame': WHATEVER THE INPUT: true; the input reads as it did. -/
def stmtSameSpec : ChangeSpec := { name := "stmtSame", fn := fun _ => fun
  | [d1, d2] => { results := [.lit (.bool true)], args := [d1, d2] }
  | _ => none }
def stmtSameRow : OpenClaim := { program := "ytaadfalklddhcaa", sum := "601fe47c2fd9ab7a6719e53109b3ec8642fd719161b3b27faefc6a736d5a3758", func := "vicinage/vicinagelaw22.StmtSame", spec := "stmtSame", inPlace := ["internal/bytealg.MakeNoZero"], unfollowed := true, recurses := true, apart := false }
def StmtSameSaid : Prop := stmtSameRow.holds Try.pinned (OpenSpec.ofChange stmtSameSpec)

/-- ITS FALSE NEIGHBOUR: 'it returns false'. Refute it at one input. -/
def stmtSameWrong : ChangeSpec := { name := "stmtSame", fn := fun _ => fun
  | [d1, d2] => { results := [.lit (.bool false)], args := [d1, d2] }
  | _ => none }
def StmtSameWrongFalsely : Prop := stmtSameRow.holds Try.pinned (OpenSpec.ofChange stmtSameWrong)

/-- 'vicinagelaw22.StmtAsks': WHATEVER THE INPUT: true; the input reads as it did. -/
def stmtAsksSpec : ChangeSpec := { name := "stmtAsks", fn := fun _ => fun
  | [d] => { results := [.lit (.bool true)], args := [d] }
  | _ => none }
def stmtAsksRow : OpenClaim := { program := "ytaadfalklddhcaa", sum := "601fe47c2fd9ab7a6719e53109b3ec8642fd719161b3b27faefc6a736d5a3758", func := "vicinage/vicinagelaw22.StmtAsks", spec := "stmtAsks", inPlace := ["internal/bytealg.MakeNoZero"], unfollowed := true, recurses := true, apart := false }
def StmtAsksSaid : Prop := stmtAsksRow.holds Try.pinned (OpenSpec.ofChange stmtAsksSpec)

/-- ITS FALSE NEIGHBOUR: 'it returns false'. Refute it at one input. -/
def stmtAsksWrong : ChangeSpec := { name := "stmtAsks", fn := fun _ => fun
  | [d] => { results := [.lit (.bool false)], args := [d] }
  | _ => none }
def StmtAsksWrongFalsely : Prop := stmtAsksRow.holds Try.pinned (OpenSpec.ofChange stmtAsksWrong)

/-- 'vicinagelaw22.StmtReads': WHATEVER THE INPUT: true; the input reads as it did. -/
def stmtReadsSpec : ChangeSpec := { name := "stmtReads", fn := fun _ => fun
  | [d] => { results := [.lit (.bool true)], args := [d] }
  | _ => none }
def stmtReadsRow : OpenClaim := { program := "ytaadfalklddhcaa", sum := "601fe47c2fd9ab7a6719e53109b3ec8642fd719161b3b27faefc6a736d5a3758", func := "vicinage/vicinagelaw22.StmtReads", spec := "stmtReads", inPlace := ["internal/bytealg.MakeNoZero"], unfollowed := true, recurses := true, apart := false }
def StmtReadsSaid : Prop := stmtReadsRow.holds Try.pinned (OpenSpec.ofChange stmtReadsSpec)

/-- ITS FALSE NEIGHBOUR: 'it returns false'. Refute it at one input. -/
def stmtReadsWrong : ChangeSpec := { name := "stmtReads", fn := fun _ => fun
  | [d] => { results := [.lit (.bool false)], args := [d] }
  | _ => none }
def StmtReadsWrongFalsely : Prop := stmtReadsRow.holds Try.pinned (OpenSpec.ofChange stmtReadsWrong)

/-- 'vicinagelaw22.StmtTells': WHATEVER THE INPUT: true; the input reads as it did. -/
def stmtTellsSpec : ChangeSpec := { name := "stmtTells", fn := fun _ => fun
  | [d] => { results := [.lit (.bool true)], args := [d] }
  | _ => none }
def stmtTellsRow : OpenClaim := { program := "ytaadfalklddhcaa", sum := "601fe47c2fd9ab7a6719e53109b3ec8642fd719161b3b27faefc6a736d5a3758", func := "vicinage/vicinagelaw22.StmtTells", spec := "stmtTells", inPlace := ["internal/bytealg.MakeNoZero"], unfollowed := true, recurses := true, apart := false }
def StmtTellsSaid : Prop := stmtTellsRow.holds Try.pinned (OpenSpec.ofChange stmtTellsSpec)

/-- ITS FALSE NEIGHBOUR: 'it returns false'. Refute it at one input. -/
def stmtTellsWrong : ChangeSpec := { name := "stmtTells", fn := fun _ => fun
  | [d] => { results := [.lit (.bool false)], args := [d] }
  | _ => none }
def StmtTellsWrongFalsely : Prop := stmtTellsRow.holds Try.pinned (OpenSpec.ofChange stmtTellsWrong)

/- THE SECOND FORM. 'bulk': how many values and letters a reading holds, each counted each time it is reached (what is shared counts as often as it is met; a slice's spare places count too). A statement '..UptoSaid' is the law's where the arguments, and the package variables that the reading takes, are together of bulk at most 1048576: NARROWER than '..Said'. Prove '..Said' where nothing that the law and all that it calls make is longer than what came in: it says more and counts as full. Else prove '..UptoSaid'. A law counts once. -/
mutual
def uptoBulk {H : Type} : DataW H → Nat
  | .lit (.string bytes) => bytes.length + 1
  | .lit _ => 1
  | .nil => 1
  | .ptr d => uptoBulk d + 1
  | .slice elems spare => uptoBulkAll elems + uptoBulkAll spare + 1
  | .agg parts => uptoBulkAll parts + 1
  | .iface _ d => uptoBulk d + 1
  | .map entries => uptoBulkEntries entries + 1
  | .held _ => 1
def uptoBulkAll {H : Type} : List (DataW H) → Nat
  | [] => 0
  | d :: r => uptoBulk d + uptoBulkAll r
def uptoBulkEntries {H : Type} : List (Lit × DataW H) → Nat
  | [] => 0
  | x :: r => uptoBulkEntry x + uptoBulkEntries r
def uptoBulkEntry {H : Type} : Lit × DataW H → Nat
  | (.string bytes, d) => bytes.length + uptoBulk d + 1
  | (_, d) => uptoBulk d + 1
 end
def uptoSmall : (H : Type) → List (DataW H) → Bool := fun _ ds => decide (uptoBulkAll ds ≤ 1048576)
def OpenSpec.upto (s : _root_.Go.ChangeSpec) : _root_.Go.OpenSpec := { _root_.Go.OpenSpec.ofChange s with cond := some uptoSmall }

/-- 'vicinagelaw22.StmtHears', WHERE WHAT IT READS IS OF BULK AT MOST 1048576: true; the input reads as it did. -/
def stmtHearsUptoRow : OpenClaim := { program := "ytaadfalklddhcaa", sum := "601fe47c2fd9ab7a6719e53109b3ec8642fd719161b3b27faefc6a736d5a3758", func := "vicinage/vicinagelaw22.StmtHears", spec := "stmtHears", inPlace := ["internal/bytealg.MakeNoZero"], unfollowed := true, recurses := true, apart := false, narrowed := true }
def StmtHearsUptoSaid : Prop := stmtHearsUptoRow.holds Try.pinned (OpenSpec.upto stmtHearsSpec)

/-- 'vicinagelaw22.StmtCuts', WHERE WHAT IT READS IS OF BULK AT MOST 1048576: true; the input reads as it did. -/
def stmtCutsUptoRow : OpenClaim := { program := "ytaadfalklddhcaa", sum := "601fe47c2fd9ab7a6719e53109b3ec8642fd719161b3b27faefc6a736d5a3758", func := "vicinage/vicinagelaw22.StmtCuts", spec := "stmtCuts", inPlace := ["internal/bytealg.MakeNoZero"], unfollowed := true, recurses := true, apart := false, narrowed := true }
def StmtCutsUptoSaid : Prop := stmtCutsUptoRow.holds Try.pinned (OpenSpec.upto stmtCutsSpec)

/-- 'vicinagelaw22.StmtSame', WHERE WHAT IT READS IS OF BULK AT MOST 1048576: true; the input reads as it did. -/
def stmtSameUptoRow : OpenClaim := { program := "ytaadfalklddhcaa", sum := "601fe47c2fd9ab7a6719e53109b3ec8642fd719161b3b27faefc6a736d5a3758", func := "vicinage/vicinagelaw22.StmtSame", spec := "stmtSame", inPlace := ["internal/bytealg.MakeNoZero"], unfollowed := true, recurses := true, apart := false, narrowed := true }
def StmtSameUptoSaid : Prop := stmtSameUptoRow.holds Try.pinned (OpenSpec.upto stmtSameSpec)

/-- 'vicinagelaw22.StmtAsks', WHERE WHAT IT READS IS OF BULK AT MOST 1048576: true; the input reads as it did. -/
def stmtAsksUptoRow : OpenClaim := { program := "ytaadfalklddhcaa", sum := "601fe47c2fd9ab7a6719e53109b3ec8642fd719161b3b27faefc6a736d5a3758", func := "vicinage/vicinagelaw22.StmtAsks", spec := "stmtAsks", inPlace := ["internal/bytealg.MakeNoZero"], unfollowed := true, recurses := true, apart := false, narrowed := true }
def StmtAsksUptoSaid : Prop := stmtAsksUptoRow.holds Try.pinned (OpenSpec.upto stmtAsksSpec)

/-- 'vicinagelaw22.StmtReads', WHERE WHAT IT READS IS OF BULK AT MOST 1048576: true; the input reads as it did. -/
def stmtReadsUptoRow : OpenClaim := { program := "ytaadfalklddhcaa", sum := "601fe47c2fd9ab7a6719e53109b3ec8642fd719161b3b27faefc6a736d5a3758", func := "vicinage/vicinagelaw22.StmtReads", spec := "stmtReads", inPlace := ["internal/bytealg.MakeNoZero"], unfollowed := true, recurses := true, apart := false, narrowed := true }
def StmtReadsUptoSaid : Prop := stmtReadsUptoRow.holds Try.pinned (OpenSpec.upto stmtReadsSpec)

/-- 'vicinagelaw22.StmtTells', WHERE WHAT IT READS IS OF BULK AT MOST 1048576: true; the input reads as it did. -/
def stmtTellsUptoRow : OpenClaim := { program := "ytaadfalklddhcaa", sum := "601fe47c2fd9ab7a6719e53109b3ec8642fd719161b3b27faefc6a736d5a3758", func := "vicinage/vicinagelaw22.StmtTells", spec := "stmtTells", inPlace := ["internal/bytealg.MakeNoZero"], unfollowed := true, recurses := true, apart := false, narrowed := true }
def StmtTellsUptoSaid : Prop := stmtTellsUptoRow.holds Try.pinned (OpenSpec.upto stmtTellsSpec)

end Rows
end Go.Proofs.Ytaadfalklddhcaa
