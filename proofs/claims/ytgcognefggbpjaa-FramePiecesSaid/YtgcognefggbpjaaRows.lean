/-
  No cell of these rows narrows 'for every input' (looked for: loops, veiled, ifaces, maps, wideKeys, modest, calm, conditions, laid).
  DERIVED. THE GIVEN ROWS OF THIS SEAT. 12 by the template 'for every input the law returns true; each argument reads behind the call as it read before'; 0 by the template 'total and deterministic' (their statements: YtgcognefggbpjaaTotals.lean).
  GIVEN WITH THE SEED: the statements are not yours to turn. If you find one false, say at which input.
  Laid BY PROGRAM, IN A SANDBOX (cutbox-rows.mjs): the forced cells as the released guide's own fill.sh prints them over the translation 07e5e3aedd5933a3… (all of the seat's roots in one cut). By AI agents, Wed Nov 11 2026. No macro, syntax, notation, axiom, sorry.
-/
import Derived.Test.YtgcognefggbpjaaChecked
import GoSem.Claim
import GoSem.ClaimJoined
import GoSem.ClaimMapViews
import Derived.JoinedTies
import Derived.KernelRfl
namespace Go.Proofs.Ytgcognefggbpjaa
/- THE CELL 'sum', in the pinned program and in every row, IS THE sha256 OF THE DUMP (.gsa) THAT YtgcognefggbpjaaProg.lean LOADS. Nothing in Lean hashes anything: it is a label: what it is worth is what the hold of that sum in a sandbox is worth. -/
noncomputable def Try.pinned : Pinned := { name := "ytgcognefggbpjaa", sum := "07e5e3aedd5933a359a46d0aeeeb3dec20ffdd82fa8e07e20e73c6a52be2cedd", checked := Try.checked }
namespace Rows
def none {H : Type} : Left H := { results := [], args := [] }

/-- 'vicinagelaw01.CrcTells': WHATEVER THE INPUT: true; the input reads as it did. -/
def crcTellsSpec : ChangeSpec := { name := "crcTells", fn := fun _ => fun
  | [d1, d2] => { results := [.lit (.bool true)], args := [d1, d2] }
  | _ => none }
def crcTellsRow : OpenClaim := { program := "ytgcognefggbpjaa", sum := "07e5e3aedd5933a359a46d0aeeeb3dec20ffdd82fa8e07e20e73c6a52be2cedd", func := "vicinage/vicinagelaw01.CrcTells", spec := "crcTells", unfollowed := true, recurses := true, apart := false }
def CrcTellsSaid : Prop := crcTellsRow.holds Try.pinned (OpenSpec.ofChange crcTellsSpec)

/-- ITS FALSE NEIGHBOUR: 'it returns false'. Refute it at one input. -/
def crcTellsWrong : ChangeSpec := { name := "crcTells", fn := fun _ => fun
  | [d1, d2] => { results := [.lit (.bool false)], args := [d1, d2] }
  | _ => none }
def CrcTellsWrongFalsely : Prop := crcTellsRow.holds Try.pinned (OpenSpec.ofChange crcTellsWrong)

/-- 'vicinagelaw01.CrcBurst': WHATEVER THE INPUT: true; the input reads as it did. -/
def crcBurstSpec : ChangeSpec := { name := "crcBurst", fn := fun _ => fun
  | [d1, d2, d3] => { results := [.lit (.bool true)], args := [d1, d2, d3] }
  | _ => none }
def crcBurstRow : OpenClaim := { program := "ytgcognefggbpjaa", sum := "07e5e3aedd5933a359a46d0aeeeb3dec20ffdd82fa8e07e20e73c6a52be2cedd", func := "vicinage/vicinagelaw01.CrcBurst", spec := "crcBurst", unfollowed := true, recurses := true, apart := false }
def CrcBurstSaid : Prop := crcBurstRow.holds Try.pinned (OpenSpec.ofChange crcBurstSpec)

/-- ITS FALSE NEIGHBOUR: 'it returns false'. Refute it at one input. -/
def crcBurstWrong : ChangeSpec := { name := "crcBurst", fn := fun _ => fun
  | [d1, d2, d3] => { results := [.lit (.bool false)], args := [d1, d2, d3] }
  | _ => none }
def CrcBurstWrongFalsely : Prop := crcBurstRow.holds Try.pinned (OpenSpec.ofChange crcBurstWrong)

/-- 'vicinagelaw01.CrcThree': WHATEVER THE INPUT: true; the input reads as it did. -/
def crcThreeSpec : ChangeSpec := { name := "crcThree", fn := fun _ => fun
  | [d1, d2, d3] => { results := [.lit (.bool true)], args := [d1, d2, d3] }
  | _ => none }
def crcThreeRow : OpenClaim := { program := "ytgcognefggbpjaa", sum := "07e5e3aedd5933a359a46d0aeeeb3dec20ffdd82fa8e07e20e73c6a52be2cedd", func := "vicinage/vicinagelaw01.CrcThree", spec := "crcThree", unfollowed := true, recurses := true, apart := false }
def CrcThreeSaid : Prop := crcThreeRow.holds Try.pinned (OpenSpec.ofChange crcThreeSpec)

/-- ITS FALSE NEIGHBOUR: 'it returns false'. Refute it at one input. -/
def crcThreeWrong : ChangeSpec := { name := "crcThree", fn := fun _ => fun
  | [d1, d2, d3] => { results := [.lit (.bool false)], args := [d1, d2, d3] }
  | _ => none }
def CrcThreeWrongFalsely : Prop := crcThreeRow.holds Try.pinned (OpenSpec.ofChange crcThreeWrong)

/-- 'vicinagelaw01.CrcJoins': WHATEVER THE INPUT: true; the input reads as it did. -/
def crcJoinsSpec : ChangeSpec := { name := "crcJoins", fn := fun _ => fun
  | [d1, d2, d3, d4, d5] => { results := [.lit (.bool true)], args := [d1, d2, d3, d4, d5] }
  | _ => none }
def crcJoinsRow : OpenClaim := { program := "ytgcognefggbpjaa", sum := "07e5e3aedd5933a359a46d0aeeeb3dec20ffdd82fa8e07e20e73c6a52be2cedd", func := "vicinage/vicinagelaw01.CrcJoins", spec := "crcJoins", unfollowed := true, recurses := true, apart := false }
def CrcJoinsSaid : Prop := crcJoinsRow.holds Try.pinned (OpenSpec.ofChange crcJoinsSpec)

/-- ITS FALSE NEIGHBOUR: 'it returns false'. Refute it at one input. -/
def crcJoinsWrong : ChangeSpec := { name := "crcJoins", fn := fun _ => fun
  | [d1, d2, d3, d4, d5] => { results := [.lit (.bool false)], args := [d1, d2, d3, d4, d5] }
  | _ => none }
def CrcJoinsWrongFalsely : Prop := crcJoinsRow.holds Try.pinned (OpenSpec.ofChange crcJoinsWrong)

/-- 'vicinagelaw01.CrcFar': WHATEVER THE INPUT: true; the input reads as it did. -/
def crcFarSpec : ChangeSpec := { name := "crcFar", fn := fun _ => fun
  | [d1, d2, d3] => { results := [.lit (.bool true)], args := [d1, d2, d3] }
  | _ => none }
def crcFarRow : OpenClaim := { program := "ytgcognefggbpjaa", sum := "07e5e3aedd5933a359a46d0aeeeb3dec20ffdd82fa8e07e20e73c6a52be2cedd", func := "vicinage/vicinagelaw01.CrcFar", spec := "crcFar", unfollowed := true, recurses := true, apart := false }
def CrcFarSaid : Prop := crcFarRow.holds Try.pinned (OpenSpec.ofChange crcFarSpec)

/-- ITS FALSE NEIGHBOUR: 'it returns false'. Refute it at one input. -/
def crcFarWrong : ChangeSpec := { name := "crcFar", fn := fun _ => fun
  | [d1, d2, d3] => { results := [.lit (.bool false)], args := [d1, d2, d3] }
  | _ => none }
def CrcFarWrongFalsely : Prop := crcFarRow.holds Try.pinned (OpenSpec.ofChange crcFarWrong)

/-- 'vicinagelaw17.SnapSees': WHATEVER THE INPUT: true; the input reads as it did. -/
def snapSeesSpec : ChangeSpec := { name := "snapSees", fn := fun _ => fun
  | [d1, d2] => { results := [.lit (.bool true)], args := [d1, d2] }
  | _ => none }
def snapSeesRow : OpenClaim := { program := "ytgcognefggbpjaa", sum := "07e5e3aedd5933a359a46d0aeeeb3dec20ffdd82fa8e07e20e73c6a52be2cedd", func := "vicinage/vicinagelaw17.SnapSees", spec := "snapSees", unfollowed := true, recurses := true, apart := false }
def SnapSeesSaid : Prop := snapSeesRow.holds Try.pinned (OpenSpec.ofChange snapSeesSpec)

/-- ITS FALSE NEIGHBOUR: 'it returns false'. Refute it at one input. -/
def snapSeesWrong : ChangeSpec := { name := "snapSees", fn := fun _ => fun
  | [d1, d2] => { results := [.lit (.bool false)], args := [d1, d2] }
  | _ => none }
def SnapSeesWrongFalsely : Prop := snapSeesRow.holds Try.pinned (OpenSpec.ofChange snapSeesWrong)

/-- 'vicinagelaw17.SnapSteady': WHATEVER THE INPUT: true; the input reads as it did. -/
def snapSteadySpec : ChangeSpec := { name := "snapSteady", fn := fun _ => fun
  | [d1, d2, d3, d4] => { results := [.lit (.bool true)], args := [d1, d2, d3, d4] }
  | _ => none }
def snapSteadyRow : OpenClaim := { program := "ytgcognefggbpjaa", sum := "07e5e3aedd5933a359a46d0aeeeb3dec20ffdd82fa8e07e20e73c6a52be2cedd", func := "vicinage/vicinagelaw17.SnapSteady", spec := "snapSteady", unfollowed := true, recurses := true, apart := false }
def SnapSteadySaid : Prop := snapSteadyRow.holds Try.pinned (OpenSpec.ofChange snapSteadySpec)

/-- ITS FALSE NEIGHBOUR: 'it returns false'. Refute it at one input. -/
def snapSteadyWrong : ChangeSpec := { name := "snapSteady", fn := fun _ => fun
  | [d1, d2, d3, d4] => { results := [.lit (.bool false)], args := [d1, d2, d3, d4] }
  | _ => none }
def SnapSteadyWrongFalsely : Prop := snapSteadyRow.holds Try.pinned (OpenSpec.ofChange snapSteadyWrong)

/-- 'vicinagelaw17.SnapWanted': WHATEVER THE INPUT: true; the input reads as it did. -/
def snapWantedSpec : ChangeSpec := { name := "snapWanted", fn := fun _ => fun
  | [d1, d2] => { results := [.lit (.bool true)], args := [d1, d2] }
  | _ => none }
def snapWantedRow : OpenClaim := { program := "ytgcognefggbpjaa", sum := "07e5e3aedd5933a359a46d0aeeeb3dec20ffdd82fa8e07e20e73c6a52be2cedd", func := "vicinage/vicinagelaw17.SnapWanted", spec := "snapWanted", unfollowed := true, recurses := true, apart := false }
def SnapWantedSaid : Prop := snapWantedRow.holds Try.pinned (OpenSpec.ofChange snapWantedSpec)

/-- ITS FALSE NEIGHBOUR: 'it returns false'. Refute it at one input. -/
def snapWantedWrong : ChangeSpec := { name := "snapWanted", fn := fun _ => fun
  | [d1, d2] => { results := [.lit (.bool false)], args := [d1, d2] }
  | _ => none }
def SnapWantedWrongFalsely : Prop := snapWantedRow.holds Try.pinned (OpenSpec.ofChange snapWantedWrong)

/-- 'vicinagelaw21.FrameBytes': WHATEVER THE INPUT: true; the input reads as it did. -/
def frameBytesSpec : ChangeSpec := { name := "frameBytes", fn := fun _ => fun
  | [d] => { results := [.lit (.bool true)], args := [d] }
  | _ => none }
def frameBytesRow : OpenClaim := { program := "ytgcognefggbpjaa", sum := "07e5e3aedd5933a359a46d0aeeeb3dec20ffdd82fa8e07e20e73c6a52be2cedd", func := "vicinage/vicinagelaw21.FrameBytes", spec := "frameBytes", apart := false }
def FrameBytesSaid : Prop := frameBytesRow.holds Try.pinned (OpenSpec.ofChange frameBytesSpec)

/-- ITS FALSE NEIGHBOUR: 'it returns false'. Refute it at one input. -/
def frameBytesWrong : ChangeSpec := { name := "frameBytes", fn := fun _ => fun
  | [d] => { results := [.lit (.bool false)], args := [d] }
  | _ => none }
def FrameBytesWrongFalsely : Prop := frameBytesRow.holds Try.pinned (OpenSpec.ofChange frameBytesWrong)

/-- 'vicinagelaw21.FramePlays': WHATEVER THE INPUT: true; the input reads as it did. -/
def framePlaysSpec : ChangeSpec := { name := "framePlays", fn := fun _ => fun
  | [d] => { results := [.lit (.bool true)], args := [d] }
  | _ => none }
def framePlaysRow : OpenClaim := { program := "ytgcognefggbpjaa", sum := "07e5e3aedd5933a359a46d0aeeeb3dec20ffdd82fa8e07e20e73c6a52be2cedd", func := "vicinage/vicinagelaw21.FramePlays", spec := "framePlays", apart := false }
def FramePlaysSaid : Prop := framePlaysRow.holds Try.pinned (OpenSpec.ofChange framePlaysSpec)

/-- ITS FALSE NEIGHBOUR: 'it returns false'. Refute it at one input. -/
def framePlaysWrong : ChangeSpec := { name := "framePlays", fn := fun _ => fun
  | [d] => { results := [.lit (.bool false)], args := [d] }
  | _ => none }
def FramePlaysWrongFalsely : Prop := framePlaysRow.holds Try.pinned (OpenSpec.ofChange framePlaysWrong)

/-- 'vicinagelaw21.FrameSplits': WHATEVER THE INPUT: true; the input reads as it did. -/
def frameSplitsSpec : ChangeSpec := { name := "frameSplits", fn := fun _ => fun
  | [d] => { results := [.lit (.bool true)], args := [d] }
  | _ => none }
def frameSplitsRow : OpenClaim := { program := "ytgcognefggbpjaa", sum := "07e5e3aedd5933a359a46d0aeeeb3dec20ffdd82fa8e07e20e73c6a52be2cedd", func := "vicinage/vicinagelaw21.FrameSplits", spec := "frameSplits", apart := false }
def FrameSplitsSaid : Prop := frameSplitsRow.holds Try.pinned (OpenSpec.ofChange frameSplitsSpec)

/-- ITS FALSE NEIGHBOUR: 'it returns false'. Refute it at one input. -/
def frameSplitsWrong : ChangeSpec := { name := "frameSplits", fn := fun _ => fun
  | [d] => { results := [.lit (.bool false)], args := [d] }
  | _ => none }
def FrameSplitsWrongFalsely : Prop := frameSplitsRow.holds Try.pinned (OpenSpec.ofChange frameSplitsWrong)

/-- 'vicinagelaw21.FramePieces': WHATEVER THE INPUT: true; the input reads as it did. -/
def framePiecesSpec : ChangeSpec := { name := "framePieces", fn := fun _ => fun
  | [d1, d2] => { results := [.lit (.bool true)], args := [d1, d2] }
  | _ => none }
def framePiecesRow : OpenClaim := { program := "ytgcognefggbpjaa", sum := "07e5e3aedd5933a359a46d0aeeeb3dec20ffdd82fa8e07e20e73c6a52be2cedd", func := "vicinage/vicinagelaw21.FramePieces", spec := "framePieces", apart := false }
def FramePiecesSaid : Prop := framePiecesRow.holds Try.pinned (OpenSpec.ofChange framePiecesSpec)

/-- ITS FALSE NEIGHBOUR: 'it returns false'. Refute it at one input. -/
def framePiecesWrong : ChangeSpec := { name := "framePieces", fn := fun _ => fun
  | [d1, d2] => { results := [.lit (.bool false)], args := [d1, d2] }
  | _ => none }
def FramePiecesWrongFalsely : Prop := framePiecesRow.holds Try.pinned (OpenSpec.ofChange framePiecesWrong)

/- THE SECOND FORM. 'bulk': how many values and letters a reading holds, each counted each time it is reached (what is shared counts as often as it is met; a slice's spare places count too). A statement '..UptoSaid' is the law's where the arguments, and the package variables that the reading takes, are together of bulk at most 1048576: NARROWER than '..Said'. Prove '..Said' where nothing that the law and all that it calls make is longer than what came in: it says more and counts as full. Else prove '..UptoSaid'. A law counts once. -/
mutual
def uptoBulk {H : Type} : DataW H → Nat
  | .lit (.string bytes) => bytes.length + 1
  | .lit _ => 1
  | .nil => 1
  | .ptr d => uptoBulk d + 1
  | .slice elems spare => uptoBulkAll elems + uptoBulkAll spare + 1
  | .agg parts => uptoBulkAll parts + 1
  | .iface _ d => uptoBulk d + 1
  | .map entries => uptoBulkEntries entries + 1
  | .held _ => 1
def uptoBulkAll {H : Type} : List (DataW H) → Nat
  | [] => 0
  | d :: r => uptoBulk d + uptoBulkAll r
def uptoBulkEntries {H : Type} : List (Lit × DataW H) → Nat
  | [] => 0
  | x :: r => uptoBulkEntry x + uptoBulkEntries r
def uptoBulkEntry {H : Type} : Lit × DataW H → Nat
  | (.string bytes, d) => bytes.length + uptoBulk d + 1
  | (_, d) => uptoBulk d + 1
 end
def uptoSmall : (H : Type) → List (DataW H) → Bool := fun _ ds => decide (uptoBulkAll ds ≤ 1048576)
def OpenSpec.upto (s : _root_.Go.ChangeSpec) : _root_.Go.OpenSpec := { _root_.Go.OpenSpec.ofChange s with cond := some uptoSmall }

/-- 'vicinagelaw01.CrcTells', WHERE WHAT IT READS IS OF BULK AT MOST 1048576: true; the input reads as it did. -/
def crcTellsUptoRow : OpenClaim := { program := "ytgcognefggbpjaa", sum := "07e5e3aedd5933a359a46d0aeeeb3dec20ffdd82fa8e07e20e73c6a52be2cedd", func := "vicinage/vicinagelaw01.CrcTells", spec := "crcTells", unfollowed := true, recurses := true, apart := false, narrowed := true }
def CrcTellsUptoSaid : Prop := crcTellsUptoRow.holds Try.pinned (OpenSpec.upto crcTellsSpec)

/-- 'vicinagelaw01.CrcBurst', WHERE WHAT IT READS IS OF BULK AT MOST 1048576: true; the input reads as it did. -/
def crcBurstUptoRow : OpenClaim := { program := "ytgcognefggbpjaa", sum := "07e5e3aedd5933a359a46d0aeeeb3dec20ffdd82fa8e07e20e73c6a52be2cedd", func := "vicinage/vicinagelaw01.CrcBurst", spec := "crcBurst", unfollowed := true, recurses := true, apart := false, narrowed := true }
def CrcBurstUptoSaid : Prop := crcBurstUptoRow.holds Try.pinned (OpenSpec.upto crcBurstSpec)

/-- 'vicinagelaw01.CrcThree', WHERE WHAT IT READS IS OF BULK AT MOST 1048576: true; the input reads as it did. -/
def crcThreeUptoRow : OpenClaim := { program := "ytgcognefggbpjaa", sum := "07e5e3aedd5933a359a46d0aeeeb3dec20ffdd82fa8e07e20e73c6a52be2cedd", func := "vicinage/vicinagelaw01.CrcThree", spec := "crcThree", unfollowed := true, recurses := true, apart := false, narrowed := true }
def CrcThreeUptoSaid : Prop := crcThreeUptoRow.holds Try.pinned (OpenSpec.upto crcThreeSpec)

/-- 'vicinagelaw01.CrcJoins', WHERE WHAT IT READS IS OF BULK AT MOST 1048576: true; the input reads as it did. -/
def crcJoinsUptoRow : OpenClaim := { program := "ytgcognefggbpjaa", sum := "07e5e3aedd5933a359a46d0aeeeb3dec20ffdd82fa8e07e20e73c6a52be2cedd", func := "vicinage/vicinagelaw01.CrcJoins", spec := "crcJoins", unfollowed := true, recurses := true, apart := false, narrowed := true }
def CrcJoinsUptoSaid : Prop := crcJoinsUptoRow.holds Try.pinned (OpenSpec.upto crcJoinsSpec)

/-- 'vicinagelaw01.CrcFar', WHERE WHAT IT READS IS OF BULK AT MOST 1048576: true; the input reads as it did. -/
def crcFarUptoRow : OpenClaim := { program := "ytgcognefggbpjaa", sum := "07e5e3aedd5933a359a46d0aeeeb3dec20ffdd82fa8e07e20e73c6a52be2cedd", func := "vicinage/vicinagelaw01.CrcFar", spec := "crcFar", unfollowed := true, recurses := true, apart := false, narrowed := true }
def CrcFarUptoSaid : Prop := crcFarUptoRow.holds Try.pinned (OpenSpec.upto crcFarSpec)

/-- 'vicinagelaw17.SnapSees', WHERE WHAT IT READS IS OF BULK AT MOST 1048576: true; the input reads as it did. -/
def snapSeesUptoRow : OpenClaim := { program := "ytgcognefggbpjaa", sum := "07e5e3aedd5933a359a46d0aeeeb3dec20ffdd82fa8e07e20e73c6a52be2cedd", func := "vicinage/vicinagelaw17.SnapSees", spec := "snapSees", unfollowed := true, recurses := true, apart := false, narrowed := true }
def SnapSeesUptoSaid : Prop := snapSeesUptoRow.holds Try.pinned (OpenSpec.upto snapSeesSpec)

/-- 'vicinagelaw17.SnapSteady', WHERE WHAT IT READS IS OF BULK AT MOST 1048576: true; the input reads as it did. -/
def snapSteadyUptoRow : OpenClaim := { program := "ytgcognefggbpjaa", sum := "07e5e3aedd5933a359a46d0aeeeb3dec20ffdd82fa8e07e20e73c6a52be2cedd", func := "vicinage/vicinagelaw17.SnapSteady", spec := "snapSteady", unfollowed := true, recurses := true, apart := false, narrowed := true }
def SnapSteadyUptoSaid : Prop := snapSteadyUptoRow.holds Try.pinned (OpenSpec.upto snapSteadySpec)

/-- 'vicinagelaw17.SnapWanted', WHERE WHAT IT READS IS OF BULK AT MOST 1048576: true; the input reads as it did. -/
def snapWantedUptoRow : OpenClaim := { program := "ytgcognefggbpjaa", sum := "07e5e3aedd5933a359a46d0aeeeb3dec20ffdd82fa8e07e20e73c6a52be2cedd", func := "vicinage/vicinagelaw17.SnapWanted", spec := "snapWanted", unfollowed := true, recurses := true, apart := false, narrowed := true }
def SnapWantedUptoSaid : Prop := snapWantedUptoRow.holds Try.pinned (OpenSpec.upto snapWantedSpec)

/-- 'vicinagelaw21.FrameBytes', WHERE WHAT IT READS IS OF BULK AT MOST 1048576: true; the input reads as it did. -/
def frameBytesUptoRow : OpenClaim := { program := "ytgcognefggbpjaa", sum := "07e5e3aedd5933a359a46d0aeeeb3dec20ffdd82fa8e07e20e73c6a52be2cedd", func := "vicinage/vicinagelaw21.FrameBytes", spec := "frameBytes", apart := false, narrowed := true }
def FrameBytesUptoSaid : Prop := frameBytesUptoRow.holds Try.pinned (OpenSpec.upto frameBytesSpec)

/-- 'vicinagelaw21.FramePlays', WHERE WHAT IT READS IS OF BULK AT MOST 1048576: true; the input reads as it did. -/
def framePlaysUptoRow : OpenClaim := { program := "ytgcognefggbpjaa", sum := "07e5e3aedd5933a359a46d0aeeeb3dec20ffdd82fa8e07e20e73c6a52be2cedd", func := "vicinage/vicinagelaw21.FramePlays", spec := "framePlays", apart := false, narrowed := true }
def FramePlaysUptoSaid : Prop := framePlaysUptoRow.holds Try.pinned (OpenSpec.upto framePlaysSpec)

/-- 'vicinagelaw21.FrameSplits', WHERE WHAT IT READS IS OF BULK AT MOST 1048576: true; the input reads as it did. -/
def frameSplitsUptoRow : OpenClaim := { program := "ytgcognefggbpjaa", sum := "07e5e3aedd5933a359a46d0aeeeb3dec20ffdd82fa8e07e20e73c6a52be2cedd", func := "vicinage/vicinagelaw21.FrameSplits", spec := "frameSplits", apart := false, narrowed := true }
def FrameSplitsUptoSaid : Prop := frameSplitsUptoRow.holds Try.pinned (OpenSpec.upto frameSplitsSpec)

/-- 'vicinagelaw21.FramePieces', WHERE WHAT IT READS IS OF BULK AT MOST 1048576: true; the input reads as it did. -/
def framePiecesUptoRow : OpenClaim := { program := "ytgcognefggbpjaa", sum := "07e5e3aedd5933a359a46d0aeeeb3dec20ffdd82fa8e07e20e73c6a52be2cedd", func := "vicinage/vicinagelaw21.FramePieces", spec := "framePieces", apart := false, narrowed := true }
def FramePiecesUptoSaid : Prop := framePiecesUptoRow.holds Try.pinned (OpenSpec.upto framePiecesSpec)

end Rows
end Go.Proofs.Ytgcognefggbpjaa
