/-
  No cell of these rows narrows 'for every input' (looked for: loops, veiled, ifaces, maps, wideKeys, modest, calm, conditions, laid).
  DERIVED. THE GIVEN ROWS OF THIS SEAT. 5 by the template 'for every input the law returns true; each argument reads behind the call as it read before'; 0 by the template 'total and deterministic' (their statements: YtcppipndapaljaaTotals.lean).
  GIVEN WITH THE SEED: the statements are not yours to turn. If you find one false, say at which input.
  Laid BY PROGRAM, IN A SANDBOX (cutbox-rows.mjs): the forced cells as the released guide's own fill.sh prints them over the translation f06d74ed269ea99a… (all of the seat's roots in one cut). By AI agents, Wed Nov 11 2026. No macro, syntax, notation, axiom, sorry.
-/
import Derived.Test.YtcppipndapaljaaChecked
import GoSem.Claim
import GoSem.ClaimJoined
import GoSem.ClaimMapViews
import Derived.JoinedTies
import Derived.KernelRfl
namespace Go.Proofs.Ytcppipndapaljaa
/- THE CELL 'sum', in the pinned program and in every row, IS THE sha256 OF THE DUMP (.gsa) THAT YtcppipndapaljaaProg.lean LOADS. Nothing in Lean hashes anything: it is a label: what it is worth is what the hold of that sum in a sandbox is worth. -/
noncomputable def Try.pinned : Pinned := { name := "ytcppipndapaljaa", sum := "f06d74ed269ea99a5499392d6956cf7e88bad9c0c7dd58a2c24f80448eeb00bc", checked := Try.checked }
namespace Rows
def none {H : Type} : Left H := { results := [], args := [] }

/-- 'sundiallaw10.CtlFrames': WHATEVER THE INPUT: true; the input reads as it did. -/
def ctlFramesSpec : ChangeSpec := { name := "ctlFrames", fn := fun _ => fun
  | [d1, d2] => { results := [.lit (.bool true)], args := [d1, d2] }
  | _ => none }
def ctlFramesRow : OpenClaim := { program := "ytcppipndapaljaa", sum := "f06d74ed269ea99a5499392d6956cf7e88bad9c0c7dd58a2c24f80448eeb00bc", func := "sundial/sundiallaw10.CtlFrames", spec := "ctlFrames", apart := false }
def CtlFramesSaid : Prop := ctlFramesRow.holds Try.pinned (OpenSpec.ofChange ctlFramesSpec)

/-- ITS FALSE NEIGHBOUR: 'it returns false'. Refute it at one input. -/
def ctlFramesWrong : ChangeSpec := { name := "ctlFrames", fn := fun _ => fun
  | [d1, d2] => { results := [.lit (.bool false)], args := [d1, d2] }
  | _ => none }
def CtlFramesWrongFalsely : Prop := ctlFramesRow.holds Try.pinned (OpenSpec.ofChange ctlFramesWrong)

/-- 'sundiallaw10.CtlBack': WHATEVER THE INPUT: true; the input reads as it did. -/
def ctlBackSpec : ChangeSpec := { name := "ctlBack", fn := fun _ => fun
  | [d1, d2] => { results := [.lit (.bool true)], args := [d1, d2] }
  | _ => none }
def ctlBackRow : OpenClaim := { program := "ytcppipndapaljaa", sum := "f06d74ed269ea99a5499392d6956cf7e88bad9c0c7dd58a2c24f80448eeb00bc", func := "sundial/sundiallaw10.CtlBack", spec := "ctlBack", apart := false }
def CtlBackSaid : Prop := ctlBackRow.holds Try.pinned (OpenSpec.ofChange ctlBackSpec)

/-- ITS FALSE NEIGHBOUR: 'it returns false'. Refute it at one input. -/
def ctlBackWrong : ChangeSpec := { name := "ctlBack", fn := fun _ => fun
  | [d1, d2] => { results := [.lit (.bool false)], args := [d1, d2] }
  | _ => none }
def CtlBackWrongFalsely : Prop := ctlBackRow.holds Try.pinned (OpenSpec.ofChange ctlBackWrong)

/-- 'sundiallaw10.CtlKeep': WHATEVER THE INPUT: true; the input reads as it did. -/
def ctlKeepSpec : ChangeSpec := { name := "ctlKeep", fn := fun _ => fun
  | [d1, d2] => { results := [.lit (.bool true)], args := [d1, d2] }
  | _ => none }
def ctlKeepRow : OpenClaim := { program := "ytcppipndapaljaa", sum := "f06d74ed269ea99a5499392d6956cf7e88bad9c0c7dd58a2c24f80448eeb00bc", func := "sundial/sundiallaw10.CtlKeep", spec := "ctlKeep", apart := false }
def CtlKeepSaid : Prop := ctlKeepRow.holds Try.pinned (OpenSpec.ofChange ctlKeepSpec)

/-- ITS FALSE NEIGHBOUR: 'it returns false'. Refute it at one input. -/
def ctlKeepWrong : ChangeSpec := { name := "ctlKeep", fn := fun _ => fun
  | [d1, d2] => { results := [.lit (.bool false)], args := [d1, d2] }
  | _ => none }
def CtlKeepWrongFalsely : Prop := ctlKeepRow.holds Try.pinned (OpenSpec.ofChange ctlKeepWrong)

/-- 'sundiallaw10.CtlPieces': WHATEVER THE INPUT: true; the input reads as it did. -/
def ctlPiecesSpec : ChangeSpec := { name := "ctlPieces", fn := fun _ => fun
  | [d1, d2, d3] => { results := [.lit (.bool true)], args := [d1, d2, d3] }
  | _ => none }
def ctlPiecesRow : OpenClaim := { program := "ytcppipndapaljaa", sum := "f06d74ed269ea99a5499392d6956cf7e88bad9c0c7dd58a2c24f80448eeb00bc", func := "sundial/sundiallaw10.CtlPieces", spec := "ctlPieces", unfollowed := true, recurses := true, apart := false }
def CtlPiecesSaid : Prop := ctlPiecesRow.holds Try.pinned (OpenSpec.ofChange ctlPiecesSpec)

/-- ITS FALSE NEIGHBOUR: 'it returns false'. Refute it at one input. -/
def ctlPiecesWrong : ChangeSpec := { name := "ctlPieces", fn := fun _ => fun
  | [d1, d2, d3] => { results := [.lit (.bool false)], args := [d1, d2, d3] }
  | _ => none }
def CtlPiecesWrongFalsely : Prop := ctlPiecesRow.holds Try.pinned (OpenSpec.ofChange ctlPiecesWrong)

/-- 'sundiallaw10.CtlJoins': WHATEVER THE INPUT: true; the input reads as it did. -/
def ctlJoinsSpec : ChangeSpec := { name := "ctlJoins", fn := fun _ => fun
  | [d1, d2, d3, d4] => { results := [.lit (.bool true)], args := [d1, d2, d3, d4] }
  | _ => none }
def ctlJoinsRow : OpenClaim := { program := "ytcppipndapaljaa", sum := "f06d74ed269ea99a5499392d6956cf7e88bad9c0c7dd58a2c24f80448eeb00bc", func := "sundial/sundiallaw10.CtlJoins", spec := "ctlJoins", unfollowed := true, recurses := true, apart := false }
def CtlJoinsSaid : Prop := ctlJoinsRow.holds Try.pinned (OpenSpec.ofChange ctlJoinsSpec)

/-- ITS FALSE NEIGHBOUR: 'it returns false'. Refute it at one input. -/
def ctlJoinsWrong : ChangeSpec := { name := "ctlJoins", fn := fun _ => fun
  | [d1, d2, d3, d4] => { results := [.lit (.bool false)], args := [d1, d2, d3, d4] }
  | _ => none }
def CtlJoinsWrongFalsely : Prop := ctlJoinsRow.holds Try.pinned (OpenSpec.ofChange ctlJoinsWrong)

/- THE SECOND FORM. 'bulk': how many values and letters a reading holds, each counted each time it is reached (what is shared counts as often as it is met; a slice's spare places count too). A statement '..UptoSaid' is the law's where the arguments, and the package variables that the reading takes, are together of bulk at most 1048576: NARROWER than '..Said'. Prove '..Said' where nothing that the law and all that it calls make is longer than what came in: it says more and counts as full. Else prove '..UptoSaid'. A law counts once. -/
mutual
def uptoBulk {H : Type} : DataW H → Nat
  | .lit (.string bytes) => bytes.length + 1
  | .lit _ => 1
  | .nil => 1
  | .ptr d => uptoBulk d + 1
  | .slice elems spare => uptoBulkAll elems + uptoBulkAll spare + 1
  | .agg parts => uptoBulkAll parts + 1
  | .iface _ d => uptoBulk d + 1
  | .map entries => uptoBulkEntries entries + 1
  | .held _ => 1
def uptoBulkAll {H : Type} : List (DataW H) → Nat
  | [] => 0
  | d :: r => uptoBulk d + uptoBulkAll r
def uptoBulkEntries {H : Type} : List (Lit × DataW H) → Nat
  | [] => 0
  | x :: r => uptoBulkEntry x + uptoBulkEntries r
def uptoBulkEntry {H : Type} : Lit × DataW H → Nat
  | (.string bytes, d) => bytes.length + uptoBulk d + 1
  | (_, d) => uptoBulk d + 1
 end
def uptoSmall : (H : Type) → List (DataW H) → Bool := fun _ ds => decide (uptoBulkAll ds ≤ 1048576)
def OpenSpec.upto (s : _root_.Go.ChangeSpec) : _root_.Go.OpenSpec := { _root_.Go.OpenSpec.ofChange s with cond := some uptoSmall }

/-- 'sundiallaw10.CtlFrames', WHERE WHAT IT READS IS OF BULK AT MOST 1048576: true; the input reads as it did. -/
def ctlFramesUptoRow : OpenClaim := { program := "ytcppipndapaljaa", sum := "f06d74ed269ea99a5499392d6956cf7e88bad9c0c7dd58a2c24f80448eeb00bc", func := "sundial/sundiallaw10.CtlFrames", spec := "ctlFrames", apart := false, narrowed := true }
def CtlFramesUptoSaid : Prop := ctlFramesUptoRow.holds Try.pinned (OpenSpec.upto ctlFramesSpec)

/-- 'sundiallaw10.CtlBack', WHERE WHAT IT READS IS OF BULK AT MOST 1048576: true; the input reads as it did. -/
def ctlBackUptoRow : OpenClaim := { program := "ytcppipndapaljaa", sum := "f06d74ed269ea99a5499392d6956cf7e88bad9c0c7dd58a2c24f80448eeb00bc", func := "sundial/sundiallaw10.CtlBack", spec := "ctlBack", apart := false, narrowed := true }
def CtlBackUptoSaid : Prop := ctlBackUptoRow.holds Try.pinned (OpenSpec.upto ctlBackSpec)

/-- 'sundiallaw10.CtlKeep', WHERE WHAT IT READS IS OF BULK AT MOST 1048576: true; the input reads as it did. -/
def ctlKeepUptoRow : OpenClaim := { program := "ytcppipndapaljaa", sum := "f06d74ed269ea99a5499392d6956cf7e88bad9c0c7dd58a2c24f80448eeb00bc", func := "sundial/sundiallaw10.CtlKeep", spec := "ctlKeep", apart := false, narrowed := true }
def CtlKeepUptoSaid : Prop := ctlKeepUptoRow.holds Try.pinned (OpenSpec.upto ctlKeepSpec)

/-- 'sundiallaw10.CtlPieces', WHERE WHAT IT READS IS OF BULK AT MOST 1048576: true; the input reads as it did. -/
def ctlPiecesUptoRow : OpenClaim := { program := "ytcppipndapaljaa", sum := "f06d74ed269ea99a5499392d6956cf7e88bad9c0c7dd58a2c24f80448eeb00bc", func := "sundial/sundiallaw10.CtlPieces", spec := "ctlPieces", unfollowed := true, recurses := true, apart := false, narrowed := true }
def CtlPiecesUptoSaid : Prop := ctlPiecesUptoRow.holds Try.pinned (OpenSpec.upto ctlPiecesSpec)

/-- 'sundiallaw10.CtlJoins', WHERE WHAT IT READS IS OF BULK AT MOST 1048576: true; the input reads as it did. -/
def ctlJoinsUptoRow : OpenClaim := { program := "ytcppipndapaljaa", sum := "f06d74ed269ea99a5499392d6956cf7e88bad9c0c7dd58a2c24f80448eeb00bc", func := "sundial/sundiallaw10.CtlJoins", spec := "ctlJoins", unfollowed := true, recurses := true, apart := false, narrowed := true }
def CtlJoinsUptoSaid : Prop := ctlJoinsUptoRow.holds Try.pinned (OpenSpec.upto ctlJoinsSpec)

end Rows
end Go.Proofs.Ytcppipndapaljaa
