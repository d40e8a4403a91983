/-
  No cell of these rows narrows 'for every input' (looked for: loops, veiled, ifaces, maps, wideKeys, modest, calm, conditions, laid).
  DERIVED. THE GIVEN ROWS OF THIS SEAT. 4 by the template 'for every input the law returns true; each argument reads behind the call as it read before'; 0 by the template 'total and deterministic' (their statements: YtopeelklnjbdoaaTotals.lean).
  GIVEN WITH THE SEED: the statements are not yours to turn. If you find one false, say at which input.
  Laid BY PROGRAM, IN A SANDBOX (cutbox-rows.mjs): the forced cells as the released guide's own fill.sh prints them over the translation 119026da3188611a… (all of the seat's roots in one cut). By AI agents, Wed Nov 11 2026. No macro, syntax, notation, axiom, sorry.
-/
import Derived.Test.YtopeelklnjbdoaaChecked
import GoSem.Claim
import GoSem.ClaimJoined
import GoSem.ClaimMapViews
import Derived.JoinedTies
import Derived.KernelRfl
namespace Go.Proofs.Ytopeelklnjbdoaa
/- THE CELL 'sum', in the pinned program and in every row, IS THE sha256 OF THE DUMP (.gsa) THAT YtopeelklnjbdoaaProg.lean LOADS. Nothing in Lean hashes anything: it is a label: what it is worth is what the hold of that sum in a sandbox is worth. -/
noncomputable def Try.pinned : Pinned := { name := "ytopeelklnjbdoaa", sum := "119026da3188611ae4214ab7acf749cb3b25bcdb4c7d579f814eb456459311bb", checked := Try.checked }
namespace Rows
def none {H : Type} : Left H := { results := [], args := [] }

/-- 'sundiallaw15.HullAll': WHATEVER THE INPUT: true; the input reads as it did. -/
def hullAllSpec : ChangeSpec := { name := "hullAll", fn := fun _ => fun
  | [d1, d2, d3, d4] => { results := [.lit (.bool true)], args := [d1, d2, d3, d4] }
  | _ => none }
def hullAllRow : OpenClaim := { program := "ytopeelklnjbdoaa", sum := "119026da3188611ae4214ab7acf749cb3b25bcdb4c7d579f814eb456459311bb", func := "sundial/sundiallaw15.HullAll", spec := "hullAll", unfollowed := true, recurses := true, apart := false }
def HullAllSaid : Prop := hullAllRow.holds Try.pinned (OpenSpec.ofChange hullAllSpec)

/-- ITS FALSE NEIGHBOUR: 'it returns false'. Refute it at one input. -/
def hullAllWrong : ChangeSpec := { name := "hullAll", fn := fun _ => fun
  | [d1, d2, d3, d4] => { results := [.lit (.bool false)], args := [d1, d2, d3, d4] }
  | _ => none }
def HullAllWrongFalsely : Prop := hullAllRow.holds Try.pinned (OpenSpec.ofChange hullAllWrong)

/-- 'sundiallaw15.HullSure': WHATEVER THE INPUT: true; the input reads as it did. -/
def hullSureSpec : ChangeSpec := { name := "hullSure", fn := fun _ => fun
  | [d1, d2, d3] => { results := [.lit (.bool true)], args := [d1, d2, d3] }
  | _ => none }
def hullSureRow : OpenClaim := { program := "ytopeelklnjbdoaa", sum := "119026da3188611ae4214ab7acf749cb3b25bcdb4c7d579f814eb456459311bb", func := "sundial/sundiallaw15.HullSure", spec := "hullSure", unfollowed := true, recurses := true, apart := false }
def HullSureSaid : Prop := hullSureRow.holds Try.pinned (OpenSpec.ofChange hullSureSpec)

/-- ITS FALSE NEIGHBOUR: 'it returns false'. Refute it at one input. -/
def hullSureWrong : ChangeSpec := { name := "hullSure", fn := fun _ => fun
  | [d1, d2, d3] => { results := [.lit (.bool false)], args := [d1, d2, d3] }
  | _ => none }
def HullSureWrongFalsely : Prop := hullSureRow.holds Try.pinned (OpenSpec.ofChange hullSureWrong)

/-- 'sundiallaw15.HullGrows': WHATEVER THE INPUT: true; the input reads as it did. -/
def hullGrowsSpec : ChangeSpec := { name := "hullGrows", fn := fun _ => fun
  | [d1, d2] => { results := [.lit (.bool true)], args := [d1, d2] }
  | _ => none }
def hullGrowsRow : OpenClaim := { program := "ytopeelklnjbdoaa", sum := "119026da3188611ae4214ab7acf749cb3b25bcdb4c7d579f814eb456459311bb", func := "sundial/sundiallaw15.HullGrows", spec := "hullGrows", unfollowed := true, recurses := true, apart := false }
def HullGrowsSaid : Prop := hullGrowsRow.holds Try.pinned (OpenSpec.ofChange hullGrowsSpec)

/-- ITS FALSE NEIGHBOUR: 'it returns false'. Refute it at one input. -/
def hullGrowsWrong : ChangeSpec := { name := "hullGrows", fn := fun _ => fun
  | [d1, d2] => { results := [.lit (.bool false)], args := [d1, d2] }
  | _ => none }
def HullGrowsWrongFalsely : Prop := hullGrowsRow.holds Try.pinned (OpenSpec.ofChange hullGrowsWrong)

/-- 'sundiallaw15.HullOrder': WHATEVER THE INPUT: true; the input reads as it did. -/
def hullOrderSpec : ChangeSpec := { name := "hullOrder", fn := fun _ => fun
  | [d1, d2, d3, d4] => { results := [.lit (.bool true)], args := [d1, d2, d3, d4] }
  | _ => none }
def hullOrderRow : OpenClaim := { program := "ytopeelklnjbdoaa", sum := "119026da3188611ae4214ab7acf749cb3b25bcdb4c7d579f814eb456459311bb", func := "sundial/sundiallaw15.HullOrder", spec := "hullOrder", unfollowed := true, recurses := true, apart := false }
def HullOrderSaid : Prop := hullOrderRow.holds Try.pinned (OpenSpec.ofChange hullOrderSpec)

/-- ITS FALSE NEIGHBOUR: 'it returns false'. Refute it at one input. -/
def hullOrderWrong : ChangeSpec := { name := "hullOrder", fn := fun _ => fun
  | [d1, d2, d3, d4] => { results := [.lit (.bool false)], args := [d1, d2, d3, d4] }
  | _ => none }
def HullOrderWrongFalsely : Prop := hullOrderRow.holds Try.pinned (OpenSpec.ofChange hullOrderWrong)

/- THE SECOND FORM. 'bulk': how many values and letters a reading holds, each counted each time it is reached (what is shared counts as often as it is met; a slice's spare places count too). A statement '..UptoSaid' is the law's where the arguments, and the package variables that the reading takes, are together of bulk at most 1048576: NARROWER than '..Said'. Prove '..Said' where nothing that the law and all that it calls make is longer than what came in: it says more and counts as full. Else prove '..UptoSaid'. A law counts once. -/
mutual
def uptoBulk {H : Type} : DataW H → Nat
  | .lit (.string bytes) => bytes.length + 1
  | .lit _ => 1
  | .nil => 1
  | .ptr d => uptoBulk d + 1
  | .slice elems spare => uptoBulkAll elems + uptoBulkAll spare + 1
  | .agg parts => uptoBulkAll parts + 1
  | .iface _ d => uptoBulk d + 1
  | .map entries => uptoBulkEntries entries + 1
  | .held _ => 1
def uptoBulkAll {H : Type} : List (DataW H) → Nat
  | [] => 0
  | d :: r => uptoBulk d + uptoBulkAll r
def uptoBulkEntries {H : Type} : List (Lit × DataW H) → Nat
  | [] => 0
  | x :: r => uptoBulkEntry x + uptoBulkEntries r
def uptoBulkEntry {H : Type} : Lit × DataW H → Nat
  | (.string bytes, d) => bytes.length + uptoBulk d + 1
  | (_, d) => uptoBulk d + 1
 end
def uptoSmall : (H : Type) → List (DataW H) → Bool := fun _ ds => decide (uptoBulkAll ds ≤ 1048576)
def OpenSpec.upto (s : _root_.Go.ChangeSpec) : _root_.Go.OpenSpec := { _root_.Go.OpenSpec.ofChange s with cond := some uptoSmall }

/-- 'sundiallaw15.HullAll', WHERE WHAT IT READS IS OF BULK AT MOST 1048576: true; the input reads as it did. -/
def hullAllUptoRow : OpenClaim := { program := "ytopeelklnjbdoaa", sum := "119026da3188611ae4214ab7acf749cb3b25bcdb4c7d579f814eb456459311bb", func := "sundial/sundiallaw15.HullAll", spec := "hullAll", unfollowed := true, recurses := true, apart := false, narrowed := true }
def HullAllUptoSaid : Prop := hullAllUptoRow.holds Try.pinned (OpenSpec.upto hullAllSpec)

/-- 'sundiallaw15.HullSure', WHERE WHAT IT READS IS OF BULK AT MOST 1048576: true; the input reads as it did. -/
def hullSureUptoRow : OpenClaim := { program := "ytopeelklnjbdoaa", sum := "119026da3188611ae4214ab7acf749cb3b25bcdb4c7d579f814eb456459311bb", func := "sundial/sundiallaw15.HullSure", spec := "hullSure", unfollowed := true, recurses := true, apart := false, narrowed := true }
def HullSureUptoSaid : Prop := hullSureUptoRow.holds Try.pinned (OpenSpec.upto hullSureSpec)

/-- 'sundiallaw15.HullGrows', WHERE WHAT IT READS IS OF BULK AT MOST 1048576: true; the input reads as it did. -/
def hullGrowsUptoRow : OpenClaim := { program := "ytopeelklnjbdoaa", sum := "119026da3188611ae4214ab7acf749cb3b25bcdb4c7d579f814eb456459311bb", func := "sundial/sundiallaw15.HullGrows", spec := "hullGrows", unfollowed := true, recurses := true, apart := false, narrowed := true }
def HullGrowsUptoSaid : Prop := hullGrowsUptoRow.holds Try.pinned (OpenSpec.upto hullGrowsSpec)

/-- 'sundiallaw15.HullOrder', WHERE WHAT IT READS IS OF BULK AT MOST 1048576: true; the input reads as it did. -/
def hullOrderUptoRow : OpenClaim := { program := "ytopeelklnjbdoaa", sum := "119026da3188611ae4214ab7acf749cb3b25bcdb4c7d579f814eb456459311bb", func := "sundial/sundiallaw15.HullOrder", spec := "hullOrder", unfollowed := true, recurses := true, apart := false, narrowed := true }
def HullOrderUptoSaid : Prop := hullOrderUptoRow.holds Try.pinned (OpenSpec.upto hullOrderSpec)

end Rows
end Go.Proofs.Ytopeelklnjbdoaa
