/-
  No cell of these rows narrows 'for every input' (looked for: loops, veiled, ifaces, maps, wideKeys, modest, calm, conditions, laid).
  DERIVED. THE GIVEN ROWS OF THIS SEAT. 7 by the template 'for every input the law returns true; each argument reads behind the call as it read before'; 0 by the template 'total and deterministic' (their statements: YtbkpgpkeecnjpaaTotals.lean).
  GIVEN WITH THE SEED: the statements are not yours to turn. If you find one false, say at which input.
  Laid BY PROGRAM, IN A SANDBOX (cutbox-rows.mjs): the forced cells as the released guide's own fill.sh prints them over the translation a82f9d2ec97e99f9… (all of the seat's roots in one cut). By AI agents, Wed Nov 11 2026. No macro, syntax, notation, axiom, sorry.
-/
import Derived.Test.YtbkpgpkeecnjpaaChecked
import GoSem.Claim
import GoSem.ClaimJoined
import GoSem.ClaimMapViews
import Derived.JoinedTies
import Derived.KernelRfl
namespace Go.Proofs.Ytbkpgpkeecnjpaa
/- THE CELL 'sum', in the pinned program and in every row, IS THE sha256 OF THE DUMP (.gsa) THAT YtbkpgpkeecnjpaaProg.lean LOADS. Nothing in Lean hashes anything: it is a label: what it is worth is what the hold of that sum in a sandbox is worth. -/
noncomputable def Try.pinned : Pinned := { name := "ytbkpgpkeecnjpaa", sum := "a82f9d2ec97e99f90ae0b9f21ebc51b19f81a2ba20fc0f159e028e8963904ea1", checked := Try.checked }
namespace Rows
def none {H : Type} : Left H := { results := [], args := [] }

/-- 'skywaylaw2.WireEncodes': WHATEVER THE INPUT: true; the input reads as it did. -/
def wireEncodesSpec : ChangeSpec := { name := "wireEncodes", fn := fun _ => fun
  | [d1, d2] => { results := [.lit (.bool true)], args := [d1, d2] }
  | _ => none }
def wireEncodesRow : OpenClaim := { program := "ytbkpgpkeecnjpaa", sum := "a82f9d2ec97e99f90ae0b9f21ebc51b19f81a2ba20fc0f159e028e8963904ea1", func := "skyway/skywaylaw2.WireEncodes", spec := "wireEncodes", inPlace := ["math.Float64bits", "math.Float64frombits"], recurses := true, apart := false }
def WireEncodesSaid : Prop := wireEncodesRow.holds Try.pinned (OpenSpec.ofChange wireEncodesSpec)

/-- ITS FALSE NEIGHBOUR: 'it returns false'. Refute it at one input. -/
def wireEncodesWrong : ChangeSpec := { name := "wireEncodes", fn := fun _ => fun
  | [d1, d2] => { results := [.lit (.bool false)], args := [d1, d2] }
  | _ => none }
def WireEncodesWrongFalsely : Prop := wireEncodesRow.holds Try.pinned (OpenSpec.ofChange wireEncodesWrong)

/-- 'skywaylaw2.AssignBest': WHATEVER THE INPUT: true; the input reads as it did. -/
def assignBestSpec : ChangeSpec := { name := "assignBest", fn := fun _ => fun
  | [d1, d2] => { results := [.lit (.bool true)], args := [d1, d2] }
  | _ => none }
def assignBestRow : OpenClaim := { program := "ytbkpgpkeecnjpaa", sum := "a82f9d2ec97e99f90ae0b9f21ebc51b19f81a2ba20fc0f159e028e8963904ea1", func := "skyway/skywaylaw2.AssignBest", spec := "assignBest", unfollowed := true, recurses := true, apart := false }
def AssignBestSaid : Prop := assignBestRow.holds Try.pinned (OpenSpec.ofChange assignBestSpec)

/-- ITS FALSE NEIGHBOUR: 'it returns false'. Refute it at one input. -/
def assignBestWrong : ChangeSpec := { name := "assignBest", fn := fun _ => fun
  | [d1, d2] => { results := [.lit (.bool false)], args := [d1, d2] }
  | _ => none }
def AssignBestWrongFalsely : Prop := assignBestRow.holds Try.pinned (OpenSpec.ofChange assignBestWrong)

/-- 'skywaylaw2.WireDecodes': WHATEVER THE INPUT: true; the input reads as it did. -/
def wireDecodesSpec : ChangeSpec := { name := "wireDecodes", fn := fun _ => fun
  | [d] => { results := [.lit (.bool true)], args := [d] }
  | _ => none }
def wireDecodesRow : OpenClaim := { program := "ytbkpgpkeecnjpaa", sum := "a82f9d2ec97e99f90ae0b9f21ebc51b19f81a2ba20fc0f159e028e8963904ea1", func := "skyway/skywaylaw2.WireDecodes", spec := "wireDecodes", inPlace := ["math.Float64bits", "math.Float64frombits"], recurses := true, apart := false }
def WireDecodesSaid : Prop := wireDecodesRow.holds Try.pinned (OpenSpec.ofChange wireDecodesSpec)

/-- ITS FALSE NEIGHBOUR: 'it returns false'. Refute it at one input. -/
def wireDecodesWrong : ChangeSpec := { name := "wireDecodes", fn := fun _ => fun
  | [d] => { results := [.lit (.bool false)], args := [d] }
  | _ => none }
def WireDecodesWrongFalsely : Prop := wireDecodesRow.holds Try.pinned (OpenSpec.ofChange wireDecodesWrong)

/-- 'skywaylaw2.BiasMedians': WHATEVER THE INPUT: true; the input reads as it did. -/
def biasMediansSpec : ChangeSpec := { name := "biasMedians", fn := fun _ => fun
  | [d1, d2] => { results := [.lit (.bool true)], args := [d1, d2] }
  | _ => none }
def biasMediansRow : OpenClaim := { program := "ytbkpgpkeecnjpaa", sum := "a82f9d2ec97e99f90ae0b9f21ebc51b19f81a2ba20fc0f159e028e8963904ea1", func := "skyway/skywaylaw2.BiasMedians", spec := "biasMedians", recurses := true, apart := false }
def BiasMediansSaid : Prop := biasMediansRow.holds Try.pinned (OpenSpec.ofChange biasMediansSpec)

/-- ITS FALSE NEIGHBOUR: 'it returns false'. Refute it at one input. -/
def biasMediansWrong : ChangeSpec := { name := "biasMedians", fn := fun _ => fun
  | [d1, d2] => { results := [.lit (.bool false)], args := [d1, d2] }
  | _ => none }
def BiasMediansWrongFalsely : Prop := biasMediansRow.holds Try.pinned (OpenSpec.ofChange biasMediansWrong)

/-- 'skywaylaw2.MosaicSees': WHATEVER THE INPUT: true; the input reads as it did. -/
def mosaicSeesSpec : ChangeSpec := { name := "mosaicSees", fn := fun _ => fun
  | [d1, d2] => { results := [.lit (.bool true)], args := [d1, d2] }
  | _ => none }
def mosaicSeesRow : OpenClaim := { program := "ytbkpgpkeecnjpaa", sum := "a82f9d2ec97e99f90ae0b9f21ebc51b19f81a2ba20fc0f159e028e8963904ea1", func := "skyway/skywaylaw2.MosaicSees", spec := "mosaicSees", unfollowed := true, recurses := true, apart := false }
def MosaicSeesSaid : Prop := mosaicSeesRow.holds Try.pinned (OpenSpec.ofChange mosaicSeesSpec)

/-- ITS FALSE NEIGHBOUR: 'it returns false'. Refute it at one input. -/
def mosaicSeesWrong : ChangeSpec := { name := "mosaicSees", fn := fun _ => fun
  | [d1, d2] => { results := [.lit (.bool false)], args := [d1, d2] }
  | _ => none }
def MosaicSeesWrongFalsely : Prop := mosaicSeesRow.holds Try.pinned (OpenSpec.ofChange mosaicSeesWrong)

/-- 'skywaylaw2.MosaicMerges': WHATEVER THE INPUT: true; the input reads as it did. -/
def mosaicMergesSpec : ChangeSpec := { name := "mosaicMerges", fn := fun _ => fun
  | [d] => { results := [.lit (.bool true)], args := [d] }
  | _ => none }
def mosaicMergesRow : OpenClaim := { program := "ytbkpgpkeecnjpaa", sum := "a82f9d2ec97e99f90ae0b9f21ebc51b19f81a2ba20fc0f159e028e8963904ea1", func := "skyway/skywaylaw2.MosaicMerges", spec := "mosaicMerges", unfollowed := true, recurses := true, apart := false }
def MosaicMergesSaid : Prop := mosaicMergesRow.holds Try.pinned (OpenSpec.ofChange mosaicMergesSpec)

/-- ITS FALSE NEIGHBOUR: 'it returns false'. Refute it at one input. -/
def mosaicMergesWrong : ChangeSpec := { name := "mosaicMerges", fn := fun _ => fun
  | [d] => { results := [.lit (.bool false)], args := [d] }
  | _ => none }
def MosaicMergesWrongFalsely : Prop := mosaicMergesRow.holds Try.pinned (OpenSpec.ofChange mosaicMergesWrong)

/-- 'skywaylaw2.FuseSpots': WHATEVER THE INPUT: true; the input reads as it did. -/
def fuseSpotsSpec : ChangeSpec := { name := "fuseSpots", fn := fun _ => fun
  | [d1, d2] => { results := [.lit (.bool true)], args := [d1, d2] }
  | _ => none }
def fuseSpotsRow : OpenClaim := { program := "ytbkpgpkeecnjpaa", sum := "a82f9d2ec97e99f90ae0b9f21ebc51b19f81a2ba20fc0f159e028e8963904ea1", func := "skyway/skywaylaw2.FuseSpots", spec := "fuseSpots", unfollowed := true, recurses := true, apart := false }
def FuseSpotsSaid : Prop := fuseSpotsRow.holds Try.pinned (OpenSpec.ofChange fuseSpotsSpec)

/-- ITS FALSE NEIGHBOUR: 'it returns false'. Refute it at one input. -/
def fuseSpotsWrong : ChangeSpec := { name := "fuseSpots", fn := fun _ => fun
  | [d1, d2] => { results := [.lit (.bool false)], args := [d1, d2] }
  | _ => none }
def FuseSpotsWrongFalsely : Prop := fuseSpotsRow.holds Try.pinned (OpenSpec.ofChange fuseSpotsWrong)

/- THE SECOND FORM. 'bulk': how many values and letters a reading holds, each counted each time it is reached (what is shared counts as often as it is met; a slice's spare places count too). A statement '..UptoSaid' is the law's where the arguments, and the package variables that the reading takes, are together of bulk at most 1048576: NARROWER than '..Said'. Prove '..Said' where nothing that the law and all that it calls make is longer than what came in: it says more and counts as full. Else prove '..UptoSaid'. A law counts once. -/
mutual
def uptoBulk {H : Type} : DataW H → Nat
  | .lit (.string bytes) => bytes.length + 1
  | .lit _ => 1
  | .nil => 1
  | .ptr d => uptoBulk d + 1
  | .slice elems spare => uptoBulkAll elems + uptoBulkAll spare + 1
  | .agg parts => uptoBulkAll parts + 1
  | .iface _ d => uptoBulk d + 1
  | .map entries => uptoBulkEntries entries + 1
  | .held _ => 1
def uptoBulkAll {H : Type} : List (DataW H) → Nat
  | [] => 0
  | d :: r => uptoBulk d + uptoBulkAll r
def uptoBulkEntries {H : Type} : List (Lit × DataW H) → Nat
  | [] => 0
  | x :: r => uptoBulkEntry x + uptoBulkEntries r
def uptoBulkEntry {H : Type} : Lit × DataW H → Nat
  | (.string bytes, d) => bytes.length + uptoBulk d + 1
  | (_, d) => uptoBulk d + 1
 end
def uptoSmall : (H : Type) → List (DataW H) → Bool := fun _ ds => decide (uptoBulkAll ds ≤ 1048576)
def OpenSpec.upto (s : _root_.Go.ChangeSpec) : _root_.Go.OpenSpec := { _root_.Go.OpenSpec.ofChange s with cond := some uptoSmall }

/-- 'skywaylaw2.WireEncodes', WHERE WHAT IT READS IS OF BULK AT MOST 1048576: true; the input reads as it did. -/
def wireEncodesUptoRow : OpenClaim := { program := "ytbkpgpkeecnjpaa", sum := "a82f9d2ec97e99f90ae0b9f21ebc51b19f81a2ba20fc0f159e028e8963904ea1", func := "skyway/skywaylaw2.WireEncodes", spec := "wireEncodes", inPlace := ["math.Float64bits", "math.Float64frombits"], recurses := true, apart := false, narrowed := true }
def WireEncodesUptoSaid : Prop := wireEncodesUptoRow.holds Try.pinned (OpenSpec.upto wireEncodesSpec)

/-- 'skywaylaw2.AssignBest', WHERE WHAT IT READS IS OF BULK AT MOST 1048576: true; the input reads as it did. -/
def assignBestUptoRow : OpenClaim := { program := "ytbkpgpkeecnjpaa", sum := "a82f9d2ec97e99f90ae0b9f21ebc51b19f81a2ba20fc0f159e028e8963904ea1", func := "skyway/skywaylaw2.AssignBest", spec := "assignBest", unfollowed := true, recurses := true, apart := false, narrowed := true }
def AssignBestUptoSaid : Prop := assignBestUptoRow.holds Try.pinned (OpenSpec.upto assignBestSpec)

/-- 'skywaylaw2.WireDecodes', WHERE WHAT IT READS IS OF BULK AT MOST 1048576: true; the input reads as it did. -/
def wireDecodesUptoRow : OpenClaim := { program := "ytbkpgpkeecnjpaa", sum := "a82f9d2ec97e99f90ae0b9f21ebc51b19f81a2ba20fc0f159e028e8963904ea1", func := "skyway/skywaylaw2.WireDecodes", spec := "wireDecodes", inPlace := ["math.Float64bits", "math.Float64frombits"], recurses := true, apart := false, narrowed := true }
def WireDecodesUptoSaid : Prop := wireDecodesUptoRow.holds Try.pinned (OpenSpec.upto wireDecodesSpec)

/-- 'skywaylaw2.BiasMedians', WHERE WHAT IT READS IS OF BULK AT MOST 1048576: true; the input reads as it did. -/
def biasMediansUptoRow : OpenClaim := { program := "ytbkpgpkeecnjpaa", sum := "a82f9d2ec97e99f90ae0b9f21ebc51b19f81a2ba20fc0f159e028e8963904ea1", func := "skyway/skywaylaw2.BiasMedians", spec := "biasMedians", recurses := true, apart := false, narrowed := true }
def BiasMediansUptoSaid : Prop := biasMediansUptoRow.holds Try.pinned (OpenSpec.upto biasMediansSpec)

/-- 'skywaylaw2.MosaicSees', WHERE WHAT IT READS IS OF BULK AT MOST 1048576: true; the input reads as it did. -/
def mosaicSeesUptoRow : OpenClaim := { program := "ytbkpgpkeecnjpaa", sum := "a82f9d2ec97e99f90ae0b9f21ebc51b19f81a2ba20fc0f159e028e8963904ea1", func := "skyway/skywaylaw2.MosaicSees", spec := "mosaicSees", unfollowed := true, recurses := true, apart := false, narrowed := true }
def MosaicSeesUptoSaid : Prop := mosaicSeesUptoRow.holds Try.pinned (OpenSpec.upto mosaicSeesSpec)

/-- 'skywaylaw2.MosaicMerges', WHERE WHAT IT READS IS OF BULK AT MOST 1048576: true; the input reads as it did. -/
def mosaicMergesUptoRow : OpenClaim := { program := "ytbkpgpkeecnjpaa", sum := "a82f9d2ec97e99f90ae0b9f21ebc51b19f81a2ba20fc0f159e028e8963904ea1", func := "skyway/skywaylaw2.MosaicMerges", spec := "mosaicMerges", unfollowed := true, recurses := true, apart := false, narrowed := true }
def MosaicMergesUptoSaid : Prop := mosaicMergesUptoRow.holds Try.pinned (OpenSpec.upto mosaicMergesSpec)

/-- 'skywaylaw2.FuseSpots', WHERE WHAT IT READS IS OF BULK AT MOST 1048576: true; the input reads as it did. -/
def fuseSpotsUptoRow : OpenClaim := { program := "ytbkpgpkeecnjpaa", sum := "a82f9d2ec97e99f90ae0b9f21ebc51b19f81a2ba20fc0f159e028e8963904ea1", func := "skyway/skywaylaw2.FuseSpots", spec := "fuseSpots", unfollowed := true, recurses := true, apart := false, narrowed := true }
def FuseSpotsUptoSaid : Prop := fuseSpotsUptoRow.holds Try.pinned (OpenSpec.upto fuseSpotsSpec)

end Rows
end Go.Proofs.Ytbkpgpkeecnjpaa
