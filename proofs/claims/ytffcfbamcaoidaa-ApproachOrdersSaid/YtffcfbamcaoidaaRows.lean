/-
  No cell of these rows narrows 'for every input' (looked for: loops, veiled, ifaces, maps, wideKeys, modest, calm, conditions, laid).
  DERIVED. THE GIVEN ROWS OF THIS SEAT. 11 by the template 'for every input the law returns true; each argument reads behind the call as it read before'; 0 by the template 'total and deterministic' (their statements: YtffcfbamcaoidaaTotals.lean).
  GIVEN WITH THE SEED: the statements are not yours to turn. If you find one false, say at which input.
  Laid BY PROGRAM, IN A SANDBOX (cutbox-rows.mjs): the forced cells as the released guide's own fill.sh prints them over the translation 90a3f06964c50bf6… (all of the seat's roots in one cut). By AI agents, Wed Nov 11 2026. No macro, syntax, notation, axiom, sorry.
-/
import Derived.Test.YtffcfbamcaoidaaChecked
import GoSem.Claim
import GoSem.ClaimJoined
import GoSem.ClaimMapViews
import Derived.JoinedTies
import Derived.KernelRfl
namespace Go.Proofs.Ytffcfbamcaoidaa
/- THE CELL 'sum', in the pinned program and in every row, IS THE sha256 OF THE DUMP (.gsa) THAT YtffcfbamcaoidaaProg.lean LOADS. Nothing in Lean hashes anything: it is a label: what it is worth is what the hold of that sum in a sandbox is worth. -/
noncomputable def Try.pinned : Pinned := { name := "ytffcfbamcaoidaa", sum := "90a3f06964c50bf6dc20349593f0d2572202c133b3466356cd43433837bd1bf5", checked := Try.checked }
namespace Rows
def none {H : Type} : Left H := { results := [], args := [] }

/-- 'skywaylaw4.ScreenLines': WHATEVER THE INPUT: true; the input reads as it did. -/
def screenLinesSpec : ChangeSpec := { name := "screenLines", fn := fun _ => fun
  | [d1, d2] => { results := [.lit (.bool true)], args := [d1, d2] }
  | _ => none }
def screenLinesRow : OpenClaim := { program := "ytffcfbamcaoidaa", sum := "90a3f06964c50bf6dc20349593f0d2572202c133b3466356cd43433837bd1bf5", func := "skyway/skywaylaw4.ScreenLines", spec := "screenLines", apart := false }
def ScreenLinesSaid : Prop := screenLinesRow.holds Try.pinned (OpenSpec.ofChange screenLinesSpec)

/-- ITS FALSE NEIGHBOUR: 'it returns false'. Refute it at one input. -/
def screenLinesWrong : ChangeSpec := { name := "screenLines", fn := fun _ => fun
  | [d1, d2] => { results := [.lit (.bool false)], args := [d1, d2] }
  | _ => none }
def ScreenLinesWrongFalsely : Prop := screenLinesRow.holds Try.pinned (OpenSpec.ofChange screenLinesWrong)

/-- 'skywaylaw4.ConsoleSays': WHATEVER THE INPUT: true; the input reads as it did. -/
def consoleSaysSpec : ChangeSpec := { name := "consoleSays", fn := fun _ => fun
  | [d] => { results := [.lit (.bool true)], args := [d] }
  | _ => none }
def consoleSaysRow : OpenClaim := { program := "ytffcfbamcaoidaa", sum := "90a3f06964c50bf6dc20349593f0d2572202c133b3466356cd43433837bd1bf5", func := "skyway/skywaylaw4.ConsoleSays", spec := "consoleSays", apart := false }
def ConsoleSaysSaid : Prop := consoleSaysRow.holds Try.pinned (OpenSpec.ofChange consoleSaysSpec)

/-- ITS FALSE NEIGHBOUR: 'it returns false'. Refute it at one input. -/
def consoleSaysWrong : ChangeSpec := { name := "consoleSays", fn := fun _ => fun
  | [d] => { results := [.lit (.bool false)], args := [d] }
  | _ => none }
def ConsoleSaysWrongFalsely : Prop := consoleSaysRow.holds Try.pinned (OpenSpec.ofChange consoleSaysWrong)

/-- 'skywaylaw4.ApproachSays': WHATEVER THE INPUT: true; the input reads as it did. -/
def approachSaysSpec : ChangeSpec := { name := "approachSays", fn := fun _ => fun
  | [d1, d2] => { results := [.lit (.bool true)], args := [d1, d2] }
  | _ => none }
def approachSaysRow : OpenClaim := { program := "ytffcfbamcaoidaa", sum := "90a3f06964c50bf6dc20349593f0d2572202c133b3466356cd43433837bd1bf5", func := "skyway/skywaylaw4.ApproachSays", spec := "approachSays", apart := false }
def ApproachSaysSaid : Prop := approachSaysRow.holds Try.pinned (OpenSpec.ofChange approachSaysSpec)

/-- ITS FALSE NEIGHBOUR: 'it returns false'. Refute it at one input. -/
def approachSaysWrong : ChangeSpec := { name := "approachSays", fn := fun _ => fun
  | [d1, d2] => { results := [.lit (.bool false)], args := [d1, d2] }
  | _ => none }
def ApproachSaysWrongFalsely : Prop := approachSaysRow.holds Try.pinned (OpenSpec.ofChange approachSaysWrong)

/-- 'skywaytop.TopLabels': WHATEVER THE INPUT: true; the input reads as it did. -/
def topLabelsSpec : ChangeSpec := { name := "topLabels", fn := fun _ => fun
  | [d1, d2, d3, d4] => { results := [.lit (.bool true)], args := [d1, d2, d3, d4] }
  | _ => none }
def topLabelsRow : OpenClaim := { program := "ytffcfbamcaoidaa", sum := "90a3f06964c50bf6dc20349593f0d2572202c133b3466356cd43433837bd1bf5", func := "skyway/skywaytop.TopLabels", spec := "topLabels", unfollowed := true, recurses := true, apart := false }
def TopLabelsSaid : Prop := topLabelsRow.holds Try.pinned (OpenSpec.ofChange topLabelsSpec)

/-- ITS FALSE NEIGHBOUR: 'it returns false'. Refute it at one input. -/
def topLabelsWrong : ChangeSpec := { name := "topLabels", fn := fun _ => fun
  | [d1, d2, d3, d4] => { results := [.lit (.bool false)], args := [d1, d2, d3, d4] }
  | _ => none }
def TopLabelsWrongFalsely : Prop := topLabelsRow.holds Try.pinned (OpenSpec.ofChange topLabelsWrong)

/-- 'skywaylaw4.LabelPlaces': WHATEVER THE INPUT: true; the input reads as it did. -/
def labelPlacesSpec : ChangeSpec := { name := "labelPlaces", fn := fun _ => fun
  | [d] => { results := [.lit (.bool true)], args := [d] }
  | _ => none }
def labelPlacesRow : OpenClaim := { program := "ytffcfbamcaoidaa", sum := "90a3f06964c50bf6dc20349593f0d2572202c133b3466356cd43433837bd1bf5", func := "skyway/skywaylaw4.LabelPlaces", spec := "labelPlaces", unfollowed := true, recurses := true, apart := false }
def LabelPlacesSaid : Prop := labelPlacesRow.holds Try.pinned (OpenSpec.ofChange labelPlacesSpec)

/-- ITS FALSE NEIGHBOUR: 'it returns false'. Refute it at one input. -/
def labelPlacesWrong : ChangeSpec := { name := "labelPlaces", fn := fun _ => fun
  | [d] => { results := [.lit (.bool false)], args := [d] }
  | _ => none }
def LabelPlacesWrongFalsely : Prop := labelPlacesRow.holds Try.pinned (OpenSpec.ofChange labelPlacesWrong)

/-- 'skywaylaw4.ClockSays': WHATEVER THE INPUT: true; the input reads as it did. -/
def clockSaysSpec : ChangeSpec := { name := "clockSays", fn := fun _ => fun
  | [d] => { results := [.lit (.bool true)], args := [d] }
  | _ => none }
def clockSaysRow : OpenClaim := { program := "ytffcfbamcaoidaa", sum := "90a3f06964c50bf6dc20349593f0d2572202c133b3466356cd43433837bd1bf5", func := "skyway/skywaylaw4.ClockSays", spec := "clockSays", unfollowed := true, recurses := true, apart := false }
def ClockSaysSaid : Prop := clockSaysRow.holds Try.pinned (OpenSpec.ofChange clockSaysSpec)

/-- ITS FALSE NEIGHBOUR: 'it returns false'. Refute it at one input. -/
def clockSaysWrong : ChangeSpec := { name := "clockSays", fn := fun _ => fun
  | [d] => { results := [.lit (.bool false)], args := [d] }
  | _ => none }
def ClockSaysWrongFalsely : Prop := clockSaysRow.holds Try.pinned (OpenSpec.ofChange clockSaysWrong)

/-- 'skywaylaw4.ApproachOrders': WHATEVER THE INPUT: true; the input reads as it did. -/
def approachOrdersSpec : ChangeSpec := { name := "approachOrders", fn := fun _ => fun
  | [d1, d2] => { results := [.lit (.bool true)], args := [d1, d2] }
  | _ => none }
def approachOrdersRow : OpenClaim := { program := "ytffcfbamcaoidaa", sum := "90a3f06964c50bf6dc20349593f0d2572202c133b3466356cd43433837bd1bf5", func := "skyway/skywaylaw4.ApproachOrders", spec := "approachOrders", unfollowed := true, recurses := true, apart := false }
def ApproachOrdersSaid : Prop := approachOrdersRow.holds Try.pinned (OpenSpec.ofChange approachOrdersSpec)

/-- ITS FALSE NEIGHBOUR: 'it returns false'. Refute it at one input. -/
def approachOrdersWrong : ChangeSpec := { name := "approachOrders", fn := fun _ => fun
  | [d1, d2] => { results := [.lit (.bool false)], args := [d1, d2] }
  | _ => none }
def ApproachOrdersWrongFalsely : Prop := approachOrdersRow.holds Try.pinned (OpenSpec.ofChange approachOrdersWrong)

/-- 'skywaylaw4.ClockCuts': WHATEVER THE INPUT: true; the input reads as it did. -/
def clockCutsSpec : ChangeSpec := { name := "clockCuts", fn := fun _ => fun
  | [d1, d2] => { results := [.lit (.bool true)], args := [d1, d2] }
  | _ => none }
def clockCutsRow : OpenClaim := { program := "ytffcfbamcaoidaa", sum := "90a3f06964c50bf6dc20349593f0d2572202c133b3466356cd43433837bd1bf5", func := "skyway/skywaylaw4.ClockCuts", spec := "clockCuts", unfollowed := true, recurses := true, apart := false }
def ClockCutsSaid : Prop := clockCutsRow.holds Try.pinned (OpenSpec.ofChange clockCutsSpec)

/-- ITS FALSE NEIGHBOUR: 'it returns false'. Refute it at one input. -/
def clockCutsWrong : ChangeSpec := { name := "clockCuts", fn := fun _ => fun
  | [d1, d2] => { results := [.lit (.bool false)], args := [d1, d2] }
  | _ => none }
def ClockCutsWrongFalsely : Prop := clockCutsRow.holds Try.pinned (OpenSpec.ofChange clockCutsWrong)

/-- 'skywaylaw4.HoldSays': WHATEVER THE INPUT: true; the input reads as it did. -/
def holdSaysSpec : ChangeSpec := { name := "holdSays", fn := fun _ => fun
  | [d1, d2] => { results := [.lit (.bool true)], args := [d1, d2] }
  | _ => none }
def holdSaysRow : OpenClaim := { program := "ytffcfbamcaoidaa", sum := "90a3f06964c50bf6dc20349593f0d2572202c133b3466356cd43433837bd1bf5", func := "skyway/skywaylaw4.HoldSays", spec := "holdSays", unfollowed := true, recurses := true, apart := false }
def HoldSaysSaid : Prop := holdSaysRow.holds Try.pinned (OpenSpec.ofChange holdSaysSpec)

/-- ITS FALSE NEIGHBOUR: 'it returns false'. Refute it at one input. -/
def holdSaysWrong : ChangeSpec := { name := "holdSays", fn := fun _ => fun
  | [d1, d2] => { results := [.lit (.bool false)], args := [d1, d2] }
  | _ => none }
def HoldSaysWrongFalsely : Prop := holdSaysRow.holds Try.pinned (OpenSpec.ofChange holdSaysWrong)

/-- 'skywaylaw4.ScreenPictures': WHATEVER THE INPUT: true; the input reads as it did. -/
def screenPicturesSpec : ChangeSpec := { name := "screenPictures", fn := fun _ => fun
  | [d1, d2, d3] => { results := [.lit (.bool true)], args := [d1, d2, d3] }
  | _ => none }
def screenPicturesRow : OpenClaim := { program := "ytffcfbamcaoidaa", sum := "90a3f06964c50bf6dc20349593f0d2572202c133b3466356cd43433837bd1bf5", func := "skyway/skywaylaw4.ScreenPictures", spec := "screenPictures", inPlace := ["internal/bytealg.MakeNoZero"], apart := false }
def ScreenPicturesSaid : Prop := screenPicturesRow.holds Try.pinned (OpenSpec.ofChange screenPicturesSpec)

/-- ITS FALSE NEIGHBOUR: 'it returns false'. Refute it at one input. -/
def screenPicturesWrong : ChangeSpec := { name := "screenPictures", fn := fun _ => fun
  | [d1, d2, d3] => { results := [.lit (.bool false)], args := [d1, d2, d3] }
  | _ => none }
def ScreenPicturesWrongFalsely : Prop := screenPicturesRow.holds Try.pinned (OpenSpec.ofChange screenPicturesWrong)

/-- 'skywaylaw4.Names': WHATEVER THE INPUT: true; the input reads as it did. -/
def namesSpec : ChangeSpec := { name := "names", fn := fun _ => fun
  | [] => { results := [.lit (.bool true)], args := [] }
  | _ => none }
def namesRow : OpenClaim := { program := "ytffcfbamcaoidaa", sum := "90a3f06964c50bf6dc20349593f0d2572202c133b3466356cd43433837bd1bf5", func := "skyway/skywaylaw4.Names", spec := "names", recurses := true, apart := false }
def NamesSaid : Prop := namesRow.holds Try.pinned (OpenSpec.ofChange namesSpec)

/-- ITS FALSE NEIGHBOUR: 'it returns false'. Refute it at one input. -/
def namesWrong : ChangeSpec := { name := "names", fn := fun _ => fun
  | [] => { results := [.lit (.bool false)], args := [] }
  | _ => none }
def NamesWrongFalsely : Prop := namesRow.holds Try.pinned (OpenSpec.ofChange namesWrong)

/- THE SECOND FORM. 'bulk': how many values and letters a reading holds, each counted each time it is reached (what is shared counts as often as it is met; a slice's spare places count too). A statement '..UptoSaid' is the law's where the arguments, and the package variables that the reading takes, are together of bulk at most 1048576: NARROWER than '..Said'. Prove '..Said' where nothing that the law and all that it calls make is longer than what came in: it says more and counts as full. Else prove '..UptoSaid'. A law counts once. -/
mutual
def uptoBulk {H : Type} : DataW H → Nat
  | .lit (.string bytes) => bytes.length + 1
  | .lit _ => 1
  | .nil => 1
  | .ptr d => uptoBulk d + 1
  | .slice elems spare => uptoBulkAll elems + uptoBulkAll spare + 1
  | .agg parts => uptoBulkAll parts + 1
  | .iface _ d => uptoBulk d + 1
  | .map entries => uptoBulkEntries entries + 1
  | .held _ => 1
def uptoBulkAll {H : Type} : List (DataW H) → Nat
  | [] => 0
  | d :: r => uptoBulk d + uptoBulkAll r
def uptoBulkEntries {H : Type} : List (Lit × DataW H) → Nat
  | [] => 0
  | x :: r => uptoBulkEntry x + uptoBulkEntries r
def uptoBulkEntry {H : Type} : Lit × DataW H → Nat
  | (.string bytes, d) => bytes.length + uptoBulk d + 1
  | (_, d) => uptoBulk d + 1
 end
def uptoSmall : (H : Type) → List (DataW H) → Bool := fun _ ds => decide (uptoBulkAll ds ≤ 1048576)
def OpenSpec.upto (s : _root_.Go.ChangeSpec) : _root_.Go.OpenSpec := { _root_.Go.OpenSpec.ofChange s with cond := some uptoSmall }

/-- 'skywaylaw4.ScreenLines', WHERE WHAT IT READS IS OF BULK AT MOST 1048576: true; the input reads as it did. -/
def screenLinesUptoRow : OpenClaim := { program := "ytffcfbamcaoidaa", sum := "90a3f06964c50bf6dc20349593f0d2572202c133b3466356cd43433837bd1bf5", func := "skyway/skywaylaw4.ScreenLines", spec := "screenLines", apart := false, narrowed := true }
def ScreenLinesUptoSaid : Prop := screenLinesUptoRow.holds Try.pinned (OpenSpec.upto screenLinesSpec)

/-- 'skywaylaw4.ConsoleSays', WHERE WHAT IT READS IS OF BULK AT MOST 1048576: true; the input reads as it did. -/
def consoleSaysUptoRow : OpenClaim := { program := "ytffcfbamcaoidaa", sum := "90a3f06964c50bf6dc20349593f0d2572202c133b3466356cd43433837bd1bf5", func := "skyway/skywaylaw4.ConsoleSays", spec := "consoleSays", apart := false, narrowed := true }
def ConsoleSaysUptoSaid : Prop := consoleSaysUptoRow.holds Try.pinned (OpenSpec.upto consoleSaysSpec)

/-- 'skywaylaw4.ApproachSays', WHERE WHAT IT READS IS OF BULK AT MOST 1048576: true; the input reads as it did. -/
def approachSaysUptoRow : OpenClaim := { program := "ytffcfbamcaoidaa", sum := "90a3f06964c50bf6dc20349593f0d2572202c133b3466356cd43433837bd1bf5", func := "skyway/skywaylaw4.ApproachSays", spec := "approachSays", apart := false, narrowed := true }
def ApproachSaysUptoSaid : Prop := approachSaysUptoRow.holds Try.pinned (OpenSpec.upto approachSaysSpec)

/-- 'skywaytop.TopLabels', WHERE WHAT IT READS IS OF BULK AT MOST 1048576: true; the input reads as it did. -/
def topLabelsUptoRow : OpenClaim := { program := "ytffcfbamcaoidaa", sum := "90a3f06964c50bf6dc20349593f0d2572202c133b3466356cd43433837bd1bf5", func := "skyway/skywaytop.TopLabels", spec := "topLabels", unfollowed := true, recurses := true, apart := false, narrowed := true }
def TopLabelsUptoSaid : Prop := topLabelsUptoRow.holds Try.pinned (OpenSpec.upto topLabelsSpec)

/-- 'skywaylaw4.LabelPlaces', WHERE WHAT IT READS IS OF BULK AT MOST 1048576: true; the input reads as it did. -/
def labelPlacesUptoRow : OpenClaim := { program := "ytffcfbamcaoidaa", sum := "90a3f06964c50bf6dc20349593f0d2572202c133b3466356cd43433837bd1bf5", func := "skyway/skywaylaw4.LabelPlaces", spec := "labelPlaces", unfollowed := true, recurses := true, apart := false, narrowed := true }
def LabelPlacesUptoSaid : Prop := labelPlacesUptoRow.holds Try.pinned (OpenSpec.upto labelPlacesSpec)

/-- 'skywaylaw4.ClockSays', WHERE WHAT IT READS IS OF BULK AT MOST 1048576: true; the input reads as it did. -/
def clockSaysUptoRow : OpenClaim := { program := "ytffcfbamcaoidaa", sum := "90a3f06964c50bf6dc20349593f0d2572202c133b3466356cd43433837bd1bf5", func := "skyway/skywaylaw4.ClockSays", spec := "clockSays", unfollowed := true, recurses := true, apart := false, narrowed := true }
def ClockSaysUptoSaid : Prop := clockSaysUptoRow.holds Try.pinned (OpenSpec.upto clockSaysSpec)

/-- 'skywaylaw4.ApproachOrders', WHERE WHAT IT READS IS OF BULK AT MOST 1048576: true; the input reads as it did. -/
def approachOrdersUptoRow : OpenClaim := { program := "ytffcfbamcaoidaa", sum := "90a3f06964c50bf6dc20349593f0d2572202c133b3466356cd43433837bd1bf5", func := "skyway/skywaylaw4.ApproachOrders", spec := "approachOrders", unfollowed := true, recurses := true, apart := false, narrowed := true }
def ApproachOrdersUptoSaid : Prop := approachOrdersUptoRow.holds Try.pinned (OpenSpec.upto approachOrdersSpec)

/-- 'skywaylaw4.ClockCuts', WHERE WHAT IT READS IS OF BULK AT MOST 1048576: true; the input reads as it did. -/
def clockCutsUptoRow : OpenClaim := { program := "ytffcfbamcaoidaa", sum := "90a3f06964c50bf6dc20349593f0d2572202c133b3466356cd43433837bd1bf5", func := "skyway/skywaylaw4.ClockCuts", spec := "clockCuts", unfollowed := true, recurses := true, apart := false, narrowed := true }
def ClockCutsUptoSaid : Prop := clockCutsUptoRow.holds Try.pinned (OpenSpec.upto clockCutsSpec)

/-- 'skywaylaw4.HoldSays', WHERE WHAT IT READS IS OF BULK AT MOST 1048576: true; the input reads as it did. -/
def holdSaysUptoRow : OpenClaim := { program := "ytffcfbamcaoidaa", sum := "90a3f06964c50bf6dc20349593f0d2572202c133b3466356cd43433837bd1bf5", func := "skyway/skywaylaw4.HoldSays", spec := "holdSays", unfollowed := true, recurses := true, apart := false, narrowed := true }
def HoldSaysUptoSaid : Prop := holdSaysUptoRow.holds Try.pinned (OpenSpec.upto holdSaysSpec)

/-- 'skywaylaw4.ScreenPictures', WHERE WHAT IT READS IS OF BULK AT MOST 1048576: true; the input reads as it did. -/
def screenPicturesUptoRow : OpenClaim := { program := "ytffcfbamcaoidaa", sum := "90a3f06964c50bf6dc20349593f0d2572202c133b3466356cd43433837bd1bf5", func := "skyway/skywaylaw4.ScreenPictures", spec := "screenPictures", inPlace := ["internal/bytealg.MakeNoZero"], apart := false, narrowed := true }
def ScreenPicturesUptoSaid : Prop := screenPicturesUptoRow.holds Try.pinned (OpenSpec.upto screenPicturesSpec)

/-- 'skywaylaw4.Names', WHERE WHAT IT READS IS OF BULK AT MOST 1048576: true; the input reads as it did. -/
def namesUptoRow : OpenClaim := { program := "ytffcfbamcaoidaa", sum := "90a3f06964c50bf6dc20349593f0d2572202c133b3466356cd43433837bd1bf5", func := "skyway/skywaylaw4.Names", spec := "names", recurses := true, apart := false, narrowed := true }
def NamesUptoSaid : Prop := namesUptoRow.holds Try.pinned (OpenSpec.upto namesSpec)

end Rows
end Go.Proofs.Ytffcfbamcaoidaa
