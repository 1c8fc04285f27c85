/-
  No cell of these rows narrows 'for every input' (looked for: loops, veiled, ifaces, maps, wideKeys, modest, calm, conditions, laid).
  DERIVED. THE GIVEN ROWS OF THIS SEAT. 3 by the template 'for every input the law returns true; each argument reads behind the call as it read before'; 0 by the template 'total and deterministic' (their statements: YtclopfiochcocaaTotals.lean).
  GIVEN WITH THE SEED: the statements are not yours to turn. If you find one false, say at which input.
  Laid BY PROGRAM, IN A SANDBOX (cutbox-rows.mjs): the forced cells as the released guide's own fill.sh prints them over the translation 19f0a2dc73031cc4… (all of the seat's roots in one cut). By AI agents, Wed Nov 11 2026. No macro, syntax, notation, axiom, sorry.
-/
import Derived.Test.YtclopfiochcocaaChecked
import GoSem.Claim
import GoSem.ClaimJoined
import GoSem.ClaimMapViews
import Derived.JoinedTies
import Derived.KernelRfl
namespace Go.Proofs.Ytclopfiochcocaa
/- THE CELL 'sum', in the pinned program and in every row, IS THE sha256 OF THE DUMP (.gsa) THAT YtclopfiochcocaaProg.lean LOADS. Nothing in Lean hashes anything: it is a label: what it is worth is what the hold of that sum in a sandbox is worth. -/
noncomputable def Try.pinned : Pinned := { name := "ytclopfiochcocaa", sum := "19f0a2dc73031cc466687c593f7fd4169acd60f2015d7a4dbfeee389aa3e1152", checked := Try.checked }
namespace Rows
def none {H : Type} : Left H := { results := [], args := [] }

/-- 'skywaylaw4.ScreenLines': WHATEVER THE INPUT: true; the input reads as it did. -/
def screenLinesSpec : ChangeSpec := { name := "screenLines", fn := fun _ => fun
  | [d1, d2] => { results := [.lit (.bool true)], args := [d1, d2] }
  | _ => none }
def screenLinesRow : OpenClaim := { program := "ytclopfiochcocaa", sum := "19f0a2dc73031cc466687c593f7fd4169acd60f2015d7a4dbfeee389aa3e1152", func := "skyway/skywaylaw4.ScreenLines", spec := "screenLines", apart := false }
def ScreenLinesSaid : Prop := screenLinesRow.holds Try.pinned (OpenSpec.ofChange screenLinesSpec)

/-- ITS FALSE NEIGHBOUR: 'it returns false'. Refute it at one input. -/
def screenLinesWrong : ChangeSpec := { name := "screenLines", fn := fun _ => fun
  | [d1, d2] => { results := [.lit (.bool false)], args := [d1, d2] }
  | _ => none }
def ScreenLinesWrongFalsely : Prop := screenLinesRow.holds Try.pinned (OpenSpec.ofChange screenLinesWrong)

/-- 'skywaylaw4.ScreenCells': WHATEVER THE INPUT: true; the input reads as it did. -/
def screenCellsSpec : ChangeSpec := { name := "screenCells", fn := fun _ => fun
  | [d1, d2] => { results := [.lit (.bool true)], args := [d1, d2] }
  | _ => none }
def screenCellsRow : OpenClaim := { program := "ytclopfiochcocaa", sum := "19f0a2dc73031cc466687c593f7fd4169acd60f2015d7a4dbfeee389aa3e1152", func := "skyway/skywaylaw4.ScreenCells", spec := "screenCells", apart := false }
def ScreenCellsSaid : Prop := screenCellsRow.holds Try.pinned (OpenSpec.ofChange screenCellsSpec)

/-- ITS FALSE NEIGHBOUR: 'it returns false'. Refute it at one input. -/
def screenCellsWrong : ChangeSpec := { name := "screenCells", fn := fun _ => fun
  | [d1, d2] => { results := [.lit (.bool false)], args := [d1, d2] }
  | _ => none }
def ScreenCellsWrongFalsely : Prop := screenCellsRow.holds Try.pinned (OpenSpec.ofChange screenCellsWrong)

/-- 'skywaylaw4.ScreenPictures': WHATEVER THE INPUT: true; the input reads as it did. -/
def screenPicturesSpec : ChangeSpec := { name := "screenPictures", fn := fun _ => fun
  | [d1, d2, d3] => { results := [.lit (.bool true)], args := [d1, d2, d3] }
  | _ => none }
def screenPicturesRow : OpenClaim := { program := "ytclopfiochcocaa", sum := "19f0a2dc73031cc466687c593f7fd4169acd60f2015d7a4dbfeee389aa3e1152", func := "skyway/skywaylaw4.ScreenPictures", spec := "screenPictures", inPlace := ["internal/bytealg.MakeNoZero"], apart := false }
def ScreenPicturesSaid : Prop := screenPicturesRow.holds Try.pinned (OpenSpec.ofChange screenPicturesSpec)

/-- ITS FALSE NEIGHBOUR: 'it returns false'. Refute it at one input. -/
def screenPicturesWrong : ChangeSpec := { name := "screenPictures", fn := fun _ => fun
  | [d1, d2, d3] => { results := [.lit (.bool false)], args := [d1, d2, d3] }
  | _ => none }
def ScreenPicturesWrongFalsely : Prop := screenPicturesRow.holds Try.pinned (OpenSpec.ofChange screenPicturesWrong)

/- THE SECOND FORM. 'bulk': how many values and letters a reading holds, each counted each time it is reached (what is shared counts as often as it is met; a slice's spare places count too). A statement '..UptoSaid' is the law's where the arguments, and the package variables that the reading takes, are together of bulk at most 1048576: NARROWER than '..Said'. Prove '..Said' where nothing that the law and all that it calls make is longer than what came in: it says more and counts as full. Else prove '..UptoSaid'. A law counts once. -/
mutual
def uptoBulk {H : Type} : DataW H → Nat
  | .lit (.string bytes) => bytes.length + 1
  | .lit _ => 1
  | .nil => 1
  | .ptr d => uptoBulk d + 1
  | .slice elems spare => uptoBulkAll elems + uptoBulkAll spare + 1
  | .agg parts => uptoBulkAll parts + 1
  | .iface _ d => uptoBulk d + 1
  | .map entries => uptoBulkEntries entries + 1
  | .held _ => 1
def uptoBulkAll {H : Type} : List (DataW H) → Nat
  | [] => 0
  | d :: r => uptoBulk d + uptoBulkAll r
def uptoBulkEntries {H : Type} : List (Lit × DataW H) → Nat
  | [] => 0
  | x :: r => uptoBulkEntry x + uptoBulkEntries r
def uptoBulkEntry {H : Type} : Lit × DataW H → Nat
  | (.string bytes, d) => bytes.length + uptoBulk d + 1
  | (_, d) => uptoBulk d + 1
 end
def uptoSmall : (H : Type) → List (DataW H) → Bool := fun _ ds => decide (uptoBulkAll ds ≤ 1048576)
def OpenSpec.upto (s : _root_.Go.ChangeSpec) : _root_.Go.OpenSpec := { _root_.Go.OpenSpec.ofChange s with cond := some uptoSmall }

/-- 'skywaylaw4.ScreenLines', WHERE WHAT IT READS IS OF BULK AT MOST 1048576: true; the input reads as it did. -/
def screenLinesUptoRow : OpenClaim := { program := "ytclopfiochcocaa", sum := "19f0a2dc73031cc466687c593f7fd4169acd60f2015d7a4dbfeee389aa3e1152", func := "skyway/skywaylaw4.ScreenLines", spec := "screenLines", apart := false, narrowed := true }
def ScreenLinesUptoSaid : Prop := screenLinesUptoRow.holds Try.pinned (OpenSpec.upto screenLinesSpec)

/-- 'skywaylaw4.ScreenCells', WHERE WHAT IT READS IS OF BULK AT MOST 1048576: true; the input reads as it did. -/
def screenCellsUptoRow : OpenClaim := { program := "ytclopfiochcocaa", sum := "19f0a2dc73031cc466687c593f7fd4169acd60f2015d7a4dbfeee389aa3e1152", func := "skyway/skywaylaw4.ScreenCells", spec := "screenCells", apart := false, narrowed := true }
def ScreenCellsUptoSaid : Prop := screenCellsUptoRow.holds Try.pinned (OpenSpec.upto screenCellsSpec)

/-- 'skywaylaw4.ScreenPictures', WHERE WHAT IT READS IS OF BULK AT MOST 1048576: true; the input reads as it did. -/
def screenPicturesUptoRow : OpenClaim := { program := "ytclopfiochcocaa", sum := "19f0a2dc73031cc466687c593f7fd4169acd60f2015d7a4dbfeee389aa3e1152", func := "skyway/skywaylaw4.ScreenPictures", spec := "screenPictures", inPlace := ["internal/bytealg.MakeNoZero"], apart := false, narrowed := true }
def ScreenPicturesUptoSaid : Prop := screenPicturesUptoRow.holds Try.pinned (OpenSpec.upto screenPicturesSpec)

end Rows
end Go.Proofs.Ytclopfiochcocaa
