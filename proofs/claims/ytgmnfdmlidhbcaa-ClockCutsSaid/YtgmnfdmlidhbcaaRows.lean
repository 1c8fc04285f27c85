/-
  No cell of these rows narrows 'for every input' (looked for: loops, veiled, ifaces, maps, wideKeys, modest, calm, conditions, laid).
  DERIVED. THE GIVEN ROWS OF THIS SEAT. 3 by the template 'for every input the law returns true; each argument reads behind the call as it read before'; 0 by the template 'total and deterministic' (their statements: YtgmnfdmlidhbcaaTotals.lean).
  GIVEN WITH THE SEED: the statements are not yours to turn. If you find one false, say at which input.
  Laid BY PROGRAM, IN A SANDBOX (cutbox-rows.mjs): the forced cells as the released guide's own fill.sh prints them over the translation d86bf7f03e139abe… (all of the seat's roots in one cut). By AI agents, Wed Nov 11 2026. No macro, syntax, notation, axiom, sorry.
-/
import Derived.Test.YtgmnfdmlidhbcaaChecked
import GoSem.Claim
import GoSem.ClaimJoined
import GoSem.ClaimMapViews
import Derived.JoinedTies
import Derived.KernelRfl
namespace Go.Proofs.Ytgmnfdmlidhbcaa
/- THE CELL 'sum', in the pinned program and in every row, IS THE sha256 OF THE DUMP (.gsa) THAT YtgmnfdmlidhbcaaProg.lean LOADS. Nothing in Lean hashes anything: it is a label: what it is worth is what the hold of that sum in a sandbox is worth. -/
noncomputable def Try.pinned : Pinned := { name := "ytgmnfdmlidhbcaa", sum := "d86bf7f03e139abe7cac1a9fbe7e190de649547e15d163c483eba7870fff99f8", checked := Try.checked }
namespace Rows
def none {H : Type} : Left H := { results := [], args := [] }

/-- 'skywaylaw4.ClockSays': WHATEVER THE INPUT: true; the input reads as it did. -/
def clockSaysSpec : ChangeSpec := { name := "clockSays", fn := fun _ => fun
  | [d] => { results := [.lit (.bool true)], args := [d] }
  | _ => none }
def clockSaysRow : OpenClaim := { program := "ytgmnfdmlidhbcaa", sum := "d86bf7f03e139abe7cac1a9fbe7e190de649547e15d163c483eba7870fff99f8", func := "skyway/skywaylaw4.ClockSays", spec := "clockSays", unfollowed := true, recurses := true, apart := false }
def ClockSaysSaid : Prop := clockSaysRow.holds Try.pinned (OpenSpec.ofChange clockSaysSpec)

/-- ITS FALSE NEIGHBOUR: 'it returns false'. Refute it at one input. -/
def clockSaysWrong : ChangeSpec := { name := "clockSays", fn := fun _ => fun
  | [d] => { results := [.lit (.bool false)], args := [d] }
  | _ => none }
def ClockSaysWrongFalsely : Prop := clockSaysRow.holds Try.pinned (OpenSpec.ofChange clockSaysWrong)

/-- 'skywaylaw4.ClockCuts': WHATEVER THE INPUT: true; the input reads as it did. -/
def clockCutsSpec : ChangeSpec := { name := "clockCuts", fn := fun _ => fun
  | [d1, d2] => { results := [.lit (.bool true)], args := [d1, d2] }
  | _ => none }
def clockCutsRow : OpenClaim := { program := "ytgmnfdmlidhbcaa", sum := "d86bf7f03e139abe7cac1a9fbe7e190de649547e15d163c483eba7870fff99f8", func := "skyway/skywaylaw4.ClockCuts", spec := "clockCuts", unfollowed := true, recurses := true, apart := false }
def ClockCutsSaid : Prop := clockCutsRow.holds Try.pinned (OpenSpec.ofChange clockCutsSpec)

/-- ITS FALSE NEIGHBOUR: 'it returns false'. Refute it at one input. -/
def clockCutsWrong : ChangeSpec := { name := "clockCuts", fn := fun _ => fun
  | [d1, d2] => { results := [.lit (.bool false)], args := [d1, d2] }
  | _ => none }
def ClockCutsWrongFalsely : Prop := clockCutsRow.holds Try.pinned (OpenSpec.ofChange clockCutsWrong)

/-- 'skywaylaw4.HoldSays': WHATEVER THE INPUT: true; the input reads as it did. -/
def holdSaysSpec : ChangeSpec := { name := "holdSays", fn := fun _ => fun
  | [d1, d2] => { results := [.lit (.bool true)], args := [d1, d2] }
  | _ => none }
def holdSaysRow : OpenClaim := { program := "ytgmnfdmlidhbcaa", sum := "d86bf7f03e139abe7cac1a9fbe7e190de649547e15d163c483eba7870fff99f8", func := "skyway/skywaylaw4.HoldSays", spec := "holdSays", unfollowed := true, recurses := true, apart := false }
def HoldSaysSaid : Prop := holdSaysRow.holds Try.pinned (OpenSpec.ofChange holdSaysSpec)

/-- ITS FALSE NEIGHBOUR: 'it returns false'. Refute it at one input. -/
def holdSaysWrong : ChangeSpec := { name := "holdSays", fn := fun _ => fun
  | [d1, d2] => { results := [.lit (.bool false)], args := [d1, d2] }
  | _ => none }
def HoldSaysWrongFalsely : Prop := holdSaysRow.holds Try.pinned (OpenSpec.ofChange holdSaysWrong)

/- THE SECOND FORM. 'bulk': how many values and letters a reading holds, each counted each time it is reached (what is shared counts as often as it is met; a slice's spare places count too). A statement '..UptoSaid' is the law's where the arguments, and the package variables that the reading takes, are together of bulk at most 1048576: NARROWER than '..Said'. Prove '..Said' where nothing that the law and all that it calls make is longer than what came in: it says more and counts as full. Else prove '..UptoSaid'. A law counts once. -/
mutual
def uptoBulk {H : Type} : DataW H → Nat
  | .lit (.string bytes) => bytes.length + 1
  | .lit _ => 1
  | .nil => 1
  | .ptr d => uptoBulk d + 1
  | .slice elems spare => uptoBulkAll elems + uptoBulkAll spare + 1
  | .agg parts => uptoBulkAll parts + 1
  | .iface _ d => uptoBulk d + 1
  | .map entries => uptoBulkEntries entries + 1
  | .held _ => 1
def uptoBulkAll {H : Type} : List (DataW H) → Nat
  | [] => 0
  | d :: r => uptoBulk d + uptoBulkAll r
def uptoBulkEntries {H : Type} : List (Lit × DataW H) → Nat
  | [] => 0
  | x :: r => uptoBulkEntry x + uptoBulkEntries r
def uptoBulkEntry {H : Type} : Lit × DataW H → Nat
  | (.string bytes, d) => bytes.length + uptoBulk d + 1
  | (_, d) => uptoBulk d + 1
 end
def uptoSmall : (H : Type) → List (DataW H) → Bool := fun _ ds => decide (uptoBulkAll ds ≤ 1048576)
def OpenSpec.upto (s : _root_.Go.ChangeSpec) : _root_.Go.OpenSpec := { _root_.Go.OpenSpec.ofChange s with cond := some uptoSmall }

/-- 'skywaylaw4.ClockSays', WHERE WHAT IT READS IS OF BULK AT MOST 1048576: true; the input reads as it did. -/
def clockSaysUptoRow : OpenClaim := { program := "ytgmnfdmlidhbcaa", sum := "d86bf7f03e139abe7cac1a9fbe7e190de649547e15d163c483eba7870fff99f8", func := "skyway/skywaylaw4.ClockSays", spec := "clockSays", unfollowed := true, recurses := true, apart := false, narrowed := true }
def ClockSaysUptoSaid : Prop := clockSaysUptoRow.holds Try.pinned (OpenSpec.upto clockSaysSpec)

/-- 'skywaylaw4.ClockCuts', WHERE WHAT IT READS IS OF BULK AT MOST 1048576: true; the input reads as it did. -/
def clockCutsUptoRow : OpenClaim := { program := "ytgmnfdmlidhbcaa", sum := "d86bf7f03e139abe7cac1a9fbe7e190de649547e15d163c483eba7870fff99f8", func := "skyway/skywaylaw4.ClockCuts", spec := "clockCuts", unfollowed := true, recurses := true, apart := false, narrowed := true }
def ClockCutsUptoSaid : Prop := clockCutsUptoRow.holds Try.pinned (OpenSpec.upto clockCutsSpec)

/-- 'skywaylaw4.HoldSays', WHERE WHAT IT READS IS OF BULK AT MOST 1048576: true; the input reads as it did. -/
def holdSaysUptoRow : OpenClaim := { program := "ytgmnfdmlidhbcaa", sum := "d86bf7f03e139abe7cac1a9fbe7e190de649547e15d163c483eba7870fff99f8", func := "skyway/skywaylaw4.HoldSays", spec := "holdSays", unfollowed := true, recurses := true, apart := false, narrowed := true }
def HoldSaysUptoSaid : Prop := holdSaysUptoRow.holds Try.pinned (OpenSpec.upto holdSaysSpec)

end Rows
end Go.Proofs.Ytgmnfdmlidhbcaa
