/-
  No cell of these rows narrows 'for every input' (looked for: loops, veiled, ifaces, maps, wideKeys, modest, calm, conditions, laid).
  DERIVED. THE GIVEN ROWS OF THIS SEAT. 2 by the template 'for every input the law returns true; each argument reads behind the call as it read before'; 0 by the template 'total and deterministic' (their statements: YtkfkfihjdohjfaaTotals.lean).
  GIVEN WITH THE SEED: the statements are not yours to turn. If you find one false, say at which input.
  Laid BY PROGRAM, IN A SANDBOX (cutbox-rows.mjs): the forced cells as the released guide's own fill.sh prints them over the translation c4d1c45be05b33ac… (all of the seat's roots in one cut). By AI agents, Wed Nov 11 2026. No macro, syntax, notation, axiom, sorry.
-/
import Derived.Test.YtkfkfihjdohjfaaChecked
import GoSem.Claim
import GoSem.ClaimJoined
import GoSem.ClaimMapViews
import Derived.JoinedTies
import Derived.KernelRfl
namespace Go.Proofs.Ytkfkfihjdohjfaa
/- THE CELL 'sum', in the pinned program and in every row, IS THE sha256 OF THE DUMP (.gsa) THAT YtkfkfihjdohjfaaProg.lean LOADS. Nothing in Lean hashes anything: it is a label: what it is worth is what the hold of that sum in a sandbox is worth. -/
noncomputable def Try.pinned : Pinned := { name := "ytkfkfihjdohjfaa", sum := "c4d1c45be05b33ac1eeb4e8a61092cc1377a957cf72d2b1c155383d728de610c", checked := Try.checked }
namespace Rows
def none {H : Type} : Left H := { results := [], args := [] }

/-- 'skywaylaw4.StripSays': WHATEVER THE INPUT: true; the input reads as it did. -/
def stripSaysSpec : ChangeSpec := { name := "stripSays", fn := fun _ => fun
  | [d1, d2, d3] => { results := [.lit (.bool true)], args := [d1, d2, d3] }
  | _ => none }
def stripSaysRow : OpenClaim := { program := "ytkfkfihjdohjfaa", sum := "c4d1c45be05b33ac1eeb4e8a61092cc1377a957cf72d2b1c155383d728de610c", func := "skyway/skywaylaw4.StripSays", spec := "stripSays", inPlace := ["slices.overlaps[skyway/api.StripStrip]"], unfollowed := true, recurses := true, apart := false }
def StripSaysSaid : Prop := stripSaysRow.holds Try.pinned (OpenSpec.ofChange stripSaysSpec)

/-- ITS FALSE NEIGHBOUR: 'it returns false'. Refute it at one input. -/
def stripSaysWrong : ChangeSpec := { name := "stripSays", fn := fun _ => fun
  | [d1, d2, d3] => { results := [.lit (.bool false)], args := [d1, d2, d3] }
  | _ => none }
def StripSaysWrongFalsely : Prop := stripSaysRow.holds Try.pinned (OpenSpec.ofChange stripSaysWrong)

/-- 'skywaylaw4.ContactSays': WHATEVER THE INPUT: true; the input reads as it did. -/
def contactSaysSpec : ChangeSpec := { name := "contactSays", fn := fun _ => fun
  | [d1, d2, d3, d4] => { results := [.lit (.bool true)], args := [d1, d2, d3, d4] }
  | _ => none }
def contactSaysRow : OpenClaim := { program := "ytkfkfihjdohjfaa", sum := "c4d1c45be05b33ac1eeb4e8a61092cc1377a957cf72d2b1c155383d728de610c", func := "skyway/skywaylaw4.ContactSays", spec := "contactSays", inPlace := ["slices.overlaps[skyway/api.ContactState]", "internal/bytealg.abigen_runtime_cmpstring"], unfollowed := true, recurses := true, apart := false }
def ContactSaysSaid : Prop := contactSaysRow.holds Try.pinned (OpenSpec.ofChange contactSaysSpec)

/-- ITS FALSE NEIGHBOUR: 'it returns false'. Refute it at one input. -/
def contactSaysWrong : ChangeSpec := { name := "contactSays", fn := fun _ => fun
  | [d1, d2, d3, d4] => { results := [.lit (.bool false)], args := [d1, d2, d3, d4] }
  | _ => none }
def ContactSaysWrongFalsely : Prop := contactSaysRow.holds Try.pinned (OpenSpec.ofChange contactSaysWrong)

/- THE SECOND FORM. 'bulk': how many values and letters a reading holds, each counted each time it is reached (what is shared counts as often as it is met; a slice's spare places count too). A statement '..UptoSaid' is the law's where the arguments, and the package variables that the reading takes, are together of bulk at most 1048576: NARROWER than '..Said'. Prove '..Said' where nothing that the law and all that it calls make is longer than what came in: it says more and counts as full. Else prove '..UptoSaid'. A law counts once. -/
mutual
def uptoBulk {H : Type} : DataW H → Nat
  | .lit (.string bytes) => bytes.length + 1
  | .lit _ => 1
  | .nil => 1
  | .ptr d => uptoBulk d + 1
  | .slice elems spare => uptoBulkAll elems + uptoBulkAll spare + 1
  | .agg parts => uptoBulkAll parts + 1
  | .iface _ d => uptoBulk d + 1
  | .map entries => uptoBulkEntries entries + 1
  | .held _ => 1
def uptoBulkAll {H : Type} : List (DataW H) → Nat
  | [] => 0
  | d :: r => uptoBulk d + uptoBulkAll r
def uptoBulkEntries {H : Type} : List (Lit × DataW H) → Nat
  | [] => 0
  | x :: r => uptoBulkEntry x + uptoBulkEntries r
def uptoBulkEntry {H : Type} : Lit × DataW H → Nat
  | (.string bytes, d) => bytes.length + uptoBulk d + 1
  | (_, d) => uptoBulk d + 1
 end
def uptoSmall : (H : Type) → List (DataW H) → Bool := fun _ ds => decide (uptoBulkAll ds ≤ 1048576)
def OpenSpec.upto (s : _root_.Go.ChangeSpec) : _root_.Go.OpenSpec := { _root_.Go.OpenSpec.ofChange s with cond := some uptoSmall }

/-- 'skywaylaw4.StripSays', WHERE WHAT IT READS IS OF BULK AT MOST 1048576: true; the input reads as it did. -/
def stripSaysUptoRow : OpenClaim := { program := "ytkfkfihjdohjfaa", sum := "c4d1c45be05b33ac1eeb4e8a61092cc1377a957cf72d2b1c155383d728de610c", func := "skyway/skywaylaw4.StripSays", spec := "stripSays", inPlace := ["slices.overlaps[skyway/api.StripStrip]"], unfollowed := true, recurses := true, apart := false, narrowed := true }
def StripSaysUptoSaid : Prop := stripSaysUptoRow.holds Try.pinned (OpenSpec.upto stripSaysSpec)

/-- 'skywaylaw4.ContactSays', WHERE WHAT IT READS IS OF BULK AT MOST 1048576: true; the input reads as it did. -/
def contactSaysUptoRow : OpenClaim := { program := "ytkfkfihjdohjfaa", sum := "c4d1c45be05b33ac1eeb4e8a61092cc1377a957cf72d2b1c155383d728de610c", func := "skyway/skywaylaw4.ContactSays", spec := "contactSays", inPlace := ["slices.overlaps[skyway/api.ContactState]", "internal/bytealg.abigen_runtime_cmpstring"], unfollowed := true, recurses := true, apart := false, narrowed := true }
def ContactSaysUptoSaid : Prop := contactSaysUptoRow.holds Try.pinned (OpenSpec.upto contactSaysSpec)

end Rows
end Go.Proofs.Ytkfkfihjdohjfaa
