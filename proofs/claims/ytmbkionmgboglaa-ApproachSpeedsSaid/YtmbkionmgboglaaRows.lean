/-
  No cell of these rows narrows 'for every input' (looked for: loops, veiled, ifaces, maps, wideKeys, modest, calm, conditions, laid).
  DERIVED. THE GIVEN ROWS OF THIS SEAT. 3 by the template 'for every input the law returns true; each argument reads behind the call as it read before'; 0 by the template 'total and deterministic' (their statements: YtmbkionmgboglaaTotals.lean).
  GIVEN WITH THE SEED: the statements are not yours to turn. If you find one false, say at which input.
  Laid BY PROGRAM, IN A SANDBOX (cutbox-rows.mjs): the forced cells as the released guide's own fill.sh prints them over the translation 5da4ef78ee0a1c9f… (all of the seat's roots in one cut). By AI agents, Wed Nov 11 2026. No macro, syntax, notation, axiom, sorry.
-/
import Derived.Test.YtmbkionmgboglaaChecked
import GoSem.Claim
import GoSem.ClaimJoined
import GoSem.ClaimMapViews
import Derived.JoinedTies
import Derived.KernelRfl
namespace Go.Proofs.Ytmbkionmgboglaa
/- THE CELL 'sum', in the pinned program and in every row, IS THE sha256 OF THE DUMP (.gsa) THAT YtmbkionmgboglaaProg.lean LOADS. Nothing in Lean hashes anything: it is a label: what it is worth is what the hold of that sum in a sandbox is worth. -/
noncomputable def Try.pinned : Pinned := { name := "ytmbkionmgboglaa", sum := "5da4ef78ee0a1c9fcfc9e2ccf255fa51af51f1cc3c5650539a1c2414eac04813", checked := Try.checked }
namespace Rows
def none {H : Type} : Left H := { results := [], args := [] }

/-- 'skywaylaw4.ApproachSpeeds': WHATEVER THE INPUT: true; the input reads as it did. -/
def approachSpeedsSpec : ChangeSpec := { name := "approachSpeeds", fn := fun _ => fun
  | [d1, d2, d3, d4] => { results := [.lit (.bool true)], args := [d1, d2, d3, d4] }
  | _ => none }
def approachSpeedsRow : OpenClaim := { program := "ytmbkionmgboglaa", sum := "5da4ef78ee0a1c9fcfc9e2ccf255fa51af51f1cc3c5650539a1c2414eac04813", func := "skyway/skywaylaw4.ApproachSpeeds", spec := "approachSpeeds", apart := false }
def ApproachSpeedsSaid : Prop := approachSpeedsRow.holds Try.pinned (OpenSpec.ofChange approachSpeedsSpec)

/-- ITS FALSE NEIGHBOUR: 'it returns false'. Refute it at one input. -/
def approachSpeedsWrong : ChangeSpec := { name := "approachSpeeds", fn := fun _ => fun
  | [d1, d2, d3, d4] => { results := [.lit (.bool false)], args := [d1, d2, d3, d4] }
  | _ => none }
def ApproachSpeedsWrongFalsely : Prop := approachSpeedsRow.holds Try.pinned (OpenSpec.ofChange approachSpeedsWrong)

/-- 'skywaylaw4.ApproachSays': WHATEVER THE INPUT: true; the input reads as it did. -/
def approachSaysSpec : ChangeSpec := { name := "approachSays", fn := fun _ => fun
  | [d1, d2] => { results := [.lit (.bool true)], args := [d1, d2] }
  | _ => none }
def approachSaysRow : OpenClaim := { program := "ytmbkionmgboglaa", sum := "5da4ef78ee0a1c9fcfc9e2ccf255fa51af51f1cc3c5650539a1c2414eac04813", func := "skyway/skywaylaw4.ApproachSays", spec := "approachSays", apart := false }
def ApproachSaysSaid : Prop := approachSaysRow.holds Try.pinned (OpenSpec.ofChange approachSaysSpec)

/-- ITS FALSE NEIGHBOUR: 'it returns false'. Refute it at one input. -/
def approachSaysWrong : ChangeSpec := { name := "approachSays", fn := fun _ => fun
  | [d1, d2] => { results := [.lit (.bool false)], args := [d1, d2] }
  | _ => none }
def ApproachSaysWrongFalsely : Prop := approachSaysRow.holds Try.pinned (OpenSpec.ofChange approachSaysWrong)

/-- 'skywaylaw4.ApproachOrders': WHATEVER THE INPUT: true; the input reads as it did. -/
def approachOrdersSpec : ChangeSpec := { name := "approachOrders", fn := fun _ => fun
  | [d1, d2] => { results := [.lit (.bool true)], args := [d1, d2] }
  | _ => none }
def approachOrdersRow : OpenClaim := { program := "ytmbkionmgboglaa", sum := "5da4ef78ee0a1c9fcfc9e2ccf255fa51af51f1cc3c5650539a1c2414eac04813", func := "skyway/skywaylaw4.ApproachOrders", spec := "approachOrders", unfollowed := true, recurses := true, apart := false }
def ApproachOrdersSaid : Prop := approachOrdersRow.holds Try.pinned (OpenSpec.ofChange approachOrdersSpec)

/-- ITS FALSE NEIGHBOUR: 'it returns false'. Refute it at one input. -/
def approachOrdersWrong : ChangeSpec := { name := "approachOrders", fn := fun _ => fun
  | [d1, d2] => { results := [.lit (.bool false)], args := [d1, d2] }
  | _ => none }
def ApproachOrdersWrongFalsely : Prop := approachOrdersRow.holds Try.pinned (OpenSpec.ofChange approachOrdersWrong)

/- THE SECOND FORM. 'bulk': how many values and letters a reading holds, each counted each time it is reached (what is shared counts as often as it is met; a slice's spare places count too). A statement '..UptoSaid' is the law's where the arguments, and the package variables that the reading takes, are together of bulk at most 1048576: NARROWER than '..Said'. Prove '..Said' where nothing that the law and all that it calls make is longer than what came in: it says more and counts as full. Else prove '..UptoSaid'. A law counts once. -/
mutual
def uptoBulk {H : Type} : DataW H → Nat
  | .lit (.string bytes) => bytes.length + 1
  | .lit _ => 1
  | .nil => 1
  | .ptr d => uptoBulk d + 1
  | .slice elems spare => uptoBulkAll elems + uptoBulkAll spare + 1
  | .agg parts => uptoBulkAll parts + 1
  | .iface _ d => uptoBulk d + 1
  | .map entries => uptoBulkEntries entries + 1
  | .held _ => 1
def uptoBulkAll {H : Type} : List (DataW H) → Nat
  | [] => 0
  | d :: r => uptoBulk d + uptoBulkAll r
def uptoBulkEntries {H : Type} : List (Lit × DataW H) → Nat
  | [] => 0
  | x :: r => uptoBulkEntry x + uptoBulkEntries r
def uptoBulkEntry {H : Type} : Lit × DataW H → Nat
  | (.string bytes, d) => bytes.length + uptoBulk d + 1
  | (_, d) => uptoBulk d + 1
 end
def uptoSmall : (H : Type) → List (DataW H) → Bool := fun _ ds => decide (uptoBulkAll ds ≤ 1048576)
def OpenSpec.upto (s : _root_.Go.ChangeSpec) : _root_.Go.OpenSpec := { _root_.Go.OpenSpec.ofChange s with cond := some uptoSmall }

/-- 'skywaylaw4.ApproachSpeeds', WHERE WHAT IT READS IS OF BULK AT MOST 1048576: true; the input reads as it did. -/
def approachSpeedsUptoRow : OpenClaim := { program := "ytmbkionmgboglaa", sum := "5da4ef78ee0a1c9fcfc9e2ccf255fa51af51f1cc3c5650539a1c2414eac04813", func := "skyway/skywaylaw4.ApproachSpeeds", spec := "approachSpeeds", apart := false, narrowed := true }
def ApproachSpeedsUptoSaid : Prop := approachSpeedsUptoRow.holds Try.pinned (OpenSpec.upto approachSpeedsSpec)

/-- 'skywaylaw4.ApproachSays', WHERE WHAT IT READS IS OF BULK AT MOST 1048576: true; the input reads as it did. -/
def approachSaysUptoRow : OpenClaim := { program := "ytmbkionmgboglaa", sum := "5da4ef78ee0a1c9fcfc9e2ccf255fa51af51f1cc3c5650539a1c2414eac04813", func := "skyway/skywaylaw4.ApproachSays", spec := "approachSays", apart := false, narrowed := true }
def ApproachSaysUptoSaid : Prop := approachSaysUptoRow.holds Try.pinned (OpenSpec.upto approachSaysSpec)

/-- 'skywaylaw4.ApproachOrders', WHERE WHAT IT READS IS OF BULK AT MOST 1048576: true; the input reads as it did. -/
def approachOrdersUptoRow : OpenClaim := { program := "ytmbkionmgboglaa", sum := "5da4ef78ee0a1c9fcfc9e2ccf255fa51af51f1cc3c5650539a1c2414eac04813", func := "skyway/skywaylaw4.ApproachOrders", spec := "approachOrders", unfollowed := true, recurses := true, apart := false, narrowed := true }
def ApproachOrdersUptoSaid : Prop := approachOrdersUptoRow.holds Try.pinned (OpenSpec.upto approachOrdersSpec)

end Rows
end Go.Proofs.Ytmbkionmgboglaa
