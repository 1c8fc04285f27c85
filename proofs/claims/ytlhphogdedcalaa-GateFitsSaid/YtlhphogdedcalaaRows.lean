/-
  No cell of these rows narrows 'for every input' (looked for: loops, veiled, ifaces, maps, wideKeys, modest, calm, conditions, laid).
  DERIVED. THE GIVEN ROWS OF THIS SEAT. 4 by the template 'for every input the law returns true; each argument reads behind the call as it read before'; 0 by the template 'total and deterministic' (their statements: YtlhphogdedcalaaTotals.lean).
  GIVEN WITH THE SEED: the statements are not yours to turn. If you find one false, say at which input.
  Laid BY PROGRAM, IN A SANDBOX (cutbox-rows.mjs): the forced cells as the released guide's own fill.sh prints them over the translation e56bd19ce5903825… (all of the seat's roots in one cut). By AI agents, Wed Nov 11 2026. No macro, syntax, notation, axiom, sorry.
-/
import Derived.Test.YtlhphogdedcalaaChecked
import GoSem.Claim
import GoSem.ClaimJoined
import GoSem.ClaimMapViews
import Derived.JoinedTies
import Derived.KernelRfl
namespace Go.Proofs.Ytlhphogdedcalaa
/- THE CELL 'sum', in the pinned program and in every row, IS THE sha256 OF THE DUMP (.gsa) THAT YtlhphogdedcalaaProg.lean LOADS. Nothing in Lean hashes anything: it is a label: what it is worth is what the hold of that sum in a sandbox is worth. -/
noncomputable def Try.pinned : Pinned := { name := "ytlhphogdedcalaa", sum := "e56bd19ce5903825b42570abdc200466969dc6a84b2acb3007b0242aefcd84e5", checked := Try.checked }
namespace Rows
def none {H : Type} : Left H := { results := [], args := [] }

/-- 'skywaylaw2.GateFits': WHATEVER THE INPUT: true; the input reads as it did. -/
def gateFitsSpec : ChangeSpec := { name := "gateFits", fn := fun _ => fun
  | [d1, d2, d3, d4, d5, d6] => { results := [.lit (.bool true)], args := [d1, d2, d3, d4, d5, d6] }
  | _ => none }
def gateFitsRow : OpenClaim := { program := "ytlhphogdedcalaa", sum := "e56bd19ce5903825b42570abdc200466969dc6a84b2acb3007b0242aefcd84e5", func := "skyway/skywaylaw2.GateFits", spec := "gateFits", apart := false }
def GateFitsSaid : Prop := gateFitsRow.holds Try.pinned (OpenSpec.ofChange gateFitsSpec)

/-- ITS FALSE NEIGHBOUR: 'it returns false'. Refute it at one input. -/
def gateFitsWrong : ChangeSpec := { name := "gateFits", fn := fun _ => fun
  | [d1, d2, d3, d4, d5, d6] => { results := [.lit (.bool false)], args := [d1, d2, d3, d4, d5, d6] }
  | _ => none }
def GateFitsWrongFalsely : Prop := gateFitsRow.holds Try.pinned (OpenSpec.ofChange gateFitsWrong)

/-- 'skywaylaw2.PairCosts': WHATEVER THE INPUT: true; the input reads as it did. -/
def pairCostsSpec : ChangeSpec := { name := "pairCosts", fn := fun _ => fun
  | [d1, d2, d3] => { results := [.lit (.bool true)], args := [d1, d2, d3] }
  | _ => none }
def pairCostsRow : OpenClaim := { program := "ytlhphogdedcalaa", sum := "e56bd19ce5903825b42570abdc200466969dc6a84b2acb3007b0242aefcd84e5", func := "skyway/skywaylaw2.PairCosts", spec := "pairCosts", unfollowed := true, recurses := true, apart := false }
def PairCostsSaid : Prop := pairCostsRow.holds Try.pinned (OpenSpec.ofChange pairCostsSpec)

/-- ITS FALSE NEIGHBOUR: 'it returns false'. Refute it at one input. -/
def pairCostsWrong : ChangeSpec := { name := "pairCosts", fn := fun _ => fun
  | [d1, d2, d3] => { results := [.lit (.bool false)], args := [d1, d2, d3] }
  | _ => none }
def PairCostsWrongFalsely : Prop := pairCostsRow.holds Try.pinned (OpenSpec.ofChange pairCostsWrong)

/-- 'skywaylaw2.ConformCompares': WHATEVER THE INPUT: true; the input reads as it did. -/
def conformComparesSpec : ChangeSpec := { name := "conformCompares", fn := fun _ => fun
  | [d1, d2] => { results := [.lit (.bool true)], args := [d1, d2] }
  | _ => none }
def conformComparesRow : OpenClaim := { program := "ytlhphogdedcalaa", sum := "e56bd19ce5903825b42570abdc200466969dc6a84b2acb3007b0242aefcd84e5", func := "skyway/skywaylaw2.ConformCompares", spec := "conformCompares", unfollowed := true, recurses := true, apart := false }
def ConformComparesSaid : Prop := conformComparesRow.holds Try.pinned (OpenSpec.ofChange conformComparesSpec)

/-- ITS FALSE NEIGHBOUR: 'it returns false'. Refute it at one input. -/
def conformComparesWrong : ChangeSpec := { name := "conformCompares", fn := fun _ => fun
  | [d1, d2] => { results := [.lit (.bool false)], args := [d1, d2] }
  | _ => none }
def ConformComparesWrongFalsely : Prop := conformComparesRow.holds Try.pinned (OpenSpec.ofChange conformComparesWrong)

/-- 'skywaylaw2.FuseSpots': WHATEVER THE INPUT: true; the input reads as it did. -/
def fuseSpotsSpec : ChangeSpec := { name := "fuseSpots", fn := fun _ => fun
  | [d1, d2] => { results := [.lit (.bool true)], args := [d1, d2] }
  | _ => none }
def fuseSpotsRow : OpenClaim := { program := "ytlhphogdedcalaa", sum := "e56bd19ce5903825b42570abdc200466969dc6a84b2acb3007b0242aefcd84e5", func := "skyway/skywaylaw2.FuseSpots", spec := "fuseSpots", unfollowed := true, recurses := true, apart := false }
def FuseSpotsSaid : Prop := fuseSpotsRow.holds Try.pinned (OpenSpec.ofChange fuseSpotsSpec)

/-- ITS FALSE NEIGHBOUR: 'it returns false'. Refute it at one input. -/
def fuseSpotsWrong : ChangeSpec := { name := "fuseSpots", fn := fun _ => fun
  | [d1, d2] => { results := [.lit (.bool false)], args := [d1, d2] }
  | _ => none }
def FuseSpotsWrongFalsely : Prop := fuseSpotsRow.holds Try.pinned (OpenSpec.ofChange fuseSpotsWrong)

/- THE SECOND FORM. 'bulk': how many values and letters a reading holds, each counted each time it is reached (what is shared counts as often as it is met; a slice's spare places count too). A statement '..UptoSaid' is the law's where the arguments, and the package variables that the reading takes, are together of bulk at most 1048576: NARROWER than '..Said'. Prove '..Said' where nothing that the law and all that it calls make is longer than what came in: it says more and counts as full. Else prove '..UptoSaid'. A law counts once. -/
mutual
def uptoBulk {H : Type} : DataW H → Nat
  | .lit (.string bytes) => bytes.length + 1
  | .lit _ => 1
  | .nil => 1
  | .ptr d => uptoBulk d + 1
  | .slice elems spare => uptoBulkAll elems + uptoBulkAll spare + 1
  | .agg parts => uptoBulkAll parts + 1
  | .iface _ d => uptoBulk d + 1
  | .map entries => uptoBulkEntries entries + 1
  | .held _ => 1
def uptoBulkAll {H : Type} : List (DataW H) → Nat
  | [] => 0
  | d :: r => uptoBulk d + uptoBulkAll r
def uptoBulkEntries {H : Type} : List (Lit × DataW H) → Nat
  | [] => 0
  | x :: r => uptoBulkEntry x + uptoBulkEntries r
def uptoBulkEntry {H : Type} : Lit × DataW H → Nat
  | (.string bytes, d) => bytes.length + uptoBulk d + 1
  | (_, d) => uptoBulk d + 1
 end
def uptoSmall : (H : Type) → List (DataW H) → Bool := fun _ ds => decide (uptoBulkAll ds ≤ 1048576)
def OpenSpec.upto (s : _root_.Go.ChangeSpec) : _root_.Go.OpenSpec := { _root_.Go.OpenSpec.ofChange s with cond := some uptoSmall }

/-- 'skywaylaw2.GateFits', WHERE WHAT IT READS IS OF BULK AT MOST 1048576: true; the input reads as it did. -/
def gateFitsUptoRow : OpenClaim := { program := "ytlhphogdedcalaa", sum := "e56bd19ce5903825b42570abdc200466969dc6a84b2acb3007b0242aefcd84e5", func := "skyway/skywaylaw2.GateFits", spec := "gateFits", apart := false, narrowed := true }
def GateFitsUptoSaid : Prop := gateFitsUptoRow.holds Try.pinned (OpenSpec.upto gateFitsSpec)

/-- 'skywaylaw2.PairCosts', WHERE WHAT IT READS IS OF BULK AT MOST 1048576: true; the input reads as it did. -/
def pairCostsUptoRow : OpenClaim := { program := "ytlhphogdedcalaa", sum := "e56bd19ce5903825b42570abdc200466969dc6a84b2acb3007b0242aefcd84e5", func := "skyway/skywaylaw2.PairCosts", spec := "pairCosts", unfollowed := true, recurses := true, apart := false, narrowed := true }
def PairCostsUptoSaid : Prop := pairCostsUptoRow.holds Try.pinned (OpenSpec.upto pairCostsSpec)

/-- 'skywaylaw2.ConformCompares', WHERE WHAT IT READS IS OF BULK AT MOST 1048576: true; the input reads as it did. -/
def conformComparesUptoRow : OpenClaim := { program := "ytlhphogdedcalaa", sum := "e56bd19ce5903825b42570abdc200466969dc6a84b2acb3007b0242aefcd84e5", func := "skyway/skywaylaw2.ConformCompares", spec := "conformCompares", unfollowed := true, recurses := true, apart := false, narrowed := true }
def ConformComparesUptoSaid : Prop := conformComparesUptoRow.holds Try.pinned (OpenSpec.upto conformComparesSpec)

/-- 'skywaylaw2.FuseSpots', WHERE WHAT IT READS IS OF BULK AT MOST 1048576: true; the input reads as it did. -/
def fuseSpotsUptoRow : OpenClaim := { program := "ytlhphogdedcalaa", sum := "e56bd19ce5903825b42570abdc200466969dc6a84b2acb3007b0242aefcd84e5", func := "skyway/skywaylaw2.FuseSpots", spec := "fuseSpots", unfollowed := true, recurses := true, apart := false, narrowed := true }
def FuseSpotsUptoSaid : Prop := fuseSpotsUptoRow.holds Try.pinned (OpenSpec.upto fuseSpotsSpec)

end Rows
end Go.Proofs.Ytlhphogdedcalaa
