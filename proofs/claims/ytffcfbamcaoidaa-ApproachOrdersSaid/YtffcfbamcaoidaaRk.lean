/- slices.Clone of a slice of ints with no elements: a slice with no elements comes back. -/
import Derived.WalkKit
import Derived.ProofKit
import Derived.OpenShut
import Derived.ShutString
import Derived.WalkSpells
import Derived.WalkLawsBesides
import Derived.Handy
import Derived.Deep.QuietTactic
import Derived.BigQuiet
import Derived.Lib.Hide
import Derived.Lib.SmallJoins
import Derived.Deep.Slices
import Derived.Deep.Fields
import Derived.Deep.AppendLies
import Derived.ChangeSame
import Derived.Deep.RegionHeld3
import Derived.StillTailTactics
import Derived.Test.YtffcfbamcaoidaaProg
namespace Go.Proofs.Ytffcfbamcaoidaa
open Go.ChangeShapes Go.WideShapes Go.ChangeAt Go.RowKit
set_option maxHeartbeats 4000000
theorem nil_eqlI (A : Option Addr) (n c : Nat) (w : World) : (binOp .eql 45 (.slice A n c) (.slice none 0 0)).run Try.prog w = .ok (.bool A.isNone) w := by
  have ht : Try.prog.underlying 45 = some (.slice 3) := by kernel_rfl
  have h1 : ∀ w d, (Op.equalIn (d + 1) 45 (.slice A n c) (.slice none 0 0)).run Try.prog w = .ok A.isNone w := fun w d => by cases A <;> simp [Op.equalIn, run_underlying ht]
  have h2 : ∀ w, (Op.equal 45 (.slice A n c) (.slice none 0 0)).run Try.prog w = .ok A.isNone w := fun w => h1 w 9999
  simp [binOp, h2]
set_option maxRecDepth 100000 in
theorem cloneI_none (c : Nat) (w : World) : Calls Try.prog 48 #[.slice none 0 c] w fun e w' => e = .returned (.slice none 0 0) ∧ w' = w := by
  go_enter Try.func48, Try.ntmps48
  go_wp2
  rw [nil_eqlI]
  go_wp2
  go_ret
  exact ⟨rfl, rfl⟩
set_option maxRecDepth 100000 in
theorem cloneI_zero (a : Addr) (c : Nat) (w : World) : Calls Try.prog 48 #[.slice (some a) 0 c] w fun e w' => ∃ A, e = .returned (.slice A 0 0) ∧ Below w.heap.size w w' ∧ w.drawn ≤ w'.drawn := by
  go_enter Try.func48, Try.ntmps48
  go_wp2
  rw [nil_eqlI]
  go_wp2
  go_ret
  exact ⟨_, rfl, Below.alloc (Below.refl _ _) (Nat.le_refl _) _, Nat.le_refl _⟩
end Go.Proofs.Ytffcfbamcaoidaa
