/- Part of a claim: lemmas on the way to its theorem; each states its own conditions. -/
import Derived.Test.YtlhphogdedcalaaRows
import Derived.Test.YtlhphogdedcalaaKit
namespace Go.Proofs.Ytlhphogdedcalaa
open Go.ChangeShapes Go.WideShapes Go.ChangeAt Go.RowKit
theorem in2_yes (n lo hi : Int) (h : lo ≤ n ∧ n ≤ hi) (w : World) : Calls Try.prog 8 #[.int .i64 n, .int .i64 lo, .int .i64 hi] w fun e w' => e = .returned (.bool true) ∧ w = w' := by
  go_enter Try.func8, Try.ntmps8
  go_wp2
  all_goals (go_ret; exact ⟨by simp [*]; try omega, rfl⟩)
theorem in2_no (n lo hi : Int) (h : ¬ (lo ≤ n ∧ n ≤ hi)) (w : World) : Calls Try.prog 8 #[.int .i64 n, .int .i64 lo, .int .i64 hi] w fun e w' => e = .returned (.bool false) ∧ w = w' := by
  go_enter Try.func8, Try.ntmps8
  go_wp2
  all_goals (go_ret; exact ⟨by simp [*]; try omega, rfl⟩)
end Go.Proofs.Ytlhphogdedcalaa
