/- Part of a claim: lemmas on the way to its theorem; each states its own conditions. -/
import Derived.Test.YtmbkionmgboglaaRows
import Derived.Test.YtmbkionmgboglaaKit
namespace Go.Proofs.Ytmbkionmgboglaa
open Go.ChangeShapes Go.WideShapes Go.ChangeAt Go.RowKit
theorem in4_yes (n lo hi : Int) (h : lo ≤ n ∧ n ≤ hi) (w : World) : Calls Try.prog 8 #[.int .i64 n, .int .i64 lo, .int .i64 hi] w fun e w' => e = .returned (.bool true) ∧ w = w' := by
  go_enter Try.func8, Try.ntmps8
  go_wp2
  all_goals (go_ret; exact ⟨by simp [*]; try omega, rfl⟩)
theorem in4_no (n lo hi : Int) (h : ¬ (lo ≤ n ∧ n ≤ hi)) (w : World) : Calls Try.prog 8 #[.int .i64 n, .int .i64 lo, .int .i64 hi] w fun e w' => e = .returned (.bool false) ∧ w = w' := by
  go_enter Try.func8, Try.ntmps8
  go_wp2
  all_goals (go_ret; exact ⟨by simp [*]; try omega, rfl⟩)
end Go.Proofs.Ytmbkionmgboglaa
