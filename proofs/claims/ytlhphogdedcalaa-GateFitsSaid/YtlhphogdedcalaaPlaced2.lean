/- Part of a claim: lemmas on the way to its theorem; each states its own conditions. -/
import Derived.Test.YtlhphogdedcalaaIn2
import Derived.Test.YtlhphogdedcalaaPlane
namespace Go.Proofs.Ytlhphogdedcalaa
open Go.ChangeShapes Go.WideShapes Go.ChangeAt Go.RowKit
set_option maxRecDepth 100000 in
theorem placed2_yes (x y : Int) (hx : -1000000 ≤ x ∧ x ≤ 1000000) (hy : -1000000 ≤ y ∧ y ≤ 1000000) (w : World) :
    Calls Try.prog 27 #[.agg #[.int .i64 x, .int .i64 y]] w fun e w' => e = .returned (.bool true) ∧ w.alloc (.cells #[.int .i64 (x), .int .i64 (y)] 23) = w' := by
  obtain ⟨x0, x1⟩ := hx
  obtain ⟨y0, y1⟩ := hy
  go_enter Try.func27, Try.ntmps27
  go_wp2_with (go_at_call 8; refine (in2_yes _ _ _ (by omega) _).mono ?_; rintro e w' ⟨rfl, rfl⟩)
  go_returns
  exact ⟨rfl, rfl⟩
set_option maxRecDepth 100000 in
theorem placed2_no (x y : Int) (h : ¬ ((-1000000 ≤ x ∧ x ≤ 1000000) ∧ (-1000000 ≤ y ∧ y ≤ 1000000))) (w : World) :
    Calls Try.prog 27 #[.agg #[.int .i64 x, .int .i64 y]] w fun e w' => e = .returned (.bool false) ∧ w.alloc (.cells #[.int .i64 (x), .int .i64 (y)] 23) = w' := by
  have hc : ¬ (-1000000 ≤ x ∧ x ≤ 1000000) ∨ ((-1000000 ≤ x ∧ x ≤ 1000000) ∧ ¬ (-1000000 ≤ y ∧ y ≤ 1000000)) := by omega
  clear h
  rcases hc with h | ⟨⟨h1, h2⟩, h⟩
  all_goals
    go_enter Try.func27, Try.ntmps27
    go_wp2_with (go_at_call 8; first | (refine (in2_yes _ _ _ (by omega) _).mono ?_; rintro e w' ⟨rfl, rfl⟩) | (refine (in2_no _ _ _ (by omega) _).mono ?_; rintro e w' ⟨rfl, rfl⟩))
    go_returns
    exact ⟨rfl, rfl⟩
end Go.Proofs.Ytlhphogdedcalaa
