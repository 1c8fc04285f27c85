/- Part of a claim: lemmas on the way to its theorem; each states its own conditions. -/
import Derived.Test.YtlhphogdedcalaaRows
import Derived.Test.YtlhphogdedcalaaKit
namespace Go.Proofs.Ytlhphogdedcalaa
open Go.ChangeShapes Go.WideShapes Go.ChangeAt Go.RowKit


set_option maxRecDepth 100000 in
theorem planeCheck_yes (x y : Int) (hx : -1000000 ≤ x ∧ x ≤ 1000000) (hy : -1000000 ≤ y ∧ y ≤ 1000000) (w : World) :
    Calls Try.prog 31 #[.agg #[.int .i64 x, .int .i64 y]] w fun e w' => e = .returned (.int .i64 0) ∧ w.alloc (.cells #[.int .i64 (x), .int .i64 (y)] 23) = w' := by
  obtain ⟨x0, x1⟩ := hx
  obtain ⟨y0, y1⟩ := hy
  go_enter Try.func31, Try.ntmps31
  go_wp2
  go_returns
  exact ⟨rfl, rfl⟩
set_option maxRecDepth 100000 in
theorem planeCheck_no (x y : Int) (h : ¬ ((-1000000 ≤ x ∧ x ≤ 1000000) ∧ (-1000000 ≤ y ∧ y ≤ 1000000))) (w : World) :
    Calls Try.prog 31 #[.agg #[.int .i64 x, .int .i64 y]] w fun e w' => e = .returned (.int .i64 4) ∧ w.alloc (.cells #[.int .i64 (x), .int .i64 (y)] 23) = w' := by
  have hc : x < -1000000 ∨ (-1000000 ≤ x ∧ 1000000 < x) ∨ (-1000000 ≤ x ∧ x ≤ 1000000 ∧ y < -1000000) ∨ (-1000000 ≤ x ∧ x ≤ 1000000 ∧ -1000000 ≤ y ∧ 1000000 < y) := by omega
  clear h
  rcases hc with h | ⟨h1, h⟩ | ⟨h1, h2, h⟩ | ⟨h1, h2, h3, h⟩
  all_goals
    go_enter Try.func31, Try.ntmps31
    go_wp2
    go_returns
    exact ⟨rfl, rfl⟩
end Go.Proofs.Ytlhphogdedcalaa
