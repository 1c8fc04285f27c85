/- Part of a claim: lemmas on the way to its theorem; each states its own conditions. -/
import Derived.Test.YtlhphogdedcalaaPlane
namespace Go.Proofs.Ytlhphogdedcalaa
open Go.ChangeShapes Go.WideShapes Go.ChangeAt Go.RowKit

structure Spot where
  t : Int
  x : Int
  y : Int
  h : Int
  c : Int
  e : Int
def Spot.ok (s : Spot) : Prop := (0 ≤ s.t ∧ s.t ≤ 200000) ∧ ((-1000000 ≤ s.x ∧ s.x ≤ 1000000) ∧ (-1000000 ≤ s.y ∧ s.y ≤ 1000000)) ∧ (0 ≤ s.h ∧ s.h ≤ 60000) ∧ (-1 ≤ s.c ∧ s.c ≤ 4095) ∧ (0 ≤ s.e ∧ s.e ≤ 1000000)
structure Track where
  id : Int
  st : Int
  t : Int
  x : Int
  y : Int
  u : Int
  v : Int
  h : Int
  rate : Int
  rad : Int
  c : Int
  hits : Int
  miss : Int
structure FT where
  k : Track
  slack : Int
  last : Spot

theorem rout_no (n lo hi : Int) (h : lo ≤ n ∧ n ≤ hi) (w : World) : Calls Try.prog 47 #[.int .i64 n, .int .i64 lo, .int .i64 hi] w fun e w' => e = .returned (.bool false) ∧ w = w' := by
  go_enter Try.func47, Try.ntmps47
  go_wp2
  all_goals (go_ret; exact ⟨by simp [*]; try omega, rfl⟩)
theorem rout_yes (n lo hi : Int) (h : ¬ (lo ≤ n ∧ n ≤ hi)) (w : World) : Calls Try.prog 47 #[.int .i64 n, .int .i64 lo, .int .i64 hi] w fun e w' => e = .returned (.bool true) ∧ w = w' := by
  go_enter Try.func47, Try.ntmps47
  go_wp2
  all_goals (go_ret; exact ⟨by simp [*]; try omega, rfl⟩)

theorem Spot.cases (s : Spot) (h : ¬ s.ok) : ¬ (0 ≤ s.t ∧ s.t ≤ 200000) ∨ ((0 ≤ s.t ∧ s.t ≤ 200000) ∧ ¬ ((-1000000 ≤ s.x ∧ s.x ≤ 1000000) ∧ (-1000000 ≤ s.y ∧ s.y ≤ 1000000))) ∨
    ((0 ≤ s.t ∧ s.t ≤ 200000) ∧ ((-1000000 ≤ s.x ∧ s.x ≤ 1000000) ∧ (-1000000 ≤ s.y ∧ s.y ≤ 1000000)) ∧ (¬ (0 ≤ s.h ∧ s.h ≤ 60000) ∨ ((0 ≤ s.h ∧ s.h ≤ 60000) ∧ (¬ (-1 ≤ s.c ∧ s.c ≤ 4095) ∨ ((-1 ≤ s.c ∧ s.c ≤ 4095) ∧ ¬ (0 ≤ s.e ∧ s.e ≤ 1000000)))))) := by
  unfold Spot.ok at h; omega

set_option maxRecDepth 100000 in
set_option maxHeartbeats 2000000 in
theorem checkSpot_yes (s : Spot) (h : s.ok) (w : World) : Calls Try.prog 25 #[.agg #[.int .i64 s.t, .int .i64 s.x, .int .i64 s.y, .int .i64 s.h, .int .i64 s.c, .int .i64 s.e]] w fun e w' => e = .returned (.int .i64 0) ∧ (w.alloc (.cells #[.int .i64 s.t, .int .i64 s.x, .int .i64 s.y, .int .i64 s.h, .int .i64 s.c, .int .i64 s.e] 27)).alloc (.cells #[.int .i64 (s.x), .int .i64 (s.y)] 23) = w' := by
  obtain ⟨⟨t0, t1⟩, ⟨⟨x0, x1⟩, y0, y1⟩, ⟨h0, h1⟩, ⟨c0, c1⟩, e0, e1⟩ := h
  go_enter Try.func25, Try.ntmps25
  go_wp2_with (first | (go_at_call 47; refine (rout_no _ _ _ (by omega) _).mono ?_; rintro e w' ⟨rfl, rfl⟩) | (go_at_call 31; refine (planeCheck_yes _ _ (by omega) (by omega) _).mono ?_; rintro e w' ⟨rfl, rfl⟩))
  go_returns
  exact ⟨rfl, rfl⟩
set_option maxRecDepth 100000 in
set_option maxHeartbeats 4000000 in
theorem checkSpot_no (s : Spot) (h : ¬ s.ok) (w : World) : Calls Try.prog 25 #[.agg #[.int .i64 s.t, .int .i64 s.x, .int .i64 s.y, .int .i64 s.h, .int .i64 s.c, .int .i64 s.e]] w fun e w' => e = .returned (.int .i64 4) ∧ Below w.heap.size w w' := by
  have hc := s.cases h
  clear h
  rcases hc with h | ⟨⟨t0, t1⟩, h⟩ | ⟨⟨t0, t1⟩, ⟨⟨x0, x1⟩, y0, y1⟩, h | ⟨⟨h0, h1⟩, h | ⟨⟨c0, c1⟩, h⟩⟩⟩
  · go_enter Try.func25, Try.ntmps25
    go_wp2_with (first | (go_at_call 47; refine (rout_yes _ _ _ (by omega) _).mono ?_; rintro e w' ⟨rfl, rfl⟩))
    go_returns
    exact ⟨rfl, by (repeat' (first | (with_reducible exact Below.refl _ _) | (with_reducible assumption) | (with_reducible refine below_drewN ?_ _) | (with_reducible refine Below.drew ?_) | (with_reducible refine Below.alloc ?_ ?_ _) | (with_reducible refine Below.setCell ?_ ?_ _) | (with_reducible exact Nat.le_refl _) | omega | (simp; omega) | (simp; done)))⟩
  · have H := Lib.hid h
    clear h
    go_enter Try.func25, Try.ntmps25
    go_wp2_with (first | (go_at_call 47; refine (rout_no _ _ _ (by omega) _).mono ?_; rintro e w' ⟨rfl, rfl⟩) | (go_at_call 31; refine (planeCheck_no _ _ H.out _).mono ?_; rintro e w' ⟨rfl, rfl⟩))
    go_returns
    exact ⟨rfl, by (repeat' (first | (with_reducible exact Below.refl _ _) | (with_reducible assumption) | (with_reducible refine below_drewN ?_ _) | (with_reducible refine Below.drew ?_) | (with_reducible refine Below.alloc ?_ ?_ _) | (with_reducible refine Below.setCell ?_ ?_ _) | (with_reducible exact Nat.le_refl _) | omega | (simp; omega) | (simp; done)))⟩
  all_goals
    go_enter Try.func25, Try.ntmps25
    go_wp2_with (first | (go_at_call 47; refine (rout_no _ _ _ (by omega) _).mono ?_; rintro e w' ⟨rfl, rfl⟩) | (go_at_call 47; refine (rout_yes _ _ _ (by omega) _).mono ?_; rintro e w' ⟨rfl, rfl⟩) | (go_at_call 31; refine (planeCheck_yes _ _ (by omega) (by omega) _).mono ?_; rintro e w' ⟨rfl, rfl⟩))
    go_returns
    exact ⟨rfl, by (repeat' (first | (with_reducible exact Below.refl _ _) | (with_reducible assumption) | (with_reducible refine below_drewN ?_ _) | (with_reducible refine Below.drew ?_) | (with_reducible refine Below.alloc ?_ ?_ _) | (with_reducible refine Below.setCell ?_ ?_ _) | (with_reducible exact Nat.le_refl _) | omega | (simp; omega) | (simp; done)))⟩
end Go.Proofs.Ytlhphogdedcalaa
