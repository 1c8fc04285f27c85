/- Part of a claim: lemmas on the way to its theorem; each states its own conditions. -/
import Derived.Test.YtlhphogdedcalaaSpot
namespace Go.Proofs.Ytlhphogdedcalaa
open Go.ChangeShapes Go.WideShapes Go.ChangeAt Go.RowKit

/-- The spot that CheckTrack hands to CheckSpot. -/
def Track.spot (t : Track) : Spot := ⟨t.t, t.x, t.y, t.h, t.c, 0⟩
def Track.ok (t : Track) : Prop := ((0 ≤ t.t ∧ t.t ≤ 200000) ∧ ((-1000000 ≤ t.x ∧ t.x ≤ 1000000) ∧ (-1000000 ≤ t.y ∧ t.y ≤ 1000000)) ∧ (0 ≤ t.h ∧ t.h ≤ 60000) ∧ (-1 ≤ t.c ∧ t.c ≤ 4095)) ∧ (0 ≤ t.rad ∧ t.rad ≤ 4000000)
theorem Track.spot_ok {t : Track} (h : t.ok) : t.spot.ok := by
  obtain ⟨⟨a, b, c, d⟩, _⟩ := h
  exact ⟨a, b, c, d, by simp [Track.spot]⟩
theorem Track.cases (t : Track) (h : ¬ t.ok) : ¬ t.spot.ok ∨ (t.spot.ok ∧ t.rad < 0) ∨ (t.spot.ok ∧ 0 ≤ t.rad ∧ 4000000 < t.rad) := by
  by_cases hs : t.spot.ok
  · have := hs
    simp only [Spot.ok, Track.spot] at this
    unfold Track.ok at h
    simp only [hs, true_and, not_true_eq_false, false_or]
    omega
  · exact .inl hs

set_option maxRecDepth 100000 in
set_option maxHeartbeats 2000000 in
theorem checkTrack_yes (t : Track) (h : t.ok) (w : World) : Calls Try.prog 24 #[.agg #[.int .i64 t.id, .int .i64 t.st, .int .i64 t.t, .int .i64 t.x, .int .i64 t.y, .int .i64 t.u, .int .i64 t.v, .int .i64 t.h, .int .i64 t.rate, .int .i64 t.rad, .int .i64 t.c, .int .i64 t.hits, .int .i64 t.miss]] w fun e w' => e = .returned (.int .i64 0) ∧ ((w.alloc (.cells #[.int .i64 t.id, .int .i64 t.st, .int .i64 t.t, .int .i64 t.x, .int .i64 t.y, .int .i64 t.u, .int .i64 t.v, .int .i64 t.h, .int .i64 t.rate, .int .i64 t.rad, .int .i64 t.c, .int .i64 t.hits, .int .i64 t.miss] 25)).alloc (.cells #[.int .i64 t.t, .int .i64 t.x, .int .i64 t.y, .int .i64 t.h, .int .i64 t.c, .int .i64 0] 27)).alloc (.cells #[.int .i64 (t.x), .int .i64 (t.y)] 23) = w' := by
  have H := Lib.hid (Track.spot_ok h)
  obtain ⟨_, r0, r1⟩ := h
  go_enter Try.func24, Try.ntmps24
  go_wp2_with (go_at_call 25; refine (checkSpot_yes t.spot H.out _).mono ?_; rintro e w' ⟨rfl, rfl⟩)
  go_returns
  exact ⟨rfl, rfl⟩
set_option maxRecDepth 100000 in
set_option maxHeartbeats 2000000 in
theorem checkTrack_no (t : Track) (h : ¬ t.ok) (w : World) : Calls Try.prog 24 #[.agg #[.int .i64 t.id, .int .i64 t.st, .int .i64 t.t, .int .i64 t.x, .int .i64 t.y, .int .i64 t.u, .int .i64 t.v, .int .i64 t.h, .int .i64 t.rate, .int .i64 t.rad, .int .i64 t.c, .int .i64 t.hits, .int .i64 t.miss]] w fun e w' => e = .returned (.int .i64 4) ∧ Below w.heap.size w w' := by
  rcases t.cases h with hs | ⟨hs, hr⟩ | ⟨hs, hr, hr2⟩
  · have H := Lib.hid hs
    clear h hs
    go_enter Try.func24, Try.ntmps24
    go_wp2_with fail
    refine (checkSpot_no t.spot H.out _).mono ?_
    rintro e w1 ⟨rfl, hb⟩
    have B : Hid (Below w.heap.size w w1) := Lib.hid (Below.trans (by (repeat' (first | (with_reducible exact Below.refl _ _) | (with_reducible assumption) | (with_reducible refine below_drewN ?_ _) | (with_reducible refine Below.drew ?_) | (with_reducible refine Below.alloc ?_ ?_ _) | (with_reducible refine Below.setCell ?_ ?_ _) | (with_reducible exact Nat.le_refl _) | omega | (simp; omega) | (simp; done)))) (hb.mono (by simp)))
    clear hb
    go_wp2
    go_returns
    exact ⟨rfl, B.out⟩
  all_goals
    have H := Lib.hid hs
    clear h hs
    go_enter Try.func24, Try.ntmps24
    go_wp2_with (go_at_call 25; refine (checkSpot_yes t.spot H.out _).mono ?_; rintro e w' ⟨rfl, rfl⟩)
    go_returns
    exact ⟨rfl, by (repeat' (first | (with_reducible exact Below.refl _ _) | (with_reducible assumption) | (with_reducible refine below_drewN ?_ _) | (with_reducible refine Below.drew ?_) | (with_reducible refine Below.alloc ?_ ?_ _) | (with_reducible refine Below.setCell ?_ ?_ _) | (with_reducible exact Nat.le_refl _) | omega | (simp; omega) | (simp; done)))⟩

end Go.Proofs.Ytlhphogdedcalaa
