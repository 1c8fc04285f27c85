/- Part of a claim: lemmas on the way to its theorem; each states its own conditions. -/
import Derived.Test.YtlhphogdedcalaaTrk
import Derived.Test.YtlhphogdedcalaaPlaced2
namespace Go.Proofs.Ytlhphogdedcalaa
open Go.ChangeShapes Go.WideShapes Go.ChangeAt Go.RowKit


set_option maxRecDepth 100000 in
set_option maxHeartbeats 2000000 in
theorem spotError_yes (s : Spot) (h : s.ok) (w : World) : Calls Try.prog 12 #[.agg #[.int .i64 s.t, .int .i64 s.x, .int .i64 s.y, .int .i64 s.h, .int .i64 s.c, .int .i64 s.e]] w fun e w' => e = .returned (.int .i64 0) ∧ (w.alloc (.cells #[.int .i64 s.t, .int .i64 s.x, .int .i64 s.y, .int .i64 s.h, .int .i64 s.c, .int .i64 s.e] 27)).alloc (.cells #[.int .i64 (s.x), .int .i64 (s.y)] 23) = w' := by
  obtain ⟨⟨t0, t1⟩, ⟨⟨x0, x1⟩, y0, y1⟩, ⟨h0, h1⟩, ⟨c0, c1⟩, e0, e1⟩ := h
  go_enter Try.func12, Try.ntmps12
  go_wp2_with (first | (go_at_call 8; refine (in2_yes _ _ _ (by omega) _).mono ?_; rintro e w' ⟨rfl, rfl⟩) | (go_at_call 27; refine (placed2_yes _ _ (by omega) (by omega) _).mono ?_; rintro e w' ⟨rfl, rfl⟩))
  go_returns
  exact ⟨rfl, rfl⟩
set_option maxRecDepth 100000 in
set_option maxHeartbeats 4000000 in
theorem spotError_no (s : Spot) (h : ¬ s.ok) (w : World) : Calls Try.prog 12 #[.agg #[.int .i64 s.t, .int .i64 s.x, .int .i64 s.y, .int .i64 s.h, .int .i64 s.c, .int .i64 s.e]] w fun e w' => e = .returned (.int .i64 4) ∧ Below w.heap.size w w' := by
  have hc := s.cases h
  clear h
  rcases hc with h | ⟨⟨t0, t1⟩, h⟩ | ⟨⟨t0, t1⟩, ⟨⟨x0, x1⟩, y0, y1⟩, h | ⟨⟨h0, h1⟩, h | ⟨⟨c0, c1⟩, h⟩⟩⟩
  · go_enter Try.func12, Try.ntmps12
    go_wp2_with (first | (go_at_call 8; refine (in2_no _ _ _ (by omega) _).mono ?_; rintro e w' ⟨rfl, rfl⟩))
    go_returns
    exact ⟨rfl, by (repeat' (first | (with_reducible exact Below.refl _ _) | (with_reducible assumption) | (with_reducible refine below_drewN ?_ _) | (with_reducible refine Below.drew ?_) | (with_reducible refine Below.alloc ?_ ?_ _) | (with_reducible refine Below.setCell ?_ ?_ _) | (with_reducible exact Nat.le_refl _) | omega | (simp; omega) | (simp; done)))⟩
  · have H := Lib.hid h
    clear h
    go_enter Try.func12, Try.ntmps12
    go_wp2_with (first | (go_at_call 8; refine (in2_yes _ _ _ (by omega) _).mono ?_; rintro e w' ⟨rfl, rfl⟩) | (go_at_call 27; refine (placed2_no _ _ H.out _).mono ?_; rintro e w' ⟨rfl, rfl⟩))
    go_returns
    exact ⟨rfl, by (repeat' (first | (with_reducible exact Below.refl _ _) | (with_reducible assumption) | (with_reducible refine below_drewN ?_ _) | (with_reducible refine Below.drew ?_) | (with_reducible refine Below.alloc ?_ ?_ _) | (with_reducible refine Below.setCell ?_ ?_ _) | (with_reducible exact Nat.le_refl _) | omega | (simp; omega) | (simp; done)))⟩
  all_goals
    go_enter Try.func12, Try.ntmps12
    go_wp2_with (first | (go_at_call 8; refine (in2_yes _ _ _ (by omega) _).mono ?_; rintro e w' ⟨rfl, rfl⟩) | (go_at_call 8; refine (in2_no _ _ _ (by omega) _).mono ?_; rintro e w' ⟨rfl, rfl⟩) | (go_at_call 27; refine (placed2_yes _ _ (by omega) (by omega) _).mono ?_; rintro e w' ⟨rfl, rfl⟩))
    go_returns
    exact ⟨rfl, by (repeat' (first | (with_reducible exact Below.refl _ _) | (with_reducible assumption) | (with_reducible refine below_drewN ?_ _) | (with_reducible refine Below.drew ?_) | (with_reducible refine Below.alloc ?_ ?_ _) | (with_reducible refine Below.setCell ?_ ?_ _) | (with_reducible exact Nat.le_refl _) | omega | (simp; omega) | (simp; done)))⟩
theorem Track.part_cases (t : Track) (h : ¬ t.ok) : ¬ (0 ≤ t.t ∧ t.t ≤ 200000) ∨ ((0 ≤ t.t ∧ t.t ≤ 200000) ∧ ¬ ((-1000000 ≤ t.x ∧ t.x ≤ 1000000) ∧ (-1000000 ≤ t.y ∧ t.y ≤ 1000000))) ∨
    ((0 ≤ t.t ∧ t.t ≤ 200000) ∧ ((-1000000 ≤ t.x ∧ t.x ≤ 1000000) ∧ (-1000000 ≤ t.y ∧ t.y ≤ 1000000)) ∧ (¬ (0 ≤ t.h ∧ t.h ≤ 60000) ∨ ((0 ≤ t.h ∧ t.h ≤ 60000) ∧ (¬ (0 ≤ t.rad ∧ t.rad ≤ 4000000) ∨ ((0 ≤ t.rad ∧ t.rad ≤ 4000000) ∧ ¬ (-1 ≤ t.c ∧ t.c ≤ 4095)))))) := by
  unfold Track.ok at h; omega
set_option maxRecDepth 100000 in
set_option maxHeartbeats 2000000 in
theorem trackPart_yes (t : Track) (h : t.ok) (w : World) : Calls Try.prog 11 #[.agg #[.int .i64 t.id, .int .i64 t.st, .int .i64 t.t, .int .i64 t.x, .int .i64 t.y, .int .i64 t.u, .int .i64 t.v, .int .i64 t.h, .int .i64 t.rate, .int .i64 t.rad, .int .i64 t.c, .int .i64 t.hits, .int .i64 t.miss]] w fun e w' => e = .returned (.int .i64 0) ∧ (w.alloc (.cells #[.int .i64 t.id, .int .i64 t.st, .int .i64 t.t, .int .i64 t.x, .int .i64 t.y, .int .i64 t.u, .int .i64 t.v, .int .i64 t.h, .int .i64 t.rate, .int .i64 t.rad, .int .i64 t.c, .int .i64 t.hits, .int .i64 t.miss] 25)).alloc (.cells #[.int .i64 (t.x), .int .i64 (t.y)] 23) = w' := by
  obtain ⟨⟨⟨t0, t1⟩, ⟨⟨x0, x1⟩, y0, y1⟩, ⟨h0, h1⟩, c0, c1⟩, r0, r1⟩ := h
  go_enter Try.func11, Try.ntmps11
  go_wp2_with (first | (go_at_call 8; refine (in2_yes _ _ _ (by omega) _).mono ?_; rintro e w' ⟨rfl, rfl⟩) | (go_at_call 27; refine (placed2_yes _ _ (by omega) (by omega) _).mono ?_; rintro e w' ⟨rfl, rfl⟩))
  go_returns
  exact ⟨rfl, rfl⟩
set_option maxRecDepth 100000 in
set_option maxHeartbeats 4000000 in
theorem trackPart_no (t : Track) (h : ¬ t.ok) (w : World) : Calls Try.prog 11 #[.agg #[.int .i64 t.id, .int .i64 t.st, .int .i64 t.t, .int .i64 t.x, .int .i64 t.y, .int .i64 t.u, .int .i64 t.v, .int .i64 t.h, .int .i64 t.rate, .int .i64 t.rad, .int .i64 t.c, .int .i64 t.hits, .int .i64 t.miss]] w fun e w' => e = .returned (.int .i64 4) ∧ Below w.heap.size w w' := by
  have hc := t.part_cases h
  clear h
  rcases hc with h | ⟨⟨t0, t1⟩, h⟩ | ⟨⟨t0, t1⟩, ⟨⟨x0, x1⟩, y0, y1⟩, h | ⟨⟨h0, h1⟩, h | ⟨⟨c0, c1⟩, h⟩⟩⟩
  · go_enter Try.func11, Try.ntmps11
    go_wp2_with (first | (go_at_call 8; refine (in2_no _ _ _ (by omega) _).mono ?_; rintro e w' ⟨rfl, rfl⟩))
    go_returns
    exact ⟨rfl, by (repeat' (first | (with_reducible exact Below.refl _ _) | (with_reducible assumption) | (with_reducible refine below_drewN ?_ _) | (with_reducible refine Below.drew ?_) | (with_reducible refine Below.alloc ?_ ?_ _) | (with_reducible refine Below.setCell ?_ ?_ _) | (with_reducible exact Nat.le_refl _) | omega | (simp; omega) | (simp; done)))⟩
  · have H := Lib.hid h
    clear h
    go_enter Try.func11, Try.ntmps11
    go_wp2_with (first | (go_at_call 8; refine (in2_yes _ _ _ (by omega) _).mono ?_; rintro e w' ⟨rfl, rfl⟩) | (go_at_call 27; refine (placed2_no _ _ H.out _).mono ?_; rintro e w' ⟨rfl, rfl⟩))
    go_returns
    exact ⟨rfl, by (repeat' (first | (with_reducible exact Below.refl _ _) | (with_reducible assumption) | (with_reducible refine below_drewN ?_ _) | (with_reducible refine Below.drew ?_) | (with_reducible refine Below.alloc ?_ ?_ _) | (with_reducible refine Below.setCell ?_ ?_ _) | (with_reducible exact Nat.le_refl _) | omega | (simp; omega) | (simp; done)))⟩
  all_goals
    go_enter Try.func11, Try.ntmps11
    go_wp2_with (first | (go_at_call 8; refine (in2_yes _ _ _ (by omega) _).mono ?_; rintro e w' ⟨rfl, rfl⟩) | (go_at_call 8; refine (in2_no _ _ _ (by omega) _).mono ?_; rintro e w' ⟨rfl, rfl⟩) | (go_at_call 27; refine (placed2_yes _ _ (by omega) (by omega) _).mono ?_; rintro e w' ⟨rfl, rfl⟩))
    go_returns
    exact ⟨rfl, by (repeat' (first | (with_reducible exact Below.refl _ _) | (with_reducible assumption) | (with_reducible refine below_drewN ?_ _) | (with_reducible refine Below.drew ?_) | (with_reducible refine Below.alloc ?_ ?_ _) | (with_reducible refine Below.setCell ?_ ?_ _) | (with_reducible exact Nat.le_refl _) | omega | (simp; omega) | (simp; done)))⟩
end Go.Proofs.Ytlhphogdedcalaa
