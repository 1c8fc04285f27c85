/- gate.Fits where it answers. -/
import Derived.Test.YtlhphogdedcalaaGateA
namespace Go.Proofs.Ytlhphogdedcalaa
open Go.ChangeShapes Go.WideShapes Go.ChangeAt Go.RowKit

set_option maxRecDepth 100000 in
set_option maxHeartbeats 8000000 in
theorem fits_ok (t : Track) (s : Spot) (band : Int) (b : Bool) (h : FOk t s band) (hf : Fit t s band b) (w : World) :
    Calls Try.prog 10 #[.agg #[.int .i64 t.id, .int .i64 t.st, .int .i64 t.t, .int .i64 t.x, .int .i64 t.y, .int .i64 t.u, .int .i64 t.v, .int .i64 t.h, .int .i64 t.rate, .int .i64 t.rad, .int .i64 t.c, .int .i64 t.hits, .int .i64 t.miss], .agg #[.int .i64 s.t, .int .i64 s.x, .int .i64 s.y, .int .i64 s.h, .int .i64 s.c, .int .i64 s.e], .int .i64 band] w fun e w' => e = .returned (.tuple #[.bool b, .int .i64 0]) ∧ Below w.heap.size w w' := by
  obtain ⟨ht, hs, ⟨b0, b1⟩, hn⟩ := h
  have hn2 : (t.t != s.t) = false := by simpa using hn
  have HT := Lib.hid ht
  have HS := Lib.hid hs
  obtain ⟨⟨⟨t0, t1⟩, ⟨⟨x0, x1⟩, y0, y1⟩, ⟨h0, h1⟩, c0, c1⟩, r0, r1⟩ := ht
  obtain ⟨⟨u0, u1⟩, ⟨⟨p0, p1⟩, q0, q1⟩, ⟨g0, g1⟩, ⟨d0, d1⟩, e0, e1⟩ := hs
  have X : Hid (sm (t.x - s.x)) := Lib.hid ⟨by omega, by omega⟩
  have Y : Hid (sm (t.y - s.y)) := Lib.hid ⟨by omega, by omega⟩
  have F := Lib.hid hf
  clear hf hn
  go_enter Try.func10, Try.ntmps10
  go_wp2_with (first | (go_at_call 24; refine (checkTrack_yes t HT.out _).mono ?_; rintro e w' ⟨rfl, rfl⟩) | (go_at_call 25; refine (checkSpot_yes s HS.out _).mono ?_; rintro e w' ⟨rfl, rfl⟩))
  rcases F.out with ⟨hnear, rfl⟩ | ⟨hnear, hh, rfl⟩ | ⟨hnear, hh, hh2, rfl⟩ | ⟨hnear, hh, hh2, ⟨hc, rfl⟩ | ⟨hc, hc2, rfl⟩ | ⟨hc, hc2, hc3, rfl⟩ | ⟨hc, hc2, hc3, rfl⟩⟩
  · have H : Hid ((t.rad + s.e) * (t.rad + s.e) < far t.x t.y s.x s.y) := Lib.hid (by unfold near at hnear; omega)
    clear hnear
    refine (within_no t.x t.y s.x s.y (t.rad + s.e) X.out Y.out (by omega) (by omega) H.out _).mono ?_
    rintro e w1 ⟨rfl, hb⟩
    have B : Hid (Below w.heap.size w w1) := Lib.hid (Below.trans (by (repeat' (first | (with_reducible exact Below.refl _ _) | (with_reducible assumption) | (with_reducible refine below_drewN ?_ _) | (with_reducible refine Below.drew ?_) | (with_reducible refine Below.alloc ?_ ?_ _) | (with_reducible refine Below.setCell ?_ ?_ _) | (with_reducible exact Nat.le_refl _) | omega | (simp; omega) | (simp; done)))) (hb.mono (by simp; omega)))
    clear hb
    go_wp2
    all_goals (go_returns; exact ⟨rfl, B.out⟩)
  all_goals
    have H : Hid (far t.x t.y s.x s.y ≤ (t.rad + s.e) * (t.rad + s.e)) := Lib.hid hnear
    clear hnear
    refine (within_yes t.x t.y s.x s.y (t.rad + s.e) X.out Y.out (by omega) (by omega) H.out _).mono ?_
    rintro e w1 ⟨rfl, hb⟩
    have B : Hid (Below w.heap.size w w1) := Lib.hid (Below.trans (by (repeat' (first | (with_reducible exact Below.refl _ _) | (with_reducible assumption) | (with_reducible refine below_drewN ?_ _) | (with_reducible refine Below.drew ?_) | (with_reducible refine Below.alloc ?_ ?_ _) | (with_reducible refine Below.setCell ?_ ?_ _) | (with_reducible exact Nat.le_refl _) | omega | (simp; omega) | (simp; done)))) (hb.mono (by simp; omega)))
    have k1 : Blk w1 w.heap.size 25 #[.int .i64 t.id, .int .i64 t.st, .int .i64 t.t, .int .i64 t.x, .int .i64 t.y, .int .i64 t.u, .int .i64 t.v, .int .i64 t.h, .int .i64 t.rate, .int .i64 t.rad, .int .i64 t.c, .int .i64 t.hits, .int .i64 t.miss] := Blk.below' (by (repeat' (first | (with_reducible assumption) | (with_reducible exact Blk.new _ _ _) | (refine Blk.new' _ _ _ ?_; (first | rfl | (simp; done) | (simp; omega)); done) | (with_reducible refine Blk.alloc ?_ _) | (with_reducible refine Blk.drew ?_) | (with_reducible refine Blk.drewN ?_ _)))) hb
    have k2 : Blk w1 (w.heap.size + 1) 27 #[.int .i64 s.t, .int .i64 s.x, .int .i64 s.y, .int .i64 s.h, .int .i64 s.c, .int .i64 s.e] := Blk.below' (by (repeat' (first | (with_reducible assumption) | (with_reducible exact Blk.new _ _ _) | (refine Blk.new' _ _ _ ?_; (first | rfl | (simp; done) | (simp; omega)); done) | (with_reducible refine Blk.alloc ?_ _) | (with_reducible refine Blk.drew ?_) | (with_reducible refine Blk.drewN ?_ _)))) hb
    clear hb
    obtain ⟨m1, f1, z1⟩ := k1.rules
    obtain ⟨m2, f2, z2⟩ := k2.rules
    try (have E1 : (t.c == s.c) = true := by simpa using hc)
    try (have E1 : (t.c == s.c) = false := by simpa using hc)
    try (have E2 : (t.c == -1) = true := by simpa using hc2)
    try (have E2 : (t.c == -1) = false := by simpa using hc2)
    try (have E3 : (s.c == -1) = true := by simpa using hc3)
    try (have E3 : (s.c == -1) = false := by simpa using hc3)
    try clear hc
    try clear hc2
    try clear hc3
    go_wp2
    all_goals (go_returns; first | exact ⟨rfl, B.out⟩ | exact ⟨by simp [*], B.out⟩ | (exfalso; omega))
end Go.Proofs.Ytlhphogdedcalaa
