/- skywaylaw2.GateFits returns true at every input: Reach and Fits return what the document says. No condition. -/
import Derived.Test.YtlhphogdedcalaaGateE
namespace Go.Proofs.Ytlhphogdedcalaa.Gate
open Go.ChangeShapes Go.WideShapes Go.ChangeAt Go.RowKit

theorem held_two {W X w5 : World} {b1 b2 : Nat} {cs1 cs2 : Array Value} (h1 : b1 < W.heap.size) (h2 : b2 < W.heap.size) (c1 : ∀ i, X.cell? ⟨b1, i, none⟩ = cs1[i]?) (c2 : ∀ i, X.cell? ⟨b2, i, none⟩ = cs2[i]?) (hb : Below W.heap.size W X) (h5 : Below X.heap.size X w5) :
    (∀ i, w5.cell? ⟨b1, i, none⟩ = cs1[i]?) ∧ (∀ i, w5.cell? ⟨b2, i, none⟩ = cs2[i]?) ∧ Below W.heap.size W w5 :=
  ⟨fun i => (h5.cell (p := ⟨b1, i, none⟩) (Nat.lt_of_lt_of_le h1 hb.size)).trans (c1 i), fun i => (h5.cell (p := ⟨b2, i, none⟩) (Nat.lt_of_lt_of_le h2 hb.size)).trans (c2 i), hb.trans (h5.mono hb.size)⟩
/-- The height's test ahead of the walk. -/
theorem Fit.split {t : Track} {s : Spot} {band : Int} {b : Bool} (h : Fit t s band b) : (¬ near t s ∧ b = false) ∨ (near t s ∧ t.h < s.h ∧ ((band < s.h - t.h ∧ b = false) ∨ (s.h - t.h ≤ band ∧ Codes t s b)) ∨ (near t s ∧ s.h ≤ t.h ∧ ((band < t.h - s.h ∧ b = false) ∨ (t.h - s.h ≤ band ∧ Codes t s b)))) ∨ band < 0 := by
  by_cases hb : band < 0
  · exact .inr (.inr hb)
  · rcases h with h | ⟨hn, h1, rfl⟩ | ⟨hn, h1, h2, rfl⟩ | ⟨hn, h1, h2, hc⟩
    · exact .inl h
    · exact .inr (.inl (.inr ⟨hn, by omega, .inl ⟨h1, rfl⟩⟩))
    · exact .inr (.inl (.inl ⟨hn, by omega, .inl ⟨h2, rfl⟩⟩))
    · rcases Int.lt_or_le t.h s.h with h3 | h3
      · exact .inr (.inl (.inl ⟨hn, h3, .inr ⟨h2, hc⟩⟩))
      · exact .inr (.inl (.inr ⟨hn, h3, .inr ⟨h1, hc⟩⟩))

set_option maxRecDepth 100000 in
set_option maxHeartbeats 16000000 in
theorem walk_ok (t : Track) (s : Spot) (band sl ac se n c : Int) (b : Bool) (hr : Reaches sl ac se n c) (ho : FOk t s band) (hf : Fit t s band b) (w : World) :
    Calls Try.prog 3 #[.agg #[.int .i64 t.id, .int .i64 t.st, .int .i64 t.t, .int .i64 t.x, .int .i64 t.y, .int .i64 t.u, .int .i64 t.v, .int .i64 t.h, .int .i64 t.rate, .int .i64 t.rad, .int .i64 t.c, .int .i64 t.hits, .int .i64 t.miss], .agg #[.int .i64 s.t, .int .i64 s.x, .int .i64 s.y, .int .i64 s.h, .int .i64 s.c, .int .i64 s.e], .int .i64 band, .int .i64 sl, .int .i64 ac, .int .i64 se] w fun e w' => e = .returned (.bool true) ∧ Below w.heap.size w w' := by
  have HR := Lib.hid (reach_any sl ac se n c hr)
  have hg : (n != n) = false := by simp
  have FT := Lib.hid (fits_ok t s band b ho hf)
  have F := Lib.hid (Fit.split hf)
  obtain ⟨ht, hs, ⟨b0, b1⟩, hn⟩ := ho
  have hn2 : (t.t != s.t) = false := by simpa using hn
  have HT := Lib.hid ht
  have HS := Lib.hid hs
  obtain ⟨⟨⟨t0, t1⟩, ⟨⟨x0, x1⟩, y0, y1⟩, ⟨h0, h1⟩, c0, c1⟩, r0, r1⟩ := ht
  obtain ⟨⟨u0, u1⟩, ⟨⟨p0, p1⟩, q0, q1⟩, ⟨g0, g1⟩, ⟨d0, d1⟩, e0, e1⟩ := hs
  have HL := Lib.hid (far_any t.x t.y s.x s.y ⟨by omega, by omega⟩ ⟨by omega, by omega⟩)
  obtain ⟨fb0, fb1⟩ := far_bd (x := t.x) (y := t.y) (u := s.x) (v := s.y) ⟨by omega, by omega⟩ ⟨by omega, by omega⟩
  obtain ⟨sq0, sq1⟩ := sq_bd (t.rad + s.e) ⟨by omega, by omega⟩
  have sd : Hid (sm (t.h - s.h)) := Lib.hid ⟨by omega, by omega⟩
  have fr := Front.of hr
  clear hr hf hn
  rcases fr with ⟨h, rfl, rfl⟩ | ⟨⟨j0, j1⟩, h, rfl, rfl⟩ | ⟨⟨j0, j1⟩, ⟨j2, j3⟩, h, rfl, rfl⟩ | ⟨⟨j0, j1⟩, ⟨j2, j3⟩, ⟨j4, j5⟩, gn, rfl⟩
  all_goals
    try (have GN := Lib.hid gn; clear gn)
    go_enter Try.func3, Try.ntmps3
    go_wp2_with (first | (go_at_call 7; (with_reducible refine (reach0 _).mono ?_); rintro e w' ⟨rfl, rfl⟩) | (go_at_call 7; (with_reducible refine (HR.out _).mono ?_); rintro e w' ⟨rfl, rfl⟩) | (go_at_call 8; refine (in2_yes _ _ _ (by omega) _).mono ?_; rintro e w' ⟨rfl, rfl⟩) | (go_at_call 8; refine (in2_no _ _ _ (by omega) _).mono ?_; rintro e w' ⟨rfl, rfl⟩) | (go_at_call 9; refine (GN.out _).mono ?_; rintro e w' ⟨rfl, rfl⟩))
    refine (FT.out _).mono ?_
    rintro e w1 ⟨rfl, hb⟩
    have B : Hid (Below w.heap.size w w1) := Lib.hid (Below.trans (by (repeat' (first | (with_reducible exact Below.refl _ _) | (with_reducible assumption) | (with_reducible refine below_drewN ?_ _) | (with_reducible refine Below.drew ?_) | (with_reducible refine Below.alloc ?_ ?_ _) | (with_reducible refine Below.setCell ?_ ?_ _) | (with_reducible exact Nat.le_refl _) | omega | (simp; omega) | (simp; done)))) (hb.mono (by simp; omega)))
    have k1 : Blk w1 w.heap.size 25 #[.int .i64 t.id, .int .i64 t.st, .int .i64 t.t, .int .i64 t.x, .int .i64 t.y, .int .i64 t.u, .int .i64 t.v, .int .i64 t.h, .int .i64 t.rate, .int .i64 t.rad, .int .i64 t.c, .int .i64 t.hits, .int .i64 t.miss] := Blk.below' (by (repeat' (first | (with_reducible assumption) | (with_reducible exact Blk.new _ _ _) | (refine Blk.new' _ _ _ ?_; (first | rfl | (simp; done) | (simp; omega)); done) | (with_reducible refine Blk.alloc ?_ _) | (with_reducible refine Blk.drew ?_) | (with_reducible refine Blk.drewN ?_ _)))) hb
    have k2 : Blk w1 (w.heap.size + 1) 27 #[.int .i64 s.t, .int .i64 s.x, .int .i64 s.y, .int .i64 s.h, .int .i64 s.c, .int .i64 s.e] := Blk.below' (by (repeat' (first | (with_reducible assumption) | (with_reducible exact Blk.new _ _ _) | (refine Blk.new' _ _ _ ?_; (first | rfl | (simp; done) | (simp; omega)); done) | (with_reducible refine Blk.alloc ?_ _) | (with_reducible refine Blk.drew ?_) | (with_reducible refine Blk.drewN ?_ _)))) hb
    clear hb
    obtain ⟨m1, f1, z1⟩ := k1.rules
    obtain ⟨m2, f2, z2⟩ := k2.rules
    go_wp2_with (first | (go_at_call 11; refine (trackPart_yes t HT.out _).mono ?_; rintro e w' ⟨rfl, rfl⟩) | (go_at_call 12; refine (spotError_yes s HS.out _).mono ?_; rintro e w' ⟨rfl, rfl⟩) | (go_at_call 8; refine (in2_yes _ _ _ (by omega) _).mono ?_; rintro e w' ⟨rfl, rfl⟩))
    have K1 : Blk ((((w1.alloc (.cells #[.int .i64 t.id, .int .i64 t.st, .int .i64 t.t, .int .i64 t.x, .int .i64 t.y, .int .i64 t.u, .int .i64 t.v, .int .i64 t.h, .int .i64 t.rate, .int .i64 t.rad, .int .i64 t.c, .int .i64 t.hits, .int .i64 t.miss] 25)).alloc (.cells #[.int .i64 (t.x), .int .i64 (t.y)] 23)).alloc (.cells #[.int .i64 s.t, .int .i64 s.x, .int .i64 s.y, .int .i64 s.h, .int .i64 s.c, .int .i64 s.e] 27)).alloc (.cells #[.int .i64 (s.x), .int .i64 (s.y)] 23)) w.heap.size 25 #[.int .i64 t.id, .int .i64 t.st, .int .i64 t.t, .int .i64 t.x, .int .i64 t.y, .int .i64 t.u, .int .i64 t.v, .int .i64 t.h, .int .i64 t.rate, .int .i64 t.rad, .int .i64 t.c, .int .i64 t.hits, .int .i64 t.miss] := by (repeat' (first | (with_reducible assumption) | (with_reducible exact Blk.new _ _ _) | (refine Blk.new' _ _ _ ?_; (first | rfl | (simp; done) | (simp; omega)); done) | (with_reducible refine Blk.alloc ?_ _) | (with_reducible refine Blk.drew ?_) | (with_reducible refine Blk.drewN ?_ _)))
    have K2 : Blk ((((w1.alloc (.cells #[.int .i64 t.id, .int .i64 t.st, .int .i64 t.t, .int .i64 t.x, .int .i64 t.y, .int .i64 t.u, .int .i64 t.v, .int .i64 t.h, .int .i64 t.rate, .int .i64 t.rad, .int .i64 t.c, .int .i64 t.hits, .int .i64 t.miss] 25)).alloc (.cells #[.int .i64 (t.x), .int .i64 (t.y)] 23)).alloc (.cells #[.int .i64 s.t, .int .i64 s.x, .int .i64 s.y, .int .i64 s.h, .int .i64 s.c, .int .i64 s.e] 27)).alloc (.cells #[.int .i64 (s.x), .int .i64 (s.y)] 23)) (w.heap.size + 1) 27 #[.int .i64 s.t, .int .i64 s.x, .int .i64 s.y, .int .i64 s.h, .int .i64 s.c, .int .i64 s.e] := by (repeat' (first | (with_reducible assumption) | (with_reducible exact Blk.new _ _ _) | (refine Blk.new' _ _ _ ?_; (first | rfl | (simp; done) | (simp; omega)); done) | (with_reducible refine Blk.alloc ?_ _) | (with_reducible refine Blk.drew ?_) | (with_reducible refine Blk.drewN ?_ _)))
    have B2 : Hid (Below w.heap.size w ((((w1.alloc (.cells #[.int .i64 t.id, .int .i64 t.st, .int .i64 t.t, .int .i64 t.x, .int .i64 t.y, .int .i64 t.u, .int .i64 t.v, .int .i64 t.h, .int .i64 t.rate, .int .i64 t.rad, .int .i64 t.c, .int .i64 t.hits, .int .i64 t.miss] 25)).alloc (.cells #[.int .i64 (t.x), .int .i64 (t.y)] 23)).alloc (.cells #[.int .i64 s.t, .int .i64 s.x, .int .i64 s.y, .int .i64 s.h, .int .i64 s.c, .int .i64 s.e] 27)).alloc (.cells #[.int .i64 (s.x), .int .i64 (s.y)] 23))) := Lib.hid (by have := B.out; have := B.out.size; (repeat' (first | (with_reducible exact Below.refl _ _) | (with_reducible assumption) | (with_reducible refine below_drewN ?_ _) | (with_reducible refine Below.drew ?_) | (with_reducible refine Below.alloc ?_ ?_ _) | (with_reducible refine Below.setCell ?_ ?_ _) | (with_reducible exact Nat.le_refl _) | omega | (simp; omega) | (simp; done))))
    clear m1 f1 z1 m2 f2 z2 k1 k2 B
    generalize (((w1.alloc (.cells #[.int .i64 t.id, .int .i64 t.st, .int .i64 t.t, .int .i64 t.x, .int .i64 t.y, .int .i64 t.u, .int .i64 t.v, .int .i64 t.h, .int .i64 t.rate, .int .i64 t.rad, .int .i64 t.c, .int .i64 t.hits, .int .i64 t.miss] 25)).alloc (.cells #[.int .i64 (t.x), .int .i64 (t.y)] 23)).alloc (.cells #[.int .i64 s.t, .int .i64 s.x, .int .i64 s.y, .int .i64 s.h, .int .i64 s.c, .int .i64 s.e] 27)).alloc (.cells #[.int .i64 (s.x), .int .i64 (s.y)] 23) = W at *
    obtain ⟨m1, f1, z1⟩ := K1.rules
    obtain ⟨m2, f2, z2⟩ := K2.rules
    go_region_held3 (fun w' => (∀ i, w'.cell? ⟨w.heap.size, i, none⟩ = #[.int .i64 t.id, .int .i64 t.st, .int .i64 t.t, .int .i64 t.x, .int .i64 t.y, .int .i64 t.u, .int .i64 t.v, .int .i64 t.h, .int .i64 t.rate, .int .i64 t.rad, .int .i64 t.c, .int .i64 t.hits, .int .i64 t.miss][i]?) ∧ (∀ i, w'.cell? ⟨w.heap.size + 1, i, none⟩ = #[.int .i64 s.t, .int .i64 s.x, .int .i64 s.y, .int .i64 s.h, .int .i64 s.c, .int .i64 s.e][i]?) ∧ Below W.heap.size W w')
      (first | exact ⟨m1, m2, (Below.refl _ _).drew⟩ | exact held_two (X := W.drew) z1.1 z2.1 m1 m2 (Below.refl _ _).drew hb5) (first | (go_at_call 13; refine (HL.out _).mono ?_; rintro e w5 ⟨rfl, hb5⟩))
    have B3 : Hid (Below w.heap.size w w5) := Lib.hid (B2.out.trans (((Below.refl _ _).drew.trans hb5).mono B2.out.size))
    have k3 : Blk w5 w.heap.size 25 #[.int .i64 t.id, .int .i64 t.st, .int .i64 t.t, .int .i64 t.x, .int .i64 t.y, .int .i64 t.u, .int .i64 t.v, .int .i64 t.h, .int .i64 t.rate, .int .i64 t.rad, .int .i64 t.c, .int .i64 t.hits, .int .i64 t.miss] := Blk.below' K1.drew hb5
    have k4 : Blk w5 (w.heap.size + 1) 27 #[.int .i64 s.t, .int .i64 s.x, .int .i64 s.y, .int .i64 s.h, .int .i64 s.c, .int .i64 s.e] := Blk.below' K2.drew hb5
    clear hb5 m1 f1 z1 m2 f2 z2 B2 K1 K2
    obtain ⟨m1, f1, z1⟩ := k3.rules
    obtain ⟨m2, f2, z2⟩ := k4.rules
    rcases F.out with ⟨hnear, rfl⟩ | (⟨hnear, hh, ⟨hx, rfl⟩ | ⟨hx, ⟨hc, rfl⟩ | ⟨hc, hc2, rfl⟩ | ⟨hc, hc2, hc3, rfl⟩ | ⟨hc, hc2, hc3, rfl⟩⟩⟩ | ⟨hnear, hh, ⟨hx, rfl⟩ | ⟨hx, ⟨hc, rfl⟩ | ⟨hc, hc2, rfl⟩ | ⟨hc, hc2, hc3, rfl⟩ | ⟨hc, hc2, hc3, rfl⟩⟩⟩) | hneg
    · have N1 : (t.rad + s.e) * (t.rad + s.e) < far t.x t.y s.x s.y := by unfold near at hnear; omega
      clear hnear
      go_wp2
      all_goals (go_returns; refine ⟨?_, B3.out⟩; first | rfl | (exfalso; omega) | (simp; omega))
    all_goals try (exfalso; omega)
    all_goals
      have N1 : far t.x t.y s.x s.y ≤ (t.rad + s.e) * (t.rad + s.e) := hnear
      clear hnear
      try (have E1 : (t.c == s.c) = true := by simpa using hc)
      try (have E1 : (t.c == s.c) = false := by simpa using hc)
      try (have E2 : (t.c == -1) = true := by simpa using hc2)
      try (have E2 : (t.c == -1) = false := by simpa using hc2)
      try (have E3 : (s.c == -1) = true := by simpa using hc3)
      try (have E3 : (s.c == -1) = false := by simpa using hc3)
      try (have HC1 := Lib.hid hc; clear hc)
      try (have HC2 := Lib.hid hc2; clear hc2)
      try (have HC3 := Lib.hid hc3; clear hc3)
      go_wp2_with (first | (go_at_call 14; refine (apart_lt _ _ (by omega) sd.out _).mono ?_; rintro e w' ⟨rfl, rfl⟩) | (go_at_call 14; refine (apart_ge _ _ (by omega) sd.out _).mono ?_; rintro e w' ⟨rfl, rfl⟩))
      all_goals
        try (have := HC1.out)
        try (have := HC2.out)
        try (have := HC3.out)
        go_returns
        refine ⟨?_, B3.out⟩
        first | rfl | (exfalso; omega) | (simp; omega) | (simp [*]; done)

set_option maxRecDepth 100000 in
theorem walk (t : Track) (s : Spot) (band sl ac se : Int) (w : World) :
    Calls Try.prog 3 #[.agg #[.int .i64 t.id, .int .i64 t.st, .int .i64 t.t, .int .i64 t.x, .int .i64 t.y, .int .i64 t.u, .int .i64 t.v, .int .i64 t.h, .int .i64 t.rate, .int .i64 t.rad, .int .i64 t.c, .int .i64 t.hits, .int .i64 t.miss], .agg #[.int .i64 s.t, .int .i64 s.x, .int .i64 s.y, .int .i64 s.h, .int .i64 s.c, .int .i64 s.e], .int .i64 band, .int .i64 sl, .int .i64 ac, .int .i64 se] w fun e w' => e = .returned (.bool true) ∧ Below w.heap.size w w' := by
  obtain ⟨n, c, hr⟩ := Reaches.total sl ac se
  rcases fits_cases t s band with h | ⟨d, h⟩
  · obtain ⟨b, hb⟩ := fit_total t s band
    exact walk_ok t s band sl ac se n c b hr h hb w
  · exact walk_err t s band sl ac se n c d hr h w
end Go.Proofs.Ytlhphogdedcalaa.Gate
