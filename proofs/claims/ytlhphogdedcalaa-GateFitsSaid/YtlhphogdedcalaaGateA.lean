/- gate.Reach and gate.Fits by contract; Grown of the reference. -/
import Derived.Test.YtlhphogdedcalaaTrk2
import Derived.Test.YtlhphogdedcalaaDiv2
import Derived.Test.YtlhphogdedcalaaSq
namespace Go.Proofs.Ytlhphogdedcalaa
open Go.ChangeShapes Go.WideShapes Go.ChangeAt Go.RowKit

theorem ceil_bd' (a b M : Int) (hb : 0 < b) (h0 : 0 ≤ a) (h1 : a ≤ M) : -M ≤ ceil a b ∧ ceil a b ≤ M := by
  have := ediv_bd (-a) b M hb (by omega) (by omega)
  unfold ceil
  omega
def grow (sl ac se : Int) : Int := ceil (sl * se) 16 + ceil (ac * se * se) 2 + 2
theorem prod_bd {a s A S : Int} (a0 : 0 ≤ a) (a1 : a ≤ A) (s0 : 0 ≤ s) (s1 : s ≤ S) : 0 ≤ a * s ∧ a * s ≤ A * S :=
  ⟨Int.mul_nonneg a0 s0, Int.mul_le_mul a1 s1 s0 (by omega)⟩

/-- Reach's answer. -/
def Reaches (sl ac se n c : Int) : Prop :=
  (¬ ((0 ≤ sl ∧ sl ≤ 409600) ∧ 0 ≤ ac ∧ ac ≤ 20) ∧ n = 0 ∧ c = 4) ∨ ((0 ≤ sl ∧ sl ≤ 409600) ∧ (0 ≤ ac ∧ ac ≤ 20) ∧ ¬ (0 ≤ se ∧ se ≤ 600) ∧ n = 0 ∧ c = 12) ∨
  ((0 ≤ sl ∧ sl ≤ 409600) ∧ (0 ≤ ac ∧ ac ≤ 20) ∧ se = 0 ∧ n = 0 ∧ c = 0) ∨ ((0 ≤ sl ∧ sl ≤ 409600) ∧ (0 ≤ ac ∧ ac ≤ 20) ∧ (0 < se ∧ se ≤ 600) ∧ n = grow sl ac se ∧ c = 0)
theorem Reaches.total (sl ac se : Int) : ∃ n c, Reaches sl ac se n c := by
  by_cases h1 : (0 ≤ sl ∧ sl ≤ 409600) ∧ 0 ≤ ac ∧ ac ≤ 20
  · by_cases h2 : 0 ≤ se ∧ se ≤ 600
    · by_cases h3 : se = 0
      · exact ⟨_, _, .inr (.inr (.inl ⟨h1.1, h1.2, h3, rfl, rfl⟩))⟩
      · exact ⟨_, _, .inr (.inr (.inr ⟨h1.1, h1.2, by omega, rfl, rfl⟩))⟩
    · exact ⟨_, _, .inr (.inl ⟨h1.1, h1.2, h2, rfl, rfl⟩)⟩
  · exact ⟨_, _, .inl ⟨h1, rfl, rfl⟩⟩

set_option maxRecDepth 100000 in
set_option maxHeartbeats 4000000 in
theorem reach_any (sl ac se n c : Int) (h : Reaches sl ac se n c) (w : World) : Calls Try.prog 7 #[.int .i64 sl, .int .i64 ac, .int .i64 se] w fun e w' => e = .returned (.tuple #[.int .i64 n, .int .i64 c]) ∧ w = w' := by
  rcases h with ⟨h, rfl, rfl⟩ | ⟨⟨h0, h1⟩, ⟨h2, h3⟩, h, rfl, rfl⟩ | ⟨⟨h0, h1⟩, ⟨h2, h3⟩, rfl, rfl, rfl⟩ | ⟨⟨h0, h1⟩, ⟨h2, h3⟩, ⟨h4, h5⟩, hn, rfl⟩
  · have hc : sl < 0 ∨ (0 ≤ sl ∧ 409600 < sl) ∨ (0 ≤ sl ∧ sl ≤ 409600 ∧ ac < 0) ∨ (0 ≤ sl ∧ sl ≤ 409600 ∧ 0 ≤ ac ∧ 20 < ac) := by omega
    clear h
    rcases hc with h | ⟨h1, h⟩ | ⟨h1, h2, h⟩ | ⟨h1, h2, h3, h⟩
    all_goals
      go_enter Try.func7, Try.ntmps7
      go_wp2
      go_returns
      exact ⟨rfl, rfl⟩
  · have hc : se < 0 ∨ (0 ≤ se ∧ 600 < se) := by omega
    clear h
    rcases hc with h | ⟨h4, h⟩
    all_goals
      go_enter Try.func7, Try.ntmps7
      go_wp2
      go_returns
      exact ⟨rfl, rfl⟩
  · go_enter Try.func7, Try.ntmps7
    go_wp2
    go_returns
    exact ⟨rfl, rfl⟩
  · have H : Hid (ceil (sl * se) 16 + ceil (ac * se * se) 2 + 2 = n) := Lib.hid hn.symm
    clear hn
    obtain ⟨p0, p1⟩ := prod_bd h0 h1 (show 0 ≤ se by omega) h5
    obtain ⟨q0, q1⟩ := prod_bd h2 h3 (show 0 ≤ se by omega) h5
    obtain ⟨r0, r1⟩ := prod_bd q0 q1 (show 0 ≤ se by omega) h5
    obtain ⟨s0, s1⟩ := ceil_bd' (sl * se) 16 245760000 (by omega) p0 (by omega)
    obtain ⟨t0, t1⟩ := ceil_bd' (ac * se * se) 2 7200000 (by omega) r0 (by omega)
    have hz : (se == 0) = false := by simp; omega
    go_enter Try.func7, Try.ntmps7
    go_wp2_with (go_at_call 22; refine (divUp_any _ _ (by omega) ⟨by omega, by omega⟩ (by omega) (by omega) _).mono ?_; rintro e w' ⟨rfl, rfl⟩)
    go_returns
    exact ⟨by rw [← H.out]; rfl, rfl⟩
set_option maxRecDepth 100000 in
set_option maxHeartbeats 4000000 in
theorem grown_zero (sl ac : Int) (w : World) : Calls Try.prog 9 #[.int .i64 sl, .int .i64 ac, .int .i64 0] w fun e w' => e = .returned (.int .i64 0) ∧ w = w' := by
  go_enter Try.func9, Try.ntmps9
  go_wp2
  go_returns
  exact ⟨rfl, rfl⟩
set_option maxRecDepth 100000 in
set_option maxHeartbeats 4000000 in
theorem grown_any (sl ac se : Int) (h0 : 0 ≤ sl) (h1 : sl ≤ 409600) (h2 : 0 ≤ ac) (h3 : ac ≤ 20) (h4 : 0 < se) (h5 : se ≤ 600) (w : World) :
    Calls Try.prog 9 #[.int .i64 sl, .int .i64 ac, .int .i64 se] w fun e w' => e = .returned (.int .i64 (grow sl ac se)) ∧ w = w' := by
  have H : Hid (ceil (sl * se) 16 + ceil (ac * se * se) 2 + 2 = grow sl ac se) := Lib.hid rfl
  obtain ⟨p0, p1⟩ := prod_bd h0 h1 (show 0 ≤ se by omega) h5
  obtain ⟨q0, q1⟩ := prod_bd h2 h3 (show 0 ≤ se by omega) h5
  obtain ⟨r0, r1⟩ := prod_bd q0 q1 (show 0 ≤ se by omega) h5
  obtain ⟨s0, s1⟩ := ceil_bd' (sl * se) 16 245760000 (by omega) p0 (by omega)
  obtain ⟨t0, t1⟩ := ceil_bd' (ac * se * se) 2 7200000 (by omega) r0 (by omega)
  have hz : (se == 0) = false := by simp; omega
  go_enter Try.func9, Try.ntmps9
  go_wp2_with (go_at_call 23; refine (up2_any _ _ (by omega) (by omega) (by omega) (by omega) _).mono ?_; rintro e w' ⟨rfl, rfl⟩)
  go_returns
  exact ⟨by rw [← H.out]; rfl, rfl⟩

/-! Fits -/
def near (t : Track) (s : Spot) : Prop := far t.x t.y s.x s.y ≤ (t.rad + s.e) * (t.rad + s.e)
def Codes (t : Track) (s : Spot) (b : Bool) : Prop := (t.c = s.c ∧ b = true) ∨ (t.c ≠ s.c ∧ t.c = -1 ∧ b = true) ∨ (t.c ≠ s.c ∧ t.c ≠ -1 ∧ s.c = -1 ∧ b = true) ∨ (t.c ≠ s.c ∧ t.c ≠ -1 ∧ s.c ≠ -1 ∧ b = false)
def Fit (t : Track) (s : Spot) (band : Int) (b : Bool) : Prop :=
  (¬ near t s ∧ b = false) ∨ (near t s ∧ band < t.h - s.h ∧ b = false) ∨ (near t s ∧ t.h - s.h ≤ band ∧ band < s.h - t.h ∧ b = false) ∨ (near t s ∧ t.h - s.h ≤ band ∧ s.h - t.h ≤ band ∧ Codes t s b)
def FErr (t : Track) (s : Spot) (band c : Int) : Prop := (¬ t.ok ∧ c = 4) ∨ (t.ok ∧ ¬ s.ok ∧ c = 4) ∨ (t.ok ∧ s.ok ∧ ¬ (0 ≤ band ∧ band ≤ 60000) ∧ c = 4) ∨ (t.ok ∧ s.ok ∧ (0 ≤ band ∧ band ≤ 60000) ∧ t.t ≠ s.t ∧ c = 12)
def FOk (t : Track) (s : Spot) (band : Int) : Prop := t.ok ∧ s.ok ∧ (0 ≤ band ∧ band ≤ 60000) ∧ t.t = s.t
theorem fits_cases (t : Track) (s : Spot) (band : Int) : FOk t s band ∨ ∃ c, FErr t s band c := by
  by_cases h1 : t.ok
  · by_cases h2 : s.ok
    · by_cases h3 : 0 ≤ band ∧ band ≤ 60000
      · by_cases h4 : t.t = s.t
        · exact .inl ⟨h1, h2, h3, h4⟩
        · exact .inr ⟨_, .inr (.inr (.inr ⟨h1, h2, h3, h4, rfl⟩))⟩
      · exact .inr ⟨_, .inr (.inr (.inl ⟨h1, h2, h3, rfl⟩))⟩
    · exact .inr ⟨_, .inr (.inl ⟨h1, h2, rfl⟩)⟩
  · exact .inr ⟨_, .inl ⟨h1, rfl⟩⟩
theorem fit_total (t : Track) (s : Spot) (band : Int) : ∃ b, Fit t s band b := by
  by_cases h1 : near t s
  · by_cases h2 : band < t.h - s.h
    · exact ⟨_, .inr (.inl ⟨h1, h2, rfl⟩)⟩
    · by_cases h3 : band < s.h - t.h
      · exact ⟨_, .inr (.inr (.inl ⟨h1, by omega, h3, rfl⟩))⟩
      · have : ∃ b, Codes t s b := by
          by_cases c1 : t.c = s.c
          · exact ⟨_, .inl ⟨c1, rfl⟩⟩
          · by_cases c2 : t.c = -1
            · exact ⟨_, .inr (.inl ⟨c1, c2, rfl⟩)⟩
            · by_cases c3 : s.c = -1
              · exact ⟨_, .inr (.inr (.inl ⟨c1, c2, c3, rfl⟩))⟩
              · exact ⟨_, .inr (.inr (.inr ⟨c1, c2, c3, rfl⟩))⟩
        obtain ⟨b, hb⟩ := this
        exact ⟨b, .inr (.inr (.inr ⟨h1, by omega, by omega, hb⟩))⟩
  · exact ⟨_, .inl ⟨h1, rfl⟩⟩

set_option maxRecDepth 100000 in
set_option maxHeartbeats 8000000 in
theorem fits_err (t : Track) (s : Spot) (band c : Int) (h : FErr t s band c) (w : World) :
    Calls Try.prog 10 #[.agg #[.int .i64 t.id, .int .i64 t.st, .int .i64 t.t, .int .i64 t.x, .int .i64 t.y, .int .i64 t.u, .int .i64 t.v, .int .i64 t.h, .int .i64 t.rate, .int .i64 t.rad, .int .i64 t.c, .int .i64 t.hits, .int .i64 t.miss], .agg #[.int .i64 s.t, .int .i64 s.x, .int .i64 s.y, .int .i64 s.h, .int .i64 s.c, .int .i64 s.e], .int .i64 band] w fun e w' => e = .returned (.tuple #[.bool false, .int .i64 c]) ∧ Below w.heap.size w w' := by
  rcases h with ⟨ht, rfl⟩ | ⟨ht, hs, rfl⟩ | ⟨ht, hs, hb, rfl⟩ | ⟨ht, hs, ⟨b0, b1⟩, hne, rfl⟩
  · have HT := Lib.hid ht
    clear ht
    go_enter Try.func10, Try.ntmps10
    go_wp2_with fail
    refine (checkTrack_no t HT.out _).mono ?_
    rintro e w1 ⟨rfl, hb⟩
    have B : Hid (Below w.heap.size w w1) := Lib.hid (Below.trans (by (repeat' (first | (with_reducible exact Below.refl _ _) | (with_reducible assumption) | (with_reducible refine below_drewN ?_ _) | (with_reducible refine Below.drew ?_) | (with_reducible refine Below.alloc ?_ ?_ _) | (with_reducible refine Below.setCell ?_ ?_ _) | (with_reducible exact Nat.le_refl _) | omega | (simp; omega) | (simp; done)))) (hb.mono (by simp; omega)))
    clear hb
    go_wp2
    go_returns
    exact ⟨rfl, B.out⟩
  · have HT := Lib.hid ht
    have HS := Lib.hid hs
    clear ht hs
    go_enter Try.func10, Try.ntmps10
    go_wp2_with (go_at_call 24; refine (checkTrack_yes t HT.out _).mono ?_; rintro e w' ⟨rfl, rfl⟩)
    refine (checkSpot_no s HS.out _).mono ?_
    rintro e w1 ⟨rfl, hb⟩
    have B : Hid (Below w.heap.size w w1) := Lib.hid (Below.trans (by (repeat' (first | (with_reducible exact Below.refl _ _) | (with_reducible assumption) | (with_reducible refine below_drewN ?_ _) | (with_reducible refine Below.drew ?_) | (with_reducible refine Below.alloc ?_ ?_ _) | (with_reducible refine Below.setCell ?_ ?_ _) | (with_reducible exact Nat.le_refl _) | omega | (simp; omega) | (simp; done)))) (hb.mono (by simp; omega)))
    clear hb
    go_wp2
    go_returns
    exact ⟨rfl, B.out⟩
  · have HT := Lib.hid ht
    have HS := Lib.hid hs
    have hc : band < 0 ∨ (0 ≤ band ∧ 60000 < band) := by omega
    clear ht hs hb
    rcases hc with h | ⟨h1, h⟩
    all_goals
      go_enter Try.func10, Try.ntmps10
      go_wp2_with (first | (go_at_call 24; refine (checkTrack_yes t HT.out _).mono ?_; rintro e w' ⟨rfl, rfl⟩) | (go_at_call 25; refine (checkSpot_yes s HS.out _).mono ?_; rintro e w' ⟨rfl, rfl⟩))
      go_returns
      exact ⟨rfl, by (repeat' (first | (with_reducible exact Below.refl _ _) | (with_reducible assumption) | (with_reducible refine below_drewN ?_ _) | (with_reducible refine Below.drew ?_) | (with_reducible refine Below.alloc ?_ ?_ _) | (with_reducible refine Below.setCell ?_ ?_ _) | (with_reducible exact Nat.le_refl _) | omega | (simp; omega) | (simp; done)))⟩
  · have HT := Lib.hid ht
    have HS := Lib.hid hs
    have hn : (t.t != s.t) = true := by simpa using hne
    clear ht hs hne
    go_enter Try.func10, Try.ntmps10
    go_wp2_with (first | (go_at_call 24; refine (checkTrack_yes t HT.out _).mono ?_; rintro e w' ⟨rfl, rfl⟩) | (go_at_call 25; refine (checkSpot_yes s HS.out _).mono ?_; rintro e w' ⟨rfl, rfl⟩))
    go_returns
    exact ⟨rfl, by (repeat' (first | (with_reducible exact Below.refl _ _) | (with_reducible assumption) | (with_reducible refine below_drewN ?_ _) | (with_reducible refine Below.drew ?_) | (with_reducible refine Below.alloc ?_ ?_ _) | (with_reducible refine Below.setCell ?_ ?_ _) | (with_reducible exact Nat.le_refl _) | omega | (simp; omega) | (simp; done)))⟩
end Go.Proofs.Ytlhphogdedcalaa
