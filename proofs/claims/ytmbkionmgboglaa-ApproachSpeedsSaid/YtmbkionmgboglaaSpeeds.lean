/- skywaylaw4.ApproachSpeeds returns true at every input: Speed returns the least speed, found by trying all, and Wait what is left with the speed slow. No condition. -/
import Derived.Test.YtmbkionmgboglaaIn4
import Derived.Test.YtmbkionmgboglaaNum
import Derived.Test.YtmbkionmgboglaaLift
namespace Go.Proofs.Ytmbkionmgboglaa.Speeds
open Go.ChangeShapes Go.WideShapes Go.ChangeAt Go.RowKit

def valid (d s lo hi : Int) : Prop := (0 ≤ d ∧ d ≤ 4000000) ∧ (0 ≤ s ∧ s ≤ 200000) ∧ (1 ≤ lo ∧ lo ≤ hi) ∧ (1 ≤ hi ∧ hi ≤ 400)
def spd (d s lo : Int) : Int := if s = 0 then lo else max lo (ceil d s)

theorem mul_bd {a s : Int} (a0 : 0 ≤ a) (a1 : a ≤ 401) (s0 : 0 ≤ s) (s1 : s ≤ 200000) : 0 ≤ a * s ∧ a * s ≤ 80200000 :=
  ⟨Int.mul_nonneg a0 s0, Int.le_trans (Int.mul_le_mul a1 s1 s0 (by omega)) (by omega)⟩
theorem ceil_spec (d s : Int) (hs : 0 < s) : d ≤ ceil d s * s ∧ (ceil d s - 1) * s < d := by
  have h2 := Int.emod_add_mul_ediv (-d) s
  have h3 := Int.emod_nonneg (-d) (show s ≠ 0 by omega)
  have h4 := Int.emod_lt_of_pos (-d) hs
  have e : ceil d s * s = -(s * (-d / s)) := by rw [ceil, Int.neg_mul, Int.mul_comm]
  have e2 : (ceil d s - 1) * s = ceil d s * s - s := by rw [Int.sub_mul]; omega
  constructor <;> omega
theorem le_of_mul {a b s : Int} (hs : 0 < s) (h : a * s < (b + 1) * s) : a ≤ b := by
  rcases Int.lt_or_le b a with h1 | h1
  · have : (b + 1) * s ≤ a * s := Int.mul_le_mul_of_nonneg_right (by omega) (by omega)
    omega
  · exact h1

theorem ceil_bd (d s : Int) (hd : 0 ≤ d) (hd1 : d ≤ 4000000) (hs : 0 < s) : 0 ≤ ceil d s ∧ ceil d s ≤ 4000000 := by
  obtain ⟨h1, h2⟩ := ceil_spec d s hs
  constructor
  · by_cases h : ceil d s < 0
    · have : ceil d s * s ≤ (-1) * s := Int.mul_le_mul_of_nonneg_right (by omega) (by omega)
      omega
    · omega
  · by_cases h : 4000000 < ceil d s
    · have : 4000000 * s ≤ (ceil d s - 1) * s := Int.mul_le_mul_of_nonneg_right (by omega) (by omega)
      omega
    · omega

/-- The loop's end is Speed's answer. -/
theorem end_speed {d s lo k : Int} (hs0 : 0 ≤ s) (hd : 0 ≤ d) (hk : lo ≤ k) (h1 : k = lo ∨ (k - 1) * s < d) (h2 : d ≤ k * s) : k = spd d s lo := by
  unfold spd
  split
  · subst s
    simp at h1 h2
    omega
  · have hs : 0 < s := by omega
    obtain ⟨c1, c2⟩ := ceil_spec d s hs
    have hle : ceil d s ≤ k := by
      have := le_of_mul (a := ceil d s - 1) (b := k - 1) hs (by rw [Int.sub_add_cancel]; omega)
      omega
    rcases h1 with rfl | h1
    · omega
    · have := le_of_mul (a := k - 1) (b := ceil d s - 1) hs (by rw [Int.sub_add_cancel]; omega)
      omega

def wait (d s lo : Int) : Int := max 0 (s - ceil d lo)
/-- The law's last test. -/
theorem fine (d s lo : Int) (hlo : 1 ≤ lo) (hd : 0 ≤ d) : (wait d s lo = 0 ∧ lo * s ≤ d + lo - 1) ∨ (0 < wait d s lo ∧ d ≤ lo * (s - wait d s lo) ∧ lo * (s - wait d s lo - 1) < d) := by
  obtain ⟨c1, c2⟩ := ceil_spec d lo (by omega)
  by_cases h : s - ceil d lo ≤ 0
  · left
    have hw : wait d s lo = 0 := by unfold wait; omega
    refine ⟨hw, ?_⟩
    have : lo * s ≤ lo * ceil d lo := Int.mul_le_mul_of_nonneg_left (by omega) (by omega)
    rw [Int.sub_mul, Int.mul_comm (ceil d lo)] at c2
    omega
  · right
    have hw : wait d s lo = s - ceil d lo := by unfold wait; omega
    rw [hw, show s - (s - ceil d lo) = ceil d lo by omega, Int.mul_comm lo, Int.mul_comm lo]
    exact ⟨by omega, c1, c2⟩

set_option maxRecDepth 100000 in
set_option maxHeartbeats 2000000 in
theorem speed_bad (d s lo hi : Int) (h : ¬ valid d s lo hi) (w : World) : Calls Try.prog 6 #[.int .i64 d, .int .i64 s, .int .i64 lo, .int .i64 hi] w fun e w' => e = .returned (.tuple #[.int .i64 0, .int .i64 4]) ∧ w = w' := by
  have hc : d < 0 ∨ (0 ≤ d ∧ 4000000 < d) ∨ (0 ≤ d ∧ d ≤ 4000000 ∧ s < 0) ∨ (0 ≤ d ∧ d ≤ 4000000 ∧ 0 ≤ s ∧ 200000 < s) ∨ (0 ≤ d ∧ d ≤ 4000000 ∧ 0 ≤ s ∧ s ≤ 200000 ∧ lo < 1) ∨ (0 ≤ d ∧ d ≤ 4000000 ∧ 0 ≤ s ∧ s ≤ 200000 ∧ 1 ≤ lo ∧ hi < lo) ∨ (0 ≤ d ∧ d ≤ 4000000 ∧ 0 ≤ s ∧ s ≤ 200000 ∧ 1 ≤ lo ∧ lo ≤ hi ∧ 400 < hi) := by
    unfold valid at h; omega
  clear h
  rcases hc with h | ⟨h1, h⟩ | ⟨h1, h2, h⟩ | ⟨h1, h2, h3, h⟩ | ⟨h1, h2, h3, h4, h⟩ | ⟨h1, h2, h3, h4, h5, h⟩ | ⟨h1, h2, h3, h4, h5, h6, h⟩
  all_goals
    go_enter Try.func6, Try.ntmps6
    go_wp2
    go_returns
    exact ⟨rfl, rfl⟩
set_option maxRecDepth 100000 in
set_option maxHeartbeats 2000000 in
theorem speed_none (d s lo hi : Int) (h : valid d s lo hi) (hn : hi * s < d) (w : World) : Calls Try.prog 6 #[.int .i64 d, .int .i64 s, .int .i64 lo, .int .i64 hi] w fun e w' => e = .returned (.tuple #[.int .i64 0, .int .i64 8]) ∧ w = w' := by
  obtain ⟨⟨h1, h2⟩, ⟨h3, h4⟩, ⟨h5, h6⟩, h7, h8⟩ := h
  obtain ⟨m0, m1⟩ := mul_bd (a := hi) (s := s) (by omega) (by omega) h3 h4
  go_enter Try.func6, Try.ntmps6
  go_wp2
  go_returns
  exact ⟨rfl, rfl⟩
set_option maxRecDepth 100000 in
set_option maxHeartbeats 2000000 in
theorem speed_ok (d s lo hi : Int) (h : valid d s lo hi) (hn : d ≤ hi * s) (w : World) : Calls Try.prog 6 #[.int .i64 d, .int .i64 s, .int .i64 lo, .int .i64 hi] w fun e w' => e = .returned (.tuple #[.int .i64 (spd d s lo), .int .i64 0]) ∧ w = w' := by
  obtain ⟨⟨h1, h2⟩, ⟨h3, h4⟩, ⟨h5, h6⟩, h7, h8⟩ := h
  obtain ⟨m0, m1⟩ := mul_bd (a := hi) (s := s) (by omega) (by omega) h3 h4
  by_cases hs : s = 0
  · have hs' : (s == 0) = true := by simpa using hs
    have Hs : Hid (spd d s lo = lo) := Lib.hid (by rw [spd, if_pos hs])
    clear hs
    go_enter Try.func6, Try.ntmps6
    go_wp2
    go_returns
    exact ⟨by rw [Hs.out]; rfl, rfl⟩
  · have hs' : (s == 0) = false := by simpa using hs
    have Hs : Hid (spd d s lo = max lo (ceil d s)) := Lib.hid (by rw [spd, if_neg hs])
    have hs0 : 0 < s := by omega
    clear hs
    go_enter Try.func6, Try.ntmps6
    go_wp2_with (go_at_call 20; refine (divUp_any d s hs0 ⟨by omega, by omega⟩ (by omega) (by omega) _).mono ?_; rintro e w' ⟨rfl, rfl⟩)
    all_goals (go_returns; exact ⟨by rw [Hs.out]; simp; try omega, rfl⟩)

set_option maxRecDepth 100000 in
set_option maxHeartbeats 2000000 in
theorem wait_err (d s lo hi c : Int) (hc : (c != 0) = true) (h : ∀ w : World, Calls Try.prog 6 #[.int .i64 d, .int .i64 s, .int .i64 lo, .int .i64 hi] w fun e w' => e = .returned (.tuple #[.int .i64 0, .int .i64 c]) ∧ w = w') (w : World) :
    Calls Try.prog 7 #[.int .i64 d, .int .i64 s, .int .i64 lo, .int .i64 hi] w fun e w' => e = .returned (.tuple #[.int .i64 0, .int .i64 c]) ∧ w = w' := by
  have H := Lib.hid h
  clear h
  go_enter Try.func7, Try.ntmps7
  go_wp2_with (go_at_call 6; refine (H.out _).mono ?_; rintro e w' ⟨rfl, rfl⟩)
  go_returns
  exact ⟨rfl, rfl⟩
set_option maxRecDepth 100000 in
set_option maxHeartbeats 2000000 in
theorem wait_ok (d s lo hi : Int) (h : valid d s lo hi) (hn : d ≤ hi * s) (w : World) : Calls Try.prog 7 #[.int .i64 d, .int .i64 s, .int .i64 lo, .int .i64 hi] w fun e w' => e = .returned (.tuple #[.int .i64 (wait d s lo), .int .i64 0]) ∧ w = w' := by
  have H := Lib.hid (speed_ok d s lo hi h hn)
  obtain ⟨⟨h1, h2⟩, ⟨h3, h4⟩, ⟨h5, h6⟩, h7, h8⟩ := h
  have W := Lib.hid (show wait d s lo = max 0 (s - ceil d lo) from rfl)
  obtain ⟨b0, b1⟩ := ceil_bd d lo h1 h2 (by omega)
  clear hn
  go_enter Try.func7, Try.ntmps7
  go_wp2_with (first | (go_at_call 6; refine (H.out _).mono ?_; rintro e w' ⟨rfl, rfl⟩) | (go_at_call 20; refine (divUp_any d lo (by omega) ⟨by omega, by omega⟩ (by omega) (by omega) _).mono ?_; rintro e w' ⟨rfl, rfl⟩))
  all_goals (go_returns; exact ⟨by rw [W.out]; simp; try omega, rfl⟩)

theorem speed0 (w : World) : Calls Try.prog 6 #[.int .i64 1000, .int .i64 30, .int .i64 20, .int .i64 50] w fun e w' => e = .returned (.tuple #[.int .i64 34, .int .i64 0]) ∧ w = w' :=
  speed_ok 1000 30 20 50 (by unfold valid; omega) (by omega) w

set_option maxRecDepth 100000 in
set_option maxHeartbeats 2000000 in
theorem walk_bad (d s lo hi : Int) (h : ¬ valid d s lo hi) (w : World) : Calls Try.prog 3 #[.int .i64 d, .int .i64 s, .int .i64 lo, .int .i64 hi] w fun e w' => e = .returned (.bool true) ∧ w = w' := by
  have HS := Lib.hid (speed_bad d s lo hi h)
  have HW := Lib.hid (wait_err d s lo hi 4 rfl (speed_bad d s lo hi h))
  have hc : ¬ (0 ≤ d ∧ d ≤ 4000000) ∨ ((0 ≤ d ∧ d ≤ 4000000) ∧ ¬ (0 ≤ s ∧ s ≤ 200000)) ∨ ((0 ≤ d ∧ d ≤ 4000000) ∧ (0 ≤ s ∧ s ≤ 200000) ∧ ¬ (1 ≤ hi ∧ hi ≤ 400)) ∨ ((0 ≤ d ∧ d ≤ 4000000) ∧ (0 ≤ s ∧ s ≤ 200000) ∧ (1 ≤ hi ∧ hi ≤ 400) ∧ ¬ (1 ≤ lo ∧ lo ≤ hi)) := by
    unfold valid at h; omega
  clear h
  rcases hc with h1 | ⟨⟨h1, h1'⟩, h2⟩ | ⟨⟨h1, h1'⟩, ⟨h2, h2'⟩, h3⟩ | ⟨⟨h1, h1'⟩, ⟨h2, h2'⟩, ⟨h3, h3'⟩, h4⟩
  all_goals
    go_enter Try.func3, Try.ntmps3
    go_wp2_with fail
    refine (speed0 w).mono ?_
    rintro e w' ⟨rfl, rfl⟩
    go_wp2_with (first | (go_at_call 6; refine (HS.out _).mono ?_; rintro e w' ⟨rfl, rfl⟩) | (go_at_call 7; refine (HW.out _).mono ?_; rintro e w' ⟨rfl, rfl⟩) |
      (go_at_call 8; first | (refine (in4_yes _ _ _ (by omega) _).mono ?_; rintro e w' ⟨rfl, rfl⟩) | (refine (in4_no _ _ _ (by omega) _).mono ?_; rintro e w' ⟨rfl, rfl⟩)))
    go_returns
    exact ⟨rfl, rfl⟩

/-- What the two calls return. -/
def Ans (d s lo hi a e : Int) (b f : Int) : Prop := (hi * s < d ∧ a = 0 ∧ e = 8 ∧ b = 0 ∧ f = 8) ∨ (d ≤ hi * s ∧ a = spd d s lo ∧ e = 0 ∧ b = wait d s lo ∧ f = 0)

set_option maxRecDepth 100000 in
set_option maxHeartbeats 4000000 in
theorem walk_good (d s lo hi : Int) (h : valid d s lo hi) (w : World) : Calls Try.prog 3 #[.int .i64 d, .int .i64 s, .int .i64 lo, .int .i64 hi] w fun e w' => e = .returned (.bool true) ∧ w = w' := by
  obtain ⟨a, e, b, f, HA, HS, HW⟩ : ∃ a e b f : Int, Hid (Ans d s lo hi a e b f) ∧ Hid (∀ w : World, Calls Try.prog 6 #[.int .i64 d, .int .i64 s, .int .i64 lo, .int .i64 hi] w fun en w' => en = .returned (.tuple #[.int .i64 a, .int .i64 e]) ∧ w = w') ∧
      Hid (∀ w : World, Calls Try.prog 7 #[.int .i64 d, .int .i64 s, .int .i64 lo, .int .i64 hi] w fun en w' => en = .returned (.tuple #[.int .i64 b, .int .i64 f]) ∧ w = w') := by
    by_cases hn : d ≤ hi * s
    · exact ⟨_, 0, _, 0, Lib.hid (.inr ⟨hn, rfl, rfl, rfl, rfl⟩), Lib.hid (speed_ok d s lo hi h hn), Lib.hid (wait_ok d s lo hi h hn)⟩
    · exact ⟨0, 8, 0, 8, Lib.hid (.inl ⟨by omega, rfl, rfl, rfl, rfl⟩), Lib.hid (speed_none d s lo hi h (by omega)), Lib.hid (wait_err d s lo hi 8 rfl (speed_none d s lo hi h (by omega)))⟩
  obtain ⟨⟨h1, h2⟩, ⟨h3, h4⟩, ⟨h5, h6⟩, h7, h8⟩ := h
  go_enter Try.func3, Try.ntmps3
  go_wp2_with fail
  refine (speed0 w).mono ?_
  rintro e w' ⟨rfl, rfl⟩
  go_wp2_with (first | (go_at_call 6; refine (HS.out _).mono ?_; rintro e w' ⟨rfl, rfl⟩) | (go_at_call 7; refine (HW.out _).mono ?_; rintro e w' ⟨rfl, rfl⟩) |
      (go_at_call 8; refine (in4_yes _ _ _ (by omega) _).mono ?_; rintro e w' ⟨rfl, rfl⟩))
  go_loop [15] (fun v => ∃ k : Int, lo ≤ k ∧ k ≤ hi + 1 ∧ Hid (k = lo ∨ (k - 1) * s < d) ∧ v = .int .i64 k) (fun v => (hi + 1 - intOf v).toNat)
  case atStart => exact ⟨lo, by omega, by omega, Lib.hid (.inl rfl), rfl⟩
  case round =>
    obtain ⟨k, hk0, hk1, HK, rfl⟩ := hrel
    obtain ⟨m0, m1⟩ := mul_bd (a := k) (s := s) (by omega) (by omega) h3 h4
    by_cases c1 : k ≤ hi
    · by_cases c2 : k * s < d
      · go_wp2
        go_round
        case rel => exact ⟨k + 1, by omega, by omega, Lib.hid (.inr (by rw [Int.add_sub_cancel]; exact c2)), rfl⟩
        case measure => simp [intOf]; omega
      · have c2' : d ≤ k * s := by omega
        have hle : k * s ≤ hi * s := Int.mul_le_mul_of_nonneg_right c1 h3
        rcases HA.out with ⟨hn, _⟩ | ⟨_, rfl, rfl, rfl, rfl⟩
        · exfalso; omega
        · have hE := end_speed h3 h1 hk0 HK.out c2'
          have hfin := fine d s lo h5 h1
          have hw0 : 0 ≤ wait d s lo := by unfold wait; omega
          have hw1 : wait d s lo ≤ s := by have := (ceil_bd d lo h1 h2 (by omega)).1; unfold wait; omega
          rw [← hE]
          clear HK HA hE HS HW
          generalize wait d s lo = m at *
          obtain ⟨p0, p1⟩ := mul_bd (a := lo) (s := s) (by omega) (by omega) h3 h4
          rcases hfin with ⟨rfl, hf⟩ | ⟨hmp, hf1, hf2⟩
          · go_wp2
            go_ret
            exact ⟨by simp, rfl⟩
          · obtain ⟨p2, p3⟩ := mul_bd (a := lo) (s := s - m) (by omega) (by omega) (by omega) (by omega)
            have p4 : lo * (s - m - 1) = lo * (s - m) - lo := by rw [Int.mul_sub, Int.mul_one]
            have p5 : -400 ≤ lo * (s - m - 1) := by omega
            have p6 : lo * (s - m - 1) ≤ 80200000 := by omega
            clear p4
            have hm' : (m == 0) = false := by simp; omega
            go_wp2
            go_ret
            exact ⟨by simp, rfl⟩
    · have hkh : k = hi + 1 := by omega
      rcases HA.out with ⟨hn, rfl, rfl, rfl, rfl⟩ | ⟨hn, _⟩
      · clear HK HA
        go_wp2
        go_ret
        exact ⟨rfl, rfl⟩
      · exfalso
        rcases HK.out with h | h
        · omega
        · rw [hkh, Int.add_sub_cancel] at h; omega

theorem walkA {H : Type} {enc : TypeId × Value → H} (W : World) (args : Array Value) (ds : List (DataW H)) (p : List MemPlace) (h : Lift.Args enc Try.prog Try.f3 W args ds p) :
    Calls Try.prog 3 args W fun e W' => e = .returned (.bool true) ∧ Below W.heap.size W W' := by
  obtain ⟨hval, hA, _, _, _⟩ := h
  rw [Try.params3] at hA hval
  obtain ⟨v0, vs0, d0, ds0, p0, q0, hargs, rfl, rfl, h0, r0⟩ := trodAll_cons hA
  obtain ⟨v1, vs1, d1, ds1, p1, q1, rfl, rfl, rfl, h1, r1⟩ := trodAll_cons r0
  obtain ⟨v2, vs2, d2, ds2, p2, q2, rfl, rfl, rfl, h2, r2⟩ := trodAll_cons r1
  obtain ⟨v3, vs3, d3, ds3, p3, q3, rfl, rfl, rfl, h3, r3⟩ := trodAll_cons r2
  obtain ⟨rfl, rfl, rfl⟩ := trodAll_nil r3
  obtain rfl : args = #[v0, v1, v2, v3] := by cases args; simp_all
  obtain ⟨_, b0⟩ := hval 0 3 v0 rfl rfl
  obtain ⟨_, b1⟩ := hval 1 3 v1 rfl rfl
  obtain ⟨_, b2⟩ := hval 2 3 v2 rfl rfl
  obtain ⟨_, b3⟩ := hval 3 3 v3 rfl rfl
  obtain ⟨a0, rfl, rfl, rfl, w0⟩ := open_int Try.underlying3 b0 h0
  obtain ⟨a1, rfl, rfl, rfl, w1⟩ := open_int Try.underlying3 b1 h1
  obtain ⟨a2, rfl, rfl, rfl, w2⟩ := open_int Try.underlying3 b2 h2
  obtain ⟨a3, rfl, rfl, rfl, w3⟩ := open_int Try.underlying3 b3 h3
  by_cases hv : valid a0 a1 a2 a3
  · exact (walk_good a0 a1 a2 a3 hv W).mono fun e W' ⟨he, hw⟩ => ⟨he, hw ▸ Below.refl _ _⟩
  · exact (walk_bad a0 a1 a2 a3 hv W).mono fun e W' ⟨he, hw⟩ => ⟨he, hw ▸ Below.refl _ _⟩


set_option maxRecDepth 100000 in
theorem lifted (os : Os) (started : os.Started) (H : Type) (enc : TypeId × Value → H) :
    ReturnsInHanded {} Try.checked os 3 .any (Rows.approachSpeedsSpec.pre6 enc Try.prog Try.f3 [] false) (Rows.approachSpeedsSpec.post enc Try.prog Try.f3 false true false false) :=
  Lift.law (C := Try.checked) (tb := 4) (by kernel_rfl) started (by kernel_rfl) Try.func3
    (ChangeSpec.witness6 (enc := enc) (C := Try.checked) false ⟨#[], #[.int .i64 0, .int .i64 0, .int .i64 0, .int .i64 0], []⟩ 8 (by kernel_rfl) (by kernel_rfl) (by kernel_rfl) (by kernel_rfl))
    rfl rfl Try.underlying4 (by kernel_rfl) (by kernel_rfl)
    (by intro ds hds; rw [Try.params3] at hds; simp only [List.length_cons, List.length_nil] at hds; match ds, hds with | [_, _, _, _], _ => rfl)
    (fun W args ds p h => walkA W args ds p h)

theorem over : Rows.approachSpeedsRow.holds Try.pinned (OpenSpec.ofChange Rows.approachSpeedsSpec) :=
  OpenClaim.holds_of_wide 3 Try.f3 rfl rfl rfl rfl rfl rfl rfl ⟨rfl, rfl, rfl, rfl, rfl⟩ rfl rfl rfl rfl rfl (by kernel_rfl) Try.func3 (by kernel_rfl)
    (of_decide_eq_true (by kernel_rfl)) (by unfold Func.isWrapper; first | (rw [if_pos (by decide +kernel)]; kernel_rfl) | (rw [if_neg (by decide +kernel)]; exact ⟨rfl, rfl⟩))
    (fun os started H enc _ => lifted os started H enc)

/-- THE STATEMENT -/
theorem proved : Rows.ApproachSpeedsSaid := over
#print axioms proved

end Go.Proofs.Ytmbkionmgboglaa.Speeds
