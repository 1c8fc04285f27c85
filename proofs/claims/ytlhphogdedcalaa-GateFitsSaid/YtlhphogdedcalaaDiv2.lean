/- Down and Up of the reference. -/
import Derived.Test.YtlhphogdedcalaaNum
namespace Go.Proofs.Ytlhphogdedcalaa
open Go.ChangeShapes Go.WideShapes Go.ChangeAt Go.RowKit

theorem tdiv_gt (a b : Int) (hb : 0 < b) : (a < a.tdiv b * b → a.tdiv b - 1 = a / b) ∧ (a.tdiv b * b ≤ a → a.tdiv b = a / b) := by
  have h1 := Int.tmod_add_mul_tdiv a b
  rw [Int.mul_comm b] at h1
  constructor
  · intro h
    refine (tdiv_floor a b hb).1 ⟨by omega, ?_⟩
    rcases Int.lt_or_le a 0 with h2 | h2
    · exact h2
    · have := Int.tmod_nonneg (a := a) b h2; omega
  · intro h
    refine (tdiv_floor a b hb).2 ?_
    rcases Int.lt_or_le a 0 with h2 | h2
    · left
      have h9 : a.tmod b = -((-a).tmod b) := by rw [Int.neg_tmod]; omega
      have h10 : 0 ≤ (-a).tmod b := Int.tmod_nonneg b (by omega)
      omega
    · exact .inr h2
theorem tdiv_mul_bd (a b : Int) (hb : 0 < b) : a - b < a.tdiv b * b ∧ a.tdiv b * b < a + b := by
  have h1 := Int.tmod_add_mul_tdiv a b
  rw [Int.mul_comm b] at h1
  have h2 : -b < a.tmod b := Int.lt_tmod_of_pos a hb
  have h3 : a.tmod b < b := Int.tmod_lt_of_pos a hb
  constructor <;> omega
theorem ediv_bd (a b M : Int) (hb : 0 < b) (h0 : -M ≤ a) (h1 : a ≤ M) : -M ≤ a / b ∧ a / b ≤ M := by
  have h2 := Int.emod_add_mul_ediv a b
  have h3 := Int.emod_nonneg a (show b ≠ 0 by omega)
  have h4 := Int.emod_lt_of_pos a hb
  have hM : 0 ≤ M := by omega
  constructor
  · by_cases h : a / b < -M
    · have h5 : b * (a / b) ≤ b * (-M - 1) := Int.mul_le_mul_of_nonneg_left (by omega) (by omega)
      have h6 : 1 * M ≤ b * M := Int.mul_le_mul_of_nonneg_right (by omega) hM
      rw [Int.mul_sub, Int.mul_neg] at h5
      omega
    · omega
  · by_cases h : M < a / b
    · have h5 : b * (M + 1) ≤ b * (a / b) := Int.mul_le_mul_of_nonneg_left (by omega) (by omega)
      have h6 : 1 * M ≤ b * M := Int.mul_le_mul_of_nonneg_right (by omega) hM
      rw [Int.mul_add] at h5
      omega
    · omega

set_option maxRecDepth 100000 in
set_option maxHeartbeats 2000000 in
theorem down2_any (a b : Int) (hb : 0 < b) (hb2 : b ≤ 4000000000000000000) (h0 : -4000000000000000000 ≤ a) (h1 : a ≤ 4000000000000000000) (w : World) :
    Calls Try.prog 46 #[.int .i64 a, .int .i64 b] w fun e w' => e = .returned (.int .i64 (a / b)) ∧ w = w' := by
  have F := Lib.hid (tdiv_gt a b hb)
  obtain ⟨q0, q1⟩ := tdiv_bd a b hb ⟨by omega, by omega⟩
  obtain ⟨m0, m1⟩ := tdiv_mul_bd a b hb
  have hz0 : (b == 0) = false := by simp; omega
  have hz1 : (b == -1) = false := by simp; omega
  have hz2 : (a == -9223372036854775808) = false := by simp; omega
  by_cases h : a < a.tdiv b * b
  · have q2 : -9223372036854775808 ≤ a.tdiv b - 1 := by
      have := F.out.1 h
      have := ediv_bd a b 4000000000000000000 hb h0 h1
      omega
    have H : Hid (a.tdiv b - 1 = a / b) := Lib.hid (F.out.1 h)
    go_enter Try.func46, Try.ntmps46
    go_wp2
    go_returns
    exact ⟨by rw [H.out]; rfl, rfl⟩
  · have H : Hid (a.tdiv b = a / b) := Lib.hid (F.out.2 (by omega))
    go_enter Try.func46, Try.ntmps46
    go_wp2
    go_returns
    exact ⟨by rw [H.out]; rfl, rfl⟩
set_option maxRecDepth 100000 in
set_option maxHeartbeats 2000000 in
theorem up2_any (a b : Int) (hb : 0 < b) (hb2 : b ≤ 4000000000000000000) (h0 : -4000000000000000000 ≤ a) (h1 : a ≤ 4000000000000000000) (w : World) :
    Calls Try.prog 23 #[.int .i64 a, .int .i64 b] w fun e w' => e = .returned (.int .i64 (ceil a b)) ∧ w = w' := by
  obtain ⟨m0, m1⟩ := ediv_bd (-a) b 4000000000000000000 hb (by omega) (by omega)
  go_enter Try.func23, Try.ntmps23
  go_wp2_with (go_at_call 46; refine (down2_any (-a) b hb hb2 (by omega) (by omega) _).mono ?_; rintro e w' ⟨rfl, rfl⟩)
  go_returns
  exact ⟨rfl, rfl⟩
end Go.Proofs.Ytlhphogdedcalaa
