/- Part of a claim: lemmas on the way to its theorem; each states its own conditions. -/
import Derived.Test.YtlhphogdedcalaaRows
import Derived.Test.YtlhphogdedcalaaKit
namespace Go.Proofs.Ytlhphogdedcalaa
open Go.ChangeShapes Go.WideShapes Go.ChangeAt Go.RowKit

theorem tdiv_floor (a b : Int) (hb : 0 < b) : (a.tmod b ≠ 0 ∧ a < 0 → a.tdiv b - 1 = a / b) ∧ (a.tmod b = 0 ∨ 0 ≤ a → a.tdiv b = a / b) := by
  have h1 := Int.tmod_add_mul_tdiv a b
  have h2 := Int.emod_add_mul_ediv a b
  have h3 := Int.emod_nonneg a (show b ≠ 0 by omega)
  have h4 := Int.emod_lt_of_pos a hb
  constructor
  · rintro ⟨hm, ha⟩
    have h5 : a.tmod b < 0 := by
      have h9 : a.tmod b = -((-a).tmod b) := by rw [Int.neg_tmod]; omega
      have h10 : 0 ≤ (-a).tmod b := Int.tmod_nonneg b (by omega)
      omega
    have h6 : -b < a.tmod b := Int.lt_tmod_of_pos a hb
    have h7 : (a / b - (a.tdiv b - 1)) * b = a.tmod b + b - a % b := by
      rw [Int.sub_mul, Int.sub_mul, Int.mul_comm (a / b), Int.mul_comm (a.tdiv b)]; omega
    have h8 : a / b - (a.tdiv b - 1) = 0 := by
      rcases Int.lt_trichotomy (a / b - (a.tdiv b - 1)) 0 with h | h | h
      · have : (a / b - (a.tdiv b - 1)) * b ≤ -1 * b := Int.mul_le_mul_of_nonneg_right (by omega) (by omega)
        omega
      · exact h
      · have : 1 * b ≤ (a / b - (a.tdiv b - 1)) * b := Int.mul_le_mul_of_nonneg_right (by omega) (by omega)
        omega
    omega
  · rintro (hm | ha)
    · rw [hm, Int.zero_add] at h1
      rw [← h1, Int.mul_tdiv_cancel_left _ (by omega), Int.mul_ediv_cancel_left _ (by omega)]
    · exact Int.tdiv_eq_ediv_of_nonneg ha

theorem tdiv_bd (a b : Int) (hb : 0 < b) (ha : i64ok a) : -9223372036854775808 ≤ a.tdiv b ∧ a.tdiv b ≤ 9223372036854775807 := by
  obtain ⟨h0, h1⟩ := ha
  rcases Int.le_total 0 a with h | h
  · have h2 := Int.tdiv_eq_ediv_of_nonneg (b := b) h
    have h3 := Int.ediv_le_self b h
    have h4 : 0 ≤ a / b := Int.ediv_nonneg h (by omega)
    omega
  · have h2 : a.tdiv b = -((-a).tdiv b) := by rw [Int.neg_tdiv]; omega
    have h5 := Int.tdiv_eq_ediv_of_nonneg (a := -a) (b := b) (by omega)
    have h3 := Int.ediv_le_self (a := -a) b (by omega)
    have h4 : 0 ≤ (-a) / b := Int.ediv_nonneg (by omega) (by omega)
    omega

set_option maxRecDepth 100000 in
theorem divDown_any (a b : Int) (hb : 0 < b) (ha : i64ok a) (hb2 : b ≤ 9223372036854775807) (w : World) :
    Calls Try.prog 45 #[.int .i64 a, .int .i64 b] w fun e w' => e = .returned (.tuple #[.int .i64 (a / b), .int .i64 0]) ∧ w = w' := by
  have F := Lib.hid (tdiv_floor a b hb)
  obtain ⟨q0, q1⟩ := tdiv_bd a b hb ha
  obtain ⟨a0, a1⟩ := ha
  have hb0 : (b == 0) = false := by simp; omega
  have hb1 : (b == -1) = false := by simp; omega
  have hb2 : decide (b < 0) = false := by simp; omega
  by_cases hz : 0 ≤ a
  · have hz2 : decide (a < 0) = false := by simp; omega
    go_enter Try.func45, Try.ntmps45
    go_wp2
    all_goals (go_returns; exact ⟨by first | rfl | (rw [F.out.2 (.inr hz)]; rfl), rfl⟩)
  · have hz2 : decide (a < 0) = true := by simp; omega
    by_cases hm : a.tmod b = 0
    · have hm2 : (a.tmod b != 0) = false := by simpa using hm
      have Hm := Lib.hid hm
      clear hm
      by_cases hmn : a = -9223372036854775808
      · have hmn1 : (a == -9223372036854775808) = true := by simpa using hmn
        replace hmn := Lib.hid hmn
        go_enter Try.func45, Try.ntmps45
        go_wp2
        all_goals (go_returns; exact ⟨by first | rfl | (rw [F.out.2 (.inl Hm.out)]; rfl), rfl⟩)
      · have hmn1 : (a == -9223372036854775808) = false := by simpa using hmn
        replace hmn := Lib.hid hmn
        go_enter Try.func45, Try.ntmps45
        go_wp2
        all_goals (go_returns; exact ⟨by first | rfl | (rw [F.out.2 (.inl Hm.out)]; rfl), rfl⟩)
    · have hm2 : (a.tmod b != 0) = true := by simpa using hm
      have Hm := Lib.hid hm
      clear hm
      have q2 : -9223372036854775808 ≤ a.tdiv b - 1 := by
        have := F.out.1 ⟨Hm.out, by omega⟩
        rw [this]
        have h2 := Int.emod_add_mul_ediv a b
        have h3 := Int.emod_nonneg a (show b ≠ 0 by omega)
        have h4 := Int.emod_lt_of_pos a hb
        by_cases h : a / b < -9223372036854775808
        · have h5 : b * (a / b) ≤ b * (-9223372036854775809) := Int.mul_le_mul_of_nonneg_left (by omega) (by omega)
          omega
        · omega
      by_cases hmn : a = -9223372036854775808
      · have hmn1 : (a == -9223372036854775808) = true := by simpa using hmn
        replace hmn := Lib.hid hmn
        go_enter Try.func45, Try.ntmps45
        go_wp2
        all_goals (go_returns; exact ⟨by first | rfl | (rw [F.out.1 ⟨Hm.out, by omega⟩]; rfl), rfl⟩)
      · have hmn1 : (a == -9223372036854775808) = false := by simpa using hmn
        replace hmn := Lib.hid hmn
        go_enter Try.func45, Try.ntmps45
        go_wp2
        all_goals (go_returns; exact ⟨by first | rfl | (rw [F.out.1 ⟨Hm.out, by omega⟩]; rfl), rfl⟩)

theorem up_eq (a b : Int) (hb : 0 < b) : (a % b = 0 → a / b = -((-a) / b)) ∧ (a % b ≠ 0 → a / b + 1 = -((-a) / b)) := by
  have h2 := Int.emod_add_mul_ediv a b
  have h3 := Int.emod_nonneg a (show b ≠ 0 by omega)
  have h4 := Int.emod_lt_of_pos a hb
  have g2 := Int.emod_add_mul_ediv (-a) b
  have g3 := Int.emod_nonneg (-a) (show b ≠ 0 by omega)
  have g4 := Int.emod_lt_of_pos (-a) hb
  have e : b * (a / b + (-a) / b) = -(a % b) - (-a) % b := by rw [Int.mul_add]; omega
  generalize hX : a / b + (-a) / b = X at *
  have hx0 : X ≤ 0 := by
    by_cases h : 0 < X
    · have : b * 1 ≤ b * X := Int.mul_le_mul_of_nonneg_left (by omega) (by omega); omega
    · omega
  have hx1 : -1 ≤ X := by
    by_cases h : X < -1
    · have : b * X ≤ b * (-2) := Int.mul_le_mul_of_nonneg_left (by omega) (by omega); omega
    · omega
  have hx : X = 0 ∨ X = -1 := by omega
  rcases hx with rfl | rfl
  · constructor <;> intro h <;> omega
  · constructor <;> intro h <;> omega
theorem tmod_zero_iff (a b : Int) (hb : 0 < b) : a.tmod b = 0 ↔ a % b = 0 := by
  rw [← Int.dvd_iff_tmod_eq_zero, ← Int.dvd_iff_emod_eq_zero]

def ceil (a b : Int) : Int := -((-a) / b)

set_option maxRecDepth 100000 in
theorem divUp_any (a b : Int) (hb : 0 < b) (ha : i64ok a) (ha2 : a ≤ 9223372036854775806) (hb2 : b ≤ 9223372036854775807) (w : World) :
    Calls Try.prog 22 #[.int .i64 a, .int .i64 b] w fun e w' => e = .returned (.tuple #[.int .i64 (ceil a b), .int .i64 0]) ∧ w = w' := by
  have U := Lib.hid (up_eq a b hb)
  have hA := ha
  obtain ⟨a0, a1⟩ := ha
  have q0 : -9223372036854775808 ≤ a / b := by
    have h2 := Int.emod_add_mul_ediv a b
    have h3 := Int.emod_nonneg a (show b ≠ 0 by omega)
    have h4 := Int.emod_lt_of_pos a hb
    by_cases h : a / b < -9223372036854775808
    · have h5 : b * (a / b) ≤ b * (-9223372036854775809) := Int.mul_le_mul_of_nonneg_left (by omega) (by omega)
      omega
    · omega
  have q1 : a / b ≤ 9223372036854775806 := by
    have h2 := Int.emod_add_mul_ediv a b
    have h3 := Int.emod_nonneg a (show b ≠ 0 by omega)
    by_cases h : 9223372036854775806 < a / b
    · have h5 : b * 9223372036854775807 ≤ b * (a / b) := Int.mul_le_mul_of_nonneg_left (by omega) (by omega)
      omega
    · omega
  by_cases hm : a % b = 0
  · have ht : (a.tmod b != 0) = false := by simpa using (tmod_zero_iff a b hb).2 hm
    have he : (a % b != 0) = false := by simpa using hm
    have Hm := Lib.hid hm
    clear hm
    go_enter Try.func22, Try.ntmps22
    go_wp2_with (go_at_call 45; refine (divDown_any a b hb hA hb2 _).mono ?_; rintro e w' ⟨rfl, rfl⟩)
    all_goals (go_returns; exact ⟨by rw [ceil, ← U.out.1 Hm.out]; rfl, rfl⟩)
  · have ht : (a.tmod b != 0) = true := by simpa using fun h => hm ((tmod_zero_iff a b hb).1 h)
    have he : (a % b != 0) = true := by simpa using hm
    have Hm := Lib.hid hm
    clear hm
    go_enter Try.func22, Try.ntmps22
    go_wp2_with (go_at_call 45; refine (divDown_any a b hb hA hb2 _).mono ?_; rintro e w' ⟨rfl, rfl⟩)
    all_goals (go_returns; exact ⟨by rw [ceil, ← U.out.2 Hm.out]; rfl, rfl⟩)
end Go.Proofs.Ytlhphogdedcalaa
