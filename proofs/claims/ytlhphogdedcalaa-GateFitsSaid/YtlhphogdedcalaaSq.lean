/- Squared distances: plane.Sub, Dot, Square, Within; Far and Apart of the reference. -/
import Derived.Test.YtlhphogdedcalaaKit
import Derived.Test.YtlhphogdedcalaaRows
namespace Go.Proofs.Ytlhphogdedcalaa
open Go.ChangeShapes Go.WideShapes Go.ChangeAt Go.RowKit

/-- |d| ≤ M -/
def sm (d : Int) : Prop := -100000000 ≤ d ∧ d ≤ 100000000
theorem sq_bd (a : Int) (h : sm a) : 0 ≤ a * a ∧ a * a ≤ 10000000000000000 := by
  obtain ⟨h0, h1⟩ := h
  rcases Int.le_total 0 a with h | h
  · exact ⟨Int.mul_nonneg h h, Int.le_trans (Int.mul_le_mul h1 h1 h (by omega)) (by omega)⟩
  · have e : a * a = (-a) * (-a) := (Int.neg_mul_neg a a).symm
    rw [e]
    exact ⟨Int.mul_nonneg (by omega) (by omega), Int.le_trans (Int.mul_le_mul (show -a ≤ 100000000 by omega) (show -a ≤ 100000000 by omega) (by omega) (by omega)) (by omega)⟩

set_option maxRecDepth 100000 in
set_option maxHeartbeats 2000000 in
theorem sub_any (x y u v : Int) (hx : sm (x - u)) (hy : sm (y - v)) (w : World) :
    Calls Try.prog 48 #[.agg #[.int .i64 x, .int .i64 y], .agg #[.int .i64 u, .int .i64 v]] w fun e w' => e = .returned (.agg #[.int .i64 (x - u), .int .i64 (y - v)]) ∧ Below w.heap.size w w' := by
  obtain ⟨x0, x1⟩ := hx
  obtain ⟨y0, y1⟩ := hy
  go_enter Try.func48, Try.ntmps48
  go_wp2
  go_returns
  exact ⟨rfl, by (repeat' (first | (with_reducible exact Below.refl _ _) | (with_reducible assumption) | (with_reducible refine below_drewN ?_ _) | (with_reducible refine Below.drew ?_) | (with_reducible refine Below.alloc ?_ ?_ _) | (with_reducible refine Below.setCell ?_ ?_ _) | (with_reducible exact Nat.le_refl _) | omega | (simp; omega) | (simp; done)))⟩
set_option maxRecDepth 100000 in
set_option maxHeartbeats 2000000 in
theorem dot_sq (x y : Int) (hx : sm x) (hy : sm y) (w : World) :
    Calls Try.prog 49 #[.agg #[.int .i64 x, .int .i64 y], .agg #[.int .i64 x, .int .i64 y]] w fun e w' => e = .returned (.int .i64 (x * x + y * y)) ∧ (w.alloc (.cells #[.int .i64 (x), .int .i64 (y)] 23)).alloc (.cells #[.int .i64 (x), .int .i64 (y)] 23) = w' := by
  obtain ⟨p0, p1⟩ := sq_bd x hx
  obtain ⟨q0, q1⟩ := sq_bd y hy
  go_enter Try.func49, Try.ntmps49
  go_wp2
  go_returns
  exact ⟨rfl, rfl⟩
def far (x y u v : Int) : Int := (x - u) * (x - u) + (y - v) * (y - v)
theorem far_bd {x y u v : Int} (hx : sm (x - u)) (hy : sm (y - v)) : 0 ≤ far x y u v ∧ far x y u v ≤ 20000000000000000 := by
  have := sq_bd _ hx
  have := sq_bd _ hy
  unfold far
  omega
set_option maxRecDepth 100000 in
set_option maxHeartbeats 2000000 in
theorem square_any (x y u v : Int) (hx : sm (x - u)) (hy : sm (y - v)) (w : World) :
    Calls Try.prog 30 #[.agg #[.int .i64 x, .int .i64 y], .agg #[.int .i64 u, .int .i64 v]] w fun e w' => e = .returned (.int .i64 (far x y u v)) ∧ Below w.heap.size w w' := by
  go_enter Try.func30, Try.ntmps30
  go_wp2_with fail
  refine (sub_any x y u v hx hy _).mono ?_
  rintro e w1 ⟨rfl, hb⟩
  have B : Hid (Below w.heap.size w w1) := Lib.hid (Below.trans (by (repeat' (first | (with_reducible exact Below.refl _ _) | (with_reducible assumption) | (with_reducible refine below_drewN ?_ _) | (with_reducible refine Below.drew ?_) | (with_reducible refine Below.alloc ?_ ?_ _) | (with_reducible refine Below.setCell ?_ ?_ _) | (with_reducible exact Nat.le_refl _) | omega | (simp; omega) | (simp; done)))) (hb.mono (by simp; omega)))
  clear hb
  have U : Hid ((x - u) * (x - u) + (y - v) * (y - v) = far x y u v) := Lib.hid rfl
  generalize x - u = dx at *
  generalize y - v = dy at *
  go_wp2_with (go_at_call 49; refine (dot_sq dx dy hx hy _).mono ?_; rintro e w' ⟨rfl, rfl⟩)
  go_returns
  exact ⟨by rw [U.out]; rfl, by have := B.out; have := B.out.size; (repeat' (first | (with_reducible exact Below.refl _ _) | (with_reducible assumption) | (with_reducible refine below_drewN ?_ _) | (with_reducible refine Below.drew ?_) | (with_reducible refine Below.alloc ?_ ?_ _) | (with_reducible refine Below.setCell ?_ ?_ _) | (with_reducible exact Nat.le_refl _) | omega | (simp; omega) | (simp; done)))⟩
set_option maxRecDepth 100000 in
set_option maxHeartbeats 2000000 in
theorem within_yes (x y u v d : Int) (hx : sm (x - u)) (hy : sm (y - v)) (d0 : 0 ≤ d) (d1 : d ≤ 8000000) (h : far x y u v ≤ d * d) (w : World) :
    Calls Try.prog 26 #[.agg #[.int .i64 x, .int .i64 y], .agg #[.int .i64 u, .int .i64 v], .int .i64 d] w fun e w' => e = .returned (.bool true) ∧ Below w.heap.size w w' := by
  have F := far_bd hx hy
  have S := sq_bd d ⟨by omega, by omega⟩
  obtain ⟨f0, f1⟩ := F
  obtain ⟨s0, s1⟩ := S
  have H := Lib.hid (square_any x y u v hx hy)
  clear hx hy
  generalize far x y u v = f at *
  go_enter Try.func26, Try.ntmps26
  go_wp2_with fail
  refine (H.out _).mono ?_
  rintro e w1 ⟨rfl, hb⟩
  have B : Hid (Below w.heap.size w w1) := Lib.hid (Below.trans (by (repeat' (first | (with_reducible exact Below.refl _ _) | (with_reducible assumption) | (with_reducible refine below_drewN ?_ _) | (with_reducible refine Below.drew ?_) | (with_reducible refine Below.alloc ?_ ?_ _) | (with_reducible refine Below.setCell ?_ ?_ _) | (with_reducible exact Nat.le_refl _) | omega | (simp; omega) | (simp; done)))) (hb.mono (by simp; omega)))
  clear hb
  go_wp2
  go_returns
  exact ⟨by first | rfl | (simp; done) | (simp; omega), by have := B.out; have := B.out.size; (repeat' (first | (with_reducible exact Below.refl _ _) | (with_reducible assumption) | (with_reducible refine below_drewN ?_ _) | (with_reducible refine Below.drew ?_) | (with_reducible refine Below.alloc ?_ ?_ _) | (with_reducible refine Below.setCell ?_ ?_ _) | (with_reducible exact Nat.le_refl _) | omega | (simp; omega) | (simp; done)))⟩
set_option maxRecDepth 100000 in
set_option maxHeartbeats 2000000 in
theorem within_no (x y u v d : Int) (hx : sm (x - u)) (hy : sm (y - v)) (d0 : 0 ≤ d) (d1 : d ≤ 8000000) (h : d * d < far x y u v) (w : World) :
    Calls Try.prog 26 #[.agg #[.int .i64 x, .int .i64 y], .agg #[.int .i64 u, .int .i64 v], .int .i64 d] w fun e w' => e = .returned (.bool false) ∧ Below w.heap.size w w' := by
  have F := far_bd hx hy
  have S := sq_bd d ⟨by omega, by omega⟩
  obtain ⟨f0, f1⟩ := F
  obtain ⟨s0, s1⟩ := S
  have H := Lib.hid (square_any x y u v hx hy)
  clear hx hy
  generalize far x y u v = f at *
  go_enter Try.func26, Try.ntmps26
  go_wp2_with fail
  refine (H.out _).mono ?_
  rintro e w1 ⟨rfl, hb⟩
  have B : Hid (Below w.heap.size w w1) := Lib.hid (Below.trans (by (repeat' (first | (with_reducible exact Below.refl _ _) | (with_reducible assumption) | (with_reducible refine below_drewN ?_ _) | (with_reducible refine Below.drew ?_) | (with_reducible refine Below.alloc ?_ ?_ _) | (with_reducible refine Below.setCell ?_ ?_ _) | (with_reducible exact Nat.le_refl _) | omega | (simp; omega) | (simp; done)))) (hb.mono (by simp; omega)))
  clear hb
  go_wp2
  go_returns
  exact ⟨by first | rfl | (simp; done) | (simp; omega), by have := B.out; have := B.out.size; (repeat' (first | (with_reducible exact Below.refl _ _) | (with_reducible assumption) | (with_reducible refine below_drewN ?_ _) | (with_reducible refine Below.drew ?_) | (with_reducible refine Below.alloc ?_ ?_ _) | (with_reducible refine Below.setCell ?_ ?_ _) | (with_reducible exact Nat.le_refl _) | omega | (simp; omega) | (simp; done)))⟩
set_option maxRecDepth 100000 in
set_option maxHeartbeats 2000000 in
theorem far_any (x y u v : Int) (hx : sm (x - u)) (hy : sm (y - v)) (w : World) :
    Calls Try.prog 13 #[.agg #[.int .i64 x, .int .i64 y], .agg #[.int .i64 u, .int .i64 v]] w fun e w' => e = .returned (.int .i64 (far x y u v)) ∧ Below w.heap.size w w' := by
  obtain ⟨p0, p1⟩ := sq_bd _ hx
  obtain ⟨q0, q1⟩ := sq_bd _ hy
  obtain ⟨x0, x1⟩ := hx
  obtain ⟨y0, y1⟩ := hy
  have U : Hid ((x - u) * (x - u) + (y - v) * (y - v) = far x y u v) := Lib.hid rfl
  go_enter Try.func13, Try.ntmps13
  go_wp2_with fail
  go_quiet (fail)
  all_goals (go_wp2; go_returns; exact ⟨by rw [U.out]; rfl, by (repeat' (first | (with_reducible exact Below.refl _ _) | (with_reducible assumption) | (with_reducible refine below_drewN ?_ _) | (with_reducible refine Below.drew ?_) | (with_reducible refine Below.alloc ?_ ?_ _) | (with_reducible refine Below.setCell ?_ ?_ _) | (with_reducible exact Nat.le_refl _) | omega | (simp; omega) | (simp; done)))⟩)
theorem apart_lt (a b : Int) (h : a < b) (h1 : sm (a - b)) (w : World) : Calls Try.prog 14 #[.int .i64 a, .int .i64 b] w fun e w' => e = .returned (.int .i64 (b - a)) ∧ w = w' := by
  obtain ⟨x0, x1⟩ := h1
  go_enter Try.func14, Try.ntmps14
  go_wp2
  go_returns
  exact ⟨rfl, rfl⟩
theorem apart_ge (a b : Int) (h : b ≤ a) (h1 : sm (a - b)) (w : World) : Calls Try.prog 14 #[.int .i64 a, .int .i64 b] w fun e w' => e = .returned (.int .i64 (a - b)) ∧ w = w' := by
  obtain ⟨x0, x1⟩ := h1
  go_enter Try.func14, Try.ntmps14
  go_wp2
  go_returns
  exact ⟨rfl, rfl⟩
end Go.Proofs.Ytlhphogdedcalaa
