/- Part of a claim: lemmas on the way to its theorem; each states its own conditions. -/
import Derived.Test.YtclopfiochcocaaPlaced4
import Derived.Test.YtclopfiochcocaaNum
namespace Go.Proofs.Ytclopfiochcocaa
open Go.ChangeShapes Go.WideShapes Go.ChangeAt Go.RowKit

structure View where
  x : Int
  y : Int
  s : Int
  w : Int
  h : Int
def View.agg (v : View) : Value := .agg #[.int .i64 v.x, .int .i64 v.y, .int .i64 v.s, .int .i64 v.w, .int .i64 v.h]
def View.ok (v : View) : Prop := ((-1000000 ≤ v.x ∧ v.x ≤ 1000000) ∧ (-1000000 ≤ v.y ∧ v.y ≤ 1000000)) ∧ (1 ≤ v.s ∧ v.s ≤ 50000) ∧ (1 ≤ v.w ∧ v.w ≤ 60) ∧ (1 ≤ v.h ∧ v.h ≤ 60)

set_option maxRecDepth 100000 in
set_option maxHeartbeats 2000000 in
theorem screenCheck_yes (v : View) (h : v.ok) (w : World) : Calls Try.prog 12 #[v.agg] w fun e w' => e = .returned (.int .i64 0) ∧ (w.alloc (.cells #[.int .i64 v.x, .int .i64 v.y, .int .i64 v.s, .int .i64 v.w, .int .i64 v.h] 35)).alloc (.cells #[.int .i64 (v.x), .int .i64 (v.y)] 33) = w' := by
  obtain ⟨⟨⟨x0, x1⟩, y0, y1⟩, ⟨s0, s1⟩, ⟨w0, w1⟩, h0, h1⟩ := h
  unfold View.agg
  go_enter Try.func12, Try.ntmps12
  go_wp2_with (go_at_call 21; refine (planeCheck_yes _ _ (by omega) (by omega) _).mono ?_; rintro e w' ⟨rfl, rfl⟩)
  go_returns
  exact ⟨rfl, rfl⟩
set_option maxRecDepth 100000 in
set_option maxHeartbeats 4000000 in
theorem screenCheck_no (v : View) (h : ¬ v.ok) (w : World) : Calls Try.prog 12 #[v.agg] w fun e w' => e = .returned (.int .i64 4) ∧ (w.alloc (.cells #[.int .i64 v.x, .int .i64 v.y, .int .i64 v.s, .int .i64 v.w, .int .i64 v.h] 35)).alloc (.cells #[.int .i64 (v.x), .int .i64 (v.y)] 33) = w' := by
  have hc : ¬ ((-1000000 ≤ v.x ∧ v.x ≤ 1000000) ∧ (-1000000 ≤ v.y ∧ v.y ≤ 1000000)) ∨ (((-1000000 ≤ v.x ∧ v.x ≤ 1000000) ∧ (-1000000 ≤ v.y ∧ v.y ≤ 1000000)) ∧ (v.s < 1 ∨ (1 ≤ v.s ∧ 50000 < v.s) ∨ (1 ≤ v.s ∧ v.s ≤ 50000 ∧ v.w < 1) ∨ (1 ≤ v.s ∧ v.s ≤ 50000 ∧ 1 ≤ v.w ∧ 60 < v.w) ∨
      (1 ≤ v.s ∧ v.s ≤ 50000 ∧ 1 ≤ v.w ∧ v.w ≤ 60 ∧ v.h < 1) ∨ (1 ≤ v.s ∧ v.s ≤ 50000 ∧ 1 ≤ v.w ∧ v.w ≤ 60 ∧ 1 ≤ v.h ∧ 60 < v.h))) := by
    unfold View.ok at h; omega
  clear h
  unfold View.agg
  rcases hc with h | ⟨⟨⟨x0, x1⟩, y0, y1⟩, h | ⟨s0, h⟩ | ⟨s0, s1, h⟩ | ⟨s0, s1, w0, h⟩ | ⟨s0, s1, w0, w1, h⟩ | ⟨s0, s1, w0, w1, h0, h⟩⟩
  · have H := Lib.hid h
    clear h
    go_enter Try.func12, Try.ntmps12
    go_wp2_with (go_at_call 21; refine (planeCheck_no _ _ H.out _).mono ?_; rintro e w' ⟨rfl, rfl⟩)
    go_returns
    exact ⟨rfl, rfl⟩
  all_goals
    go_enter Try.func12, Try.ntmps12
    go_wp2_with (go_at_call 21; refine (planeCheck_yes _ _ (by omega) (by omega) _).mono ?_; rintro e w' ⟨rfl, rfl⟩)
    go_returns
    exact ⟨rfl, rfl⟩

set_option maxRecDepth 100000 in
set_option maxHeartbeats 2000000 in
theorem viewError_yes (v : View) (h : v.ok) (w : World) : Calls Try.prog 11 #[v.agg] w fun e w' => e = .returned (.int .i64 0) ∧ (w.alloc (.cells #[.int .i64 v.x, .int .i64 v.y, .int .i64 v.s, .int .i64 v.w, .int .i64 v.h] 35)).alloc (.cells #[.int .i64 (v.x), .int .i64 (v.y)] 33) = w' := by
  obtain ⟨⟨⟨x0, x1⟩, y0, y1⟩, ⟨s0, s1⟩, ⟨w0, w1⟩, h0, h1⟩ := h
  unfold View.agg
  go_enter Try.func11, Try.ntmps11
  go_wp2_with (first | (go_at_call 13; refine (placed4_yes _ _ (by omega) (by omega) _).mono ?_; rintro e w' ⟨rfl, rfl⟩) | (go_at_call 7; refine (in4_yes _ _ _ (by omega) _).mono ?_; rintro e w' ⟨rfl, rfl⟩))
  go_returns
  exact ⟨rfl, rfl⟩
set_option maxRecDepth 100000 in
set_option maxHeartbeats 4000000 in
theorem viewError_no (v : View) (h : ¬ v.ok) (w : World) : Calls Try.prog 11 #[v.agg] w fun e w' => e = .returned (.int .i64 4) ∧ (w.alloc (.cells #[.int .i64 v.x, .int .i64 v.y, .int .i64 v.s, .int .i64 v.w, .int .i64 v.h] 35)).alloc (.cells #[.int .i64 (v.x), .int .i64 (v.y)] 33) = w' := by
  have hc : ¬ ((-1000000 ≤ v.x ∧ v.x ≤ 1000000) ∧ (-1000000 ≤ v.y ∧ v.y ≤ 1000000)) ∨ (((-1000000 ≤ v.x ∧ v.x ≤ 1000000) ∧ (-1000000 ≤ v.y ∧ v.y ≤ 1000000)) ∧ (¬ (1 ≤ v.s ∧ v.s ≤ 50000) ∨ ((1 ≤ v.s ∧ v.s ≤ 50000) ∧ (¬ (1 ≤ v.w ∧ v.w ≤ 60) ∨ ((1 ≤ v.w ∧ v.w ≤ 60) ∧ ¬ (1 ≤ v.h ∧ v.h ≤ 60)))))) := by
    unfold View.ok at h; omega
  clear h
  unfold View.agg
  rcases hc with h | ⟨⟨⟨x0, x1⟩, y0, y1⟩, h | ⟨⟨s0, s1⟩, h | ⟨⟨w0, w1⟩, h⟩⟩⟩
  · have H := Lib.hid h
    clear h
    go_enter Try.func11, Try.ntmps11
    go_wp2_with (go_at_call 13; refine (placed4_no _ _ H.out _).mono ?_; rintro e w' ⟨rfl, rfl⟩)
    go_returns
    exact ⟨rfl, rfl⟩
  all_goals
    go_enter Try.func11, Try.ntmps11
    go_wp2_with (first | (go_at_call 13; refine (placed4_yes _ _ (by omega) (by omega) _).mono ?_; rintro e w' ⟨rfl, rfl⟩) | (go_at_call 7; first | (refine (in4_yes _ _ _ (by omega) _).mono ?_; rintro e w' ⟨rfl, rfl⟩) | (refine (in4_no _ _ _ (by omega) _).mono ?_; rintro e w' ⟨rfl, rfl⟩)))
    go_returns
    exact ⟨rfl, rfl⟩

def cellOf (p c s n : Int) : Int := (p - c) / s + n / 2
theorem div_bd (a b : Int) (hb : 0 < b) (h0 : -100000000 ≤ a) (h1 : a ≤ 100000000) : -100000000 ≤ a / b ∧ a / b ≤ 100000000 := by
  have h2 := Int.emod_add_mul_ediv a b
  have h3 := Int.emod_nonneg a (show b ≠ 0 by omega)
  have h4 := Int.emod_lt_of_pos a hb
  constructor
  · by_cases h : a / b < -100000000
    · have h5 : b * (a / b) ≤ b * (-100000001) := Int.mul_le_mul_of_nonneg_left (by omega) (by omega)
      omega
    · omega
  · by_cases h : 100000000 < a / b
    · have h5 : b * 100000001 ≤ b * (a / b) := Int.mul_le_mul_of_nonneg_left (by omega) (by omega)
      omega
    · omega

set_option maxRecDepth 100000 in
set_option maxHeartbeats 2000000 in
theorem cell_any (v : View) (h : v.ok) (x y : Int) (hx : -1000000 ≤ x ∧ x ≤ 1000000) (hy : -1000000 ≤ y ∧ y ≤ 1000000) (w : World) :
    Calls Try.prog 22 #[v.agg, .agg #[.int .i64 x, .int .i64 y]] w fun e w' => e = .returned (.agg #[.int .i64 (cellOf x v.x v.s v.w), .int .i64 (cellOf y v.y v.s v.h)]) ∧ Below w.heap.size w w' := by
  obtain ⟨⟨⟨x0, x1⟩, y0, y1⟩, ⟨s0, s1⟩, ⟨w0, w1⟩, h0, h1⟩ := h
  obtain ⟨a0, a1⟩ := hx
  obtain ⟨b0, b1⟩ := hy
  obtain ⟨d0, d1⟩ := div_bd (x - v.x) v.s (by omega) (by omega) (by omega)
  obtain ⟨e0, e1⟩ := div_bd (y - v.y) v.s (by omega) (by omega) (by omega)
  unfold View.agg
  go_enter Try.func22, Try.ntmps22
  go_wp2_with (go_at_call 19; refine (divDown_any _ _ (by omega) ⟨by omega, by omega⟩ (by omega) _).mono ?_; rintro e w' ⟨rfl, rfl⟩)
  go_returns
  exact ⟨rfl, by (repeat' (first | (with_reducible exact Below.refl _ _) | (with_reducible assumption) | (with_reducible refine below_drewN ?_ _) | (with_reducible refine Below.drew ?_) | (with_reducible refine Below.alloc ?_ ?_ _) | (with_reducible refine Below.setCell ?_ ?_ _) | (with_reducible exact Nat.le_refl _) | omega | (simp; omega) | (simp; done)))⟩

set_option maxRecDepth 100000 in
set_option maxHeartbeats 2000000 in
theorem floor_any (a b : Int) (hb : 0 < b) (hb1 : b ≤ 100000000) (h0 : -100000000 ≤ a) (h1 : a ≤ 100000000) (w : World) :
    Calls Try.prog 20 #[.int .i64 a, .int .i64 b] w fun e w' => e = .returned (.int .i64 (a / b)) ∧ w = w' := by
  have F := Lib.hid (tdiv_floor a b hb)
  obtain ⟨q0, q1⟩ := tdiv_bd a b hb ⟨by omega, by omega⟩
  obtain ⟨d0, d1⟩ := div_bd a b hb h0 h1
  have hq : a / b ≤ a.tdiv b ∧ a.tdiv b ≤ a / b + 1 := by
    by_cases h : a.tmod b ≠ 0 ∧ a < 0
    · have := F.out.1 h; omega
    · have := F.out.2 (by omega); omega
  have hm := Int.emod_add_mul_ediv a b
  have hm0 := Int.emod_nonneg a (show b ≠ 0 by omega)
  have hm1 := Int.emod_lt_of_pos a hb
  have m0 : a / b * b ≤ a := by rw [Int.mul_comm]; omega
  have m1 : a < (a / b + 1) * b := by rw [Int.add_mul, Int.one_mul, Int.mul_comm]; omega
  have m2 : -200000000 ≤ a / b * b := by rw [Int.mul_comm]; omega
  have m3 : (a / b + 1) * b ≤ 400000000 := by rw [Int.add_mul, Int.one_mul, Int.mul_comm]; omega
  have Hq := Lib.hid hq
  clear hq hm hm0 hm1 F
  go_enter Try.func20, Try.ntmps20
  go_wp2
  generalize hD : a / b = D at *
  have HD := Lib.hid hD
  clear hD
  go_loop [5] (fun q => ∃ k : Int, D ≤ k ∧ k ≤ D + 1 ∧ q = .int .i64 k) (fun q => (intOf q - D).toNat)
  case atStart => exact ⟨_, Hq.out.1, Hq.out.2, rfl⟩
  case round =>
    obtain ⟨k, k0, k1, rfl⟩ := hrel
    by_cases hk : k = D
    · subst hk
      go_wp2
      go_ret
      exact ⟨by rw [HD.out]; rfl, rfl⟩
    · have hk1 : k = D + 1 := by omega
      subst hk1
      go_wp2
      go_round
      case rel => exact ⟨D, by omega, by omega, by go_num⟩
      case measure => simp [intOf]; try omega
set_option maxRecDepth 100000 in
set_option maxHeartbeats 2000000 in
theorem viewCell_any (v : View) (h : v.ok) (x y : Int) (hx : -1000000 ≤ x ∧ x ≤ 1000000) (hy : -1000000 ≤ y ∧ y ≤ 1000000) (w : World) :
    Calls Try.prog 14 #[v.agg, .agg #[.int .i64 x, .int .i64 y]] w fun e w' => e = .returned (.agg #[.int .i64 (cellOf x v.x v.s v.w), .int .i64 (cellOf y v.y v.s v.h)]) ∧ Below w.heap.size w w' := by
  obtain ⟨⟨⟨x0, x1⟩, y0, y1⟩, ⟨s0, s1⟩, ⟨w0, w1⟩, h0, h1⟩ := h
  obtain ⟨a0, a1⟩ := hx
  obtain ⟨b0, b1⟩ := hy
  obtain ⟨d0, d1⟩ := div_bd (x - v.x) v.s (by omega) (by omega) (by omega)
  obtain ⟨e0, e1⟩ := div_bd (y - v.y) v.s (by omega) (by omega) (by omega)
  unfold View.agg
  go_enter Try.func14, Try.ntmps14
  go_wp2_with (go_at_call 20; refine (floor_any _ _ (by omega) (by omega) (by omega) (by omega) _).mono ?_; rintro e w' ⟨rfl, rfl⟩)
  have K1 : Blk (((w.alloc (.cells #[.int .i64 v.x, .int .i64 v.y, .int .i64 v.s, .int .i64 v.w, .int .i64 v.h] 35)).alloc (.cells #[.int .i64 (x), .int .i64 (y)] 33)).alloc (.cells #[.int .i64 0, .int .i64 0] 23)) w.heap.size 35 #[.int .i64 v.x, .int .i64 v.y, .int .i64 v.s, .int .i64 v.w, .int .i64 v.h] := by (repeat' (first | (with_reducible assumption) | (with_reducible exact Blk.new _ _ _) | (refine Blk.new' _ _ _ ?_; (first | rfl | (simp; done) | (simp; omega)); done) | (with_reducible refine Blk.alloc ?_ _) | (with_reducible refine Blk.drew ?_) | (with_reducible refine Blk.drewN ?_ _)))
  have K2 : Blk (((w.alloc (.cells #[.int .i64 v.x, .int .i64 v.y, .int .i64 v.s, .int .i64 v.w, .int .i64 v.h] 35)).alloc (.cells #[.int .i64 (x), .int .i64 (y)] 33)).alloc (.cells #[.int .i64 0, .int .i64 0] 23)) (w.heap.size + 1) 33 #[.int .i64 x, .int .i64 y] := by (repeat' (first | (with_reducible assumption) | (with_reducible exact Blk.new _ _ _) | (refine Blk.new' _ _ _ ?_; (first | rfl | (simp; done) | (simp; omega)); done) | (with_reducible refine Blk.alloc ?_ _) | (with_reducible refine Blk.drew ?_) | (with_reducible refine Blk.drewN ?_ _)))
  have K3 : Blk (((w.alloc (.cells #[.int .i64 v.x, .int .i64 v.y, .int .i64 v.s, .int .i64 v.w, .int .i64 v.h] 35)).alloc (.cells #[.int .i64 (x), .int .i64 (y)] 33)).alloc (.cells #[.int .i64 0, .int .i64 0] 23)) (w.heap.size + 1 + 1) 23 #[.int .i64 0, .int .i64 0] := by (repeat' (first | (with_reducible assumption) | (with_reducible exact Blk.new _ _ _) | (refine Blk.new' _ _ _ ?_; (first | rfl | (simp; done) | (simp; omega)); done) | (with_reducible refine Blk.alloc ?_ _) | (with_reducible refine Blk.drew ?_) | (with_reducible refine Blk.drewN ?_ _)))
  have B : Below w.heap.size w (((w.alloc (.cells #[.int .i64 v.x, .int .i64 v.y, .int .i64 v.s, .int .i64 v.w, .int .i64 v.h] 35)).alloc (.cells #[.int .i64 (x), .int .i64 (y)] 33)).alloc (.cells #[.int .i64 0, .int .i64 0] 23)) := by (repeat' (first | (with_reducible exact Below.refl _ _) | (with_reducible assumption) | (with_reducible refine below_drewN ?_ _) | (with_reducible refine Below.drew ?_) | (with_reducible refine Below.alloc ?_ ?_ _) | (with_reducible refine Below.setCell ?_ ?_ _) | (with_reducible exact Nat.le_refl _) | omega | (simp; omega) | (simp; done)))
  generalize ((w.alloc (.cells #[.int .i64 v.x, .int .i64 v.y, .int .i64 v.s, .int .i64 v.w, .int .i64 v.h] 35)).alloc (.cells #[.int .i64 (x), .int .i64 (y)] 33)).alloc (.cells #[.int .i64 0, .int .i64 0] 23) = W at *
  obtain ⟨c1, f1, z1⟩ := K1.rules
  obtain ⟨c2, f2, z2⟩ := K2.rules
  refine wp_region_still_tail 27 (by kernel_rfl) (by kernel_rfl) ?_
  simp only [List.take_succ_cons, List.take_zero, List.drop_succ_cons, List.drop_zero]
  have e1 : IntKind.i64.wrap (x - v.x) = x - v.x := IntWalk.i64_in _ (by omega)
  have e2 : IntKind.i64.wrap (y - v.y) = y - v.y := IntWalk.i64_in _ (by omega)
  have e3 : IntKind.i64.wrap (v.w.tdiv 2) = v.w / 2 := by rw [Int.tdiv_eq_ediv_of_nonneg (by omega)]; exact IntWalk.i64_in _ (by omega)
  have e4 : IntKind.i64.wrap (v.h.tdiv 2) = v.h / 2 := by rw [Int.tdiv_eq_ediv_of_nonneg (by omega)]; exact IntWalk.i64_in _ (by omega)
  have e5 : IntKind.i64.wrap ((x - v.x) / v.s + v.w / 2) = (x - v.x) / v.s + v.w / 2 := IntWalk.i64_in _ (by omega)
  have e6 : IntKind.i64.wrap ((y - v.y) / v.s + v.h / 2) = (y - v.y) / v.s + v.h / 2 := IntWalk.i64_in _ (by omega)
  repeat still_step
  still_call (same_right (floor_any (x - v.x) v.s (by omega) (by omega) (by omega) (by omega) _))
  repeat still_step
  still_call (same_right (floor_any (y - v.y) v.s (by omega) (by omega) (by omega) (by omega) _))
  repeat still_step
  refine wpStill_nil ?_
  change wpList _ _ _ _ _ W.drew
  clear e1 e2 e3 e4 e5 e6 c1 f1 z1 c2 f2 z2 K1 K2
  replace K3 := K3.drew
  replace B := B.drew
  generalize W.drew = W2 at *
  obtain ⟨c3, f3, z3⟩ := K3.rules
  have q := ((K3.set_ 0 (.int .i64 ((x - v.x) / v.s + v.w / 2))).set_ 1 (.int .i64 ((y - v.y) / v.s + v.h / 2))).cell
  have Q := Lib.hid q
  clear K3 q
  have HB := Lib.hid B
  clear B
  go_wp2
  refine bodyPost_ret (v := .agg #[.int .i64 (cellOf x v.x v.s v.w), .int .i64 (cellOf y v.y v.s v.h)]) (by simp [results, Try.results14, go_sem, Q.out, cellOf]) rfl ⟨rfl, ?_⟩
  have := HB.out
  (repeat' (first | (with_reducible exact Below.refl _ _) | (with_reducible assumption) | (with_reducible refine below_drewN ?_ _) | (with_reducible refine Below.drew ?_) | (with_reducible refine Below.alloc ?_ ?_ _) | (with_reducible refine Below.setCell ?_ ?_ _) | (with_reducible exact Nat.le_refl _) | omega | (simp; omega) | (simp; done)))

def visB (v : View) (x y : Int) : Bool := decide (0 ≤ x) && decide (x < v.w) && decide (0 ≤ y) && decide (y < v.h)
set_option maxRecDepth 100000 in
set_option maxHeartbeats 2000000 in
theorem visible_any (v : View) (x y : Int) (w : World) :
    Calls Try.prog 23 #[v.agg, .agg #[.int .i64 x, .int .i64 y]] w fun e w' => e = .returned (.bool (visB v x y)) ∧ (w.alloc (.cells #[.int .i64 v.x, .int .i64 v.y, .int .i64 v.s, .int .i64 v.w, .int .i64 v.h] 35)).alloc (.cells #[.int .i64 (x), .int .i64 (y)] 23) = w' := by
  unfold View.agg
  go_enter Try.func23, Try.ntmps23
  go_wp2
  all_goals (go_ret; exact ⟨by simp [visB, *]; try omega, rfl⟩)
end Go.Proofs.Ytclopfiochcocaa
