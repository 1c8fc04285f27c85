/- skywaylaw4.ScreenCells returns true at every input: Check and Cell return what the reference returns. No condition. -/
import Derived.Test.YtclopfiochcocaaScrCellsA
import Derived.Test.YtclopfiochcocaaLift
import Derived.Test.YtclopfiochcocaaOpen
namespace Go.Proofs.Ytclopfiochcocaa.Cells
open Go.ChangeShapes Go.WideShapes Go.ChangeAt Go.RowKit

theorem cell0 (w : World) : Calls Try.prog 10 #[.agg #[.int .i64 0, .int .i64 0, .int .i64 10, .int .i64 5, .int .i64 3], .agg #[.int .i64 (-1), .int .i64 0]] w fun e w' =>
      e = .returned (.tuple #[.agg #[.int .i64 1, .int .i64 1], .bool true, .int .i64 0]) ∧ Below w.heap.size w w' :=
  cellF_ok ⟨0, 0, 10, 5, 3⟩ (by simp [View.ok]) (-1) 0 (by simp [pOk]) w

set_option maxRecDepth 100000 in
set_option maxHeartbeats 4000000 in
theorem walk (v : View) (x y : Int) (w : World) :
    Calls Try.prog 4 #[v.agg, .agg #[.int .i64 x, .int .i64 y]] w fun e w' => e = .returned (.bool true) ∧ Below w.heap.size w w' := by
  go_enter Try.func4, Try.ntmps4
  unfold View.agg
  go_wp2_with fail
  refine (cell0 _).mono ?_
  rintro e w1 ⟨rfl, hb⟩
  have B1 : Hid (Below w.heap.size w w1) := Lib.hid (Below.trans (by (repeat' (first | (with_reducible exact Below.refl _ _) | (with_reducible assumption) | (with_reducible refine below_drewN ?_ _) | (with_reducible refine Below.drew ?_) | (with_reducible refine Below.alloc ?_ ?_ _) | (with_reducible refine Below.setCell ?_ ?_ _) | (with_reducible exact Nat.le_refl _) | omega | (simp; omega) | (simp; done)))) (hb.mono (by simp; omega)))
  have k1 : Blk w1 w.heap.size 35 #[.int .i64 v.x, .int .i64 v.y, .int .i64 v.s, .int .i64 v.w, .int .i64 v.h] := Blk.below' (by (repeat' (first | (with_reducible assumption) | (with_reducible exact Blk.new _ _ _) | (refine Blk.new' _ _ _ ?_; (first | rfl | (simp; done) | (simp; omega)); done) | (with_reducible refine Blk.alloc ?_ _) | (with_reducible refine Blk.drew ?_) | (with_reducible refine Blk.drewN ?_ _)))) hb
  have k2 : Blk w1 (w.heap.size + 1) 33 #[.int .i64 x, .int .i64 y] := Blk.below' (by (repeat' (first | (with_reducible assumption) | (with_reducible exact Blk.new _ _ _) | (refine Blk.new' _ _ _ ?_; (first | rfl | (simp; done) | (simp; omega)); done) | (with_reducible refine Blk.alloc ?_ _) | (with_reducible refine Blk.drew ?_) | (with_reducible refine Blk.drewN ?_ _)))) hb
  clear hb
  obtain ⟨c1, f1, z1⟩ := k1.rules
  obtain ⟨c2, f2, z2⟩ := k2.rules
  by_cases hall : v.ok ∧ pOk x y
  · obtain ⟨hv, hp⟩ := hall
    have HV := Lib.hid hv
    have HP := Lib.hid hp
    clear hv hp
    go_wp2_with fail
    refine (cellF_ok v HV.out x y HP.out _).mono ?_
    rintro e w2 ⟨rfl, hb⟩
    have B2 : Hid (Below w.heap.size w w2) := Lib.hid (Below.trans (by have := B1.out; (repeat' (first | (with_reducible exact Below.refl _ _) | (with_reducible assumption) | (with_reducible refine below_drewN ?_ _) | (with_reducible refine Below.drew ?_) | (with_reducible refine Below.alloc ?_ ?_ _) | (with_reducible refine Below.setCell ?_ ?_ _) | (with_reducible exact Nat.le_refl _) | omega | (simp; omega) | (simp; done)))) (hb.mono (by simp; omega)))
    replace k1 : Blk w2 w.heap.size 35 #[.int .i64 v.x, .int .i64 v.y, .int .i64 v.s, .int .i64 v.w, .int .i64 v.h] := Blk.below' (by (repeat' (first | (with_reducible assumption) | (with_reducible exact Blk.new _ _ _) | (refine Blk.new' _ _ _ ?_; (first | rfl | (simp; done) | (simp; omega)); done) | (with_reducible refine Blk.alloc ?_ _) | (with_reducible refine Blk.drew ?_) | (with_reducible refine Blk.drewN ?_ _)))) hb
    replace k2 : Blk w2 (w.heap.size + 1) 33 #[.int .i64 x, .int .i64 y] := Blk.below' (by (repeat' (first | (with_reducible assumption) | (with_reducible exact Blk.new _ _ _) | (refine Blk.new' _ _ _ ?_; (first | rfl | (simp; done) | (simp; omega)); done) | (with_reducible refine Blk.alloc ?_ _) | (with_reducible refine Blk.drew ?_) | (with_reducible refine Blk.drewN ?_ _)))) hb
    clear hb c1 f1 z1 c2 f2 z2 B1
    obtain ⟨c1, f1, z1⟩ := k1.rules
    obtain ⟨c2, f2, z2⟩ := k2.rules
    go_wp2_with (first | (go_at_call 11; refine (viewError_yes v HV.out _).mono ?_; rintro e w' ⟨rfl, rfl⟩) | (go_at_call 12; refine (screenCheck_yes v HV.out _).mono ?_; rintro e w' ⟨rfl, rfl⟩) |
      (go_at_call 13; refine (placed4_yes x y HP.out.1 HP.out.2 _).mono ?_; rintro e w' ⟨rfl, rfl⟩))
    refine (viewCell_any v HV.out x y HP.out.1 HP.out.2 _).mono ?_
    rintro e w3 ⟨rfl, hb⟩
    have B3 : Hid (Below w.heap.size w w3) := Lib.hid (Below.trans (by have := B2.out; (repeat' (first | (with_reducible exact Below.refl _ _) | (with_reducible assumption) | (with_reducible refine below_drewN ?_ _) | (with_reducible refine Below.drew ?_) | (with_reducible refine Below.alloc ?_ ?_ _) | (with_reducible refine Below.setCell ?_ ?_ _) | (with_reducible exact Nat.le_refl _) | omega | (simp; omega) | (simp; done)))) (hb.mono (by simp; omega)))
    replace k1 : Blk w3 w.heap.size 35 #[.int .i64 v.x, .int .i64 v.y, .int .i64 v.s, .int .i64 v.w, .int .i64 v.h] := Blk.below' (by (repeat' (first | (with_reducible assumption) | (with_reducible exact Blk.new _ _ _) | (refine Blk.new' _ _ _ ?_; (first | rfl | (simp; done) | (simp; omega)); done) | (with_reducible refine Blk.alloc ?_ _) | (with_reducible refine Blk.drew ?_) | (with_reducible refine Blk.drewN ?_ _)))) hb
    have k3 : Blk w3 w2.heap.size 23 #[.int .i64 (cellOf x v.x v.s v.w), .int .i64 (cellOf y v.y v.s v.h)] := Blk.below' (by (repeat' (first | (with_reducible assumption) | (with_reducible exact Blk.new _ _ _) | (refine Blk.new' _ _ _ ?_; (first | rfl | (simp; done) | (simp; omega)); done) | (with_reducible refine Blk.alloc ?_ _) | (with_reducible refine Blk.drew ?_) | (with_reducible refine Blk.drewN ?_ _)))) hb
    clear hb c1 f1 z1 c2 f2 z2 B2 k2
    obtain ⟨c1, f1, z1⟩ := k1.rules
    obtain ⟨c3, f3, z3⟩ := k3.rules
    obtain ⟨⟨⟨x0, x1⟩, y0, y1⟩, ⟨s0, s1⟩, ⟨w0, w1⟩, h0, h1⟩ := HV.out
    generalize cellOf x v.x v.s v.w = cx at *
    generalize cellOf y v.y v.s v.h = cy at *
    by_cases hx : 0 ≤ cx ∧ cx ≤ v.w - 1
    · by_cases hy : 0 ≤ cy ∧ cy ≤ v.h - 1
      · have hv : visB v cx cy = true := by simp only [visB, Bool.and_eq_true, decide_eq_true_eq]; omega
        rw [hv]
        clear hv
        have HX := Lib.hid hx
        have HY := Lib.hid hy
        clear hx hy
        go_wp2_with (go_at_call 7; first | ((with_reducible refine (in4_yes _ _ _ HX.out _).mono ?_); rintro e w' ⟨rfl, rfl⟩) | ((with_reducible refine (in4_yes _ _ _ HY.out _).mono ?_); rintro e w' ⟨rfl, rfl⟩))
        go_ret
        exact ⟨rfl, by have := B3.out; (repeat' (first | (with_reducible exact Below.refl _ _) | (with_reducible assumption) | (with_reducible refine below_drewN ?_ _) | (with_reducible refine Below.drew ?_) | (with_reducible refine Below.alloc ?_ ?_ _) | (with_reducible refine Below.setCell ?_ ?_ _) | (with_reducible exact Nat.le_refl _) | omega | (simp; omega) | (simp; done)))⟩
      · have hv : visB v cx cy = false := by simp only [visB, Bool.and_eq_false_iff, decide_eq_false_iff_not]; omega
        rw [hv]
        clear hv
        have HX := Lib.hid hx
        have HY := Lib.hid hy
        clear hx hy
        go_wp2_with (go_at_call 7; first | ((with_reducible refine (in4_yes _ _ _ HX.out _).mono ?_); rintro e w' ⟨rfl, rfl⟩) | ((with_reducible refine (in4_no _ _ _ HY.out _).mono ?_); rintro e w' ⟨rfl, rfl⟩))
        go_ret
        exact ⟨rfl, by have := B3.out; (repeat' (first | (with_reducible exact Below.refl _ _) | (with_reducible assumption) | (with_reducible refine below_drewN ?_ _) | (with_reducible refine Below.drew ?_) | (with_reducible refine Below.alloc ?_ ?_ _) | (with_reducible refine Below.setCell ?_ ?_ _) | (with_reducible exact Nat.le_refl _) | omega | (simp; omega) | (simp; done)))⟩
    · have hv : visB v cx cy = false := by simp only [visB, Bool.and_eq_false_iff, decide_eq_false_iff_not]; omega
      rw [hv]
      clear hv
      have HX := Lib.hid hx
      clear hx
      go_wp2_with (go_at_call 7; refine (in4_no _ _ _ HX.out _).mono ?_; rintro e w' ⟨rfl, rfl⟩)
      go_ret
      exact ⟨rfl, by have := B3.out; (repeat' (first | (with_reducible exact Below.refl _ _) | (with_reducible assumption) | (with_reducible refine below_drewN ?_ _) | (with_reducible refine Below.drew ?_) | (with_reducible refine Below.alloc ?_ ?_ _) | (with_reducible refine Below.setCell ?_ ?_ _) | (with_reducible exact Nat.le_refl _) | omega | (simp; omega) | (simp; done)))⟩
  · have H := Lib.hid hall
    clear hall
    go_wp2_with fail
    refine (cellF_no v x y H.out _).mono ?_
    rintro e w2 ⟨rfl, hb⟩
    have B2 : Hid (Below w.heap.size w w2) := Lib.hid (Below.trans (by have := B1.out; (repeat' (first | (with_reducible exact Below.refl _ _) | (with_reducible assumption) | (with_reducible refine below_drewN ?_ _) | (with_reducible refine Below.drew ?_) | (with_reducible refine Below.alloc ?_ ?_ _) | (with_reducible refine Below.setCell ?_ ?_ _) | (with_reducible exact Nat.le_refl _) | omega | (simp; omega) | (simp; done)))) (hb.mono (by simp; omega)))
    replace k1 : Blk w2 w.heap.size 35 #[.int .i64 v.x, .int .i64 v.y, .int .i64 v.s, .int .i64 v.w, .int .i64 v.h] := Blk.below' (by (repeat' (first | (with_reducible assumption) | (with_reducible exact Blk.new _ _ _) | (refine Blk.new' _ _ _ ?_; (first | rfl | (simp; done) | (simp; omega)); done) | (with_reducible refine Blk.alloc ?_ _) | (with_reducible refine Blk.drew ?_) | (with_reducible refine Blk.drewN ?_ _)))) hb
    replace k2 : Blk w2 (w.heap.size + 1) 33 #[.int .i64 x, .int .i64 y] := Blk.below' (by (repeat' (first | (with_reducible assumption) | (with_reducible exact Blk.new _ _ _) | (refine Blk.new' _ _ _ ?_; (first | rfl | (simp; done) | (simp; omega)); done) | (with_reducible refine Blk.alloc ?_ _) | (with_reducible refine Blk.drew ?_) | (with_reducible refine Blk.drewN ?_ _)))) hb
    clear hb c1 f1 z1 c2 f2 z2 B1
    obtain ⟨c1, f1, z1⟩ := k1.rules
    obtain ⟨c2, f2, z2⟩ := k2.rules
    by_cases hv : v.ok
    · have HP : Hid (¬ pOk x y) := Lib.hid fun hp => H.out ⟨hv, hp⟩
      have HV := Lib.hid hv
      clear hv
      go_wp2_with (first | (go_at_call 11; refine (viewError_yes v HV.out _).mono ?_; rintro e w' ⟨rfl, rfl⟩) | (go_at_call 12; refine (screenCheck_yes v HV.out _).mono ?_; rintro e w' ⟨rfl, rfl⟩) |
        (go_at_call 13; refine (placed4_no x y HP.out _).mono ?_; rintro e w' ⟨rfl, rfl⟩))
      go_returns
      exact ⟨rfl, by have := B2.out; (repeat' (first | (with_reducible exact Below.refl _ _) | (with_reducible assumption) | (with_reducible refine below_drewN ?_ _) | (with_reducible refine Below.drew ?_) | (with_reducible refine Below.alloc ?_ ?_ _) | (with_reducible refine Below.setCell ?_ ?_ _) | (with_reducible exact Nat.le_refl _) | omega | (simp; omega) | (simp; done)))⟩
    · have HV := Lib.hid hv
      clear hv
      go_wp2_with (first | (go_at_call 11; refine (viewError_no v HV.out _).mono ?_; rintro e w' ⟨rfl, rfl⟩) | (go_at_call 12; refine (screenCheck_no v HV.out _).mono ?_; rintro e w' ⟨rfl, rfl⟩))
      go_returns
      exact ⟨rfl, by have := B2.out; (repeat' (first | (with_reducible exact Below.refl _ _) | (with_reducible assumption) | (with_reducible refine below_drewN ?_ _) | (with_reducible refine Below.drew ?_) | (with_reducible refine Below.alloc ?_ ?_ _) | (with_reducible refine Below.setCell ?_ ?_ _) | (with_reducible exact Nat.le_refl _) | omega | (simp; omega) | (simp; done)))⟩

theorem walkA {H : Type} {enc : TypeId × Value → H} (W : World) (args : Array Value) (ds : List (DataW H)) (p : List MemPlace) (h : Lift.Args enc Try.prog Try.f4 W args ds p) :
    Calls Try.prog 4 args W fun e W' => e = .returned (.bool true) ∧ Below W.heap.size W W' := by
  obtain ⟨hval, hA, hlt, hreach, hfree⟩ := h
  rw [Try.params4] at hA hval
  obtain ⟨v0, vs0, d0, ds0, p0, q0, hargs, rfl, rfl, h0, r0⟩ := trodAll_cons hA
  obtain ⟨v1, vs1, d1, ds1, p1, q1, rfl, rfl, rfl, h1, r1⟩ := trodAll_cons r0
  obtain ⟨rfl, rfl, rfl⟩ := trodAll_nil r1
  obtain rfl : args = #[v0, v1] := by cases args; simp_all
  obtain ⟨_, b0⟩ := hval 0 35 v0 rfl rfl
  obtain ⟨_, b1⟩ := hval 1 33 v1 rfl rfl
  obtain ⟨cs0, rfl, k0⟩ := open_val (ls := [3, 3, 3, 3, 3]) 4 (by kernel_rfl) (by kernel_rfl) b0 h0
  obtain ⟨cs1, rfl, k1⟩ := open_val (ls := [3, 3]) 4 (by kernel_rfl) (by kernel_rfl) b1 h1
  obtain ⟨e0, e1, e2, e3, e4, rfl, _⟩ := ints5 Try.underlying3 k0
  obtain ⟨f0, f1, rfl, _⟩ := ints2 Try.underlying3 k1
  exact walk ⟨e0, e1, e2, e3, e4⟩ f0 f1 W

set_option maxRecDepth 100000 in
theorem lifted (os : Os) (started : os.Started) (H : Type) (enc : TypeId × Value → H) :
    ReturnsInHanded {} Try.checked os 4 .any (Rows.screenCellsSpec.pre6 enc Try.prog Try.f4 [] false) (Rows.screenCellsSpec.post enc Try.prog Try.f4 false true false false) :=
  Lift.law (C := Try.checked) (tb := 4) (by kernel_rfl) started (by kernel_rfl) Try.func4
    (ChangeSpec.witness6 (enc := enc) (C := Try.checked) false ⟨#[], #[.agg #[.int .i64 0, .int .i64 0, .int .i64 0, .int .i64 0, .int .i64 0], .agg #[.int .i64 0, .int .i64 0]], []⟩ 8 (by kernel_rfl) (by kernel_rfl) (by kernel_rfl) (by kernel_rfl))
    rfl rfl Try.underlying4 (by kernel_rfl) (by kernel_rfl)
    (by intro ds hds; rw [Try.params4] at hds; simp only [List.length_cons, List.length_nil] at hds; match ds, hds with | [_, _], _ => rfl)
    (fun W args ds p h => walkA W args ds p h)

theorem over : Rows.screenCellsRow.holds Try.pinned (OpenSpec.ofChange Rows.screenCellsSpec) :=
  OpenClaim.holds_of_wide 4 Try.f4 rfl rfl rfl rfl rfl rfl rfl ⟨rfl, rfl, rfl, rfl, rfl⟩ rfl rfl rfl rfl rfl (by kernel_rfl) Try.func4 (by kernel_rfl)
    (of_decide_eq_true (by kernel_rfl)) (by unfold Func.isWrapper; first | (rw [if_pos (by decide +kernel)]; kernel_rfl) | (rw [if_neg (by decide +kernel)]; exact ⟨rfl, rfl⟩))
    (fun os started H enc _ => lifted os started H enc)

/-- THE STATEMENT -/
theorem proved : Rows.ScreenCellsSaid := over
#print axioms proved

end Go.Proofs.Ytclopfiochcocaa.Cells
