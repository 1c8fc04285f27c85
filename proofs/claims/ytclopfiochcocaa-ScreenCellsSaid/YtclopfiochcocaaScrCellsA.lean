/- Part of a claim: lemmas on the way to its theorem; each states its own conditions. -/
import Derived.Test.YtclopfiochcocaaScrA
namespace Go.Proofs.Ytclopfiochcocaa.Cells
open Go.ChangeShapes Go.WideShapes Go.ChangeAt Go.RowKit

def pOk (x y : Int) : Prop := (-1000000 ≤ x ∧ x ≤ 1000000) ∧ (-1000000 ≤ y ∧ y ≤ 1000000)

set_option maxRecDepth 100000 in
set_option maxHeartbeats 2000000 in
theorem cellF_ok (v : View) (h : v.ok) (x y : Int) (hp : pOk x y) (w : World) :
    Calls Try.prog 10 #[v.agg, .agg #[.int .i64 x, .int .i64 y]] w fun e w' =>
      e = .returned (.tuple #[.agg #[.int .i64 (cellOf x v.x v.s v.w), .int .i64 (cellOf y v.y v.s v.h)], .bool (visB v (cellOf x v.x v.s v.w) (cellOf y v.y v.s v.h)), .int .i64 0]) ∧ Below w.heap.size w w' := by
  have H := Lib.hid h
  have HP := Lib.hid hp
  clear h hp
  go_enter Try.func10, Try.ntmps10
  unfold View.agg
  go_wp2_with fail
  refine (screenCheck_yes v H.out _).mono ?_
  rintro e w1 ⟨rfl, rfl⟩
  go_wp2_with fail
  refine (planeCheck_yes x y HP.out.1 HP.out.2 _).mono ?_
  rintro e w1 ⟨rfl, rfl⟩
  go_wp2_with fail
  refine (cell_any v H.out x y HP.out.1 HP.out.2 _).mono ?_
  rintro e w1 ⟨rfl, hb⟩
  have B1 : Hid (Below w.heap.size w w1) := Lib.hid (Below.trans (by (repeat' (first | (with_reducible exact Below.refl _ _) | (with_reducible assumption) | (with_reducible refine below_drewN ?_ _) | (with_reducible refine Below.drew ?_) | (with_reducible refine Below.alloc ?_ ?_ _) | (with_reducible refine Below.setCell ?_ ?_ _) | (with_reducible exact Nat.le_refl _) | omega | (simp; omega) | (simp; done)))) (hb.mono (by simp; omega)))
  have k1 : Blk w1 w.heap.size 35 #[.int .i64 v.x, .int .i64 v.y, .int .i64 v.s, .int .i64 v.w, .int .i64 v.h] := Blk.below' (by (repeat' (first | (with_reducible assumption) | (with_reducible exact Blk.new _ _ _) | (refine Blk.new' _ _ _ ?_; (first | rfl | (simp; done) | (simp; omega)); done) | (with_reducible refine Blk.alloc ?_ _) | (with_reducible refine Blk.drew ?_) | (with_reducible refine Blk.drewN ?_ _)))) hb
  have k3 : Blk w1 (w.heap.size + 1 + 1) 23 #[.int .i64 0, .int .i64 0] := Blk.below' (by (repeat' (first | (with_reducible assumption) | (with_reducible exact Blk.new _ _ _) | (refine Blk.new' _ _ _ ?_; (first | rfl | (simp; done) | (simp; omega)); done) | (with_reducible refine Blk.alloc ?_ _) | (with_reducible refine Blk.drew ?_) | (with_reducible refine Blk.drewN ?_ _)))) hb
  obtain ⟨hc, hf, hz⟩ := k1.rules
  obtain ⟨hc2, hf2, hz2⟩ := k3.rules
  generalize hcx : cellOf x v.x v.s v.w = cx at *
  generalize hcy : cellOf y v.y v.s v.h = cy at *
  have Hcx := Lib.hid hcx
  have Hcy := Lib.hid hcy
  clear hcx hcy
  clear hb
  have k4 : Blk (w1.alloc (.cells #[.int .i64 cx, .int .i64 cy] 23)) w1.heap.size 23 #[.int .i64 cx, .int .i64 cy] := by (repeat' (first | (with_reducible assumption) | (with_reducible exact Blk.new _ _ _) | (refine Blk.new' _ _ _ ?_; (first | rfl | (simp; done) | (simp; omega)); done) | (with_reducible refine Blk.alloc ?_ _) | (with_reducible refine Blk.drew ?_) | (with_reducible refine Blk.drewN ?_ _)))
  have k1' := k1.alloc (.cells #[.int .i64 cx, .int .i64 cy] 23)
  have k3' := k3.alloc (.cells #[.int .i64 cx, .int .i64 cy] 23)
  have B2 : Hid (Below w.heap.size w (w1.alloc (.cells #[.int .i64 cx, .int .i64 cy] 23))) := Lib.hid (by have := B1.out; (repeat' (first | (with_reducible exact Below.refl _ _) | (with_reducible assumption) | (with_reducible refine below_drewN ?_ _) | (with_reducible refine Below.drew ?_) | (with_reducible refine Below.alloc ?_ ?_ _) | (with_reducible refine Below.setCell ?_ ?_ _) | (with_reducible exact Nat.le_refl _) | omega | (simp; omega) | (simp; done))))
  go_wp2_with fail
  clear hc hf hz hc2 hf2 hz2 k1 k3 B1
  generalize w1.alloc (.cells #[.int .i64 cx, .int .i64 cy] 23) = W at *
  obtain ⟨hc, hf, hz⟩ := k1'.rules
  obtain ⟨hc2, hf2, hz2⟩ := k3'.rules
  obtain ⟨hc4, hf4, hz4⟩ := k4.rules
  have HV := Lib.hid (visible_any v cx cy)
  generalize hbv : visB v cx cy = bv at *
  have Hbv := Lib.hid hbv
  clear hbv
  have HV2 : Hid (∀ X : World, X.heap = W.heap → Calls Try.prog 23 #[v.agg, .agg #[.int .i64 cx, .int .i64 cy]] X fun e w' => e = .returned (.bool bv) ∧ (∀ i, w'.cell? ⟨w1.heap.size, i, none⟩ = #[.int .i64 cx, .int .i64 cy][i]?) ∧ (∀ i, w'.cell? ⟨w.heap.size + 1 + 1, i, none⟩ = #[.int .i64 0, .int .i64 0][i]?) ∧ (∀ i, w'.frozen? ⟨w.heap.size + 1 + 1, i, none⟩ = false) ∧ Blk w' (w.heap.size + 1 + 1) 23 #[.int .i64 0, .int .i64 0] ∧ Below X.heap.size X w') :=
    Lib.hid fun X hX => (HV.out X).mono fun e w' ⟨he, hw⟩ => by
      subst hw
      have j3 : Blk X (w.heap.size + 1 + 1) 23 #[.int .i64 0, .int .i64 0] := by unfold Blk; rw [hX]; exact k3'
      have j4 : Blk X w1.heap.size 23 #[.int .i64 cx, .int .i64 cy] := by unfold Blk; rw [hX]; exact k4
      have j3' := (j3.alloc (.cells #[.int .i64 v.x, .int .i64 v.y, .int .i64 v.s, .int .i64 v.w, .int .i64 v.h] 35)).alloc (.cells #[.int .i64 (cx), .int .i64 (cy)] 23)
      have j4' := (j4.alloc (.cells #[.int .i64 v.x, .int .i64 v.y, .int .i64 v.s, .int .i64 v.w, .int .i64 v.h] 35)).alloc (.cells #[.int .i64 (cx), .int .i64 (cy)] 23)
      exact ⟨he, j4'.cell, j3'.cell, j3'.frozen, j3', by (repeat' (first | (with_reducible exact Below.refl _ _) | (with_reducible assumption) | (with_reducible refine below_drewN ?_ _) | (with_reducible refine Below.drew ?_) | (with_reducible refine Below.alloc ?_ ?_ _) | (with_reducible refine Below.setCell ?_ ?_ _) | (with_reducible exact Nat.le_refl _) | omega | (simp; omega) | (simp; done)))⟩
  go_region_with (go_at_call 23; refine (HV2.out _ (by rfl)).mono ?_; rintro e w5 ⟨rfl, m1, m2, m3, m4, m5⟩)
  all_goals
    have q := ((m4.set_ 0 (.int .i64 cx)).set_ 1 (.int .i64 cy)).cell
    have Q := Lib.hid q
    have m6 := m4.lt
    have M5 : Hid (Below w.heap.size w w5) := Lib.hid (B2.out.trans ((Below.drew (Below.refl _ _)).trans (m5.mono B2.out.size)))
    clear q m4 m5
    go_wp2
    refine bodyPost_ret (v := .tuple #[.agg #[.int .i64 cx, .int .i64 cy], .bool bv, .int .i64 0]) (by simp [results, Try.results10, go_sem, Q.out]) rfl ⟨by rw [Hcx.out, Hcy.out, Hbv.out], ?_⟩
    have := M5.out
    (repeat' (first | (with_reducible exact Below.refl _ _) | (with_reducible assumption) | (with_reducible refine below_drewN ?_ _) | (with_reducible refine Below.drew ?_) | (with_reducible refine Below.alloc ?_ ?_ _) | (with_reducible refine Below.setCell ?_ ?_ _) | (with_reducible exact Nat.le_refl _) | omega | (simp; omega) | (simp; done)))

set_option maxRecDepth 100000 in
set_option maxHeartbeats 2000000 in
theorem cellF_no (v : View) (x y : Int) (h : ¬ (v.ok ∧ pOk x y)) (w : World) :
    Calls Try.prog 10 #[v.agg, .agg #[.int .i64 x, .int .i64 y]] w fun e w' =>
      e = .returned (.tuple #[.agg #[.int .i64 0, .int .i64 0], .bool false, .int .i64 4]) ∧ Below w.heap.size w w' := by
  have H := Lib.hid h
  clear h
  by_cases hv : v.ok
  · have HP : Hid (¬ pOk x y) := Lib.hid fun hp => H.out ⟨hv, hp⟩
    have HV := Lib.hid hv
    clear hv
    go_enter Try.func10, Try.ntmps10
    unfold View.agg
    go_wp2_with fail
    refine (screenCheck_yes v HV.out _).mono ?_
    rintro e w1 ⟨rfl, rfl⟩
    go_wp2_with fail
    refine (planeCheck_no x y HP.out _).mono ?_
    rintro e w1 ⟨rfl, rfl⟩
    go_wp2
    go_returns
    exact ⟨rfl, by (repeat' (first | (with_reducible exact Below.refl _ _) | (with_reducible assumption) | (with_reducible refine below_drewN ?_ _) | (with_reducible refine Below.drew ?_) | (with_reducible refine Below.alloc ?_ ?_ _) | (with_reducible refine Below.setCell ?_ ?_ _) | (with_reducible exact Nat.le_refl _) | omega | (simp; omega) | (simp; done)))⟩
  · have HV := Lib.hid hv
    clear hv
    go_enter Try.func10, Try.ntmps10
    unfold View.agg
    go_wp2_with fail
    refine (screenCheck_no v HV.out _).mono ?_
    rintro e w1 ⟨rfl, rfl⟩
    go_wp2
    go_returns
    exact ⟨rfl, by (repeat' (first | (with_reducible exact Below.refl _ _) | (with_reducible assumption) | (with_reducible refine below_drewN ?_ _) | (with_reducible refine Below.drew ?_) | (with_reducible refine Below.alloc ?_ ?_ _) | (with_reducible refine Below.setCell ?_ ?_ _) | (with_reducible exact Nat.le_refl _) | omega | (simp; omega) | (simp; done)))⟩
end Go.Proofs.Ytclopfiochcocaa.Cells
