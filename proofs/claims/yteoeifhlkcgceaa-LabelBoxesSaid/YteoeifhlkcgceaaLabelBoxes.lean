/- skywaylaw4.LabelBoxes returns true at every input: Check and Box return what the reference returns. No condition. -/
import Derived.Test.YteoeifhlkcgceaaLabC
import Derived.Test.YteoeifhlkcgceaaLift
namespace Go.Proofs.Yteoeifhlkcgceaa
open Go.ChangeShapes Go.WideShapes Go.ChangeAt Go.RowKit

theorem box0 (w : World) : Calls Try.prog 6 #[.agg #[.int .i64 0, .int .i64 0, .int .i64 3, .int .i64 2], .int .i64 5] w fun e w' =>
      e = .returned (.tuple #[.agg #[.int .i64 (-3), .int .i64 (-1), .int .i64 3, .int .i64 2], .int .i64 0]) ∧ Below w.heap.size w w' :=
  boxF_ok ⟨0, 0, 3, 2⟩ (by simp [Item.fits, i64ok]) (by decide) 5 (by omega) w

theorem wf_i64 {n : Int} (h : (Lit.int .i64 n).wf = true) : i64ok n := by
  have := bounds_i64 h
  unfold i64ok
  omega

theorem held_step {w4 X w5 : World} {g1 g2 : Nat} {c1 c2 : Array Value} (z1 : g1 < w4.heap.size) (z2 : g2 < w4.heap.size) (h1 : ∀ i, X.cell? ⟨g1, i, none⟩ = c1[i]?) (h2 : ∀ i, X.cell? ⟨g2, i, none⟩ = c2[i]?) (hb : Below w4.heap.size w4 X) (hb5 : Below X.heap.size X w5) :
    (∀ i, w5.cell? ⟨g1, i, none⟩ = c1[i]?) ∧ (∀ i, w5.cell? ⟨g2, i, none⟩ = c2[i]?) ∧ Below w4.heap.size w4 w5 := by
  have hs := hb.size
  exact ⟨fun i => (hb5.cell (p := ⟨g1, i, none⟩) (Nat.lt_of_lt_of_le z1 hs)).trans (h1 i), fun i => (hb5.cell (p := ⟨g2, i, none⟩) (Nat.lt_of_lt_of_le z2 hs)).trans (h2 i), hb.trans (hb5.mono hs)⟩

set_option maxRecDepth 100000 in
set_option maxHeartbeats 2000000 in
theorem walk (a : Item) (hf : a.fits) (s : Int) (w : World) :
    Calls Try.prog 3 #[.agg #[.int .i64 a.x, .int .i64 a.y, .int .i64 a.w, .int .i64 a.h], .int .i64 s] w fun e w' => e = .returned (.bool true) ∧ Below w.heap.size w w' := by
  have Hf := Lib.hid hf
  clear hf
  go_enter Try.func3, Try.ntmps3
  go_wp2_with fail
  refine (box0 _).mono ?_
  rintro e w1 ⟨rfl, hb⟩
  have B1 : Hid (Below w.heap.size w w1) := Lib.hid (Below.trans (by (repeat' (first | (with_reducible exact Below.refl _ _) | (with_reducible assumption) | (with_reducible refine below_drewN ?_ _) | (with_reducible refine Below.drew ?_) | (with_reducible refine Below.alloc ?_ ?_ _) | (with_reducible refine Below.setCell ?_ ?_ _) | (with_reducible exact Nat.le_refl _) | omega | (simp; omega) | (simp; done)))) (hb.mono (by simp)))
  have k1 : Blk w1 w.heap.size 23 #[.int .i64 a.x, .int .i64 a.y, .int .i64 a.w, .int .i64 a.h] := Blk.below' (by (repeat' (first | (with_reducible assumption) | (with_reducible exact Blk.new _ _ _) | (refine Blk.new' _ _ _ ?_; (first | rfl | (simp; done) | (simp; omega)); done) | (with_reducible refine Blk.alloc ?_ _) | (with_reducible refine Blk.drew ?_) | (with_reducible refine Blk.drewN ?_ _)))) hb
  obtain ⟨hc, hf, hz⟩ := k1.rules
  clear hb
  by_cases hall : a.ok = true ∧ 0 ≤ s ∧ s < 8
  · obtain ⟨hok, hs0, hs8⟩ := hall
    obtain ⟨s, rfl⟩ := Int.eq_ofNat_of_zero_le hs0
    have Hok := Lib.hid hok
    simp only [Item.ok, Bool.and_eq_true, decide_eq_true_eq] at hok
    obtain ⟨⟨⟨⟨⟨⟨⟨x0, x1⟩, y0⟩, y1⟩, w0⟩, w1'⟩, h0⟩, h1⟩ := hok
    go_wp2_with fail
    refine (boxF_ok a Hf.out Hok.out s (by omega) _).mono ?_
    rintro e w2 ⟨rfl, hb⟩
    have B2 : Hid (Below w.heap.size w w2) := Lib.hid (Below.trans (by have := B1.out; (repeat' (first | (with_reducible exact Below.refl _ _) | (with_reducible assumption) | (with_reducible refine below_drewN ?_ _) | (with_reducible refine Below.drew ?_) | (with_reducible refine Below.alloc ?_ ?_ _) | (with_reducible refine Below.setCell ?_ ?_ _) | (with_reducible exact Nat.le_refl _) | omega | (simp; omega) | (simp; done)))) (hb.mono (by simp; omega)))
    replace k1 : Blk w2 w.heap.size 23 #[.int .i64 a.x, .int .i64 a.y, .int .i64 a.w, .int .i64 a.h] := Blk.below' (by (repeat' (first | (with_reducible assumption) | (with_reducible exact Blk.new _ _ _) | (refine Blk.new' _ _ _ ?_; (first | rfl | (simp; done) | (simp; omega)); done) | (with_reducible refine Blk.alloc ?_ _) | (with_reducible refine Blk.drew ?_) | (with_reducible refine Blk.drewN ?_ _)))) hb
    clear hb hc hf hz B1
    obtain ⟨hc, hf, hz⟩ := k1.rules
    go_wp2_with fail
    refine (labelError_one a _ _ (by simp) (by go_simp) (by go_simp) (by go_simp) (by go_simp)).mono ?_
    rw [if_pos Hok.out]
    rintro e w3 ⟨rfl, hb⟩
    have B3 : Hid (Below w.heap.size w w3) := Lib.hid (Below.trans (by have := B2.out; (repeat' (first | (with_reducible exact Below.refl _ _) | (with_reducible assumption) | (with_reducible refine below_drewN ?_ _) | (with_reducible refine Below.drew ?_) | (with_reducible refine Below.alloc ?_ ?_ _) | (with_reducible refine Below.setCell ?_ ?_ _) | (with_reducible exact Nat.le_refl _) | omega | (simp; omega) | (simp; done)))) (hb.mono (by simp; omega)))
    replace k1 : Blk w3 w.heap.size 23 #[.int .i64 a.x, .int .i64 a.y, .int .i64 a.w, .int .i64 a.h] := Blk.below' (by (repeat' (first | (with_reducible assumption) | (with_reducible exact Blk.new _ _ _) | (refine Blk.new' _ _ _ ?_; (first | rfl | (simp; done) | (simp; omega)); done) | (with_reducible refine Blk.alloc ?_ _) | (with_reducible refine Blk.drew ?_) | (with_reducible refine Blk.drewN ?_ _)))) hb
    have k2 : Blk w3 w2.heap.size 24 #[.int .i64 (boxX a.x a.w s), .int .i64 (boxY a.y a.h s), .int .i64 a.w, .int .i64 a.h] := Blk.below' (by (repeat' (first | (with_reducible assumption) | (with_reducible exact Blk.new _ _ _) | (refine Blk.new' _ _ _ ?_; (first | rfl | (simp; done) | (simp; omega)); done) | (with_reducible refine Blk.alloc ?_ _) | (with_reducible refine Blk.drew ?_) | (with_reducible refine Blk.drewN ?_ _)))) hb
    clear hb hc hf hz B2
    obtain ⟨hc, hf, hz⟩ := k1.rules
    go_wp2_with fail
    refine (check_one a Hf.out _ _ (by simp) (by go_simp) (by go_simp) (by go_simp) (by go_simp)).mono ?_
    rw [if_pos Hok.out]
    rintro e w4 ⟨rfl, hb⟩
    have B4 : Hid (Below w.heap.size w w4) := Lib.hid (Below.trans (by have := B3.out; (repeat' (first | (with_reducible exact Below.refl _ _) | (with_reducible assumption) | (with_reducible refine below_drewN ?_ _) | (with_reducible refine Below.drew ?_) | (with_reducible refine Below.alloc ?_ ?_ _) | (with_reducible refine Below.setCell ?_ ?_ _) | (with_reducible exact Nat.le_refl _) | omega | (simp; omega) | (simp; done)))) (hb.mono (by simp; omega)))
    replace k1 : Blk w4 w.heap.size 23 #[.int .i64 a.x, .int .i64 a.y, .int .i64 a.w, .int .i64 a.h] := Blk.below' (by (repeat' (first | (with_reducible assumption) | (with_reducible exact Blk.new _ _ _) | (refine Blk.new' _ _ _ ?_; (first | rfl | (simp; done) | (simp; omega)); done) | (with_reducible refine Blk.alloc ?_ _) | (with_reducible refine Blk.drew ?_) | (with_reducible refine Blk.drewN ?_ _)))) hb
    replace k2 : Blk w4 w2.heap.size 24 #[.int .i64 (boxX a.x a.w s), .int .i64 (boxY a.y a.h s), .int .i64 a.w, .int .i64 a.h] := Blk.below' (by (repeat' (first | (with_reducible assumption) | (with_reducible exact Blk.new _ _ _) | (refine Blk.new' _ _ _ ?_; (first | rfl | (simp; done) | (simp; omega)); done) | (with_reducible refine Blk.alloc ?_ _) | (with_reducible refine Blk.drew ?_) | (with_reducible refine Blk.drewN ?_ _)))) hb
    clear hb hc hf hz B3
    obtain ⟨hc, hf, hz⟩ := k1.rules
    obtain ⟨hc2, hf2, hz2⟩ := k2.rules
    go_wp2_with (go_at_call 9; refine (in4_yes _ _ _ (by omega) _).mono ?_; rintro e w' ⟨rfl, rfl⟩)
    have L := labelBox_any a.x a.y a.w a.h s ⟨x0, x1⟩ ⟨y0, y1⟩ ⟨w0, w1'⟩ ⟨h0, h1⟩ (by omega)
    have HL := Lib.hid L
    have HB := Lib.hid (show ∀ w5 : World, Below w4.heap.size w4 w5 → Below w.heap.size w w5 from fun w5 h => B4.out.trans (h.mono (by omega)))
    clear L
    go_region_held3 (fun w' => (∀ i, w'.cell? ⟨w.heap.size, i, none⟩ = #[.int .i64 a.x, .int .i64 a.y, .int .i64 a.w, .int .i64 a.h][i]?) ∧ (∀ i, w'.cell? ⟨w2.heap.size, i, none⟩ = #[.int .i64 (boxX a.x a.w s), .int .i64 (boxY a.y a.h s), .int .i64 a.w, .int .i64 a.h][i]?) ∧ Below w4.heap.size w4 w')
      (first | exact ⟨hc, hc2, (Below.refl _ _).drew⟩ | exact held_step (X := w4.drew) hz hz2 hc hc2 (Below.refl _ _).drew hb5) (first | (go_at_call 10; refine (HL.out _).mono ?_; rintro e w5 ⟨rfl, hb5⟩))
    go_wp2
    go_returns
    exact ⟨rfl, HB.out _ ((Below.refl _ _).drew.trans hb5)⟩
  · have HA := Lib.hid hall
    clear hall
    go_wp2_with fail
    have hN := boxF_no a Hf.out s HA.out
    by_cases hok : a.ok = true
    · have hs : ¬ (0 ≤ s ∧ s ≤ 7) := by have := HA.out; simp only [hok, true_and] at this; omega
      simp only [if_pos hok] at hN
      have HN := Lib.hid hN
      have Hok := Lib.hid hok
      clear hN hok
      refine (HN.out _).mono ?_
      rintro e w2 ⟨rfl, hb⟩
      have B2 : Hid (Below w.heap.size w w2) := Lib.hid (Below.trans (by have := B1.out; (repeat' (first | (with_reducible exact Below.refl _ _) | (with_reducible assumption) | (with_reducible refine below_drewN ?_ _) | (with_reducible refine Below.drew ?_) | (with_reducible refine Below.alloc ?_ ?_ _) | (with_reducible refine Below.setCell ?_ ?_ _) | (with_reducible exact Nat.le_refl _) | omega | (simp; omega) | (simp; done)))) (hb.mono (by simp; omega)))
      replace k1 : Blk w2 w.heap.size 23 #[.int .i64 a.x, .int .i64 a.y, .int .i64 a.w, .int .i64 a.h] := Blk.below' (by (repeat' (first | (with_reducible assumption) | (with_reducible exact Blk.new _ _ _) | (refine Blk.new' _ _ _ ?_; (first | rfl | (simp; done) | (simp; omega)); done) | (with_reducible refine Blk.alloc ?_ _) | (with_reducible refine Blk.drew ?_) | (with_reducible refine Blk.drewN ?_ _)))) hb
      clear hb hc hf hz B1
      obtain ⟨hc, hf, hz⟩ := k1.rules
      go_wp2_with fail
      refine (labelError_one a _ _ (by simp) (by go_simp) (by go_simp) (by go_simp) (by go_simp)).mono ?_
      rw [if_pos Hok.out]
      rintro e w3 ⟨rfl, hb⟩
      have B3 : Hid (Below w.heap.size w w3) := Lib.hid (Below.trans (by have := B2.out; (repeat' (first | (with_reducible exact Below.refl _ _) | (with_reducible assumption) | (with_reducible refine below_drewN ?_ _) | (with_reducible refine Below.drew ?_) | (with_reducible refine Below.alloc ?_ ?_ _) | (with_reducible refine Below.setCell ?_ ?_ _) | (with_reducible exact Nat.le_refl _) | omega | (simp; omega) | (simp; done)))) (hb.mono (by simp; omega)))
      replace k1 : Blk w3 w.heap.size 23 #[.int .i64 a.x, .int .i64 a.y, .int .i64 a.w, .int .i64 a.h] := Blk.below' (by (repeat' (first | (with_reducible assumption) | (with_reducible exact Blk.new _ _ _) | (refine Blk.new' _ _ _ ?_; (first | rfl | (simp; done) | (simp; omega)); done) | (with_reducible refine Blk.alloc ?_ _) | (with_reducible refine Blk.drew ?_) | (with_reducible refine Blk.drewN ?_ _)))) hb
      have k2 : Blk w3 w2.heap.size 24 #[.int .i64 0, .int .i64 0, .int .i64 0, .int .i64 0] := Blk.below' (by (repeat' (first | (with_reducible assumption) | (with_reducible exact Blk.new _ _ _) | (refine Blk.new' _ _ _ ?_; (first | rfl | (simp; done) | (simp; omega)); done) | (with_reducible refine Blk.alloc ?_ _) | (with_reducible refine Blk.drew ?_) | (with_reducible refine Blk.drewN ?_ _)))) hb
      clear hb hc hf hz B2
      obtain ⟨hc, hf, hz⟩ := k1.rules
      go_wp2_with fail
      refine (check_one a Hf.out _ _ (by simp) (by go_simp) (by go_simp) (by go_simp) (by go_simp)).mono ?_
      rw [if_pos Hok.out]
      rintro e w4 ⟨rfl, hb⟩
      have B4 : Hid (Below w.heap.size w w4) := Lib.hid (Below.trans (by have := B3.out; (repeat' (first | (with_reducible exact Below.refl _ _) | (with_reducible assumption) | (with_reducible refine below_drewN ?_ _) | (with_reducible refine Below.drew ?_) | (with_reducible refine Below.alloc ?_ ?_ _) | (with_reducible refine Below.setCell ?_ ?_ _) | (with_reducible exact Nat.le_refl _) | omega | (simp; omega) | (simp; done)))) (hb.mono (by simp; omega)))
      replace k2 : Blk w4 w2.heap.size 24 #[.int .i64 0, .int .i64 0, .int .i64 0, .int .i64 0] := Blk.below' (by (repeat' (first | (with_reducible assumption) | (with_reducible exact Blk.new _ _ _) | (refine Blk.new' _ _ _ ?_; (first | rfl | (simp; done) | (simp; omega)); done) | (with_reducible refine Blk.alloc ?_ _) | (with_reducible refine Blk.drew ?_) | (with_reducible refine Blk.drewN ?_ _)))) hb
      clear hb hc hf hz B3
      obtain ⟨hc2, hf2, hz2⟩ := k2.rules
      go_wp2_with (go_at_call 9; refine (in4_no _ _ _ hs _).mono ?_; rintro e w' ⟨rfl, rfl⟩)
      go_returns
      exact ⟨rfl, by have := B4.out; (repeat' (first | (with_reducible exact Below.refl _ _) | (with_reducible assumption) | (with_reducible refine below_drewN ?_ _) | (with_reducible refine Below.drew ?_) | (with_reducible refine Below.alloc ?_ ?_ _) | (with_reducible refine Below.setCell ?_ ?_ _) | (with_reducible exact Nat.le_refl _) | omega | (simp; omega) | (simp; done)))⟩
    · simp only [if_neg hok] at hN
      have HN := Lib.hid hN
      have Hok := Lib.hid hok
      clear hN hok
      refine (HN.out _).mono ?_
      rintro e w2 ⟨rfl, hb⟩
      have B2 : Hid (Below w.heap.size w w2) := Lib.hid (Below.trans (by have := B1.out; (repeat' (first | (with_reducible exact Below.refl _ _) | (with_reducible assumption) | (with_reducible refine below_drewN ?_ _) | (with_reducible refine Below.drew ?_) | (with_reducible refine Below.alloc ?_ ?_ _) | (with_reducible refine Below.setCell ?_ ?_ _) | (with_reducible exact Nat.le_refl _) | omega | (simp; omega) | (simp; done)))) (hb.mono (by simp; omega)))
      replace k1 : Blk w2 w.heap.size 23 #[.int .i64 a.x, .int .i64 a.y, .int .i64 a.w, .int .i64 a.h] := Blk.below' (by (repeat' (first | (with_reducible assumption) | (with_reducible exact Blk.new _ _ _) | (refine Blk.new' _ _ _ ?_; (first | rfl | (simp; done) | (simp; omega)); done) | (with_reducible refine Blk.alloc ?_ _) | (with_reducible refine Blk.drew ?_) | (with_reducible refine Blk.drewN ?_ _)))) hb
      clear hb hc hf hz B1
      obtain ⟨hc, hf, hz⟩ := k1.rules
      go_wp2_with fail
      refine (labelError_one a _ _ (by simp) (by go_simp) (by go_simp) (by go_simp) (by go_simp)).mono ?_
      rw [if_neg Hok.out]
      rintro e w3 ⟨rfl, hb⟩
      have B3 : Hid (Below w.heap.size w w3) := Lib.hid (Below.trans (by have := B2.out; (repeat' (first | (with_reducible exact Below.refl _ _) | (with_reducible assumption) | (with_reducible refine below_drewN ?_ _) | (with_reducible refine Below.drew ?_) | (with_reducible refine Below.alloc ?_ ?_ _) | (with_reducible refine Below.setCell ?_ ?_ _) | (with_reducible exact Nat.le_refl _) | omega | (simp; omega) | (simp; done)))) (hb.mono (by simp; omega)))
      replace k1 : Blk w3 w.heap.size 23 #[.int .i64 a.x, .int .i64 a.y, .int .i64 a.w, .int .i64 a.h] := Blk.below' (by (repeat' (first | (with_reducible assumption) | (with_reducible exact Blk.new _ _ _) | (refine Blk.new' _ _ _ ?_; (first | rfl | (simp; done) | (simp; omega)); done) | (with_reducible refine Blk.alloc ?_ _) | (with_reducible refine Blk.drew ?_) | (with_reducible refine Blk.drewN ?_ _)))) hb
      have k2 : Blk w3 w2.heap.size 24 #[.int .i64 0, .int .i64 0, .int .i64 0, .int .i64 0] := Blk.below' (by (repeat' (first | (with_reducible assumption) | (with_reducible exact Blk.new _ _ _) | (refine Blk.new' _ _ _ ?_; (first | rfl | (simp; done) | (simp; omega)); done) | (with_reducible refine Blk.alloc ?_ _) | (with_reducible refine Blk.drew ?_) | (with_reducible refine Blk.drewN ?_ _)))) hb
      clear hb hc hf hz B2
      obtain ⟨hc, hf, hz⟩ := k1.rules
      go_wp2_with fail
      refine (check_one a Hf.out _ _ (by simp) (by go_simp) (by go_simp) (by go_simp) (by go_simp)).mono ?_
      rw [if_neg Hok.out]
      rintro e w4 ⟨rfl, hb⟩
      have B4 : Hid (Below w.heap.size w w4) := Lib.hid (Below.trans (by have := B3.out; (repeat' (first | (with_reducible exact Below.refl _ _) | (with_reducible assumption) | (with_reducible refine below_drewN ?_ _) | (with_reducible refine Below.drew ?_) | (with_reducible refine Below.alloc ?_ ?_ _) | (with_reducible refine Below.setCell ?_ ?_ _) | (with_reducible exact Nat.le_refl _) | omega | (simp; omega) | (simp; done)))) (hb.mono (by simp; omega)))
      replace k2 : Blk w4 w2.heap.size 24 #[.int .i64 0, .int .i64 0, .int .i64 0, .int .i64 0] := Blk.below' (by (repeat' (first | (with_reducible assumption) | (with_reducible exact Blk.new _ _ _) | (refine Blk.new' _ _ _ ?_; (first | rfl | (simp; done) | (simp; omega)); done) | (with_reducible refine Blk.alloc ?_ _) | (with_reducible refine Blk.drew ?_) | (with_reducible refine Blk.drewN ?_ _)))) hb
      clear hb hc hf hz B3
      obtain ⟨hc2, hf2, hz2⟩ := k2.rules
      go_wp2
      go_returns
      exact ⟨rfl, by have := B4.out; (repeat' (first | (with_reducible exact Below.refl _ _) | (with_reducible assumption) | (with_reducible refine below_drewN ?_ _) | (with_reducible refine Below.drew ?_) | (with_reducible refine Below.alloc ?_ ?_ _) | (with_reducible refine Below.setCell ?_ ?_ _) | (with_reducible exact Nat.le_refl _) | omega | (simp; omega) | (simp; done)))⟩

theorem walkA {H : Type} {enc : TypeId × Value → H} (W : World) (args : Array Value) (ds : List (DataW H)) (p : List MemPlace) (h : Lift.Args enc Try.prog Try.f3 W args ds p) :
    Calls Try.prog 3 args W fun e W' => e = .returned (.bool true) ∧ Below W.heap.size W W' := by
  obtain ⟨hval, hA, _, _, _⟩ := h
  rw [Try.params3] at hA hval
  obtain ⟨v0, vs0, d0, ds0, p0, q0, hargs, rfl, rfl, h0, r0⟩ := trodAll_cons hA
  obtain ⟨v1, vs1, d1, ds1, p1, q1, rfl, rfl, rfl, h1, r1⟩ := trodAll_cons r0
  obtain ⟨rfl, rfl, rfl⟩ := trodAll_nil r1
  obtain rfl : args = #[v0, v1] := by cases args; simp_all
  obtain ⟨_, b0⟩ := hval 0 23 v0 rfl rfl
  obtain ⟨_, b1⟩ := hval 1 3 v1 rfl rfl
  obtain ⟨c0, c1, c2, c3, y0, y1, y2, y3, m, rfl, rfl, rfl, hy0, hy1, hy2, hy3⟩ := Joins.open_agg4 Try.underlying23 (by kernel_rfl) (by kernel_rfl) b0 h0
  obtain ⟨k0, e0, _, f0⟩ := DataW.trod_int Try.underlying3 hy0
  obtain ⟨k1, e1, _, f1⟩ := DataW.trod_int Try.underlying3 hy1
  obtain ⟨k2, e2, _, f2⟩ := DataW.trod_int Try.underlying3 hy2
  obtain ⟨k3, e3, _, f3⟩ := DataW.trod_int Try.underlying3 hy3
  simp at e0 e1 e2 e3
  subst e0 e1 e2 e3
  obtain ⟨a1, rfl, rfl, rfl, w1⟩ := open_int Try.underlying3 b1 h1
  exact walk ⟨k0, k1, k2, k3⟩ ⟨wf_i64 f0, wf_i64 f1, wf_i64 f2, wf_i64 f3⟩ a1 W


set_option maxRecDepth 100000 in
theorem lifted (os : Os) (started : os.Started) (H : Type) (enc : TypeId × Value → H) :
    ReturnsInHanded {} Try.checked os 3 .any (Rows.labelBoxesSpec.pre6 enc Try.prog Try.f3 [] false) (Rows.labelBoxesSpec.post enc Try.prog Try.f3 false true false false) :=
  Lift.law (C := Try.checked) (tb := 4) (by kernel_rfl) started (by kernel_rfl) Try.func3
    (ChangeSpec.witness6 (enc := enc) (C := Try.checked) false ⟨#[], #[.agg #[.int .i64 0, .int .i64 0, .int .i64 0, .int .i64 0], .int .i64 0], []⟩ 8 (by kernel_rfl) (by kernel_rfl) (by kernel_rfl) (by kernel_rfl))
    rfl rfl Try.underlying4 (by kernel_rfl) (by kernel_rfl)
    (by intro ds hds; rw [Try.params3] at hds; simp only [List.length_cons, List.length_nil] at hds; match ds, hds with | [_, _], _ => rfl)
    (fun W args ds p h => walkA W args ds p h)

theorem over : Rows.labelBoxesRow.holds Try.pinned (OpenSpec.ofChange Rows.labelBoxesSpec) :=
  OpenClaim.holds_of_wide 3 Try.f3 rfl rfl rfl rfl rfl rfl rfl ⟨rfl, rfl, rfl, rfl, rfl⟩ rfl rfl rfl rfl rfl (by kernel_rfl) Try.func3 (by kernel_rfl)
    (of_decide_eq_true (by kernel_rfl)) (by unfold Func.isWrapper; first | (rw [if_pos (by decide +kernel)]; kernel_rfl) | (rw [if_neg (by decide +kernel)]; exact ⟨rfl, rfl⟩))
    (fun os started H enc _ => lifted os started H enc)

/-- THE STATEMENT -/
theorem proved : Rows.LabelBoxesSaid := over
#print axioms proved

end Go.Proofs.Yteoeifhlkcgceaa
