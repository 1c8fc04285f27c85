/- Part of a claim: lemmas on the way to its theorem; each states its own conditions. -/
import Derived.Test.YteoeifhlkcgceaaLabB
namespace Go.Proofs.Yteoeifhlkcgceaa
open Go.ChangeShapes Go.WideShapes Go.ChangeAt Go.RowKit

theorem check_one (a : Item) (hf : a.fits) (b : Nat) (w : World) (hb : b < w.heap.size) (h0 : w.cell? ⟨b, 0, none⟩ = some (.int .i64 a.x)) (h1 : w.cell? ⟨b, 1, none⟩ = some (.int .i64 a.y)) (h2 : w.cell? ⟨b, 2, none⟩ = some (.int .i64 a.w)) (h3 : w.cell? ⟨b, 3, none⟩ = some (.int .i64 a.h)) :
    Calls Try.prog 8 #[.slice (some ⟨b, 0, none⟩) 1 1] w fun e w' => e = .returned (.int .i64 (if a.ok then 0 else 4)) ∧ Below w.heap.size w w' := by
  have := check_any (some ⟨b, 0, none⟩) 1 1 [a] w (reads_one hb (cells4 h0 h1 h2 h3)) rfl (by omega) (by simpa using hf)
  simpa [chk] using this
theorem labelError_one (a : Item) (b : Nat) (w : World) (hb : b < w.heap.size) (h0 : w.cell? ⟨b, 0, none⟩ = some (.int .i64 a.x)) (h1 : w.cell? ⟨b, 1, none⟩ = some (.int .i64 a.y)) (h2 : w.cell? ⟨b, 2, none⟩ = some (.int .i64 a.w)) (h3 : w.cell? ⟨b, 3, none⟩ = some (.int .i64 a.h)) :
    Calls Try.prog 7 #[.slice (some ⟨b, 0, none⟩) 1 1] w fun e w' => e = .returned (.int .i64 (if a.ok then 0 else 4)) ∧ Below w.heap.size w w' := by
  have := labelError_any (some ⟨b, 0, none⟩) 1 1 [a] w (reads_one hb (cells4 h0 h1 h2 h3)) rfl (by omega)
  simpa [chk] using this

set_option maxRecDepth 100000 in
set_option maxHeartbeats 2000000 in
theorem boxF_ok (a : Item) (hf : a.fits) (hok : a.ok = true) (s : Nat) (hs : s < 8) (w : World) :
    Calls Try.prog 6 #[.agg #[.int .i64 a.x, .int .i64 a.y, .int .i64 a.w, .int .i64 a.h], .int .i64 s] w fun e w' =>
      e = .returned (.tuple #[.agg #[.int .i64 (boxX a.x a.w s), .int .i64 (boxY a.y a.h s), .int .i64 a.w, .int .i64 a.h], .int .i64 0]) ∧ Below w.heap.size w w' := by
  have Hok := Lib.hid hok
  simp only [Item.ok, Bool.and_eq_true, decide_eq_true_eq] at hok
  obtain ⟨⟨⟨⟨⟨⟨⟨x0, x1⟩, y0⟩, y1⟩, w0⟩, w1'⟩, h0⟩, h1⟩ := hok
  have Hf := Lib.hid hf
  clear hf
  go_enter Try.func6, Try.ntmps6
  go_wp2_with fail
  refine (check_one a Hf.out _ _ (by simp) (by go_simp) (by go_simp) (by go_simp) (by go_simp)).mono ?_
  rw [if_pos Hok.out]
  rintro e w1 ⟨rfl, hb⟩
  have B1 : Hid (Below w.heap.size w w1) := Lib.hid (Below.trans (by (repeat' (first | (with_reducible exact Below.refl _ _) | (with_reducible assumption) | (with_reducible refine below_drewN ?_ _) | (with_reducible refine Below.drew ?_) | (with_reducible refine Below.alloc ?_ ?_ _) | (with_reducible refine Below.setCell ?_ ?_ _) | (with_reducible exact Nat.le_refl _) | omega | (simp; omega) | (simp; done)))) (hb.mono (by simp; omega)))
  have k1 : Blk w1 w.heap.size 23 #[.int .i64 a.x, .int .i64 a.y, .int .i64 a.w, .int .i64 a.h] := Blk.below' (by (repeat' (first | (with_reducible assumption) | (with_reducible exact Blk.new _ _ _) | (refine Blk.new' _ _ _ ?_; (first | rfl | (simp; done) | (simp; omega)); done) | (with_reducible refine Blk.alloc ?_ _) | (with_reducible refine Blk.drew ?_) | (with_reducible refine Blk.drewN ?_ _)))) hb
  have k2 : Blk w1 (w.heap.size + 1) 24 #[.int .i64 0, .int .i64 0, .int .i64 0, .int .i64 0] := Blk.below' (by (repeat' (first | (with_reducible assumption) | (with_reducible exact Blk.new _ _ _) | (refine Blk.new' _ _ _ ?_; (first | rfl | (simp; done) | (simp; omega)); done) | (with_reducible refine Blk.alloc ?_ _) | (with_reducible refine Blk.drew ?_) | (with_reducible refine Blk.drewN ?_ _)))) hb
  obtain ⟨hc, hf, hz⟩ := k1.rules
  clear hb
  go_wp2_with fail
  refine (box_any a.x a.y a.w a.h s ⟨x0, x1⟩ ⟨y0, y1⟩ ⟨w0, w1'⟩ ⟨h0, h1⟩ hs w1).mono ?_
  rintro e w2 ⟨rfl, hb2⟩
  have B2 : Hid (Below w.heap.size w w2) := Lib.hid (B1.out.trans (hb2.mono (by omega)))
  replace k2 := k2.below' hb2
  clear hc hf hz hb2 k1 B1
  obtain ⟨hc, hf, hz⟩ := k2.rules
  have k3 := (((k2.set_ 0 (.int .i64 (boxX a.x a.w s))).set_ 1 (.int .i64 (boxY a.y a.h s))).set_ 2 (.int .i64 a.w)).set_ 3 (.int .i64 a.h)
  have K3 := Lib.hid k3.cell
  clear k2 k3
  go_wp2
  refine bodyPost_ret (v := .tuple #[.agg #[.int .i64 (boxX a.x a.w s), .int .i64 (boxY a.y a.h s), .int .i64 a.w, .int .i64 a.h], .int .i64 0]) (by simp [results, Try.results6, go_sem, K3.out]) rfl ⟨rfl, ?_⟩
  have := B2.out; (repeat' (first | (with_reducible exact Below.refl _ _) | (with_reducible assumption) | (with_reducible refine below_drewN ?_ _) | (with_reducible refine Below.drew ?_) | (with_reducible refine Below.alloc ?_ ?_ _) | (with_reducible refine Below.setCell ?_ ?_ _) | (with_reducible exact Nat.le_refl _) | omega | (simp; omega) | (simp; done)))

set_option maxRecDepth 100000 in
set_option maxHeartbeats 2000000 in
theorem boxF_no (a : Item) (hf : a.fits) (s : Int) (h : ¬ (a.ok = true ∧ 0 ≤ s ∧ s < 8)) (w : World) :
    Calls Try.prog 6 #[.agg #[.int .i64 a.x, .int .i64 a.y, .int .i64 a.w, .int .i64 a.h], .int .i64 s] w fun e w' =>
      e = .returned (.tuple #[.agg #[.int .i64 0, .int .i64 0, .int .i64 0, .int .i64 0], .int .i64 (if a.ok then 1 else 4)]) ∧ Below w.heap.size w w' := by
  have Hf := Lib.hid hf
  have H := Lib.hid h
  clear hf h
  by_cases hok : a.ok = true
  · have hs : s < 0 ∨ (0 ≤ s ∧ 8 ≤ s) := by have := H.out; simp only [hok, true_and] at this; omega
    rw [if_pos hok]
    have Hok := Lib.hid hok
    clear hok
    rcases hs with hs | ⟨hs, hs'⟩
    all_goals
      go_enter Try.func6, Try.ntmps6
      go_wp2_with fail
      refine (check_one a Hf.out _ _ (by simp) (by go_simp) (by go_simp) (by go_simp) (by go_simp)).mono ?_
      rw [if_pos Hok.out]
      rintro e w1 ⟨rfl, hb⟩
      have B1 : Hid (Below w.heap.size w w1) := Lib.hid (Below.trans (by (repeat' (first | (with_reducible exact Below.refl _ _) | (with_reducible assumption) | (with_reducible refine below_drewN ?_ _) | (with_reducible refine Below.drew ?_) | (with_reducible refine Below.alloc ?_ ?_ _) | (with_reducible refine Below.setCell ?_ ?_ _) | (with_reducible exact Nat.le_refl _) | omega | (simp; omega) | (simp; done)))) (hb.mono (by simp; omega)))
      have k2 : Blk w1 (w.heap.size + 1) 24 #[.int .i64 0, .int .i64 0, .int .i64 0, .int .i64 0] := Blk.below' (by (repeat' (first | (with_reducible assumption) | (with_reducible exact Blk.new _ _ _) | (refine Blk.new' _ _ _ ?_; (first | rfl | (simp; done) | (simp; omega)); done) | (with_reducible refine Blk.alloc ?_ _) | (with_reducible refine Blk.drew ?_) | (with_reducible refine Blk.drewN ?_ _)))) hb
      obtain ⟨hc, hf, hz⟩ := k2.rules
      clear hb
      have k3 := (((k2.set_ 0 (.int .i64 0)).set_ 1 (.int .i64 0)).set_ 2 (.int .i64 0)).set_ 3 (.int .i64 0)
      have K3 := Lib.hid k3.cell
      clear k2 k3
      go_wp2
      refine bodyPost_ret (v := .tuple #[.agg #[.int .i64 0, .int .i64 0, .int .i64 0, .int .i64 0], .int .i64 1]) (by simp [results, Try.results6, go_sem, K3.out]) rfl ⟨rfl, ?_⟩
      have := B1.out; (repeat' (first | (with_reducible exact Below.refl _ _) | (with_reducible assumption) | (with_reducible refine below_drewN ?_ _) | (with_reducible refine Below.drew ?_) | (with_reducible refine Below.alloc ?_ ?_ _) | (with_reducible refine Below.setCell ?_ ?_ _) | (with_reducible exact Nat.le_refl _) | omega | (simp; omega) | (simp; done)))
  · rw [if_neg hok]
    have Hok := Lib.hid hok
    clear hok
    go_enter Try.func6, Try.ntmps6
    go_wp2_with fail
    refine (check_one a Hf.out _ _ (by simp) (by go_simp) (by go_simp) (by go_simp) (by go_simp)).mono ?_
    rw [if_neg Hok.out]
    rintro e w1 ⟨rfl, hb⟩
    have B1 : Hid (Below w.heap.size w w1) := Lib.hid (Below.trans (by (repeat' (first | (with_reducible exact Below.refl _ _) | (with_reducible assumption) | (with_reducible refine below_drewN ?_ _) | (with_reducible refine Below.drew ?_) | (with_reducible refine Below.alloc ?_ ?_ _) | (with_reducible refine Below.setCell ?_ ?_ _) | (with_reducible exact Nat.le_refl _) | omega | (simp; omega) | (simp; done)))) (hb.mono (by simp; omega)))
    have k2 : Blk w1 (w.heap.size + 1) 24 #[.int .i64 0, .int .i64 0, .int .i64 0, .int .i64 0] := Blk.below' (by (repeat' (first | (with_reducible assumption) | (with_reducible exact Blk.new _ _ _) | (refine Blk.new' _ _ _ ?_; (first | rfl | (simp; done) | (simp; omega)); done) | (with_reducible refine Blk.alloc ?_ _) | (with_reducible refine Blk.drew ?_) | (with_reducible refine Blk.drewN ?_ _)))) hb
    obtain ⟨hc, hf, hz⟩ := k2.rules
    clear hb
    have k3 := (((k2.set_ 0 (.int .i64 0)).set_ 1 (.int .i64 0)).set_ 2 (.int .i64 0)).set_ 3 (.int .i64 0)
    have K3 := Lib.hid k3.cell
    clear k2 k3
    go_wp2
    refine bodyPost_ret (v := .tuple #[.agg #[.int .i64 0, .int .i64 0, .int .i64 0, .int .i64 0], .int .i64 4]) (by simp [results, Try.results6, go_sem, K3.out]) rfl ⟨rfl, ?_⟩
    have := B1.out; (repeat' (first | (with_reducible exact Below.refl _ _) | (with_reducible assumption) | (with_reducible refine below_drewN ?_ _) | (with_reducible refine Below.drew ?_) | (with_reducible refine Below.alloc ?_ ?_ _) | (with_reducible refine Below.setCell ?_ ?_ _) | (with_reducible exact Nat.le_refl _) | omega | (simp; omega) | (simp; done)))
end Go.Proofs.Yteoeifhlkcgceaa
