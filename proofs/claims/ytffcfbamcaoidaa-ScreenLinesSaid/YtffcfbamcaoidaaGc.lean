/- Part of a claim: lemmas on the way to its theorem; each states its own conditions. -/
import Derived.Test.YtffcfbamcaoidaaGb
namespace Go.Proofs.Ytffcfbamcaoidaa
open Sym Go.RowKit
noncomputable section
set_option maxRecDepth 100000
set_option maxHeartbeats 4000000



theorem abs_cases (n : Int) : (n < 0 ∧ F.abs n = -n) ∨ (0 ≤ n ∧ F.abs n = n) := by
  unfold F.abs
  split <;> omega
theorem q_bd {n d k : Int} (hn : 0 < n) (hd : -n ≤ d ∧ d ≤ n) (hk : 0 ≤ k) : (-k ≤ (2 * k * d + n) / (2 * n) ∧ (2 * k * d + n) / (2 * n) ≤ k) ∧ (d = n → (2 * k * d + n) / (2 * n) = k) ∧ (d = -n → (2 * k * d + n) / (2 * n) = -k) := by
  have h0 : n / (2 * n) = 0 := Int.ediv_eq_zero_of_lt (by omega) (by omega)
  have e1 : (2 * k * n + n) / (2 * n) = k := by
    rw [show 2 * k * n + n = n + (2 * n) * k by rw [Int.mul_right_comm]; omega, Int.add_mul_ediv_left _ _ (by omega), h0, Int.zero_add]
  have e2 : (2 * k * (-n) + n) / (2 * n) = -k := by
    rw [show 2 * k * (-n) + n = n + (2 * n) * (-k) by rw [Int.mul_neg, Int.mul_neg, Int.mul_right_comm]; omega, Int.add_mul_ediv_left _ _ (by omega), h0, Int.zero_add]
  have m1 : 2 * k * d ≤ 2 * k * n := Int.mul_le_mul_of_nonneg_left hd.2 (by omega)
  have m2 : 2 * k * (-n) ≤ 2 * k * d := Int.mul_le_mul_of_nonneg_left hd.1 (by omega)
  refine ⟨⟨?_, ?_⟩, fun h => by rw [h]; exact e1, fun h => by rw [h]; exact e2⟩
  · have := Int.ediv_le_ediv (a := 2 * k * (-n) + n) (b := 2 * k * d + n) (c := 2 * n) (by omega) (by omega)
    omega
  · have := Int.ediv_le_ediv (a := 2 * k * d + n) (b := 2 * k * n + n) (c := 2 * n) (by omega) (by omega)
    omega
theorem lps_get (ax ay dx dy n : Int) (m k : Nat) (d : Int × Int) (h : k < m) : (F.lps ax ay dx dy n m).getD k d = F.lp ax ay dx dy n k := by
  simp [F.lps, List.getD, h]
/-- A cell of the line. -/
theorem lp_facts {ax ay bx by_ : Int} {k : Int} (hk : 0 ≤ k ∧ k ≤ F.ln ax ay bx by_) (c : Int × Int) (hc : c = F.lp ax ay (bx - ax) (by_ - ay) (F.ln ax ay bx by_) k) :
    F.on ax ay bx by_ c.1 c.2 = true ∧ max (F.abs (c.1 - ax)) (F.abs (c.2 - ay)) = k ∧ (k = F.ln ax ay bx by_ → c = (bx, by_)) := by
  have m1 := ln_bd ax ay bx by_
  have m3 := ln_abs ax ay bx by_
  subst hc
  by_cases hn : F.ln ax ay bx by_ = 0
  · have hk0 : k = 0 := by omega
    subst hk0
    have e : F.lp ax ay (bx - ax) (by_ - ay) (F.ln ax ay bx by_) 0 = (ax, ay) := by rw [hn]; simp [F.lp]
    rw [e]
    refine ⟨by simp [F.on, hn], by simp [F.abs], fun _ => ?_⟩
    rw [Prod.mk.injEq]
    omega
  · have hpos : 0 < F.ln ax ay bx by_ := by omega
    obtain ⟨a1, a2, a3⟩ := q_bd hpos ⟨m1.1, m1.2.1⟩ hk.1
    obtain ⟨b1, b2, b3⟩ := q_bd hpos ⟨m1.2.2.1, m1.2.2.2.1⟩ hk.1
    have hlast : k = F.ln ax ay bx by_ → (2 * k * (bx - ax) + F.ln ax ay bx by_) / (2 * F.ln ax ay bx by_) = bx - ax ∧ (2 * k * (by_ - ay) + F.ln ax ay bx by_) / (2 * F.ln ax ay bx by_) = by_ - ay := fun h => by
      rw [h]
      have h0 : F.ln ax ay bx by_ / (2 * F.ln ax ay bx by_) = 0 := Int.ediv_eq_zero_of_lt (by omega) (by omega)
      constructor <;> rw [Int.add_comm, Int.add_mul_ediv_left _ _ (by omega), h0, Int.zero_add]
    unfold F.lp
    have on : ∀ k', k' = k → F.onk ax ay bx by_ (ax + (2 * k * (bx - ax) + F.ln ax ay bx by_) / (2 * F.ln ax ay bx by_)) (ay + (2 * k * (by_ - ay) + F.ln ax ay bx by_) / (2 * F.ln ax ay bx by_)) k' = true := fun k' h => by
      subst h
      unfold F.onk
      simp
      exact hk.2
    have sx : ax + (2 * k * (bx - ax) + F.ln ax ay bx by_) / (2 * F.ln ax ay bx by_) - ax = (2 * k * (bx - ax) + F.ln ax ay bx by_) / (2 * F.ln ax ay bx by_) := by omega
    have sy : ay + (2 * k * (by_ - ay) + F.ln ax ay bx by_) / (2 * F.ln ax ay bx by_) - ay = (2 * k * (by_ - ay) + F.ln ax ay bx by_) / (2 * F.ln ax ay bx by_) := by omega
    refine ⟨?_, ?_, fun h => ?_⟩
    · unfold F.on
      rw [if_neg hn]
      simp only [sx, sy]
      generalize (2 * k * (bx - ax) + F.ln ax ay bx by_) / (2 * F.ln ax ay bx by_) = Q1 at *
      generalize (2 * k * (by_ - ay) + F.ln ax ay bx by_) / (2 * F.ln ax ay bx by_) = Q2 at *
      split
      · rename_i hlt
        refine on _ ?_
        have x1 := abs_cases (bx - ax)
        have x2 := abs_cases (by_ - ay)
        have x3 := abs_cases Q1
        have x4 := abs_cases Q2
        omega
      · rename_i hlt
        refine on _ ?_
        have x1 := abs_cases (bx - ax)
        have x2 := abs_cases (by_ - ay)
        have x3 := abs_cases Q1
        have x4 := abs_cases Q2
        omega
    · simp only [sx, sy]
      generalize (2 * k * (bx - ax) + F.ln ax ay bx by_) / (2 * F.ln ax ay bx by_) = Q1 at *
      generalize (2 * k * (by_ - ay) + F.ln ax ay bx by_) / (2 * F.ln ax ay bx by_) = Q2 at *
      have x1 := abs_cases (bx - ax)
      have x2 := abs_cases (by_ - ay)
      have x3 := abs_cases Q1
      have x4 := abs_cases Q2
      omega
    · obtain ⟨h1, h2⟩ := hlast h
      rw [h1, h2, Prod.mk.injEq]
      omega
theorem abs_nn (n : Int) : 0 ≤ F.abs n ∧ n ≤ F.abs n ∧ -n ≤ F.abs n := by
  unfold F.abs
  split <;> omega


def cuts_sllaw : Cuts := [(15, [2, 3, 100, 101, 102], 4)]

theorem sllaw_t0 (ax ay : Int) (bx by_ : Int) : symF C_on cuts_sllaw Try.f3.results.toList 0 400 [.code (codeOf Try.f3)] ⟨argsS Try.f3 [.agg [.int .i64 ax, .int .i64 ay], .agg [.int .i64 bx, .int .i64 by_]], ([] : Heap cod)⟩ =
.need (((0 : Int) ≤ 1 ∧ (1 : Int) < Int.ofNat (List.length (F.line 0 0 2 1)))) (
.need ((0 + Int.toNat 1 : Nat) < List.length (F.line 0 0 2 1)) (
.need (((0 : Int) ≤ 0 ∧ (0 : Int) < Int.ofNat 4)) (
 cond (!F.inb (List.getD [ax, ay, bx, by_] (Int.toNat 0) (cod 0).d) (-2000) 2000) (
 cond (decide (F.lineE ax ay bx by_ = 4)) (
  .ret (.fin (.c (.bool (decide (Int.ofNat (List.length (F.line ax ay bx by_)) = 0)))) [])) (
  .ret (.fin (.c (.bool false)) []))) (
 .need (i64ok (0 + 1)) (
 .need (((0 : Int) ≤ 0 + 1 ∧ (0 + 1 : Int) < Int.ofNat 4)) (
 cond (!F.inb (List.getD [ax, ay, bx, by_] (Int.toNat (0 + 1)) (cod 0).d) (-2000) 2000) (
  cond (decide (F.lineE ax ay bx by_ = 4)) (
   .ret (.fin (.c (.bool (decide (Int.ofNat (List.length (F.line ax ay bx by_)) = 0)))) [])) (
   .ret (.fin (.c (.bool false)) []))) (
  .need (i64ok (0 + 1 + 1)) (
  .need (((0 : Int) ≤ 0 + 1 + 1 ∧ (0 + 1 + 1 : Int) < Int.ofNat 4)) (
  cond (!F.inb (List.getD [ax, ay, bx, by_] (Int.toNat (0 + 1 + 1)) (cod 0).d) (-2000) 2000) (
   cond (decide (F.lineE ax ay bx by_ = 4)) (
    .ret (.fin (.c (.bool (decide (Int.ofNat (List.length (F.line ax ay bx by_)) = 0)))) [])) (
    .ret (.fin (.c (.bool false)) []))) (
   .need (i64ok (0 + 1 + 1 + 1)) (
   .need (((0 : Int) ≤ 0 + 1 + 1 + 1 ∧ (0 + 1 + 1 + 1 : Int) < Int.ofNat 4)) (
   cond (!F.inb (List.getD [ax, ay, bx, by_] (Int.toNat (0 + 1 + 1 + 1)) (cod 0).d) (-2000) 2000) (
    cond (decide (F.lineE ax ay bx by_ = 4)) (
     .ret (.fin (.c (.bool (decide (Int.ofNat (List.length (F.line ax ay bx by_)) = 0)))) [])) (
     .ret (.fin (.c (.bool false)) []))) (
    .need (i64ok (0 + 1 + 1 + 1 + 1)) (
    .need (i64ok (bx - ax)) (
    .need (i64ok (-(bx - ax))) (
    .need (i64ok (by_ - ay)) (
    .need (i64ok (-(by_ - ay))) (
    cond (!decide (F.lineE ax ay bx by_ = 0)) (
     .ret (.fin (.c (.bool false)) [])) (
     .need (i64ok (max (F.abs (bx - ax)) (F.abs (by_ - ay)) + 1)) (
     cond (!decide (Int.ofNat (List.length (F.line ax ay bx by_)) = max (F.abs (bx - ax)) (F.abs (by_ - ay)) + 1)) (
      .ret (.fin (.c (.bool false)) [])) (
      .need (((0 : Int) ≤ 0 ∧ (0 : Int) < Int.ofNat (List.length (F.line ax ay bx by_)))) (
      .need ((0 + Int.toNat 0 : Nat) < List.length (F.line ax ay bx by_)) (
      cond (!(decide ((List.getD (F.line ax ay bx by_) (0 + Int.toNat 0) (cod 1).d).1 = ax) &&     decide ((List.getD (F.line ax ay bx by_) (0 + Int.toNat 0) (cod 1).d).2 = ay))) (
       .ret (.fin (.c (.bool false)) [])) (
       .need (((0 : Int) ≤ max (F.abs (bx - ax)) (F.abs (by_ - ay)) ∧ max (F.abs (bx - ax)) (F.abs (by_ - ay)) < Int.ofNat (List.length (F.line ax ay bx by_)))) (
       .need (0 + Int.toNat (max (F.abs (bx - ax)) (F.abs (by_ - ay))) < List.length (F.line ax ay bx by_)) (
       cond (!(decide       ((List.getD (F.line ax ay bx by_) (0 + Int.toNat (max (F.abs (bx - ax)) (F.abs (by_ - ay)))) (cod 1).d).1 = bx) &&     decide       ((List.getD (F.line ax ay bx by_) (0 + Int.toNat (max (F.abs (bx - ax)) (F.abs (by_ - ay)))) (cod 1).d).2 = by_))) (
        .ret (.fin (.c (.bool false)) [])) (
        .ret (.cut (cutAt Try.f3 15) ⟨tmG 27 [(2, .c (.ptr 0 0 0)), (0, .c (.ptr 1 0 0)), (96, .c (.own 3 (List.length (F.line ax ay bx by_)))), (0, .c (.int .i64 (Int.ofNat (List.length (F.line ax ay bx by_))))), (0, .c (.int .i64 0))], [.blk [.int .i64 ax, .int .i64 ay] 23, .blk [.int .i64 bx, .int .i64 by_] 23, .own 1 (F.line 0 0 2 1) 23, .own 1 (F.line ax ay bx by_) 23]⟩)))))))))))))))))))))))))))) := by kernel_rfl


noncomputable def st_sllaw_15 (ax ay : Int) (bx by_ : Int) (k : Int) : St cod := ⟨tmG 27 [(2, .c (.ptr 0 0 0)), (0, .c (.ptr 1 0 0)), (96, .c (.own 3 (List.length (F.line ax ay bx by_)))), (0, .c (.int .i64 (Int.ofNat (List.length (F.line ax ay bx by_))))), (0, .c (.int .i64 k))], [.blk [.int .i64 ax, .int .i64 ay] 23, .blk [.int .i64 bx, .int .i64 by_] 23, .own 1 (F.line 0 0 2 1) 23, .own 1 (F.line ax ay bx by_) 23]⟩


theorem sllaw_t15 (ax ay : Int) (bx by_ : Int) (k : Int) : symF C_on cuts_sllaw Try.f3.results.toList 0 400 (cutAt Try.f3 15) (st_sllaw_15 ax ay bx by_ k) =
 cond (decide (k < Int.ofNat (List.length (F.line ax ay bx by_)))) (
 .need (((0 : Int) ≤ k ∧ k < Int.ofNat (List.length (F.line ax ay bx by_)))) (
 .need (0 + Int.toNat k < List.length (F.line ax ay bx by_)) (
 .need ((((-2000 : Int) ≤ ax ∧ ax ≤ 2000) ∧ (((-2000 : Int) ≤ ay ∧ ay ≤ 2000) ∧ (((-2000 : Int) ≤ bx ∧ bx ≤ 2000) ∧ (((-2000 : Int) ≤ by_ ∧ by_ ≤ 2000) ∧ (((-1000000 : Int) ≤ (List.getD (F.line ax ay bx by_) (0 + Int.toNat k) (cod 1).d).1 ∧ (List.getD (F.line ax ay bx by_) (0 + Int.toNat k) (cod 1).d).1 ≤ 1000000) ∧ ((-1000000 : Int) ≤ (List.getD (F.line ax ay bx by_) (0 + Int.toNat k) (cod 1).d).2 ∧ (List.getD (F.line ax ay bx by_) (0 + Int.toNat k) (cod 1).d).2 ≤ 1000000))))))) (
 cond (!F.on ax ay bx by_ (List.getD (F.line ax ay bx by_) (0 + Int.toNat k) (cod 1).d).1     (List.getD (F.line ax ay bx by_) (0 + Int.toNat k) (cod 1).d).2) (
  .ret (.fin (.c (.bool false)) [])) (
  .need (i64ok ((List.getD (F.line ax ay bx by_) (0 + Int.toNat k) (cod 1).d).1 - ax)) (
  .need (i64ok (-((List.getD (F.line ax ay bx by_) (0 + Int.toNat k) (cod 1).d).1 - ax))) (
  .need (i64ok ((List.getD (F.line ax ay bx by_) (0 + Int.toNat k) (cod 1).d).2 - ay)) (
  .need (i64ok (-((List.getD (F.line ax ay bx by_) (0 + Int.toNat k) (cod 1).d).2 - ay))) (
  cond (!decide     (max (F.abs ((List.getD (F.line ax ay bx by_) (0 + Int.toNat k) (cod 1).d).1 - ax))         (F.abs ((List.getD (F.line ax ay bx by_) (0 + Int.toNat k) (cod 1).d).2 - ay)) =       k)) (
   .ret (.fin (.c (.bool false)) [])) (
   .need (i64ok (k + 1)) (
   .ret (.cut (cutAt Try.f3 15) ⟨tmG 27 [(2, .c (.ptr 0 0 0)), (0, .c (.ptr 1 0 0)), (96, .c (.own 3 (List.length (F.line ax ay bx by_)))), (0, .c (.int .i64 (Int.ofNat (List.length (F.line ax ay bx by_))))), (0, .c (.int .i64 (k + 1)))], [.blk [.int .i64 ax, .int .i64 ay] 23, .blk [.int .i64 bx, .int .i64 by_] 23, .own 1 (F.line 0 0 2 1) 23, .own 1 (F.line ax ay bx by_) 23]⟩)))))))))))) (
 .ret (.fin (.c (.bool true)) [])) := by kernel_rfl



theorem sl_loop (ax ay bx by_ : Int) (f1 : F.far ax ay = false) (f2 : F.far bx by_ = false) (b0 : Base) (hb : b0.n = 0) : ∀ (m : Nat) (k : Int), 0 ≤ k → k + m = F.ln ax ay bx by_ + 1 →
    Sym.Runs Try.prog b0 (cutAt Try.f3 15) (st_sllaw_15 ax ay bx by_ k) (Sym.Ends Try.prog Try.f3 0 (.c (.bool true)) []) := by
  obtain ⟨r1, r2⟩ := far_false (by rw [f1]; decide)
  obtain ⟨r3, r4⟩ := far_false (by rw [f2]; decide)
  have hL : F.line ax ay bx by_ = F.lps ax ay (bx - ax) (by_ - ay) (F.ln ax ay bx by_) ((F.ln ax ay bx by_).toNat + 1) := by simp [F.line, f1, f2]
  have m2 := ln_le r1 r2 r3 r4
  have m1 := ln_bd ax ay bx by_
  have hd : (cod 1).d = (0, 0) := rfl
  have hlen : (F.line ax ay bx by_).length = (F.ln ax ay bx by_).toNat + 1 := by rw [hL, lps_len]
  intro m
  induction m with
  | zero =>
    intro k h0 hm
    refine Runs.go (cfg := C_on) L_on_ok mixed cuts_sllaw 400 hb (sllaw_t15 ax ay bx by_ k) ?_
    have h1 : ¬ k < ((F.line ax ay bx by_).length : Int) := by rw [hlen]; omega
    simp only [T.wp, T.wp_cond, Aft, Int.ofNat_eq_natCast, decide_eq_true_eq, and_true, true_and, Nat.zero_add, Bool.not_eq_true', decide_eq_false_iff_not, h1, if_false]
  | succ m ih =>
    intro k h0 hm
    refine Runs.go (cfg := C_on) L_on_ok mixed cuts_sllaw 400 hb (sllaw_t15 ax ay bx by_ k) ?_
    have h1 : k < ((F.line ax ay bx by_).length : Int) := by rw [hlen]; omega
    have hg : (F.line ax ay bx by_).getD k.toNat (0, 0) = F.lp ax ay (bx - ax) (by_ - ay) (F.ln ax ay bx by_) k := by
      rw [hL, lps_get _ _ _ _ _ _ _ _ (by omega), show ((k.toNat : Nat) : Int) = k by omega]
    obtain ⟨p1, p2, p3⟩ := lp_facts (k := k) ⟨h0, by omega⟩ _ hg
    have nx := ih (k + 1) (by omega) (by omega)
    simp only [T.wp, T.wp_cond, Aft, Int.ofNat_eq_natCast, decide_eq_true_eq, and_true, true_and, Nat.zero_add, Bool.not_eq_true', decide_eq_false_iff_not, h1, if_true, hd]
    generalize (F.line ax ay bx by_).getD k.toNat (0, 0) = c at *
    have a1 := abs_nn (c.1 - ax)
    have a2 := abs_nn (c.2 - ay)
    simp only [p1, p2, not_true_eq_false, if_false, Bool.true_eq_false]
    unfold i64ok
    exact ⟨h0, by omega, ⟨r1, r2, r3, r4, by omega, by omega⟩, by omega, by omega, by omega, by omega, by omega, nx⟩
theorem sllaw_run (ax ay : Int) (bx by_ : Int) (b0 : Base) (hb : b0.n = 0)  : Sym.Runs Try.prog b0 [.code (codeOf Try.f3)] ⟨argsS Try.f3 [.agg [.int .i64 ax, .int .i64 ay], .agg [.int .i64 bx, .int .i64 by_]], ([] : Heap cod)⟩ (Sym.Ends Try.prog Try.f3 0 (.c (.bool true)) []) := by
  refine Runs.go (cfg := C_on) L_on_ok mixed cuts_sllaw 400 hb (sllaw_t0 ax ay bx by_) ?_
  have hd : (cod 1).d = (0, 0) := rfl
  have l3 : (F.line 0 0 2 1).length = 3 := by decide
  have hf : ∀ x y, F.far x y = !(F.inb x (-2000) 2000 && F.inb y (-2000) 2000) := fun x y => by
    unfold F.far F.inb
    by_cases h1 : x < -2000 <;> by_cases h2 : 2000 < x <;> by_cases h3 : y < -2000 <;> by_cases h4 : 2000 < y <;> simp [h1, h2, h3, h4] <;> omega
  simp only [T.wp, T.wp_cond, Aft, Int.ofNat_eq_natCast, decide_eq_true_eq, and_true, true_and, Nat.zero_add, Bool.not_eq_true', decide_eq_false_iff_not, l3, Int.reduceAdd, Int.reduceToNat, List.getD_cons_zero, List.getD_cons_succ, hd, show (cod 0).d = (0 : Int) from rfl]
  have hbad : (F.far ax ay || F.far bx by_) = true → F.lineE ax ay bx by_ = 4 ∧ F.line ax ay bx by_ = [] := fun h => by
    unfold F.lineE F.line
    rw [if_pos h, if_pos h]
    exact ⟨rfl, rfl⟩
  refine ⟨by omega, by omega, by omega, ?_⟩
  by_cases g1 : F.inb ax (-2000) 2000 = true
  rotate_left
  · obtain ⟨q1, q2⟩ := hbad (by simp [hf, g1])
    simp [g1, q1, q2]
  simp only [g1, Bool.true_eq_false, if_false]
  refine ⟨by unfold i64ok; omega, by omega, ?_⟩
  by_cases g2 : F.inb ay (-2000) 2000 = true
  rotate_left
  · obtain ⟨q1, q2⟩ := hbad (by simp [hf, g1, g2])
    simp [g2, q1, q2]
  simp only [g2, Bool.true_eq_false, if_false]
  refine ⟨by unfold i64ok; omega, by omega, ?_⟩
  by_cases g3 : F.inb bx (-2000) 2000 = true
  rotate_left
  · obtain ⟨q1, q2⟩ := hbad (by simp [hf, g1, g2, g3])
    simp [g3, q1, q2]
  simp only [g3, Bool.true_eq_false, if_false]
  refine ⟨by unfold i64ok; omega, by omega, ?_⟩
  by_cases g4 : F.inb by_ (-2000) 2000 = true
  rotate_left
  · obtain ⟨q1, q2⟩ := hbad (by simp [hf, g1, g2, g3, g4])
    simp [g4, q1, q2]
  simp only [g4, Bool.true_eq_false, if_false]
  have f1 : F.far ax ay = false := by rw [hf, g1, g2]; rfl
  have f2 : F.far bx by_ = false := by rw [hf, g3, g4]; rfl
  obtain ⟨r1, r2⟩ := far_false (by rw [f1]; decide)
  obtain ⟨r3, r4⟩ := far_false (by rw [f2]; decide)
  have hL : F.line ax ay bx by_ = F.lps ax ay (bx - ax) (by_ - ay) (F.ln ax ay bx by_) ((F.ln ax ay bx by_).toNat + 1) := by simp [F.line, f1, f2]
  have hE : F.lineE ax ay bx by_ = 0 := by simp [F.lineE, f1, f2]
  have m2 := ln_le r1 r2 r3 r4
  have m1 := ln_bd ax ay bx by_
  have m3 := ln_abs ax ay bx by_
  have hlen : ((F.line ax ay bx by_).length : Int) = F.ln ax ay bx by_ + 1 := by rw [hL, lps_len]; omega
  have e0 : (F.line ax ay bx by_).getD 0 (0, 0) = (ax, ay) := by
    rw [hL, lps_get _ _ _ _ _ _ _ _ (by omega)]
    obtain ⟨p1, p2, p3⟩ := lp_facts (ax := ax) (ay := ay) (bx := bx) (by_ := by_) (k := 0) ⟨by omega, m1.2.2.2.2⟩ _ rfl
    simp only [Int.natCast_zero]
    generalize F.lp ax ay (bx - ax) (by_ - ay) (F.ln ax ay bx by_) 0 = c at *
    have a1 := abs_nn (c.1 - ax)
    have a2 := abs_nn (c.2 - ay)
    obtain ⟨c1, c2⟩ := c
    rw [Prod.mk.injEq]
    simp only at *
    omega
  have en : (F.line ax ay bx by_).getD (F.ln ax ay bx by_).toNat (0, 0) = (bx, by_) := by
    rw [hL, lps_get _ _ _ _ _ _ _ _ (by omega), show (((F.ln ax ay bx by_).toNat : Nat) : Int) = F.ln ax ay bx by_ by omega]
    exact (lp_facts (k := F.ln ax ay bx by_) ⟨m1.2.2.2.2, Int.le_refl _⟩ _ rfl).2.2 rfl
  rw [m3, hE, hlen, e0, en]
  simp only [not_true_eq_false, if_false, decide_true, Bool.and_self, Bool.true_eq_false]
  have := sl_loop ax ay bx by_ f1 f2 b0 hb (F.ln ax ay bx by_ + 1).toNat 0 (by omega) (by omega)
  have hlen' : (F.line ax ay bx by_).length = (F.ln ax ay bx by_).toNat + 1 := by omega
  unfold i64ok
  refine ⟨by omega, by omega, by omega, by omega, by omega, by omega, by omega, by omega, by omega, by omega, ?_⟩
  rw [← hlen]
  exact this



noncomputable def s_sllaw : Summ cod := fun args H => match args, H with
  | [.agg [.int .i64 ax, .int .i64 ay], .agg [.int .i64 bx, .int .i64 by_]], [] => .ret (.c (.bool true), [])
  | _, _ => .fail


theorem sllaw_sound : Sound Try.prog cod 3 s_sllaw := sound_runs (cfg := C_on) L_on_ok mixed Try.func3 rfl rfl _ fun args H r news hg b0 hb => by
  unfold s_sllaw at hg
  split at hg
  · skip
    cases hg
    exact sllaw_run _ _ _ _ b0 hb 
  · exact hg.elim

noncomputable def L_sllaw : Sums cod := (3, s_sllaw) :: L_on
noncomputable def C_sllaw : Cfg cod := mkC L_sllaw

theorem L_sllaw_ok : Snd Try.prog cod L_sllaw := .cons sllaw_sound L_on_ok


end
end Go.Proofs.Ytffcfbamcaoidaa
