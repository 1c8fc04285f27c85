/- Part of a claim: lemmas on the way to its theorem; each states its own conditions. -/
import Derived.Test.YtbdhppceihcbnaaBd25
namespace Go.Proofs.Ytbdhppceihcbnaa
open Sym Go.RowKit
noncomputable section
set_option maxRecDepth 100000
set_option maxHeartbeats 4000000

namespace F
def ln (ax ay bx by_ : Int) : Int := max (max (max (bx - ax) (-(bx - ax))) (by_ - ay)) (-(by_ - ay))
def lp (ax ay dx dy n : Int) (k : Int) : Int × Int := (ax + (2 * k * dx + n) / (2 * n), ay + (2 * k * dy + n) / (2 * n))
def lps (ax ay dx dy n : Int) (m : Nat) : List (Int × Int) := (List.range m).map fun (k : Nat) => lp ax ay dx dy n (k : Int)
def lineE (ax ay bx by_ : Int) : Int := if (far ax ay || far bx by_) = true then 4 else 0
def line (ax ay bx by_ : Int) : List (Int × Int) := if (far ax ay || far bx by_) = true then [] else lps ax ay (bx - ax) (by_ - ay) (ln ax ay bx by_) ((ln ax ay bx by_).toNat + 1)
def onk (ax ay bx by_ cx cy k : Int) : Bool := decide (k ≤ ln ax ay bx by_ ∧ cx = ax + (2 * k * (bx - ax) + ln ax ay bx by_) / (2 * ln ax ay bx by_) ∧ cy = ay + (2 * k * (by_ - ay) + ln ax ay bx by_) / (2 * ln ax ay bx by_))
def on (ax ay bx by_ cx cy : Int) : Bool := if ln ax ay bx by_ = 0 then decide (cx = ax ∧ cy = ay) else if abs (bx - ax) < abs (by_ - ay) then onk ax ay bx by_ cx cy (abs (cy - ay)) else onk ax ay bx by_ cx cy (abs (cx - ax))
end F


theorem far_false {x y : Int} (h : ¬ F.far x y = true) : (-2000 ≤ x ∧ x ≤ 2000) ∧ -2000 ≤ y ∧ y ≤ 2000 := by
  unfold F.far at h
  simp at h
  omega
theorem lps_succ (ax ay dx dy n : Int) (m : Nat) : F.lps ax ay dx dy n (m + 1) = F.lps ax ay dx dy n m ++ [F.lp ax ay dx dy n m] := by
  unfold F.lps
  rw [List.range_succ, List.map_append]
  rfl
theorem lps_len (ax ay dx dy n : Int) (m : Nat) : (F.lps ax ay dx dy n m).length = m := by simp [F.lps]
theorem ln_bd (ax ay bx by_ : Int) : -F.ln ax ay bx by_ ≤ bx - ax ∧ bx - ax ≤ F.ln ax ay bx by_ ∧ -F.ln ax ay bx by_ ≤ by_ - ay ∧ by_ - ay ≤ F.ln ax ay bx by_ ∧ 0 ≤ F.ln ax ay bx by_ := by
  unfold F.ln
  omega
theorem ln_le {ax ay bx by_ : Int} (h1 : -2000 ≤ ax ∧ ax ≤ 2000) (h2 : -2000 ≤ ay ∧ ay ≤ 2000) (h3 : -2000 ≤ bx ∧ bx ≤ 2000) (h4 : -2000 ≤ by_ ∧ by_ ≤ 2000) : F.ln ax ay bx by_ ≤ 4000 := by
  unfold F.ln
  omega
theorem ln_abs (ax ay bx by_ : Int) : max (F.abs (bx - ax)) (F.abs (by_ - ay)) = F.ln ax ay bx by_ := by
  unfold F.ln F.abs
  split <;> split <;> omega
theorem quot_bd {a b M : Int} (hb : 0 < b) (h1 : -M ≤ a) (h2 : a ≤ M) : -M ≤ a / b ∧ a / b ≤ M := by
  have hM : 0 ≤ M := by omega
  constructor
  · refine Int.le_ediv_of_mul_le hb ?_
    have : M * 1 ≤ M * b := Int.mul_le_mul_of_nonneg_left (by omega) hM
    rw [Int.neg_mul]
    omega
  · refine Int.ediv_le_of_le_mul hb ?_
    have : M * 1 ≤ M * b := Int.mul_le_mul_of_nonneg_left (by omega) hM
    omega


def cuts_floor : Cuts := [(2, [0, 1, 5], 0)]

theorem floor_t0 (a : Int) (b : Int) : symF C_divdown cuts_floor Try.f23.results.toList 0 400 [.code (codeOf Try.f23)] ⟨argsS Try.f23 [.c (.int .i64 a), .c (.int .i64 b)], ([] : Heap cod)⟩ =
.need (b ≠ 0) (
.need (i64ok (Int.tdiv a b)) (
.ret (.cut (cutAt Try.f23 2) ⟨tmG 11 [(0, .c (.int .i64 a)), (0, .c (.int .i64 b)), (3, .c (.int .i64 (Int.tdiv a b)))], []⟩))) := by kernel_rfl


noncomputable def st_floor_2 (a : Int) (b : Int) (q : Int) : St cod := ⟨tmG 11 [(0, .c (.int .i64 a)), (0, .c (.int .i64 b)), (3, .c (.int .i64 q))], []⟩


theorem floor_t2 (a : Int) (b : Int) (q : Int) : symF C_divdown cuts_floor Try.f23.results.toList 0 400 (cutAt Try.f23 2) (st_floor_2 a b q) =
.need (i64ok (q * b)) (
 cond (decide (a < q * b)) (
 .need (i64ok (q - 1)) (
 .ret (.cut (cutAt Try.f23 2) ⟨tmG 11 [(0, .c (.int .i64 a)), (0, .c (.int .i64 b)), (3, .c (.int .i64 (q - 1)))], []⟩))) (
 .ret (.fin (.c (.int .i64 q)) []))) := by kernel_rfl



theorem floor_run (a : Int) (b : Int) (b0 : Base) (hb : b0.n = 0) (h0 : 0 < b ∧ -4000000000000000000 ≤ a ∧ a ≤ 4000000000000000000 ∧ b ≤ 4000000000000000000) : Sym.Runs Try.prog b0 [.code (codeOf Try.f23)] ⟨argsS Try.f23 [.c (.int .i64 a), .c (.int .i64 b)], ([] : Heap cod)⟩ (Sym.Ends Try.prog Try.f23 0 (.c (.int .i64 (a / b))) []) := by
  obtain ⟨h1, h2, h3, h4⟩ := h0
  obtain ⟨g1, g2, g3, g4⟩ := floor_tdiv a b h1 (by unfold i64ok; omega)
  refine Runs.go (cfg := C_divdown) L_divdown_ok mixed cuts_floor 400 hb (floor_t0 a b) ?_
  have e0 : b ≠ 0 := by omega
  simp only [T.wp, T.wp_cond, Aft, Int.ofNat_eq_natCast, decide_eq_true_eq, and_true, true_and, Nat.zero_add, Bool.not_eq_true', decide_eq_false_iff_not]
  refine ⟨e0, g1, ?_⟩
  have hq := Int.mul_ediv_add_emod a b
  have hm0 := Int.emod_nonneg a e0
  have hm1 := Int.emod_lt_of_pos a h1
  have last : Sym.Runs Try.prog b0 (cutAt Try.f23 2) (st_floor_2 a b (a / b)) (Sym.Ends Try.prog Try.f23 0 (.c (.int .i64 (a / b))) []) := by
    refine Runs.go (cfg := C_divdown) L_divdown_ok mixed cuts_floor 400 hb (floor_t2 a b (a / b)) ?_
    have k1 : a / b * b ≤ a := by rw [Int.mul_comm]; omega
    have k2 : ¬ a < a / b * b := by omega
    simp only [T.wp, T.wp_cond, Aft, Int.ofNat_eq_natCast, decide_eq_true_eq, and_true, true_and, Nat.zero_add, Bool.not_eq_true', decide_eq_false_iff_not, k2, if_false]
    have : a - b < a / b * b := by rw [Int.mul_comm]; omega
    unfold i64ok
    omega
  by_cases hlt : a < a.tdiv b * b
  · obtain ⟨k3, k4⟩ := g3 hlt
    refine Runs.go (cfg := C_divdown) L_divdown_ok mixed cuts_floor 400 hb (floor_t2 a b (a.tdiv b)) ?_
    simp only [T.wp, T.wp_cond, Aft, Int.ofNat_eq_natCast, decide_eq_true_eq, and_true, true_and, Nat.zero_add, Bool.not_eq_true', decide_eq_false_iff_not, hlt, if_true]
    refine ⟨g2, k4, ?_⟩
    rw [k3]
    exact last
  · rw [g4 hlt]
    exact last



noncomputable def s_floor : Summ cod := fun args H => match args, H with
  | [.c (.int .i64 a), .c (.int .i64 b)], [] => .need ((0 < b ∧ -4000000000000000000 ≤ a ∧ a ≤ 4000000000000000000 ∧ b ≤ 4000000000000000000)) (.ret (.c (.int .i64 (a / b)), []))
  | _, _ => .fail


theorem floor_sound : Sound Try.prog cod 23 s_floor := sound_runs (cfg := C_divdown) L_divdown_ok mixed Try.func23 rfl rfl _ fun args H r news hg b0 hb => by
  unfold s_floor at hg
  split at hg
  · skip
    simp only [T.gives, T.wp, Prod.mk.injEq] at hg
    obtain ⟨q0, rfl, rfl⟩ := hg
    exact floor_run _ _ b0 hb (by assumption)
  · exact hg.elim

noncomputable def L_floor : Sums cod := (23, .p s_floor) :: L_divdown
noncomputable def C_floor : Cfg cod := mkC L_floor

theorem L_floor_ok : Snd Try.prog cod L_floor := .cons floor_sound L_divdown_ok



def cuts_line0 : Cuts := [(9, [2, 8, 7, 6, 10, 9], 4)]

theorem line0_t0 (ax ay : Int) (bx by_ : Int) : symF C_floor cuts_line0 Try.f11.results.toList 0 400 [.code (codeOf Try.f11)] ⟨argsS Try.f11 [.agg [.int .i64 ax, .int .i64 ay], .agg [.int .i64 bx, .int .i64 by_]], ([] : Heap cod)⟩ =
 cond (F.far ax ay) (
 .ret (.fin (.tup [.c (.own 0 0), .c (.int .i64 4)]) [.own 1 [] 37])) (
 cond (F.far bx by_) (
  .ret (.fin (.tup [.c (.own 0 0), .c (.int .i64 4)]) [.own 1 [] 37])) (
  .need (i64ok (bx - ax)) (
  .need (i64ok (by_ - ay)) (
  .need (i64ok (-(bx - ax))) (
  .need (i64ok (-(by_ - ay))) (
  cond (decide (max (max (max (bx - ax) (-(bx - ax))) (by_ - ay)) (-(by_ - ay)) = 0)) (
   .ret (.fin (.tup [.c (.slc 0 0 1 true), .c (.int .i64 0)]) [.arr 1 ([(ax, ay)]) 37])) (
   .ret (.cut (cutAt Try.f11 9) ⟨tmG 73 [(2, .c (.ptr 0 0 0)), (3, .c (.int .i64 (bx - ax))), (0, .c (.int .i64 (by_ - ay))), (0, .c (.int .i64 (max (max (max (bx - ax) (-(bx - ax))) (by_ - ay)) (-(by_ - ay))))), (0, .c (.own 3 0)), (0, .c (.int .i64 0))], [.blk [.int .i64 ax, .int .i64 ay] 37, .blk [.int .i64 bx, .int .i64 by_] 37, .own 1 [] 37, .own 1 [] 37]⟩)))))))) := by kernel_rfl


noncomputable def st_line0_9 (ax ay : Int) (bx by_ : Int) (dx dy n k : Int) (mm : Nat) (out : List (Int × Int)) : St cod := ⟨tmG 73 [(2, .c (.ptr 0 0 0)), (3, .c (.int .i64 dx)), (0, .c (.int .i64 dy)), (0, .c (.int .i64 n)), (0, .c (.own 3 mm)), (0, .c (.int .i64 k))], ([.blk [.int .i64 ax, .int .i64 ay] 37, .blk [.int .i64 bx, .int .i64 by_] 37, .own 1 [] 37, .own 1 out 37] : Heap cod)⟩


theorem line0_t9 (ax ay : Int) (bx by_ : Int) (dx dy n k : Int) (mm : Nat) (out : List (Int × Int)) : symF C_floor cuts_line0 Try.f11.results.toList 0 400 (cutAt Try.f11 9) (st_line0_9 ax ay bx by_ dx dy n k mm out) =
 cond (decide (k ≤ n)) (
 .need (i64ok (2 * k)) (
 .need (i64ok (2 * k * dx)) (
 .need (i64ok (2 * k * dx + n)) (
 .need (i64ok (2 * n)) (
 .need (((0 : Int) < 2 * n ∧ i64ok (2 * k * dx + n))) (
 .need (i64ok (2 * k)) (
 .need (i64ok (2 * k * dy)) (
 .need (i64ok (2 * k * dy + n)) (
 .need (i64ok (2 * n)) (
 .need (((0 : Int) < 2 * n ∧ i64ok (2 * k * dy + n))) (
 .need (i64ok (ax + (2 * k * dx + n) / (2 * n))) (
 .need (i64ok (ay + (2 * k * dy + n) / (2 * n))) (
 .need (1 = 1) (
 .need (mm + 1 ≤ 1000000) (
 .need (i64ok (k + 1)) (
 .ret (.cut (cutAt Try.f11 9) ⟨tmG 73 [(2, .c (.ptr 0 0 0)), (3, .c (.int .i64 dx)), (0, .c (.int .i64 dy)), (0, .c (.int .i64 n)), (0, .c (.own 3 (mm + 1))), (0, .c (.int .i64 (k + 1)))], [.blk [.int .i64 ax, .int .i64 ay] 37, .blk [.int .i64 bx, .int .i64 by_] 37, .own 1 [] 37, .own 1 (out ++ ([(ax + (2 * k * dx + n) / (2 * n), ay + (2 * k * dy + n) / (2 * n))])) 37]⟩))))))))))))))))) (
 .ret (.fin (.tup [.c (.own 0 (mm)), .c (.int .i64 0)]) [.own 1 out 37])) := by kernel_rfl



theorem line_loop (ax ay bx by_ dx dy n : Int) (hx : -2000 ≤ ax ∧ ax ≤ 2000) (hy : -2000 ≤ ay ∧ ay ≤ 2000) (hdx : -n ≤ dx ∧ dx ≤ n) (hdy : -n ≤ dy ∧ dy ≤ n) (hn : 0 < n ∧ n ≤ 4000) (b0 : Base) (hb : b0.n = 0) : ∀ (m k : Nat), (k : Int) + m = n + 1 →
    Sym.Runs Try.prog b0 (cutAt Try.f11 9) (st_line0_9 ax ay bx by_ dx dy n k k (F.lps ax ay dx dy n k)) (Sym.Ends Try.prog Try.f11 0 (.tup [.c (.own 0 (n.toNat + 1)), .c (.int .i64 0)]) [.own 1 (F.lps ax ay dx dy n (n.toNat + 1)) 37]) := by
  intro m
  induction m with
  | zero =>
    intro k hk
    refine Runs.go (cfg := C_floor) L_floor_ok mixed cuts_line0 400 hb (line0_t9 ax ay bx by_ dx dy n k k _) ?_
    have h1 : ¬ (k : Int) ≤ n := by omega
    obtain rfl : k = n.toNat + 1 := by omega
    simp only [T.wp, T.wp_cond, Aft, Int.ofNat_eq_natCast, decide_eq_true_eq, and_true, true_and, Nat.zero_add, Bool.not_eq_true', decide_eq_false_iff_not, h1, if_false, and_self]
  | succ m ih =>
    intro k hk
    refine Runs.go (cfg := C_floor) L_floor_ok mixed cuts_line0 400 hb (line0_t9 ax ay bx by_ dx dy n k k _) ?_
    have h1 : (k : Int) ≤ n := by omega
    have nx := ih (k + 1) (by omega)
    rw [lps_succ] at nx
    unfold F.lp at nx
    have b1 := mul_bd (x := 2 * (k : Int)) (y := dx) (a := 8000) (b := 4000) (by omega) (by omega)
    have b2 := mul_bd (x := 2 * (k : Int)) (y := dy) (a := 8000) (b := 4000) (by omega) (by omega)
    generalize hA : 2 * (k : Int) * dx = A at *
    generalize hB : 2 * (k : Int) * dy = B at *
    have c1 := Int.mul_ediv_add_emod (A + n) (2 * n)
    have c2 := Int.mul_ediv_add_emod (B + n) (2 * n)
    have q1 : -40000000 ≤ (A + n) / (2 * n) ∧ (A + n) / (2 * n) ≤ 40000000 := ⟨Int.le_ediv_of_mul_le (by omega) (by omega), Int.ediv_le_of_le_mul (by omega) (by omega)⟩
    have q2 : -40000000 ≤ (B + n) / (2 * n) ∧ (B + n) / (2 * n) ≤ 40000000 := ⟨Int.le_ediv_of_mul_le (by omega) (by omega), Int.ediv_le_of_le_mul (by omega) (by omega)⟩
    simp only [T.wp, T.wp_cond, Aft, Int.ofNat_eq_natCast, decide_eq_true_eq, and_true, true_and, Nat.zero_add, Bool.not_eq_true', decide_eq_false_iff_not, h1, if_true, List.length_singleton, hA, hB]
    unfold i64ok
    exact ⟨by omega, by omega, by omega, by omega, ⟨by omega, by omega⟩, by omega, by omega, by omega, by omega, ⟨by omega, by omega⟩, by omega, by omega, by omega, by omega, nx⟩
theorem line0_run (ax ay : Int) (bx by_ : Int) (b0 : Base) (hb : b0.n = 0)  : Sym.Runs Try.prog b0 [.code (codeOf Try.f11)] ⟨argsS Try.f11 [.agg [.int .i64 ax, .int .i64 ay], .agg [.int .i64 bx, .int .i64 by_]], ([] : Heap cod)⟩ (Sym.Ends Try.prog Try.f11 0 ((if (F.far ax ay || F.far bx by_) = false ∧ F.ln ax ay bx by_ = 0 then .tup [.c (.slc 0 0 1 true), .c (.int .i64 0)] else .tup [.c (.own 0 (F.line ax ay bx by_).length), .c (.int .i64 (F.lineE ax ay bx by_))])) (if (F.far ax ay || F.far bx by_) = false ∧ F.ln ax ay bx by_ = 0 then [.arr 1 [(ax, ay)] 37] else [.own 1 (F.line ax ay bx by_) 37])) := by
  refine Runs.go (cfg := C_floor) L_floor_ok mixed cuts_line0 400 hb (line0_t0 ax ay bx by_) ?_
  by_cases f1 : F.far ax ay = true
  · simp [T.wp, T.wp_cond, Aft, Int.ofNat_eq_natCast, decide_eq_true_eq, and_true, true_and, Nat.zero_add, Bool.not_eq_true', decide_eq_false_iff_not, f1, F.line, F.lineE]
    rfl
  by_cases f2 : F.far bx by_ = true
  · simp [T.wp, T.wp_cond, Aft, Int.ofNat_eq_natCast, decide_eq_true_eq, and_true, true_and, Nat.zero_add, Bool.not_eq_true', decide_eq_false_iff_not, f1, f2, F.line, F.lineE]
    rfl
  obtain ⟨r1, r2⟩ := far_false f1
  obtain ⟨r3, r4⟩ := far_false f2
  have e1 : F.line ax ay bx by_ = F.lps ax ay (bx - ax) (by_ - ay) (F.ln ax ay bx by_) ((F.ln ax ay bx by_).toNat + 1) := by simp [F.line, f1, f2]
  have e2 : F.lineE ax ay bx by_ = 0 := by simp [F.lineE, f1, f2]
  rw [e1, e2, lps_len]
  simp only [Bool.not_eq_true] at f1 f2
  simp only [f1, f2, Bool.or_self, true_and]
  have hn : F.ln ax ay bx by_ = max (max (max (bx - ax) (-(bx - ax))) (by_ - ay)) (-(by_ - ay)) := rfl
  have m1 := ln_bd ax ay bx by_
  have m2 := ln_le r1 r2 r3 r4
  simp only [T.wp, T.wp_cond, Aft, Int.ofNat_eq_natCast, decide_eq_true_eq, and_true, true_and, Nat.zero_add, Bool.not_eq_true', decide_eq_false_iff_not, f1, f2, Bool.false_eq_true, if_false, ← hn]
  refine ⟨by unfold i64ok; omega, by unfold i64ok; omega, by unfold i64ok; omega, by unfold i64ok; omega, ?_⟩
  by_cases hz : F.ln ax ay bx by_ = 0
  · simp only [hz, if_true, and_self]
  · simp only [hz, if_false]
    exact line_loop ax ay bx by_ _ _ _ r1 r2 ⟨m1.1, m1.2.1⟩ ⟨m1.2.2.1, m1.2.2.2.1⟩ ⟨by omega, m2⟩ b0 hb (F.ln ax ay bx by_ + 1).toNat 0 (by omega)



noncomputable def s_line0 : Summ cod := fun args H => match args, H with
  | [.agg [.int .i64 ax, .int .i64 ay], .agg [.int .i64 bx, .int .i64 by_]], [] => .ret ((if (F.far ax ay || F.far bx by_) = false ∧ F.ln ax ay bx by_ = 0 then .tup [.c (.slc 0 0 1 true), .c (.int .i64 0)] else .tup [.c (.own 0 (F.line ax ay bx by_).length), .c (.int .i64 (F.lineE ax ay bx by_))]), (if (F.far ax ay || F.far bx by_) = false ∧ F.ln ax ay bx by_ = 0 then [.arr 1 [(ax, ay)] 37] else [.own 1 (F.line ax ay bx by_) 37]))
  | _, _ => .fail


theorem line0_sound : Sound Try.prog cod 11 s_line0 := sound_runs (cfg := C_floor) L_floor_ok mixed Try.func11 rfl rfl _ fun args H r news hg b0 hb => by
  unfold s_line0 at hg
  split at hg
  · skip
    cases hg
    exact line0_run _ _ _ _ b0 hb 
  · exact hg.elim

noncomputable def L_line0 : Sums cod := (11, .p s_line0) :: L_floor
noncomputable def C_line0 : Cfg cod := mkC L_line0

theorem L_line0_ok : Snd Try.prog cod L_line0 := .cons line0_sound L_floor_ok



noncomputable def s_line : Summ cod := fun args H => match args, H with
  | [.agg [.int .i64 ax, .int .i64 ay], .agg [.int .i64 bx, .int .i64 by_]], [] => .ret (.tup [.c (.own 0 (F.line ax ay bx by_).length), .c (.int .i64 (F.lineE ax ay bx by_))], [.own 1 (F.line ax ay bx by_) 37])
  | _, _ => .fail


theorem line_sound : Sound Try.prog cod 11 s_line := line0_sound.arr_own fun args H r news hg => by
  unfold s_line at hg
  split at hg
  · rename_i ax ay bx by_
    cases hg
    by_cases h : (F.far ax ay || F.far bx by_) = false ∧ F.ln ax ay bx by_ = 0
    · have hl : 0 < (F.line ax ay bx by_).length := by simp [F.line, h.1, lps_len]
      refine .inr ⟨.tup [.c (.slc 0 0 (F.line ax ay bx by_).length true), .c (.int .i64 (F.lineE ax ay bx by_))], [.arr 1 (F.line ax ay bx by_) 37], ArrOwn.tup (cod := cod) (N := 0) 1 (F.line ax ay bx by_) 37 [.int .i64 (F.lineE ax ay bx by_)] rfl hl, ?_⟩
      have e1 : F.line ax ay bx by_ = [(ax, ay)] := by simp [F.line, h.1, h.2, F.lps, F.lp, List.range_succ]
      have e2 : F.lineE ax ay bx by_ = 0 := by simp [F.lineE, h.1]
      rw [e1, e2]
      show (T.ret _).gives _
      simp only [T.gives, T.wp, h, and_self, if_true]
      rfl
    · refine .inl ?_
      show (T.ret _).gives _
      simp only [T.gives, T.wp, h, if_false]
  · exact hg.elim

noncomputable def L_line : Sums cod := (11, .p s_line) :: L_line0
noncomputable def C_line : Cfg cod := mkC L_line

theorem L_line_ok : Snd Try.prog cod L_line := .cons line_sound L_line0_ok


noncomputable def s_on : Summ cod := fun args H => match H with
  | [] => match rd args with
    | some [[_, ax, ay], [_, bx, by_], [_, cx, cy]] => (.need ((-2000 ≤ ax ∧ ax ≤ 2000) ∧ (-2000 ≤ ay ∧ ay ≤ 2000) ∧ (-2000 ≤ bx ∧ bx ≤ 2000) ∧ (-2000 ≤ by_ ∧ by_ ≤ 2000) ∧ (-1000000 ≤ cx ∧ cx ≤ 1000000) ∧ (-1000000 ≤ cy ∧ cy ≤ 1000000)) (.ret (.c (.bool (F.on ax ay bx by_ cx cy)), [])))
    | _ => .fail
  | _ => .fail

theorem on_tree (ax ay bx by_ cx cy : Int) : symF C_line [] Try.f16.results.toList (List.length ([] : Heap cod)) 400 [.code (codeOf Try.f16)] ⟨argsS Try.f16 [.agg [.int .i64 ax, .int .i64 ay], .agg [.int .i64 bx, .int .i64 by_], .agg [.int .i64 cx, .int .i64 cy]], []⟩ =
.need (i64ok (bx - ax)) (
.need (i64ok (by_ - ay)) (
.need (i64ok (-(bx - ax))) (
.need (i64ok (-(by_ - ay))) (
 cond (decide (max (F.abs (bx - ax)) (F.abs (by_ - ay)) = 0)) (
 .ret (.fin (.c (.bool (decide (cx = ax) && decide (cy = ay)))) [])) (
 .need (i64ok (cx - ax)) (
 .need (i64ok (-(cx - ax))) (
 .need (i64ok (-(by_ - ay))) (
 .need (i64ok (-(bx - ax))) (
 cond (decide (F.abs (bx - ax) < F.abs (by_ - ay))) (
  .need (i64ok (cy - ay)) (
  .need (i64ok (-(cy - ay))) (
  cond (decide (F.abs (cy - ay) ≤ max (F.abs (bx - ax)) (F.abs (by_ - ay)))) (
   .need (i64ok (2 * F.abs (cy - ay))) (
   .need (i64ok (2 * F.abs (cy - ay) * (bx - ax))) (
   .need (i64ok (2 * F.abs (cy - ay) * (bx - ax) + max (F.abs (bx - ax)) (F.abs (by_ - ay)))) (
   .need (i64ok (2 * max (F.abs (bx - ax)) (F.abs (by_ - ay)))) (
   .need (((0 : Int) < 2 * max (F.abs (bx - ax)) (F.abs (by_ - ay)) ∧ ((-4000000000000000000 : Int) ≤ 2 * F.abs (cy - ay) * (bx - ax) + max (F.abs (bx - ax)) (F.abs (by_ - ay)) ∧ (2 * F.abs (cy - ay) * (bx - ax) + max (F.abs (bx - ax)) (F.abs (by_ - ay)) ≤ 4000000000000000000 ∧ 2 * max (F.abs (bx - ax)) (F.abs (by_ - ay)) ≤ 4000000000000000000)))) (
   .need (i64ok   (ax +     (2 * F.abs (cy - ay) * (bx - ax) + max (F.abs (bx - ax)) (F.abs (by_ - ay))) /       (2 * max (F.abs (bx - ax)) (F.abs (by_ - ay))))) (
   cond (decide   (cx =     ax +       (2 * F.abs (cy - ay) * (bx - ax) + max (F.abs (bx - ax)) (F.abs (by_ - ay))) /         (2 * max (F.abs (bx - ax)) (F.abs (by_ - ay))))) (
    .need (i64ok (2 * F.abs (cy - ay))) (
    .need (i64ok (2 * F.abs (cy - ay) * (by_ - ay))) (
    .need (i64ok (2 * F.abs (cy - ay) * (by_ - ay) + max (F.abs (bx - ax)) (F.abs (by_ - ay)))) (
    .need (i64ok (2 * max (F.abs (bx - ax)) (F.abs (by_ - ay)))) (
    .need (((0 : Int) < 2 * max (F.abs (bx - ax)) (F.abs (by_ - ay)) ∧ ((-4000000000000000000 : Int) ≤ 2 * F.abs (cy - ay) * (by_ - ay) + max (F.abs (bx - ax)) (F.abs (by_ - ay)) ∧ (2 * F.abs (cy - ay) * (by_ - ay) + max (F.abs (bx - ax)) (F.abs (by_ - ay)) ≤ 4000000000000000000 ∧ 2 * max (F.abs (bx - ax)) (F.abs (by_ - ay)) ≤ 4000000000000000000)))) (
    .need (i64ok   (ay +     (2 * F.abs (cy - ay) * (by_ - ay) + max (F.abs (bx - ax)) (F.abs (by_ - ay))) /       (2 * max (F.abs (bx - ax)) (F.abs (by_ - ay))))) (
    .ret (.fin (.c (.bool (decide   (cy =     ay +       (2 * F.abs (cy - ay) * (by_ - ay) + max (F.abs (bx - ax)) (F.abs (by_ - ay))) /         (2 * max (F.abs (bx - ax)) (F.abs (by_ - ay))))))) [])))))))) (
    .ret (.fin (.c (.bool false)) []))))))))) (
   .ret (.fin (.c (.bool false)) []))))) (
  cond (decide (F.abs (cx - ax) ≤ max (F.abs (bx - ax)) (F.abs (by_ - ay)))) (
   .need (i64ok (2 * F.abs (cx - ax))) (
   .need (i64ok (2 * F.abs (cx - ax) * (bx - ax))) (
   .need (i64ok (2 * F.abs (cx - ax) * (bx - ax) + max (F.abs (bx - ax)) (F.abs (by_ - ay)))) (
   .need (i64ok (2 * max (F.abs (bx - ax)) (F.abs (by_ - ay)))) (
   .need (((0 : Int) < 2 * max (F.abs (bx - ax)) (F.abs (by_ - ay)) ∧ ((-4000000000000000000 : Int) ≤ 2 * F.abs (cx - ax) * (bx - ax) + max (F.abs (bx - ax)) (F.abs (by_ - ay)) ∧ (2 * F.abs (cx - ax) * (bx - ax) + max (F.abs (bx - ax)) (F.abs (by_ - ay)) ≤ 4000000000000000000 ∧ 2 * max (F.abs (bx - ax)) (F.abs (by_ - ay)) ≤ 4000000000000000000)))) (
   .need (i64ok   (ax +     (2 * F.abs (cx - ax) * (bx - ax) + max (F.abs (bx - ax)) (F.abs (by_ - ay))) /       (2 * max (F.abs (bx - ax)) (F.abs (by_ - ay))))) (
   cond (decide   (cx =     ax +       (2 * F.abs (cx - ax) * (bx - ax) + max (F.abs (bx - ax)) (F.abs (by_ - ay))) /         (2 * max (F.abs (bx - ax)) (F.abs (by_ - ay))))) (
    .need (i64ok (2 * F.abs (cx - ax))) (
    .need (i64ok (2 * F.abs (cx - ax) * (by_ - ay))) (
    .need (i64ok (2 * F.abs (cx - ax) * (by_ - ay) + max (F.abs (bx - ax)) (F.abs (by_ - ay)))) (
    .need (i64ok (2 * max (F.abs (bx - ax)) (F.abs (by_ - ay)))) (
    .need (((0 : Int) < 2 * max (F.abs (bx - ax)) (F.abs (by_ - ay)) ∧ ((-4000000000000000000 : Int) ≤ 2 * F.abs (cx - ax) * (by_ - ay) + max (F.abs (bx - ax)) (F.abs (by_ - ay)) ∧ (2 * F.abs (cx - ax) * (by_ - ay) + max (F.abs (bx - ax)) (F.abs (by_ - ay)) ≤ 4000000000000000000 ∧ 2 * max (F.abs (bx - ax)) (F.abs (by_ - ay)) ≤ 4000000000000000000)))) (
    .need (i64ok   (ay +     (2 * F.abs (cx - ax) * (by_ - ay) + max (F.abs (bx - ax)) (F.abs (by_ - ay))) /       (2 * max (F.abs (bx - ax)) (F.abs (by_ - ay))))) (
    .ret (.fin (.c (.bool (decide   (cy =     ay +       (2 * F.abs (cx - ax) * (by_ - ay) + max (F.abs (bx - ax)) (F.abs (by_ - ay))) /         (2 * max (F.abs (bx - ax)) (F.abs (by_ - ay))))))) [])))))))) (
    .ret (.fin (.c (.bool false)) []))))))))) (
   .ret (.fin (.c (.bool false)) [])))))))))))) := by kernel_rfl

theorem on_sound : Sound Try.prog cod 16 s_on := sound_flat (cfg := C_line) L_line_ok mixed Try.func16 rfl rfl _ 400 fun args H r news hg => by
  unfold s_on at hg
  split at hg
  · split at hg
    · rename_i _ ax ay _ bx by_ _ cx cy hrd
      have hargs := rd_spec hrd
      simp only [List.map, wr1, ints, List.tail] at hargs
      subst hargs
      clear hrd
      rw [on_tree]
      simp only [T.gives, T.wp, Prod.mk.injEq] at hg
      obtain ⟨⟨r1, r2, r3, r4, r5, r6⟩, rfl, rfl⟩ := hg
      simp only [T.wp, T.wp_cond, Fin.fin.injEq, SV.c.injEq, SV.tup.injEq, SV.agg.injEq, List.cons.injEq, Cell.bool.injEq, Cell.int.injEq, and_true, true_and, decide_eq_true_eq]
      have m1 := ln_bd ax ay bx by_
      have m2 := ln_le r1 r2 r3 r4
      have e1 := ln_abs ax ay bx by_
      have hkx : 0 ≤ F.abs (cx - ax) ∧ F.abs (cx - ax) ≤ 1002000 := by unfold F.abs; split <;> omega
      have hky : 0 ≤ F.abs (cy - ay) ∧ F.abs (cy - ay) ≤ 1002000 := by unfold F.abs; split <;> omega
      unfold F.on F.onk
      simp only [e1]
      generalize F.ln ax ay bx by_ = n at *
      generalize F.abs (cx - ax) = kx at *
      generalize F.abs (cy - ay) = ky at *
      generalize F.abs (bx - ax) = ux at *
      generalize F.abs (by_ - ay) = uy at *
      refine ⟨by unfold i64ok; omega, by unfold i64ok; omega, by unfold i64ok; omega, by unfold i64ok; omega, ?_⟩
      by_cases hn : n = 0
      · simp [hn]
      have p1 := mul_bd (x := 2 * kx) (y := bx - ax) (a := 2004000) (b := 4000) (by omega) (by omega)
      have p2 := mul_bd (x := 2 * kx) (y := by_ - ay) (a := 2004000) (b := 4000) (by omega) (by omega)
      have p3 := mul_bd (x := 2 * ky) (y := bx - ax) (a := 2004000) (b := 4000) (by omega) (by omega)
      have p4 := mul_bd (x := 2 * ky) (y := by_ - ay) (a := 2004000) (b := 4000) (by omega) (by omega)
      generalize 2 * kx * (bx - ax) = A1 at *
      generalize 2 * kx * (by_ - ay) = A2 at *
      generalize 2 * ky * (bx - ax) = A3 at *
      generalize 2 * ky * (by_ - ay) = A4 at *
      have q1 := quot_bd (a := A1 + n) (b := 2 * n) (M := 8016004000) (by omega) (by omega) (by omega)
      have q2 := quot_bd (a := A2 + n) (b := 2 * n) (M := 8016004000) (by omega) (by omega) (by omega)
      have q3 := quot_bd (a := A3 + n) (b := 2 * n) (M := 8016004000) (by omega) (by omega) (by omega)
      have q4 := quot_bd (a := A4 + n) (b := 2 * n) (M := 8016004000) (by omega) (by omega) (by omega)
      generalize (A1 + n) / (2 * n) = Q1 at *
      generalize (A2 + n) / (2 * n) = Q2 at *
      generalize (A3 + n) / (2 * n) = Q3 at *
      generalize (A4 + n) / (2 * n) = Q4 at *
      simp only [hn, if_false]
      unfold i64ok
      refine ⟨by omega, by omega, by omega, by omega, ?_⟩
      by_cases h1 : ux < uy
      · simp only [h1, if_true]
        refine ⟨by omega, by omega, ?_⟩
        by_cases h2 : ky ≤ n
        · simp only [h2, if_true, true_and]
          refine ⟨by omega, by omega, by omega, by omega, ⟨by omega, by omega, by omega, by omega⟩, by omega, ?_⟩
          by_cases h3 : cx = ax + Q3
          · simp only [h3, if_true, true_and]
            refine ⟨by omega, by omega, by omega, by omega, ⟨by omega, by omega, by omega, by omega⟩, by omega, trivial⟩
          · simp [h3]
        · simp [h2]
      · simp only [h1, if_false]
        by_cases h2 : kx ≤ n
        · simp only [h2, if_true, true_and]
          refine ⟨by omega, by omega, by omega, by omega, ⟨by omega, by omega, by omega, by omega⟩, by omega, ?_⟩
          by_cases h3 : cx = ax + Q1
          · simp only [h3, if_true, true_and]
            refine ⟨by omega, by omega, by omega, by omega, ⟨by omega, by omega, by omega, by omega⟩, by omega, trivial⟩
          · simp [h3]
        · simp [h2]
    · exact hg.elim
  · exact hg.elim

noncomputable def L_on : Sums cod := (16, .p s_on) :: L_line
noncomputable def C_on : Cfg cod := mkC L_on

theorem L_on_ok : Snd Try.prog cod L_on := .cons on_sound L_line_ok

end
end Go.Proofs.Ytbdhppceihcbnaa
