/- Part of a claim: lemmas on the way to its theorem; each states its own conditions. -/
import Derived.Test.YtjffboggpofbfaaBd24
import Derived.Test.YtjffboggpofbfaaSym30
import Derived.Test.YtjffboggpofbfaaHuR
namespace Go.Proofs.Ytjffboggpofbfaa
open Sym Go.RowKit
noncomputable section
set_option maxRecDepth 100000
set_option maxHeartbeats 4000000



namespace F
def elE : List Int → Int
  | [] => 0
  | c :: t => if c < -1 ∨ 1099511627776 < c then 4 else elE t
def rwE (n : Nat) (r : List Int) : Int := if 32 < r.length then 2 else if r.length ≠ n then 3 else elE r
def rwsE (n : Nat) : List (List Int) → Int
  | [] => 0
  | r :: t => if rwE n r = 0 then rwsE n t else rwE n r
def cE (l : List (List Int)) (ms : Int) : Int := if 32 < l.length then 2 else if rwsE (l.getD 0 []).length l = 0 then (if ms < 0 ∨ 1099511627776 < ms then 4 else 0) else rwsE (l.getD 0 []).length l
end F


theorem dropc {α : Type} (l : List α) (d : α) (k : Nat) (h : k < l.length) : l.drop k = l.getD k d :: l.drop (k + 1) := by
  rw [List.drop_eq_getElem_cons h, List.getD_eq_getElem?_getD, List.getElem?_eq_getElem h]
  rfl
theorem inb_el (c : Int) : F.inb c (-1) 1099511627776 = decide (¬ (c < -1 ∨ 1099511627776 < c)) := by
  unfold F.inb
  by_cases h1 : c < -1 <;> by_cases h2 : 1099511627776 < c <;> simp [h1, h2] <;> omega
theorem inb_ms (c : Int) : F.inb c 0 1099511627776 = decide (¬ (c < 0 ∨ 1099511627776 < c)) := by
  unfold F.inb
  by_cases h1 : c < 0 <;> by_cases h2 : 1099511627776 < c <;> simp [h1, h2] <;> omega


def cuts_ckc : Cuts := [(4, [0, 12, 1, 13, 14], 1), (100005, [0, 12, 1, 13, 14], 2), (100008, [0, 12, 1, 13, 14, 6], 3), (11, [30, 0, 12, 1, 13, 14, 31, 32], 3), (100016, [0, 12, 1, 13, 14], 3)]
def cuts_ckc_r5 : Cuts := [(4, [0, 12, 1, 13, 14], 1), (100008, [0, 12, 1, 13, 14, 6], 3), (11, [30, 0, 12, 1, 13, 14, 31, 32], 3), (100016, [0, 12, 1, 13, 14], 3)]
def cuts_ckc_r5b : Cuts := [(4, [0, 12, 1, 13, 14], 1), (100008, [0, 12, 1, 13, 14, 6], 3), (11, [30, 0, 12, 1, 13, 14, 31, 32], 3), (100016, [0, 12, 1, 13, 14], 3)]
def cuts_ckc_r8 : Cuts := [(4, [0, 12, 1, 13, 14], 1), (100005, [0, 12, 1, 13, 14], 2), (11, [30, 0, 12, 1, 13, 14, 31, 32], 3), (100016, [0, 12, 1, 13, 14], 3)]
def cuts_ckc_r8b : Cuts := [(4, [0, 12, 1, 13, 14], 1), (100005, [0, 12, 1, 13, 14], 2), (11, [30, 0, 12, 1, 13, 14, 31, 32], 3), (100016, [0, 12, 1, 13, 14], 3)]
def cuts_ckc_r16 : Cuts := [(4, [0, 12, 1, 13, 14], 1), (100005, [0, 12, 1, 13, 14], 2), (100008, [0, 12, 1, 13, 14, 6], 3), (11, [30, 0, 12, 1, 13, 14, 31, 32], 3)]

theorem ckc_t0 (l : List (List Int)) (l_t : Bool) (ms : Int) : symF C_in cuts_ckc Try.f11.results.toList 1 400 [.code (codeOf Try.f11)] ⟨argsS Try.f11 [.c (.slc 0 0 (List.length l) l_t), .c (.int .i64 ms)], ([.nin 0 l none] : Heap cod)⟩ =
 cond (decide (32 < Int.ofNat (List.length l))) (
 .ret (.fin (.c (.int .i64 2)) [])) (
 .ret (.cut (cutAt Try.f11 4) ⟨tmG 35 [(0, .c (.slc 0 0 (List.length l) l_t)), (0, .c (.int .i64 ms)), (10, .c (.slc 0 0 (List.length l) l_t)), (0, .c (.int .i64 (Int.ofNat (List.length l)))), (0, .c (.int .i64 0))], [.nin 0 (l) none]⟩)) := by kernel_rfl


noncomputable def st_ckc_4 (l : List (List Int)) (l_t : Bool) (ms : Int) (i : Int) : St cod := ⟨tmG 35 [(0, .c (.slc 0 0 (List.length l) l_t)), (0, .c (.int .i64 ms)), (10, .c (.slc 0 0 (List.length l) l_t)), (0, .c (.int .i64 (Int.ofNat (List.length l)))), (0, .c (.int .i64 i))], [.nin 0 (l) none]⟩


theorem ckc_t4 (l : List (List Int)) (l_t : Bool) (ms : Int) (i : Int) : symF C_in cuts_ckc Try.f11.results.toList 1 400 (cutAt Try.f11 4) (st_ckc_4 l l_t ms i) =
 cond (decide (i < Int.ofNat (List.length l))) (
 .ret (.cut (regAt Try.f11 5) ⟨tmG 35 [(0, .c (.slc 0 0 (List.length l) l_t)), (0, .c (.int .i64 ms)), (10, .c (.slc 0 0 (List.length l) l_t)), (0, .c (.int .i64 (Int.ofNat (List.length l)))), (0, .c (.int .i64 i))], [.nin 0 (l) none]⟩)) (
 cond (decide (ms < 0)) (
  .ret (.fin (.c (.int .i64 4)) [])) (
  cond (decide (1099511627776 < ms)) (
   .ret (.fin (.c (.int .i64 4)) [])) (
   .ret (.fin (.c (.int .i64 0)) [])))) := by kernel_rfl


noncomputable def st_ckc_r5 (l : List (List Int)) (l_t : Bool) (ms : Int) (i : Int) : St cod := ⟨tmG 35 [(0, .c (.slc 0 0 (List.length l) l_t)), (0, .c (.int .i64 ms)), (10, .c (.slc 0 0 (List.length l) l_t)), (0, .c (.int .i64 (Int.ofNat (List.length l)))), (0, .c (.int .i64 i))], [.nin 0 (l) none]⟩


noncomputable def st_ckc_r5b (l : List (List Int)) (l_t : Bool) (ms : Int) (i : Int) (j : Nat) (q : List Int) : St cod := ⟨tmG 35 [(0, .c (.slc 0 0 (List.length l) l_t)), (0, .c (.int .i64 ms)), (10, .c (.slc 0 0 (List.length l) l_t)), (0, .c (.int .i64 (Int.ofNat (List.length l)))), (0, .c (.int .i64 i))], ([.nin 0 l (some (j, .slc 1 0 (List.length q) false)), .inp 0 q] : Heap cod)⟩


theorem ckc_tr5b (l : List (List Int)) (l_t : Bool) (ms : Int) (i : Int) (j : Nat) (q : List Int) : symF C_in cuts_ckc_r5b Try.f11.results.toList 1 400 (regAt Try.f11 5) (st_ckc_r5b l l_t ms i j q) =
.need (((0 : Int) ≤ i ∧ i < Int.ofNat (List.length l))) (
.need ((0 + Int.toNat i = j ∧ j < List.length l)) (
 cond (decide (32 < Int.ofNat (List.length q))) (
 .ret (.fin (.c (.int .i64 2)) [])) (
 .ret (.cut (regAt Try.f11 8) ⟨tmG 35 [(0, .c (.slc 0 0 (List.length l) l_t)), (0, .c (.int .i64 ms)), (4, .c (.slc 1 0 (List.length q) false)), (5, .c (.slc 0 0 (List.length l) l_t)), (0, .c (.int .i64 (Int.ofNat (List.length l)))), (0, .c (.int .i64 i))], [.nin 0 (l) (some ((j), .slc 1 0 (List.length q) false)), .inp 0 q]⟩)))) := by kernel_rfl


noncomputable def st_ckc_r8 (l : List (List Int)) (l_t : Bool) (ms : Int) (i : Int) (j : Nat) (q : List Int) : St cod := ⟨tmG 35 [(0, .c (.slc 0 0 (List.length l) l_t)), (0, .c (.int .i64 ms)), (4, .c (.slc 1 0 (List.length q) false)), (5, .c (.slc 0 0 (List.length l) l_t)), (0, .c (.int .i64 (Int.ofNat (List.length l)))), (0, .c (.int .i64 i))], [.nin 0 (l) (some ((j), .slc 1 0 (List.length q) false)), .inp 0 q]⟩


noncomputable def st_ckc_r8b (l : List (List Int)) (l_t : Bool) (ms : Int) (i : Int) (q q0 : List Int) : St cod := ⟨tmG 35 [(0, .c (.slc 0 0 (List.length l) l_t)), (0, .c (.int .i64 ms)), (4, .c (.slc 1 0 (List.length q) false)), (5, .c (.slc 0 0 (List.length l) l_t)), (0, .c (.int .i64 (Int.ofNat (List.length l)))), (0, .c (.int .i64 i))], ([.nin 0 l (some (0, .slc 2 0 (List.length q0) false)), .inp 0 q, .inp 0 q0] : Heap cod)⟩


theorem ckc_tr8b (l : List (List Int)) (l_t : Bool) (ms : Int) (i : Int) (q q0 : List Int) : symF C_in cuts_ckc_r8b Try.f11.results.toList 1 400 (regAt Try.f11 8) (st_ckc_r8b l l_t ms i q q0) =
.need (((0 : Int) ≤ 0 ∧ (0 : Int) < Int.ofNat (List.length l))) (
.need ((0 + Int.toNat 0 = 0 ∧ (0 : Nat) < List.length l)) (
 cond (!decide (Int.ofNat (List.length q) = Int.ofNat (List.length q0))) (
 .ret (.fin (.c (.int .i64 3)) [])) (
 .ret (.cut (cutAt Try.f11 11) ⟨tmG 17 [(0, .c (.slc 0 0 (List.length l) l_t)), (0, .c (.int .i64 ms)), (10, .c (.slc 0 0 (List.length l) l_t)), (0, .c (.int .i64 (Int.ofNat (List.length l)))), (0, .c (.int .i64 i)), (15, .c (.slc 1 0 (List.length q) false)), (0, .c (.int .i64 (Int.ofNat (List.length q)))), (0, .c (.int .i64 0))], [.nin 0 (l) (some (0, .slc 2 0 (List.length q0) false)), .inp 0 q, .inp 0 q0]⟩)))) := by kernel_rfl


noncomputable def st_ckc_11 (l : List (List Int)) (l_t : Bool) (ms : Int) (i : Int) (q q0 : List Int) (k : Int) : St cod := ⟨tmG 17 [(0, .c (.slc 0 0 (List.length l) l_t)), (0, .c (.int .i64 ms)), (10, .c (.slc 0 0 (List.length l) l_t)), (0, .c (.int .i64 (Int.ofNat (List.length l)))), (0, .c (.int .i64 i)), (15, .c (.slc 1 0 (List.length q) false)), (0, .c (.int .i64 (Int.ofNat (List.length q)))), (0, .c (.int .i64 k))], [.nin 0 (l) (some (0, .slc 2 0 (List.length q0) false)), .inp 0 q, .inp 0 q0]⟩


theorem ckc_t11 (l : List (List Int)) (l_t : Bool) (ms : Int) (i : Int) (q q0 : List Int) (k : Int) : symF C_in cuts_ckc Try.f11.results.toList 1 400 (cutAt Try.f11 11) (st_ckc_11 l l_t ms i q q0 k) =
 cond (decide (k < Int.ofNat (List.length q))) (
 .need (((0 : Int) ≤ k ∧ k < Int.ofNat (List.length q))) (
 .need (0 + Int.toNat k < List.length q) (
 cond (decide (List.getD q (0 + Int.toNat k) (cod 0).d < -1)) (
  .ret (.fin (.c (.int .i64 4)) [])) (
  cond (decide (1099511627776 < List.getD q (0 + Int.toNat k) (cod 0).d)) (
   .ret (.fin (.c (.int .i64 4)) [])) (
   .need (i64ok (k + 1)) (
   .ret (.cut (cutAt Try.f11 11) ⟨tmG 17 [(0, .c (.slc 0 0 (List.length l) l_t)), (0, .c (.int .i64 ms)), (10, .c (.slc 0 0 (List.length l) l_t)), (0, .c (.int .i64 (Int.ofNat (List.length l)))), (0, .c (.int .i64 i)), (15, .c (.slc 1 0 (List.length q) false)), (0, .c (.int .i64 (Int.ofNat (List.length q)))), (0, .c (.int .i64 (k + 1)))], [.nin 0 (l) (some (0, .slc 2 0 (List.length q0) false)), .inp 0 q, .inp 0 q0]⟩))))))) (
 .ret (.cut (regAt Try.f11 16) ⟨tmG 35 [(0, .c (.slc 0 0 (List.length l) l_t)), (0, .c (.int .i64 ms)), (10, .c (.slc 0 0 (List.length l) l_t)), (0, .c (.int .i64 (Int.ofNat (List.length l)))), (0, .c (.int .i64 i))], [.nin 0 (l) (some (0, .slc 2 0 (List.length q0) false)), .inp 0 q, .inp 0 q0]⟩)) := by kernel_rfl


noncomputable def st_ckc_r16 (l : List (List Int)) (l_t : Bool) (ms : Int) (i : Int) : St cod := ⟨tmG 35 [(0, .c (.slc 0 0 (List.length l) l_t)), (0, .c (.int .i64 ms)), (10, .c (.slc 0 0 (List.length l) l_t)), (0, .c (.int .i64 (Int.ofNat (List.length l)))), (0, .c (.int .i64 i))], [.nin 0 (l) none]⟩


theorem ckc_tr16 (l : List (List Int)) (l_t : Bool) (ms : Int) (i : Int) : symF C_in cuts_ckc_r16 Try.f11.results.toList 1 400 (regAt Try.f11 16) (st_ckc_r16 l l_t ms i) =
.need (i64ok (i + 1)) (
.ret (.cut (cutAt Try.f11 4) ⟨tmG 35 [(0, .c (.slc 0 0 (List.length l) l_t)), (0, .c (.int .i64 ms)), (10, .c (.slc 0 0 (List.length l) l_t)), (0, .c (.int .i64 (Int.ofNat (List.length l)))), (0, .c (.int .i64 (i + 1)))], [.nin 0 (l) none]⟩)) := by kernel_rfl



theorem ckc_l11 (l : List (List Int)) (l_t : Bool) (ms : Int) (b0 : Base) (hb : b0.n = 1) (R : Int) (i : Int) (hi : 0 ≤ i ∧ i ≤ 32) (q q0 : List Int) (hq : q.length ≤ 32) (nx : F.elE q = 0 → Sym.Runs Try.prog b0 (cutAt Try.f11 4) (st_ckc_4 l l_t ms (i + 1)) (Sym.Ends Try.prog Try.f11 1 (.c (.int .i64 R)) [])) (bad : F.elE q ≠ 0 → R = F.elE q) :
    ∀ (r k : Nat), k + r = q.length → F.elE q = F.elE (q.drop k) → Sym.Runs Try.prog b0 (cutAt Try.f11 11) (st_ckc_11 l l_t ms i q q0 (k : Int)) (Sym.Ends Try.prog Try.f11 1 (.c (.int .i64 R)) []) := by
  have ed : (cod 0).d = (0 : Int) := rfl
  intro r
  induction r with
  | zero =>
    intro k hk hR
    rw [List.drop_eq_nil_of_le (by omega)] at hR
    refine Runs.go (cfg := C_in) L_in_ok mixed cuts_ckc 400 hb (ckc_t11 l l_t ms i q q0 (k : Int)) ?_
    simp only [T.wp, T.wp_cond, Aft, Int.ofNat_eq_natCast, decide_eq_true_eq, and_true, Nat.zero_add]
    refine ite_no (by omega) (Runs.close 0 rfl ?_)
    refine Runs.weaken (st' := st_ckc_r16 l l_t ms i) (fun a w hR => fit_rel [0, 12, 1, 13, 14] 1 (by omega) hR) ?_
    refine Runs.go (cfg := C_in) L_in_ok mixed cuts_ckc_r16 400 hb (ckc_tr16 l l_t ms i) ?_
    simp only [T.wp, Aft, Int.ofNat_eq_natCast]
    exact ⟨by unfold i64ok; omega, nx hR⟩
  | succ r ih =>
    intro k hk hR
    have nx2 := ih (k + 1) (by omega)
    rw [Int.natCast_succ] at nx2
    have hd := dropc q 0 k (by omega)
    refine Runs.go (cfg := C_in) L_in_ok mixed cuts_ckc 400 hb (ckc_t11 l l_t ms i q q0 (k : Int)) ?_
    simp only [T.wp, T.wp_cond, Aft, Int.ofNat_eq_natCast, decide_eq_true_eq, and_true, Nat.zero_add, Int.toNat_natCast, ed]
    rw [hd, F.elE] at hR
    generalize q.getD k 0 = c at *
    refine ite_yes (by omega) ⟨⟨by omega, by omega⟩, by omega, ?_⟩
    by_cases g : c < -1 ∨ 1099511627776 < c
    · rw [if_pos g] at hR
      have := bad (by rw [hR]; decide)
      rw [hR] at this
      subst this
      rcases g with g | g
      · exact ite_yes g (by first | rfl | trivial)
      · exact ite_no (by omega) (ite_yes g (by first | rfl | trivial))
    · rw [if_neg g] at hR
      exact ite_no (by omega) (ite_no (by omega) ⟨by unfold i64ok; omega, nx2 hR⟩)
theorem ckc_run (l : List (List Int)) (l_t : Bool) (ms : Int) (b0 : Base) (hb : b0.n = 1)  : Sym.Runs Try.prog b0 [.code (codeOf Try.f11)] ⟨argsS Try.f11 [.c (.slc 0 0 (List.length l) l_t), .c (.int .i64 ms)], ([.nin 0 l none] : Heap cod)⟩ (Sym.Ends Try.prog Try.f11 1 (.c (.int .i64 (F.cE l ms))) []) := by
  have ed : (cod 0).d = (0 : Int) := rfl
  refine Runs.go (cfg := C_in) L_in_ok mixed cuts_ckc 400 hb (ckc_t0 l l_t ms) ?_
  unfold F.cE
  by_cases h32 : 32 < l.length
  · rw [if_pos h32]
    simp only [T.wp, T.wp_cond, Aft, Int.ofNat_eq_natCast, decide_eq_true_eq, and_true]
    exact ite_yes (by omega) (by first | rfl | trivial)
  rw [if_neg h32]
  have h4 : ∀ R : Int, R = (if F.rwsE (l.getD 0 []).length l = 0 then (if ms < 0 ∨ 1099511627776 < ms then 4 else 0) else F.rwsE (l.getD 0 []).length l) → ∀ (r i : Nat), i + r = l.length → F.rwsE (l.getD 0 []).length l = F.rwsE (l.getD 0 []).length (l.drop i) → Sym.Runs Try.prog b0 (cutAt Try.f11 4) (st_ckc_4 l l_t ms (i : Int)) (Sym.Ends Try.prog Try.f11 1 (.c (.int .i64 R)) []) := by
    intro R hR r
    induction r with
    | zero =>
      intro i hi hP
      rw [List.drop_eq_nil_of_le (by omega), F.rwsE] at hP
      rw [if_pos hP] at hR
      refine Runs.go (cfg := C_in) L_in_ok mixed cuts_ckc 400 hb (ckc_t4 l l_t ms (i : Int)) ?_
      simp only [T.wp, T.wp_cond, Aft, Int.ofNat_eq_natCast, decide_eq_true_eq, and_true]
      refine ite_no (by omega) ?_
      by_cases g : ms < 0 ∨ 1099511627776 < ms
      · rw [if_pos g] at hR
        subst hR
        rcases g with g | g
        · exact ite_yes g (by first | rfl | trivial)
        · exact ite_no (by omega) (ite_yes g (by first | rfl | trivial))
      · rw [if_neg g] at hR
        subst hR
        exact ite_no (by omega) (ite_no (by omega) (by first | rfl | trivial))
    | succ r ih =>
      intro i hi hP
      have hil : i < l.length := by omega
      have h0l : 0 < l.length := by omega
      have nx := ih (i + 1) (by omega)
      rw [Int.natCast_succ] at nx
      rw [dropc l [] i hil, F.rwsE] at hP
      refine Runs.go (cfg := C_in) L_in_ok mixed cuts_ckc 400 hb (ckc_t4 l l_t ms (i : Int)) ?_
      simp only [T.wp, T.wp_cond, Aft, Int.ofNat_eq_natCast, decide_eq_true_eq, and_true]
      refine ite_yes (by omega) ?_
      refine Runs.open 0 i rfl hil rfl ?_
      refine Runs.weaken (st' := st_ckc_r5b l l_t ms (i : Int) i (l.getD i [])) (fun a w hR => hR) ?_
      generalize l.getD i [] = q at *
      refine Runs.go (cfg := C_in) L_in_ok mixed cuts_ckc_r5b 400 hb (ckc_tr5b l l_t ms (i : Int) i q) ?_
      simp only [T.wp, T.wp_cond, Aft, Int.ofNat_eq_natCast, decide_eq_true_eq, and_true, true_and, Nat.zero_add, Int.toNat_natCast]
      refine ⟨⟨by omega, by omega⟩, hil, ?_⟩
      unfold F.rwE at hP
      by_cases c : 32 < q.length
      · rw [if_pos c, if_neg (by decide)] at hP
        rw [hP, if_neg (by decide)] at hR
        subst hR
        exact ite_yes (by omega) (by first | rfl | trivial)
      rw [if_neg c] at hP
      refine ite_no (by omega) ?_
      refine Runs.open 0 0 rfl h0l rfl ?_
      refine Runs.weaken (st' := st_ckc_r8b l l_t ms (i : Int) q (l.getD 0 [])) (fun a w hR => hR) ?_
      generalize l.getD 0 [] = q0 at *
      refine Runs.go (cfg := C_in) L_in_ok mixed cuts_ckc_r8b 400 hb (ckc_tr8b l l_t ms (i : Int) q q0) ?_
      simp only [T.wp, T.wp_cond, Aft, Int.ofNat_eq_natCast, and_true, true_and, Nat.zero_add, Bool.not_eq_true', decide_eq_false_iff_not, Int.toNat_zero]
      refine ⟨⟨by omega, by omega⟩, h0l, ?_⟩
      by_cases c2 : q.length = q0.length
      · have e3 : (if q.length ≠ q0.length then (3 : Int) else F.elE q) = F.elE q := if_neg (fun h => h c2)
        rw [e3] at hP
        refine ite_no (by omega) (ckc_l11 l l_t ms b0 hb R (i : Int) ⟨by omega, by omega⟩ q q0 (by omega) (fun hz => nx (by rw [hP, if_pos hz])) (fun hz => ?_) q.length 0 (by omega) rfl)
        rw [if_neg hz] at hP
        rw [hP, if_neg hz] at hR
        exact hR
      · have e3 : (if q.length ≠ q0.length then (3 : Int) else F.elE q) = 3 := if_pos c2
        rw [e3, if_neg (by decide)] at hP
        rw [hP, if_neg (by decide)] at hR
        subst hR
        exact ite_yes (by omega) (by first | rfl | trivial)
  have := h4 _ rfl l.length 0 (by omega) rfl
  simp only [T.wp, T.wp_cond, Aft, Int.ofNat_eq_natCast, decide_eq_true_eq, and_true]
  exact ite_no (by omega) this



noncomputable def s_ckc : Summ cod := fun args H => match args, H with
  | [.c (.slc 0 l_i l_n l_t), .c (.int .i64 ms)], [o0] => (match o0.asNin 0 with | some l => .need ((l_i = 0 ∧ l_n = List.length l)) (.ret (.c (.int .i64 (F.cE l ms)), [])) | none => .fail)
  | _, _ => .fail


theorem ckc_sound : Sound Try.prog cod 11 s_ckc := sound_runs (cfg := C_in) L_in_ok mixed Try.func11 rfl rfl _ fun args H r news hg b0 hb => by
  unfold s_ckc at hg
  split at hg
  · skip
    split at hg
    · rename_i l hx0
      cases asNin_spec hx0
      simp only [T.gives, T.wp, Prod.mk.injEq] at hg
      obtain ⟨⟨rfl, rfl⟩, rfl, rfl⟩ := hg
      exact ckc_run _ _ _ b0 hb 
    · exact hg.elim
  · exact hg.elim

noncomputable def L_ckc : Sums cod := (11, .p s_ckc) :: L_in
noncomputable def C_ckc : Cfg cod := mkC L_ckc

theorem L_ckc_ok : Snd Try.prog cod L_ckc := .cons ckc_sound L_in_ok



def cuts_cer : Cuts := [(4, [0, 12, 1, 13, 14], 1), (100005, [0, 12, 1, 13, 14], 2), (100008, [0, 12, 1, 13, 14, 6], 3), (11, [28, 0, 12, 1, 13, 14, 29, 30], 3), (100016, [0, 12, 1, 13, 14], 3)]
def cuts_cer_r5 : Cuts := [(4, [0, 12, 1, 13, 14], 1), (100008, [0, 12, 1, 13, 14, 6], 3), (11, [28, 0, 12, 1, 13, 14, 29, 30], 3), (100016, [0, 12, 1, 13, 14], 3)]
def cuts_cer_r5b : Cuts := [(4, [0, 12, 1, 13, 14], 1), (100008, [0, 12, 1, 13, 14, 6], 3), (11, [28, 0, 12, 1, 13, 14, 29, 30], 3), (100016, [0, 12, 1, 13, 14], 3)]
def cuts_cer_r8 : Cuts := [(4, [0, 12, 1, 13, 14], 1), (100005, [0, 12, 1, 13, 14], 2), (11, [28, 0, 12, 1, 13, 14, 29, 30], 3), (100016, [0, 12, 1, 13, 14], 3)]
def cuts_cer_r8b : Cuts := [(4, [0, 12, 1, 13, 14], 1), (100005, [0, 12, 1, 13, 14], 2), (11, [28, 0, 12, 1, 13, 14, 29, 30], 3), (100016, [0, 12, 1, 13, 14], 3)]
def cuts_cer_r16 : Cuts := [(4, [0, 12, 1, 13, 14], 1), (100005, [0, 12, 1, 13, 14], 2), (100008, [0, 12, 1, 13, 14, 6], 3), (11, [28, 0, 12, 1, 13, 14, 29, 30], 3)]

theorem cer_t0 (l : List (List Int)) (l_t : Bool) (ms : Int) : symF C_ckc cuts_cer Try.f7.results.toList 1 400 [.code (codeOf Try.f7)] ⟨argsS Try.f7 [.c (.slc 0 0 (List.length l) l_t), .c (.int .i64 ms)], ([.nin 0 l none] : Heap cod)⟩ =
 cond (decide (32 < Int.ofNat (List.length l))) (
 .ret (.fin (.c (.int .i64 2)) [])) (
 .ret (.cut (cutAt Try.f7 4) ⟨tmG 27 [(0, .c (.slc 0 0 (List.length l) l_t)), (0, .c (.int .i64 ms)), (10, .c (.slc 0 0 (List.length l) l_t)), (0, .c (.int .i64 (Int.ofNat (List.length l)))), (0, .c (.int .i64 0))], [.nin 0 (l) none]⟩)) := by kernel_rfl


noncomputable def st_cer_4 (l : List (List Int)) (l_t : Bool) (ms : Int) (i : Int) : St cod := ⟨tmG 27 [(0, .c (.slc 0 0 (List.length l) l_t)), (0, .c (.int .i64 ms)), (10, .c (.slc 0 0 (List.length l) l_t)), (0, .c (.int .i64 (Int.ofNat (List.length l)))), (0, .c (.int .i64 i))], [.nin 0 (l) none]⟩


theorem cer_t4 (l : List (List Int)) (l_t : Bool) (ms : Int) (i : Int) : symF C_ckc cuts_cer Try.f7.results.toList 1 400 (cutAt Try.f7 4) (st_cer_4 l l_t ms i) =
 cond (decide (i < Int.ofNat (List.length l))) (
 .ret (.cut (regAt Try.f7 5) ⟨tmG 27 [(0, .c (.slc 0 0 (List.length l) l_t)), (0, .c (.int .i64 ms)), (10, .c (.slc 0 0 (List.length l) l_t)), (0, .c (.int .i64 (Int.ofNat (List.length l)))), (0, .c (.int .i64 i))], [.nin 0 (l) none]⟩)) (
 cond (!F.inb ms 0 1099511627776) (
  .ret (.fin (.c (.int .i64 4)) [])) (
  .ret (.fin (.c (.int .i64 0)) []))) := by kernel_rfl


noncomputable def st_cer_r5 (l : List (List Int)) (l_t : Bool) (ms : Int) (i : Int) : St cod := ⟨tmG 27 [(0, .c (.slc 0 0 (List.length l) l_t)), (0, .c (.int .i64 ms)), (10, .c (.slc 0 0 (List.length l) l_t)), (0, .c (.int .i64 (Int.ofNat (List.length l)))), (0, .c (.int .i64 i))], [.nin 0 (l) none]⟩


noncomputable def st_cer_r5b (l : List (List Int)) (l_t : Bool) (ms : Int) (i : Int) (j : Nat) (q : List Int) : St cod := ⟨tmG 27 [(0, .c (.slc 0 0 (List.length l) l_t)), (0, .c (.int .i64 ms)), (10, .c (.slc 0 0 (List.length l) l_t)), (0, .c (.int .i64 (Int.ofNat (List.length l)))), (0, .c (.int .i64 i))], ([.nin 0 l (some (j, .slc 1 0 (List.length q) false)), .inp 0 q] : Heap cod)⟩


theorem cer_tr5b (l : List (List Int)) (l_t : Bool) (ms : Int) (i : Int) (j : Nat) (q : List Int) : symF C_ckc cuts_cer_r5b Try.f7.results.toList 1 400 (regAt Try.f7 5) (st_cer_r5b l l_t ms i j q) =
.need (((0 : Int) ≤ i ∧ i < Int.ofNat (List.length l))) (
.need ((0 + Int.toNat i = j ∧ j < List.length l)) (
 cond (decide (32 < Int.ofNat (List.length q))) (
 .ret (.fin (.c (.int .i64 2)) [])) (
 .ret (.cut (regAt Try.f7 8) ⟨tmG 27 [(0, .c (.slc 0 0 (List.length l) l_t)), (0, .c (.int .i64 ms)), (4, .c (.slc 1 0 (List.length q) false)), (5, .c (.slc 0 0 (List.length l) l_t)), (0, .c (.int .i64 (Int.ofNat (List.length l)))), (0, .c (.int .i64 i))], [.nin 0 (l) (some ((j), .slc 1 0 (List.length q) false)), .inp 0 q]⟩)))) := by kernel_rfl


noncomputable def st_cer_r8 (l : List (List Int)) (l_t : Bool) (ms : Int) (i : Int) (j : Nat) (q : List Int) : St cod := ⟨tmG 27 [(0, .c (.slc 0 0 (List.length l) l_t)), (0, .c (.int .i64 ms)), (4, .c (.slc 1 0 (List.length q) false)), (5, .c (.slc 0 0 (List.length l) l_t)), (0, .c (.int .i64 (Int.ofNat (List.length l)))), (0, .c (.int .i64 i))], [.nin 0 (l) (some ((j), .slc 1 0 (List.length q) false)), .inp 0 q]⟩


noncomputable def st_cer_r8b (l : List (List Int)) (l_t : Bool) (ms : Int) (i : Int) (q q0 : List Int) : St cod := ⟨tmG 27 [(0, .c (.slc 0 0 (List.length l) l_t)), (0, .c (.int .i64 ms)), (4, .c (.slc 1 0 (List.length q) false)), (5, .c (.slc 0 0 (List.length l) l_t)), (0, .c (.int .i64 (Int.ofNat (List.length l)))), (0, .c (.int .i64 i))], ([.nin 0 l (some (0, .slc 2 0 (List.length q0) false)), .inp 0 q, .inp 0 q0] : Heap cod)⟩


theorem cer_tr8b (l : List (List Int)) (l_t : Bool) (ms : Int) (i : Int) (q q0 : List Int) : symF C_ckc cuts_cer_r8b Try.f7.results.toList 1 400 (regAt Try.f7 8) (st_cer_r8b l l_t ms i q q0) =
.need (((0 : Int) ≤ 0 ∧ (0 : Int) < Int.ofNat (List.length l))) (
.need ((0 + Int.toNat 0 = 0 ∧ (0 : Nat) < List.length l)) (
 cond (!decide (Int.ofNat (List.length q) = Int.ofNat (List.length q0))) (
 .ret (.fin (.c (.int .i64 3)) [])) (
 .ret (.cut (cutAt Try.f7 11) ⟨tmG 11 [(0, .c (.slc 0 0 (List.length l) l_t)), (0, .c (.int .i64 ms)), (10, .c (.slc 0 0 (List.length l) l_t)), (0, .c (.int .i64 (Int.ofNat (List.length l)))), (0, .c (.int .i64 i)), (13, .c (.slc 1 0 (List.length q) false)), (0, .c (.int .i64 (Int.ofNat (List.length q)))), (0, .c (.int .i64 0))], [.nin 0 (l) (some (0, .slc 2 0 (List.length q0) false)), .inp 0 q, .inp 0 q0]⟩)))) := by kernel_rfl


noncomputable def st_cer_11 (l : List (List Int)) (l_t : Bool) (ms : Int) (i : Int) (q q0 : List Int) (k : Int) : St cod := ⟨tmG 11 [(0, .c (.slc 0 0 (List.length l) l_t)), (0, .c (.int .i64 ms)), (10, .c (.slc 0 0 (List.length l) l_t)), (0, .c (.int .i64 (Int.ofNat (List.length l)))), (0, .c (.int .i64 i)), (13, .c (.slc 1 0 (List.length q) false)), (0, .c (.int .i64 (Int.ofNat (List.length q)))), (0, .c (.int .i64 k))], [.nin 0 (l) (some (0, .slc 2 0 (List.length q0) false)), .inp 0 q, .inp 0 q0]⟩


theorem cer_t11 (l : List (List Int)) (l_t : Bool) (ms : Int) (i : Int) (q q0 : List Int) (k : Int) : symF C_ckc cuts_cer Try.f7.results.toList 1 400 (cutAt Try.f7 11) (st_cer_11 l l_t ms i q q0 k) =
 cond (decide (k < Int.ofNat (List.length q))) (
 .need (((0 : Int) ≤ k ∧ k < Int.ofNat (List.length q))) (
 .need (0 + Int.toNat k < List.length q) (
 cond (!F.inb (List.getD q (0 + Int.toNat k) (cod 0).d) (-1) 1099511627776) (
  .ret (.fin (.c (.int .i64 4)) [])) (
  .need (i64ok (k + 1)) (
  .ret (.cut (cutAt Try.f7 11) ⟨tmG 11 [(0, .c (.slc 0 0 (List.length l) l_t)), (0, .c (.int .i64 ms)), (10, .c (.slc 0 0 (List.length l) l_t)), (0, .c (.int .i64 (Int.ofNat (List.length l)))), (0, .c (.int .i64 i)), (13, .c (.slc 1 0 (List.length q) false)), (0, .c (.int .i64 (Int.ofNat (List.length q)))), (0, .c (.int .i64 (k + 1)))], [.nin 0 (l) (some (0, .slc 2 0 (List.length q0) false)), .inp 0 q, .inp 0 q0]⟩)))))) (
 .ret (.cut (regAt Try.f7 16) ⟨tmG 27 [(0, .c (.slc 0 0 (List.length l) l_t)), (0, .c (.int .i64 ms)), (10, .c (.slc 0 0 (List.length l) l_t)), (0, .c (.int .i64 (Int.ofNat (List.length l)))), (0, .c (.int .i64 i))], [.nin 0 (l) (some (0, .slc 2 0 (List.length q0) false)), .inp 0 q, .inp 0 q0]⟩)) := by kernel_rfl


noncomputable def st_cer_r16 (l : List (List Int)) (l_t : Bool) (ms : Int) (i : Int) : St cod := ⟨tmG 27 [(0, .c (.slc 0 0 (List.length l) l_t)), (0, .c (.int .i64 ms)), (10, .c (.slc 0 0 (List.length l) l_t)), (0, .c (.int .i64 (Int.ofNat (List.length l)))), (0, .c (.int .i64 i))], [.nin 0 (l) none]⟩


theorem cer_tr16 (l : List (List Int)) (l_t : Bool) (ms : Int) (i : Int) : symF C_ckc cuts_cer_r16 Try.f7.results.toList 1 400 (regAt Try.f7 16) (st_cer_r16 l l_t ms i) =
.need (i64ok (i + 1)) (
.ret (.cut (cutAt Try.f7 4) ⟨tmG 27 [(0, .c (.slc 0 0 (List.length l) l_t)), (0, .c (.int .i64 ms)), (10, .c (.slc 0 0 (List.length l) l_t)), (0, .c (.int .i64 (Int.ofNat (List.length l)))), (0, .c (.int .i64 (i + 1)))], [.nin 0 (l) none]⟩)) := by kernel_rfl



theorem cer_l11 (l : List (List Int)) (l_t : Bool) (ms : Int) (b0 : Base) (hb : b0.n = 1) (R : Int) (i : Int) (hi : 0 ≤ i ∧ i ≤ 32) (q q0 : List Int) (hq : q.length ≤ 32) (nx : F.elE q = 0 → Sym.Runs Try.prog b0 (cutAt Try.f7 4) (st_cer_4 l l_t ms (i + 1)) (Sym.Ends Try.prog Try.f7 1 (.c (.int .i64 R)) [])) (bad : F.elE q ≠ 0 → R = F.elE q) :
    ∀ (r k : Nat), k + r = q.length → F.elE q = F.elE (q.drop k) → Sym.Runs Try.prog b0 (cutAt Try.f7 11) (st_cer_11 l l_t ms i q q0 (k : Int)) (Sym.Ends Try.prog Try.f7 1 (.c (.int .i64 R)) []) := by
  have ed : (cod 0).d = (0 : Int) := rfl
  intro r
  induction r with
  | zero =>
    intro k hk hR
    rw [List.drop_eq_nil_of_le (by omega)] at hR
    refine Runs.go (cfg := C_ckc) L_ckc_ok mixed cuts_cer 400 hb (cer_t11 l l_t ms i q q0 (k : Int)) ?_
    simp only [T.wp, T.wp_cond, Aft, Int.ofNat_eq_natCast, decide_eq_true_eq, and_true, Nat.zero_add, Bool.not_eq_true']
    refine ite_no (by omega) (Runs.close 0 rfl ?_)
    refine Runs.weaken (st' := st_cer_r16 l l_t ms i) (fun a w hR => fit_rel [0, 12, 1, 13, 14] 1 (by omega) hR) ?_
    refine Runs.go (cfg := C_ckc) L_ckc_ok mixed cuts_cer_r16 400 hb (cer_tr16 l l_t ms i) ?_
    simp only [T.wp, Aft, Int.ofNat_eq_natCast]
    exact ⟨by unfold i64ok; omega, nx hR⟩
  | succ r ih =>
    intro k hk hR
    have nx2 := ih (k + 1) (by omega)
    rw [Int.natCast_succ] at nx2
    have hd := dropc q 0 k (by omega)
    refine Runs.go (cfg := C_ckc) L_ckc_ok mixed cuts_cer 400 hb (cer_t11 l l_t ms i q q0 (k : Int)) ?_
    simp only [T.wp, T.wp_cond, Aft, Int.ofNat_eq_natCast, decide_eq_true_eq, and_true, Nat.zero_add, Bool.not_eq_true', decide_eq_false_iff_not, Int.toNat_natCast, ed, inb_el]
    rw [hd, F.elE] at hR
    generalize q.getD k 0 = c at *
    refine ite_yes (by omega) ⟨⟨by omega, by omega⟩, by omega, ?_⟩
    by_cases g : c < -1 ∨ 1099511627776 < c
    · rw [if_pos g] at hR
      have := bad (by rw [hR]; decide)
      rw [hR] at this
      subst this
      exact ite_yes (fun h => h g) (by first | rfl | trivial)
    · rw [if_neg g] at hR
      exact ite_no (fun h => h g) ⟨by unfold i64ok; omega, nx2 hR⟩
theorem cer_run (l : List (List Int)) (l_t : Bool) (ms : Int) (b0 : Base) (hb : b0.n = 1)  : Sym.Runs Try.prog b0 [.code (codeOf Try.f7)] ⟨argsS Try.f7 [.c (.slc 0 0 (List.length l) l_t), .c (.int .i64 ms)], ([.nin 0 l none] : Heap cod)⟩ (Sym.Ends Try.prog Try.f7 1 (.c (.int .i64 (F.cE l ms))) []) := by
  have ed : (cod 0).d = (0 : Int) := rfl
  refine Runs.go (cfg := C_ckc) L_ckc_ok mixed cuts_cer 400 hb (cer_t0 l l_t ms) ?_
  unfold F.cE
  by_cases h32 : 32 < l.length
  · rw [if_pos h32]
    simp only [T.wp, T.wp_cond, Aft, Int.ofNat_eq_natCast, decide_eq_true_eq, and_true]
    exact ite_yes (by omega) (by first | rfl | trivial)
  rw [if_neg h32]
  have h4 : ∀ R : Int, R = (if F.rwsE (l.getD 0 []).length l = 0 then (if ms < 0 ∨ 1099511627776 < ms then 4 else 0) else F.rwsE (l.getD 0 []).length l) → ∀ (r i : Nat), i + r = l.length → F.rwsE (l.getD 0 []).length l = F.rwsE (l.getD 0 []).length (l.drop i) → Sym.Runs Try.prog b0 (cutAt Try.f7 4) (st_cer_4 l l_t ms (i : Int)) (Sym.Ends Try.prog Try.f7 1 (.c (.int .i64 R)) []) := by
    intro R hR r
    induction r with
    | zero =>
      intro i hi hP
      rw [List.drop_eq_nil_of_le (by omega), F.rwsE] at hP
      rw [if_pos hP] at hR
      refine Runs.go (cfg := C_ckc) L_ckc_ok mixed cuts_cer 400 hb (cer_t4 l l_t ms (i : Int)) ?_
      simp only [T.wp, T.wp_cond, Aft, Int.ofNat_eq_natCast, decide_eq_true_eq, and_true, Bool.not_eq_true', decide_eq_false_iff_not, inb_ms]
      refine ite_no (by omega) ?_
      by_cases g : ms < 0 ∨ 1099511627776 < ms
      · rw [if_pos g] at hR
        subst hR
        exact ite_yes (fun h => h g) (by first | rfl | trivial)
      · rw [if_neg g] at hR
        subst hR
        exact ite_no (fun h => h g) (by first | rfl | trivial)
    | succ r ih =>
      intro i hi hP
      have hil : i < l.length := by omega
      have h0l : 0 < l.length := by omega
      have nx := ih (i + 1) (by omega)
      rw [Int.natCast_succ] at nx
      rw [dropc l [] i hil, F.rwsE] at hP
      refine Runs.go (cfg := C_ckc) L_ckc_ok mixed cuts_cer 400 hb (cer_t4 l l_t ms (i : Int)) ?_
      simp only [T.wp, T.wp_cond, Aft, Int.ofNat_eq_natCast, decide_eq_true_eq, and_true, Bool.not_eq_true']
      refine ite_yes (by omega) ?_
      refine Runs.open 0 i rfl hil rfl ?_
      refine Runs.weaken (st' := st_cer_r5b l l_t ms (i : Int) i (l.getD i [])) (fun a w hR => hR) ?_
      generalize l.getD i [] = q at *
      refine Runs.go (cfg := C_ckc) L_ckc_ok mixed cuts_cer_r5b 400 hb (cer_tr5b l l_t ms (i : Int) i q) ?_
      simp only [T.wp, T.wp_cond, Aft, Int.ofNat_eq_natCast, decide_eq_true_eq, and_true, true_and, Nat.zero_add, Int.toNat_natCast]
      refine ⟨⟨by omega, by omega⟩, hil, ?_⟩
      unfold F.rwE at hP
      by_cases c : 32 < q.length
      · rw [if_pos c, if_neg (by decide)] at hP
        rw [hP, if_neg (by decide)] at hR
        subst hR
        exact ite_yes (by omega) (by first | rfl | trivial)
      rw [if_neg c] at hP
      refine ite_no (by omega) ?_
      refine Runs.open 0 0 rfl h0l rfl ?_
      refine Runs.weaken (st' := st_cer_r8b l l_t ms (i : Int) q (l.getD 0 [])) (fun a w hR => hR) ?_
      generalize l.getD 0 [] = q0 at *
      refine Runs.go (cfg := C_ckc) L_ckc_ok mixed cuts_cer_r8b 400 hb (cer_tr8b l l_t ms (i : Int) q q0) ?_
      simp only [T.wp, T.wp_cond, Aft, Int.ofNat_eq_natCast, and_true, true_and, Nat.zero_add, Bool.not_eq_true', decide_eq_false_iff_not, Int.toNat_zero]
      refine ⟨⟨by omega, by omega⟩, h0l, ?_⟩
      by_cases c2 : q.length = q0.length
      · have e3 : (if q.length ≠ q0.length then (3 : Int) else F.elE q) = F.elE q := if_neg (fun h => h c2)
        rw [e3] at hP
        refine ite_no (by omega) (cer_l11 l l_t ms b0 hb R (i : Int) ⟨by omega, by omega⟩ q q0 (by omega) (fun hz => nx (by rw [hP, if_pos hz])) (fun hz => ?_) q.length 0 (by omega) rfl)
        rw [if_neg hz] at hP
        rw [hP, if_neg hz] at hR
        exact hR
      · have e3 : (if q.length ≠ q0.length then (3 : Int) else F.elE q) = 3 := if_pos c2
        rw [e3, if_neg (by decide)] at hP
        rw [hP, if_neg (by decide)] at hR
        subst hR
        exact ite_yes (by omega) (by first | rfl | trivial)
  have := h4 _ rfl l.length 0 (by omega) rfl
  simp only [T.wp, T.wp_cond, Aft, Int.ofNat_eq_natCast, decide_eq_true_eq, and_true]
  exact ite_no (by omega) this



noncomputable def s_cer : Summ cod := fun args H => match args, H with
  | [.c (.slc 0 l_i l_n l_t), .c (.int .i64 ms)], [o0] => (match o0.asNin 0 with | some l => .need ((l_i = 0 ∧ l_n = List.length l)) (.ret (.c (.int .i64 (F.cE l ms)), [])) | none => .fail)
  | _, _ => .fail


theorem cer_sound : Sound Try.prog cod 7 s_cer := sound_runs (cfg := C_ckc) L_ckc_ok mixed Try.func7 rfl rfl _ fun args H r news hg b0 hb => by
  unfold s_cer at hg
  split at hg
  · skip
    split at hg
    · rename_i l hx0
      cases asNin_spec hx0
      simp only [T.gives, T.wp, Prod.mk.injEq] at hg
      obtain ⟨⟨rfl, rfl⟩, rfl, rfl⟩ := hg
      exact cer_run _ _ _ b0 hb 
    · exact hg.elim
  · exact hg.elim

noncomputable def L_cer : Sums cod := (7, .p s_cer) :: L_ckc
noncomputable def C_cer : Cfg cod := mkC L_cer

theorem L_cer_ok : Snd Try.prog cod L_cer := .cons cer_sound L_ckc_ok



def cuts_wid : Cuts := [(100003, [0], 2)]
def cuts_wid_r3 : Cuts := []
def cuts_wid_r3b : Cuts := []

theorem wid_t0 (l : List (List Int)) (l_t : Bool) : symF C_cer cuts_wid Try.f9.results.toList 1 400 [.code (codeOf Try.f9)] ⟨argsS Try.f9 [.c (.slc 0 0 (List.length l) l_t)], ([.nin 0 l none] : Heap cod)⟩ =
 cond (decide (Int.ofNat (List.length l) = 0)) (
 .ret (.fin (.c (.int .i64 0)) [])) (
 .ret (.cut (regAt Try.f9 3) ⟨tmG 9 [(0, .c (.slc 0 0 (List.length l) l_t))], [.nin 0 (l) none]⟩)) := by kernel_rfl


noncomputable def st_wid_r3 (l : List (List Int)) (l_t : Bool)  : St cod := ⟨tmG 9 [(0, .c (.slc 0 0 (List.length l) l_t))], [.nin 0 (l) none]⟩


noncomputable def st_wid_r3b (l : List (List Int)) (l_t : Bool) (q : List Int) : St cod := ⟨tmG 9 [(0, .c (.slc 0 0 (List.length l) l_t))], ([.nin 0 l (some (0, .slc 1 0 (List.length q) false)), .inp 0 q] : Heap cod)⟩


theorem wid_tr3b (l : List (List Int)) (l_t : Bool) (q : List Int) : symF C_cer cuts_wid_r3b Try.f9.results.toList 1 400 (regAt Try.f9 3) (st_wid_r3b l l_t q) =
.need (((0 : Int) ≤ 0 ∧ (0 : Int) < Int.ofNat (List.length l))) (
.need ((0 + Int.toNat 0 = 0 ∧ (0 : Nat) < List.length l)) (
.ret (.fin (.c (.int .i64 (Int.ofNat (List.length q)))) []))) := by kernel_rfl



theorem wid_run (l : List (List Int)) (l_t : Bool) (b0 : Base) (hb : b0.n = 1)  : Sym.Runs Try.prog b0 [.code (codeOf Try.f9)] ⟨argsS Try.f9 [.c (.slc 0 0 (List.length l) l_t)], ([.nin 0 l none] : Heap cod)⟩ (Sym.Ends Try.prog Try.f9 1 (.c (.int .i64 (Int.ofNat (l.getD 0 []).length))) []) := by
  refine Runs.go (cfg := C_cer) L_cer_ok mixed cuts_wid 400 hb (wid_t0 l l_t) ?_
  by_cases h : l.length = 0
  · have e : l = [] := List.eq_nil_of_length_eq_zero h
    subst e
    simp only [T.wp, T.wp_cond, Aft, Int.ofNat_eq_natCast, decide_eq_true_eq, and_true]
    exact ite_yes (by simp) (by first | rfl | trivial)
  · have h0l : 0 < l.length := by omega
    simp only [T.wp, T.wp_cond, Aft, Int.ofNat_eq_natCast, decide_eq_true_eq, and_true]
    refine ite_no (by omega) ?_
    refine Runs.open 0 0 rfl h0l rfl ?_
    refine Runs.weaken (st' := st_wid_r3b l l_t (l.getD 0 [])) (fun a w hR => hR) ?_
    generalize l.getD 0 [] = q at *
    refine Runs.go (cfg := C_cer) L_cer_ok mixed cuts_wid_r3b 400 hb (wid_tr3b l l_t q) ?_
    simp only [T.wp, Aft, Int.ofNat_eq_natCast, and_true, true_and, Nat.zero_add, Int.toNat_zero]
    exact ⟨by omega, h0l⟩



noncomputable def s_wid : Summ cod := fun args H => match args, H with
  | [.c (.slc 0 l_i l_n l_t)], [o0] => (match o0.asNin 0 with | some l => .need ((l_i = 0 ∧ l_n = List.length l)) (.ret (.c (.int .i64 (Int.ofNat (l.getD 0 []).length)), [])) | none => .fail)
  | _, _ => .fail


theorem wid_sound : Sound Try.prog cod 9 s_wid := sound_runs (cfg := C_cer) L_cer_ok mixed Try.func9 rfl rfl _ fun args H r news hg b0 hb => by
  unfold s_wid at hg
  split at hg
  · skip
    split at hg
    · rename_i l hx0
      cases asNin_spec hx0
      simp only [T.gives, T.wp, Prod.mk.injEq] at hg
      obtain ⟨⟨rfl, rfl⟩, rfl, rfl⟩ := hg
      exact wid_run _ _ b0 hb 
    · exact hg.elim
  · exact hg.elim

noncomputable def L_wid : Sums cod := (9, .p s_wid) :: L_cer
noncomputable def C_wid : Cfg cod := mkC L_wid

theorem L_wid_ok : Snd Try.prog cod L_wid := .cons wid_sound L_cer_ok


end
end Go.Proofs.Ytjffboggpofbfaa
