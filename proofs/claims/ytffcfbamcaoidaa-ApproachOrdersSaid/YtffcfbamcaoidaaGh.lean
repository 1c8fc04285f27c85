/- Part of a claim: lemmas on the way to its theorem; each states its own conditions. -/
import Derived.Test.YtffcfbamcaoidaaGa
import Derived.Test.YtffcfbamcaoidaaSym24
namespace Go.Proofs.Ytffcfbamcaoidaa
open Sym Go.RowKit
noncomputable section
set_option maxRecDepth 100000
set_option maxHeartbeats 4000000

namespace F
def okg (g : Int) : Bool := decide (0 ≤ g) && decide (g ≤ 1000)
def okG : List (Int × Int × Int × Int) → Bool
  | [] => true
  | (a, b, c, d) :: r => okg a && (okg b && (okg c && (okg d && okG r)))
def okI (x : List UInt8 × Int × Int × Int) : Bool := (decide (0 ≤ x.2.1) && decide (x.2.1 ≤ 3)) && ((decide (0 ≤ x.2.2.1) && decide (x.2.2.1 ≤ 200000)) && (decide (0 ≤ x.2.2.2) && decide (x.2.2.2 ≤ 200000)))
def apE (l : List (List UInt8 × Int × Int × Int)) (G : List (Int × Int × Int × Int)) : Int := if 32 < l.length then 2 else if okG G = false then 4 else if l.all okI then 0 else 4
end F


def cuts_acheck : Cuts := [(14, [30, 31, 32], 1)]

theorem acheck_t0 (l : List (List UInt8 × Int × Int × Int)) (l_t : Bool) (g0 g1 g2 g3 g4 g5 g6 g7 g8 g9 g10 g11 g12 g13 g14 g15 : Int) : symF C_divdown cuts_acheck Try.f25.results.toList 1 400 [.code (codeOf Try.f25)] ⟨argsS Try.f25 [.c (.slc 0 0 (List.length l) l_t), .agg [.int .i64 g0, .int .i64 g1, .int .i64 g2, .int .i64 g3, .int .i64 g4, .int .i64 g5, .int .i64 g6, .int .i64 g7, .int .i64 g8, .int .i64 g9, .int .i64 g10, .int .i64 g11, .int .i64 g12, .int .i64 g13, .int .i64 g14, .int .i64 g15]], ([.inp 7 l] : Heap cod)⟩ =
 cond (decide (32 < Int.ofNat (List.length l))) (
 .ret (.fin (.c (.int .i64 2)) [])) (
 .need (List.length [g0, g1, g2, g3, g4, g5, g6, g7, g8, g9, g10, g11, g12, g13, g14, g15] * 1 = 16) (
 .need (((0 : Int) ≤ 0 ∧ (0 : Int) < Int.ofNat 4)) (
 .need (((0 : Int) ≤ 0 ∧ (0 : Int) < Int.ofNat 4)) (
 cond (decide (g0 < 0)) (
  .ret (.fin (.c (.int .i64 4)) [])) (
  cond (decide (1000 < g0)) (
   .ret (.fin (.c (.int .i64 4)) [])) (
   .need (i64ok (0 + 1)) (
   .need (((0 : Int) ≤ 0 + 1 ∧ (0 + 1 : Int) < Int.ofNat 4)) (
   cond (decide (g1 < 0)) (
    .ret (.fin (.c (.int .i64 4)) [])) (
    cond (decide (1000 < g1)) (
     .ret (.fin (.c (.int .i64 4)) [])) (
     .need (i64ok (0 + 1 + 1)) (
     .need (((0 : Int) ≤ 0 + 1 + 1 ∧ (0 + 1 + 1 : Int) < Int.ofNat 4)) (
     cond (decide (g2 < 0)) (
      .ret (.fin (.c (.int .i64 4)) [])) (
      cond (decide (1000 < g2)) (
       .ret (.fin (.c (.int .i64 4)) [])) (
       .need (i64ok (0 + 1 + 1 + 1)) (
       .need (((0 : Int) ≤ 0 + 1 + 1 + 1 ∧ (0 + 1 + 1 + 1 : Int) < Int.ofNat 4)) (
       cond (decide (g3 < 0)) (
        .ret (.fin (.c (.int .i64 4)) [])) (
        cond (decide (1000 < g3)) (
         .ret (.fin (.c (.int .i64 4)) [])) (
         .need (i64ok (0 + 1 + 1 + 1 + 1)) (
         .need (i64ok (0 + 1)) (
         .need (((0 : Int) ≤ 0 + 1 ∧ (0 + 1 : Int) < Int.ofNat 4)) (
         .need (((0 : Int) ≤ 0 ∧ (0 : Int) < Int.ofNat 4)) (
         cond (decide (g4 < 0)) (
          .ret (.fin (.c (.int .i64 4)) [])) (
          cond (decide (1000 < g4)) (
           .ret (.fin (.c (.int .i64 4)) [])) (
           .need (i64ok (0 + 1)) (
           .need (((0 : Int) ≤ 0 + 1 ∧ (0 + 1 : Int) < Int.ofNat 4)) (
           cond (decide (g5 < 0)) (
            .ret (.fin (.c (.int .i64 4)) [])) (
            cond (decide (1000 < g5)) (
             .ret (.fin (.c (.int .i64 4)) [])) (
             .need (i64ok (0 + 1 + 1)) (
             .need (((0 : Int) ≤ 0 + 1 + 1 ∧ (0 + 1 + 1 : Int) < Int.ofNat 4)) (
             cond (decide (g6 < 0)) (
              .ret (.fin (.c (.int .i64 4)) [])) (
              cond (decide (1000 < g6)) (
               .ret (.fin (.c (.int .i64 4)) [])) (
               .need (i64ok (0 + 1 + 1 + 1)) (
               .need (((0 : Int) ≤ 0 + 1 + 1 + 1 ∧ (0 + 1 + 1 + 1 : Int) < Int.ofNat 4)) (
               cond (decide (g7 < 0)) (
                .ret (.fin (.c (.int .i64 4)) [])) (
                cond (decide (1000 < g7)) (
                 .ret (.fin (.c (.int .i64 4)) [])) (
                 .need (i64ok (0 + 1 + 1 + 1 + 1)) (
                 .need (i64ok (0 + 1 + 1)) (
                 .need (((0 : Int) ≤ 0 + 1 + 1 ∧ (0 + 1 + 1 : Int) < Int.ofNat 4)) (
                 .need (((0 : Int) ≤ 0 ∧ (0 : Int) < Int.ofNat 4)) (
                 cond (decide (g8 < 0)) (
                  .ret (.fin (.c (.int .i64 4)) [])) (
                  cond (decide (1000 < g8)) (
                   .ret (.fin (.c (.int .i64 4)) [])) (
                   .need (i64ok (0 + 1)) (
                   .need (((0 : Int) ≤ 0 + 1 ∧ (0 + 1 : Int) < Int.ofNat 4)) (
                   cond (decide (g9 < 0)) (
                    .ret (.fin (.c (.int .i64 4)) [])) (
                    cond (decide (1000 < g9)) (
                     .ret (.fin (.c (.int .i64 4)) [])) (
                     .need (i64ok (0 + 1 + 1)) (
                     .need (((0 : Int) ≤ 0 + 1 + 1 ∧ (0 + 1 + 1 : Int) < Int.ofNat 4)) (
                     cond (decide (g10 < 0)) (
                      .ret (.fin (.c (.int .i64 4)) [])) (
                      cond (decide (1000 < g10)) (
                       .ret (.fin (.c (.int .i64 4)) [])) (
                       .need (i64ok (0 + 1 + 1 + 1)) (
                       .need (((0 : Int) ≤ 0 + 1 + 1 + 1 ∧ (0 + 1 + 1 + 1 : Int) < Int.ofNat 4)) (
                       cond (decide (g11 < 0)) (
                        .ret (.fin (.c (.int .i64 4)) [])) (
                        cond (decide (1000 < g11)) (
                         .ret (.fin (.c (.int .i64 4)) [])) (
                         .need (i64ok (0 + 1 + 1 + 1 + 1)) (
                         .need (i64ok (0 + 1 + 1 + 1)) (
                         .need (((0 : Int) ≤ 0 + 1 + 1 + 1 ∧ (0 + 1 + 1 + 1 : Int) < Int.ofNat 4)) (
                         .need (((0 : Int) ≤ 0 ∧ (0 : Int) < Int.ofNat 4)) (
                         cond (decide (g12 < 0)) (
                          .ret (.fin (.c (.int .i64 4)) [])) (
                          cond (decide (1000 < g12)) (
                           .ret (.fin (.c (.int .i64 4)) [])) (
                           .need (i64ok (0 + 1)) (
                           .need (((0 : Int) ≤ 0 + 1 ∧ (0 + 1 : Int) < Int.ofNat 4)) (
                           cond (decide (g13 < 0)) (
                            .ret (.fin (.c (.int .i64 4)) [])) (
                            cond (decide (1000 < g13)) (
                             .ret (.fin (.c (.int .i64 4)) [])) (
                             .need (i64ok (0 + 1 + 1)) (
                             .need (((0 : Int) ≤ 0 + 1 + 1 ∧ (0 + 1 + 1 : Int) < Int.ofNat 4)) (
                             cond (decide (g14 < 0)) (
                              .ret (.fin (.c (.int .i64 4)) [])) (
                              cond (decide (1000 < g14)) (
                               .ret (.fin (.c (.int .i64 4)) [])) (
                               .need (i64ok (0 + 1 + 1 + 1)) (
                               .need (((0 : Int) ≤ 0 + 1 + 1 + 1 ∧ (0 + 1 + 1 + 1 : Int) < Int.ofNat 4)) (
                               cond (decide (g15 < 0)) (
                                .ret (.fin (.c (.int .i64 4)) [])) (
                                cond (decide (1000 < g15)) (
                                 .ret (.fin (.c (.int .i64 4)) [])) (
                                 .need (i64ok (0 + 1 + 1 + 1 + 1)) (
                                 .need (i64ok (0 + 1 + 1 + 1 + 1)) (
                                 .ret (.cut (cutAt Try.f25 14) ⟨tmG 32 [(30, .c (.slc 0 0 (List.length l) l_t)), (0, .c (.int .i64 (Int.ofNat (List.length l)))), (0, .c (.int .i64 0))], [.inp 7 l]⟩))))))))))))))))))))))))))))))))))))))))))))))))))))))))))))))))))))))))))) := by kernel_rfl


noncomputable def st_acheck_14 (l : List (List UInt8 × Int × Int × Int)) (l_t : Bool) (g0 g1 g2 g3 g4 g5 g6 g7 g8 g9 g10 g11 g12 g13 g14 g15 : Int) (i : Int) : St cod := ⟨tmG 32 [(30, .c (.slc 0 0 (List.length l) l_t)), (0, .c (.int .i64 (Int.ofNat (List.length l)))), (0, .c (.int .i64 i))], [.inp 7 l]⟩


theorem acheck_t14 (l : List (List UInt8 × Int × Int × Int)) (l_t : Bool) (g0 g1 g2 g3 g4 g5 g6 g7 g8 g9 g10 g11 g12 g13 g14 g15 : Int) (i : Int) : symF C_divdown cuts_acheck Try.f25.results.toList 1 400 (cutAt Try.f25 14) (st_acheck_14 l l_t g0 g1 g2 g3 g4 g5 g6 g7 g8 g9 g10 g11 g12 g13 g14 g15 i) =
 cond (decide (i < Int.ofNat (List.length l))) (
 .need (((0 : Int) ≤ i ∧ i < Int.ofNat (List.length l))) (
 .need (0 + Int.toNat i < List.length l) (
 cond (decide ((List.getD l (0 + Int.toNat i) (cod 7).d).2.1 < 0)) (
  .ret (.fin (.c (.int .i64 4)) [])) (
  cond (decide (3 < (List.getD l (0 + Int.toNat i) (cod 7).d).2.1)) (
   .ret (.fin (.c (.int .i64 4)) [])) (
   cond (decide ((List.getD l (0 + Int.toNat i) (cod 7).d).2.2.1 < 0)) (
    .ret (.fin (.c (.int .i64 4)) [])) (
    cond (decide (200000 < (List.getD l (0 + Int.toNat i) (cod 7).d).2.2.1)) (
     .ret (.fin (.c (.int .i64 4)) [])) (
     cond (decide ((List.getD l (0 + Int.toNat i) (cod 7).d).2.2.2 < 0)) (
      .ret (.fin (.c (.int .i64 4)) [])) (
      cond (decide (200000 < (List.getD l (0 + Int.toNat i) (cod 7).d).2.2.2)) (
       .ret (.fin (.c (.int .i64 4)) [])) (
       .need (i64ok (i + 1)) (
       .ret (.cut (cutAt Try.f25 14) ⟨tmG 32 [(30, .c (.slc 0 0 (List.length l) l_t)), (0, .c (.int .i64 (Int.ofNat (List.length l)))), (0, .c (.int .i64 (i + 1)))], [.inp 7 l]⟩))))))))))) (
 .ret (.fin (.c (.int .i64 0)) [])) := by kernel_rfl



theorem acheck_loop (l : List (List UInt8 × Int × Int × Int)) (hl : l.length ≤ 32) (l_t : Bool) (g0 g1 g2 g3 g4 g5 g6 g7 g8 g9 g10 g11 g12 g13 g14 g15 : Int) (b0 : Base) (hb : b0.n = 1) (u : Int) : ∀ (m : Nat) (i : Int), 0 ≤ i → i + m = l.length → u = (if (l.drop i.toNat).all F.okI then 0 else 4) →
    Sym.Runs Try.prog b0 (cutAt Try.f25 14) (st_acheck_14 l l_t g0 g1 g2 g3 g4 g5 g6 g7 g8 g9 g10 g11 g12 g13 g14 g15 i) (Sym.Ends Try.prog Try.f25 1 (.c (.int .i64 u)) []) := by
  have hd : (cod 7).d = (([], 0, 0, 0) : List UInt8 × Int × Int × Int) := rfl
  intro m
  induction m with
  | zero =>
    intro i h0 hm hu
    refine Runs.go (cfg := C_divdown) L_divdown_ok mixed cuts_acheck 400 hb (acheck_t14 l l_t g0 g1 g2 g3 g4 g5 g6 g7 g8 g9 g10 g11 g12 g13 g14 g15 i) ?_
    have h1 : ¬ i < (l.length : Int) := by omega
    rw [drop_end l h1] at hu
    simp only [T.wp, T.wp_cond, Aft, Int.ofNat_eq_natCast, decide_eq_true_eq, and_true, true_and, Nat.zero_add, Bool.not_eq_true', decide_eq_false_iff_not, h1, if_false, hu, List.all_nil, if_true]
  | succ m ih =>
    intro i h0 hm hu
    refine Runs.go (cfg := C_divdown) L_divdown_ok mixed cuts_acheck 400 hb (acheck_t14 l l_t g0 g1 g2 g3 g4 g5 g6 g7 g8 g9 g10 g11 g12 g13 g14 g15 i) ?_
    have h1 : i < (l.length : Int) := by omega
    rw [drop_at l ([], 0, 0, 0) h0 h1, List.all_cons] at hu
    have nx := ih (i + 1) (by omega) (by omega)
    simp only [T.wp, T.wp_cond, Aft, Int.ofNat_eq_natCast, decide_eq_true_eq, and_true, true_and, Nat.zero_add, Bool.not_eq_true', decide_eq_false_iff_not, h1, if_true, hd]
    generalize l.getD i.toNat ([], 0, 0, 0) = e at *
    obtain ⟨e0, e1, e2, e3⟩ := e
    have ok : F.okI (e0, e1, e2, e3) = ((decide (0 ≤ e1) && decide (e1 ≤ 3)) && ((decide (0 ≤ e2) && decide (e2 ≤ 200000)) && (decide (0 ≤ e3) && decide (e3 ≤ 200000)))) := rfl
    rw [ok] at hu
    try simp only
    refine ⟨h0, by omega, ?_⟩
    have hi : i64ok (i + 1) := by unfold i64ok; omega
    by_cases c1 : 0 ≤ e1 ∧ e1 ≤ 3
    rotate_left
    · by_cases d1 : e1 < 0
      · simp [d1, hu, show ¬ 0 ≤ e1 by omega]
      · simp [d1, hu, show 3 < e1 by omega, show ¬ e1 ≤ 3 by omega]
    by_cases c2 : 0 ≤ e2 ∧ e2 ≤ 200000
    rotate_left
    · by_cases d1 : e2 < 0
      · simp [c1, d1, hu, show ¬ e1 < 0 by omega, show ¬ 3 < e1 by omega, show ¬ 0 ≤ e2 by omega]
      · simp [c1, d1, hu, show ¬ e1 < 0 by omega, show ¬ 3 < e1 by omega, show 200000 < e2 by omega, show ¬ e2 ≤ 200000 by omega]
    by_cases c3 : 0 ≤ e3 ∧ e3 ≤ 200000
    rotate_left
    · by_cases d1 : e3 < 0
      · simp [c1, c2, d1, hu, show ¬ e1 < 0 by omega, show ¬ 3 < e1 by omega, show ¬ e2 < 0 by omega, show ¬ 200000 < e2 by omega, show ¬ 0 ≤ e3 by omega]
      · simp [c1, c2, d1, hu, show ¬ e1 < 0 by omega, show ¬ 3 < e1 by omega, show ¬ e2 < 0 by omega, show ¬ 200000 < e2 by omega, show 200000 < e3 by omega, show ¬ e3 ≤ 200000 by omega]
    simp only [show ¬ e1 < 0 by omega, show ¬ 3 < e1 by omega, show ¬ e2 < 0 by omega, show ¬ 200000 < e2 by omega, show ¬ e3 < 0 by omega, show ¬ 200000 < e3 by omega, if_false]
    refine ⟨hi, nx ?_⟩
    rw [hu, decide_eq_true c1.1, decide_eq_true c1.2, decide_eq_true c2.1, decide_eq_true c2.2, decide_eq_true c3.1, decide_eq_true c3.2]
    rfl
theorem acheck_run (l : List (List UInt8 × Int × Int × Int)) (l_t : Bool) (g0 g1 g2 g3 g4 g5 g6 g7 g8 g9 g10 g11 g12 g13 g14 g15 : Int) (b0 : Base) (hb : b0.n = 1)  : Sym.Runs Try.prog b0 [.code (codeOf Try.f25)] ⟨argsS Try.f25 [.c (.slc 0 0 (List.length l) l_t), .agg [.int .i64 g0, .int .i64 g1, .int .i64 g2, .int .i64 g3, .int .i64 g4, .int .i64 g5, .int .i64 g6, .int .i64 g7, .int .i64 g8, .int .i64 g9, .int .i64 g10, .int .i64 g11, .int .i64 g12, .int .i64 g13, .int .i64 g14, .int .i64 g15]], ([.inp 7 l] : Heap cod)⟩ (Sym.Ends Try.prog Try.f25 1 (.c (.int .i64 (F.apE l [(g0, g1, g2, g3), (g4, g5, g6, g7), (g8, g9, g10, g11), (g12, g13, g14, g15)]))) []) := by
  refine Runs.go (cfg := C_divdown) L_divdown_ok mixed cuts_acheck 400 hb (acheck_t0 l l_t g0 g1 g2 g3 g4 g5 g6 g7 g8 g9 g10 g11 g12 g13 g14 g15) ?_
  simp only [T.wp, T.wp_cond, Aft, Int.ofNat_eq_natCast, decide_eq_true_eq, and_true, true_and, Nat.zero_add, Bool.not_eq_true', decide_eq_false_iff_not, Int.reduceAdd, List.length_cons, List.length_nil]
  by_cases h0 : (32 : Int) < l.length
  · simp [h0, F.apE, show 32 < l.length by omega]
  have hbad : F.okG [(g0, g1, g2, g3), (g4, g5, g6, g7), (g8, g9, g10, g11), (g12, g13, g14, g15)] = false → F.apE l [(g0, g1, g2, g3), (g4, g5, g6, g7), (g8, g9, g10, g11), (g12, g13, g14, g15)] = 4 := fun h => by
    unfold F.apE
    rw [if_neg (by omega), if_pos h]
  rw [if_neg h0]
  (repeat (refine ⟨(by first | omega | (unfold i64ok; omega)), ?_⟩))
  by_cases a0 : g0 < 0
  · rw [if_pos a0, hbad (by simp [F.okG, F.okg, show ¬ 0 ≤ g0 by omega])]
  by_cases q0 : 1000 < g0
  · rw [if_neg a0, if_pos q0, hbad (by simp [F.okG, F.okg, show ¬ g0 ≤ 1000 by omega])]
  rw [if_neg a0, if_neg q0]
  (repeat (refine ⟨(by first | omega | (unfold i64ok; omega)), ?_⟩))
  by_cases a1 : g1 < 0
  · rw [if_pos a1, hbad (by simp [F.okG, F.okg, show ¬ 0 ≤ g1 by omega])]
  by_cases q1 : 1000 < g1
  · rw [if_neg a1, if_pos q1, hbad (by simp [F.okG, F.okg, show ¬ g1 ≤ 1000 by omega])]
  rw [if_neg a1, if_neg q1]
  (repeat (refine ⟨(by first | omega | (unfold i64ok; omega)), ?_⟩))
  by_cases a2 : g2 < 0
  · rw [if_pos a2, hbad (by simp [F.okG, F.okg, show ¬ 0 ≤ g2 by omega])]
  by_cases q2 : 1000 < g2
  · rw [if_neg a2, if_pos q2, hbad (by simp [F.okG, F.okg, show ¬ g2 ≤ 1000 by omega])]
  rw [if_neg a2, if_neg q2]
  (repeat (refine ⟨(by first | omega | (unfold i64ok; omega)), ?_⟩))
  by_cases a3 : g3 < 0
  · rw [if_pos a3, hbad (by simp [F.okG, F.okg, show ¬ 0 ≤ g3 by omega])]
  by_cases q3 : 1000 < g3
  · rw [if_neg a3, if_pos q3, hbad (by simp [F.okG, F.okg, show ¬ g3 ≤ 1000 by omega])]
  rw [if_neg a3, if_neg q3]
  (repeat (refine ⟨(by first | omega | (unfold i64ok; omega)), ?_⟩))
  by_cases a4 : g4 < 0
  · rw [if_pos a4, hbad (by simp [F.okG, F.okg, show ¬ 0 ≤ g4 by omega])]
  by_cases q4 : 1000 < g4
  · rw [if_neg a4, if_pos q4, hbad (by simp [F.okG, F.okg, show ¬ g4 ≤ 1000 by omega])]
  rw [if_neg a4, if_neg q4]
  (repeat (refine ⟨(by first | omega | (unfold i64ok; omega)), ?_⟩))
  by_cases a5 : g5 < 0
  · rw [if_pos a5, hbad (by simp [F.okG, F.okg, show ¬ 0 ≤ g5 by omega])]
  by_cases q5 : 1000 < g5
  · rw [if_neg a5, if_pos q5, hbad (by simp [F.okG, F.okg, show ¬ g5 ≤ 1000 by omega])]
  rw [if_neg a5, if_neg q5]
  (repeat (refine ⟨(by first | omega | (unfold i64ok; omega)), ?_⟩))
  by_cases a6 : g6 < 0
  · rw [if_pos a6, hbad (by simp [F.okG, F.okg, show ¬ 0 ≤ g6 by omega])]
  by_cases q6 : 1000 < g6
  · rw [if_neg a6, if_pos q6, hbad (by simp [F.okG, F.okg, show ¬ g6 ≤ 1000 by omega])]
  rw [if_neg a6, if_neg q6]
  (repeat (refine ⟨(by first | omega | (unfold i64ok; omega)), ?_⟩))
  by_cases a7 : g7 < 0
  · rw [if_pos a7, hbad (by simp [F.okG, F.okg, show ¬ 0 ≤ g7 by omega])]
  by_cases q7 : 1000 < g7
  · rw [if_neg a7, if_pos q7, hbad (by simp [F.okG, F.okg, show ¬ g7 ≤ 1000 by omega])]
  rw [if_neg a7, if_neg q7]
  (repeat (refine ⟨(by first | omega | (unfold i64ok; omega)), ?_⟩))
  by_cases a8 : g8 < 0
  · rw [if_pos a8, hbad (by simp [F.okG, F.okg, show ¬ 0 ≤ g8 by omega])]
  by_cases q8 : 1000 < g8
  · rw [if_neg a8, if_pos q8, hbad (by simp [F.okG, F.okg, show ¬ g8 ≤ 1000 by omega])]
  rw [if_neg a8, if_neg q8]
  (repeat (refine ⟨(by first | omega | (unfold i64ok; omega)), ?_⟩))
  by_cases a9 : g9 < 0
  · rw [if_pos a9, hbad (by simp [F.okG, F.okg, show ¬ 0 ≤ g9 by omega])]
  by_cases q9 : 1000 < g9
  · rw [if_neg a9, if_pos q9, hbad (by simp [F.okG, F.okg, show ¬ g9 ≤ 1000 by omega])]
  rw [if_neg a9, if_neg q9]
  (repeat (refine ⟨(by first | omega | (unfold i64ok; omega)), ?_⟩))
  by_cases a10 : g10 < 0
  · rw [if_pos a10, hbad (by simp [F.okG, F.okg, show ¬ 0 ≤ g10 by omega])]
  by_cases q10 : 1000 < g10
  · rw [if_neg a10, if_pos q10, hbad (by simp [F.okG, F.okg, show ¬ g10 ≤ 1000 by omega])]
  rw [if_neg a10, if_neg q10]
  (repeat (refine ⟨(by first | omega | (unfold i64ok; omega)), ?_⟩))
  by_cases a11 : g11 < 0
  · rw [if_pos a11, hbad (by simp [F.okG, F.okg, show ¬ 0 ≤ g11 by omega])]
  by_cases q11 : 1000 < g11
  · rw [if_neg a11, if_pos q11, hbad (by simp [F.okG, F.okg, show ¬ g11 ≤ 1000 by omega])]
  rw [if_neg a11, if_neg q11]
  (repeat (refine ⟨(by first | omega | (unfold i64ok; omega)), ?_⟩))
  by_cases a12 : g12 < 0
  · rw [if_pos a12, hbad (by simp [F.okG, F.okg, show ¬ 0 ≤ g12 by omega])]
  by_cases q12 : 1000 < g12
  · rw [if_neg a12, if_pos q12, hbad (by simp [F.okG, F.okg, show ¬ g12 ≤ 1000 by omega])]
  rw [if_neg a12, if_neg q12]
  (repeat (refine ⟨(by first | omega | (unfold i64ok; omega)), ?_⟩))
  by_cases a13 : g13 < 0
  · rw [if_pos a13, hbad (by simp [F.okG, F.okg, show ¬ 0 ≤ g13 by omega])]
  by_cases q13 : 1000 < g13
  · rw [if_neg a13, if_pos q13, hbad (by simp [F.okG, F.okg, show ¬ g13 ≤ 1000 by omega])]
  rw [if_neg a13, if_neg q13]
  (repeat (refine ⟨(by first | omega | (unfold i64ok; omega)), ?_⟩))
  by_cases a14 : g14 < 0
  · rw [if_pos a14, hbad (by simp [F.okG, F.okg, show ¬ 0 ≤ g14 by omega])]
  by_cases q14 : 1000 < g14
  · rw [if_neg a14, if_pos q14, hbad (by simp [F.okG, F.okg, show ¬ g14 ≤ 1000 by omega])]
  rw [if_neg a14, if_neg q14]
  (repeat (refine ⟨(by first | omega | (unfold i64ok; omega)), ?_⟩))
  by_cases a15 : g15 < 0
  · rw [if_pos a15, hbad (by simp [F.okG, F.okg, show ¬ 0 ≤ g15 by omega])]
  by_cases q15 : 1000 < g15
  · rw [if_neg a15, if_pos q15, hbad (by simp [F.okG, F.okg, show ¬ g15 ≤ 1000 by omega])]
  rw [if_neg a15, if_neg q15]
  (repeat (refine ⟨(by first | omega | (unfold i64ok; omega)), ?_⟩))
  have hG : F.okG [(g0, g1, g2, g3), (g4, g5, g6, g7), (g8, g9, g10, g11), (g12, g13, g14, g15)] = true := by simp [F.okG, F.okg]; omega
  refine acheck_loop l (by omega) l_t g0 g1 g2 g3 g4 g5 g6 g7 g8 g9 g10 g11 g12 g13 g14 g15 b0 hb _ l.length 0 (by omega) (by omega) ?_
  unfold F.apE
  rw [if_neg (by omega), if_neg (by simp [hG])]
  rfl



noncomputable def s_acheck : Summ cod := fun args H => match args, H with
  | [.c (.slc 0 l_i l_n l_t), .agg [.int .i64 g0, .int .i64 g1, .int .i64 g2, .int .i64 g3, .int .i64 g4, .int .i64 g5, .int .i64 g6, .int .i64 g7, .int .i64 g8, .int .i64 g9, .int .i64 g10, .int .i64 g11, .int .i64 g12, .int .i64 g13, .int .i64 g14, .int .i64 g15]], [o0] => (match o0.asInp 7 with | some l => .need ((l_i = 0 ∧ l_n = List.length l)) (.ret (.c (.int .i64 (F.apE l [(g0, g1, g2, g3), (g4, g5, g6, g7), (g8, g9, g10, g11), (g12, g13, g14, g15)])), [])) | none => .fail)
  | _, _ => .fail


theorem acheck_sound : Sound Try.prog cod 25 s_acheck := sound_runs (cfg := C_divdown) L_divdown_ok mixed Try.func25 rfl rfl _ fun args H r news hg b0 hb => by
  unfold s_acheck at hg
  split at hg
  · skip
    split at hg
    · rename_i l hx0
      cases asInp_spec hx0
      simp only [T.gives, T.wp, Prod.mk.injEq] at hg
      obtain ⟨⟨rfl, rfl⟩, rfl, rfl⟩ := hg
      exact acheck_run _ _ _ _ _ _ _ _ _ _ _ _ _ _ _ _ _ _ b0 hb 
    · exact hg.elim
  · exact hg.elim

noncomputable def L_acheck : Sums cod := (25, .p s_acheck) :: L_divdown
noncomputable def C_acheck : Cfg cod := mkC L_acheck

theorem L_acheck_ok : Snd Try.prog cod L_acheck := .cons acheck_sound L_divdown_ok



def cuts_aerr : Cuts := [(14, [27, 28, 29], 1)]

theorem aerr_t0 (l : List (List UInt8 × Int × Int × Int)) (l_t : Bool) (g0 g1 g2 g3 g4 g5 g6 g7 g8 g9 g10 g11 g12 g13 g14 g15 : Int) : symF C_acheck cuts_aerr Try.f24.results.toList 1 400 [.code (codeOf Try.f24)] ⟨argsS Try.f24 [.c (.slc 0 0 (List.length l) l_t), .agg [.int .i64 g0, .int .i64 g1, .int .i64 g2, .int .i64 g3, .int .i64 g4, .int .i64 g5, .int .i64 g6, .int .i64 g7, .int .i64 g8, .int .i64 g9, .int .i64 g10, .int .i64 g11, .int .i64 g12, .int .i64 g13, .int .i64 g14, .int .i64 g15]], ([.inp 7 l] : Heap cod)⟩ =
 cond (decide (32 < Int.ofNat (List.length l))) (
 .ret (.fin (.c (.int .i64 2)) [])) (
 .need (((0 : Int) ≤ 0 ∧ (0 : Int) < Int.ofNat 4)) (
 .need (((0 : Int) ≤ 0 ∧ (0 : Int) < Int.ofNat 4)) (
 .need ((0 + Int.toNat 0 * (4 / 1) + Int.toNat 0 : Nat) < List.length [g0, g1, g2, g3, g4, g5, g6, g7, g8, g9, g10, g11, g12, g13, g14, g15]) (
 cond (!F.inb g0 0 1000) (
  .ret (.fin (.c (.int .i64 4)) [])) (
  .need (i64ok (0 + 1)) (
  .need (((0 : Int) ≤ 0 ∧ (0 : Int) < Int.ofNat 4)) (
  .need (((0 : Int) ≤ 0 + 1 ∧ (0 + 1 : Int) < Int.ofNat 4)) (
  .need ((0 + Int.toNat 0 * (4 / 1) + Int.toNat (0 + 1) : Nat) < List.length [g0, g1, g2, g3, g4, g5, g6, g7, g8, g9, g10, g11, g12, g13, g14, g15]) (
  cond (!F.inb g1 0 1000) (
   .ret (.fin (.c (.int .i64 4)) [])) (
   .need (i64ok (0 + 1 + 1)) (
   .need (((0 : Int) ≤ 0 ∧ (0 : Int) < Int.ofNat 4)) (
   .need (((0 : Int) ≤ 0 + 1 + 1 ∧ (0 + 1 + 1 : Int) < Int.ofNat 4)) (
   .need ((0 + Int.toNat 0 * (4 / 1) + Int.toNat (0 + 1 + 1) : Nat) < List.length [g0, g1, g2, g3, g4, g5, g6, g7, g8, g9, g10, g11, g12, g13, g14, g15]) (
   cond (!F.inb g2 0 1000) (
    .ret (.fin (.c (.int .i64 4)) [])) (
    .need (i64ok (0 + 1 + 1 + 1)) (
    .need (((0 : Int) ≤ 0 ∧ (0 : Int) < Int.ofNat 4)) (
    .need (((0 : Int) ≤ 0 + 1 + 1 + 1 ∧ (0 + 1 + 1 + 1 : Int) < Int.ofNat 4)) (
    .need ((0 + Int.toNat 0 * (4 / 1) + Int.toNat (0 + 1 + 1 + 1) : Nat) < List.length [g0, g1, g2, g3, g4, g5, g6, g7, g8, g9, g10, g11, g12, g13, g14, g15]) (
    cond (!F.inb g3 0 1000) (
     .ret (.fin (.c (.int .i64 4)) [])) (
     .need (i64ok (0 + 1 + 1 + 1 + 1)) (
     .need (i64ok (0 + 1)) (
     .need (((0 : Int) ≤ 0 + 1 ∧ (0 + 1 : Int) < Int.ofNat 4)) (
     .need (((0 : Int) ≤ 0 ∧ (0 : Int) < Int.ofNat 4)) (
     .need ((0 + Int.toNat (0 + 1) * (4 / 1) + Int.toNat 0 : Nat) < List.length [g0, g1, g2, g3, g4, g5, g6, g7, g8, g9, g10, g11, g12, g13, g14, g15]) (
     cond (!F.inb g4 0 1000) (
      .ret (.fin (.c (.int .i64 4)) [])) (
      .need (i64ok (0 + 1)) (
      .need (((0 : Int) ≤ 0 + 1 ∧ (0 + 1 : Int) < Int.ofNat 4)) (
      .need (((0 : Int) ≤ 0 + 1 ∧ (0 + 1 : Int) < Int.ofNat 4)) (
      .need ((0 + Int.toNat (0 + 1) * (4 / 1) + Int.toNat (0 + 1) : Nat) < List.length [g0, g1, g2, g3, g4, g5, g6, g7, g8, g9, g10, g11, g12, g13, g14, g15]) (
      cond (!F.inb g5 0 1000) (
       .ret (.fin (.c (.int .i64 4)) [])) (
       .need (i64ok (0 + 1 + 1)) (
       .need (((0 : Int) ≤ 0 + 1 ∧ (0 + 1 : Int) < Int.ofNat 4)) (
       .need (((0 : Int) ≤ 0 + 1 + 1 ∧ (0 + 1 + 1 : Int) < Int.ofNat 4)) (
       .need ((0 + Int.toNat (0 + 1) * (4 / 1) + Int.toNat (0 + 1 + 1) : Nat) < List.length [g0, g1, g2, g3, g4, g5, g6, g7, g8, g9, g10, g11, g12, g13, g14, g15]) (
       cond (!F.inb g6 0 1000) (
        .ret (.fin (.c (.int .i64 4)) [])) (
        .need (i64ok (0 + 1 + 1 + 1)) (
        .need (((0 : Int) ≤ 0 + 1 ∧ (0 + 1 : Int) < Int.ofNat 4)) (
        .need (((0 : Int) ≤ 0 + 1 + 1 + 1 ∧ (0 + 1 + 1 + 1 : Int) < Int.ofNat 4)) (
        .need ((0 + Int.toNat (0 + 1) * (4 / 1) + Int.toNat (0 + 1 + 1 + 1) : Nat) < List.length [g0, g1, g2, g3, g4, g5, g6, g7, g8, g9, g10, g11, g12, g13, g14, g15]) (
        cond (!F.inb g7 0 1000) (
         .ret (.fin (.c (.int .i64 4)) [])) (
         .need (i64ok (0 + 1 + 1 + 1 + 1)) (
         .need (i64ok (0 + 1 + 1)) (
         .need (((0 : Int) ≤ 0 + 1 + 1 ∧ (0 + 1 + 1 : Int) < Int.ofNat 4)) (
         .need (((0 : Int) ≤ 0 ∧ (0 : Int) < Int.ofNat 4)) (
         .need ((0 + Int.toNat (0 + 1 + 1) * (4 / 1) + Int.toNat 0 : Nat) < List.length [g0, g1, g2, g3, g4, g5, g6, g7, g8, g9, g10, g11, g12, g13, g14, g15]) (
         cond (!F.inb g8 0 1000) (
          .ret (.fin (.c (.int .i64 4)) [])) (
          .need (i64ok (0 + 1)) (
          .need (((0 : Int) ≤ 0 + 1 + 1 ∧ (0 + 1 + 1 : Int) < Int.ofNat 4)) (
          .need (((0 : Int) ≤ 0 + 1 ∧ (0 + 1 : Int) < Int.ofNat 4)) (
          .need ((0 + Int.toNat (0 + 1 + 1) * (4 / 1) + Int.toNat (0 + 1) : Nat) < List.length [g0, g1, g2, g3, g4, g5, g6, g7, g8, g9, g10, g11, g12, g13, g14, g15]) (
          cond (!F.inb g9 0 1000) (
           .ret (.fin (.c (.int .i64 4)) [])) (
           .need (i64ok (0 + 1 + 1)) (
           .need (((0 : Int) ≤ 0 + 1 + 1 ∧ (0 + 1 + 1 : Int) < Int.ofNat 4)) (
           .need (((0 : Int) ≤ 0 + 1 + 1 ∧ (0 + 1 + 1 : Int) < Int.ofNat 4)) (
           .need ((0 + Int.toNat (0 + 1 + 1) * (4 / 1) + Int.toNat (0 + 1 + 1) : Nat) < List.length [g0, g1, g2, g3, g4, g5, g6, g7, g8, g9, g10, g11, g12, g13, g14, g15]) (
           cond (!F.inb g10 0 1000) (
            .ret (.fin (.c (.int .i64 4)) [])) (
            .need (i64ok (0 + 1 + 1 + 1)) (
            .need (((0 : Int) ≤ 0 + 1 + 1 ∧ (0 + 1 + 1 : Int) < Int.ofNat 4)) (
            .need (((0 : Int) ≤ 0 + 1 + 1 + 1 ∧ (0 + 1 + 1 + 1 : Int) < Int.ofNat 4)) (
            .need ((0 + Int.toNat (0 + 1 + 1) * (4 / 1) + Int.toNat (0 + 1 + 1 + 1) : Nat) < List.length [g0, g1, g2, g3, g4, g5, g6, g7, g8, g9, g10, g11, g12, g13, g14, g15]) (
            cond (!F.inb g11 0 1000) (
             .ret (.fin (.c (.int .i64 4)) [])) (
             .need (i64ok (0 + 1 + 1 + 1 + 1)) (
             .need (i64ok (0 + 1 + 1 + 1)) (
             .need (((0 : Int) ≤ 0 + 1 + 1 + 1 ∧ (0 + 1 + 1 + 1 : Int) < Int.ofNat 4)) (
             .need (((0 : Int) ≤ 0 ∧ (0 : Int) < Int.ofNat 4)) (
             .need ((0 + Int.toNat (0 + 1 + 1 + 1) * (4 / 1) + Int.toNat 0 : Nat) < List.length [g0, g1, g2, g3, g4, g5, g6, g7, g8, g9, g10, g11, g12, g13, g14, g15]) (
             cond (!F.inb g12 0 1000) (
              .ret (.fin (.c (.int .i64 4)) [])) (
              .need (i64ok (0 + 1)) (
              .need (((0 : Int) ≤ 0 + 1 + 1 + 1 ∧ (0 + 1 + 1 + 1 : Int) < Int.ofNat 4)) (
              .need (((0 : Int) ≤ 0 + 1 ∧ (0 + 1 : Int) < Int.ofNat 4)) (
              .need ((0 + Int.toNat (0 + 1 + 1 + 1) * (4 / 1) + Int.toNat (0 + 1) : Nat) < List.length [g0, g1, g2, g3, g4, g5, g6, g7, g8, g9, g10, g11, g12, g13, g14, g15]) (
              cond (!F.inb g13 0 1000) (
               .ret (.fin (.c (.int .i64 4)) [])) (
               .need (i64ok (0 + 1 + 1)) (
               .need (((0 : Int) ≤ 0 + 1 + 1 + 1 ∧ (0 + 1 + 1 + 1 : Int) < Int.ofNat 4)) (
               .need (((0 : Int) ≤ 0 + 1 + 1 ∧ (0 + 1 + 1 : Int) < Int.ofNat 4)) (
               .need ((0 + Int.toNat (0 + 1 + 1 + 1) * (4 / 1) + Int.toNat (0 + 1 + 1) : Nat) < List.length [g0, g1, g2, g3, g4, g5, g6, g7, g8, g9, g10, g11, g12, g13, g14, g15]) (
               cond (!F.inb g14 0 1000) (
                .ret (.fin (.c (.int .i64 4)) [])) (
                .need (i64ok (0 + 1 + 1 + 1)) (
                .need (((0 : Int) ≤ 0 + 1 + 1 + 1 ∧ (0 + 1 + 1 + 1 : Int) < Int.ofNat 4)) (
                .need (((0 : Int) ≤ 0 + 1 + 1 + 1 ∧ (0 + 1 + 1 + 1 : Int) < Int.ofNat 4)) (
                .need ((0 + Int.toNat (0 + 1 + 1 + 1) * (4 / 1) + Int.toNat (0 + 1 + 1 + 1) : Nat) < List.length [g0, g1, g2, g3, g4, g5, g6, g7, g8, g9, g10, g11, g12, g13, g14, g15]) (
                cond (!F.inb g15 0 1000) (
                 .ret (.fin (.c (.int .i64 4)) [])) (
                 .need (i64ok (0 + 1 + 1 + 1 + 1)) (
                 .need (i64ok (0 + 1 + 1 + 1 + 1)) (
                 .ret (.cut (cutAt Try.f24 14) ⟨tmG 20 [(27, .c (.slc 0 0 (List.length l) l_t)), (0, .c (.int .i64 (Int.ofNat (List.length l)))), (0, .c (.int .i64 0))], [.inp 7 l]⟩)))))))))))))))))))))))))))))))))))))))))))))))))))))))))))))))))))))))))))))))))))))) := by kernel_rfl


noncomputable def st_aerr_14 (l : List (List UInt8 × Int × Int × Int)) (l_t : Bool) (g0 g1 g2 g3 g4 g5 g6 g7 g8 g9 g10 g11 g12 g13 g14 g15 : Int) (i : Int) : St cod := ⟨tmG 20 [(27, .c (.slc 0 0 (List.length l) l_t)), (0, .c (.int .i64 (Int.ofNat (List.length l)))), (0, .c (.int .i64 i))], [.inp 7 l]⟩


theorem aerr_t14 (l : List (List UInt8 × Int × Int × Int)) (l_t : Bool) (g0 g1 g2 g3 g4 g5 g6 g7 g8 g9 g10 g11 g12 g13 g14 g15 : Int) (i : Int) : symF C_acheck cuts_aerr Try.f24.results.toList 1 400 (cutAt Try.f24 14) (st_aerr_14 l l_t g0 g1 g2 g3 g4 g5 g6 g7 g8 g9 g10 g11 g12 g13 g14 g15 i) =
 cond (decide (i < Int.ofNat (List.length l))) (
 .need (((0 : Int) ≤ i ∧ i < Int.ofNat (List.length l))) (
 .need (0 + Int.toNat i < List.length l) (
 cond (!F.inb (List.getD l (0 + Int.toNat i) (cod 7).d).2.1 0 3) (
  .ret (.fin (.c (.int .i64 4)) [])) (
  cond (!F.inb (List.getD l (0 + Int.toNat i) (cod 7).d).2.2.1 0 200000) (
   .ret (.fin (.c (.int .i64 4)) [])) (
   cond (!F.inb (List.getD l (0 + Int.toNat i) (cod 7).d).2.2.2 0 200000) (
    .ret (.fin (.c (.int .i64 4)) [])) (
    .need (i64ok (i + 1)) (
    .ret (.cut (cutAt Try.f24 14) ⟨tmG 20 [(27, .c (.slc 0 0 (List.length l) l_t)), (0, .c (.int .i64 (Int.ofNat (List.length l)))), (0, .c (.int .i64 (i + 1)))], [.inp 7 l]⟩)))))))) (
 .ret (.fin (.c (.int .i64 0)) [])) := by kernel_rfl



theorem aerr_loop (l : List (List UInt8 × Int × Int × Int)) (hl : l.length ≤ 32) (l_t : Bool) (g0 g1 g2 g3 g4 g5 g6 g7 g8 g9 g10 g11 g12 g13 g14 g15 : Int) (b0 : Base) (hb : b0.n = 1) (u : Int) : ∀ (m : Nat) (i : Int), 0 ≤ i → i + m = l.length → u = (if (l.drop i.toNat).all F.okI then 0 else 4) →
    Sym.Runs Try.prog b0 (cutAt Try.f24 14) (st_aerr_14 l l_t g0 g1 g2 g3 g4 g5 g6 g7 g8 g9 g10 g11 g12 g13 g14 g15 i) (Sym.Ends Try.prog Try.f24 1 (.c (.int .i64 u)) []) := by
  have hd : (cod 7).d = (([], 0, 0, 0) : List UInt8 × Int × Int × Int) := rfl
  intro m
  induction m with
  | zero =>
    intro i h0 hm hu
    refine Runs.go (cfg := C_acheck) L_acheck_ok mixed cuts_aerr 400 hb (aerr_t14 l l_t g0 g1 g2 g3 g4 g5 g6 g7 g8 g9 g10 g11 g12 g13 g14 g15 i) ?_
    have h1 : ¬ i < (l.length : Int) := by omega
    rw [drop_end l h1] at hu
    simp only [T.wp, T.wp_cond, Aft, Int.ofNat_eq_natCast, decide_eq_true_eq, and_true, true_and, Nat.zero_add, Bool.not_eq_true', decide_eq_false_iff_not, h1, if_false, hu, List.all_nil, if_true]
  | succ m ih =>
    intro i h0 hm hu
    refine Runs.go (cfg := C_acheck) L_acheck_ok mixed cuts_aerr 400 hb (aerr_t14 l l_t g0 g1 g2 g3 g4 g5 g6 g7 g8 g9 g10 g11 g12 g13 g14 g15 i) ?_
    have h1 : i < (l.length : Int) := by omega
    rw [drop_at l ([], 0, 0, 0) h0 h1, List.all_cons] at hu
    have nx := ih (i + 1) (by omega) (by omega)
    simp only [T.wp, T.wp_cond, Aft, Int.ofNat_eq_natCast, decide_eq_true_eq, and_true, true_and, Nat.zero_add, Bool.not_eq_true', decide_eq_false_iff_not, h1, if_true, hd]
    generalize l.getD i.toNat ([], 0, 0, 0) = e at *
    obtain ⟨e0, e1, e2, e3⟩ := e
    have ok : F.okI (e0, e1, e2, e3) = ((decide (0 ≤ e1) && decide (e1 ≤ 3)) && ((decide (0 ≤ e2) && decide (e2 ≤ 200000)) && (decide (0 ≤ e3) && decide (e3 ≤ 200000)))) := rfl
    rw [ok] at hu
    try simp only
    refine ⟨h0, by omega, ?_⟩
    have hi : i64ok (i + 1) := by unfold i64ok; omega
    by_cases c1 : F.inb e1 0 3 = true
    rotate_left
    · have := c1
      unfold F.inb at this
      simp [c1, hu]
      simp at this
      omega
    by_cases c2 : F.inb e2 0 200000 = true
    rotate_left
    · have := c2
      unfold F.inb at this
      simp [c1, c2, hu]
      simp at this
      omega
    by_cases c3 : F.inb e3 0 200000 = true
    rotate_left
    · have := c3
      unfold F.inb at this
      simp [c1, c2, c3, hu]
      simp at this
      omega
    simp only [c1, c2, c3, Bool.true_eq_false, if_false]
    refine ⟨hi, nx ?_⟩
    rw [hu]
    unfold F.inb at c1 c2 c3
    simp only [c1, c2, c3, Bool.and_self, Bool.true_and]
theorem aerr_run (l : List (List UInt8 × Int × Int × Int)) (l_t : Bool) (g0 g1 g2 g3 g4 g5 g6 g7 g8 g9 g10 g11 g12 g13 g14 g15 : Int) (b0 : Base) (hb : b0.n = 1)  : Sym.Runs Try.prog b0 [.code (codeOf Try.f24)] ⟨argsS Try.f24 [.c (.slc 0 0 (List.length l) l_t), .agg [.int .i64 g0, .int .i64 g1, .int .i64 g2, .int .i64 g3, .int .i64 g4, .int .i64 g5, .int .i64 g6, .int .i64 g7, .int .i64 g8, .int .i64 g9, .int .i64 g10, .int .i64 g11, .int .i64 g12, .int .i64 g13, .int .i64 g14, .int .i64 g15]], ([.inp 7 l] : Heap cod)⟩ (Sym.Ends Try.prog Try.f24 1 (.c (.int .i64 (F.apE l [(g0, g1, g2, g3), (g4, g5, g6, g7), (g8, g9, g10, g11), (g12, g13, g14, g15)]))) []) := by
  refine Runs.go (cfg := C_acheck) L_acheck_ok mixed cuts_aerr 400 hb (aerr_t0 l l_t g0 g1 g2 g3 g4 g5 g6 g7 g8 g9 g10 g11 g12 g13 g14 g15) ?_
  simp only [T.wp, T.wp_cond, Aft, Int.ofNat_eq_natCast, decide_eq_true_eq, and_true, true_and, Nat.zero_add, Bool.not_eq_true', decide_eq_false_iff_not, Int.reduceAdd, List.length_cons, List.length_nil]
  by_cases h0 : (32 : Int) < l.length
  · simp [h0, F.apE, show 32 < l.length by omega]
  have hbad : F.okG [(g0, g1, g2, g3), (g4, g5, g6, g7), (g8, g9, g10, g11), (g12, g13, g14, g15)] = false → F.apE l [(g0, g1, g2, g3), (g4, g5, g6, g7), (g8, g9, g10, g11), (g12, g13, g14, g15)] = 4 := fun h => by
    unfold F.apE
    rw [if_neg (by omega), if_pos h]
  rw [if_neg h0]
  (repeat (refine ⟨(by first | omega | (unfold i64ok; omega)), ?_⟩))
  by_cases a0 : F.inb g0 0 1000 = true
  rotate_left
  · have ab : F.okg g0 = false := by simpa [F.inb, F.okg] using a0
    rw [if_pos (by simpa using a0), hbad (by simp [F.okG, ab])]
  have q0 : F.okg g0 = true := a0
  rw [if_neg (by simp [a0])]
  (repeat (refine ⟨(by first | omega | (unfold i64ok; omega)), ?_⟩))
  by_cases a1 : F.inb g1 0 1000 = true
  rotate_left
  · have ab : F.okg g1 = false := by simpa [F.inb, F.okg] using a1
    rw [if_pos (by simpa using a1), hbad (by simp [F.okG, ab])]
  have q1 : F.okg g1 = true := a1
  rw [if_neg (by simp [a1])]
  (repeat (refine ⟨(by first | omega | (unfold i64ok; omega)), ?_⟩))
  by_cases a2 : F.inb g2 0 1000 = true
  rotate_left
  · have ab : F.okg g2 = false := by simpa [F.inb, F.okg] using a2
    rw [if_pos (by simpa using a2), hbad (by simp [F.okG, ab])]
  have q2 : F.okg g2 = true := a2
  rw [if_neg (by simp [a2])]
  (repeat (refine ⟨(by first | omega | (unfold i64ok; omega)), ?_⟩))
  by_cases a3 : F.inb g3 0 1000 = true
  rotate_left
  · have ab : F.okg g3 = false := by simpa [F.inb, F.okg] using a3
    rw [if_pos (by simpa using a3), hbad (by simp [F.okG, ab])]
  have q3 : F.okg g3 = true := a3
  rw [if_neg (by simp [a3])]
  (repeat (refine ⟨(by first | omega | (unfold i64ok; omega)), ?_⟩))
  by_cases a4 : F.inb g4 0 1000 = true
  rotate_left
  · have ab : F.okg g4 = false := by simpa [F.inb, F.okg] using a4
    rw [if_pos (by simpa using a4), hbad (by simp [F.okG, ab])]
  have q4 : F.okg g4 = true := a4
  rw [if_neg (by simp [a4])]
  (repeat (refine ⟨(by first | omega | (unfold i64ok; omega)), ?_⟩))
  by_cases a5 : F.inb g5 0 1000 = true
  rotate_left
  · have ab : F.okg g5 = false := by simpa [F.inb, F.okg] using a5
    rw [if_pos (by simpa using a5), hbad (by simp [F.okG, ab])]
  have q5 : F.okg g5 = true := a5
  rw [if_neg (by simp [a5])]
  (repeat (refine ⟨(by first | omega | (unfold i64ok; omega)), ?_⟩))
  by_cases a6 : F.inb g6 0 1000 = true
  rotate_left
  · have ab : F.okg g6 = false := by simpa [F.inb, F.okg] using a6
    rw [if_pos (by simpa using a6), hbad (by simp [F.okG, ab])]
  have q6 : F.okg g6 = true := a6
  rw [if_neg (by simp [a6])]
  (repeat (refine ⟨(by first | omega | (unfold i64ok; omega)), ?_⟩))
  by_cases a7 : F.inb g7 0 1000 = true
  rotate_left
  · have ab : F.okg g7 = false := by simpa [F.inb, F.okg] using a7
    rw [if_pos (by simpa using a7), hbad (by simp [F.okG, ab])]
  have q7 : F.okg g7 = true := a7
  rw [if_neg (by simp [a7])]
  (repeat (refine ⟨(by first | omega | (unfold i64ok; omega)), ?_⟩))
  by_cases a8 : F.inb g8 0 1000 = true
  rotate_left
  · have ab : F.okg g8 = false := by simpa [F.inb, F.okg] using a8
    rw [if_pos (by simpa using a8), hbad (by simp [F.okG, ab])]
  have q8 : F.okg g8 = true := a8
  rw [if_neg (by simp [a8])]
  (repeat (refine ⟨(by first | omega | (unfold i64ok; omega)), ?_⟩))
  by_cases a9 : F.inb g9 0 1000 = true
  rotate_left
  · have ab : F.okg g9 = false := by simpa [F.inb, F.okg] using a9
    rw [if_pos (by simpa using a9), hbad (by simp [F.okG, ab])]
  have q9 : F.okg g9 = true := a9
  rw [if_neg (by simp [a9])]
  (repeat (refine ⟨(by first | omega | (unfold i64ok; omega)), ?_⟩))
  by_cases a10 : F.inb g10 0 1000 = true
  rotate_left
  · have ab : F.okg g10 = false := by simpa [F.inb, F.okg] using a10
    rw [if_pos (by simpa using a10), hbad (by simp [F.okG, ab])]
  have q10 : F.okg g10 = true := a10
  rw [if_neg (by simp [a10])]
  (repeat (refine ⟨(by first | omega | (unfold i64ok; omega)), ?_⟩))
  by_cases a11 : F.inb g11 0 1000 = true
  rotate_left
  · have ab : F.okg g11 = false := by simpa [F.inb, F.okg] using a11
    rw [if_pos (by simpa using a11), hbad (by simp [F.okG, ab])]
  have q11 : F.okg g11 = true := a11
  rw [if_neg (by simp [a11])]
  (repeat (refine ⟨(by first | omega | (unfold i64ok; omega)), ?_⟩))
  by_cases a12 : F.inb g12 0 1000 = true
  rotate_left
  · have ab : F.okg g12 = false := by simpa [F.inb, F.okg] using a12
    rw [if_pos (by simpa using a12), hbad (by simp [F.okG, ab])]
  have q12 : F.okg g12 = true := a12
  rw [if_neg (by simp [a12])]
  (repeat (refine ⟨(by first | omega | (unfold i64ok; omega)), ?_⟩))
  by_cases a13 : F.inb g13 0 1000 = true
  rotate_left
  · have ab : F.okg g13 = false := by simpa [F.inb, F.okg] using a13
    rw [if_pos (by simpa using a13), hbad (by simp [F.okG, ab])]
  have q13 : F.okg g13 = true := a13
  rw [if_neg (by simp [a13])]
  (repeat (refine ⟨(by first | omega | (unfold i64ok; omega)), ?_⟩))
  by_cases a14 : F.inb g14 0 1000 = true
  rotate_left
  · have ab : F.okg g14 = false := by simpa [F.inb, F.okg] using a14
    rw [if_pos (by simpa using a14), hbad (by simp [F.okG, ab])]
  have q14 : F.okg g14 = true := a14
  rw [if_neg (by simp [a14])]
  (repeat (refine ⟨(by first | omega | (unfold i64ok; omega)), ?_⟩))
  by_cases a15 : F.inb g15 0 1000 = true
  rotate_left
  · have ab : F.okg g15 = false := by simpa [F.inb, F.okg] using a15
    rw [if_pos (by simpa using a15), hbad (by simp [F.okG, ab])]
  have q15 : F.okg g15 = true := a15
  rw [if_neg (by simp [a15])]
  (repeat (refine ⟨(by first | omega | (unfold i64ok; omega)), ?_⟩))
  have hG : F.okG [(g0, g1, g2, g3), (g4, g5, g6, g7), (g8, g9, g10, g11), (g12, g13, g14, g15)] = true := by simp [F.okG, q0, q1, q2, q3, q4, q5, q6, q7, q8, q9, q10, q11, q12, q13, q14, q15]
  refine aerr_loop l (by omega) l_t g0 g1 g2 g3 g4 g5 g6 g7 g8 g9 g10 g11 g12 g13 g14 g15 b0 hb _ l.length 0 (by omega) (by omega) ?_
  unfold F.apE
  rw [if_neg (by omega), if_neg (by simp [hG])]
  rfl



noncomputable def s_aerr : Summ cod := fun args H => match args, H with
  | [.c (.slc 0 l_i l_n l_t), .agg [.int .i64 g0, .int .i64 g1, .int .i64 g2, .int .i64 g3, .int .i64 g4, .int .i64 g5, .int .i64 g6, .int .i64 g7, .int .i64 g8, .int .i64 g9, .int .i64 g10, .int .i64 g11, .int .i64 g12, .int .i64 g13, .int .i64 g14, .int .i64 g15]], [o0] => (match o0.asInp 7 with | some l => .need ((l_i = 0 ∧ l_n = List.length l)) (.ret (.c (.int .i64 (F.apE l [(g0, g1, g2, g3), (g4, g5, g6, g7), (g8, g9, g10, g11), (g12, g13, g14, g15)])), [])) | none => .fail)
  | _, _ => .fail


theorem aerr_sound : Sound Try.prog cod 24 s_aerr := sound_runs (cfg := C_acheck) L_acheck_ok mixed Try.func24 rfl rfl _ fun args H r news hg b0 hb => by
  unfold s_aerr at hg
  split at hg
  · skip
    split at hg
    · rename_i l hx0
      cases asInp_spec hx0
      simp only [T.gives, T.wp, Prod.mk.injEq] at hg
      obtain ⟨⟨rfl, rfl⟩, rfl, rfl⟩ := hg
      exact aerr_run _ _ _ _ _ _ _ _ _ _ _ _ _ _ _ _ _ _ b0 hb 
    · exact hg.elim
  · exact hg.elim

noncomputable def L_aerr : Sums cod := (24, .p s_aerr) :: L_acheck
noncomputable def C_aerr : Cfg cod := mkC L_aerr

theorem L_aerr_ok : Snd Try.prog cod L_aerr := .cons aerr_sound L_acheck_ok


end
end Go.Proofs.Ytffcfbamcaoidaa
