/- Part of a claim: lemmas on the way to its theorem; each states its own conditions. -/
import Derived.Test.YtjffboggpofbfaaZf
namespace Go.Proofs.Ytjffboggpofbfaa
open Sym Go.RowKit
noncomputable section
set_option maxRecDepth 100000
set_option maxHeartbeats 4000000



namespace F
def bst (L : List (List Int)) (ms : Int) : List Int := if cE L ms = 0 then gre ms L (List.replicate (L.getD 0 []).length false) (tot L ms) else []
end F


def cuts_best : Cuts := [(8, [1, 9, 0, 30, 7, 31, 32, 11, 10], 4), (100009, [1, 9, 0, 30, 7, 31, 32, 11, 10], 5), (100011, [1, 9, 0, 30, 7, 31, 32, 14, 11, 10, 12, 13], 5), (14, [1, 9, 0, 30, 7, 31, 32, 11, 10, 12, 50, 14, 51, 52], 5)]
def cuts_best_r9 : Cuts := [(8, [1, 9, 0, 30, 7, 31, 32, 11, 10], 4), (100011, [1, 9, 0, 30, 7, 31, 32, 14, 11, 10, 12, 13], 5), (14, [1, 9, 0, 30, 7, 31, 32, 11, 10, 12, 50, 14, 51, 52], 5)]
def cuts_best_r9b : Cuts := [(8, [1, 9, 0, 30, 7, 31, 32, 11, 10], 4), (100011, [1, 9, 0, 30, 7, 31, 32, 14, 11, 10, 12, 13], 5), (14, [1, 9, 0, 30, 7, 31, 32, 11, 10, 12, 50, 14, 51, 52], 5)]
def cuts_best_r11 : Cuts := [(8, [1, 9, 0, 30, 7, 31, 32, 11, 10], 4), (100009, [1, 9, 0, 30, 7, 31, 32, 11, 10], 5), (14, [1, 9, 0, 30, 7, 31, 32, 11, 10, 12, 50, 14, 51, 52], 5)]
def cuts_best_r11b : Cuts := [(8, [1, 9, 0, 30, 7, 31, 32, 11, 10], 4), (100009, [1, 9, 0, 30, 7, 31, 32, 11, 10], 5), (14, [1, 9, 0, 30, 7, 31, 32, 11, 10, 12, 50, 14, 51, 52], 5)]

theorem best_t0 (L : List (List Int)) (L_t : Bool) (ms : Int) : symF C_tot cuts_best Try.f4.results.toList 1 400 [.code (codeOf Try.f4)] ⟨argsS Try.f4 [.c (.slc 0 0 (List.length L) L_t), .c (.int .i64 ms)], ([.nin 0 L none] : Heap cod)⟩ =
.need (((0 = 0 ∧ List.length L = List.length L) ∧ List.length L ≤ 5)) (
 cond (!decide (F.cE L ms = 0)) (
 .ret (.fin (.tup [.c (.own 1 0), .c (.int .i64 0), .c (.int .i64 (F.cE L ms))]) [.own 0 [] 3])) (
 .need ((0 = 0 ∧ List.length L = List.length L)) (
 .need (((0 : Int) ≤ Int.ofNat (List.length (List.getD L 0 [])) ∧ (Int.ofNat (List.length (List.getD L 0 [])) ≤ 1000000 ∧ Int.ofNat (List.length (List.getD L 0 [])) = Int.ofNat (List.length (List.getD L 0 []))))) (
 .ret (.cut (cutAt Try.f4 8) ⟨tmG 60 [(0, .c (.slc 0 0 (List.length L) L_t)), (0, .c (.int .i64 ms)), (5, .c (.int .i64 (F.tot L ms))), (1, .c (.slc 2 0 (Int.toNat (Int.ofNat (List.length (List.getD L 0 [])))) true)), (0, .c (.int .i64 (F.tot L ms))), (0, .c (.own 3 0)), (18, .c (.slc 0 0 (List.length L) L_t)), (0, .c (.int .i64 (Int.ofNat (List.length L)))), (0, .c (.int .i64 0))], [.nin 0 (L) none, .own 0 [] 3, .arr 4 (List.replicate (Int.toNat (Int.ofNat (List.length (List.getD L 0 [])))) false) 4, .own 0 [] 3]⟩))))) := by kernel_rfl


noncomputable def st_best_8 (L : List (List Int)) (L_t : Bool) (ms : Int) (w : Nat) (tk : List Bool) (out : List Int) (no i : Nat) (tt left : Int) : St cod := ⟨tmG 60 [(0, .c (.slc 0 0 (List.length L) L_t)), (0, .c (.int .i64 ms)), (5, .c (.int .i64 tt)), (1, .c (.slc 2 0 w true)), (0, .c (.int .i64 left)), (0, .c (.own 3 no)), (18, .c (.slc 0 0 (List.length L) L_t)), (0, .c (.int .i64 (List.length L : Int))), (0, .c (.int .i64 (i : Int)))], ([.nin 0 L none, .own 0 [] 3, .arr 4 tk 4, .own 0 out 3] : Heap cod)⟩


theorem best_t8 (L : List (List Int)) (L_t : Bool) (ms : Int) (w : Nat) (tk : List Bool) (out : List Int) (no i : Nat) (tt left : Int) : symF C_tot cuts_best Try.f4.results.toList 1 400 (cutAt Try.f4 8) (st_best_8 L L_t ms w tk out no i tt left) =
 cond (decide (Int.ofNat i < Int.ofNat (List.length L))) (
 .ret (.cut (regAt Try.f4 9) ⟨tmG 60 [(0, .c (.slc 0 0 (List.length L) L_t)), (0, .c (.int .i64 ms)), (5, .c (.int .i64 tt)), (1, .c (.slc 2 0 (w) true)), (0, .c (.int .i64 left)), (0, .c (.own 3 (no))), (18, .c (.slc 0 0 (List.length L) L_t)), (0, .c (.int .i64 (Int.ofNat (List.length L)))), (0, .c (.int .i64 (Int.ofNat i)))], [.nin 0 (L) none, .own 0 [] 3, .arr 4 tk 4, .own 0 out 3]⟩)) (
 .ret (.fin (.tup [.c (.own 1 (no)), .c (.int .i64 tt), .c (.int .i64 0)]) [.own 0 out 3])) := by kernel_rfl


noncomputable def st_best_r9 (L : List (List Int)) (L_t : Bool) (ms : Int) (w : Nat) (tk : List Bool) (out : List Int) (no i : Nat) (tt left : Int) : St cod := ⟨tmG 60 [(0, .c (.slc 0 0 (List.length L) L_t)), (0, .c (.int .i64 ms)), (5, .c (.int .i64 tt)), (1, .c (.slc 2 0 (w) true)), (0, .c (.int .i64 left)), (0, .c (.own 3 (no))), (18, .c (.slc 0 0 (List.length L) L_t)), (0, .c (.int .i64 (Int.ofNat (List.length L)))), (0, .c (.int .i64 (Int.ofNat i)))], [.nin 0 (L) none, .own 0 [] 3, .arr 4 tk 4, .own 0 out 3]⟩


noncomputable def st_best_r9b (L : List (List Int)) (L_t : Bool) (ms : Int) (w : Nat) (tk : List Bool) (out : List Int) (no i : Nat) (tt left : Int) (j : Nat) (q : List Int) : St cod := ⟨tmG 60 [(0, .c (.slc 0 0 (List.length L) L_t)), (0, .c (.int .i64 ms)), (5, .c (.int .i64 tt)), (1, .c (.slc 2 0 (w) true)), (0, .c (.int .i64 left)), (0, .c (.own 3 (no))), (18, .c (.slc 0 0 (List.length L) L_t)), (0, .c (.int .i64 (Int.ofNat (List.length L)))), (0, .c (.int .i64 (Int.ofNat i)))], ([.nin 0 L (some (j, .slc 4 0 (List.length q) false)), .own 0 [] 3, .arr 4 tk 4, .own 0 out 3, .inp 0 q] : Heap cod)⟩


theorem best_tr9b (L : List (List Int)) (L_t : Bool) (ms : Int) (w : Nat) (tk : List Bool) (out : List Int) (no i : Nat) (tt left : Int) (j : Nat) (q : List Int) : symF C_tot cuts_best_r9b Try.f4.results.toList 1 400 (regAt Try.f4 9) (st_best_r9b L L_t ms w tk out no i tt left j q) =
.need (((0 : Int) ≤ Int.ofNat i ∧ Int.ofNat i < Int.ofNat (List.length L))) (
.need ((0 + Int.toNat (Int.ofNat i) = j ∧ j < List.length L)) (
.ret (.cut (regAt Try.f4 11) ⟨tmG 60 [(0, .c (.slc 0 0 (List.length L) L_t)), (0, .c (.int .i64 ms)), (5, .c (.int .i64 tt)), (1, .c (.slc 2 0 (w) true)), (0, .c (.int .i64 left)), (0, .c (.own 3 (no))), (0, .c (.int .i64 (Int.ofNat i))), (0, .c (.slc 4 0 (List.length q) false)), (0, .c (.int .i64 (-1))), (15, .c (.slc 0 0 (List.length L) L_t)), (0, .c (.int .i64 (Int.ofNat (List.length L)))), (0, .c (.int .i64 (Int.ofNat i)))], [.nin 0 (L) (some ((j), .slc 4 0 (List.length q) false)), .own 0 [] 3, .arr 4 tk 4, .own 0 out 3, .inp 0 q]⟩))) := by kernel_rfl


noncomputable def st_best_r11 (L : List (List Int)) (L_t : Bool) (ms : Int) (w : Nat) (tk : List Bool) (out : List Int) (no i : Nat) (tt left : Int) (j : Nat) (q : List Int) : St cod := ⟨tmG 60 [(0, .c (.slc 0 0 (List.length L) L_t)), (0, .c (.int .i64 ms)), (5, .c (.int .i64 tt)), (1, .c (.slc 2 0 (w) true)), (0, .c (.int .i64 left)), (0, .c (.own 3 (no))), (0, .c (.int .i64 (i : Int))), (0, .c (.slc 4 0 (List.length q) false)), (0, .c (.int .i64 (-1))), (15, .c (.slc 0 0 (List.length L) L_t)), (0, .c (.int .i64 (Int.ofNat (List.length L)))), (0, .c (.int .i64 (Int.ofNat i)))], ([.nin 0 L (some (j, .slc 4 0 (List.length q) false)), .own 0 [] 3, .arr 4 tk 4, .own 0 out 3, .inp 0 q] : Heap cod)⟩


noncomputable def st_best_r11b (L : List (List Int)) (L_t : Bool) (ms : Int) (w : Nat) (tk : List Bool) (out : List Int) (no i : Nat) (tt left : Int) (q : List Int) : St cod := ⟨tmG 60 [(0, .c (.slc 0 0 (List.length L) L_t)), (0, .c (.int .i64 ms)), (5, .c (.int .i64 tt)), (1, .c (.slc 2 0 (w) true)), (0, .c (.int .i64 left)), (0, .c (.own 3 (no))), (0, .c (.int .i64 (Int.ofNat i))), (0, .c (.slc 4 0 (List.length q) false)), (0, .c (.int .i64 (-1))), (15, .c (.slc 0 0 (List.length L) L_t)), (0, .c (.int .i64 (Int.ofNat (List.length L)))), (0, .c (.int .i64 (Int.ofNat i)))], ([.nin 0 L none, .own 0 [] 3, .arr 4 tk 4, .own 0 out 3, .inp 0 q] : Heap cod)⟩


theorem best_tr11b (L : List (List Int)) (L_t : Bool) (ms : Int) (w : Nat) (tk : List Bool) (out : List Int) (no i : Nat) (tt left : Int) (q : List Int) : symF C_tot cuts_best_r11b Try.f4.results.toList 1 400 (regAt Try.f4 11) (st_best_r11b L L_t ms w tk out no i tt left q) =
.need (i64ok (Int.ofNat i + 1)) (
.need (((0 = 0 ∧ List.length L = List.length L) ∧ ((0 = 0 ∧ w = List.length tk) ∧ (((0 : Int) ≤ Int.ofNat i + 1 ∧ Int.ofNat i + 1 ≤ Int.ofNat (List.length L)) ∧ (F.rowsOk L tk ∧ (List.length tk ≤ 32 ∧ F.okC (List.drop (Int.toNat (Int.ofNat i + 1)) L) ms tk)))))) (
.need (i64ok (ms + F.lst ms (List.drop (Int.toNat (Int.ofNat i + 1)) L) tk)) (
 cond (decide (ms + F.lst ms (List.drop (Int.toNat (Int.ofNat i + 1)) L) tk = left)) (
 .need (i64ok (left - ms)) (
 .need (1 = 1) (
 .need (no + 1 ≤ 1000000) (
 .need (i64ok (Int.ofNat i + 1)) (
 .ret (.cut (cutAt Try.f4 8) ⟨tmG 60 [(0, .c (.slc 0 0 (List.length L) L_t)), (0, .c (.int .i64 ms)), (5, .c (.int .i64 tt)), (1, .c (.slc 2 0 (w) true)), (0, .c (.int .i64 (left - ms))), (0, .c (.own 3 (no + 1))), (18, .c (.slc 0 0 (List.length L) L_t)), (0, .c (.int .i64 (Int.ofNat (List.length L)))), (0, .c (.int .i64 (Int.ofNat i + 1)))], [.nin 0 (L) none, .own 0 [] 3, .arr 4 tk 4, .own 0 (out ++ [-1] : List Int) 3]⟩)))))) (
 .ret (.cut (cutAt Try.f4 14) ⟨tmG 40 [(0, .c (.slc 0 0 (List.length L) L_t)), (0, .c (.int .i64 ms)), (5, .c (.int .i64 tt)), (1, .c (.slc 2 0 (w) true)), (0, .c (.int .i64 left)), (0, .c (.own 3 (no))), (0, .c (.int .i64 (Int.ofNat i))), (1, .c (.int .i64 (-1))), (15, .c (.slc 0 0 (List.length L) L_t)), (0, .c (.int .i64 (Int.ofNat (List.length L)))), (0, .c (.int .i64 (Int.ofNat i))), (17, .c (.slc 4 0 (List.length q) false)), (0, .c (.int .i64 (Int.ofNat (List.length q)))), (0, .c (.int .i64 0))], [.nin 0 (L) none, .own 0 [] 3, .arr 4 tk 4, .own 0 out 3, .inp 0 q]⟩))))) := by kernel_rfl


noncomputable def st_best_14 (L : List (List Int)) (L_t : Bool) (ms : Int) (w : Nat) (tk : List Bool) (out : List Int) (no i : Nat) (tt left : Int) (q : List Int) (k : Nat) : St cod := ⟨tmG 40 [(0, .c (.slc 0 0 (List.length L) L_t)), (0, .c (.int .i64 ms)), (5, .c (.int .i64 tt)), (1, .c (.slc 2 0 w true)), (0, .c (.int .i64 left)), (0, .c (.own 3 no)), (0, .c (.int .i64 (i : Int))), (1, .c (.int .i64 (-1))), (15, .c (.slc 0 0 (List.length L) L_t)), (0, .c (.int .i64 (List.length L : Int))), (0, .c (.int .i64 (i : Int))), (17, .c (.slc 4 0 (List.length q) false)), (0, .c (.int .i64 (List.length q : Int))), (0, .c (.int .i64 (k : Int)))], ([.nin 0 L none, .own 0 [] 3, .arr 4 tk 4, .own 0 out 3, .inp 0 q] : Heap cod)⟩


theorem best_t14 (L : List (List Int)) (L_t : Bool) (ms : Int) (w : Nat) (tk : List Bool) (out : List Int) (no i : Nat) (tt left : Int) (q : List Int) (k : Nat) : symF C_tot cuts_best Try.f4.results.toList 1 400 (cutAt Try.f4 14) (st_best_14 L L_t ms w tk out no i tt left q k) =
 cond (decide (Int.ofNat k < Int.ofNat (List.length q))) (
 .need (((0 : Int) ≤ Int.ofNat k ∧ Int.ofNat k < Int.ofNat (List.length q))) (
 .need (0 + Int.toNat (Int.ofNat k) < List.length q) (
 cond (decide (List.getD q (0 + Int.toNat (Int.ofNat k)) (cod 0).d < 0)) (
  .need (i64ok (Int.ofNat k + 1)) (
  .ret (.cut (cutAt Try.f4 14) ⟨tmG 40 [(0, .c (.slc 0 0 (List.length L) L_t)), (0, .c (.int .i64 ms)), (5, .c (.int .i64 tt)), (1, .c (.slc 2 0 (w) true)), (0, .c (.int .i64 left)), (0, .c (.own 3 (no))), (0, .c (.int .i64 (Int.ofNat i))), (1, .c (.int .i64 (-1))), (15, .c (.slc 0 0 (List.length L) L_t)), (0, .c (.int .i64 (Int.ofNat (List.length L)))), (0, .c (.int .i64 (Int.ofNat i))), (17, .c (.slc 4 0 (List.length q) false)), (0, .c (.int .i64 (Int.ofNat (List.length q)))), (0, .c (.int .i64 (Int.ofNat k + 1)))], [.nin 0 (L) none, .own 0 [] 3, .arr 4 tk 4, .own 0 out 3, .inp 0 q]⟩))) (
  .need (((0 : Int) ≤ Int.ofNat k ∧ Int.ofNat k < Int.ofNat w)) (
  .need (0 + Int.toNat (Int.ofNat k) < List.length tk) (
  cond (List.getD tk (0 + Int.toNat (Int.ofNat k)) (cod 4).d) (
   .need (i64ok (Int.ofNat k + 1)) (
   .ret (.cut (cutAt Try.f4 14) ⟨tmG 40 [(0, .c (.slc 0 0 (List.length L) L_t)), (0, .c (.int .i64 ms)), (5, .c (.int .i64 tt)), (1, .c (.slc 2 0 (w) true)), (0, .c (.int .i64 left)), (0, .c (.own 3 (no))), (0, .c (.int .i64 (Int.ofNat i))), (1, .c (.int .i64 (-1))), (15, .c (.slc 0 0 (List.length L) L_t)), (0, .c (.int .i64 (Int.ofNat (List.length L)))), (0, .c (.int .i64 (Int.ofNat i))), (17, .c (.slc 4 0 (List.length q) false)), (0, .c (.int .i64 (Int.ofNat (List.length q)))), (0, .c (.int .i64 (Int.ofNat k + 1)))], [.nin 0 (L) none, .own 0 [] 3, .arr 4 tk 4, .own 0 out 3, .inp 0 q]⟩))) (
   .need (((0 : Int) ≤ Int.ofNat k ∧ Int.ofNat k < Int.ofNat w)) (
   .need (0 + Int.toNat (Int.ofNat k) < List.length tk) (
   .need (i64ok (Int.ofNat i + 1)) (
   .need (((0 = 0 ∧ List.length L = List.length L) ∧ ((0 = 0 ∧ w = List.length (List.set tk (0 + Int.toNat (Int.ofNat k)) true)) ∧ (((0 : Int) ≤ Int.ofNat i + 1 ∧ Int.ofNat i + 1 ≤ Int.ofNat (List.length L)) ∧ (F.rowsOk L (List.set tk (0 + Int.toNat (Int.ofNat k)) true) ∧ (List.length (List.set tk (0 + Int.toNat (Int.ofNat k)) true) ≤ 32 ∧ F.okC (List.drop (Int.toNat (Int.ofNat i + 1)) L) ms (List.set tk (0 + Int.toNat (Int.ofNat k)) true))))))) (
   .need (i64ok   (List.getD q (0 + Int.toNat (Int.ofNat k)) (cod 0).d +     F.lst ms (List.drop (Int.toNat (Int.ofNat i + 1)) L) (List.set tk (0 + Int.toNat (Int.ofNat k)) true))) (
   cond (decide   (List.getD q (0 + Int.toNat (Int.ofNat k)) (cod 0).d +       F.lst ms (List.drop (Int.toNat (Int.ofNat i + 1)) L) (List.set tk (0 + Int.toNat (Int.ofNat k)) true) =     left)) (
    .need (i64ok (left - List.getD q (0 + Int.toNat (Int.ofNat k)) (cod 0).d)) (
    .need (1 = 1) (
    .need (no + 1 ≤ 1000000) (
    .need (i64ok (Int.ofNat i + 1)) (
    .ret (.cut (cutAt Try.f4 8) ⟨tmG 60 [(0, .c (.slc 0 0 (List.length L) L_t)), (0, .c (.int .i64 ms)), (5, .c (.int .i64 tt)), (1, .c (.slc 2 0 (w) true)), (0, .c (.int .i64 (left - List.getD q (0 + Int.toNat (Int.ofNat k)) (cod 0).d))), (0, .c (.own 3 (no + 1))), (18, .c (.slc 0 0 (List.length L) L_t)), (0, .c (.int .i64 (Int.ofNat (List.length L)))), (0, .c (.int .i64 (Int.ofNat i + 1)))], [.nin 0 (L) none, .own 0 [] 3, .arr 4 (List.set tk (0 + Int.toNat (Int.ofNat k)) true) 4, .own 0 (out ++ ([Int.ofNat k])) 3]⟩)))))) (
    .need (((0 : Int) ≤ Int.ofNat k ∧ Int.ofNat k < Int.ofNat w)) (
    .need (0 + Int.toNat (Int.ofNat k) < List.length (List.set tk (0 + Int.toNat (Int.ofNat k)) true)) (
    .need (i64ok (Int.ofNat k + 1)) (
    .ret (.cut (cutAt Try.f4 14) ⟨tmG 40 [(0, .c (.slc 0 0 (List.length L) L_t)), (0, .c (.int .i64 ms)), (5, .c (.int .i64 tt)), (1, .c (.slc 2 0 (w) true)), (0, .c (.int .i64 left)), (0, .c (.own 3 (no))), (0, .c (.int .i64 (Int.ofNat i))), (1, .c (.int .i64 (-1))), (15, .c (.slc 0 0 (List.length L) L_t)), (0, .c (.int .i64 (Int.ofNat (List.length L)))), (0, .c (.int .i64 (Int.ofNat i))), (17, .c (.slc 4 0 (List.length q) false)), (0, .c (.int .i64 (Int.ofNat (List.length q)))), (0, .c (.int .i64 (Int.ofNat k + 1)))], [.nin 0 (L) none, .own 0 [] 3, .arr 4 (List.set (List.set tk (0 + Int.toNat (Int.ofNat k)) true) (0 + Int.toNat (Int.ofNat k)) false) 4, .own 0 out 3, .inp 0 q]⟩))))))))))))))))) (
 .need (1 = 1) (
 .need (no + 1 ≤ 1000000) (
 .need (i64ok (Int.ofNat i + 1)) (
 .ret (.cut (cutAt Try.f4 8) ⟨tmG 60 [(0, .c (.slc 0 0 (List.length L) L_t)), (0, .c (.int .i64 ms)), (5, .c (.int .i64 tt)), (1, .c (.slc 2 0 (w) true)), (0, .c (.int .i64 left)), (0, .c (.own 3 (no + 1))), (18, .c (.slc 0 0 (List.length L) L_t)), (0, .c (.int .i64 (Int.ofNat (List.length L)))), (0, .c (.int .i64 (Int.ofNat i + 1)))], [.nin 0 (L) none, .own 0 [] 3, .arr 4 tk 4, .own 0 (out ++ [-1] : List Int) 3]⟩))))) := by kernel_rfl



theorem asg_bd {ms : Int} (h0 : 0 ≤ ms ∧ ms ≤ 1099511627776) : ∀ (rs : List (List Int)) (tk : List Bool), (∀ r ∈ rs, ∀ k, r.getD k 0 ≤ 1099511627776) → ∀ p ∈ F.asg ms rs tk, 0 ≤ p.1 ∧ p.1 ≤ rs.length * 1099511627776
  | [], tk, _, p, hp => by
    have e : p = (0, []) := by simpa [F.asg] using hp
    rw [e]
    simp
  | r :: rs, tk, hr, p, hp => by
    have ih := fun tk => asg_bd h0 rs tk (fun r' hr' => hr r' (List.mem_cons_of_mem _ hr'))
    have hc := hr r (List.mem_cons_self ..)
    have e : (((r :: rs).length : Nat) : Int) = (rs.length : Int) + 1 := by simp
    rw [e, Int.add_mul, Int.one_mul]
    unfold F.asg at hp
    rcases List.mem_append.1 hp with h | h
    · obtain ⟨p', h1, rfl⟩ := List.mem_map.1 h
      have := ih tk p' h1
      show 0 ≤ ms + p'.1 ∧ ms + p'.1 ≤ _
      omega
    · obtain ⟨k, _, h2⟩ := List.mem_flatMap.1 h
      split at h2
      · cases h2
      · rename_i hk
        obtain ⟨p', h1, rfl⟩ := List.mem_map.1 h2
        have := ih _ p' h1
        have hck := hc k
        show 0 ≤ r.getD k 0 + p'.1 ∧ r.getD k 0 + p'.1 ≤ _
        omega
theorem lst_bd {ms : Int} {rs : List (List Int)} {tk : List Bool} (h : F.okC rs ms tk) : 0 ≤ F.lst ms rs tk ∧ F.lst ms rs tk ≤ 5497558138880 := by
  have hm := (F.isFst_mem (F.asg_fst ms rs tk)).1
  have := asg_bd ⟨h.2.1, h.2.2.1⟩ rs tk (fun r hr k => (h.1 r hr).2 k) _ hm
  have hl : (rs.length : Int) * 1099511627776 ≤ 5 * 1099511627776 := Int.mul_le_mul_of_nonneg_right (by have := h.2.2.2; omega) (by omega)
  show 0 ≤ (F.pick (F.asg ms rs tk)).1 ∧ (F.pick (F.asg ms rs tk)).1 ≤ _
  omega
theorem gre_len (ms : Int) : ∀ (rs : List (List Int)) (tk : List Bool) (left : Int), (F.gre ms rs tk left).length = rs.length
  | [], _, _ => rfl
  | r :: rs, tk, left => by
    unfold F.gre
    split
    · rw [List.length_cons, gre_len ms rs]; rfl
    · dsimp only
      split <;> rw [List.length_cons, gre_len ms rs] <;> rfl
theorem best14 (L : List (List Int)) (L_t : Bool) (ms : Int) (w : Nat) (b0 : Base) (hb : b0.n = 1) (RR : List Int) (tt : Int) (hL : L.length ≤ 5) (hw : w = (L.getD 0 []).length) (hc : F.cE L ms = 0) (out : List Int) (i : Nat) (left : Int) (q : List Int) (hq : q = L.getD i []) (hi : i < L.length) (tk : List Bool) (ht : tk.length = w) (hleft : -((i : Int) * 1099511627776) ≤ left ∧ left ≤ 5497558138880) (c0 : Int)
    (nx1 : c0 = -1 → Sym.Runs Try.prog b0 (cutAt Try.f4 8) (st_best_8 L L_t ms w tk (out ++ [-1]) (i + 1) (i + 1) tt left) (Sym.Ends Try.prog Try.f4 1 (.tup [.c (.own 1 RR.length), .c (.int .i64 tt), .c (.int .i64 0)]) [.own 0 RR 3]))
    (nx2 : ∀ k : Nat, c0 = (k : Int) → k < q.length → 0 ≤ q.getD k 0 → Sym.Runs Try.prog b0 (cutAt Try.f4 8) (st_best_8 L L_t ms w (tk.set k true) (out ++ [(k : Int)]) (i + 1) (i + 1) tt (left - q.getD k 0)) (Sym.Ends Try.prog Try.f4 1 (.tup [.c (.own 1 RR.length), .c (.int .i64 tt), .c (.int .i64 0)]) [.own 0 RR 3])) :
    ∀ (d k : Nat), k + d = q.length → F.chs ms q (L.drop (i + 1)) tk left d k = c0 →
    Sym.Runs Try.prog b0 (cutAt Try.f4 14) (st_best_14 L L_t ms w tk out i i tt left q k) (Sym.Ends Try.prog Try.f4 1 (.tup [.c (.own 1 RR.length), .c (.int .i64 tt), .c (.int .i64 0)]) [.own 0 RR 3]) := by
  have d0 : (cod 0).d = (0 : Int) := rfl
  have d4 : (cod 4).d = false := rfl
  have hqm : q ∈ L := by rw [hq]; exact F.getD_mem hi
  have ok := F.cE_ok hc
  have hql : q.length = w := by rw [hw]; exact (ok.1 q hqm).1
  have hq32 := (ok.1 q hqm).2.1
  have hN := fun tk' (h : tk'.length = w) => F.cE_need hc hL (tk := tk') (by rw [h, hw]) (i + 1)
  intro d
  induction d with
  | zero =>
    intro k hk hch
    refine Runs.go (cfg := C_tot) L_tot_ok mixed cuts_best 400 hb (best_t14 L L_t ms w tk out i i tt left q k) ?_
    simp only [T.wp, T.wp_cond, Aft, Int.ofNat_eq_natCast, decide_eq_true_eq, and_true, true_and, Nat.zero_add, d0, d4, Int.toNat_natCast]
    refine ite_no (by omega) ⟨by omega, by unfold i64ok; omega, nx1 hch.symm⟩
  | succ d ih =>
    intro k hk hch
    unfold F.chs at hch
    have hkq : k < q.length := by omega
    have hkt : k < tk.length := by omega
    have kz : (0 : Int) ≤ (k : Int) ∧ (k : Int) < (q.length : Int) := ⟨by omega, by omega⟩
    have kw : (0 : Int) ≤ (k : Int) ∧ (k : Int) < (w : Int) := ⟨by omega, by omega⟩
    have ki : i64ok ((k : Int) + 1) := by unfold i64ok; omega
    have ii : i64ok ((i : Int) + 1) := by unfold i64ok; omega
    refine Runs.go (cfg := C_tot) L_tot_ok mixed cuts_best 400 hb (best_t14 L L_t ms w tk out i i tt left q k) ?_
    simp only [T.wp, T.wp_cond, Aft, Int.ofNat_eq_natCast, decide_eq_true_eq, and_true, true_and, Nat.zero_add, d0, d4, Int.toNat_natCast]
    refine ite_yes (by omega) ⟨kz, hkq, ?_⟩
    by_cases c1 : q.getD k 0 < 0
    · rw [if_pos (.inl c1)] at hch
      exact ite_yes c1 ⟨ki, ih (k + 1) (by omega) hch⟩
    refine ite_no c1 ⟨kw, hkt, ?_⟩
    by_cases c2 : tk.getD k false = true
    · rw [if_pos (.inr c2)] at hch
      exact ite_yes c2 ⟨ki, ih (k + 1) (by omega) hch⟩
    rw [if_neg (by rintro (h | h); exact c1 h; exact c2 h)] at hch
    have hN1 := hN (tk.set k true) (by rw [List.length_set, ht])
    have lb := lst_bd hN1.2.2
    have e1 : ((i : Int) + 1).toNat = i + 1 := by omega
    have hqk : q.getD k 0 ≤ 1099511627776 := by
      rw [List.getD_eq_getElem?_getD, List.getElem?_eq_getElem hkq]
      exact ((ok.1 q hqm).2.2 _ (List.getElem_mem hkq)).2
    have hks : k < (tk.set k true).length := by rw [List.length_set]; exact hkt
    have hi5 : (i : Int) * 1099511627776 ≤ 5 * 1099511627776 := Int.mul_le_mul_of_nonneg_right (by omega) (by omega)
    refine ite_no c2 ⟨kw, hkt, ii, ⟨by rw [List.length_set, ht], ⟨by omega, by omega⟩, hN1.1, hN1.2.1, by rw [e1]; exact hN1.2.2⟩, ?_⟩
    rw [e1]
    refine ⟨by unfold i64ok; omega, ?_⟩
    by_cases c3 : q.getD k 0 + F.lst ms (L.drop (i + 1)) (tk.set k true) = left
    · rw [if_pos c3] at hch
      exact ite_yes c3 ⟨by unfold i64ok; omega, by omega, ii, nx2 k hch.symm hkq (by omega)⟩
    · rw [if_neg c3] at hch
      have es : (tk.set k true).set k false = tk := by
        rw [List.set_set]
        refine List.ext_getElem? fun j => ?_
        rw [List.getElem?_set]
        by_cases e : k = j
        · subst e
          rw [if_pos rfl, if_pos hkt]
          rw [List.getD_eq_getElem?_getD, List.getElem?_eq_getElem hkt] at c2
          rw [List.getElem?_eq_getElem hkt]
          congr 1
          simpa using c2
        · rw [if_neg e]
      have nx3 := ih (k + 1) (by omega) hch
      rw [← es] at nx3
      exact ite_no c3 ⟨kw, hks, ki, nx3⟩
theorem best8 (L : List (List Int)) (L_t : Bool) (ms : Int) (w : Nat) (b0 : Base) (hb : b0.n = 1) (RR : List Int) (tt : Int) (hL : L.length ≤ 5) (hw : w = (L.getD 0 []).length) (hc : F.cE L ms = 0) : ∀ (d i : Nat) (out : List Int) (tk : List Bool) (left : Int), i + d = L.length → tk.length = w → (-((i : Int) * 1099511627776) ≤ left ∧ left ≤ 5497558138880) → out ++ F.gre ms (L.drop i) tk left = RR →
    out.length = i → Sym.Runs Try.prog b0 (cutAt Try.f4 8) (st_best_8 L L_t ms w tk out i i tt left) (Sym.Ends Try.prog Try.f4 1 (.tup [.c (.own 1 RR.length), .c (.int .i64 tt), .c (.int .i64 0)]) [.own 0 RR 3]) := by
  have ok := F.cE_ok hc
  intro d
  induction d with
  | zero =>
    intro i out tk left hi ht hleft hR ho
    refine Runs.go (cfg := C_tot) L_tot_ok mixed cuts_best 400 hb (best_t8 L L_t ms w tk out i i tt left) ?_
    simp only [T.wp, T.wp_cond, Aft, Int.ofNat_eq_natCast, decide_eq_true_eq]
    rw [List.drop_eq_nil_of_le (by omega), F.gre, List.append_nil] at hR
    subst hR
    rw [ho]
    exact ite_no (by omega) (by first | trivial | exact ⟨rfl, rfl⟩)
  | succ d ih =>
    intro i out tk left hi ht hleft hR ho
    have hil : i < L.length := by omega
    have hN := F.cE_need hc hL (tk := tk) (by rw [ht]; assumption) (i + 1)
    refine Runs.go (cfg := C_tot) L_tot_ok mixed cuts_best 400 hb (best_t8 L L_t ms w tk out i i tt left) ?_
    simp only [T.wp, T.wp_cond, Aft, Int.ofNat_eq_natCast, decide_eq_true_eq]
    refine ite_yes (by omega) ?_
    refine Runs.open 0 i rfl hil rfl ?_
    refine Runs.weaken (st' := st_best_r9b L L_t ms w tk out i i tt left i (L.getD i [])) (fun a w hR => hR) ?_
    rw [dropc L [] i hil] at hR
    obtain ⟨q, hq⟩ : ∃ q, q = L.getD i [] := ⟨_, rfl⟩
    have hqm : q ∈ L := by rw [hq]; exact F.getD_mem hil
    rw [← hq] at hR ⊢
    refine Runs.go (cfg := C_tot) L_tot_ok mixed cuts_best_r9b 400 hb (best_tr9b L L_t ms w tk out i i tt left i q) ?_
    simp only [T.wp, Aft, Int.ofNat_eq_natCast, true_and, Nat.zero_add, Int.toNat_natCast]
    refine ⟨⟨by omega, by omega⟩, hil, ?_⟩
    refine Runs.close 0 rfl ?_
    refine Runs.weaken (st' := st_best_r11b L L_t ms w tk out i i tt left q) (fun a w hR => hR) ?_
    refine Runs.go (cfg := C_tot) L_tot_ok mixed cuts_best_r11b 400 hb (best_tr11b L L_t ms w tk out i i tt left q) ?_
    have e1 : ((i : Int) + 1).toNat = i + 1 := by omega
    have ii : i64ok ((i : Int) + 1) := by unfold i64ok; omega
    have lb := lst_bd hN.2.2
    have hi5 : (i : Int) * 1099511627776 ≤ 5 * 1099511627776 := Int.mul_le_mul_of_nonneg_right (by omega) (by omega)
    have hi6 : ((i + 1 : Nat) : Int) * 1099511627776 = (i : Int) * 1099511627776 + 1099511627776 := by rw [Int.natCast_succ, Int.add_mul, Int.one_mul]
    simp only [T.wp, T.wp_cond, Aft, Int.ofNat_eq_natCast, decide_eq_true_eq, and_true, true_and, e1]
    refine ⟨ii, ⟨ht.symm, ⟨by omega, by omega⟩, hN.1, hN.2.1, hN.2.2⟩, by unfold i64ok; omega, ?_⟩
    unfold F.gre at hR
    by_cases c : ms + F.lst ms (L.drop (i + 1)) tk = left
    · rw [if_pos c] at hR
      have nx := ih (i + 1) (out ++ [-1]) tk (left - ms) (by omega) ht (by rw [hi6]; omega) (by rw [List.append_assoc]; exact hR) (by rw [List.length_append, ho]; rfl)
      exact ite_yes c ⟨by unfold i64ok; omega, by omega, ii, nx⟩
    · rw [if_neg c] at hR
      dsimp only at hR
      refine ite_no c ?_
      refine best14 L L_t ms w b0 hb RR tt hL hw hc out i left q hq hil tk ht hleft (F.chs ms q (L.drop (i + 1)) tk left q.length 0) (fun e => ?_) (fun k e hk hq0 => ?_) q.length 0 (by omega) rfl
      · rw [if_pos e] at hR
        exact ih (i + 1) (out ++ [-1]) tk left (by omega) ht (by rw [hi6]; omega) (by rw [List.append_assoc]; exact hR) (by rw [List.length_append, ho]; rfl)
      · rw [if_neg (by omega), e, Int.toNat_natCast] at hR
        have hqk : q.getD k 0 ≤ 1099511627776 := by
          rw [List.getD_eq_getElem?_getD, List.getElem?_eq_getElem hk]
          exact ((ok.1 q hqm).2.2 _ (List.getElem_mem hk)).2
        exact ih (i + 1) (out ++ [(k : Int)]) (tk.set k true) (left - q.getD k 0) (by omega) (by rw [List.length_set, ht]) (by rw [hi6]; omega) (by rw [List.append_assoc]; exact hR) (by rw [List.length_append, ho]; rfl)
theorem best_run (L : List (List Int)) (L_t : Bool) (ms : Int) (b0 : Base) (hb : b0.n = 1) (h0 : List.length L ≤ 5) : Sym.Runs Try.prog b0 [.code (codeOf Try.f4)] ⟨argsS Try.f4 [.c (.slc 0 0 (List.length L) L_t), .c (.int .i64 ms)], ([.nin 0 L none] : Heap cod)⟩ (Sym.Ends Try.prog Try.f4 1 (.tup [.c (.own 1 (F.bst L ms).length), .c (.int .i64 (F.tot L ms)), .c (.int .i64 (F.cE L ms))]) [.own 0 (F.bst L ms) 3]) := by
  refine Runs.go (cfg := C_tot) L_tot_ok mixed cuts_best 400 hb (best_t0 L L_t ms) ?_
  simp only [T.wp, T.wp_cond, Aft, Int.ofNat_eq_natCast, and_true, true_and, Bool.not_eq_true', decide_eq_false_iff_not]
  refine ⟨h0, ?_⟩
  by_cases c : F.cE L ms = 0
  · refine ite_no (by rw [c]; decide) ?_
    have N := F.cE_need c h0 (tk := List.replicate (L.getD 0 []).length false) (by simp) 0
    have n2 := N.2.1
    rw [List.length_replicate] at n2
    have e1 : ((L.getD 0 []).length : Int).toNat = (L.getD 0 []).length := by omega
    have e2 : F.bst L ms = F.gre ms L (List.replicate (L.getD 0 []).length false) (F.tot L ms) := by unfold F.bst; rw [if_pos c]
    have e3 : F.tot L ms = F.lst ms (L.drop 0) (List.replicate (L.getD 0 []).length false) := by unfold F.tot; rw [if_pos c]; rfl
    have lb := lst_bd N.2.2
    rw [← e3] at lb
    have A := best8 L L_t ms (L.getD 0 []).length b0 hb (F.bst L ms) (F.tot L ms) h0 rfl c L.length 0 [] (List.replicate (L.getD 0 []).length false) (F.tot L ms) (by omega) (by simp) (by omega) (by rw [e2]; rfl) rfl
    rw [e1, c]
    exact ⟨⟨by omega, by omega⟩, A⟩
  · refine ite_yes c ?_
    have e2 : F.tot L ms = 0 := by unfold F.tot; rw [if_neg c]
    have e3 : F.bst L ms = [] := by unfold F.bst; rw [if_neg c]
    rw [e2, e3]
    first | trivial | exact ⟨rfl, rfl⟩



noncomputable def s_best : Summ cod := fun args H => match args, H with
  | [.c (.slc 0 L_i L_n L_t), .c (.int .i64 ms)], [o0] => (match o0.asNin 0 with | some L => .need ((L_i = 0 ∧ L_n = List.length L) ∧ (List.length L ≤ 5)) (.ret (.tup [.c (.own 1 (F.bst L ms).length), .c (.int .i64 (F.tot L ms)), .c (.int .i64 (F.cE L ms))], [.own 0 (F.bst L ms) 3])) | none => .fail)
  | _, _ => .fail


theorem best_sound : Sound Try.prog cod 4 s_best := sound_runs (cfg := C_tot) L_tot_ok mixed Try.func4 rfl rfl _ fun args H r news hg b0 hb => by
  unfold s_best at hg
  split at hg
  · skip
    split at hg
    · rename_i L hx0
      cases asNin_spec hx0
      simp only [T.gives, T.wp, Prod.mk.injEq] at hg
      obtain ⟨⟨⟨rfl, rfl⟩, q1⟩, rfl, rfl⟩ := hg
      exact best_run _ _ _ b0 hb (by assumption)
    · exact hg.elim
  · exact hg.elim

noncomputable def L_best : Sums cod := (4, .p s_best) :: L_tot
noncomputable def C_best : Cfg cod := mkC L_best

theorem L_best_ok : Snd Try.prog cod L_best := .cons best_sound L_tot_ok


end
end Go.Proofs.Ytjffboggpofbfaa
