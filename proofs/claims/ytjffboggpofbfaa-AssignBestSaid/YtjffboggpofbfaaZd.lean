/- Part of a claim: lemmas on the way to its theorem; each states its own conditions. -/
import Derived.Test.YtjffboggpofbfaaZc
import Derived.Test.YtjffboggpofbfaaHuS
import Derived.Test.YtjffboggpofbfaaSym47
namespace Go.Proofs.Ytjffboggpofbfaa
open Sym Go.RowKit
noncomputable section
set_option maxRecDepth 100000
set_option maxHeartbeats 4000000



def opsI : List Item → Array Oper
  | .code (.region _ ops _) :: _ => ops
  | _ => #[]
def idI : List Item → Nat
  | .code (.region i _ _) :: _ => i
  | _ => 0
noncomputable def R28 : Array Oper := opsI (regAt Try.f10 28)
instance i60 : OfNat (cod 0).α 1152921504606846976 := ⟨(1152921504606846976 : Int)⟩


def cuts_lea : Cuts := [(100005, [10, 5, 7, 9], 6), (100006, [10, 11, 5, 7, 9], 7), (11, [17, 15, 14, 13, 16, 12, 10, 18], 11), (17, [20, 19, 17, 15, 14, 13, 16, 12, 10, 18, 70, 71], 12), (22, [20, 19, 17, 15, 14, 13, 22, 16, 12, 10, 18], 13), (25, [20, 24, 19, 17, 15, 23, 14, 13, 22, 16, 12, 10, 18, 25, 26], 13), (100028, [20, 19, 17, 15, 23, 14, 13, 22, 16, 12, 10, 18, 26, 24, 25], 13), (34, [24, 15, 16, 14, 20, 22, 17, 13, 12, 10, 18, 25, 139, 140], 13), (43, [17, 16, 15, 14, 13, 12, 10, 18, 19], 11), (48, [16, 13, 12, 30, 29], 11)]
def cuts_lea_r5 : Cuts := [(100006, [10, 11, 5, 7, 9], 7), (11, [17, 15, 14, 13, 16, 12, 10, 18], 11), (17, [20, 19, 17, 15, 14, 13, 16, 12, 10, 18, 70, 71], 12), (22, [20, 19, 17, 15, 14, 13, 22, 16, 12, 10, 18], 13), (25, [20, 24, 19, 17, 15, 23, 14, 13, 22, 16, 12, 10, 18, 25, 26], 13), (100028, [20, 19, 17, 15, 23, 14, 13, 22, 16, 12, 10, 18, 26, 24, 25], 13), (34, [24, 15, 16, 14, 20, 22, 17, 13, 12, 10, 18, 25, 139, 140], 13), (43, [17, 16, 15, 14, 13, 12, 10, 18, 19], 11), (48, [16, 13, 12, 30, 29], 11)]
def cuts_lea_r5b : Cuts := [(100006, [10, 11, 5, 7, 9], 7), (11, [17, 15, 14, 13, 16, 12, 10, 18], 11), (17, [20, 19, 17, 15, 14, 13, 16, 12, 10, 18, 70, 71], 12), (22, [20, 19, 17, 15, 14, 13, 22, 16, 12, 10, 18], 13), (25, [20, 24, 19, 17, 15, 23, 14, 13, 22, 16, 12, 10, 18, 25, 26], 13), (100028, [20, 19, 17, 15, 23, 14, 13, 22, 16, 12, 10, 18, 26, 24, 25], 13), (34, [24, 15, 16, 14, 20, 22, 17, 13, 12, 10, 18, 25, 139, 140], 13), (43, [17, 16, 15, 14, 13, 12, 10, 18, 19], 11), (48, [16, 13, 12, 30, 29], 11)]
def cuts_lea_r6 : Cuts := [(100005, [10, 5, 7, 9], 6), (11, [17, 15, 14, 13, 16, 12, 10, 18], 11), (17, [20, 19, 17, 15, 14, 13, 16, 12, 10, 18, 70, 71], 12), (22, [20, 19, 17, 15, 14, 13, 22, 16, 12, 10, 18], 13), (25, [20, 24, 19, 17, 15, 23, 14, 13, 22, 16, 12, 10, 18, 25, 26], 13), (100028, [20, 19, 17, 15, 23, 14, 13, 22, 16, 12, 10, 18, 26, 24, 25], 13), (34, [24, 15, 16, 14, 20, 22, 17, 13, 12, 10, 18, 25, 139, 140], 13), (43, [17, 16, 15, 14, 13, 12, 10, 18, 19], 11), (48, [16, 13, 12, 30, 29], 11)]
def cuts_lea_r6b : Cuts := [(100005, [10, 5, 7, 9], 6), (11, [17, 15, 14, 13, 16, 12, 10, 18], 11), (17, [20, 19, 17, 15, 14, 13, 16, 12, 10, 18, 70, 71], 12), (22, [20, 19, 17, 15, 14, 13, 22, 16, 12, 10, 18], 13), (25, [20, 24, 19, 17, 15, 23, 14, 13, 22, 16, 12, 10, 18, 25, 26], 13), (100028, [20, 19, 17, 15, 23, 14, 13, 22, 16, 12, 10, 18, 26, 24, 25], 13), (34, [24, 15, 16, 14, 20, 22, 17, 13, 12, 10, 18, 25, 139, 140], 13), (43, [17, 16, 15, 14, 13, 12, 10, 18, 19], 11), (48, [16, 13, 12, 30, 29], 11)]
def cuts_lea_r28 : Cuts := [(100005, [10, 5, 7, 9], 6), (100006, [10, 11, 5, 7, 9], 7), (11, [17, 15, 14, 13, 16, 12, 10, 18], 11), (17, [20, 19, 17, 15, 14, 13, 16, 12, 10, 18, 70, 71], 12), (22, [20, 19, 17, 15, 14, 13, 22, 16, 12, 10, 18], 13), (25, [20, 24, 19, 17, 15, 23, 14, 13, 22, 16, 12, 10, 18, 25, 26], 13), (34, [24, 15, 16, 14, 20, 22, 17, 13, 12, 10, 18, 25, 139, 140], 13), (43, [17, 16, 15, 14, 13, 12, 10, 18, 19], 11), (48, [16, 13, 12, 30, 29], 11)]

theorem lea_t0 (L : List (List Int)) (L_t : Bool) (ms : Int) (fr : Int) (tk : List Bool) (tk_t : Bool) : symF C_cost cuts_lea Try.f10.results.toList 2 400 [.code (codeOf Try.f10)] ⟨argsS Try.f10 [.c (.slc 0 0 (List.length L) L_t), .c (.int .i64 ms), .c (.int .i64 fr), .c (.slc 1 0 (List.length tk) tk_t)], ([.nin 0 L none, .inp 4 tk] : Heap cod)⟩ =
.need (((0 : Int) ≤ fr ∧ fr ≤ Int.ofNat (List.length L))) (
 cond (decide (Int.ofNat (List.length L - Int.toNat fr) = 0)) (
 .ret (.fin (.c (.int .i64 0)) [])) (
 .ret (.cut (regAt Try.f10 5) ⟨tmG 205 [(5, .c (.ptr 2 0 0)), (1, .c (.ptr 3 0 0)), (1, .c (.ptr 4 0 0)), (0, .c (.int .i64 (Int.ofNat (List.length L - Int.toNat fr))))], [.nin 0 (L) none, .inp 4 tk, .blk [.int .i64 ms] 3, .blk [.slc 1 0 (List.length tk) tk_t] 33, .blk [.slc 0 (0 + Int.toNat fr) (List.length L - Int.toNat fr) L_t] 22]⟩))) := by kernel_rfl


noncomputable def st_lea_r5 (L : List (List Int)) (L_t : Bool) (ms : Int) (fr : Int) (tk : List Bool) (tk_t : Bool)  : St cod := ⟨tmG 205 [(5, .c (.ptr 2 0 0)), (1, .c (.ptr 3 0 0)), (1, .c (.ptr 4 0 0)), (0, .c (.int .i64 (Int.ofNat (List.length L - Int.toNat fr))))], [.nin 0 (L) none, .inp 4 tk, .blk [.int .i64 ms] 3, .blk [.slc 1 0 (List.length tk) tk_t] 33, .blk [.slc 0 (0 + Int.toNat fr) (List.length L - Int.toNat fr) L_t] 22]⟩


noncomputable def st_lea_r5b (L : List (List Int)) (L_t : Bool) (ms : Int) (fr : Int) (tk : List Bool) (tk_t : Bool) (n j : Nat) (q : List Int) : St cod := ⟨tmG 205 [(5, .c (.ptr 2 0 0)), (1, .c (.ptr 3 0 0)), (1, .c (.ptr 4 0 0)), (0, .c (.int .i64 (n : Int)))], ([.nin 0 L (some (j, .slc 5 0 (List.length q) false)), .inp 4 tk, .blk [.int .i64 ms] 3, .blk [.slc 1 0 (List.length tk) tk_t] 33, .blk [.slc 0 (Int.toNat fr) n L_t] 22, .inp 0 q] : Heap cod)⟩


theorem lea_tr5b (L : List (List Int)) (L_t : Bool) (ms : Int) (fr : Int) (tk : List Bool) (tk_t : Bool) (n j : Nat) (q : List Int) : symF C_cost cuts_lea_r5b Try.f10.results.toList 2 400 (regAt Try.f10 5) (st_lea_r5b L L_t ms fr tk tk_t n j q) =
.need (((0 : Int) ≤ 0 ∧ (0 : Int) < Int.ofNat n)) (
.need ((Int.toNat fr + Int.toNat 0 = j ∧ j < List.length L)) (
.ret (.cut (regAt Try.f10 6) ⟨tmG 204 [(5, .c (.ptr 2 0 0)), (1, .c (.ptr 3 0 0)), (1, .c (.ptr 4 0 0)), (0, .c (.int .i64 (Int.ofNat n))), (0, .c (.ptr 6 0 0))], [.nin 0 (L) (some ((j), .slc 5 0 (List.length q) false)), .inp 4 tk, .blk [.int .i64 ms] 3, .blk [.slc 1 0 (List.length tk) tk_t] 33, .blk [.slc 0 (Int.toNat fr) (n) L_t] 22, .inp 0 q, .blk [.int .i64 (Int.ofNat (List.length q))] 3]⟩))) := by kernel_rfl


noncomputable def st_lea_r6 (L : List (List Int)) (L_t : Bool) (ms : Int) (fr : Int) (tk : List Bool) (tk_t : Bool) (n j : Nat) (q : List Int) : St cod := ⟨tmG 204 [(5, .c (.ptr 2 0 0)), (1, .c (.ptr 3 0 0)), (1, .c (.ptr 4 0 0)), (0, .c (.int .i64 (Int.ofNat n))), (0, .c (.ptr 6 0 0))], ([.nin 0 L (some (j, .slc 5 0 (List.length q) false)), .inp 4 tk, .blk [.int .i64 ms] 3, .blk [.slc 1 0 (List.length tk) tk_t] 33, .blk [.slc 0 (Int.toNat fr) n L_t] 22, .inp 0 q, .blk [.int .i64 (List.length q : Int)] 3] : Heap cod)⟩


noncomputable def st_lea_r6b (L : List (List Int)) (L_t : Bool) (ms : Int) (fr : Int) (tk : List Bool) (tk_t : Bool) (n : Nat) (q : List Int) : St cod := ⟨tmG 204 [(5, .c (.ptr 2 0 0)), (1, .c (.ptr 3 0 0)), (1, .c (.ptr 4 0 0)), (0, .c (.int .i64 (Int.ofNat n))), (0, .c (.ptr 6 0 0))], ([.nin 0 L none, .inp 4 tk, .blk [.int .i64 ms] 3, .blk [.slc 1 0 (List.length tk) tk_t] 33, .blk [.slc 0 (Int.toNat fr) n L_t] 22, .inp 0 q, .blk [.int .i64 (List.length tk : Int)] 3] : Heap cod)⟩


theorem lea_tr6b (L : List (List Int)) (L_t : Bool) (ms : Int) (fr : Int) (tk : List Bool) (tk_t : Bool) (n : Nat) (q : List Int) : symF C_cost cuts_lea_r6b Try.f10.results.toList 2 400 (regAt Try.f10 6) (st_lea_r6b L L_t ms fr tk tk_t n q) =
.need (i64ok (Int.ofNat (List.length tk) + Int.ofNat n)) (
.need (i64ok (Int.ofNat n + 1)) (
.need (((0 : Int) ≤ Int.ofNat n + 1 ∧ (Int.ofNat n + 1 ≤ 1000000 ∧ Int.ofNat n + 1 = Int.ofNat n + 1))) (
.need (i64ok (Int.ofNat (List.length tk) + Int.ofNat n + 1)) (
.need (((0 : Int) ≤ Int.ofNat (List.length tk) + Int.ofNat n + 1 ∧ (Int.ofNat (List.length tk) + Int.ofNat n + 1 ≤ 1000000 ∧ Int.ofNat (List.length tk) + Int.ofNat n + 1 = Int.ofNat (List.length tk) + Int.ofNat n + 1))) (
.need (i64ok (Int.ofNat (List.length tk) + Int.ofNat n + 1)) (
.need (((0 : Int) ≤ Int.ofNat (List.length tk) + Int.ofNat n + 1 ∧ (Int.ofNat (List.length tk) + Int.ofNat n + 1 ≤ 1000000 ∧ Int.ofNat (List.length tk) + Int.ofNat n + 1 = Int.ofNat (List.length tk) + Int.ofNat n + 1))) (
.need (i64ok (Int.ofNat (List.length tk) + Int.ofNat n + 1)) (
.need (((0 : Int) ≤ Int.ofNat (List.length tk) + Int.ofNat n + 1 ∧ (Int.ofNat (List.length tk) + Int.ofNat n + 1 ≤ 1000000 ∧ Int.ofNat (List.length tk) + Int.ofNat n + 1 = Int.ofNat (List.length tk) + Int.ofNat n + 1))) (
.ret (.cut (cutAt Try.f10 11) ⟨tmG 197 [(10, .c (.int .i64 (Int.ofNat n))), (1, .c (.int .i64 (Int.ofNat (List.length tk) + Int.ofNat n))), (0, .c (.fn 13 [(6, 0, 0), (2, 0, 0), (3, 0, 0), (4, 0, 0)])), (0, .c (.slc 7 0 (Int.toNat (Int.ofNat n + 1)) true)), (0, .c (.slc 8 0 (Int.toNat (Int.ofNat (List.length tk) + Int.ofNat n + 1)) true)), (0, .c (.slc 9 0 (Int.toNat (Int.ofNat (List.length tk) + Int.ofNat n + 1)) true)), (0, .c (.slc 10 0 (Int.toNat (Int.ofNat (List.length tk) + Int.ofNat n + 1)) true)), (0, .c (.int .i64 1))], [.nin 0 (L) none, .inp 4 tk, .blk [.int .i64 ms] 3, .blk [.slc 1 0 (List.length tk) tk_t] 33, .blk [.slc 0 (Int.toNat fr) (n) L_t] 22, .inp 0 q, .blk [.int .i64 (Int.ofNat (List.length tk))] 3, .arr 0 (List.replicate (Int.toNat (Int.ofNat n + 1)) (0 : Int)) 3, .arr 0 (List.replicate (Int.toNat (Int.ofNat (List.length tk) + Int.ofNat n + 1)) (0 : Int)) 3, .arr 0 (List.replicate (Int.toNat (Int.ofNat (List.length tk) + Int.ofNat n + 1)) (0 : Int)) 3, .arr 0 (List.replicate (Int.toNat (Int.ofNat (List.length tk) + Int.ofNat n + 1)) (0 : Int)) 3]⟩)))))))))) := by kernel_rfl


noncomputable def st_lea_11 (L : List (List Int)) (L_t : Bool) (ms : Int) (fr : Int) (tk : List Bool) (tk_t : Bool) (n : Nat) (q : List Int) (m i : Nat) (u v row way : List Int) : St cod := ⟨tmG 197 [(10, .c (.int .i64 (n : Int))), (1, .c (.int .i64 (m : Int))), (0, .c (.fn 13 [(6, 0, 0), (2, 0, 0), (3, 0, 0), (4, 0, 0)])), (0, .c (.slc 7 0 (n + 1) true)), (0, .c (.slc 8 0 (m + 1) true)), (0, .c (.slc 9 0 (m + 1) true)), (0, .c (.slc 10 0 (m + 1) true)), (0, .c (.int .i64 (i : Int)))], ([.nin 0 L none, .inp 4 tk, .blk [.int .i64 ms] 3, .blk [.slc 1 0 (List.length tk) tk_t] 33, .blk [.slc 0 (Int.toNat fr) n L_t] 22, .inp 0 q, .blk [.int .i64 (List.length tk : Int)] 3, .arr 0 u 3, .arr 0 v 3, .arr 0 row 3, .arr 0 way 3] : Heap cod)⟩


theorem lea_t11 (L : List (List Int)) (L_t : Bool) (ms : Int) (fr : Int) (tk : List Bool) (tk_t : Bool) (n : Nat) (q : List Int) (m i : Nat) (u v row way : List Int) : symF C_cost cuts_lea Try.f10.results.toList 2 400 (cutAt Try.f10 11) (st_lea_11 L L_t ms fr tk tk_t n q m i u v row way) =
 cond (decide (Int.ofNat i ≤ Int.ofNat n)) (
 .need (((0 : Int) ≤ 0 ∧ (0 : Int) < Int.ofNat (m + 1))) (
 .need ((0 + Int.toNat 0 : Nat) < List.length row) (
 .need (i64ok (Int.ofNat m + 1)) (
 .need (((0 : Int) ≤ Int.ofNat m + 1 ∧ (Int.ofNat m + 1 ≤ 1000000 ∧ Int.ofNat m + 1 = Int.ofNat m + 1))) (
 .ret (.cut (cutAt Try.f10 17) ⟨tmG 144 [(10, .c (.int .i64 (Int.ofNat n))), (1, .c (.int .i64 (Int.ofNat m))), (0, .c (.fn 13 [(6, 0, 0), (2, 0, 0), (3, 0, 0), (4, 0, 0)])), (0, .c (.slc 7 0 (n + 1) true)), (0, .c (.slc 8 0 (m + 1) true)), (0, .c (.slc 9 0 (m + 1) true)), (0, .c (.slc 10 0 (m + 1) true)), (0, .c (.int .i64 (Int.ofNat i))), (0, .c (.int .i64 0)), (0, .c (.slc 11 0 (Int.toNat (Int.ofNat m + 1)) true)), (49, .c (.int .i64 (Int.ofNat (Int.toNat (Int.ofNat m + 1))))), (0, .c (.int .i64 0))], [.nin 0 (L) none, .inp 4 tk, .blk [.int .i64 ms] 3, .blk [.slc 1 0 (List.length tk) tk_t] 33, .blk [.slc 0 (Int.toNat fr) (n) L_t] 22, .inp 0 q, .blk [.int .i64 (Int.ofNat (List.length tk))] 3, .arr 0 u 3, .arr 0 v 3, .arr 0 (List.set row (0 + Int.toNat 0) (Int.ofNat i)) 3, .arr 0 way 3, .arr 0 (List.replicate (Int.toNat (Int.ofNat m + 1)) (0 : Int)) 3]⟩)))))) (
 .ret (.cut (cutAt Try.f10 48) ⟨tmG 185 [(12, .c (.int .i64 (Int.ofNat m))), (0, .c (.fn 13 [(6, 0, 0), (2, 0, 0), (3, 0, 0), (4, 0, 0)])), (2, .c (.slc 9 0 (m + 1) true)), (12, .c (.int .i64 0)), (0, .c (.int .i64 1))], [.nin 0 (L) none, .inp 4 tk, .blk [.int .i64 ms] 3, .blk [.slc 1 0 (List.length tk) tk_t] 33, .blk [.slc 0 (Int.toNat fr) (n) L_t] 22, .inp 0 q, .blk [.int .i64 (Int.ofNat (List.length tk))] 3, .arr 0 u 3, .arr 0 v 3, .arr 0 row 3, .arr 0 way 3]⟩)) := by kernel_rfl


noncomputable def st_lea_17 (L : List (List Int)) (L_t : Bool) (ms : Int) (fr : Int) (tk : List Bool) (tk_t : Bool) (n : Nat) (q : List Int) (m i : Nat) (u v row way : List Int) (low : List Int) (k : Nat) : St cod := ⟨tmG 144 [(10, .c (.int .i64 (n : Int))), (1, .c (.int .i64 (m : Int))), (0, .c (.fn 13 [(6, 0, 0), (2, 0, 0), (3, 0, 0), (4, 0, 0)])), (0, .c (.slc 7 0 (n + 1) true)), (0, .c (.slc 8 0 (m + 1) true)), (0, .c (.slc 9 0 (m + 1) true)), (0, .c (.slc 10 0 (m + 1) true)), (0, .c (.int .i64 (i : Int))), (0, .c (.int .i64 0)), (0, .c (.slc 11 0 (m + 1) true)), (49, .c (.int .i64 ((m + 1 : Nat) : Int))), (0, .c (.int .i64 (k : Int)))], ([.nin 0 L none, .inp 4 tk, .blk [.int .i64 ms] 3, .blk [.slc 1 0 (List.length tk) tk_t] 33, .blk [.slc 0 (Int.toNat fr) n L_t] 22, .inp 0 q, .blk [.int .i64 (List.length tk : Int)] 3, .arr 0 u 3, .arr 0 v 3, .arr 0 row 3, .arr 0 way 3, .arr 0 low 3] : Heap cod)⟩


theorem lea_t17 (L : List (List Int)) (L_t : Bool) (ms : Int) (fr : Int) (tk : List Bool) (tk_t : Bool) (n : Nat) (q : List Int) (m i : Nat) (u v row way : List Int) (low : List Int) (k : Nat) : symF C_cost cuts_lea Try.f10.results.toList 2 400 (cutAt Try.f10 17) (st_lea_17 L L_t ms fr tk tk_t n q m i u v row way low k) =
 cond (decide (Int.ofNat k < Int.ofNat (m + 1))) (
 .need (((0 : Int) ≤ Int.ofNat k ∧ Int.ofNat k < Int.ofNat (m + 1))) (
 .need (0 + Int.toNat (Int.ofNat k) < List.length low) (
 .need (i64ok (Int.ofNat k + 1)) (
 .ret (.cut (cutAt Try.f10 17) ⟨tmG 144 [(10, .c (.int .i64 (Int.ofNat n))), (1, .c (.int .i64 (Int.ofNat m))), (0, .c (.fn 13 [(6, 0, 0), (2, 0, 0), (3, 0, 0), (4, 0, 0)])), (0, .c (.slc 7 0 (n + 1) true)), (0, .c (.slc 8 0 (m + 1) true)), (0, .c (.slc 9 0 (m + 1) true)), (0, .c (.slc 10 0 (m + 1) true)), (0, .c (.int .i64 (Int.ofNat i))), (0, .c (.int .i64 0)), (0, .c (.slc 11 0 (m + 1) true)), (49, .c (.int .i64 (Int.ofNat (m + 1)))), (0, .c (.int .i64 (Int.ofNat k + 1)))], [.nin 0 (L) none, .inp 4 tk, .blk [.int .i64 ms] 3, .blk [.slc 1 0 (List.length tk) tk_t] 33, .blk [.slc 0 (Int.toNat fr) (n) L_t] 22, .inp 0 q, .blk [.int .i64 (Int.ofNat (List.length tk))] 3, .arr 0 u 3, .arr 0 v 3, .arr 0 row 3, .arr 0 way 3, .arr 0 (List.set low (0 + Int.toNat (Int.ofNat k)) 1152921504606846976) 3]⟩))))) (
 .need (i64ok (Int.ofNat m + 1)) (
 .need (((0 : Int) ≤ Int.ofNat m + 1 ∧ (Int.ofNat m + 1 ≤ 1000000 ∧ Int.ofNat m + 1 = Int.ofNat m + 1))) (
 .ret (.cut (cutAt Try.f10 22) ⟨tmG 193 [(10, .c (.int .i64 (Int.ofNat n))), (1, .c (.int .i64 (Int.ofNat m))), (0, .c (.fn 13 [(6, 0, 0), (2, 0, 0), (3, 0, 0), (4, 0, 0)])), (0, .c (.slc 7 0 (n + 1) true)), (0, .c (.slc 8 0 (m + 1) true)), (0, .c (.slc 9 0 (m + 1) true)), (0, .c (.slc 10 0 (m + 1) true)), (0, .c (.int .i64 (Int.ofNat i))), (0, .c (.int .i64 0)), (0, .c (.slc 11 0 (m + 1) true)), (1, .c (.slc 12 0 (Int.toNat (Int.ofNat m + 1)) true))], [.nin 0 (L) none, .inp 4 tk, .blk [.int .i64 ms] 3, .blk [.slc 1 0 (List.length tk) tk_t] 33, .blk [.slc 0 (Int.toNat fr) (n) L_t] 22, .inp 0 q, .blk [.int .i64 (Int.ofNat (List.length tk))] 3, .arr 0 u 3, .arr 0 v 3, .arr 0 row 3, .arr 0 way 3, .arr 0 low 3, .arr 4 (List.replicate (Int.toNat (Int.ofNat m + 1)) false) 4]⟩)))) := by kernel_rfl


noncomputable def st_lea_22 (L : List (List Int)) (L_t : Bool) (ms : Int) (fr : Int) (tk : List Bool) (tk_t : Bool) (n : Nat) (q : List Int) (m i : Nat) (u v row way : List Int) (low : List Int) (used : List Bool) (a : Nat) : St cod := ⟨tmG 193 [(10, .c (.int .i64 (n : Int))), (1, .c (.int .i64 (m : Int))), (0, .c (.fn 13 [(6, 0, 0), (2, 0, 0), (3, 0, 0), (4, 0, 0)])), (0, .c (.slc 7 0 (n + 1) true)), (0, .c (.slc 8 0 (m + 1) true)), (0, .c (.slc 9 0 (m + 1) true)), (0, .c (.slc 10 0 (m + 1) true)), (0, .c (.int .i64 (i : Int))), (0, .c (.int .i64 (a : Int))), (0, .c (.slc 11 0 (m + 1) true)), (1, .c (.slc 12 0 (m + 1) true))], ([.nin 0 L none, .inp 4 tk, .blk [.int .i64 ms] 3, .blk [.slc 1 0 (List.length tk) tk_t] 33, .blk [.slc 0 (Int.toNat fr) n L_t] 22, .inp 0 q, .blk [.int .i64 (List.length tk : Int)] 3, .arr 0 u 3, .arr 0 v 3, .arr 0 row 3, .arr 0 way 3, .arr 0 low 3, .arr 4 used 4] : Heap cod)⟩


theorem lea_t22 (L : List (List Int)) (L_t : Bool) (ms : Int) (fr : Int) (tk : List Bool) (tk_t : Bool) (n : Nat) (q : List Int) (m i : Nat) (u v row way : List Int) (low : List Int) (used : List Bool) (a : Nat) : symF C_cost cuts_lea Try.f10.results.toList 2 400 (cutAt Try.f10 22) (st_lea_22 L L_t ms fr tk tk_t n q m i u v row way low used a) =
.need (((0 : Int) ≤ Int.ofNat a ∧ Int.ofNat a < Int.ofNat (m + 1))) (
.need (0 + Int.toNat (Int.ofNat a) < List.length used) (
.need (((0 : Int) ≤ Int.ofNat a ∧ Int.ofNat a < Int.ofNat (m + 1))) (
.need (0 + Int.toNat (Int.ofNat a) < List.length row) (
.ret (.cut (cutAt Try.f10 25) ⟨tmG 189 [(10, .c (.int .i64 (Int.ofNat n))), (1, .c (.int .i64 (Int.ofNat m))), (0, .c (.fn 13 [(6, 0, 0), (2, 0, 0), (3, 0, 0), (4, 0, 0)])), (0, .c (.slc 7 0 (n + 1) true)), (0, .c (.slc 8 0 (m + 1) true)), (0, .c (.slc 9 0 (m + 1) true)), (0, .c (.slc 10 0 (m + 1) true)), (0, .c (.int .i64 (Int.ofNat i))), (0, .c (.int .i64 (Int.ofNat a))), (0, .c (.slc 11 0 (m + 1) true)), (1, .c (.slc 12 0 (m + 1) true)), (0, .c (.int .i64 (List.getD row (0 + Int.toNat (Int.ofNat a)) (cod 0).d))), (0, .c (.int .i64 1152921504606846976)), (0, .c (.int .i64 0)), (0, .c (.int .i64 1))], [.nin 0 (L) none, .inp 4 tk, .blk [.int .i64 ms] 3, .blk [.slc 1 0 (List.length tk) tk_t] 33, .blk [.slc 0 (Int.toNat fr) (n) L_t] 22, .inp 0 q, .blk [.int .i64 (Int.ofNat (List.length tk))] 3, .arr 0 u 3, .arr 0 v 3, .arr 0 row 3, .arr 0 way 3, .arr 0 low 3, .arr 4 (List.set used (0 + Int.toNat (Int.ofNat a)) true) 4]⟩))))) := by kernel_rfl


noncomputable def st_lea_25 (L : List (List Int)) (L_t : Bool) (ms : Int) (fr : Int) (tk : List Bool) (tk_t : Bool) (n : Nat) (q : List Int) (m i : Nat) (u v row way : List Int) (low : List Int) (used : List Bool) (a : Nat) (x delta nx : Int) (k : Nat) : St cod := ⟨tmG 189 [(10, .c (.int .i64 (n : Int))), (1, .c (.int .i64 (m : Int))), (0, .c (.fn 13 [(6, 0, 0), (2, 0, 0), (3, 0, 0), (4, 0, 0)])), (0, .c (.slc 7 0 (n + 1) true)), (0, .c (.slc 8 0 (m + 1) true)), (0, .c (.slc 9 0 (m + 1) true)), (0, .c (.slc 10 0 (m + 1) true)), (0, .c (.int .i64 (i : Int))), (0, .c (.int .i64 (a : Int))), (0, .c (.slc 11 0 (m + 1) true)), (1, .c (.slc 12 0 (m + 1) true)), (0, .c (.int .i64 x)), (0, .c (.int .i64 delta)), (0, .c (.int .i64 nx)), (0, .c (.int .i64 (k : Int)))], ([.nin 0 L none, .inp 4 tk, .blk [.int .i64 ms] 3, .blk [.slc 1 0 (List.length tk) tk_t] 33, .blk [.slc 0 (Int.toNat fr) n L_t] 22, .inp 0 q, .blk [.int .i64 (List.length tk : Int)] 3, .arr 0 u 3, .arr 0 v 3, .arr 0 row 3, .arr 0 way 3, .arr 0 low 3, .arr 4 used 4] : Heap cod)⟩


theorem lea_t25 (L : List (List Int)) (L_t : Bool) (ms : Int) (fr : Int) (tk : List Bool) (tk_t : Bool) (n : Nat) (q : List Int) (m i : Nat) (u v row way : List Int) (low : List Int) (used : List Bool) (a : Nat) (x delta nx : Int) (k : Nat) : symF C_cost cuts_lea Try.f10.results.toList 2 400 (cutAt Try.f10 25) (st_lea_25 L L_t ms fr tk tk_t n q m i u v row way low used a x delta nx k) =
 cond (decide (Int.ofNat k ≤ Int.ofNat m)) (
 .need (((0 : Int) ≤ Int.ofNat k ∧ Int.ofNat k < Int.ofNat (m + 1))) (
 .need (0 + Int.toNat (Int.ofNat k) < List.length used) (
 cond (List.getD used (0 + Int.toNat (Int.ofNat k)) (cod 4).d) (
  .need (i64ok (Int.ofNat k + 1)) (
  .ret (.cut (cutAt Try.f10 25) ⟨tmG 189 [(10, .c (.int .i64 (Int.ofNat n))), (1, .c (.int .i64 (Int.ofNat m))), (0, .c (.fn 13 [(6, 0, 0), (2, 0, 0), (3, 0, 0), (4, 0, 0)])), (0, .c (.slc 7 0 (n + 1) true)), (0, .c (.slc 8 0 (m + 1) true)), (0, .c (.slc 9 0 (m + 1) true)), (0, .c (.slc 10 0 (m + 1) true)), (0, .c (.int .i64 (Int.ofNat i))), (0, .c (.int .i64 (Int.ofNat a))), (0, .c (.slc 11 0 (m + 1) true)), (1, .c (.slc 12 0 (m + 1) true)), (0, .c (.int .i64 x)), (0, .c (.int .i64 delta)), (0, .c (.int .i64 nx)), (0, .c (.int .i64 (Int.ofNat k + 1)))], [.nin 0 (L) none, .inp 4 tk, .blk [.int .i64 ms] 3, .blk [.slc 1 0 (List.length tk) tk_t] 33, .blk [.slc 0 (Int.toNat fr) (n) L_t] 22, .inp 0 q, .blk [.int .i64 (Int.ofNat (List.length tk))] 3, .arr 0 u 3, .arr 0 v 3, .arr 0 row 3, .arr 0 way 3, .arr 0 low 3, .arr 4 used 4]⟩))) (
  .ret (.cut (regAt Try.f10 28) ⟨tmG 189 [(10, .c (.int .i64 (Int.ofNat n))), (1, .c (.int .i64 (Int.ofNat m))), (0, .c (.fn 13 [(6, 0, 0), (2, 0, 0), (3, 0, 0), (4, 0, 0)])), (0, .c (.slc 7 0 (n + 1) true)), (0, .c (.slc 8 0 (m + 1) true)), (0, .c (.slc 9 0 (m + 1) true)), (0, .c (.slc 10 0 (m + 1) true)), (0, .c (.int .i64 (Int.ofNat i))), (0, .c (.int .i64 (Int.ofNat a))), (0, .c (.slc 11 0 (m + 1) true)), (1, .c (.slc 12 0 (m + 1) true)), (0, .c (.int .i64 x)), (0, .c (.int .i64 delta)), (0, .c (.int .i64 nx)), (0, .c (.int .i64 (Int.ofNat k)))], [.nin 0 (L) none, .inp 4 tk, .blk [.int .i64 ms] 3, .blk [.slc 1 0 (List.length tk) tk_t] 33, .blk [.slc 0 (Int.toNat fr) (n) L_t] 22, .inp 0 q, .blk [.int .i64 (Int.ofNat (List.length tk))] 3, .arr 0 u 3, .arr 0 v 3, .arr 0 row 3, .arr 0 way 3, .arr 0 low 3, .arr 4 used 4]⟩))))) (
 .ret (.cut (cutAt Try.f10 34) ⟨tmG 75 [(10, .c (.int .i64 (Int.ofNat n))), (1, .c (.int .i64 (Int.ofNat m))), (0, .c (.fn 13 [(6, 0, 0), (2, 0, 0), (3, 0, 0), (4, 0, 0)])), (0, .c (.slc 7 0 (n + 1) true)), (0, .c (.slc 8 0 (m + 1) true)), (0, .c (.slc 9 0 (m + 1) true)), (0, .c (.slc 10 0 (m + 1) true)), (0, .c (.int .i64 (Int.ofNat i))), (1, .c (.slc 11 0 (m + 1) true)), (1, .c (.slc 12 0 (m + 1) true)), (1, .c (.int .i64 delta)), (0, .c (.int .i64 nx)), (113, .c (.int .i64 (Int.ofNat (m + 1)))), (0, .c (.int .i64 0))], [.nin 0 (L) none, .inp 4 tk, .blk [.int .i64 ms] 3, .blk [.slc 1 0 (List.length tk) tk_t] 33, .blk [.slc 0 (Int.toNat fr) (n) L_t] 22, .inp 0 q, .blk [.int .i64 (Int.ofNat (List.length tk))] 3, .arr 0 u 3, .arr 0 v 3, .arr 0 row 3, .arr 0 way 3, .arr 0 low 3, .arr 4 used 4]⟩)) := by kernel_rfl


noncomputable def st_lea_r28 (L : List (List Int)) (L_t : Bool) (ms : Int) (fr : Int) (tk : List Bool) (tk_t : Bool) (n : Nat) (q : List Int) (m i : Nat) (u v row way : List Int) (low : List Int) (used : List Bool) (a : Nat) (x delta nx : Int) (k : Nat) : St cod := ⟨tmG 189 [(10, .c (.int .i64 (n : Int))), (1, .c (.int .i64 (m : Int))), (0, .c (.fn 13 [(6, 0, 0), (2, 0, 0), (3, 0, 0), (4, 0, 0)])), (0, .c (.slc 7 0 (n + 1) true)), (0, .c (.slc 8 0 (m + 1) true)), (0, .c (.slc 9 0 (m + 1) true)), (0, .c (.slc 10 0 (m + 1) true)), (0, .c (.int .i64 (i : Int))), (0, .c (.int .i64 (a : Int))), (0, .c (.slc 11 0 (m + 1) true)), (1, .c (.slc 12 0 (m + 1) true)), (0, .c (.int .i64 x)), (0, .c (.int .i64 delta)), (0, .c (.int .i64 nx)), (0, .c (.int .i64 (k : Int)))], ([.nin 0 L none, .inp 4 tk, .blk [.int .i64 ms] 3, .blk [.slc 1 0 (List.length tk) tk_t] 33, .blk [.slc 0 (Int.toNat fr) n L_t] 22, .inp 0 q, .blk [.int .i64 (List.length tk : Int)] 3, .arr 0 u 3, .arr 0 v 3, .arr 0 row 3, .arr 0 way 3, .arr 0 low 3, .arr 4 used 4] : Heap cod)⟩


noncomputable def st_lea_34 (L : List (List Int)) (L_t : Bool) (ms : Int) (fr : Int) (tk : List Bool) (tk_t : Bool) (n : Nat) (q : List Int) (m i : Nat) (u v row way : List Int) (low : List Int) (used : List Bool) (delta nx : Int) (k : Nat) : St cod := ⟨tmG 75 [(10, .c (.int .i64 (n : Int))), (1, .c (.int .i64 (m : Int))), (0, .c (.fn 13 [(6, 0, 0), (2, 0, 0), (3, 0, 0), (4, 0, 0)])), (0, .c (.slc 7 0 (n + 1) true)), (0, .c (.slc 8 0 (m + 1) true)), (0, .c (.slc 9 0 (m + 1) true)), (0, .c (.slc 10 0 (m + 1) true)), (0, .c (.int .i64 (i : Int))), (1, .c (.slc 11 0 (m + 1) true)), (1, .c (.slc 12 0 (m + 1) true)), (1, .c (.int .i64 delta)), (0, .c (.int .i64 nx)), (113, .c (.int .i64 ((m + 1 : Nat) : Int))), (0, .c (.int .i64 (k : Int)))], ([.nin 0 L none, .inp 4 tk, .blk [.int .i64 ms] 3, .blk [.slc 1 0 (List.length tk) tk_t] 33, .blk [.slc 0 (Int.toNat fr) n L_t] 22, .inp 0 q, .blk [.int .i64 (List.length tk : Int)] 3, .arr 0 u 3, .arr 0 v 3, .arr 0 row 3, .arr 0 way 3, .arr 0 low 3, .arr 4 used 4] : Heap cod)⟩


theorem lea_t34 (L : List (List Int)) (L_t : Bool) (ms : Int) (fr : Int) (tk : List Bool) (tk_t : Bool) (n : Nat) (q : List Int) (m i : Nat) (u v row way : List Int) (low : List Int) (used : List Bool) (delta nx : Int) (k : Nat) : symF C_cost cuts_lea Try.f10.results.toList 2 400 (cutAt Try.f10 34) (st_lea_34 L L_t ms fr tk tk_t n q m i u v row way low used delta nx k) =
 cond (decide (Int.ofNat k < Int.ofNat (m + 1))) (
 .need (((0 : Int) ≤ Int.ofNat k ∧ Int.ofNat k < Int.ofNat (m + 1))) (
 .need (0 + Int.toNat (Int.ofNat k) < List.length used) (
 cond (List.getD used (0 + Int.toNat (Int.ofNat k)) (cod 4).d) (
  .need (((0 : Int) ≤ Int.ofNat k ∧ Int.ofNat k < Int.ofNat (m + 1))) (
  .need (0 + Int.toNat (Int.ofNat k) < List.length row) (
  .need (((0 : Int) ≤ List.getD row (0 + Int.toNat (Int.ofNat k)) (cod 0).d ∧ List.getD row (0 + Int.toNat (Int.ofNat k)) (cod 0).d < Int.ofNat (n + 1))) (
  .need (0 + Int.toNat (List.getD row (0 + Int.toNat (Int.ofNat k)) (cod 0).d) < List.length u) (
  .need (i64ok (List.getD u (0 + Int.toNat (List.getD row (0 + Int.toNat (Int.ofNat k)) (cod 0).d)) (cod 0).d + delta)) (
  .need (((0 : Int) ≤ List.getD row (0 + Int.toNat (Int.ofNat k)) (cod 0).d ∧ List.getD row (0 + Int.toNat (Int.ofNat k)) (cod 0).d < Int.ofNat (n + 1))) (
  .need (0 + Int.toNat (List.getD row (0 + Int.toNat (Int.ofNat k)) (cod 0).d) < List.length u) (
  .need (((0 : Int) ≤ Int.ofNat k ∧ Int.ofNat k < Int.ofNat (m + 1))) (
  .need (0 + Int.toNat (Int.ofNat k) < List.length v) (
  .need (i64ok (List.getD v (0 + Int.toNat (Int.ofNat k)) (cod 0).d - delta)) (
  .need (((0 : Int) ≤ Int.ofNat k ∧ Int.ofNat k < Int.ofNat (m + 1))) (
  .need (0 + Int.toNat (Int.ofNat k) < List.length v) (
  .need (i64ok (Int.ofNat k + 1)) (
  .ret (.cut (cutAt Try.f10 34) ⟨tmG 75 [(10, .c (.int .i64 (Int.ofNat n))), (1, .c (.int .i64 (Int.ofNat m))), (0, .c (.fn 13 [(6, 0, 0), (2, 0, 0), (3, 0, 0), (4, 0, 0)])), (0, .c (.slc 7 0 (n + 1) true)), (0, .c (.slc 8 0 (m + 1) true)), (0, .c (.slc 9 0 (m + 1) true)), (0, .c (.slc 10 0 (m + 1) true)), (0, .c (.int .i64 (Int.ofNat i))), (1, .c (.slc 11 0 (m + 1) true)), (1, .c (.slc 12 0 (m + 1) true)), (1, .c (.int .i64 delta)), (0, .c (.int .i64 nx)), (113, .c (.int .i64 (Int.ofNat (m + 1)))), (0, .c (.int .i64 (Int.ofNat k + 1)))], [.nin 0 (L) none, .inp 4 tk, .blk [.int .i64 ms] 3, .blk [.slc 1 0 (List.length tk) tk_t] 33, .blk [.slc 0 (Int.toNat fr) (n) L_t] 22, .inp 0 q, .blk [.int .i64 (Int.ofNat (List.length tk))] 3, .arr 0 (List.set u (0 + Int.toNat (List.getD row (0 + Int.toNat (Int.ofNat k)) (cod 0).d))   (List.getD u (0 + Int.toNat (List.getD row (0 + Int.toNat (Int.ofNat k)) (cod 0).d)) (cod 0).d + delta)) 3, .arr 0 (List.set v (0 + Int.toNat (Int.ofNat k)) (List.getD v (0 + Int.toNat (Int.ofNat k)) (cod 0).d - delta)) 3, .arr 0 row 3, .arr 0 way 3, .arr 0 low 3, .arr 4 used 4]⟩))))))))))))))) (
  .need (((0 : Int) ≤ Int.ofNat k ∧ Int.ofNat k < Int.ofNat (m + 1))) (
  .need (0 + Int.toNat (Int.ofNat k) < List.length low) (
  .need (i64ok (List.getD low (0 + Int.toNat (Int.ofNat k)) (cod 0).d - delta)) (
  .need (((0 : Int) ≤ Int.ofNat k ∧ Int.ofNat k < Int.ofNat (m + 1))) (
  .need (0 + Int.toNat (Int.ofNat k) < List.length low) (
  .need (i64ok (Int.ofNat k + 1)) (
  .ret (.cut (cutAt Try.f10 34) ⟨tmG 75 [(10, .c (.int .i64 (Int.ofNat n))), (1, .c (.int .i64 (Int.ofNat m))), (0, .c (.fn 13 [(6, 0, 0), (2, 0, 0), (3, 0, 0), (4, 0, 0)])), (0, .c (.slc 7 0 (n + 1) true)), (0, .c (.slc 8 0 (m + 1) true)), (0, .c (.slc 9 0 (m + 1) true)), (0, .c (.slc 10 0 (m + 1) true)), (0, .c (.int .i64 (Int.ofNat i))), (1, .c (.slc 11 0 (m + 1) true)), (1, .c (.slc 12 0 (m + 1) true)), (1, .c (.int .i64 delta)), (0, .c (.int .i64 nx)), (113, .c (.int .i64 (Int.ofNat (m + 1)))), (0, .c (.int .i64 (Int.ofNat k + 1)))], [.nin 0 (L) none, .inp 4 tk, .blk [.int .i64 ms] 3, .blk [.slc 1 0 (List.length tk) tk_t] 33, .blk [.slc 0 (Int.toNat fr) (n) L_t] 22, .inp 0 q, .blk [.int .i64 (Int.ofNat (List.length tk))] 3, .arr 0 u 3, .arr 0 v 3, .arr 0 row 3, .arr 0 way 3, .arr 0 (List.set low (0 + Int.toNat (Int.ofNat k)) (List.getD low (0 + Int.toNat (Int.ofNat k)) (cod 0).d - delta)) 3, .arr 4 used 4]⟩))))))))))) (
 .need (((0 : Int) ≤ nx ∧ nx < Int.ofNat (m + 1))) (
 .need (0 + Int.toNat nx < List.length row) (
 cond (decide (List.getD row (0 + Int.toNat nx) (cod 0).d = 0)) (
  .ret (.cut (cutAt Try.f10 43) ⟨tmG 196 [(10, .c (.int .i64 (Int.ofNat n))), (1, .c (.int .i64 (Int.ofNat m))), (0, .c (.fn 13 [(6, 0, 0), (2, 0, 0), (3, 0, 0), (4, 0, 0)])), (0, .c (.slc 7 0 (n + 1) true)), (0, .c (.slc 8 0 (m + 1) true)), (0, .c (.slc 9 0 (m + 1) true)), (0, .c (.slc 10 0 (m + 1) true)), (0, .c (.int .i64 (Int.ofNat i))), (0, .c (.int .i64 nx))], [.nin 0 (L) none, .inp 4 tk, .blk [.int .i64 ms] 3, .blk [.slc 1 0 (List.length tk) tk_t] 33, .blk [.slc 0 (Int.toNat fr) (n) L_t] 22, .inp 0 q, .blk [.int .i64 (Int.ofNat (List.length tk))] 3, .arr 0 u 3, .arr 0 v 3, .arr 0 row 3, .arr 0 way 3]⟩)) (
  .ret (.cut (cutAt Try.f10 22) ⟨tmG 193 [(10, .c (.int .i64 (Int.ofNat n))), (1, .c (.int .i64 (Int.ofNat m))), (0, .c (.fn 13 [(6, 0, 0), (2, 0, 0), (3, 0, 0), (4, 0, 0)])), (0, .c (.slc 7 0 (n + 1) true)), (0, .c (.slc 8 0 (m + 1) true)), (0, .c (.slc 9 0 (m + 1) true)), (0, .c (.slc 10 0 (m + 1) true)), (0, .c (.int .i64 (Int.ofNat i))), (0, .c (.int .i64 nx)), (0, .c (.slc 11 0 (m + 1) true)), (1, .c (.slc 12 0 (m + 1) true))], [.nin 0 (L) none, .inp 4 tk, .blk [.int .i64 ms] 3, .blk [.slc 1 0 (List.length tk) tk_t] 33, .blk [.slc 0 (Int.toNat fr) (n) L_t] 22, .inp 0 q, .blk [.int .i64 (Int.ofNat (List.length tk))] 3, .arr 0 u 3, .arr 0 v 3, .arr 0 row 3, .arr 0 way 3, .arr 0 low 3, .arr 4 used 4]⟩))))) := by kernel_rfl


noncomputable def st_lea_43 (L : List (List Int)) (L_t : Bool) (ms : Int) (fr : Int) (tk : List Bool) (tk_t : Bool) (n : Nat) (q : List Int) (m i : Nat) (u v row way : List Int) (a : Nat) : St cod := ⟨tmG 196 [(10, .c (.int .i64 (n : Int))), (1, .c (.int .i64 (m : Int))), (0, .c (.fn 13 [(6, 0, 0), (2, 0, 0), (3, 0, 0), (4, 0, 0)])), (0, .c (.slc 7 0 (n + 1) true)), (0, .c (.slc 8 0 (m + 1) true)), (0, .c (.slc 9 0 (m + 1) true)), (0, .c (.slc 10 0 (m + 1) true)), (0, .c (.int .i64 (i : Int))), (0, .c (.int .i64 (a : Int)))], ([.nin 0 L none, .inp 4 tk, .blk [.int .i64 ms] 3, .blk [.slc 1 0 (List.length tk) tk_t] 33, .blk [.slc 0 (Int.toNat fr) n L_t] 22, .inp 0 q, .blk [.int .i64 (List.length tk : Int)] 3, .arr 0 u 3, .arr 0 v 3, .arr 0 row 3, .arr 0 way 3] : Heap cod)⟩


theorem lea_t43 (L : List (List Int)) (L_t : Bool) (ms : Int) (fr : Int) (tk : List Bool) (tk_t : Bool) (n : Nat) (q : List Int) (m i : Nat) (u v row way : List Int) (a : Nat) : symF C_cost cuts_lea Try.f10.results.toList 2 400 (cutAt Try.f10 43) (st_lea_43 L L_t ms fr tk tk_t n q m i u v row way a) =
 cond (!decide (Int.ofNat a = 0)) (
 .need (((0 : Int) ≤ Int.ofNat a ∧ Int.ofNat a < Int.ofNat (m + 1))) (
 .need (0 + Int.toNat (Int.ofNat a) < List.length way) (
 .need (((0 : Int) ≤ List.getD way (0 + Int.toNat (Int.ofNat a)) (cod 0).d ∧ List.getD way (0 + Int.toNat (Int.ofNat a)) (cod 0).d < Int.ofNat (m + 1))) (
 .need (0 + Int.toNat (List.getD way (0 + Int.toNat (Int.ofNat a)) (cod 0).d) < List.length row) (
 .need (((0 : Int) ≤ Int.ofNat a ∧ Int.ofNat a < Int.ofNat (m + 1))) (
 .need (0 + Int.toNat (Int.ofNat a) < List.length row) (
 .need (((0 : Int) ≤ Int.ofNat a ∧ Int.ofNat a < Int.ofNat (m + 1))) (
 .need (0 + Int.toNat (Int.ofNat a) < List.length way) (
 .ret (.cut (cutAt Try.f10 43) ⟨tmG 196 [(10, .c (.int .i64 (Int.ofNat n))), (1, .c (.int .i64 (Int.ofNat m))), (0, .c (.fn 13 [(6, 0, 0), (2, 0, 0), (3, 0, 0), (4, 0, 0)])), (0, .c (.slc 7 0 (n + 1) true)), (0, .c (.slc 8 0 (m + 1) true)), (0, .c (.slc 9 0 (m + 1) true)), (0, .c (.slc 10 0 (m + 1) true)), (0, .c (.int .i64 (Int.ofNat i))), (0, .c (.int .i64 (List.getD way (0 + Int.toNat (Int.ofNat a)) (cod 0).d)))], [.nin 0 (L) none, .inp 4 tk, .blk [.int .i64 ms] 3, .blk [.slc 1 0 (List.length tk) tk_t] 33, .blk [.slc 0 (Int.toNat fr) (n) L_t] 22, .inp 0 q, .blk [.int .i64 (Int.ofNat (List.length tk))] 3, .arr 0 u 3, .arr 0 v 3, .arr 0 (List.set row (0 + Int.toNat (Int.ofNat a))   (List.getD row (0 + Int.toNat (List.getD way (0 + Int.toNat (Int.ofNat a)) (cod 0).d)) (cod 0).d)) 3, .arr 0 way 3]⟩)))))))))) (
 .need (i64ok (Int.ofNat i + 1)) (
 .ret (.cut (cutAt Try.f10 11) ⟨tmG 197 [(10, .c (.int .i64 (Int.ofNat n))), (1, .c (.int .i64 (Int.ofNat m))), (0, .c (.fn 13 [(6, 0, 0), (2, 0, 0), (3, 0, 0), (4, 0, 0)])), (0, .c (.slc 7 0 (n + 1) true)), (0, .c (.slc 8 0 (m + 1) true)), (0, .c (.slc 9 0 (m + 1) true)), (0, .c (.slc 10 0 (m + 1) true)), (0, .c (.int .i64 (Int.ofNat i + 1)))], [.nin 0 (L) none, .inp 4 tk, .blk [.int .i64 ms] 3, .blk [.slc 1 0 (List.length tk) tk_t] 33, .blk [.slc 0 (Int.toNat fr) (n) L_t] 22, .inp 0 q, .blk [.int .i64 (Int.ofNat (List.length tk))] 3, .arr 0 u 3, .arr 0 v 3, .arr 0 row 3, .arr 0 way 3]⟩))) := by kernel_rfl


noncomputable def st_lea_48 (L : List (List Int)) (L_t : Bool) (ms : Int) (fr : Int) (tk : List Bool) (tk_t : Bool) (n : Nat) (q : List Int) (m i : Nat) (u v row way : List Int) (k : Nat) (sum : Int) : St cod := ⟨tmG 185 [(12, .c (.int .i64 (m : Int))), (0, .c (.fn 13 [(6, 0, 0), (2, 0, 0), (3, 0, 0), (4, 0, 0)])), (2, .c (.slc 9 0 (m + 1) true)), (12, .c (.int .i64 sum)), (0, .c (.int .i64 (k : Int)))], ([.nin 0 L none, .inp 4 tk, .blk [.int .i64 ms] 3, .blk [.slc 1 0 (List.length tk) tk_t] 33, .blk [.slc 0 (Int.toNat fr) n L_t] 22, .inp 0 q, .blk [.int .i64 (List.length tk : Int)] 3, .arr 0 u 3, .arr 0 v 3, .arr 0 row 3, .arr 0 way 3] : Heap cod)⟩


theorem lea_t48 (L : List (List Int)) (L_t : Bool) (ms : Int) (fr : Int) (tk : List Bool) (tk_t : Bool) (n : Nat) (q : List Int) (m i : Nat) (u v row way : List Int) (k : Nat) (sum : Int) : symF C_cost cuts_lea Try.f10.results.toList 2 400 (cutAt Try.f10 48) (st_lea_48 L L_t ms fr tk tk_t n q m i u v row way k sum) =
 cond (decide (Int.ofNat k ≤ Int.ofNat m)) (
 .need (((0 : Int) ≤ Int.ofNat k ∧ Int.ofNat k < Int.ofNat (m + 1))) (
 .need (0 + Int.toNat (Int.ofNat k) < List.length row) (
 cond (decide (0 < List.getD row (0 + Int.toNat (Int.ofNat k)) (cod 0).d)) (
  .need (((0 : Int) ≤ Int.ofNat k ∧ Int.ofNat k < Int.ofNat (m + 1))) (
  .need (0 + Int.toNat (Int.ofNat k) < List.length row) (
  .need (i64ok (List.getD row (0 + Int.toNat (Int.ofNat k)) (cod 0).d - 1)) (
  .need (i64ok (Int.ofNat k - 1)) (
  .need (((0 = 0 ∧ List.length tk = List.length tk) ∧ (Int.toNat fr + n ≤ List.length L ∧ ((Int.ofNat (List.length tk) = Int.ofNat (List.length tk) ∧ List.length tk ≤ 32) ∧ (((0 : Int) ≤ Int.ofNat k - 1 ∧ Int.ofNat k - 1 ≤ 100) ∧ (((0 : Int) ≤ List.getD row (0 + Int.toNat (Int.ofNat k)) (cod 0).d - 1 ∧ (List.getD row (0 + Int.toNat (Int.ofNat k)) (cod 0).d - 1 < Int.ofNat n ∧ n ≤ 32)) ∧ F.rowsOk L tk)))))) (
  .need (i64ok   (sum +     F.cst (List.take n (List.drop (Int.toNat fr) L)) (List.length tk) ms tk       (Int.toNat (List.getD row (0 + Int.toNat (Int.ofNat k)) (cod 0).d - 1)) (Int.toNat (Int.ofNat k - 1)))) (
  .need (i64ok (Int.ofNat k + 1)) (
  .ret (.cut (cutAt Try.f10 48) ⟨tmG 185 [(12, .c (.int .i64 (Int.ofNat m))), (0, .c (.fn 13 [(6, 0, 0), (2, 0, 0), (3, 0, 0), (4, 0, 0)])), (2, .c (.slc 9 0 (m + 1) true)), (12, .c (.int .i64 (sum +   F.cst (List.take n (List.drop (Int.toNat fr) L)) (List.length tk) ms tk     (Int.toNat (List.getD row (0 + Int.toNat (Int.ofNat k)) (cod 0).d - 1)) (Int.toNat (Int.ofNat k - 1))))), (0, .c (.int .i64 (Int.ofNat k + 1)))], [.nin 0 (L) none, .inp 4 tk, .blk [.int .i64 ms] 3, .blk [.slc 1 0 (List.length tk) tk_t] 33, .blk [.slc 0 (Int.toNat fr) (n) L_t] 22, .inp 0 q, .blk [.int .i64 (Int.ofNat (List.length tk))] 3, .arr 0 u 3, .arr 0 v 3, .arr 0 row 3, .arr 0 way 3]⟩))))))))) (
  .need (i64ok (Int.ofNat k + 1)) (
  .ret (.cut (cutAt Try.f10 48) ⟨tmG 185 [(12, .c (.int .i64 (Int.ofNat m))), (0, .c (.fn 13 [(6, 0, 0), (2, 0, 0), (3, 0, 0), (4, 0, 0)])), (2, .c (.slc 9 0 (m + 1) true)), (12, .c (.int .i64 sum)), (0, .c (.int .i64 (Int.ofNat k + 1)))], [.nin 0 (L) none, .inp 4 tk, .blk [.int .i64 ms] 3, .blk [.slc 1 0 (List.length tk) tk_t] 33, .blk [.slc 0 (Int.toNat fr) (n) L_t] 22, .inp 0 q, .blk [.int .i64 (Int.ofNat (List.length tk))] 3, .arr 0 u 3, .arr 0 v 3, .arr 0 row 3, .arr 0 way 3]⟩)))))) (
 .ret (.fin (.c (.int .i64 sum)) [])) := by kernel_rfl


theorem lea_q28 (L : List (List Int)) (L_t : Bool) (ms fr : Int) (tk : List Bool) (tk_t : Bool) (n : Nat) (q : List Int) (m i : Nat) (u v row way low : List Int) (used : List Bool) (a : Nat) (x delta nx : Int) (k : Nat) : ((lexT C_cost R28.toList (st_lea_r28 L L_t ms fr tk tk_t n q m i u v row way low used a x delta nx k)).bind fun s => symF C_cost cuts_lea_r28 Try.f10.results.toList 2 400 (regAt Try.f10 28).tail s) =
.need (i64ok (x - 1)) (
.need (i64ok (Int.ofNat k - 1)) (
.need (((0 = 0 ∧ List.length tk = List.length tk) ∧ (Int.toNat fr + n ≤ List.length L ∧ ((Int.ofNat (List.length tk) = Int.ofNat (List.length tk) ∧ List.length tk ≤ 32) ∧ (((0 : Int) ≤ Int.ofNat k - 1 ∧ Int.ofNat k - 1 ≤ 100) ∧ (((0 : Int) ≤ x - 1 ∧ (x - 1 < Int.ofNat n ∧ n ≤ 32)) ∧ F.rowsOk L tk)))))) (
.need (((0 : Int) ≤ x ∧ x < Int.ofNat (n + 1))) (
.need (0 + Int.toNat x < List.length u) (
.need (i64ok   (F.cst (List.take n (List.drop (Int.toNat fr) L)) (List.length tk) ms tk (Int.toNat (x - 1))       (Int.toNat (Int.ofNat k - 1)) -     List.getD u (0 + Int.toNat x) (cod 0).d)) (
.need (((0 : Int) ≤ Int.ofNat k ∧ Int.ofNat k < Int.ofNat (m + 1))) (
.need (0 + Int.toNat (Int.ofNat k) < List.length v) (
.need (i64ok   (F.cst (List.take n (List.drop (Int.toNat fr) L)) (List.length tk) ms tk (Int.toNat (x - 1))         (Int.toNat (Int.ofNat k - 1)) -       List.getD u (0 + Int.toNat x) (cod 0).d -     List.getD v (0 + Int.toNat (Int.ofNat k)) (cod 0).d)) (
.need (((0 : Int) ≤ Int.ofNat k ∧ Int.ofNat k < Int.ofNat (m + 1))) (
.need (0 + Int.toNat (Int.ofNat k) < List.length low) (
 cond (decide   (F.cst (List.take n (List.drop (Int.toNat fr) L)) (List.length tk) ms tk (Int.toNat (x - 1))           (Int.toNat (Int.ofNat k - 1)) -         List.getD u (0 + Int.toNat x) (cod 0).d -       List.getD v (0 + Int.toNat (Int.ofNat k)) (cod 0).d <     List.getD low (0 + Int.toNat (Int.ofNat k)) (cod 0).d)) (
 .need (((0 : Int) ≤ Int.ofNat k ∧ Int.ofNat k < Int.ofNat (m + 1))) (
 .need (0 + Int.toNat (Int.ofNat k) < List.length low) (
 .need (((0 : Int) ≤ Int.ofNat k ∧ Int.ofNat k < Int.ofNat (m + 1))) (
 .need (0 + Int.toNat (Int.ofNat k) < List.length way) (
 .need (((0 : Int) ≤ Int.ofNat k ∧ Int.ofNat k < Int.ofNat (m + 1))) (
 .need (0 + Int.toNat (Int.ofNat k) <   List.length     (List.set low (0 + Int.toNat (Int.ofNat k))       (F.cst (List.take n (List.drop (Int.toNat fr) L)) (List.length tk) ms tk (Int.toNat (x - 1))             (Int.toNat (Int.ofNat k - 1)) -           List.getD u (0 + Int.toNat x) (cod 0).d -         List.getD v (0 + Int.toNat (Int.ofNat k)) (cod 0).d))) (
 cond (decide   (List.getD       (List.set low (0 + Int.toNat (Int.ofNat k))         (F.cst (List.take n (List.drop (Int.toNat fr) L)) (List.length tk) ms tk (Int.toNat (x - 1))               (Int.toNat (Int.ofNat k - 1)) -             List.getD u (0 + Int.toNat x) (cod 0).d -           List.getD v (0 + Int.toNat (Int.ofNat k)) (cod 0).d))       (0 + Int.toNat (Int.ofNat k)) (cod 0).d <     delta)) (
  .need (((0 : Int) ≤ Int.ofNat k ∧ Int.ofNat k < Int.ofNat (m + 1))) (
  .need (0 + Int.toNat (Int.ofNat k) <   List.length     (List.set low (0 + Int.toNat (Int.ofNat k))       (F.cst (List.take n (List.drop (Int.toNat fr) L)) (List.length tk) ms tk (Int.toNat (x - 1))             (Int.toNat (Int.ofNat k - 1)) -           List.getD u (0 + Int.toNat x) (cod 0).d -         List.getD v (0 + Int.toNat (Int.ofNat k)) (cod 0).d))) (
  .need (i64ok (Int.ofNat k + 1)) (
  .ret (.cut (cutAt Try.f10 25) ⟨tmG 189 [(10, .c (.int .i64 (Int.ofNat n))), (1, .c (.int .i64 (Int.ofNat m))), (0, .c (.fn 13 [(6, 0, 0), (2, 0, 0), (3, 0, 0), (4, 0, 0)])), (0, .c (.slc 7 0 (n + 1) true)), (0, .c (.slc 8 0 (m + 1) true)), (0, .c (.slc 9 0 (m + 1) true)), (0, .c (.slc 10 0 (m + 1) true)), (0, .c (.int .i64 (Int.ofNat i))), (0, .c (.int .i64 (Int.ofNat a))), (0, .c (.slc 11 0 (m + 1) true)), (1, .c (.slc 12 0 (m + 1) true)), (0, .c (.int .i64 x)), (0, .c (.int .i64 (List.getD   (List.set low (0 + Int.toNat (Int.ofNat k))     (F.cst (List.take n (List.drop (Int.toNat fr) L)) (List.length tk) ms tk (Int.toNat (x - 1))           (Int.toNat (Int.ofNat k - 1)) -         List.getD u (0 + Int.toNat x) (cod 0).d -       List.getD v (0 + Int.toNat (Int.ofNat k)) (cod 0).d))   (0 + Int.toNat (Int.ofNat k)) (cod 0).d))), (0, .c (.int .i64 (Int.ofNat k))), (0, .c (.int .i64 (Int.ofNat k + 1)))], [.nin 0 (L) none, .inp 4 tk, .blk [.int .i64 ms] 3, .blk [.slc 1 0 (List.length tk) tk_t] 33, .blk [.slc 0 (Int.toNat fr) (n) L_t] 22, .inp 0 q, .blk [.int .i64 (Int.ofNat (List.length tk))] 3, .arr 0 u 3, .arr 0 v 3, .arr 0 row 3, .arr 0 (List.set way (0 + Int.toNat (Int.ofNat k)) (Int.ofNat a)) 3, .arr 0 (List.set low (0 + Int.toNat (Int.ofNat k))   (F.cst (List.take n (List.drop (Int.toNat fr) L)) (List.length tk) ms tk (Int.toNat (x - 1))         (Int.toNat (Int.ofNat k - 1)) -       List.getD u (0 + Int.toNat x) (cod 0).d -     List.getD v (0 + Int.toNat (Int.ofNat k)) (cod 0).d)) 3, .arr 4 used 4]⟩))))) (
  .need (i64ok (Int.ofNat k + 1)) (
  .ret (.cut (cutAt Try.f10 25) ⟨tmG 189 [(10, .c (.int .i64 (Int.ofNat n))), (1, .c (.int .i64 (Int.ofNat m))), (0, .c (.fn 13 [(6, 0, 0), (2, 0, 0), (3, 0, 0), (4, 0, 0)])), (0, .c (.slc 7 0 (n + 1) true)), (0, .c (.slc 8 0 (m + 1) true)), (0, .c (.slc 9 0 (m + 1) true)), (0, .c (.slc 10 0 (m + 1) true)), (0, .c (.int .i64 (Int.ofNat i))), (0, .c (.int .i64 (Int.ofNat a))), (0, .c (.slc 11 0 (m + 1) true)), (1, .c (.slc 12 0 (m + 1) true)), (0, .c (.int .i64 x)), (0, .c (.int .i64 delta)), (0, .c (.int .i64 nx)), (0, .c (.int .i64 (Int.ofNat k + 1)))], [.nin 0 (L) none, .inp 4 tk, .blk [.int .i64 ms] 3, .blk [.slc 1 0 (List.length tk) tk_t] 33, .blk [.slc 0 (Int.toNat fr) (n) L_t] 22, .inp 0 q, .blk [.int .i64 (Int.ofNat (List.length tk))] 3, .arr 0 u 3, .arr 0 v 3, .arr 0 row 3, .arr 0 (List.set way (0 + Int.toNat (Int.ofNat k)) (Int.ofNat a)) 3, .arr 0 (List.set low (0 + Int.toNat (Int.ofNat k))   (F.cst (List.take n (List.drop (Int.toNat fr) L)) (List.length tk) ms tk (Int.toNat (x - 1))         (Int.toNat (Int.ofNat k - 1)) -       List.getD u (0 + Int.toNat x) (cod 0).d -     List.getD v (0 + Int.toNat (Int.ofNat k)) (cod 0).d)) 3, .arr 4 used 4]⟩)))))))))) (
 .need (((0 : Int) ≤ Int.ofNat k ∧ Int.ofNat k < Int.ofNat (m + 1))) (
 .need (0 + Int.toNat (Int.ofNat k) < List.length low) (
 cond (decide (List.getD low (0 + Int.toNat (Int.ofNat k)) (cod 0).d < delta)) (
  .need (((0 : Int) ≤ Int.ofNat k ∧ Int.ofNat k < Int.ofNat (m + 1))) (
  .need (0 + Int.toNat (Int.ofNat k) < List.length low) (
  .need (i64ok (Int.ofNat k + 1)) (
  .ret (.cut (cutAt Try.f10 25) ⟨tmG 189 [(10, .c (.int .i64 (Int.ofNat n))), (1, .c (.int .i64 (Int.ofNat m))), (0, .c (.fn 13 [(6, 0, 0), (2, 0, 0), (3, 0, 0), (4, 0, 0)])), (0, .c (.slc 7 0 (n + 1) true)), (0, .c (.slc 8 0 (m + 1) true)), (0, .c (.slc 9 0 (m + 1) true)), (0, .c (.slc 10 0 (m + 1) true)), (0, .c (.int .i64 (Int.ofNat i))), (0, .c (.int .i64 (Int.ofNat a))), (0, .c (.slc 11 0 (m + 1) true)), (1, .c (.slc 12 0 (m + 1) true)), (0, .c (.int .i64 x)), (0, .c (.int .i64 (List.getD low (0 + Int.toNat (Int.ofNat k)) (cod 0).d))), (0, .c (.int .i64 (Int.ofNat k))), (0, .c (.int .i64 (Int.ofNat k + 1)))], [.nin 0 (L) none, .inp 4 tk, .blk [.int .i64 ms] 3, .blk [.slc 1 0 (List.length tk) tk_t] 33, .blk [.slc 0 (Int.toNat fr) (n) L_t] 22, .inp 0 q, .blk [.int .i64 (Int.ofNat (List.length tk))] 3, .arr 0 u 3, .arr 0 v 3, .arr 0 row 3, .arr 0 way 3, .arr 0 low 3, .arr 4 used 4]⟩))))) (
  .need (i64ok (Int.ofNat k + 1)) (
  .ret (.cut (cutAt Try.f10 25) ⟨tmG 189 [(10, .c (.int .i64 (Int.ofNat n))), (1, .c (.int .i64 (Int.ofNat m))), (0, .c (.fn 13 [(6, 0, 0), (2, 0, 0), (3, 0, 0), (4, 0, 0)])), (0, .c (.slc 7 0 (n + 1) true)), (0, .c (.slc 8 0 (m + 1) true)), (0, .c (.slc 9 0 (m + 1) true)), (0, .c (.slc 10 0 (m + 1) true)), (0, .c (.int .i64 (Int.ofNat i))), (0, .c (.int .i64 (Int.ofNat a))), (0, .c (.slc 11 0 (m + 1) true)), (1, .c (.slc 12 0 (m + 1) true)), (0, .c (.int .i64 x)), (0, .c (.int .i64 delta)), (0, .c (.int .i64 nx)), (0, .c (.int .i64 (Int.ofNat k + 1)))], [.nin 0 (L) none, .inp 4 tk, .blk [.int .i64 ms] 3, .blk [.slc 1 0 (List.length tk) tk_t] 33, .blk [.slc 0 (Int.toNat fr) (n) L_t] 22, .inp 0 q, .blk [.int .i64 (Int.ofNat (List.length tk))] 3, .arr 0 u 3, .arr 0 v 3, .arr 0 row 3, .arr 0 way 3, .arr 0 low 3, .arr 4 used 4]⟩))))))))))))))))) := by kernel_rfl



theorem sumN_bd {f : Nat → Int} {B : Int} : ∀ n, (∀ k, 1 ≤ k → k ≤ n → 0 ≤ f k ∧ f k ≤ B) → 0 ≤ F.sumN f n ∧ F.sumN f n ≤ n * B
  | 0, _ => by show (0 : Int) ≤ 0 ∧ (0 : Int) ≤ ((0 : Nat) : Int) * B; simp
  | n + 1, h => by
    have a := sumN_bd n (fun k h1 h2 => h k h1 (by omega))
    have b := h (n + 1) (by omega) (by omega)
    have e : ((n + 1 : Nat) : Int) * B = n * B + B := by rw [Int.natCast_succ, Int.add_mul, Int.one_mul]
    rw [e]
    unfold F.sumN
    omega
theorem at48 (L : List (List Int)) (L_t : Bool) (ms fr : Int) (tk : List Bool) (tk_t : Bool) (n : Nat) (q : List Int) (m : Nat) (b0 : Base) (hb : b0.n = 2) (R : Int) (hn : 1 ≤ n ∧ n ≤ 5) (hm : m = tk.length + n) (htk : tk.length ≤ 32) (hr : F.rowsOk L tk) (hfr : fr.toNat + n ≤ L.length) (hC : ∀ x k, 1 ≤ x → x ≤ n → 1 ≤ k → k ≤ m → 0 ≤ (F.cstC (List.take n (List.drop (Int.toNat fr) L)) (List.length tk) ms tk) x k ∧ (F.cstC (List.take n (List.drop (Int.toNat fr) L)) (List.length tk) ms tk) x k ≤ F.BB) (u v row way : List Int) (i : Nat) (O : F.OutL n m (F.cstC (List.take n (List.drop (Int.toNat fr) L)) (List.length tk) ms tk) n u v row way) (hR : R = F.sumN (fun k => if F.gN row k = 0 then 0 else (F.cstC (List.take n (List.drop (Int.toNat fr) L)) (List.length tk) ms tk) (F.gN row k) k) m) : ∀ (d k : Nat), k + d = m + 1 → 1 ≤ k →
    Sym.Runs Try.prog b0 (cutAt Try.f10 48) (st_lea_48 L L_t ms fr tk tk_t n q m i u v row way k (F.sumN (fun k => if F.gN row k = 0 then 0 else (F.cstC (List.take n (List.drop (Int.toNat fr) L)) (List.length tk) ms tk) (F.gN row k) k) (k - 1))) (Sym.Ends Try.prog Try.f10 2 (.c (.int .i64 R)) []) := by
  have hB : F.BB = 36028797018963968 := rfl
  have d0 : (cod 0).d = (0 : Int) := rfl
  have tm : ∀ k, 1 ≤ k → k ≤ m → 0 ≤ (fun k => if F.gN row k = 0 then 0 else (F.cstC (List.take n (List.drop (Int.toNat fr) L)) (List.length tk) ms tk) (F.gN row k) k) k ∧ (fun k => if F.gN row k = 0 then 0 else (F.cstC (List.take n (List.drop (Int.toNat fr) L)) (List.length tk) ms tk) (F.gN row k) k) k ≤ F.BB := fun k k1 k2 => by
    show 0 ≤ (if F.gN row k = 0 then 0 else (F.cstC (List.take n (List.drop (Int.toNat fr) L)) (List.length tk) ms tk) (F.gN row k) k) ∧ (if F.gN row k = 0 then 0 else (F.cstC (List.take n (List.drop (Int.toNat fr) L)) (List.length tk) ms tk) (F.gN row k) k) ≤ F.BB
    by_cases c : F.gN row k = 0
    · rw [if_pos c, hB]; omega
    · rw [if_neg c]
      exact hC _ k (by omega) (O.O.inv.rowb k k1 k2) k1 k2
  intro d
  induction d with
  | zero =>
    intro k hk h1
    refine Runs.go (cfg := C_cost) L_cost_ok mixed cuts_lea 400 hb (lea_t48 L L_t ms fr tk tk_t n q m i u v row way k _) ?_
    have e : k - 1 = m := by omega
    rw [e, ← hR]
    simp only [T.wp, T.wp_cond, Aft, Int.ofNat_eq_natCast, decide_eq_true_eq, and_true, true_and, Nat.zero_add]
    exact ite_no (by omega) trivial
  | succ d ih =>
    intro k hk h1
    have nx := ih (k + 1) (by omega) (by omega)
    have hs := sumN_bd (f := (fun k => if F.gN row k = 0 then 0 else (F.cstC (List.take n (List.drop (Int.toNat fr) L)) (List.length tk) ms tk) (F.gN row k) k)) (B := F.BB) (k - 1) (fun j j1 j2 => tm j j1 (by omega))
    have hk1 := tm k h1 (by omega)
    have e2 : F.sumN (fun k => if F.gN row k = 0 then 0 else (F.cstC (List.take n (List.drop (Int.toNat fr) L)) (List.length tk) ms tk) (F.gN row k) k) (k + 1 - 1) = F.sumN (fun k => if F.gN row k = 0 then 0 else (F.cstC (List.take n (List.drop (Int.toNat fr) L)) (List.length tk) ms tk) (F.gN row k) k) (k - 1) + (fun k => if F.gN row k = 0 then 0 else (F.cstC (List.take n (List.drop (Int.toNat fr) L)) (List.length tk) ms tk) (F.gN row k) k) k := by
      have : k + 1 - 1 = (k - 1) + 1 := by omega
      rw [this]
      show F.sumN (fun k => if F.gN row k = 0 then 0 else (F.cstC (List.take n (List.drop (Int.toNat fr) L)) (List.length tk) ms tk) (F.gN row k) k) (k - 1) + (fun k => if F.gN row k = 0 then 0 else (F.cstC (List.take n (List.drop (Int.toNat fr) L)) (List.length tk) ms tk) (F.gN row k) k) (k - 1 + 1) = _
      rw [show k - 1 + 1 = k by omega]
    rw [e2] at nx
    refine Runs.go (cfg := C_cost) L_cost_ok mixed cuts_lea 400 hb (lea_t48 L L_t ms fr tk tk_t n q m i u v row way k _) ?_
    generalize F.sumN (fun k => if F.gN row k = 0 then 0 else (F.cstC (List.take n (List.drop (Int.toNat fr) L)) (List.length tk) ms tk) (F.gN row k) k) (k - 1) = S at *
    simp only [T.wp, T.wp_cond, Aft, Int.ofNat_eq_natCast, decide_eq_true_eq, and_true, true_and, Nat.zero_add, d0, Int.toNat_natCast]
    refine ite_yes (by omega) ⟨⟨by omega, by omega⟩, by rw [O.lr]; omega, ?_⟩
    have rp := O.rp k
    have rb := O.O.inv.rowb k h1 (by omega)
    have gz : (row.getD k 0).toNat = F.gN row k := rfl
    have gi : row.getD k 0 = F.gI row k := rfl
    have gni : F.gN row k = (F.gI row k).toNat := rfl
    rw [hB] at hs hk1
    have hkB : ((k - 1 : Nat) : Int) * 36028797018963968 ≤ 40 * 36028797018963968 := Int.mul_le_mul_of_nonneg_right (by omega) (by omega)
    by_cases c : F.gN row k = 0
    · refine ite_no (by rw [gi]; omega) ⟨by unfold i64ok; omega, ?_⟩
      have e3 : S + (fun k => if F.gN row k = 0 then 0 else (F.cstC (List.take n (List.drop (Int.toNat fr) L)) (List.length tk) ms tk) (F.gN row k) k) k = S := by show S + (if F.gN row k = 0 then 0 else _) = S; rw [if_pos c]; omega
      rw [e3] at nx
      exact nx
    · have e3 : (fun k => if F.gN row k = 0 then 0 else (F.cstC (List.take n (List.drop (Int.toNat fr) L)) (List.length tk) ms tk) (F.gN row k) k) k = (F.cstC (List.take n (List.drop (Int.toNat fr) L)) (List.length tk) ms tk) (F.gN row k) k := by show (if F.gN row k = 0 then 0 else _) = _; rw [if_neg c]
      rw [e3] at nx hk1
      have e4 : F.cst (List.take n (List.drop (Int.toNat fr) L)) tk.length ms tk (row.getD k 0 - 1).toNat ((k : Int) - 1).toNat = (F.cstC (List.take n (List.drop (Int.toNat fr) L)) (List.length tk) ms tk) (F.gN row k) k := by
        show _ = F.cst (List.take n (List.drop (Int.toNat fr) L)) tk.length ms tk (F.gN row k - 1) (k - 1)
        rw [show (row.getD k 0 - 1).toNat = F.gN row k - 1 by rw [gi, gni]; omega, show ((k : Int) - 1).toNat = k - 1 by omega]
      rw [gi] at e4 ⊢
      refine ite_yes (by omega) ⟨⟨by omega, by omega⟩, by rw [O.lr]; omega, by unfold i64ok; omega, by unfold i64ok; omega, ⟨hfr, htk, ⟨by omega, by omega⟩, ⟨by omega, by omega, by omega⟩, hr⟩, ?_⟩
      rw [e4]
      exact ⟨by unfold i64ok; omega, by unfold i64ok; omega, nx⟩
theorem at43 (L : List (List Int)) (L_t : Bool) (ms fr : Int) (tk : List Bool) (tk_t : Bool) (n : Nat) (q : List Int) (m : Nat) (b0 : Base) (hb : b0.n = 2) (R : Int) (hn : 1 ≤ n ∧ n ≤ 5) (hm : m = tk.length + n) (htk : tk.length ≤ 32) (hr : F.rowsOk L tk) (hfr : fr.toNat + n ≤ L.length) (hC : ∀ x k, 1 ≤ x → x ≤ n → 1 ≤ k → k ≤ m → 0 ≤ (F.cstC (List.take n (List.drop (Int.toNat fr) L)) (List.length tk) ms tk) x k ∧ (F.cstC (List.take n (List.drop (Int.toNat fr) L)) (List.length tk) ms tk) x k ≤ F.BB) (t : Nat) (u v row0 way low : List Int) (used : List Bool) (a0 : Nat) (rk : Nat → Nat) (N : Nat)
    (nx : ∀ r, F.OutL n m (F.cstC (List.take n (List.drop (Int.toNat fr) L)) (List.length tk) ms tk) (t + 1) u v r way → Sym.Runs Try.prog b0 (cutAt Try.f10 11) (st_lea_11 L L_t ms fr tk tk_t n q m (t + 1 + 1) u v r way) (Sym.Ends Try.prog Try.f10 2 (.c (.int .i64 R)) [])) : ∀ (f : Nat) (r : List Int) (a : Nat), rk a < f → F.AugL n m (F.cstC (List.take n (List.drop (Int.toNat fr) L)) (List.length tk) ms tk) t u v row0 way low used a0 rk N r a →
    Sym.Runs Try.prog b0 (cutAt Try.f10 43) (st_lea_43 L L_t ms fr tk tk_t n q m (t + 1) u v r way a) (Sym.Ends Try.prog Try.f10 2 (.c (.int .i64 R)) []) := by
  have d0 : (cod 0).d = (0 : Int) := rfl
  intro f
  induction f with
  | zero => intro r a h; omega
  | succ f ih =>
    intro r a hf A
    refine Runs.go (cfg := C_cost) L_cost_ok mixed cuts_lea 400 hb (lea_t43 L L_t ms fr tk tk_t n q m (t + 1) u v r way a) ?_
    have hi := A.S.T.hi
    simp only [T.wp, T.wp_cond, Aft, Int.ofNat_eq_natCast, Nat.zero_add, Bool.not_eq_true', decide_eq_false_iff_not, d0, Int.toNat_natCast]
    by_cases c : a = 0
    · subst c
      exact ite_no (by simp) ⟨by unfold i64ok; omega, nx r (A.fin (by omega) hC)⟩
    · obtain ⟨g1, g2, g3, g4⟩ := A.step c
      have n2 := ih _ _ (by omega) g4
      have gi : way.getD a 0 = F.gI way a := rfl
      have gn : F.gN way a = (F.gI way a).toNat := rfl
      have wp := A.S.wp a
      have e : F.gI way a = (F.gN way a : Int) := by rw [gn]; omega
      rw [gi, ← gn]
      rw [e]
      refine ite_yes (by omega) ⟨⟨by omega, by omega⟩, by rw [A.S.lw]; omega, ⟨by omega, by omega⟩, by rw [A.lr]; omega, ⟨by omega, by omega⟩, by rw [A.lr]; omega, ⟨by omega, by omega⟩, by rw [A.S.lw]; omega, n2⟩
theorem Sc.bd {m : Nat} {c : Nat → Int} {used : List Bool} {a : Nat} {low way : List Int} {k : Nat} {low1 way1 : List Int} {delta : Int} {next : Nat} (S : F.Sc m c used a low way k low1 way1 delta next) (hl : ∀ j, 0 ≤ F.gI low j ∧ F.gI low j ≤ 1152921504606846976) (hc : ∀ j, 1 ≤ j → j ≤ m → -1152921504606846976 ≤ c j) (hk : k ≤ m + 1) :
    (∀ j, -1152921504606846976 ≤ F.gI low1 j ∧ F.gI low1 j ≤ 1152921504606846976) ∧ -1152921504606846976 ≤ delta ∧ delta ≤ 1152921504606846976 := by
  have h1 : ∀ j, -1152921504606846976 ≤ F.gI low1 j ∧ F.gI low1 j ≤ 1152921504606846976 := fun j => by
    have := hl j
    by_cases g : 1 ≤ j ∧ j < k ∧ F.gB used j = false
    · rw [(S.don j g.1 g.2.1 g.2.2).1]
      have := hc j g.1 (by omega)
      omega
    · rw [(S.rest j (by
        by_cases g1 : k ≤ j
        · exact .inl g1
        · by_cases g2 : j = 0
          · exact .inr (.inr g2)
          · refine .inr (.inl ?_)
            cases h3 : F.gB used j with
            | true => rfl
            | false => exact absurd ⟨by omega, by omega, h3⟩ g)).1]
      omega
  refine ⟨h1, ?_⟩
  rcases S.dl with ⟨d1, _⟩ | ⟨_, _, _, d4, _⟩
  · omega
  · rw [d4]; exact h1 next
theorem at34 (L : List (List Int)) (L_t : Bool) (ms fr : Int) (tk : List Bool) (tk_t : Bool) (n : Nat) (q : List Int) (m : Nat) (b0 : Base) (hb : b0.n = 2) (R : Int) (hn : 1 ≤ n ∧ n ≤ 5) (hm : m = tk.length + n) (htk : tk.length ≤ 32) (hr : F.rowsOk L tk) (hfr : fr.toNat + n ≤ L.length) (hC : ∀ x k, 1 ≤ x → x ≤ n → 1 ≤ k → k ≤ m → 0 ≤ (F.cstC (List.take n (List.drop (Int.toNat fr) L)) (List.length tk) ms tk) x k ∧ (F.cstC (List.take n (List.drop (Int.toNat fr) L)) (List.length tk) ms tk) x k ≤ F.BB) (t : Nat) (u v row way low low1 way1 : List Int) (used : List Bool) (a : Nat) (rk : Nat → Nat) (N : Nat) (delta : Int) (next : Nat) (S : F.TreeL n m (F.cstC (List.take n (List.drop (Int.toNat fr) L)) (List.length tk) ms tk) t u v row way low used a rk N) (hra : F.gN row a ≠ 0)
    (hS : F.Sc m (fun k => (F.cstC (List.take n (List.drop (Int.toNat fr) L)) (List.length tk) ms tk) (F.gN row a) k - F.gI u (F.gN row a) - F.gI v k) (used.set a true) a low way (m + 1) low1 way1 delta next)
    (n22 : ∀ u1 v1 low2 rk' N', F.TreeL n m (F.cstC (List.take n (List.drop (Int.toNat fr) L)) (List.length tk) ms tk) t u1 v1 row way1 low2 (used.set a true) next rk' N' → F.gN row next ≠ 0 → Sym.Runs Try.prog b0 (cutAt Try.f10 22) (st_lea_22 L L_t ms fr tk tk_t n q m (t + 1) u1 v1 row way1 low2 (used.set a true) next) (Sym.Ends Try.prog Try.f10 2 (.c (.int .i64 R)) []))
    (n43 : ∀ u1 v1 low2 rk' N', F.TreeL n m (F.cstC (List.take n (List.drop (Int.toNat fr) L)) (List.length tk) ms tk) t u1 v1 row way1 low2 (used.set a true) next rk' N' → F.gN row next = 0 → Sym.Runs Try.prog b0 (cutAt Try.f10 43) (st_lea_43 L L_t ms fr tk tk_t n q m (t + 1) u1 v1 row way1 next) (Sym.Ends Try.prog Try.f10 2 (.c (.int .i64 R)) [])) :
    ∀ (d k : Nat) (u1 v1 low2 : List Int), k + d = m + 1 → F.Up (used.set a true) row u v low1 delta k u1 v1 low2 →
    Sym.Runs Try.prog b0 (cutAt Try.f10 34) (st_lea_34 L L_t ms fr tk tk_t n q m (t + 1) u1 v1 row way1 low2 (used.set a true) delta (next : Int) k) (Sym.Ends Try.prog Try.f10 2 (.c (.int .i64 R)) []) := by
  have d0 : (cod 0).d = (0 : Int) := rfl
  have d4 : (cod 4).d = false := rfl
  have bd := S.bd (by omega) hn.2 hC
  have ar := S.rinj hra
  have hua : F.gB (used.set a true) a = true := by rw [F.gB_set _ _ _ _ (by rw [S.ls]; have := S.T.am; omega), if_pos rfl]
  have sb := Sc.bd hS bd.2.2.2.2.2 (fun j j1 j2 => by
    have h1 := ar.1 a hua
    have h2 := hC (F.gN row a) j h1.2.1 h1.2.2 j1 j2
    have h3 := bd.2.2.2.1 (F.gN row a)
    have h4 := bd.2.2.2.2.1 j
    show _ ≤ (F.cstC (List.take n (List.drop (Int.toNat fr) L)) (List.length tk) ms tk) (F.gN row a) j - F.gI u (F.gN row a) - F.gI v j
    omega) (Nat.le_refl _)
  intro d
  induction d with
  | zero =>
    intro k u1 v1 low2 hk U
    have hk : k = m + 1 := by omega
    subst hk
    obtain ⟨g1, rk', N', T'⟩ := S.step (by omega) hn.2 hC hra hS U
    refine Runs.go (cfg := C_cost) L_cost_ok mixed cuts_lea 400 hb (lea_t34 L L_t ms fr tk tk_t n q m (t + 1) u1 v1 row way1 low2 (used.set a true) delta (next : Int) (m + 1)) ?_
    simp only [T.wp, T.wp_cond, Aft, Int.ofNat_eq_natCast, decide_eq_true_eq, Nat.zero_add, d0, Int.toNat_natCast]
    refine ite_no (by omega) ⟨⟨by omega, by omega⟩, by rw [S.lr]; omega, ?_⟩
    have gi : row.getD next 0 = F.gI row next := rfl
    have gn : F.gN row next = (F.gI row next).toNat := rfl
    have rp := S.rp next
    by_cases c : F.gN row next = 0
    · exact ite_yes (by rw [gi]; omega) (n43 u1 v1 low2 rk' N' T' c)
    · exact ite_no (by rw [gi]; omega) (n22 u1 v1 low2 rk' N' T' c)
  | succ d ih =>
    intro k u1 v1 low2 hk U
    refine Runs.go (cfg := C_cost) L_cost_ok mixed cuts_lea 400 hb (lea_t34 L L_t ms fr tk tk_t n q m (t + 1) u1 v1 row way1 low2 (used.set a true) delta (next : Int) k) ?_
    simp only [T.wp, T.wp_cond, Aft, Int.ofNat_eq_natCast, decide_eq_true_eq, Nat.zero_add, d0, d4, Int.toNat_natCast]
    have lu := U.lu
    have lv := U.lv
    have ll := U.ll
    rw [S.lu] at lu
    rw [S.lv] at lv
    rw [hS.ll] at ll
    refine ite_yes (by omega) ⟨⟨by omega, by omega⟩, by rw [List.length_set, S.ls]; omega, ?_⟩
    have gb : (used.set a true).getD k false = F.gB (used.set a true) k := rfl
    have gi : row.getD k 0 = F.gI row k := rfl
    have gn : (F.gI row k).toNat = F.gN row k := rfl
    have rp := S.rp k
    rw [gb, gi, gn]
    cases c : F.gB (used.set a true) k with
    | true =>
      have h1 := ar.1 k c
      obtain ⟨e1, e2, U'⟩ := U.yes c (fun j hj hju e => by have := ar.2 k j c hju e; omega) (by rw [S.lu]; omega) (by rw [S.lv]; omega)
      have n2 := ih (k + 1) _ _ _ (by omega) U'
      have b1 := bd.2.2.2.1 (F.gN row k)
      have b2 := bd.2.2.2.2.1 k
      have gu : u1.getD (F.gN row k) 0 = F.gI u1 (F.gN row k) := rfl
      have gv : v1.getD k 0 = F.gI v1 k := rfl
      have er : F.gI row k = (F.gN row k : Int) := by rw [← gn]; omega
      rw [gu, gv, er]
      refine ite_yes rfl ⟨⟨by omega, by omega⟩, by rw [S.lr]; omega, ⟨by omega, by omega⟩, by omega, by unfold i64ok; omega, ⟨by omega, by omega⟩, by omega, ⟨by omega, by omega⟩, by omega, by unfold i64ok; omega, ⟨by omega, by omega⟩, by omega, by unfold i64ok; omega, n2⟩
    | false =>
      obtain ⟨e2, U'⟩ := U.no c (by rw [hS.ll]; omega)
      have n2 := ih (k + 1) _ _ _ (by omega) U'
      have b3 := sb.1 k
      have gl : low2.getD k 0 = F.gI low2 k := rfl
      rw [gl]
      exact ite_no (by simp) ⟨⟨by omega, by omega⟩, by omega, by unfold i64ok; omega, ⟨by omega, by omega⟩, by omega, by unfold i64ok; omega, n2⟩
theorem R28_at : regAt Try.f10 28 = .code (.region (idI (regAt Try.f10 28)) R28 true) :: (regAt Try.f10 28).tail := by kernel_rfl
theorem R28_lex : Region.lexB .any R28 = true := by kernel_rfl
theorem R28_kind : (R28.toList.all fun o => decide (kindP C_cost o ≤ 1) || isDyn 97 o) = true := by kernel_rfl
theorem R28_dst : (R28.toList.all fun o => (decide (o.dst ≠ some 13) && decide (o.dst ≠ some 97)) || (decide (o.dst = some 97) && match o.op with | .move (.tmp x) => decide (x = 13) | _ => false)) = true := by kernel_rfl
theorem R28_free : (R28.toList.all fun o => o.guard.isNone) = true := by kernel_rfl
theorem at25 (L : List (List Int)) (L_t : Bool) (ms fr : Int) (tk : List Bool) (tk_t : Bool) (n : Nat) (q : List Int) (m : Nat) (b0 : Base) (hb : b0.n = 2) (R : Int) (hn : 1 ≤ n ∧ n ≤ 5) (hm : m = tk.length + n) (htk : tk.length ≤ 32) (hr : F.rowsOk L tk) (hfr : fr.toNat + n ≤ L.length) (hC : ∀ x k, 1 ≤ x → x ≤ n → 1 ≤ k → k ≤ m → 0 ≤ (F.cstC (List.take n (List.drop (Int.toNat fr) L)) (List.length tk) ms tk) x k ∧ (F.cstC (List.take n (List.drop (Int.toNat fr) L)) (List.length tk) ms tk) x k ≤ F.BB) (t : Nat) (u v row way low : List Int) (used : List Bool) (a : Nat) (rk : Nat → Nat) (N : Nat) (S : F.TreeL n m (F.cstC (List.take n (List.drop (Int.toNat fr) L)) (List.length tk) ms tk) t u v row way low used a rk N) (hra : F.gN row a ≠ 0)
    (n34 : ∀ low1 way1 delta next, F.Sc m (fun k => (F.cstC (List.take n (List.drop (Int.toNat fr) L)) (List.length tk) ms tk) (F.gN row a) k - F.gI u (F.gN row a) - F.gI v k) (used.set a true) a low way (m + 1) low1 way1 delta next →
      Sym.Runs Try.prog b0 (cutAt Try.f10 34) (st_lea_34 L L_t ms fr tk tk_t n q m (t + 1) u v row way1 low1 (used.set a true) delta ((next : Nat) : Int) 0) (Sym.Ends Try.prog Try.f10 2 (.c (.int .i64 R)) [])) :
    ∀ (d k : Nat) (low1 way1 : List Int) (delta : Int) (next : Nat), k + d = m + 1 → 1 ≤ k → F.Sc m (fun k => (F.cstC (List.take n (List.drop (Int.toNat fr) L)) (List.length tk) ms tk) (F.gN row a) k - F.gI u (F.gN row a) - F.gI v k) (used.set a true) a low way k low1 way1 delta next →
    Sym.Runs Try.prog b0 (cutAt Try.f10 25) (st_lea_25 L L_t ms fr tk tk_t n q m (t + 1) u v row way1 low1 (used.set a true) a (F.gI row a) delta (next : Int) k) (Sym.Ends Try.prog Try.f10 2 (.c (.int .i64 R)) []) := by
  have d0 : (cod 0).d = (0 : Int) := rfl
  have d4 : (cod 4).d = false := rfl
  have bd := S.bd (by omega) hn.2 hC
  have ar := S.rinj hra
  have hua : F.gB (used.set a true) a = true := by rw [F.gB_set _ _ _ _ (by rw [S.ls]; have := S.T.am; omega), if_pos rfl]
  have ra := ar.1 a hua
  have hB : F.BB = 36028797018963968 := rfl
  intro d
  induction d with
  | zero =>
    intro k low1 way1 delta next hk k1 U
    have hk : k = m + 1 := by omega
    subst hk
    refine Runs.go (cfg := C_cost) L_cost_ok mixed cuts_lea 400 hb (lea_t25 L L_t ms fr tk tk_t n q m (t + 1) u v row way1 low1 (used.set a true) a (F.gI row a) delta (next : Int) (m + 1)) ?_
    simp only [T.wp, T.wp_cond, Aft, Int.ofNat_eq_natCast, decide_eq_true_eq, Nat.zero_add, d4, Int.toNat_natCast]
    exact ite_no (by omega) (n34 low1 way1 delta next U)
  | succ d ih =>
    intro k low1 way1 delta next hk k1 U
    refine Runs.go (cfg := C_cost) L_cost_ok mixed cuts_lea 400 hb (lea_t25 L L_t ms fr tk tk_t n q m (t + 1) u v row way1 low1 (used.set a true) a (F.gI row a) delta (next : Int) k) ?_
    simp only [T.wp, T.wp_cond, Aft, Int.ofNat_eq_natCast, decide_eq_true_eq, Nat.zero_add, d4, Int.toNat_natCast]
    refine ite_yes (by omega) ⟨⟨by omega, by omega⟩, by rw [List.length_set, S.ls]; omega, ?_⟩
    have gb : (used.set a true).getD k false = F.gB (used.set a true) k := rfl
    rw [gb]
    cases c : F.gB (used.set a true) k with
    | true => exact ite_yes rfl ⟨by unfold i64ok; omega, ih (k + 1) low1 way1 delta next (by omega) (by omega) (U.skip c)⟩
    | false =>
      refine ite_no (by simp) ?_
      refine Runs.lexG (cfg := C_cost) L_cost_ok mixed cuts_lea_r28 400 hb R28_at 13 97 R28_lex R28_kind R28_dst R28_free ⟨by kernel_rfl, by kernel_rfl, by kernel_rfl⟩ trivial (lea_q28 L L_t ms fr tk tk_t n q m (t + 1) u v row way1 low1 (used.set a true) a (F.gI row a) delta (next : Int) k) ?_
      have e0 : (F.gI row a).toNat = F.gN row a := rfl
      have er : F.gI row a = (F.gN row a : Int) := by rw [← e0]; have := S.rp a; omega
      have e4 : F.cst (List.take n (List.drop (Int.toNat fr) L)) tk.length ms tk (F.gI row a - 1).toNat ((k : Int) - 1).toNat = (F.cstC (List.take n (List.drop (Int.toNat fr) L)) (List.length tk) ms tk) (F.gN row a) k := by
        show _ = F.cst (List.take n (List.drop (Int.toNat fr) L)) tk.length ms tk (F.gN row a - 1) (k - 1)
        rw [show (F.gI row a - 1).toNat = F.gN row a - 1 by omega, show ((k : Int) - 1).toNat = k - 1 by omega]
      simp only [T.wp, T.wp_cond, Aft, Int.ofNat_eq_natCast, decide_eq_true_eq, and_true, true_and, Nat.zero_add, d0, Int.toNat_natCast, e4]
      have gu : u.getD (F.gN row a) 0 = F.gI u (F.gN row a) := rfl
      have gv : v.getD k 0 = F.gI v k := rfl
      have gl : low1.getD k 0 = F.gI low1 k := rfl
      rw [e0, gu, gv, gl]
      have h2 := hC (F.gN row a) k ra.2.1 ra.2.2 k1 (by omega)
      rw [hB] at h2
      have h3 := bd.2.2.2.1 (F.gN row a)
      have h4 := bd.2.2.2.2.1 k
      have key := U.put c k1 (by omega) (low2 := if (F.cstC (List.take n (List.drop (Int.toNat fr) L)) (List.length tk) ms tk) (F.gN row a) k - F.gI u (F.gN row a) - F.gI v k < F.gI low1 k then low1.set k ((F.cstC (List.take n (List.drop (Int.toNat fr) L)) (List.length tk) ms tk) (F.gN row a) k - F.gI u (F.gN row a) - F.gI v k) else low1)
        (way2 := if (F.cstC (List.take n (List.drop (Int.toNat fr) L)) (List.length tk) ms tk) (F.gN row a) k - F.gI u (F.gN row a) - F.gI v k < F.gI low1 k then way1.set k (a : Int) else way1) (by
          by_cases g : (F.cstC (List.take n (List.drop (Int.toNat fr) L)) (List.length tk) ms tk) (F.gN row a) k - F.gI u (F.gN row a) - F.gI v k < F.gI low1 k
          · exact .inl ⟨g, if_pos g, if_pos g⟩
          · exact .inr ⟨g, if_neg g, if_neg g⟩)
      generalize hX : (F.cstC (List.take n (List.drop (Int.toNat fr) L)) (List.length tk) ms tk) (F.gN row a) k - F.gI u (F.gN row a) - F.gI v k = X at *
      have hX2 : i64ok X ∧ i64ok ((F.cstC (List.take n (List.drop (Int.toNat fr) L)) (List.length tk) ms tk) (F.gN row a) k - F.gI u (F.gN row a)) := by
        rw [← hX]
        unfold i64ok
        omega
      refine ⟨by unfold i64ok; omega, by unfold i64ok; omega, ⟨hfr, htk, ⟨by omega, by omega⟩, ⟨by omega, by omega, by omega⟩, hr⟩, ⟨by omega, by omega⟩, by rw [S.lu]; omega, hX2.2, ⟨by omega, by omega⟩, by rw [S.lv]; omega, hX2.1, ⟨by omega, by omega⟩, by rw [U.ll]; omega, ?_⟩
      have kl : k < low1.length := by rw [U.ll]; omega
      have kw : k < way1.length := by rw [U.lw]; omega
      have kz : (0 : Int) ≤ (k : Int) ∧ (k : Int) < ((m + 1 : Nat) : Int) := ⟨by omega, by omega⟩
      have ki : i64ok ((k : Int) + 1) := by unfold i64ok; omega
      by_cases g : X < F.gI low1 k
      · rw [if_pos g, if_pos g] at key
        have ks : k < (low1.set k X).length := by rw [List.length_set]; exact kl
        refine ite_yes g ⟨kz, kl, kz, kw, kz, ks, ?_⟩
        have gs : (low1.set k X).getD k 0 = F.gI (low1.set k X) k := rfl
        rw [gs]
        by_cases g2 : F.gI (low1.set k X) k < delta
        · exact ite_yes g2 ⟨kz, ks, ki, ih (k + 1) _ _ _ k (by omega) (by omega) (key.1 g2)⟩
        · exact ite_no g2 ⟨ki, ih (k + 1) _ _ _ next (by omega) (by omega) (key.2 g2)⟩
      · rw [if_neg g, if_neg g] at key
        refine ite_no g ⟨kz, kl, ?_⟩
        by_cases g2 : F.gI low1 k < delta
        · exact ite_yes g2 ⟨kz, kl, ki, ih (k + 1) _ _ _ k (by omega) (by omega) (key.1 g2)⟩
        · exact ite_no g2 ⟨ki, ih (k + 1) _ _ _ next (by omega) (by omega) (key.2 g2)⟩
theorem at22 (L : List (List Int)) (L_t : Bool) (ms fr : Int) (tk : List Bool) (tk_t : Bool) (n : Nat) (q : List Int) (m : Nat) (b0 : Base) (hb : b0.n = 2) (R : Int) (hn : 1 ≤ n ∧ n ≤ 5) (hm : m = tk.length + n) (htk : tk.length ≤ 32) (hr : F.rowsOk L tk) (hfr : fr.toNat + n ≤ L.length) (hC : ∀ x k, 1 ≤ x → x ≤ n → 1 ≤ k → k ≤ m → 0 ≤ (F.cstC (List.take n (List.drop (Int.toNat fr) L)) (List.length tk) ms tk) x k ∧ (F.cstC (List.take n (List.drop (Int.toNat fr) L)) (List.length tk) ms tk) x k ≤ F.BB) (t : Nat) (row : List Int)
    (n11 : ∀ u v r way, F.OutL n m (F.cstC (List.take n (List.drop (Int.toNat fr) L)) (List.length tk) ms tk) (t + 1) u v r way → Sym.Runs Try.prog b0 (cutAt Try.f10 11) (st_lea_11 L L_t ms fr tk tk_t n q m (t + 1 + 1) u v r way) (Sym.Ends Try.prog Try.f10 2 (.c (.int .i64 R)) [])) :
    ∀ (f : Nat) (u v way low : List Int) (used : List Bool) (a : Nat) (rk : Nat → Nat) (N : Nat), F.free used < f → F.TreeL n m (F.cstC (List.take n (List.drop (Int.toNat fr) L)) (List.length tk) ms tk) t u v row way low used a rk N → F.gN row a ≠ 0 →
    Sym.Runs Try.prog b0 (cutAt Try.f10 22) (st_lea_22 L L_t ms fr tk tk_t n q m (t + 1) u v row way low used a) (Sym.Ends Try.prog Try.f10 2 (.c (.int .i64 R)) []) := by
  have d0 : (cod 0).d = (0 : Int) := rfl
  intro f
  induction f with
  | zero => intro u v way low used a rk N h; omega
  | succ f ih =>
    intro u v way low used a rk N hf S hra
    have am := S.T.am
    have hi := S.T.hi
    have fs := F.free_set used a (by rw [S.ls]; omega) S.T.au
    refine Runs.go (cfg := C_cost) L_cost_ok mixed cuts_lea 400 hb (lea_t22 L L_t ms fr tk tk_t n q m (t + 1) u v row way low used a) ?_
    simp only [T.wp, Aft, Int.ofNat_eq_natCast, Nat.zero_add, d0, Int.toNat_natCast]
    refine ⟨⟨by omega, by omega⟩, by rw [S.ls]; omega, ⟨by omega, by omega⟩, by rw [S.lr]; omega, ?_⟩
    refine at25 L L_t ms fr tk tk_t n q m b0 hb R hn hm htk hr hfr hC t u v row way low used a rk N S hra (fun low1 way1 delta next hS => ?_) m 1 low way 1152921504606846976 0 (by omega) (by omega) (F.Sc.start S.ll S.lw)
    refine at34 L L_t ms fr tk tk_t n q m b0 hb R hn hm htk hr hfr hC t u v row way low low1 way1 used a rk N delta next S hra hS (fun u1 v1 low2 rk' N' T' hr' => ih u1 v1 way1 low2 _ next rk' N' (by omega) T' hr') (fun u1 v1 low2 rk' N' T' hr' => ?_) (m + 1) 0 u v low1 (by omega) (F.Up.start ..)
    exact at43 L L_t ms fr tk tk_t n q m b0 hb R hn hm htk hr hfr hC t u1 v1 row way1 low2 (used.set a true) next rk' N' (fun r O => n11 u1 v1 r way1 O) (rk' next + 1) row next (by omega) (T'.aug hr')
theorem at17 (L : List (List Int)) (L_t : Bool) (ms fr : Int) (tk : List Bool) (tk_t : Bool) (n : Nat) (q : List Int) (m : Nat) (b0 : Base) (hb : b0.n = 2) (R : Int) (hn : 1 ≤ n ∧ n ≤ 5) (hm : m = tk.length + n) (htk : tk.length ≤ 32) (hr : F.rowsOk L tk) (hfr : fr.toNat + n ≤ L.length) (hC : ∀ x k, 1 ≤ x → x ≤ n → 1 ≤ k → k ≤ m → 0 ≤ (F.cstC (List.take n (List.drop (Int.toNat fr) L)) (List.length tk) ms tk) x k ∧ (F.cstC (List.take n (List.drop (Int.toNat fr) L)) (List.length tk) ms tk) x k ≤ F.BB) (i : Nat) (u v row way : List Int)
    (n22 : Sym.Runs Try.prog b0 (cutAt Try.f10 22) (st_lea_22 L L_t ms fr tk tk_t n q m i u v row way (List.replicate (m + 1) 1152921504606846976) (List.replicate (m + 1) false) 0) (Sym.Ends Try.prog Try.f10 2 (.c (.int .i64 R)) [])) :
    ∀ (d k : Nat) (low : List Int), k + d = m + 1 → low.length = m + 1 → (∀ j, j < k → low[j]? = some 1152921504606846976) →
    Sym.Runs Try.prog b0 (cutAt Try.f10 17) (st_lea_17 L L_t ms fr tk tk_t n q m i u v row way low k) (Sym.Ends Try.prog Try.f10 2 (.c (.int .i64 R)) []) := by
  intro d
  induction d with
  | zero =>
    intro k low hk hl ho
    refine Runs.go (cfg := C_cost) L_cost_ok mixed cuts_lea 400 hb (lea_t17 L L_t ms fr tk tk_t n q m i u v row way low k) ?_
    simp only [T.wp, T.wp_cond, Aft, Int.ofNat_eq_natCast, decide_eq_true_eq, and_true, Nat.zero_add, Int.toNat_natCast]
    have e : low = List.replicate (m + 1) 1152921504606846976 := by
      refine List.ext_getElem? fun j => ?_
      rcases Nat.lt_or_ge j (m + 1) with c | c
      · rw [ho j (by omega), List.getElem?_replicate, if_pos c]
      · rw [List.getElem?_eq_none (by omega), List.getElem?_eq_none (by rw [List.length_replicate]; exact c)]
    rw [e]
    exact ite_no (by omega) ⟨by unfold i64ok; omega, ⟨by omega, by omega⟩, n22⟩
  | succ d ih =>
    intro k low hk hl ho
    refine Runs.go (cfg := C_cost) L_cost_ok mixed cuts_lea 400 hb (lea_t17 L L_t ms fr tk tk_t n q m i u v row way low k) ?_
    have n2 := ih (k + 1) (low.set k 1152921504606846976) (by omega) (by rw [List.length_set, hl]) (fun j hj => by
      rw [List.getElem?_set]
      by_cases e : k = j
      · rw [if_pos e, if_pos (by omega)]
      · rw [if_neg e]
        exact ho j (by omega))
    simp only [T.wp, T.wp_cond, Aft, Int.ofNat_eq_natCast, decide_eq_true_eq, and_true, Nat.zero_add, Int.toNat_natCast]
    exact ite_yes (by omega) ⟨⟨by omega, by omega⟩, by omega, by unfold i64ok; omega, n2⟩
theorem at11 (L : List (List Int)) (L_t : Bool) (ms fr : Int) (tk : List Bool) (tk_t : Bool) (n : Nat) (q : List Int) (m : Nat) (b0 : Base) (hb : b0.n = 2) (R : Int) (hn : 1 ≤ n ∧ n ≤ 5) (hm : m = tk.length + n) (htk : tk.length ≤ 32) (hr : F.rowsOk L tk) (hfr : fr.toNat + n ≤ L.length) (hC : ∀ x k, 1 ≤ x → x ≤ n → 1 ≤ k → k ≤ m → 0 ≤ (F.cstC (List.take n (List.drop (Int.toNat fr) L)) (List.length tk) ms tk) x k ∧ (F.cstC (List.take n (List.drop (Int.toNat fr) L)) (List.length tk) ms tk) x k ≤ F.BB) (hfin : ∀ u v row way, F.OutL n m (F.cstC (List.take n (List.drop (Int.toNat fr) L)) (List.length tk) ms tk) n u v row way → R = F.sumN (fun k => if F.gN row k = 0 then 0 else (F.cstC (List.take n (List.drop (Int.toNat fr) L)) (List.length tk) ms tk) (F.gN row k) k) m) : ∀ (d t : Nat), t + d = n → ∀ (u v row way : List Int), F.OutL n m (F.cstC (List.take n (List.drop (Int.toNat fr) L)) (List.length tk) ms tk) t u v row way →
    Sym.Runs Try.prog b0 (cutAt Try.f10 11) (st_lea_11 L L_t ms fr tk tk_t n q m (t + 1) u v row way) (Sym.Ends Try.prog Try.f10 2 (.c (.int .i64 R)) []) := by
  intro d
  induction d with
  | zero =>
    intro t ht u v row way O
    have ht : t = n := by omega
    have O' : F.OutL n m (F.cstC (List.take n (List.drop (Int.toNat fr) L)) (List.length tk) ms tk) n u v row way := by rw [ht] at O; exact O
    have A := at48 L L_t ms fr tk tk_t n q m b0 hb R hn hm htk hr hfr hC u v row way (t + 1) O' (hfin u v row way O') m 1 (by omega) (by omega)
    refine Runs.go (cfg := C_cost) L_cost_ok mixed cuts_lea 400 hb (lea_t11 L L_t ms fr tk tk_t n q m (t + 1) u v row way) ?_
    simp only [T.wp, T.wp_cond, Aft, Int.ofNat_eq_natCast, decide_eq_true_eq, and_true, Nat.zero_add]
    exact ite_no (by omega) A
  | succ d ih =>
    intro t ht u v row way O
    refine Runs.go (cfg := C_cost) L_cost_ok mixed cuts_lea 400 hb (lea_t11 L L_t ms fr tk tk_t n q m (t + 1) u v row way) ?_
    simp only [T.wp, T.wp_cond, Aft, Int.ofNat_eq_natCast, decide_eq_true_eq, and_true, Nat.zero_add]
    obtain ⟨rk, N, T⟩ := O.tree (by omega) (low := List.replicate (m + 1) 1152921504606846976) rfl
    have e1 : ((m : Int) + 1).toNat = m + 1 := by omega
    rw [e1]
    refine ite_yes (by omega) ⟨⟨by omega, by omega⟩, by rw [O.lr]; omega, by unfold i64ok; omega, ⟨by omega, by omega⟩, ?_⟩
    refine at17 L L_t ms fr tk tk_t n q m b0 hb R hn hm htk hr hfr hC (t + 1) u v (row.set 0 ((t + 1 : Nat) : Int)) way ?_ (m + 1) 0 (List.replicate (m + 1) 0) (by omega) (by simp) (fun j hj => by omega)
    refine at22 L L_t ms fr tk tk_t n q m b0 hb R hn hm htk hr hfr hC t (row.set 0 ((t + 1 : Nat) : Int)) (fun u v r way O => ih (t + 1) (by omega) u v r way O) (F.free (List.replicate (m + 1) false) + 1) u v way _ _ 0 rk N (by omega) T ?_
    rw [F.gN_set _ _ _ _ (by rw [O.lr]; omega), if_pos rfl]
    omega
theorem lea_run (L : List (List Int)) (L_t : Bool) (ms : Int) (fr : Int) (tk : List Bool) (tk_t : Bool) (b0 : Base) (hb : b0.n = 2) (h0 : 0 ≤ fr ∧ fr ≤ (List.length L : Int)) (h1 : F.rowsOk L tk) (h2 : List.length tk ≤ 32) (h3 : F.okC (L.drop fr.toNat) ms tk) : Sym.Runs Try.prog b0 [.code (codeOf Try.f10)] ⟨argsS Try.f10 [.c (.slc 0 0 (List.length L) L_t), .c (.int .i64 ms), .c (.int .i64 fr), .c (.slc 1 0 (List.length tk) tk_t)], ([.nin 0 L none, .inp 4 tk] : Heap cod)⟩ (Sym.Ends Try.prog Try.f10 2 (.c (.int .i64 (F.lst ms (L.drop fr.toNat) tk))) []) := by
  obtain ⟨n, hn⟩ : ∃ n, n = L.length - fr.toNat := ⟨_, rfl⟩
  have hlen : (L.drop fr.toNat).length = n := by rw [List.length_drop, hn]
  refine Runs.go (cfg := C_cost) L_cost_ok mixed cuts_lea 400 hb (lea_t0 L L_t ms fr tk tk_t) ?_
  rw [← hn]
  simp only [T.wp, T.wp_cond, Aft, Int.ofNat_eq_natCast, decide_eq_true_eq, and_true, Nat.zero_add]
  refine ⟨h0, ?_⟩
  by_cases c : n = 0
  · have e : L.drop fr.toNat = [] := List.length_eq_zero_iff.1 (by rw [hlen, c])
    rw [e]
    exact ite_yes (by omega) (by first | rfl | trivial)
  refine ite_no (by omega) ?_
  have hil : fr.toNat < L.length := by omega
  have hql : (L.getD fr.toNat []).length = tk.length := h1 _ (F.getD_mem hil)
  refine Runs.open 0 fr.toNat rfl hil rfl ?_
  refine Runs.weaken (st' := st_lea_r5b L L_t ms fr tk tk_t n fr.toNat (L.getD fr.toNat [])) (fun a w hR => hR) ?_
  generalize L.getD fr.toNat [] = q at *
  have hn5 : n ≤ 5 := by rw [← hlen]; exact h3.2.2.2
  refine Runs.go (cfg := C_cost) L_cost_ok mixed cuts_lea_r5b 400 hb (lea_tr5b L L_t ms fr tk tk_t n fr.toNat q) ?_
  simp only [T.wp, Aft, Int.ofNat_eq_natCast]
  refine ⟨⟨by omega, by omega⟩, ⟨by simp, hil⟩, ?_⟩
  rw [hql]
  refine Runs.close 0 rfl ?_
  have rs : List.take n (List.drop fr.toNat L) = L.drop fr.toNat := List.take_of_length_le (by omega)
  have hC : ∀ x k, 1 ≤ x → x ≤ n → 1 ≤ k → k ≤ tk.length + n → 0 ≤ F.cstC (List.take n (List.drop (Int.toNat fr) L)) (List.length tk) ms tk x k ∧ F.cstC (List.take n (List.drop (Int.toNat fr) L)) (List.length tk) ms tk x k ≤ F.BB := fun x k x1 x2 _ _ => by
    rw [rs]
    exact F.cst_bd h3 (i := x - 1) (by omega) (k - 1)
  refine Runs.weaken (st' := st_lea_r6b L L_t ms fr tk tk_t n q) (fun a w hR => hR) ?_
  refine Runs.go (cfg := C_cost) L_cost_ok mixed cuts_lea_r6b 400 hb (lea_tr6b L L_t ms fr tk tk_t n q) ?_
  have A := at11 L L_t ms fr tk tk_t n q (tk.length + n) b0 hb (F.lst ms (L.drop fr.toNat) tk) ⟨by omega, hn5⟩ rfl h2 h1 (by omega) hC (fun u v row way O => by
    rw [rs]
    have I := O.O.inv
    rw [rs] at I
    have key := F.least_asg h3 (u := F.gI u) (v := F.gI v) (row := F.gN row) (by rw [hlen]; exact I)
    rw [hlen] at key
    exact (F.lst_uniq key.1 key.2).symm) n 0 (by omega) _ _ _ _ (F.OutL.start hC)
  have e1 : ((n : Int) + 1).toNat = n + 1 := by omega
  have e2 : ((tk.length : Int) + (n : Int) + 1).toNat = tk.length + n + 1 := by omega
  simp only [T.wp, Aft, Int.ofNat_eq_natCast, and_true, e1, e2]
  have i1 : i64ok ((tk.length : Int) + n) := by unfold i64ok; omega
  have i2 : i64ok ((n : Int) + 1) := by unfold i64ok; omega
  have i3 : i64ok ((tk.length : Int) + n + 1) := by unfold i64ok; omega
  have z1 : (0 : Int) ≤ (n : Int) + 1 ∧ (n : Int) + 1 ≤ 1000000 := by omega
  have z2 : (0 : Int) ≤ (tk.length : Int) + n + 1 ∧ (tk.length : Int) + n + 1 ≤ 1000000 := by omega
  exact ⟨i1, i2, z1, i3, z2, i3, z2, i3, z2, A⟩



noncomputable def s_lea : Summ cod := fun args H => match args, H with
  | [.c (.slc 0 L_i L_n L_t), .c (.int .i64 ms), .c (.int .i64 fr), .c (.slc 1 tk_i tk_n tk_t)], [o0, o1] => (match o0.asNin 0 with | some L => (match o1.asInp 4 with | some tk => .need ((L_i = 0 ∧ L_n = List.length L) ∧ (tk_i = 0 ∧ tk_n = List.length tk) ∧ (0 ≤ fr ∧ fr ≤ (List.length L : Int)) ∧ (F.rowsOk L tk) ∧ (List.length tk ≤ 32) ∧ (F.okC (L.drop fr.toNat) ms tk)) (.ret (.c (.int .i64 (F.lst ms (L.drop fr.toNat) tk)), [])) | none => .fail) | none => .fail)
  | _, _ => .fail


theorem lea_sound : Sound Try.prog cod 10 s_lea := sound_runs (cfg := C_cost) L_cost_ok mixed Try.func10 rfl rfl _ fun args H r news hg b0 hb => by
  unfold s_lea at hg
  split at hg
  · skip
    split at hg
    · rename_i L hx0
      cases asNin_spec hx0
      split at hg
      · rename_i tk hx1
        cases asInp_spec hx1
        simp only [T.gives, T.wp, Prod.mk.injEq] at hg
        obtain ⟨⟨⟨rfl, rfl⟩, ⟨rfl, rfl⟩, q2, q3, q4, q5⟩, rfl, rfl⟩ := hg
        exact lea_run _ _ _ _ _ _ b0 hb (by assumption) (by assumption) (by assumption) (by assumption)
      · exact hg.elim
    · exact hg.elim
  · exact hg.elim

noncomputable def L_lea : Sums cod := (10, .p s_lea) :: L_cost
noncomputable def C_lea : Cfg cod := mkC L_lea

theorem L_lea_ok : Snd Try.prog cod L_lea := .cons lea_sound L_cost_ok


end
end Go.Proofs.Ytjffboggpofbfaa
