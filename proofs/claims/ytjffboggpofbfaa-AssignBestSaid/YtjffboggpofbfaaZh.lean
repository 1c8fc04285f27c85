/- Part of a claim: lemmas on the way to its theorem; each states its own conditions. -/
import Derived.Test.YtjffboggpofbfaaZg
import Derived.Test.YtjffboggpofbfaaSym48
import Derived.Test.YtjffboggpofbfaaSym49
namespace Go.Proofs.Ytjffboggpofbfaa
open Sym Go.RowKit
noncomputable section
set_option maxRecDepth 100000
set_option maxHeartbeats 4000000



namespace F
def asd (L : List (List Int)) (ms : Int) : List (List Int) := allG ms L [[0]]
end F
noncomputable def Q9 : Array Oper := opsI (regAt Try.f8 9)
noncomputable def Q20 : Array Oper := opsI (regAt Try.f8 20)


def cuts_ass : Cuts := [(100002, [1, 5, 0], 3), (3, [1, 18, 19, 20, 5], 30), (100004, [1, 18, 19, 20, 5], 2), (100006, [7, 1, 18, 19, 20, 8, 5], 3), (7, [7, 1, 24, 18, 19, 20, 25, 26, 8], 4), (100008, [7, 1, 24, 18, 19, 20, 25, 26, 8], 4), (100009, [10, 7, 1, 24, 18, 19, 20, 25, 26, 8], 5), (100010, [10, 7, 1, 24, 18, 19, 20, 25, 26, 8], 5), (11, [10, 46, 7, 1, 24, 18, 19, 20, 25, 26, 47, 48, 8], 5), (15, [11, 56, 10, 46, 7, 1, 24, 18, 19, 20, 25, 26, 47, 48, 12, 8, 57, 58, 13], 5), (100020, [10, 46, 7, 1, 24, 18, 19, 20, 25, 26, 47, 48, 11, 12, 8], 5), (100021, [10, 46, 7, 1, 24, 18, 19, 20, 25, 26, 47, 8, 48], 5)]
def cuts_ass_r2 : Cuts := [(3, [1, 18, 19, 20, 5], 30), (100004, [1, 18, 19, 20, 5], 2), (100006, [7, 1, 18, 19, 20, 8, 5], 3), (7, [7, 1, 24, 18, 19, 20, 25, 26, 8], 4), (100008, [7, 1, 24, 18, 19, 20, 25, 26, 8], 4), (100009, [10, 7, 1, 24, 18, 19, 20, 25, 26, 8], 5), (100010, [10, 7, 1, 24, 18, 19, 20, 25, 26, 8], 5), (11, [10, 46, 7, 1, 24, 18, 19, 20, 25, 26, 47, 48, 8], 5), (15, [11, 56, 10, 46, 7, 1, 24, 18, 19, 20, 25, 26, 47, 48, 12, 8, 57, 58, 13], 5), (100020, [10, 46, 7, 1, 24, 18, 19, 20, 25, 26, 47, 48, 11, 12, 8], 5), (100021, [10, 46, 7, 1, 24, 18, 19, 20, 25, 26, 47, 8, 48], 5)]
def cuts_ass_r2b : Cuts := [(3, [1, 18, 19, 20, 5], 30), (100004, [1, 18, 19, 20, 5], 2), (100006, [7, 1, 18, 19, 20, 8, 5], 3), (7, [7, 1, 24, 18, 19, 20, 25, 26, 8], 4), (100008, [7, 1, 24, 18, 19, 20, 25, 26, 8], 4), (100009, [10, 7, 1, 24, 18, 19, 20, 25, 26, 8], 5), (100010, [10, 7, 1, 24, 18, 19, 20, 25, 26, 8], 5), (11, [10, 46, 7, 1, 24, 18, 19, 20, 25, 26, 47, 48, 8], 5), (15, [11, 56, 10, 46, 7, 1, 24, 18, 19, 20, 25, 26, 47, 48, 12, 8, 57, 58, 13], 5), (100020, [10, 46, 7, 1, 24, 18, 19, 20, 25, 26, 47, 48, 11, 12, 8], 5), (100021, [10, 46, 7, 1, 24, 18, 19, 20, 25, 26, 47, 8, 48], 5)]
def cuts_ass_r4 : Cuts := [(100002, [1, 5, 0], 3), (3, [1, 18, 19, 20, 5], 30), (100006, [7, 1, 18, 19, 20, 8, 5], 3), (7, [7, 1, 24, 18, 19, 20, 25, 26, 8], 4), (100008, [7, 1, 24, 18, 19, 20, 25, 26, 8], 4), (100009, [10, 7, 1, 24, 18, 19, 20, 25, 26, 8], 5), (100010, [10, 7, 1, 24, 18, 19, 20, 25, 26, 8], 5), (11, [10, 46, 7, 1, 24, 18, 19, 20, 25, 26, 47, 48, 8], 5), (15, [11, 56, 10, 46, 7, 1, 24, 18, 19, 20, 25, 26, 47, 48, 12, 8, 57, 58, 13], 5), (100020, [10, 46, 7, 1, 24, 18, 19, 20, 25, 26, 47, 48, 11, 12, 8], 5), (100021, [10, 46, 7, 1, 24, 18, 19, 20, 25, 26, 47, 8, 48], 5)]
def cuts_ass_r4b : Cuts := [(100002, [1, 5, 0], 3), (3, [1, 18, 19, 20, 5], 30), (100006, [7, 1, 18, 19, 20, 8, 5], 3), (7, [7, 1, 24, 18, 19, 20, 25, 26, 8], 4), (100008, [7, 1, 24, 18, 19, 20, 25, 26, 8], 4), (100009, [10, 7, 1, 24, 18, 19, 20, 25, 26, 8], 5), (100010, [10, 7, 1, 24, 18, 19, 20, 25, 26, 8], 5), (11, [10, 46, 7, 1, 24, 18, 19, 20, 25, 26, 47, 48, 8], 5), (15, [11, 56, 10, 46, 7, 1, 24, 18, 19, 20, 25, 26, 47, 48, 12, 8, 57, 58, 13], 5), (100020, [10, 46, 7, 1, 24, 18, 19, 20, 25, 26, 47, 48, 11, 12, 8], 5), (100021, [10, 46, 7, 1, 24, 18, 19, 20, 25, 26, 47, 8, 48], 5)]
def cuts_ass_r6 : Cuts := [(100002, [1, 5, 0], 3), (3, [1, 18, 19, 20, 5], 30), (100004, [1, 18, 19, 20, 5], 2), (7, [7, 1, 24, 18, 19, 20, 25, 26, 8], 4), (100008, [7, 1, 24, 18, 19, 20, 25, 26, 8], 4), (100009, [10, 7, 1, 24, 18, 19, 20, 25, 26, 8], 5), (100010, [10, 7, 1, 24, 18, 19, 20, 25, 26, 8], 5), (11, [10, 46, 7, 1, 24, 18, 19, 20, 25, 26, 47, 48, 8], 5), (15, [11, 56, 10, 46, 7, 1, 24, 18, 19, 20, 25, 26, 47, 48, 12, 8, 57, 58, 13], 5), (100020, [10, 46, 7, 1, 24, 18, 19, 20, 25, 26, 47, 48, 11, 12, 8], 5), (100021, [10, 46, 7, 1, 24, 18, 19, 20, 25, 26, 47, 8, 48], 5)]
def cuts_ass_r6b : Cuts := [(100002, [1, 5, 0], 3), (3, [1, 18, 19, 20, 5], 30), (100004, [1, 18, 19, 20, 5], 2), (7, [7, 1, 24, 18, 19, 20, 25, 26, 8], 4), (100008, [7, 1, 24, 18, 19, 20, 25, 26, 8], 4), (100009, [10, 7, 1, 24, 18, 19, 20, 25, 26, 8], 5), (100010, [10, 7, 1, 24, 18, 19, 20, 25, 26, 8], 5), (11, [10, 46, 7, 1, 24, 18, 19, 20, 25, 26, 47, 48, 8], 5), (15, [11, 56, 10, 46, 7, 1, 24, 18, 19, 20, 25, 26, 47, 48, 12, 8, 57, 58, 13], 5), (100020, [10, 46, 7, 1, 24, 18, 19, 20, 25, 26, 47, 48, 11, 12, 8], 5), (100021, [10, 46, 7, 1, 24, 18, 19, 20, 25, 26, 47, 8, 48], 5)]
def cuts_ass_r8 : Cuts := [(100002, [1, 5, 0], 3), (3, [1, 18, 19, 20, 5], 30), (100004, [1, 18, 19, 20, 5], 2), (100006, [7, 1, 18, 19, 20, 8, 5], 3), (7, [7, 1, 24, 18, 19, 20, 25, 26, 8], 4), (100009, [10, 7, 1, 24, 18, 19, 20, 25, 26, 8], 5), (100010, [10, 7, 1, 24, 18, 19, 20, 25, 26, 8], 5), (11, [10, 46, 7, 1, 24, 18, 19, 20, 25, 26, 47, 48, 8], 5), (15, [11, 56, 10, 46, 7, 1, 24, 18, 19, 20, 25, 26, 47, 48, 12, 8, 57, 58, 13], 5), (100020, [10, 46, 7, 1, 24, 18, 19, 20, 25, 26, 47, 48, 11, 12, 8], 5), (100021, [10, 46, 7, 1, 24, 18, 19, 20, 25, 26, 47, 8, 48], 5)]
def cuts_ass_r8b : Cuts := [(100002, [1, 5, 0], 3), (3, [1, 18, 19, 20, 5], 30), (100004, [1, 18, 19, 20, 5], 2), (100006, [7, 1, 18, 19, 20, 8, 5], 3), (7, [7, 1, 24, 18, 19, 20, 25, 26, 8], 4), (100009, [10, 7, 1, 24, 18, 19, 20, 25, 26, 8], 5), (100010, [10, 7, 1, 24, 18, 19, 20, 25, 26, 8], 5), (11, [10, 46, 7, 1, 24, 18, 19, 20, 25, 26, 47, 48, 8], 5), (15, [11, 56, 10, 46, 7, 1, 24, 18, 19, 20, 25, 26, 47, 48, 12, 8, 57, 58, 13], 5), (100020, [10, 46, 7, 1, 24, 18, 19, 20, 25, 26, 47, 48, 11, 12, 8], 5), (100021, [10, 46, 7, 1, 24, 18, 19, 20, 25, 26, 47, 8, 48], 5)]
def cuts_ass_r9 : Cuts := [(100002, [1, 5, 0], 3), (3, [1, 18, 19, 20, 5], 30), (100004, [1, 18, 19, 20, 5], 2), (100006, [7, 1, 18, 19, 20, 8, 5], 3), (7, [7, 1, 24, 18, 19, 20, 25, 26, 8], 4), (100008, [7, 1, 24, 18, 19, 20, 25, 26, 8], 4), (100010, [10, 7, 1, 24, 18, 19, 20, 25, 26, 8], 5), (11, [10, 46, 7, 1, 24, 18, 19, 20, 25, 26, 47, 48, 8], 5), (15, [11, 56, 10, 46, 7, 1, 24, 18, 19, 20, 25, 26, 47, 48, 12, 8, 57, 58, 13], 5), (100020, [10, 46, 7, 1, 24, 18, 19, 20, 25, 26, 47, 48, 11, 12, 8], 5), (100021, [10, 46, 7, 1, 24, 18, 19, 20, 25, 26, 47, 8, 48], 5)]
def cuts_ass_r9b : Cuts := [(100002, [1, 5, 0], 3), (3, [1, 18, 19, 20, 5], 30), (100004, [1, 18, 19, 20, 5], 2), (100006, [7, 1, 18, 19, 20, 8, 5], 3), (7, [7, 1, 24, 18, 19, 20, 25, 26, 8], 4), (100008, [7, 1, 24, 18, 19, 20, 25, 26, 8], 4), (100010, [10, 7, 1, 24, 18, 19, 20, 25, 26, 8], 5), (11, [10, 46, 7, 1, 24, 18, 19, 20, 25, 26, 47, 48, 8], 5), (15, [11, 56, 10, 46, 7, 1, 24, 18, 19, 20, 25, 26, 47, 48, 12, 8, 57, 58, 13], 5), (100020, [10, 46, 7, 1, 24, 18, 19, 20, 25, 26, 47, 48, 11, 12, 8], 5), (100021, [10, 46, 7, 1, 24, 18, 19, 20, 25, 26, 47, 8, 48], 5)]
def cuts_ass_r10 : Cuts := [(100002, [1, 5, 0], 3), (3, [1, 18, 19, 20, 5], 30), (100004, [1, 18, 19, 20, 5], 2), (100006, [7, 1, 18, 19, 20, 8, 5], 3), (7, [7, 1, 24, 18, 19, 20, 25, 26, 8], 4), (100008, [7, 1, 24, 18, 19, 20, 25, 26, 8], 4), (100009, [10, 7, 1, 24, 18, 19, 20, 25, 26, 8], 5), (11, [10, 46, 7, 1, 24, 18, 19, 20, 25, 26, 47, 48, 8], 5), (15, [11, 56, 10, 46, 7, 1, 24, 18, 19, 20, 25, 26, 47, 48, 12, 8, 57, 58, 13], 5), (100020, [10, 46, 7, 1, 24, 18, 19, 20, 25, 26, 47, 48, 11, 12, 8], 5), (100021, [10, 46, 7, 1, 24, 18, 19, 20, 25, 26, 47, 8, 48], 5)]
def cuts_ass_r20 : Cuts := [(100002, [1, 5, 0], 3), (3, [1, 18, 19, 20, 5], 30), (100004, [1, 18, 19, 20, 5], 2), (100006, [7, 1, 18, 19, 20, 8, 5], 3), (7, [7, 1, 24, 18, 19, 20, 25, 26, 8], 4), (100008, [7, 1, 24, 18, 19, 20, 25, 26, 8], 4), (100009, [10, 7, 1, 24, 18, 19, 20, 25, 26, 8], 5), (100010, [10, 7, 1, 24, 18, 19, 20, 25, 26, 8], 5), (11, [10, 46, 7, 1, 24, 18, 19, 20, 25, 26, 47, 48, 8], 5), (15, [11, 56, 10, 46, 7, 1, 24, 18, 19, 20, 25, 26, 47, 48, 12, 8, 57, 58, 13], 5), (100021, [10, 46, 7, 1, 24, 18, 19, 20, 25, 26, 47, 8, 48], 5)]
def cuts_ass_r21 : Cuts := [(100002, [1, 5, 0], 3), (3, [1, 18, 19, 20, 5], 30), (100004, [1, 18, 19, 20, 5], 2), (100006, [7, 1, 18, 19, 20, 8, 5], 3), (7, [7, 1, 24, 18, 19, 20, 25, 26, 8], 4), (100008, [7, 1, 24, 18, 19, 20, 25, 26, 8], 4), (100009, [10, 7, 1, 24, 18, 19, 20, 25, 26, 8], 5), (100010, [10, 7, 1, 24, 18, 19, 20, 25, 26, 8], 5), (11, [10, 46, 7, 1, 24, 18, 19, 20, 25, 26, 47, 48, 8], 5), (15, [11, 56, 10, 46, 7, 1, 24, 18, 19, 20, 25, 26, 47, 48, 12, 8, 57, 58, 13], 5), (100020, [10, 46, 7, 1, 24, 18, 19, 20, 25, 26, 47, 48, 11, 12, 8], 5)]

theorem ass_t0 (L : List (List Int)) (L_t : Bool) (ms : Int) : symF C_best cuts_ass Try.f8.results.toList 1 400 [.code (codeOf Try.f8)] ⟨argsS Try.f8 [.c (.slc 0 0 (List.length L) L_t), .c (.int .i64 ms)], ([.nin 0 L none] : Heap cod)⟩ =
.ret (.cut (regAt Try.f8 2) ⟨tmG 87 [(0, .c (.slc 0 0 (List.length L) L_t)), (0, .c (.int .i64 ms)), (3, .c (.slc 2 0 1 true))], [.nin 0 (L) none, .arr 0 ([0] : List Int) 3, .blk [.slc 1 0 1 true] 23]⟩) := by kernel_rfl


noncomputable def st_ass_r2 (L : List (List Int)) (L_t : Bool) (ms : Int)  : St cod := ⟨tmG 87 [(0, .c (.slc 0 0 (List.length L) L_t)), (0, .c (.int .i64 ms)), (3, .c (.slc 2 0 1 true))], ([.nin 0 L none, .arr 0 ([0] : List Int) 3, .blk [.slc 1 0 1 true] 23] : Heap cod)⟩


noncomputable def st_ass_r2b (L : List (List Int)) (L_t : Bool) (ms : Int) (O : List (List Int)) (no : Nat) : St cod := ⟨tmG 87 [(0, .c (.slc 0 0 (List.length L) L_t)), (0, .c (.int .i64 ms)), (3, .c (.own 1 no))], ([.nin 0 L none, .nown 0 O [] [] 23 3] : Heap cod)⟩


theorem ass_tr2b (L : List (List Int)) (L_t : Bool) (ms : Int) (O : List (List Int)) (no : Nat) : symF C_best cuts_ass_r2b Try.f8.results.toList 1 400 (regAt Try.f8 2) (st_ass_r2b L L_t ms O no) =
.ret (.cut (cutAt Try.f8 3) ⟨tmG 72 [(1, .c (.int .i64 ms)), (3, .c (.own 1 (no))), (12, .c (.slc 0 0 (List.length L) L_t)), (0, .c (.int .i64 (Int.ofNat (List.length L)))), (0, .c (.int .i64 0))], [.nin 0 (L) none, .nown 0 (O) [] [] 23 3]⟩) := by kernel_rfl


noncomputable def st_ass_3 (L : List (List Int)) (L_t : Bool) (ms : Int) (i : Nat) (O : List (List Int)) (no : Nat) : St cod := ⟨tmG 72 [(1, .c (.int .i64 ms)), (3, .c (.own 1 no)), (12, .c (.slc 0 0 (List.length L) L_t)), (0, .c (.int .i64 (List.length L : Int))), (0, .c (.int .i64 (i : Int)))], ([.nin 0 L none, .nown 0 O [] [] 23 3] : Heap cod)⟩


theorem ass_t3 (L : List (List Int)) (L_t : Bool) (ms : Int) (i : Nat) (O : List (List Int)) (no : Nat) : symF C_best cuts_ass Try.f8.results.toList 1 400 (cutAt Try.f8 3) (st_ass_3 L L_t ms i O no) =
 cond (decide (Int.ofNat i < Int.ofNat (List.length L))) (
 .ret (.cut (regAt Try.f8 4) ⟨tmG 72 [(1, .c (.int .i64 ms)), (3, .c (.own 1 (no))), (12, .c (.slc 0 0 (List.length L) L_t)), (0, .c (.int .i64 (Int.ofNat (List.length L)))), (0, .c (.int .i64 (Int.ofNat i)))], [.nin 0 (L) none, .nown 0 (O) [] [] 23 3]⟩)) (
 .ret (.fin (.c (.own 1 (no))) [.nown 0 (O) [] [] 23 3])) := by kernel_rfl


noncomputable def st_ass_r4 (L : List (List Int)) (L_t : Bool) (ms : Int) (i : Nat) (O : List (List Int)) (no : Nat) : St cod := ⟨tmG 72 [(1, .c (.int .i64 ms)), (3, .c (.own 1 (no))), (12, .c (.slc 0 0 (List.length L) L_t)), (0, .c (.int .i64 (Int.ofNat (List.length L)))), (0, .c (.int .i64 (Int.ofNat i)))], [.nin 0 (L) none, .nown 0 (O) [] [] 23 3]⟩


noncomputable def st_ass_r4b (L : List (List Int)) (L_t : Bool) (ms : Int) (i : Nat) (O : List (List Int)) (no : Nat) (p : Nat) (q : List Int) : St cod := ⟨tmG 72 [(1, .c (.int .i64 ms)), (3, .c (.own 1 (no))), (12, .c (.slc 0 0 (List.length L) L_t)), (0, .c (.int .i64 (Int.ofNat (List.length L)))), (0, .c (.int .i64 (Int.ofNat i)))], ([.nin 0 L (some (p, .slc 2 0 (List.length q) false)), .nown 0 O [] [] 23 3, .inp 0 q] : Heap cod)⟩


theorem ass_tr4b (L : List (List Int)) (L_t : Bool) (ms : Int) (i : Nat) (O : List (List Int)) (no : Nat) (p : Nat) (q : List Int) : symF C_best cuts_ass_r4b Try.f8.results.toList 1 400 (regAt Try.f8 4) (st_ass_r4b L L_t ms i O no p q) =
.need (((0 : Int) ≤ Int.ofNat i ∧ Int.ofNat i < Int.ofNat (List.length L))) (
.need ((0 + Int.toNat (Int.ofNat i) = p ∧ p < List.length L)) (
.ret (.cut (regAt Try.f8 6) ⟨tmG 72 [(1, .c (.int .i64 ms)), (3, .c (.own 1 (no))), (1, .c (.slc 2 0 (List.length q) false)), (0, .c (.nil)), (9, .c (.slc 0 0 (List.length L) L_t)), (0, .c (.int .i64 (Int.ofNat (List.length L)))), (0, .c (.int .i64 (Int.ofNat i)))], [.nin 0 (L) (some ((p), .slc 2 0 (List.length q) false)), .nown 0 (O) [] [] 23 3, .inp 0 q]⟩))) := by kernel_rfl


noncomputable def st_ass_r6 (L : List (List Int)) (L_t : Bool) (ms : Int) (i : Nat) (O : List (List Int)) (no : Nat) (p : Nat) (q : List Int) : St cod := ⟨tmG 72 [(1, .c (.int .i64 ms)), (3, .c (.own 1 (no))), (1, .c (.slc 2 0 (List.length q) false)), (0, .c (.nil)), (9, .c (.slc 0 0 (List.length L) L_t)), (0, .c (.int .i64 (Int.ofNat (List.length L)))), (0, .c (.int .i64 (Int.ofNat i)))], [.nin 0 (L) (some ((p), .slc 2 0 (List.length q) false)), .nown 0 (O) [] [] 23 3, .inp 0 q]⟩


noncomputable def st_ass_r6b (L : List (List Int)) (L_t : Bool) (ms : Int) (i : Nat) (O : List (List Int)) (q : List Int) : St cod := ⟨tmG 72 [(1, .c (.int .i64 ms)), (3, .c (.slc 1 0 (List.length O) false)), (1, .c (.slc 2 0 (List.length q) false)), (0, .c (.own 3 0)), (9, .c (.slc 0 0 (List.length L) L_t)), (0, .c (.int .i64 (List.length L : Int))), (0, .c (.int .i64 (i : Int)))], ([.nin 0 L none, .nin 0 O none, .inp 0 q, .nown 0 [] [] [] 23 3] : Heap cod)⟩


theorem ass_tr6b (L : List (List Int)) (L_t : Bool) (ms : Int) (i : Nat) (O : List (List Int)) (q : List Int) : symF C_best cuts_ass_r6b Try.f8.results.toList 1 400 (regAt Try.f8 6) (st_ass_r6b L L_t ms i O q) =
.ret (.cut (cutAt Try.f8 7) ⟨tmG 66 [(1, .c (.int .i64 ms)), (5, .c (.slc 2 0 (List.length q) false)), (0, .c (.own 3 0)), (9, .c (.slc 0 0 (List.length L) L_t)), (0, .c (.int .i64 (Int.ofNat (List.length L)))), (0, .c (.int .i64 (Int.ofNat i))), (3, .c (.slc 1 0 (List.length O) false)), (0, .c (.int .i64 (Int.ofNat (List.length O)))), (0, .c (.int .i64 0))], [.nin 0 (L) none, .nin 0 (O) none, .inp 0 q, .nown 0 ([]) [] [] 23 3]⟩) := by kernel_rfl


noncomputable def st_ass_7 (L : List (List Int)) (L_t : Bool) (ms : Int) (i : Nat) (O : List (List Int)) (q : List Int) (N : List (List Int)) (nn : Nat) (j : Nat) : St cod := ⟨tmG 66 [(1, .c (.int .i64 ms)), (5, .c (.slc 2 0 (List.length q) false)), (0, .c (.own 3 nn)), (9, .c (.slc 0 0 (List.length L) L_t)), (0, .c (.int .i64 (List.length L : Int))), (0, .c (.int .i64 (i : Int))), (3, .c (.slc 1 0 (List.length O) false)), (0, .c (.int .i64 (List.length O : Int))), (0, .c (.int .i64 (j : Int)))], ([.nin 0 L none, .nin 0 O none, .inp 0 q, .nown 0 N [] [] 23 3] : Heap cod)⟩


theorem ass_t7 (L : List (List Int)) (L_t : Bool) (ms : Int) (i : Nat) (O : List (List Int)) (q : List Int) (N : List (List Int)) (nn : Nat) (j : Nat) : symF C_best cuts_ass Try.f8.results.toList 1 400 (cutAt Try.f8 7) (st_ass_7 L L_t ms i O q N nn j) =
 cond (decide (Int.ofNat j < Int.ofNat (List.length O))) (
 .ret (.cut (regAt Try.f8 8) ⟨tmG 66 [(1, .c (.int .i64 ms)), (5, .c (.slc 2 0 (List.length q) false)), (0, .c (.own 3 (nn))), (9, .c (.slc 0 0 (List.length L) L_t)), (0, .c (.int .i64 (Int.ofNat (List.length L)))), (0, .c (.int .i64 (Int.ofNat i))), (3, .c (.slc 1 0 (List.length O) false)), (0, .c (.int .i64 (Int.ofNat (List.length O)))), (0, .c (.int .i64 (Int.ofNat j)))], [.nin 0 (L) none, .nin 0 (O) none, .inp 0 q, .nown 0 (N) [] [] 23 3]⟩)) (
 .need (i64ok (Int.ofNat i + 1)) (
 .ret (.cut (cutAt Try.f8 3) ⟨tmG 72 [(1, .c (.int .i64 ms)), (3, .c (.own 3 (nn))), (12, .c (.slc 0 0 (List.length L) L_t)), (0, .c (.int .i64 (Int.ofNat (List.length L)))), (0, .c (.int .i64 (Int.ofNat i + 1)))], [.nin 0 (L) none, .nin 0 (O) none, .inp 0 q, .nown 0 (N) [] [] 23 3]⟩))) := by kernel_rfl


noncomputable def st_ass_r8 (L : List (List Int)) (L_t : Bool) (ms : Int) (i : Nat) (O : List (List Int)) (q : List Int) (N : List (List Int)) (nn : Nat) (j : Nat) : St cod := ⟨tmG 66 [(1, .c (.int .i64 ms)), (5, .c (.slc 2 0 (List.length q) false)), (0, .c (.own 3 (nn))), (9, .c (.slc 0 0 (List.length L) L_t)), (0, .c (.int .i64 (Int.ofNat (List.length L)))), (0, .c (.int .i64 (Int.ofNat i))), (3, .c (.slc 1 0 (List.length O) false)), (0, .c (.int .i64 (Int.ofNat (List.length O)))), (0, .c (.int .i64 (Int.ofNat j)))], [.nin 0 (L) none, .nin 0 (O) none, .inp 0 q, .nown 0 (N) [] [] 23 3]⟩


noncomputable def st_ass_r8b (L : List (List Int)) (L_t : Bool) (ms : Int) (i : Nat) (O : List (List Int)) (q : List Int) (N : List (List Int)) (nn : Nat) (j : Nat) (p : Nat) (a : List Int) : St cod := ⟨tmG 66 [(1, .c (.int .i64 ms)), (5, .c (.slc 2 0 (List.length q) false)), (0, .c (.own 3 (nn))), (9, .c (.slc 0 0 (List.length L) L_t)), (0, .c (.int .i64 (Int.ofNat (List.length L)))), (0, .c (.int .i64 (Int.ofNat i))), (3, .c (.slc 1 0 (List.length O) false)), (0, .c (.int .i64 (Int.ofNat (List.length O)))), (0, .c (.int .i64 (Int.ofNat j)))], ([.nin 0 L none, .nin 0 O (some (p, .slc 4 0 (List.length a) false)), .inp 0 q, .nown 0 N [] [] 23 3, .inp 0 a] : Heap cod)⟩


theorem ass_tr8b (L : List (List Int)) (L_t : Bool) (ms : Int) (i : Nat) (O : List (List Int)) (q : List Int) (N : List (List Int)) (nn : Nat) (j : Nat) (p : Nat) (a : List Int) : symF C_best cuts_ass_r8b Try.f8.results.toList 1 400 (regAt Try.f8 8) (st_ass_r8b L L_t ms i O q N nn j p a) =
.need (((0 : Int) ≤ Int.ofNat j ∧ Int.ofNat j < Int.ofNat (List.length O))) (
.need ((0 + Int.toNat (Int.ofNat j) = p ∧ p < List.length O)) (
.ret (.cut (regAt Try.f8 9) ⟨tmG 66 [(1, .c (.int .i64 ms)), (5, .c (.slc 2 0 (List.length q) false)), (0, .c (.own 3 (nn))), (1, .c (.slc 4 0 (List.length a) false)), (7, .c (.slc 0 0 (List.length L) L_t)), (0, .c (.int .i64 (Int.ofNat (List.length L)))), (0, .c (.int .i64 (Int.ofNat i))), (3, .c (.slc 1 0 (List.length O) false)), (0, .c (.int .i64 (Int.ofNat (List.length O)))), (0, .c (.int .i64 (Int.ofNat j)))], [.nin 0 (L) none, .nin 0 (O) (some ((p), .slc 4 0 (List.length a) false)), .inp 0 q, .nown 0 (N) [] [] 23 3, .inp 0 a]⟩))) := by kernel_rfl


noncomputable def st_ass_r9 (L : List (List Int)) (L_t : Bool) (ms : Int) (i : Nat) (O : List (List Int)) (q : List Int) (N : List (List Int)) (nn : Nat) (j : Nat) (p : Nat) (a : List Int) : St cod := ⟨tmG 66 [(1, .c (.int .i64 ms)), (5, .c (.slc 2 0 (List.length q) false)), (0, .c (.own 3 (nn))), (1, .c (.slc 4 0 (List.length a) false)), (7, .c (.slc 0 0 (List.length L) L_t)), (0, .c (.int .i64 (Int.ofNat (List.length L)))), (0, .c (.int .i64 (Int.ofNat i))), (3, .c (.slc 1 0 (List.length O) false)), (0, .c (.int .i64 (Int.ofNat (List.length O)))), (0, .c (.int .i64 (Int.ofNat j)))], [.nin 0 (L) none, .nin 0 (O) (some ((p), .slc 4 0 (List.length a) false)), .inp 0 q, .nown 0 (N) [] [] 23 3, .inp 0 a]⟩


noncomputable def st_ass_r9b (L : List (List Int)) (L_t : Bool) (ms : Int) (i : Nat) (O : List (List Int)) (q : List Int) (N : List (List Int)) (nn : Nat) (j : Nat) (a : List Int) : St cod := ⟨tmG 66 [(1, .c (.int .i64 ms)), (5, .c (.slc 2 0 (List.length q) false)), (0, .c (.own 3 nn)), (1, .c (.slc 4 0 (List.length a) false)), (7, .c (.slc 0 0 (List.length L) L_t)), (0, .c (.int .i64 (List.length L : Int))), (0, .c (.int .i64 (i : Int))), (3, .c (.slc 1 0 (List.length O) false)), (0, .c (.int .i64 (List.length O : Int))), (0, .c (.int .i64 (j : Int)))], ([.nin 0 L none, .nin 0 O none, .inp 0 q, .nown 0 N [] [] 23 3, .inp 0 a] : Heap cod)⟩


noncomputable def st_ass_r10 (L : List (List Int)) (L_t : Bool) (ms : Int) (i : Nat) (O : List (List Int)) (q : List Int) (N : List (List Int)) (nn : Nat) (j : Nat) (a : List Int) : St cod := ⟨tmG 66 [(1, .c (.int .i64 ms)), (5, .c (.slc 2 0 (List.length q) false)), (0, .c (.own 3 (nn))), (1, .c (.slc 4 0 (List.length a) false)), (7, .c (.slc 0 0 (List.length L) L_t)), (0, .c (.int .i64 (Int.ofNat (List.length L)))), (0, .c (.int .i64 (Int.ofNat i))), (3, .c (.slc 1 0 (List.length O) false)), (0, .c (.int .i64 (Int.ofNat (List.length O)))), (0, .c (.int .i64 (Int.ofNat j)))], [.nin 0 (L) none, .nin 0 (O) none, .inp 0 q, .nown 0 (N) [] [] 23 3, .inp 0 a]⟩


noncomputable def st_ass_11 (L : List (List Int)) (L_t : Bool) (ms : Int) (i : Nat) (O : List (List Int)) (q : List Int) (N : List (List Int)) (nn : Nat) (j : Nat) (a : List Int) (k : Nat) : St cod := ⟨tmG 44 [(1, .c (.int .i64 ms)), (5, .c (.slc 2 0 (List.length q) false)), (0, .c (.own 3 nn)), (1, .c (.slc 4 0 (List.length a) false)), (7, .c (.slc 0 0 (List.length L) L_t)), (0, .c (.int .i64 (List.length L : Int))), (0, .c (.int .i64 (i : Int))), (3, .c (.slc 1 0 (List.length O) false)), (0, .c (.int .i64 (List.length O : Int))), (0, .c (.int .i64 (j : Int))), (19, .c (.slc 2 0 (List.length q) false)), (0, .c (.int .i64 (List.length q : Int))), (0, .c (.int .i64 (k : Int)))], ([.nin 0 L none, .nin 0 O none, .inp 0 q, .nown 0 N [] [] 23 3, .inp 0 a] : Heap cod)⟩


theorem ass_t11 (L : List (List Int)) (L_t : Bool) (ms : Int) (i : Nat) (O : List (List Int)) (q : List Int) (N : List (List Int)) (nn : Nat) (j : Nat) (a : List Int) (k : Nat) : symF C_best cuts_ass Try.f8.results.toList 1 400 (cutAt Try.f8 11) (st_ass_11 L L_t ms i O q N nn j a k) =
 cond (decide (Int.ofNat k < Int.ofNat (List.length q))) (
 .need (((0 : Int) ≤ Int.ofNat k ∧ Int.ofNat k < Int.ofNat (List.length q))) (
 .need (0 + Int.toNat (Int.ofNat k) < List.length q) (
 .need (((0 : Int) ≤ 1 ∧ (1 : Int) ≤ Int.ofNat (List.length a))) (
 .ret (.cut (cutAt Try.f8 15) ⟨tmG 34 [(1, .c (.int .i64 ms)), (5, .c (.slc 2 0 (List.length q) false)), (0, .c (.own 3 (nn))), (1, .c (.slc 4 0 (List.length a) false)), (0, .c (.int .i64 (Int.ofNat k))), (0, .c (.int .i64 (List.getD q (0 + Int.toNat (Int.ofNat k)) (cod 0).d))), (0, .c (.bool (decide (List.getD q (0 + Int.toNat (Int.ofNat k)) (cod 0).d < 0)))), (4, .c (.slc 0 0 (List.length L) L_t)), (0, .c (.int .i64 (Int.ofNat (List.length L)))), (0, .c (.int .i64 (Int.ofNat i))), (3, .c (.slc 1 0 (List.length O) false)), (0, .c (.int .i64 (Int.ofNat (List.length O)))), (0, .c (.int .i64 (Int.ofNat j))), (19, .c (.slc 2 0 (List.length q) false)), (0, .c (.int .i64 (Int.ofNat (List.length q)))), (0, .c (.int .i64 (Int.ofNat k))), (7, .c (.slc 4 1 (List.length a - Int.toNat 1) false)), (0, .c (.int .i64 (Int.ofNat (List.length a - Int.toNat 1)))), (0, .c (.int .i64 0))], [.nin 0 (L) none, .nin 0 (O) none, .inp 0 q, .nown 0 (N) [] [] 23 3, .inp 0 a]⟩))))) (
 .need (i64ok (Int.ofNat j + 1)) (
 .ret (.cut (cutAt Try.f8 7) ⟨tmG 66 [(1, .c (.int .i64 ms)), (5, .c (.slc 2 0 (List.length q) false)), (0, .c (.own 3 (nn))), (9, .c (.slc 0 0 (List.length L) L_t)), (0, .c (.int .i64 (Int.ofNat (List.length L)))), (0, .c (.int .i64 (Int.ofNat i))), (3, .c (.slc 1 0 (List.length O) false)), (0, .c (.int .i64 (Int.ofNat (List.length O)))), (0, .c (.int .i64 (Int.ofNat j + 1)))], [.nin 0 (L) none, .nin 0 (O) none, .inp 0 q, .nown 0 (N) [] [] 23 3]⟩))) := by kernel_rfl


noncomputable def st_ass_15 (L : List (List Int)) (L_t : Bool) (ms : Int) (i : Nat) (O : List (List Int)) (q : List Int) (N : List (List Int)) (nn : Nat) (j : Nat) (a : List Int) (k : Nat) (c : Int) (x : Nat) (u : Bool) : St cod := ⟨tmG 34 [(1, .c (.int .i64 ms)), (5, .c (.slc 2 0 (List.length q) false)), (0, .c (.own 3 nn)), (1, .c (.slc 4 0 (List.length a) false)), (0, .c (.int .i64 (k : Int))), (0, .c (.int .i64 c)), (0, .c (.bool u)), (4, .c (.slc 0 0 (List.length L) L_t)), (0, .c (.int .i64 (List.length L : Int))), (0, .c (.int .i64 (i : Int))), (3, .c (.slc 1 0 (List.length O) false)), (0, .c (.int .i64 (List.length O : Int))), (0, .c (.int .i64 (j : Int))), (19, .c (.slc 2 0 (List.length q) false)), (0, .c (.int .i64 (List.length q : Int))), (0, .c (.int .i64 (k : Int))), (7, .c (.slc 4 1 (List.length a - 1) false)), (0, .c (.int .i64 ((List.length a - 1 : Nat) : Int))), (0, .c (.int .i64 (x : Int)))], ([.nin 0 L none, .nin 0 O none, .inp 0 q, .nown 0 N [] [] 23 3, .inp 0 a] : Heap cod)⟩


theorem ass_t15 (L : List (List Int)) (L_t : Bool) (ms : Int) (i : Nat) (O : List (List Int)) (q : List Int) (N : List (List Int)) (nn : Nat) (j : Nat) (a : List Int) (k : Nat) (c : Int) (x : Nat) (u : Bool) : symF C_best cuts_ass Try.f8.results.toList 1 400 (cutAt Try.f8 15) (st_ass_15 L L_t ms i O q N nn j a k c x u) =
 cond (decide (Int.ofNat x < Int.ofNat (List.length a - 1))) (
 .need (((0 : Int) ≤ Int.ofNat x ∧ Int.ofNat x < Int.ofNat (List.length a - 1))) (
 .need (1 + Int.toNat (Int.ofNat x) < List.length a) (
 cond (u) (
  .need (i64ok (Int.ofNat x + 1)) (
  .ret (.cut (cutAt Try.f8 15) ⟨tmG 34 [(1, .c (.int .i64 ms)), (5, .c (.slc 2 0 (List.length q) false)), (0, .c (.own 3 (nn))), (1, .c (.slc 4 0 (List.length a) false)), (0, .c (.int .i64 (Int.ofNat k))), (0, .c (.int .i64 c)), (0, .c (.bool true)), (4, .c (.slc 0 0 (List.length L) L_t)), (0, .c (.int .i64 (Int.ofNat (List.length L)))), (0, .c (.int .i64 (Int.ofNat i))), (3, .c (.slc 1 0 (List.length O) false)), (0, .c (.int .i64 (Int.ofNat (List.length O)))), (0, .c (.int .i64 (Int.ofNat j))), (19, .c (.slc 2 0 (List.length q) false)), (0, .c (.int .i64 (Int.ofNat (List.length q)))), (0, .c (.int .i64 (Int.ofNat k))), (7, .c (.slc 4 1 (List.length a - 1) false)), (0, .c (.int .i64 (Int.ofNat (List.length a - 1)))), (0, .c (.int .i64 (Int.ofNat x + 1)))], [.nin 0 (L) none, .nin 0 (O) none, .inp 0 q, .nown 0 (N) [] [] 23 3, .inp 0 a]⟩))) (
  .need (i64ok (Int.ofNat x + 1)) (
  .ret (.cut (cutAt Try.f8 15) ⟨tmG 34 [(1, .c (.int .i64 ms)), (5, .c (.slc 2 0 (List.length q) false)), (0, .c (.own 3 (nn))), (1, .c (.slc 4 0 (List.length a) false)), (0, .c (.int .i64 (Int.ofNat k))), (0, .c (.int .i64 c)), (0, .c (.bool (decide (List.getD a (1 + Int.toNat (Int.ofNat x)) (cod 0).d = Int.ofNat k)))), (4, .c (.slc 0 0 (List.length L) L_t)), (0, .c (.int .i64 (Int.ofNat (List.length L)))), (0, .c (.int .i64 (Int.ofNat i))), (3, .c (.slc 1 0 (List.length O) false)), (0, .c (.int .i64 (Int.ofNat (List.length O)))), (0, .c (.int .i64 (Int.ofNat j))), (19, .c (.slc 2 0 (List.length q) false)), (0, .c (.int .i64 (Int.ofNat (List.length q)))), (0, .c (.int .i64 (Int.ofNat k))), (7, .c (.slc 4 1 (List.length a - 1) false)), (0, .c (.int .i64 (Int.ofNat (List.length a - 1)))), (0, .c (.int .i64 (Int.ofNat x + 1)))], [.nin 0 (L) none, .nin 0 (O) none, .inp 0 q, .nown 0 (N) [] [] 23 3, .inp 0 a]⟩)))))) (
 cond (!u) (
  .ret (.cut (regAt Try.f8 20) ⟨tmG 44 [(1, .c (.int .i64 ms)), (5, .c (.slc 2 0 (List.length q) false)), (0, .c (.own 3 (nn))), (1, .c (.slc 4 0 (List.length a) false)), (0, .c (.int .i64 (Int.ofNat k))), (0, .c (.int .i64 c)), (5, .c (.slc 0 0 (List.length L) L_t)), (0, .c (.int .i64 (Int.ofNat (List.length L)))), (0, .c (.int .i64 (Int.ofNat i))), (3, .c (.slc 1 0 (List.length O) false)), (0, .c (.int .i64 (Int.ofNat (List.length O)))), (0, .c (.int .i64 (Int.ofNat j))), (19, .c (.slc 2 0 (List.length q) false)), (0, .c (.int .i64 (Int.ofNat (List.length q)))), (0, .c (.int .i64 (Int.ofNat k)))], [.nin 0 (L) none, .nin 0 (O) none, .inp 0 q, .nown 0 (N) [] [] 23 3, .inp 0 a]⟩)) (
  .ret (.cut (regAt Try.f8 21) ⟨tmG 44 [(1, .c (.int .i64 ms)), (5, .c (.slc 2 0 (List.length q) false)), (0, .c (.own 3 (nn))), (1, .c (.slc 4 0 (List.length a) false)), (7, .c (.slc 0 0 (List.length L) L_t)), (0, .c (.int .i64 (Int.ofNat (List.length L)))), (0, .c (.int .i64 (Int.ofNat i))), (3, .c (.slc 1 0 (List.length O) false)), (0, .c (.int .i64 (Int.ofNat (List.length O)))), (0, .c (.int .i64 (Int.ofNat j))), (19, .c (.slc 2 0 (List.length q) false)), (0, .c (.int .i64 (Int.ofNat (List.length q)))), (0, .c (.int .i64 (Int.ofNat k)))], [.nin 0 (L) none, .nin 0 (O) none, .inp 0 q, .nown 0 (N) [] [] 23 3, .inp 0 a]⟩))) := by kernel_rfl


noncomputable def st_ass_r20 (L : List (List Int)) (L_t : Bool) (ms : Int) (i : Nat) (O : List (List Int)) (q : List Int) (N : List (List Int)) (nn : Nat) (j : Nat) (a : List Int) (k : Nat) (c : Int) : St cod := ⟨tmG 44 [(1, .c (.int .i64 ms)), (5, .c (.slc 2 0 (List.length q) false)), (0, .c (.own 3 nn)), (1, .c (.slc 4 0 (List.length a) false)), (0, .c (.int .i64 (k : Int))), (0, .c (.int .i64 c)), (5, .c (.slc 0 0 (List.length L) L_t)), (0, .c (.int .i64 (List.length L : Int))), (0, .c (.int .i64 (i : Int))), (3, .c (.slc 1 0 (List.length O) false)), (0, .c (.int .i64 (List.length O : Int))), (0, .c (.int .i64 (j : Int))), (19, .c (.slc 2 0 (List.length q) false)), (0, .c (.int .i64 (List.length q : Int))), (0, .c (.int .i64 (k : Int)))], ([.nin 0 L none, .nin 0 O none, .inp 0 q, .nown 0 N [] [] 23 3, .inp 0 a] : Heap cod)⟩


noncomputable def st_ass_r21 (L : List (List Int)) (L_t : Bool) (ms : Int) (i : Nat) (O : List (List Int)) (q : List Int) (N : List (List Int)) (nn : Nat) (j : Nat) (a : List Int) (k : Nat) : St cod := ⟨tmG 44 [(1, .c (.int .i64 ms)), (5, .c (.slc 2 0 (List.length q) false)), (0, .c (.own 3 (nn))), (1, .c (.slc 4 0 (List.length a) false)), (7, .c (.slc 0 0 (List.length L) L_t)), (0, .c (.int .i64 (Int.ofNat (List.length L)))), (0, .c (.int .i64 (Int.ofNat i))), (3, .c (.slc 1 0 (List.length O) false)), (0, .c (.int .i64 (Int.ofNat (List.length O)))), (0, .c (.int .i64 (Int.ofNat j))), (19, .c (.slc 2 0 (List.length q) false)), (0, .c (.int .i64 (Int.ofNat (List.length q)))), (0, .c (.int .i64 (Int.ofNat k)))], [.nin 0 (L) none, .nin 0 (O) none, .inp 0 q, .nown 0 (N) [] [] 23 3, .inp 0 a]⟩


theorem ass_tr21 (L : List (List Int)) (L_t : Bool) (ms : Int) (i : Nat) (O : List (List Int)) (q : List Int) (N : List (List Int)) (nn : Nat) (j : Nat) (a : List Int) (k : Nat) : symF C_best cuts_ass_r21 Try.f8.results.toList 1 400 (regAt Try.f8 21) (st_ass_r21 L L_t ms i O q N nn j a k) =
.need (i64ok (Int.ofNat k + 1)) (
.ret (.cut (cutAt Try.f8 11) ⟨tmG 44 [(1, .c (.int .i64 ms)), (5, .c (.slc 2 0 (List.length q) false)), (0, .c (.own 3 (nn))), (1, .c (.slc 4 0 (List.length a) false)), (7, .c (.slc 0 0 (List.length L) L_t)), (0, .c (.int .i64 (Int.ofNat (List.length L)))), (0, .c (.int .i64 (Int.ofNat i))), (3, .c (.slc 1 0 (List.length O) false)), (0, .c (.int .i64 (Int.ofNat (List.length O)))), (0, .c (.int .i64 (Int.ofNat j))), (19, .c (.slc 2 0 (List.length q) false)), (0, .c (.int .i64 (Int.ofNat (List.length q)))), (0, .c (.int .i64 (Int.ofNat k + 1)))], [.nin 0 (L) none, .nin 0 (O) none, .inp 0 q, .nown 0 (N) [] [] 23 3, .inp 0 a]⟩)) := by kernel_rfl


theorem ass_y10 (L : List (List Int)) (L_t : Bool) (ms : Int) (i : Nat) (O : List (List Int)) (q : List Int) (N : List (List Int)) (nn : Nat) (j : Nat) (a : List Int) : symF C_best cuts_ass_r10 Try.f8.results.toList 1 400 (regAt Try.f8 9).tail (st_ass_r10 L L_t ms i O q N nn j a) =
.ret (.cut (cutAt Try.f8 11) ⟨tmG 44 [(1, .c (.int .i64 ms)), (5, .c (.slc 2 0 (List.length q) false)), (0, .c (.own 3 (nn))), (1, .c (.slc 4 0 (List.length a) false)), (7, .c (.slc 0 0 (List.length L) L_t)), (0, .c (.int .i64 (Int.ofNat (List.length L)))), (0, .c (.int .i64 (Int.ofNat i))), (3, .c (.slc 1 0 (List.length O) false)), (0, .c (.int .i64 (Int.ofNat (List.length O)))), (0, .c (.int .i64 (Int.ofNat j))), (19, .c (.slc 2 0 (List.length q) false)), (0, .c (.int .i64 (Int.ofNat (List.length q)))), (0, .c (.int .i64 0))], [.nin 0 (L) none, .nin 0 (O) none, .inp 0 q, .nown 0 (N) [] [] 23 3, .inp 0 a]⟩) := by kernel_rfl


theorem ass_y21 (L : List (List Int)) (L_t : Bool) (ms : Int) (i : Nat) (O : List (List Int)) (q : List Int) (N : List (List Int)) (nn : Nat) (j : Nat) (a : List Int) (k : Nat) : symF C_best cuts_ass_r21 Try.f8.results.toList 1 400 (regAt Try.f8 20).tail (st_ass_r21 L L_t ms i O q N nn j a k) =
.need (i64ok (Int.ofNat k + 1)) (
.ret (.cut (cutAt Try.f8 11) ⟨tmG 44 [(1, .c (.int .i64 ms)), (5, .c (.slc 2 0 (List.length q) false)), (0, .c (.own 3 (nn))), (1, .c (.slc 4 0 (List.length a) false)), (7, .c (.slc 0 0 (List.length L) L_t)), (0, .c (.int .i64 (Int.ofNat (List.length L)))), (0, .c (.int .i64 (Int.ofNat i))), (3, .c (.slc 1 0 (List.length O) false)), (0, .c (.int .i64 (Int.ofNat (List.length O)))), (0, .c (.int .i64 (Int.ofNat j))), (19, .c (.slc 2 0 (List.length q) false)), (0, .c (.int .i64 (Int.ofNat (List.length q)))), (0, .c (.int .i64 (Int.ofNat k + 1)))], [.nin 0 (L) none, .nin 0 (O) none, .inp 0 q, .nown 0 (N) [] [] 23 3, .inp 0 a]⟩)) := by kernel_rfl


theorem ass_x9 (L : List (List Int)) (L_t : Bool) (ms : Int) (i : Nat) (O : List (List Int)) (q : List Int) (N : List (List Int)) (nn : Nat) (j : Nat) (a : List Int) : ((preT (Cfg.maybe C_best) (preA Q9 15) [some 36, some 37, some 40, some 41, some 42, some 43] (st_ass_r9b L L_t ms i O q N nn j a)).bind fun s => T.ret (Fin.cut (regAt Try.f8 9) s)) =
.need (((0 : Int) ≤ 0 ∧ (0 : Int) < Int.ofNat (List.length a))) (
.need ((0 + Int.toNat 0 : Nat) < List.length a) (
.need (i64ok (List.getD a (0 + Int.toNat 0) (cod 0).d + ms)) (
.need (((0 : Int) ≤ 1 ∧ (1 : Int) ≤ Int.ofNat (List.length a))) (
.need (List.length (List.take (List.length a - Int.toNat 1) (List.drop (0 + Int.toNat 1) a)) = List.length a - Int.toNat 1) (
.ite (decide (List.length (List.take (List.length a - Int.toNat 1) (List.drop (0 + Int.toNat 1) a)) = 0)) (
 .need (1 = 1) (
 .ite (decide (1 = 0)) (
  .need (0 = 0) (
  .ite (decide (0 = 0)) (
   .ret (.cut (regAt Try.f8 9) ⟨tmG 48 [(1, .c (.int .i64 ms)), (5, .c (.slc 2 0 (List.length q) false)), (0, .c (.own 3 (nn))), (1, .c (.slc 4 0 (List.length a) false)), (7, .c (.slc 0 0 (List.length L) L_t)), (0, .c (.int .i64 (Int.ofNat (List.length L)))), (0, .c (.int .i64 (Int.ofNat i))), (3, .c (.slc 1 0 (List.length O) false)), (0, .c (.int .i64 (Int.ofNat (List.length O)))), (0, .c (.int .i64 (Int.ofNat j))), (3, .c (.own 3 (nn))), (0, .c (.slc 4 0 (List.length a) false)), (0, .c (.ptr 4 0 0)), (0, .c (.int .i64 (List.getD a (0 + Int.toNat 0) (cod 0).d))), (0, .c (.int .i64 ms)), (0, .c (.int .i64 (List.getD a (0 + Int.toNat 0) (cod 0).d + ms))), (0, .c (.slc 5 0 1 true)), (0, .c (.slc 6 0 0 true)), (0, .c (.slc 4 0 (List.length a) false)), (0, .c (.slc 4 1 (List.length a - Int.toNat 1) false)), (0, .c (.slc 6 0 0 true)), (0, .c (.slc 8 0 1 true)), (0, .c (.slc 6 0 0 true)), (0, .c (.slc 5 0 1 true)), (0, .c (.slc 11 0 1 true))], [.nin 0 (L) none, .nin 0 (O) none, .inp 0 q, .nown 0 (N) [] [] 23 3, .inp 0 a, .arr 0 ([List.getD a (0 + Int.toNat 0) (cod 0).d + ms]) 3, .arr 0 [] 3, .inp 0 [], .arr 0 [(-1 : Int)] 3, .inp 0 [], .inp 0 [], .blk [.slc 5 0 1 true] 23]⟩)) (
   .need (1 = 1) (
   .need (((0 : Nat) < 0 ∧ (1 + 0 : Nat) ≤ 1000000)) (
   .ret (.cut (regAt Try.f8 9) ⟨tmG 48 [(1, .c (.int .i64 ms)), (5, .c (.slc 2 0 (List.length q) false)), (0, .c (.own 3 (nn))), (1, .c (.slc 4 0 (List.length a) false)), (7, .c (.slc 0 0 (List.length L) L_t)), (0, .c (.int .i64 (Int.ofNat (List.length L)))), (0, .c (.int .i64 (Int.ofNat i))), (3, .c (.slc 1 0 (List.length O) false)), (0, .c (.int .i64 (Int.ofNat (List.length O)))), (0, .c (.int .i64 (Int.ofNat j))), (3, .c (.own 3 (nn))), (0, .c (.slc 4 0 (List.length a) false)), (0, .c (.ptr 4 0 0)), (0, .c (.int .i64 (List.getD a (0 + Int.toNat 0) (cod 0).d))), (0, .c (.int .i64 ms)), (0, .c (.int .i64 (List.getD a (0 + Int.toNat 0) (cod 0).d + ms))), (0, .c (.slc 5 0 1 true)), (0, .c (.slc 6 0 0 true)), (0, .c (.slc 4 0 (List.length a) false)), (0, .c (.slc 4 1 (List.length a - Int.toNat 1) false)), (0, .c (.slc 6 0 0 true)), (0, .c (.slc 8 0 1 true)), (0, .c (.slc 6 0 0 true)), (0, .c (.own 10 1)), (0, .c (.slc 11 0 1 true))], [.nin 0 (L) none, .nin 0 (O) none, .inp 0 q, .nown 0 (N) [] [] 23 3, .inp 0 a, .arr 0 ([List.getD a (0 + Int.toNat 0) (cod 0).d + ms]) 3, .arr 0 [] 3, .inp 0 [], .arr 0 [(-1 : Int)] 3, .inp 0 [], .own 0 (([List.getD a (0 + Int.toNat 0) (cod 0).d + ms]) ++ []) 3, .blk [.own 10 1] 23]⟩)))))) (
  .need (0 = 0) (
  .need (((0 : Nat) < 1 ∧ (0 + 1 : Nat) ≤ 1000000)) (
  .ite (decide (1 = 0)) (
   .ret (.cut (regAt Try.f8 9) ⟨tmG 48 [(1, .c (.int .i64 ms)), (5, .c (.slc 2 0 (List.length q) false)), (0, .c (.own 3 (nn))), (1, .c (.slc 4 0 (List.length a) false)), (7, .c (.slc 0 0 (List.length L) L_t)), (0, .c (.int .i64 (Int.ofNat (List.length L)))), (0, .c (.int .i64 (Int.ofNat i))), (3, .c (.slc 1 0 (List.length O) false)), (0, .c (.int .i64 (Int.ofNat (List.length O)))), (0, .c (.int .i64 (Int.ofNat j))), (3, .c (.own 3 (nn))), (0, .c (.slc 4 0 (List.length a) false)), (0, .c (.ptr 4 0 0)), (0, .c (.int .i64 (List.getD a (0 + Int.toNat 0) (cod 0).d))), (0, .c (.int .i64 ms)), (0, .c (.int .i64 (List.getD a (0 + Int.toNat 0) (cod 0).d + ms))), (0, .c (.slc 5 0 1 true)), (0, .c (.slc 6 0 0 true)), (0, .c (.slc 4 0 (List.length a) false)), (0, .c (.slc 4 1 (List.length a - Int.toNat 1) false)), (0, .c (.slc 6 0 0 true)), (0, .c (.slc 8 0 1 true)), (0, .c (.own 9 1)), (0, .c (.slc 5 0 1 true)), (0, .c (.slc 11 0 1 true))], [.nin 0 (L) none, .nin 0 (O) none, .inp 0 q, .nown 0 (N) [] [] 23 3, .inp 0 a, .arr 0 ([List.getD a (0 + Int.toNat 0) (cod 0).d + ms]) 3, .arr 0 [] 3, .inp 0 [], .arr 0 [(-1 : Int)] 3, .own 0 ([] ++ [(-1 : Int)] : List Int) 3, .inp 0 [], .blk [.slc 5 0 1 true] 23]⟩)) (
   .need (1 = 1) (
   .need (((0 : Nat) < 1 ∧ (1 + 1 : Nat) ≤ 1000000)) (
   .ret (.cut (regAt Try.f8 9) ⟨tmG 48 [(1, .c (.int .i64 ms)), (5, .c (.slc 2 0 (List.length q) false)), (0, .c (.own 3 (nn))), (1, .c (.slc 4 0 (List.length a) false)), (7, .c (.slc 0 0 (List.length L) L_t)), (0, .c (.int .i64 (Int.ofNat (List.length L)))), (0, .c (.int .i64 (Int.ofNat i))), (3, .c (.slc 1 0 (List.length O) false)), (0, .c (.int .i64 (Int.ofNat (List.length O)))), (0, .c (.int .i64 (Int.ofNat j))), (3, .c (.own 3 (nn))), (0, .c (.slc 4 0 (List.length a) false)), (0, .c (.ptr 4 0 0)), (0, .c (.int .i64 (List.getD a (0 + Int.toNat 0) (cod 0).d))), (0, .c (.int .i64 ms)), (0, .c (.int .i64 (List.getD a (0 + Int.toNat 0) (cod 0).d + ms))), (0, .c (.slc 5 0 1 true)), (0, .c (.slc 6 0 0 true)), (0, .c (.slc 4 0 (List.length a) false)), (0, .c (.slc 4 1 (List.length a - Int.toNat 1) false)), (0, .c (.slc 6 0 0 true)), (0, .c (.slc 8 0 1 true)), (0, .c (.own 9 1)), (0, .c (.own 10 2)), (0, .c (.slc 11 0 1 true))], [.nin 0 (L) none, .nin 0 (O) none, .inp 0 q, .nown 0 (N) [] [] 23 3, .inp 0 a, .arr 0 ([List.getD a (0 + Int.toNat 0) (cod 0).d + ms]) 3, .arr 0 [] 3, .inp 0 [], .arr 0 [(-1 : Int)] 3, .own 0 ([] ++ [(-1 : Int)] : List Int) 3, .own 0 (([List.getD a (0 + Int.toNat 0) (cod 0).d + ms]) ++ ([] ++ [(-1 : Int)]) : List Int) 3, .blk [.own 10 2] 23]⟩))))))))) (
 .need (0 = 0) (
 .need (((0 : Nat) < List.length (List.take (List.length a - Int.toNat 1) (List.drop (0 + Int.toNat 1) a)) ∧ 0 + List.length (List.take (List.length a - Int.toNat 1) (List.drop (0 + Int.toNat 1) a)) ≤ 1000000)) (
 .need (1 = 1) (
 .need (0 + List.length (List.take (List.length a - Int.toNat 1) (List.drop (0 + Int.toNat 1) a)) + 1 ≤ 1000000) (
 .ite (decide (List.length ([] ++ List.take (List.length a - Int.toNat 1) (List.drop (0 + Int.toNat 1) a) ++ [(-1 : Int)]) = 0)) (
  .ret (.cut (regAt Try.f8 9) ⟨tmG 48 [(1, .c (.int .i64 ms)), (5, .c (.slc 2 0 (List.length q) false)), (0, .c (.own 3 (nn))), (1, .c (.slc 4 0 (List.length a) false)), (7, .c (.slc 0 0 (List.length L) L_t)), (0, .c (.int .i64 (Int.ofNat (List.length L)))), (0, .c (.int .i64 (Int.ofNat i))), (3, .c (.slc 1 0 (List.length O) false)), (0, .c (.int .i64 (Int.ofNat (List.length O)))), (0, .c (.int .i64 (Int.ofNat j))), (3, .c (.own 3 (nn))), (0, .c (.slc 4 0 (List.length a) false)), (0, .c (.ptr 4 0 0)), (0, .c (.int .i64 (List.getD a (0 + Int.toNat 0) (cod 0).d))), (0, .c (.int .i64 ms)), (0, .c (.int .i64 (List.getD a (0 + Int.toNat 0) (cod 0).d + ms))), (0, .c (.slc 5 0 1 true)), (0, .c (.slc 6 0 0 true)), (0, .c (.slc 4 0 (List.length a) false)), (0, .c (.slc 4 1 (List.length a - Int.toNat 1) false)), (0, .c (.own 7 (0 + List.length (List.take (List.length a - Int.toNat 1) (List.drop (0 + Int.toNat 1) a))))), (0, .c (.slc 8 0 1 true)), (0, .c (.own 9 (0 + List.length (List.take (List.length a - Int.toNat 1) (List.drop (0 + Int.toNat 1) a)) + 1))), (0, .c (.slc 5 0 1 true)), (0, .c (.slc 11 0 1 true))], [.nin 0 (L) none, .nin 0 (O) none, .inp 0 q, .nown 0 (N) [] [] 23 3, .inp 0 a, .arr 0 ([List.getD a (0 + Int.toNat 0) (cod 0).d + ms]) 3, .arr 0 [] 3, .dead, .arr 0 [(-1 : Int)] 3, .own 0 (([] ++ (List.take (List.length a - Int.toNat 1) (List.drop (0 + Int.toNat 1) a))) ++ [(-1 : Int)] : List Int) 3, .inp 0 [], .blk [.slc 5 0 1 true] 23]⟩)) (
  .need (1 = 1) (
  .need (((0 : Nat) < List.length ([] ++ List.take (List.length a - Int.toNat 1) (List.drop (0 + Int.toNat 1) a) ++ [(-1 : Int)]) ∧ 1 + List.length ([] ++ List.take (List.length a - Int.toNat 1) (List.drop (0 + Int.toNat 1) a) ++ [(-1 : Int)]) ≤ 1000000)) (
  .ret (.cut (regAt Try.f8 9) ⟨tmG 48 [(1, .c (.int .i64 ms)), (5, .c (.slc 2 0 (List.length q) false)), (0, .c (.own 3 (nn))), (1, .c (.slc 4 0 (List.length a) false)), (7, .c (.slc 0 0 (List.length L) L_t)), (0, .c (.int .i64 (Int.ofNat (List.length L)))), (0, .c (.int .i64 (Int.ofNat i))), (3, .c (.slc 1 0 (List.length O) false)), (0, .c (.int .i64 (Int.ofNat (List.length O)))), (0, .c (.int .i64 (Int.ofNat j))), (3, .c (.own 3 (nn))), (0, .c (.slc 4 0 (List.length a) false)), (0, .c (.ptr 4 0 0)), (0, .c (.int .i64 (List.getD a (0 + Int.toNat 0) (cod 0).d))), (0, .c (.int .i64 ms)), (0, .c (.int .i64 (List.getD a (0 + Int.toNat 0) (cod 0).d + ms))), (0, .c (.slc 5 0 1 true)), (0, .c (.slc 6 0 0 true)), (0, .c (.slc 4 0 (List.length a) false)), (0, .c (.slc 4 1 (List.length a - Int.toNat 1) false)), (0, .c (.own 7 (0 + List.length (List.take (List.length a - Int.toNat 1) (List.drop (0 + Int.toNat 1) a))))), (0, .c (.slc 8 0 1 true)), (0, .c (.own 9 (0 + List.length (List.take (List.length a - Int.toNat 1) (List.drop (0 + Int.toNat 1) a)) + 1))), (0, .c (.own 10 (1 + List.length ([] ++ List.take (List.length a - Int.toNat 1) (List.drop (0 + Int.toNat 1) a) ++ [(-1 : Int)])))), (0, .c (.slc 11 0 1 true))], [.nin 0 (L) none, .nin 0 (O) none, .inp 0 q, .nown 0 (N) [] [] 23 3, .inp 0 a, .arr 0 ([List.getD a (0 + Int.toNat 0) (cod 0).d + ms]) 3, .arr 0 [] 3, .dead, .arr 0 [(-1 : Int)] 3, .own 0 (([] ++ (List.take (List.length a - Int.toNat 1) (List.drop (0 + Int.toNat 1) a))) ++ [(-1 : Int)] : List Int) 3, .own 0 (([List.getD a (0 + Int.toNat 0) (cod 0).d + ms]) ++ (([] ++ (List.take (List.length a - Int.toNat 1) (List.drop (0 + Int.toNat 1) a))) ++ [(-1 : Int)]) : List Int) 3, .blk [.own 10 (1 + List.length ([] ++ List.take (List.length a - Int.toNat 1) (List.drop (0 + Int.toNat 1) a) ++ [(-1 : Int)]))] 23]⟩)))))))))))))) := by kernel_rfl


theorem ass_x20 (L : List (List Int)) (L_t : Bool) (ms : Int) (i : Nat) (O : List (List Int)) (q : List Int) (N : List (List Int)) (nn : Nat) (j : Nat) (a : List Int) (k : Nat) (c : Int) : ((preT (Cfg.maybe C_best) (preA Q20 16) [some 77, some 78, some 81, some 83, some 84, some 85] (st_ass_r20 L L_t ms i O q N nn j a k c)).bind fun s => T.ret (Fin.cut (regAt Try.f8 20) s)) =
.need (((0 : Int) ≤ 0 ∧ (0 : Int) < Int.ofNat (List.length a))) (
.need ((0 + Int.toNat 0 : Nat) < List.length a) (
.need (i64ok (List.getD a (0 + Int.toNat 0) (cod 0).d + c)) (
.need (((0 : Int) ≤ 1 ∧ (1 : Int) ≤ Int.ofNat (List.length a))) (
.need (List.length (List.take (List.length a - Int.toNat 1) (List.drop (0 + Int.toNat 1) a)) = List.length a - Int.toNat 1) (
.ite (decide (List.length (List.take (List.length a - Int.toNat 1) (List.drop (0 + Int.toNat 1) a)) = 0)) (
 .need (1 = 1) (
 .ite (decide (1 = 0)) (
  .need (0 = 0) (
  .ite (decide (0 = 0)) (
   .ret (.cut (regAt Try.f8 20) ⟨tmG 6 [(1, .c (.int .i64 ms)), (5, .c (.slc 2 0 (List.length q) false)), (0, .c (.own 3 (nn))), (1, .c (.slc 4 0 (List.length a) false)), (0, .c (.int .i64 (Int.ofNat k))), (0, .c (.int .i64 c)), (5, .c (.slc 0 0 (List.length L) L_t)), (0, .c (.int .i64 (Int.ofNat (List.length L)))), (0, .c (.int .i64 (Int.ofNat i))), (3, .c (.slc 1 0 (List.length O) false)), (0, .c (.int .i64 (Int.ofNat (List.length O)))), (0, .c (.int .i64 (Int.ofNat j))), (19, .c (.slc 2 0 (List.length q) false)), (0, .c (.int .i64 (Int.ofNat (List.length q)))), (0, .c (.int .i64 (Int.ofNat k))), (22, .c (.own 3 (nn))), (0, .c (.slc 4 0 (List.length a) false)), (0, .c (.ptr 4 0 0)), (0, .c (.int .i64 (List.getD a (0 + Int.toNat 0) (cod 0).d))), (0, .c (.int .i64 c)), (0, .c (.int .i64 (List.getD a (0 + Int.toNat 0) (cod 0).d + c))), (0, .c (.slc 5 0 1 true)), (0, .c (.slc 6 0 0 true)), (0, .c (.slc 4 0 (List.length a) false)), (0, .c (.slc 4 1 (List.length a - Int.toNat 1) false)), (0, .c (.slc 6 0 0 true)), (0, .c (.int .i64 (Int.ofNat k))), (0, .c (.slc 8 0 1 true)), (0, .c (.slc 6 0 0 true)), (0, .c (.slc 5 0 1 true)), (0, .c (.slc 11 0 1 true))], [.nin 0 (L) none, .nin 0 (O) none, .inp 0 q, .nown 0 (N) [] [] 23 3, .inp 0 a, .arr 0 ([List.getD a (0 + Int.toNat 0) (cod 0).d + c]) 3, .arr 0 [] 3, .inp 0 [], .arr 0 ([Int.ofNat k]) 3, .inp 0 [], .inp 0 [], .blk [.slc 5 0 1 true] 23]⟩)) (
   .need (1 = 1) (
   .need (((0 : Nat) < 0 ∧ (1 + 0 : Nat) ≤ 1000000)) (
   .ret (.cut (regAt Try.f8 20) ⟨tmG 6 [(1, .c (.int .i64 ms)), (5, .c (.slc 2 0 (List.length q) false)), (0, .c (.own 3 (nn))), (1, .c (.slc 4 0 (List.length a) false)), (0, .c (.int .i64 (Int.ofNat k))), (0, .c (.int .i64 c)), (5, .c (.slc 0 0 (List.length L) L_t)), (0, .c (.int .i64 (Int.ofNat (List.length L)))), (0, .c (.int .i64 (Int.ofNat i))), (3, .c (.slc 1 0 (List.length O) false)), (0, .c (.int .i64 (Int.ofNat (List.length O)))), (0, .c (.int .i64 (Int.ofNat j))), (19, .c (.slc 2 0 (List.length q) false)), (0, .c (.int .i64 (Int.ofNat (List.length q)))), (0, .c (.int .i64 (Int.ofNat k))), (22, .c (.own 3 (nn))), (0, .c (.slc 4 0 (List.length a) false)), (0, .c (.ptr 4 0 0)), (0, .c (.int .i64 (List.getD a (0 + Int.toNat 0) (cod 0).d))), (0, .c (.int .i64 c)), (0, .c (.int .i64 (List.getD a (0 + Int.toNat 0) (cod 0).d + c))), (0, .c (.slc 5 0 1 true)), (0, .c (.slc 6 0 0 true)), (0, .c (.slc 4 0 (List.length a) false)), (0, .c (.slc 4 1 (List.length a - Int.toNat 1) false)), (0, .c (.slc 6 0 0 true)), (0, .c (.int .i64 (Int.ofNat k))), (0, .c (.slc 8 0 1 true)), (0, .c (.slc 6 0 0 true)), (0, .c (.own 10 1)), (0, .c (.slc 11 0 1 true))], [.nin 0 (L) none, .nin 0 (O) none, .inp 0 q, .nown 0 (N) [] [] 23 3, .inp 0 a, .arr 0 ([List.getD a (0 + Int.toNat 0) (cod 0).d + c]) 3, .arr 0 [] 3, .inp 0 [], .arr 0 ([Int.ofNat k]) 3, .inp 0 [], .own 0 (([List.getD a (0 + Int.toNat 0) (cod 0).d + c]) ++ []) 3, .blk [.own 10 1] 23]⟩)))))) (
  .need (0 = 0) (
  .need (((0 : Nat) < 1 ∧ (0 + 1 : Nat) ≤ 1000000)) (
  .ite (decide (1 = 0)) (
   .ret (.cut (regAt Try.f8 20) ⟨tmG 6 [(1, .c (.int .i64 ms)), (5, .c (.slc 2 0 (List.length q) false)), (0, .c (.own 3 (nn))), (1, .c (.slc 4 0 (List.length a) false)), (0, .c (.int .i64 (Int.ofNat k))), (0, .c (.int .i64 c)), (5, .c (.slc 0 0 (List.length L) L_t)), (0, .c (.int .i64 (Int.ofNat (List.length L)))), (0, .c (.int .i64 (Int.ofNat i))), (3, .c (.slc 1 0 (List.length O) false)), (0, .c (.int .i64 (Int.ofNat (List.length O)))), (0, .c (.int .i64 (Int.ofNat j))), (19, .c (.slc 2 0 (List.length q) false)), (0, .c (.int .i64 (Int.ofNat (List.length q)))), (0, .c (.int .i64 (Int.ofNat k))), (22, .c (.own 3 (nn))), (0, .c (.slc 4 0 (List.length a) false)), (0, .c (.ptr 4 0 0)), (0, .c (.int .i64 (List.getD a (0 + Int.toNat 0) (cod 0).d))), (0, .c (.int .i64 c)), (0, .c (.int .i64 (List.getD a (0 + Int.toNat 0) (cod 0).d + c))), (0, .c (.slc 5 0 1 true)), (0, .c (.slc 6 0 0 true)), (0, .c (.slc 4 0 (List.length a) false)), (0, .c (.slc 4 1 (List.length a - Int.toNat 1) false)), (0, .c (.slc 6 0 0 true)), (0, .c (.int .i64 (Int.ofNat k))), (0, .c (.slc 8 0 1 true)), (0, .c (.own 9 1)), (0, .c (.slc 5 0 1 true)), (0, .c (.slc 11 0 1 true))], [.nin 0 (L) none, .nin 0 (O) none, .inp 0 q, .nown 0 (N) [] [] 23 3, .inp 0 a, .arr 0 ([List.getD a (0 + Int.toNat 0) (cod 0).d + c]) 3, .arr 0 [] 3, .inp 0 [], .arr 0 ([Int.ofNat k]) 3, .own 0 ([] ++ ([Int.ofNat k])) 3, .inp 0 [], .blk [.slc 5 0 1 true] 23]⟩)) (
   .need (1 = 1) (
   .need (((0 : Nat) < 1 ∧ (1 + 1 : Nat) ≤ 1000000)) (
   .ret (.cut (regAt Try.f8 20) ⟨tmG 6 [(1, .c (.int .i64 ms)), (5, .c (.slc 2 0 (List.length q) false)), (0, .c (.own 3 (nn))), (1, .c (.slc 4 0 (List.length a) false)), (0, .c (.int .i64 (Int.ofNat k))), (0, .c (.int .i64 c)), (5, .c (.slc 0 0 (List.length L) L_t)), (0, .c (.int .i64 (Int.ofNat (List.length L)))), (0, .c (.int .i64 (Int.ofNat i))), (3, .c (.slc 1 0 (List.length O) false)), (0, .c (.int .i64 (Int.ofNat (List.length O)))), (0, .c (.int .i64 (Int.ofNat j))), (19, .c (.slc 2 0 (List.length q) false)), (0, .c (.int .i64 (Int.ofNat (List.length q)))), (0, .c (.int .i64 (Int.ofNat k))), (22, .c (.own 3 (nn))), (0, .c (.slc 4 0 (List.length a) false)), (0, .c (.ptr 4 0 0)), (0, .c (.int .i64 (List.getD a (0 + Int.toNat 0) (cod 0).d))), (0, .c (.int .i64 c)), (0, .c (.int .i64 (List.getD a (0 + Int.toNat 0) (cod 0).d + c))), (0, .c (.slc 5 0 1 true)), (0, .c (.slc 6 0 0 true)), (0, .c (.slc 4 0 (List.length a) false)), (0, .c (.slc 4 1 (List.length a - Int.toNat 1) false)), (0, .c (.slc 6 0 0 true)), (0, .c (.int .i64 (Int.ofNat k))), (0, .c (.slc 8 0 1 true)), (0, .c (.own 9 1)), (0, .c (.own 10 2)), (0, .c (.slc 11 0 1 true))], [.nin 0 (L) none, .nin 0 (O) none, .inp 0 q, .nown 0 (N) [] [] 23 3, .inp 0 a, .arr 0 ([List.getD a (0 + Int.toNat 0) (cod 0).d + c]) 3, .arr 0 [] 3, .inp 0 [], .arr 0 ([Int.ofNat k]) 3, .own 0 ([] ++ ([Int.ofNat k])) 3, .own 0 (([List.getD a (0 + Int.toNat 0) (cod 0).d + c]) ++ ([] ++ ([Int.ofNat k]))) 3, .blk [.own 10 2] 23]⟩))))))))) (
 .need (0 = 0) (
 .need (((0 : Nat) < List.length (List.take (List.length a - Int.toNat 1) (List.drop (0 + Int.toNat 1) a)) ∧ 0 + List.length (List.take (List.length a - Int.toNat 1) (List.drop (0 + Int.toNat 1) a)) ≤ 1000000)) (
 .need (1 = 1) (
 .need (0 + List.length (List.take (List.length a - Int.toNat 1) (List.drop (0 + Int.toNat 1) a)) + 1 ≤ 1000000) (
 .ite (decide   (List.length ([] ++ List.take (List.length a - Int.toNat 1) (List.drop (0 + Int.toNat 1) a) ++ [Int.ofNat k]) = 0)) (
  .ret (.cut (regAt Try.f8 20) ⟨tmG 6 [(1, .c (.int .i64 ms)), (5, .c (.slc 2 0 (List.length q) false)), (0, .c (.own 3 (nn))), (1, .c (.slc 4 0 (List.length a) false)), (0, .c (.int .i64 (Int.ofNat k))), (0, .c (.int .i64 c)), (5, .c (.slc 0 0 (List.length L) L_t)), (0, .c (.int .i64 (Int.ofNat (List.length L)))), (0, .c (.int .i64 (Int.ofNat i))), (3, .c (.slc 1 0 (List.length O) false)), (0, .c (.int .i64 (Int.ofNat (List.length O)))), (0, .c (.int .i64 (Int.ofNat j))), (19, .c (.slc 2 0 (List.length q) false)), (0, .c (.int .i64 (Int.ofNat (List.length q)))), (0, .c (.int .i64 (Int.ofNat k))), (22, .c (.own 3 (nn))), (0, .c (.slc 4 0 (List.length a) false)), (0, .c (.ptr 4 0 0)), (0, .c (.int .i64 (List.getD a (0 + Int.toNat 0) (cod 0).d))), (0, .c (.int .i64 c)), (0, .c (.int .i64 (List.getD a (0 + Int.toNat 0) (cod 0).d + c))), (0, .c (.slc 5 0 1 true)), (0, .c (.slc 6 0 0 true)), (0, .c (.slc 4 0 (List.length a) false)), (0, .c (.slc 4 1 (List.length a - Int.toNat 1) false)), (0, .c (.own 7 (0 + List.length (List.take (List.length a - Int.toNat 1) (List.drop (0 + Int.toNat 1) a))))), (0, .c (.int .i64 (Int.ofNat k))), (0, .c (.slc 8 0 1 true)), (0, .c (.own 9 (0 + List.length (List.take (List.length a - Int.toNat 1) (List.drop (0 + Int.toNat 1) a)) + 1))), (0, .c (.slc 5 0 1 true)), (0, .c (.slc 11 0 1 true))], [.nin 0 (L) none, .nin 0 (O) none, .inp 0 q, .nown 0 (N) [] [] 23 3, .inp 0 a, .arr 0 ([List.getD a (0 + Int.toNat 0) (cod 0).d + c]) 3, .arr 0 [] 3, .dead, .arr 0 ([Int.ofNat k]) 3, .own 0 (([] ++ (List.take (List.length a - Int.toNat 1) (List.drop (0 + Int.toNat 1) a))) ++ ([Int.ofNat k])) 3, .inp 0 [], .blk [.slc 5 0 1 true] 23]⟩)) (
  .need (1 = 1) (
  .need (((0 : Nat) < List.length ([] ++ List.take (List.length a - Int.toNat 1) (List.drop (0 + Int.toNat 1) a) ++ [Int.ofNat k]) ∧ 1 + List.length ([] ++ List.take (List.length a - Int.toNat 1) (List.drop (0 + Int.toNat 1) a) ++ [Int.ofNat k]) ≤   1000000)) (
  .ret (.cut (regAt Try.f8 20) ⟨tmG 6 [(1, .c (.int .i64 ms)), (5, .c (.slc 2 0 (List.length q) false)), (0, .c (.own 3 (nn))), (1, .c (.slc 4 0 (List.length a) false)), (0, .c (.int .i64 (Int.ofNat k))), (0, .c (.int .i64 c)), (5, .c (.slc 0 0 (List.length L) L_t)), (0, .c (.int .i64 (Int.ofNat (List.length L)))), (0, .c (.int .i64 (Int.ofNat i))), (3, .c (.slc 1 0 (List.length O) false)), (0, .c (.int .i64 (Int.ofNat (List.length O)))), (0, .c (.int .i64 (Int.ofNat j))), (19, .c (.slc 2 0 (List.length q) false)), (0, .c (.int .i64 (Int.ofNat (List.length q)))), (0, .c (.int .i64 (Int.ofNat k))), (22, .c (.own 3 (nn))), (0, .c (.slc 4 0 (List.length a) false)), (0, .c (.ptr 4 0 0)), (0, .c (.int .i64 (List.getD a (0 + Int.toNat 0) (cod 0).d))), (0, .c (.int .i64 c)), (0, .c (.int .i64 (List.getD a (0 + Int.toNat 0) (cod 0).d + c))), (0, .c (.slc 5 0 1 true)), (0, .c (.slc 6 0 0 true)), (0, .c (.slc 4 0 (List.length a) false)), (0, .c (.slc 4 1 (List.length a - Int.toNat 1) false)), (0, .c (.own 7 (0 + List.length (List.take (List.length a - Int.toNat 1) (List.drop (0 + Int.toNat 1) a))))), (0, .c (.int .i64 (Int.ofNat k))), (0, .c (.slc 8 0 1 true)), (0, .c (.own 9 (0 + List.length (List.take (List.length a - Int.toNat 1) (List.drop (0 + Int.toNat 1) a)) + 1))), (0, .c (.own 10 (1 + List.length ([] ++ List.take (List.length a - Int.toNat 1) (List.drop (0 + Int.toNat 1) a) ++ [Int.ofNat k])))), (0, .c (.slc 11 0 1 true))], [.nin 0 (L) none, .nin 0 (O) none, .inp 0 q, .nown 0 (N) [] [] 23 3, .inp 0 a, .arr 0 ([List.getD a (0 + Int.toNat 0) (cod 0).d + c]) 3, .arr 0 [] 3, .dead, .arr 0 ([Int.ofNat k]) 3, .own 0 (([] ++ (List.take (List.length a - Int.toNat 1) (List.drop (0 + Int.toNat 1) a))) ++ ([Int.ofNat k])) 3, .own 0 (([List.getD a (0 + Int.toNat 0) (cod 0).d + c]) ++ (([] ++ (List.take (List.length a - Int.toNat 1) (List.drop (0 + Int.toNat 1) a))) ++ ([Int.ofNat k]))) 3, .blk [.own 10 (1 + List.length ([] ++ List.take (List.length a - Int.toNat 1) (List.drop (0 + Int.toNat 1) a) ++ [Int.ofNat k]))] 23]⟩)))))))))))))) := by kernel_rfl



theorem Q9_at : regAt Try.f8 9 = .code (.region (idI (regAt Try.f8 9)) Q9 true) :: (regAt Try.f8 9).tail := by kernel_rfl
theorem Q20_at : regAt Try.f8 20 = .code (.region (idI (regAt Try.f8 20)) Q20 true) :: (regAt Try.f8 20).tail := by kernel_rfl
theorem Q9_ok : (decide (15 ≤ Q9.size) && acyc Q9 && lastAll Q9 15 && Q9.toList.all fun o => o.guard.isNone) = true := by kernel_rfl
theorem Q20_ok : (decide (16 ≤ Q20.size) && acyc Q20 && lastAll Q20 16 && Q20.toList.all fun o => o.guard.isNone) = true := by kernel_rfl
noncomputable def O45 : Oper := Q9.toList.getD 15 default
noncomputable def O87 : Oper := Q20.toList.getD 16 default
theorem Q9_split : Q9.toList.drop 15 = O45 :: Q9.toList.drop 16 := by kernel_rfl
theorem Q20_split : Q20.toList.drop 16 = O87 :: Q20.toList.drop 17 := by kernel_rfl
theorem O45_op : O45.op = .call ⟨.builtin .append, #[.tmp 30, .tmp 44], #[22, 22]⟩ := by kernel_rfl
theorem O45_dst : O45.dst = some 45 := by kernel_rfl
theorem O87_op : O87.op = .call ⟨.builtin .append, #[.tmp 71, .tmp 86], #[22, 22]⟩ := by kernel_rfl
theorem O87_dst : O87.dst = some 87 := by kernel_rfl
theorem T22 : Try.prog.underlying 22 = some (.slice 23) := by kernel_rfl
theorem Z23 : (Try.prog.info? 23).map (fun i => (i.zero.map fun z => z.cells.size, i.size, i.bytes)) = some (some 1, 1, 24) := by kernel_rfl
def st_ass_x9_0 (L : List (List Int)) (L_t : Bool) (ms : Int) (i : Nat) (O : List (List Int)) (q : List Int) (N : List (List Int)) (nn : Nat) (j : Nat) (a : List Int) : St cod := ⟨tmG 48 [(1, .c (.int .i64 ms)), (5, .c (.slc 2 0 (List.length q) false)), (0, .c (.own 3 (nn))), (1, .c (.slc 4 0 (List.length a) false)), (7, .c (.slc 0 0 (List.length L) L_t)), (0, .c (.int .i64 (Int.ofNat (List.length L)))), (0, .c (.int .i64 (Int.ofNat i))), (3, .c (.slc 1 0 (List.length O) false)), (0, .c (.int .i64 (Int.ofNat (List.length O)))), (0, .c (.int .i64 (Int.ofNat j))), (3, .c (.own 3 (nn))), (0, .c (.slc 4 0 (List.length a) false)), (0, .c (.ptr 4 0 0)), (0, .c (.int .i64 (List.getD a (0 + Int.toNat 0) (cod 0).d))), (0, .c (.int .i64 ms)), (0, .c (.int .i64 (List.getD a (0 + Int.toNat 0) (cod 0).d + ms))), (0, .c (.slc 5 0 1 true)), (0, .c (.slc 6 0 0 true)), (0, .c (.slc 4 0 (List.length a) false)), (0, .c (.slc 4 1 (List.length a - Int.toNat 1) false)), (0, .c (.slc 6 0 0 true)), (0, .c (.slc 8 0 1 true)), (0, .c (.slc 6 0 0 true)), (0, .c (.slc 5 0 1 true)), (0, .c (.slc 11 0 1 true))], [.nin 0 (L) none, .nin 0 (O) none, .inp 0 q, .nown 0 (N) [] [] 23 3, .inp 0 a, .arr 0 ([List.getD a (0 + Int.toNat 0) (cod 0).d + ms]) 3, .arr 0 [] 3, .inp 0 [], .arr 0 [(-1 : Int)] 3, .inp 0 [], .inp 0 [], .blk [.slc 5 0 1 true] 23]⟩
def st_ass_x9_1 (L : List (List Int)) (L_t : Bool) (ms : Int) (i : Nat) (O : List (List Int)) (q : List Int) (N : List (List Int)) (nn : Nat) (j : Nat) (a : List Int) : St cod := ⟨tmG 48 [(1, .c (.int .i64 ms)), (5, .c (.slc 2 0 (List.length q) false)), (0, .c (.own 3 (nn))), (1, .c (.slc 4 0 (List.length a) false)), (7, .c (.slc 0 0 (List.length L) L_t)), (0, .c (.int .i64 (Int.ofNat (List.length L)))), (0, .c (.int .i64 (Int.ofNat i))), (3, .c (.slc 1 0 (List.length O) false)), (0, .c (.int .i64 (Int.ofNat (List.length O)))), (0, .c (.int .i64 (Int.ofNat j))), (3, .c (.own 3 (nn))), (0, .c (.slc 4 0 (List.length a) false)), (0, .c (.ptr 4 0 0)), (0, .c (.int .i64 (List.getD a (0 + Int.toNat 0) (cod 0).d))), (0, .c (.int .i64 ms)), (0, .c (.int .i64 (List.getD a (0 + Int.toNat 0) (cod 0).d + ms))), (0, .c (.slc 5 0 1 true)), (0, .c (.slc 6 0 0 true)), (0, .c (.slc 4 0 (List.length a) false)), (0, .c (.slc 4 1 (List.length a - Int.toNat 1) false)), (0, .c (.slc 6 0 0 true)), (0, .c (.slc 8 0 1 true)), (0, .c (.slc 6 0 0 true)), (0, .c (.own 10 1)), (0, .c (.slc 11 0 1 true))], [.nin 0 (L) none, .nin 0 (O) none, .inp 0 q, .nown 0 (N) [] [] 23 3, .inp 0 a, .arr 0 ([List.getD a (0 + Int.toNat 0) (cod 0).d + ms]) 3, .arr 0 [] 3, .inp 0 [], .arr 0 [(-1 : Int)] 3, .inp 0 [], .own 0 (([List.getD a (0 + Int.toNat 0) (cod 0).d + ms]) ++ []) 3, .blk [.own 10 1] 23]⟩
def st_ass_x9_2 (L : List (List Int)) (L_t : Bool) (ms : Int) (i : Nat) (O : List (List Int)) (q : List Int) (N : List (List Int)) (nn : Nat) (j : Nat) (a : List Int) : St cod := ⟨tmG 48 [(1, .c (.int .i64 ms)), (5, .c (.slc 2 0 (List.length q) false)), (0, .c (.own 3 (nn))), (1, .c (.slc 4 0 (List.length a) false)), (7, .c (.slc 0 0 (List.length L) L_t)), (0, .c (.int .i64 (Int.ofNat (List.length L)))), (0, .c (.int .i64 (Int.ofNat i))), (3, .c (.slc 1 0 (List.length O) false)), (0, .c (.int .i64 (Int.ofNat (List.length O)))), (0, .c (.int .i64 (Int.ofNat j))), (3, .c (.own 3 (nn))), (0, .c (.slc 4 0 (List.length a) false)), (0, .c (.ptr 4 0 0)), (0, .c (.int .i64 (List.getD a (0 + Int.toNat 0) (cod 0).d))), (0, .c (.int .i64 ms)), (0, .c (.int .i64 (List.getD a (0 + Int.toNat 0) (cod 0).d + ms))), (0, .c (.slc 5 0 1 true)), (0, .c (.slc 6 0 0 true)), (0, .c (.slc 4 0 (List.length a) false)), (0, .c (.slc 4 1 (List.length a - Int.toNat 1) false)), (0, .c (.slc 6 0 0 true)), (0, .c (.slc 8 0 1 true)), (0, .c (.own 9 1)), (0, .c (.slc 5 0 1 true)), (0, .c (.slc 11 0 1 true))], [.nin 0 (L) none, .nin 0 (O) none, .inp 0 q, .nown 0 (N) [] [] 23 3, .inp 0 a, .arr 0 ([List.getD a (0 + Int.toNat 0) (cod 0).d + ms]) 3, .arr 0 [] 3, .inp 0 [], .arr 0 [(-1 : Int)] 3, .own 0 ([] ++ [(-1 : Int)] : List Int) 3, .inp 0 [], .blk [.slc 5 0 1 true] 23]⟩
def st_ass_x9_3 (L : List (List Int)) (L_t : Bool) (ms : Int) (i : Nat) (O : List (List Int)) (q : List Int) (N : List (List Int)) (nn : Nat) (j : Nat) (a : List Int) : St cod := ⟨tmG 48 [(1, .c (.int .i64 ms)), (5, .c (.slc 2 0 (List.length q) false)), (0, .c (.own 3 (nn))), (1, .c (.slc 4 0 (List.length a) false)), (7, .c (.slc 0 0 (List.length L) L_t)), (0, .c (.int .i64 (Int.ofNat (List.length L)))), (0, .c (.int .i64 (Int.ofNat i))), (3, .c (.slc 1 0 (List.length O) false)), (0, .c (.int .i64 (Int.ofNat (List.length O)))), (0, .c (.int .i64 (Int.ofNat j))), (3, .c (.own 3 (nn))), (0, .c (.slc 4 0 (List.length a) false)), (0, .c (.ptr 4 0 0)), (0, .c (.int .i64 (List.getD a (0 + Int.toNat 0) (cod 0).d))), (0, .c (.int .i64 ms)), (0, .c (.int .i64 (List.getD a (0 + Int.toNat 0) (cod 0).d + ms))), (0, .c (.slc 5 0 1 true)), (0, .c (.slc 6 0 0 true)), (0, .c (.slc 4 0 (List.length a) false)), (0, .c (.slc 4 1 (List.length a - Int.toNat 1) false)), (0, .c (.slc 6 0 0 true)), (0, .c (.slc 8 0 1 true)), (0, .c (.own 9 1)), (0, .c (.own 10 2)), (0, .c (.slc 11 0 1 true))], [.nin 0 (L) none, .nin 0 (O) none, .inp 0 q, .nown 0 (N) [] [] 23 3, .inp 0 a, .arr 0 ([List.getD a (0 + Int.toNat 0) (cod 0).d + ms]) 3, .arr 0 [] 3, .inp 0 [], .arr 0 [(-1 : Int)] 3, .own 0 ([] ++ [(-1 : Int)] : List Int) 3, .own 0 (([List.getD a (0 + Int.toNat 0) (cod 0).d + ms]) ++ ([] ++ [(-1 : Int)]) : List Int) 3, .blk [.own 10 2] 23]⟩
def st_ass_x9_4 (L : List (List Int)) (L_t : Bool) (ms : Int) (i : Nat) (O : List (List Int)) (q : List Int) (N : List (List Int)) (nn : Nat) (j : Nat) (a : List Int) : St cod := ⟨tmG 48 [(1, .c (.int .i64 ms)), (5, .c (.slc 2 0 (List.length q) false)), (0, .c (.own 3 (nn))), (1, .c (.slc 4 0 (List.length a) false)), (7, .c (.slc 0 0 (List.length L) L_t)), (0, .c (.int .i64 (Int.ofNat (List.length L)))), (0, .c (.int .i64 (Int.ofNat i))), (3, .c (.slc 1 0 (List.length O) false)), (0, .c (.int .i64 (Int.ofNat (List.length O)))), (0, .c (.int .i64 (Int.ofNat j))), (3, .c (.own 3 (nn))), (0, .c (.slc 4 0 (List.length a) false)), (0, .c (.ptr 4 0 0)), (0, .c (.int .i64 (List.getD a (0 + Int.toNat 0) (cod 0).d))), (0, .c (.int .i64 ms)), (0, .c (.int .i64 (List.getD a (0 + Int.toNat 0) (cod 0).d + ms))), (0, .c (.slc 5 0 1 true)), (0, .c (.slc 6 0 0 true)), (0, .c (.slc 4 0 (List.length a) false)), (0, .c (.slc 4 1 (List.length a - Int.toNat 1) false)), (0, .c (.own 7 (0 + List.length (List.take (List.length a - Int.toNat 1) (List.drop (0 + Int.toNat 1) a))))), (0, .c (.slc 8 0 1 true)), (0, .c (.own 9 (0 + List.length (List.take (List.length a - Int.toNat 1) (List.drop (0 + Int.toNat 1) a)) + 1))), (0, .c (.slc 5 0 1 true)), (0, .c (.slc 11 0 1 true))], [.nin 0 (L) none, .nin 0 (O) none, .inp 0 q, .nown 0 (N) [] [] 23 3, .inp 0 a, .arr 0 ([List.getD a (0 + Int.toNat 0) (cod 0).d + ms]) 3, .arr 0 [] 3, .dead, .arr 0 [(-1 : Int)] 3, .own 0 (([] ++ (List.take (List.length a - Int.toNat 1) (List.drop (0 + Int.toNat 1) a))) ++ [(-1 : Int)] : List Int) 3, .inp 0 [], .blk [.slc 5 0 1 true] 23]⟩
def st_ass_x9_5 (L : List (List Int)) (L_t : Bool) (ms : Int) (i : Nat) (O : List (List Int)) (q : List Int) (N : List (List Int)) (nn : Nat) (j : Nat) (a : List Int) : St cod := ⟨tmG 48 [(1, .c (.int .i64 ms)), (5, .c (.slc 2 0 (List.length q) false)), (0, .c (.own 3 (nn))), (1, .c (.slc 4 0 (List.length a) false)), (7, .c (.slc 0 0 (List.length L) L_t)), (0, .c (.int .i64 (Int.ofNat (List.length L)))), (0, .c (.int .i64 (Int.ofNat i))), (3, .c (.slc 1 0 (List.length O) false)), (0, .c (.int .i64 (Int.ofNat (List.length O)))), (0, .c (.int .i64 (Int.ofNat j))), (3, .c (.own 3 (nn))), (0, .c (.slc 4 0 (List.length a) false)), (0, .c (.ptr 4 0 0)), (0, .c (.int .i64 (List.getD a (0 + Int.toNat 0) (cod 0).d))), (0, .c (.int .i64 ms)), (0, .c (.int .i64 (List.getD a (0 + Int.toNat 0) (cod 0).d + ms))), (0, .c (.slc 5 0 1 true)), (0, .c (.slc 6 0 0 true)), (0, .c (.slc 4 0 (List.length a) false)), (0, .c (.slc 4 1 (List.length a - Int.toNat 1) false)), (0, .c (.own 7 (0 + List.length (List.take (List.length a - Int.toNat 1) (List.drop (0 + Int.toNat 1) a))))), (0, .c (.slc 8 0 1 true)), (0, .c (.own 9 (0 + List.length (List.take (List.length a - Int.toNat 1) (List.drop (0 + Int.toNat 1) a)) + 1))), (0, .c (.own 10 (1 + List.length ([] ++ List.take (List.length a - Int.toNat 1) (List.drop (0 + Int.toNat 1) a) ++ [(-1 : Int)])))), (0, .c (.slc 11 0 1 true))], [.nin 0 (L) none, .nin 0 (O) none, .inp 0 q, .nown 0 (N) [] [] 23 3, .inp 0 a, .arr 0 ([List.getD a (0 + Int.toNat 0) (cod 0).d + ms]) 3, .arr 0 [] 3, .dead, .arr 0 [(-1 : Int)] 3, .own 0 (([] ++ (List.take (List.length a - Int.toNat 1) (List.drop (0 + Int.toNat 1) a))) ++ [(-1 : Int)] : List Int) 3, .own 0 (([List.getD a (0 + Int.toNat 0) (cod 0).d + ms]) ++ (([] ++ (List.take (List.length a - Int.toNat 1) (List.drop (0 + Int.toNat 1) a))) ++ [(-1 : Int)]) : List Int) 3, .blk [.own 10 (1 + List.length ([] ++ List.take (List.length a - Int.toNat 1) (List.drop (0 + Int.toNat 1) a) ++ [(-1 : Int)]))] 23]⟩
theorem ass_x9' (L : List (List Int)) (L_t : Bool) (ms : Int) (i : Nat) (O : List (List Int)) (q : List Int) (N : List (List Int)) (nn : Nat) (j : Nat) (a : List Int) : preT (Cfg.maybe C_best) (preA Q9 15) [some 36, some 37, some 40, some 41, some 42, some 43] (st_ass_r9b L L_t ms i O q N nn j a) =
 .need (((0 : Int) ≤ 0 ∧ (0 : Int) < Int.ofNat (List.length a))) (
.need ((0 + Int.toNat 0 : Nat) < List.length a) (
.need (i64ok (List.getD a (0 + Int.toNat 0) (cod 0).d + ms)) (
.need (((0 : Int) ≤ 1 ∧ (1 : Int) ≤ Int.ofNat (List.length a))) (
.need (List.length (List.take (List.length a - Int.toNat 1) (List.drop (0 + Int.toNat 1) a)) = List.length a - Int.toNat 1) (
.ite (decide (List.length (List.take (List.length a - Int.toNat 1) (List.drop (0 + Int.toNat 1) a)) = 0)) (
 .need (1 = 1) (
 .ite (decide (1 = 0)) (
  .need (0 = 0) (
  .ite (decide (0 = 0)) (
   .ret (st_ass_x9_0 L L_t ms i O q N nn j a)) (
   .need (1 = 1) (
   .need (((0 : Nat) < 0 ∧ (1 + 0 : Nat) ≤ 1000000)) (
   .ret (st_ass_x9_1 L L_t ms i O q N nn j a)))))) (
  .need (0 = 0) (
  .need (((0 : Nat) < 1 ∧ (0 + 1 : Nat) ≤ 1000000)) (
  .ite (decide (1 = 0)) (
   .ret (st_ass_x9_2 L L_t ms i O q N nn j a)) (
   .need (1 = 1) (
   .need (((0 : Nat) < 1 ∧ (1 + 1 : Nat) ≤ 1000000)) (
   .ret (st_ass_x9_3 L L_t ms i O q N nn j a))))))))) (
 .need (0 = 0) (
 .need (((0 : Nat) < List.length (List.take (List.length a - Int.toNat 1) (List.drop (0 + Int.toNat 1) a)) ∧ 0 + List.length (List.take (List.length a - Int.toNat 1) (List.drop (0 + Int.toNat 1) a)) ≤ 1000000)) (
 .need (1 = 1) (
 .need (0 + List.length (List.take (List.length a - Int.toNat 1) (List.drop (0 + Int.toNat 1) a)) + 1 ≤ 1000000) (
 .ite (decide (List.length ([] ++ List.take (List.length a - Int.toNat 1) (List.drop (0 + Int.toNat 1) a) ++ [(-1 : Int)]) = 0)) (
  .ret (st_ass_x9_4 L L_t ms i O q N nn j a)) (
  .need (1 = 1) (
  .need (((0 : Nat) < List.length ([] ++ List.take (List.length a - Int.toNat 1) (List.drop (0 + Int.toNat 1) a) ++ [(-1 : Int)]) ∧ 1 + List.length ([] ++ List.take (List.length a - Int.toNat 1) (List.drop (0 + Int.toNat 1) a) ++ [(-1 : Int)]) ≤ 1000000)) (
  .ret (st_ass_x9_5 L L_t ms i O q N nn j a)))))))))))))) := by kernel_rfl
def st_ass_x20_0 (L : List (List Int)) (L_t : Bool) (ms : Int) (i : Nat) (O : List (List Int)) (q : List Int) (N : List (List Int)) (nn : Nat) (j : Nat) (a : List Int) (k : Nat) (c : Int) : St cod := ⟨tmG 6 [(1, .c (.int .i64 ms)), (5, .c (.slc 2 0 (List.length q) false)), (0, .c (.own 3 (nn))), (1, .c (.slc 4 0 (List.length a) false)), (0, .c (.int .i64 (Int.ofNat k))), (0, .c (.int .i64 c)), (5, .c (.slc 0 0 (List.length L) L_t)), (0, .c (.int .i64 (Int.ofNat (List.length L)))), (0, .c (.int .i64 (Int.ofNat i))), (3, .c (.slc 1 0 (List.length O) false)), (0, .c (.int .i64 (Int.ofNat (List.length O)))), (0, .c (.int .i64 (Int.ofNat j))), (19, .c (.slc 2 0 (List.length q) false)), (0, .c (.int .i64 (Int.ofNat (List.length q)))), (0, .c (.int .i64 (Int.ofNat k))), (22, .c (.own 3 (nn))), (0, .c (.slc 4 0 (List.length a) false)), (0, .c (.ptr 4 0 0)), (0, .c (.int .i64 (List.getD a (0 + Int.toNat 0) (cod 0).d))), (0, .c (.int .i64 c)), (0, .c (.int .i64 (List.getD a (0 + Int.toNat 0) (cod 0).d + c))), (0, .c (.slc 5 0 1 true)), (0, .c (.slc 6 0 0 true)), (0, .c (.slc 4 0 (List.length a) false)), (0, .c (.slc 4 1 (List.length a - Int.toNat 1) false)), (0, .c (.slc 6 0 0 true)), (0, .c (.int .i64 (Int.ofNat k))), (0, .c (.slc 8 0 1 true)), (0, .c (.slc 6 0 0 true)), (0, .c (.slc 5 0 1 true)), (0, .c (.slc 11 0 1 true))], [.nin 0 (L) none, .nin 0 (O) none, .inp 0 q, .nown 0 (N) [] [] 23 3, .inp 0 a, .arr 0 ([List.getD a (0 + Int.toNat 0) (cod 0).d + c]) 3, .arr 0 [] 3, .inp 0 [], .arr 0 ([Int.ofNat k]) 3, .inp 0 [], .inp 0 [], .blk [.slc 5 0 1 true] 23]⟩
def st_ass_x20_1 (L : List (List Int)) (L_t : Bool) (ms : Int) (i : Nat) (O : List (List Int)) (q : List Int) (N : List (List Int)) (nn : Nat) (j : Nat) (a : List Int) (k : Nat) (c : Int) : St cod := ⟨tmG 6 [(1, .c (.int .i64 ms)), (5, .c (.slc 2 0 (List.length q) false)), (0, .c (.own 3 (nn))), (1, .c (.slc 4 0 (List.length a) false)), (0, .c (.int .i64 (Int.ofNat k))), (0, .c (.int .i64 c)), (5, .c (.slc 0 0 (List.length L) L_t)), (0, .c (.int .i64 (Int.ofNat (List.length L)))), (0, .c (.int .i64 (Int.ofNat i))), (3, .c (.slc 1 0 (List.length O) false)), (0, .c (.int .i64 (Int.ofNat (List.length O)))), (0, .c (.int .i64 (Int.ofNat j))), (19, .c (.slc 2 0 (List.length q) false)), (0, .c (.int .i64 (Int.ofNat (List.length q)))), (0, .c (.int .i64 (Int.ofNat k))), (22, .c (.own 3 (nn))), (0, .c (.slc 4 0 (List.length a) false)), (0, .c (.ptr 4 0 0)), (0, .c (.int .i64 (List.getD a (0 + Int.toNat 0) (cod 0).d))), (0, .c (.int .i64 c)), (0, .c (.int .i64 (List.getD a (0 + Int.toNat 0) (cod 0).d + c))), (0, .c (.slc 5 0 1 true)), (0, .c (.slc 6 0 0 true)), (0, .c (.slc 4 0 (List.length a) false)), (0, .c (.slc 4 1 (List.length a - Int.toNat 1) false)), (0, .c (.slc 6 0 0 true)), (0, .c (.int .i64 (Int.ofNat k))), (0, .c (.slc 8 0 1 true)), (0, .c (.slc 6 0 0 true)), (0, .c (.own 10 1)), (0, .c (.slc 11 0 1 true))], [.nin 0 (L) none, .nin 0 (O) none, .inp 0 q, .nown 0 (N) [] [] 23 3, .inp 0 a, .arr 0 ([List.getD a (0 + Int.toNat 0) (cod 0).d + c]) 3, .arr 0 [] 3, .inp 0 [], .arr 0 ([Int.ofNat k]) 3, .inp 0 [], .own 0 (([List.getD a (0 + Int.toNat 0) (cod 0).d + c]) ++ []) 3, .blk [.own 10 1] 23]⟩
def st_ass_x20_2 (L : List (List Int)) (L_t : Bool) (ms : Int) (i : Nat) (O : List (List Int)) (q : List Int) (N : List (List Int)) (nn : Nat) (j : Nat) (a : List Int) (k : Nat) (c : Int) : St cod := ⟨tmG 6 [(1, .c (.int .i64 ms)), (5, .c (.slc 2 0 (List.length q) false)), (0, .c (.own 3 (nn))), (1, .c (.slc 4 0 (List.length a) false)), (0, .c (.int .i64 (Int.ofNat k))), (0, .c (.int .i64 c)), (5, .c (.slc 0 0 (List.length L) L_t)), (0, .c (.int .i64 (Int.ofNat (List.length L)))), (0, .c (.int .i64 (Int.ofNat i))), (3, .c (.slc 1 0 (List.length O) false)), (0, .c (.int .i64 (Int.ofNat (List.length O)))), (0, .c (.int .i64 (Int.ofNat j))), (19, .c (.slc 2 0 (List.length q) false)), (0, .c (.int .i64 (Int.ofNat (List.length q)))), (0, .c (.int .i64 (Int.ofNat k))), (22, .c (.own 3 (nn))), (0, .c (.slc 4 0 (List.length a) false)), (0, .c (.ptr 4 0 0)), (0, .c (.int .i64 (List.getD a (0 + Int.toNat 0) (cod 0).d))), (0, .c (.int .i64 c)), (0, .c (.int .i64 (List.getD a (0 + Int.toNat 0) (cod 0).d + c))), (0, .c (.slc 5 0 1 true)), (0, .c (.slc 6 0 0 true)), (0, .c (.slc 4 0 (List.length a) false)), (0, .c (.slc 4 1 (List.length a - Int.toNat 1) false)), (0, .c (.slc 6 0 0 true)), (0, .c (.int .i64 (Int.ofNat k))), (0, .c (.slc 8 0 1 true)), (0, .c (.own 9 1)), (0, .c (.slc 5 0 1 true)), (0, .c (.slc 11 0 1 true))], [.nin 0 (L) none, .nin 0 (O) none, .inp 0 q, .nown 0 (N) [] [] 23 3, .inp 0 a, .arr 0 ([List.getD a (0 + Int.toNat 0) (cod 0).d + c]) 3, .arr 0 [] 3, .inp 0 [], .arr 0 ([Int.ofNat k]) 3, .own 0 ([] ++ ([Int.ofNat k])) 3, .inp 0 [], .blk [.slc 5 0 1 true] 23]⟩
def st_ass_x20_3 (L : List (List Int)) (L_t : Bool) (ms : Int) (i : Nat) (O : List (List Int)) (q : List Int) (N : List (List Int)) (nn : Nat) (j : Nat) (a : List Int) (k : Nat) (c : Int) : St cod := ⟨tmG 6 [(1, .c (.int .i64 ms)), (5, .c (.slc 2 0 (List.length q) false)), (0, .c (.own 3 (nn))), (1, .c (.slc 4 0 (List.length a) false)), (0, .c (.int .i64 (Int.ofNat k))), (0, .c (.int .i64 c)), (5, .c (.slc 0 0 (List.length L) L_t)), (0, .c (.int .i64 (Int.ofNat (List.length L)))), (0, .c (.int .i64 (Int.ofNat i))), (3, .c (.slc 1 0 (List.length O) false)), (0, .c (.int .i64 (Int.ofNat (List.length O)))), (0, .c (.int .i64 (Int.ofNat j))), (19, .c (.slc 2 0 (List.length q) false)), (0, .c (.int .i64 (Int.ofNat (List.length q)))), (0, .c (.int .i64 (Int.ofNat k))), (22, .c (.own 3 (nn))), (0, .c (.slc 4 0 (List.length a) false)), (0, .c (.ptr 4 0 0)), (0, .c (.int .i64 (List.getD a (0 + Int.toNat 0) (cod 0).d))), (0, .c (.int .i64 c)), (0, .c (.int .i64 (List.getD a (0 + Int.toNat 0) (cod 0).d + c))), (0, .c (.slc 5 0 1 true)), (0, .c (.slc 6 0 0 true)), (0, .c (.slc 4 0 (List.length a) false)), (0, .c (.slc 4 1 (List.length a - Int.toNat 1) false)), (0, .c (.slc 6 0 0 true)), (0, .c (.int .i64 (Int.ofNat k))), (0, .c (.slc 8 0 1 true)), (0, .c (.own 9 1)), (0, .c (.own 10 2)), (0, .c (.slc 11 0 1 true))], [.nin 0 (L) none, .nin 0 (O) none, .inp 0 q, .nown 0 (N) [] [] 23 3, .inp 0 a, .arr 0 ([List.getD a (0 + Int.toNat 0) (cod 0).d + c]) 3, .arr 0 [] 3, .inp 0 [], .arr 0 ([Int.ofNat k]) 3, .own 0 ([] ++ ([Int.ofNat k])) 3, .own 0 (([List.getD a (0 + Int.toNat 0) (cod 0).d + c]) ++ ([] ++ ([Int.ofNat k]))) 3, .blk [.own 10 2] 23]⟩
def st_ass_x20_4 (L : List (List Int)) (L_t : Bool) (ms : Int) (i : Nat) (O : List (List Int)) (q : List Int) (N : List (List Int)) (nn : Nat) (j : Nat) (a : List Int) (k : Nat) (c : Int) : St cod := ⟨tmG 6 [(1, .c (.int .i64 ms)), (5, .c (.slc 2 0 (List.length q) false)), (0, .c (.own 3 (nn))), (1, .c (.slc 4 0 (List.length a) false)), (0, .c (.int .i64 (Int.ofNat k))), (0, .c (.int .i64 c)), (5, .c (.slc 0 0 (List.length L) L_t)), (0, .c (.int .i64 (Int.ofNat (List.length L)))), (0, .c (.int .i64 (Int.ofNat i))), (3, .c (.slc 1 0 (List.length O) false)), (0, .c (.int .i64 (Int.ofNat (List.length O)))), (0, .c (.int .i64 (Int.ofNat j))), (19, .c (.slc 2 0 (List.length q) false)), (0, .c (.int .i64 (Int.ofNat (List.length q)))), (0, .c (.int .i64 (Int.ofNat k))), (22, .c (.own 3 (nn))), (0, .c (.slc 4 0 (List.length a) false)), (0, .c (.ptr 4 0 0)), (0, .c (.int .i64 (List.getD a (0 + Int.toNat 0) (cod 0).d))), (0, .c (.int .i64 c)), (0, .c (.int .i64 (List.getD a (0 + Int.toNat 0) (cod 0).d + c))), (0, .c (.slc 5 0 1 true)), (0, .c (.slc 6 0 0 true)), (0, .c (.slc 4 0 (List.length a) false)), (0, .c (.slc 4 1 (List.length a - Int.toNat 1) false)), (0, .c (.own 7 (0 + List.length (List.take (List.length a - Int.toNat 1) (List.drop (0 + Int.toNat 1) a))))), (0, .c (.int .i64 (Int.ofNat k))), (0, .c (.slc 8 0 1 true)), (0, .c (.own 9 (0 + List.length (List.take (List.length a - Int.toNat 1) (List.drop (0 + Int.toNat 1) a)) + 1))), (0, .c (.slc 5 0 1 true)), (0, .c (.slc 11 0 1 true))], [.nin 0 (L) none, .nin 0 (O) none, .inp 0 q, .nown 0 (N) [] [] 23 3, .inp 0 a, .arr 0 ([List.getD a (0 + Int.toNat 0) (cod 0).d + c]) 3, .arr 0 [] 3, .dead, .arr 0 ([Int.ofNat k]) 3, .own 0 (([] ++ (List.take (List.length a - Int.toNat 1) (List.drop (0 + Int.toNat 1) a))) ++ ([Int.ofNat k])) 3, .inp 0 [], .blk [.slc 5 0 1 true] 23]⟩
def st_ass_x20_5 (L : List (List Int)) (L_t : Bool) (ms : Int) (i : Nat) (O : List (List Int)) (q : List Int) (N : List (List Int)) (nn : Nat) (j : Nat) (a : List Int) (k : Nat) (c : Int) : St cod := ⟨tmG 6 [(1, .c (.int .i64 ms)), (5, .c (.slc 2 0 (List.length q) false)), (0, .c (.own 3 (nn))), (1, .c (.slc 4 0 (List.length a) false)), (0, .c (.int .i64 (Int.ofNat k))), (0, .c (.int .i64 c)), (5, .c (.slc 0 0 (List.length L) L_t)), (0, .c (.int .i64 (Int.ofNat (List.length L)))), (0, .c (.int .i64 (Int.ofNat i))), (3, .c (.slc 1 0 (List.length O) false)), (0, .c (.int .i64 (Int.ofNat (List.length O)))), (0, .c (.int .i64 (Int.ofNat j))), (19, .c (.slc 2 0 (List.length q) false)), (0, .c (.int .i64 (Int.ofNat (List.length q)))), (0, .c (.int .i64 (Int.ofNat k))), (22, .c (.own 3 (nn))), (0, .c (.slc 4 0 (List.length a) false)), (0, .c (.ptr 4 0 0)), (0, .c (.int .i64 (List.getD a (0 + Int.toNat 0) (cod 0).d))), (0, .c (.int .i64 c)), (0, .c (.int .i64 (List.getD a (0 + Int.toNat 0) (cod 0).d + c))), (0, .c (.slc 5 0 1 true)), (0, .c (.slc 6 0 0 true)), (0, .c (.slc 4 0 (List.length a) false)), (0, .c (.slc 4 1 (List.length a - Int.toNat 1) false)), (0, .c (.own 7 (0 + List.length (List.take (List.length a - Int.toNat 1) (List.drop (0 + Int.toNat 1) a))))), (0, .c (.int .i64 (Int.ofNat k))), (0, .c (.slc 8 0 1 true)), (0, .c (.own 9 (0 + List.length (List.take (List.length a - Int.toNat 1) (List.drop (0 + Int.toNat 1) a)) + 1))), (0, .c (.own 10 (1 + List.length ([] ++ List.take (List.length a - Int.toNat 1) (List.drop (0 + Int.toNat 1) a) ++ [Int.ofNat k])))), (0, .c (.slc 11 0 1 true))], [.nin 0 (L) none, .nin 0 (O) none, .inp 0 q, .nown 0 (N) [] [] 23 3, .inp 0 a, .arr 0 ([List.getD a (0 + Int.toNat 0) (cod 0).d + c]) 3, .arr 0 [] 3, .dead, .arr 0 ([Int.ofNat k]) 3, .own 0 (([] ++ (List.take (List.length a - Int.toNat 1) (List.drop (0 + Int.toNat 1) a))) ++ ([Int.ofNat k])) 3, .own 0 (([List.getD a (0 + Int.toNat 0) (cod 0).d + c]) ++ (([] ++ (List.take (List.length a - Int.toNat 1) (List.drop (0 + Int.toNat 1) a))) ++ ([Int.ofNat k]))) 3, .blk [.own 10 (1 + List.length ([] ++ List.take (List.length a - Int.toNat 1) (List.drop (0 + Int.toNat 1) a) ++ [Int.ofNat k]))] 23]⟩
theorem ass_x20' (L : List (List Int)) (L_t : Bool) (ms : Int) (i : Nat) (O : List (List Int)) (q : List Int) (N : List (List Int)) (nn : Nat) (j : Nat) (a : List Int) (k : Nat) (c : Int) : preT (Cfg.maybe C_best) (preA Q20 16) [some 77, some 78, some 81, some 83, some 84, some 85] (st_ass_r20 L L_t ms i O q N nn j a k c) =
 .need (((0 : Int) ≤ 0 ∧ (0 : Int) < Int.ofNat (List.length a))) (
.need ((0 + Int.toNat 0 : Nat) < List.length a) (
.need (i64ok (List.getD a (0 + Int.toNat 0) (cod 0).d + c)) (
.need (((0 : Int) ≤ 1 ∧ (1 : Int) ≤ Int.ofNat (List.length a))) (
.need (List.length (List.take (List.length a - Int.toNat 1) (List.drop (0 + Int.toNat 1) a)) = List.length a - Int.toNat 1) (
.ite (decide (List.length (List.take (List.length a - Int.toNat 1) (List.drop (0 + Int.toNat 1) a)) = 0)) (
 .need (1 = 1) (
 .ite (decide (1 = 0)) (
  .need (0 = 0) (
  .ite (decide (0 = 0)) (
   .ret (st_ass_x20_0 L L_t ms i O q N nn j a k c)) (
   .need (1 = 1) (
   .need (((0 : Nat) < 0 ∧ (1 + 0 : Nat) ≤ 1000000)) (
   .ret (st_ass_x20_1 L L_t ms i O q N nn j a k c)))))) (
  .need (0 = 0) (
  .need (((0 : Nat) < 1 ∧ (0 + 1 : Nat) ≤ 1000000)) (
  .ite (decide (1 = 0)) (
   .ret (st_ass_x20_2 L L_t ms i O q N nn j a k c)) (
   .need (1 = 1) (
   .need (((0 : Nat) < 1 ∧ (1 + 1 : Nat) ≤ 1000000)) (
   .ret (st_ass_x20_3 L L_t ms i O q N nn j a k c))))))))) (
 .need (0 = 0) (
 .need (((0 : Nat) < List.length (List.take (List.length a - Int.toNat 1) (List.drop (0 + Int.toNat 1) a)) ∧ 0 + List.length (List.take (List.length a - Int.toNat 1) (List.drop (0 + Int.toNat 1) a)) ≤ 1000000)) (
 .need (1 = 1) (
 .need (0 + List.length (List.take (List.length a - Int.toNat 1) (List.drop (0 + Int.toNat 1) a)) + 1 ≤ 1000000) (
 .ite (decide   (List.length ([] ++ List.take (List.length a - Int.toNat 1) (List.drop (0 + Int.toNat 1) a) ++ [Int.ofNat k]) = 0)) (
  .ret (st_ass_x20_4 L L_t ms i O q N nn j a k c)) (
  .need (1 = 1) (
  .need (((0 : Nat) < List.length ([] ++ List.take (List.length a - Int.toNat 1) (List.drop (0 + Int.toNat 1) a) ++ [Int.ofNat k]) ∧ 1 + List.length ([] ++ List.take (List.length a - Int.toNat 1) (List.drop (0 + Int.toNat 1) a) ++ [Int.ofNat k]) ≤   1000000)) (
  .ret (st_ass_x20_5 L L_t ms i O q N nn j a k c)))))))))))))) := by kernel_rfl
/-- The append behind the first operations, and the row closed. -/
def aft1 (d : Nat) (N : List (List Int)) (m : Nat) (s : St cod) : St cod := s.put (some d) { v := .c (.own 3 (N.length + 1)), H := (s.heap.set 3 (.nown 0 (N ++ [[]]) [N.length] [.own 10 m] 23 3)).map (HObj.mapC (Cell.killed [3])), kill := [3] }
def aft2 (d : Nat) (N : List (List Int)) (m : Nat) (s : St cod) : St cod := (aft1 d N m s).put (some 8) { v := .c (.own 3 (N.length + 1)), H := (aft1 d N m s).heap }
theorem lt_last {α : Type} (L : List α) (x : α) : L.length < (L ++ [x]).length := by simp
theorem set_last {α : Type} (L : List α) (x y : α) : (L ++ [x]).set L.length y = L ++ [y] := by
  rw [List.set_append]
  simp
theorem tail_take (a : List Int) : List.take (List.length a - Int.toNat 1) (List.drop (0 + Int.toNat 1) a) = a.drop 1 := by
  have e : Int.toNat 1 = 1 := rfl
  rw [e, Nat.zero_add]
  exact List.take_of_length_le (by rw [List.length_drop]; exact Nat.le_refl _)
theorem app_fin {b0 : Base} (hb : b0.n = 1) {Q : St cod → Prop} {s stF : St cod} {kk : List Item} (d : Nat) (N : List (List Int)) (nn m : Nat) (row : List Int) (keep : List Nat) {O : Oper} {x y : Operand}
    (hop : O.op = .call ⟨.builtin .append, #[x, y], #[22, 22]⟩) (hdst : O.dst = some d) (hx : evS s.tmps x = .c (.own 3 nn)) (hy : evS s.tmps y = .c (.slc 11 0 1 true))
    (h3 : Sym.getObj s.heap 3 = .nown 0 N [] [] 23 3) (h11 : Sym.getObj s.heap 11 = .blk [.own 10 m] 23) (hN : N.length + 1 ≤ 1000000) {l2 : List Oper}
    (h2 : Sym.lexT (Cfg.maybe C_best) l2 (aft1 d N m s) = .ret (aft2 d N m s)) (hc3 : Sym.getObj (aft2 d N m s).heap 3 = .nown 0 (N ++ [[]]) [N.length] [.own 10 m] 23 3)
    (hc10 : rowOf 0 3 (aft2 d N m s).heap (.own 10 m) = some (10, row)) (hf : (((aft2 d N m s).closeW 3).fit keep 5) = stF) (hr : Sym.Runs Try.prog b0 kk stF Q) :
    ∃ s', StepW (Cfg.maybe C_best).P b0 O s s' ∧ (Sym.lexT (Cfg.maybe C_best) l2 s').wp fun s2 => Sym.Runs Try.prog b0 kk s2 Q := by
  refine ⟨aft1 d N m s, ?_, ?_⟩
  · refine StepW.app (b := 11) (h := 3) (n := nn) (c := .own 10 m) (T := 22) (ty := 23) (tyr := 3) (t := 0) (LL := N) (tb := 23) (B := 24) hop rfl rfl T22 Z23 (by omega) hx hy h3 h11 rfl hN (by omega) ?_
    rw [hdst]
    rfl
  · rw [h2]
    refine Runs.closeW 3 (j := N.length) (r := 10) (N := 1) hb (t := 0) (LL := N ++ [[]]) (js := []) (c := .own 10 m) (cs := []) (ty := 23) (tyr := 3) (l := row) hc3 (lt_last N []) List.not_mem_nil hc10 (by omega) (by omega) rfl ?_
    refine Runs.weaken (fun a w hR => ?_) hr
    rw [← hf]
    exact fit_rel _ _ (by omega) hR
theorem r10_set (L : List (List Int)) (L_t : Bool) (ms : Int) (i : Nat) (O : List (List Int)) (q : List Int) (N : List (List Int)) (nn : Nat) (j : Nat) (a : List Int) (row : List Int) : st_ass_r10 L L_t ms i O q ((N ++ [[]]).set N.length row) (N.length + 1) j a = st_ass_r10 L L_t ms i O q (N ++ [row]) (N.length + 1) j a := by rw [set_last]
theorem r21_set (L : List (List Int)) (L_t : Bool) (ms : Int) (i : Nat) (O : List (List Int)) (q : List Int) (N : List (List Int)) (nn : Nat) (j : Nat) (a : List Int) (k : Nat) (row : List Int) : st_ass_r21 L L_t ms i O q ((N ++ [[]]).set N.length row) (N.length + 1) j a k = st_ass_r21 L L_t ms i O q (N ++ [row]) (N.length + 1) j a k := by rw [set_last]
theorem ass_app9 (L : List (List Int)) (L_t : Bool) (ms : Int) (i : Nat) (O : List (List Int)) (q : List Int) (N : List (List Int)) (nn : Nat) (j : Nat) (a : List Int) {b0 : Base} (hb : b0.n = 1) {Q : St cod → Prop} (h0 : 0 < a.length) (h1 : a.length ≤ 1000) (hs : i64ok (a.getD 0 0 + ms)) (hN : N.length + 1 ≤ 1000000)
    (hr : Sym.Runs Try.prog b0 (regAt Try.f8 9).tail (st_ass_r10 L L_t ms i O q (N ++ [(a.getD 0 0 + ms) :: (a.drop 1 ++ [(-1 : Int)])]) (N.length + 1) j a) Q) : Sym.Runs Try.prog b0 (regAt Try.f8 9) (st_ass_r9b L L_t ms i O q N nn j a) Q := by
  have hl : (a.drop 1).length = a.length - 1 := List.length_drop
  have e1 : Int.toNat 1 = 1 := rfl
  refine Runs.preW (cfg := Cfg.maybe C_best) (CfgFit.maybe L_best_ok) mixed Q9_at 15 _ Q9_ok Q9_split (ass_x9' L L_t ms i O q N nn j a) ?_
  refine ⟨⟨by omega, by show (0 : Int) < (a.length : Int); omega⟩, by show 0 + Int.toNat 0 < a.length; simpa using h0, hs, ⟨by omega, by show (1 : Int) ≤ (a.length : Int); omega⟩, by rw [tail_take, hl]; rfl, ?_⟩
  by_cases c : a.length = 1
  · have hd : a.drop 1 = [] := List.eq_nil_of_length_eq_zero (by omega)
    refine ⟨fun _ => ⟨rfl, (fun h => by simp at h), fun _ => ⟨rfl, ⟨by omega, by omega⟩, (fun h => by simp at h), fun _ => ⟨rfl, ⟨by omega, by omega⟩, ?_⟩⟩⟩, fun h => ?_⟩
    · have er : (a.getD 0 0 + ms) :: (a.drop 1 ++ [(-1 : Int)]) = [List.getD a (0 + Int.toNat 0) 0 + ms] ++ ([] ++ [(-1 : Int)]) := by rw [hd]; rfl
      rw [er, ← r10_set (nn := nn)] at hr
      exact app_fin hb 45 N nn 2 ([List.getD a (0 + Int.toNat 0) 0 + ms] ++ ([] ++ [(-1 : Int)])) [10, 7, 1, 24, 18, 19, 20, 25, 26, 8] O45_op O45_dst rfl rfl rfl rfl hN (by kernel_rfl) rfl rfl (by kernel_rfl) hr
    · exfalso
      rw [tail_take, hd] at h; simp at h
  · refine ⟨fun h => ?_, fun _ => ⟨rfl, ⟨by rw [tail_take, hl]; omega, by rw [tail_take, hl]; omega⟩, rfl, by rw [tail_take, hl]; omega, fun h => ?_, fun _ => ⟨rfl, ⟨?_, ?_⟩, ?_⟩⟩⟩
    · exfalso
      rw [decide_eq_true_eq, tail_take, hl] at h; omega
    · exfalso
      simp at h
    · simp
    · rw [tail_take, List.nil_append, List.length_append, hl, List.length_singleton]; omega
    · have er : (a.getD 0 0 + ms) :: (a.drop 1 ++ [(-1 : Int)]) = [List.getD a (0 + Int.toNat 0) 0 + ms] ++ (([] ++ List.take (List.length a - Int.toNat 1) (List.drop (0 + Int.toNat 1) a)) ++ [(-1 : Int)]) := by rw [tail_take]; rfl
      rw [er, ← r10_set (nn := nn)] at hr
      exact app_fin hb 45 N nn _ ([List.getD a (0 + Int.toNat 0) 0 + ms] ++ (([] ++ List.take (List.length a - Int.toNat 1) (List.drop (0 + Int.toNat 1) a)) ++ [(-1 : Int)])) [10, 7, 1, 24, 18, 19, 20, 25, 26, 8] O45_op O45_dst rfl rfl rfl rfl hN (by kernel_rfl) rfl rfl (by kernel_rfl) hr
theorem ass_app20 (L : List (List Int)) (L_t : Bool) (ms : Int) (i : Nat) (O : List (List Int)) (q : List Int) (N : List (List Int)) (nn : Nat) (j : Nat) (a : List Int) (k : Nat) (c : Int) {b0 : Base} (hb : b0.n = 1) {Q : St cod → Prop} (h0 : 0 < a.length) (h1 : a.length ≤ 1000) (hs : i64ok (a.getD 0 0 + c)) (hN : N.length + 1 ≤ 1000000)
    (hr : Sym.Runs Try.prog b0 (regAt Try.f8 20).tail (st_ass_r21 L L_t ms i O q (N ++ [(a.getD 0 0 + c) :: (a.drop 1 ++ [(k : Int)])]) (N.length + 1) j a k) Q) : Sym.Runs Try.prog b0 (regAt Try.f8 20) (st_ass_r20 L L_t ms i O q N nn j a k c) Q := by
  have hl : (a.drop 1).length = a.length - 1 := List.length_drop
  refine Runs.preW (cfg := Cfg.maybe C_best) (CfgFit.maybe L_best_ok) mixed Q20_at 16 _ Q20_ok Q20_split (ass_x20' L L_t ms i O q N nn j a k c) ?_
  refine ⟨⟨by omega, by show (0 : Int) < (a.length : Int); omega⟩, by show 0 + Int.toNat 0 < a.length; simpa using h0, hs, ⟨by omega, by show (1 : Int) ≤ (a.length : Int); omega⟩, by rw [tail_take, hl]; rfl, ?_⟩
  by_cases c1 : a.length = 1
  · have hd : a.drop 1 = [] := List.eq_nil_of_length_eq_zero (by omega)
    refine ⟨fun _ => ⟨rfl, (fun h => by simp at h), fun _ => ⟨rfl, ⟨by omega, by omega⟩, (fun h => by simp at h), fun _ => ⟨rfl, ⟨by omega, by omega⟩, ?_⟩⟩⟩, fun h => ?_⟩
    · have er : (a.getD 0 0 + c) :: (a.drop 1 ++ [(k : Int)]) = [List.getD a (0 + Int.toNat 0) 0 + c] ++ ([] ++ [Int.ofNat k]) := by rw [hd]; rfl
      rw [er, ← r21_set (nn := nn)] at hr
      exact app_fin hb 87 N nn 2 ([List.getD a (0 + Int.toNat 0) 0 + c] ++ ([] ++ [Int.ofNat k])) [10, 46, 7, 1, 24, 18, 19, 20, 25, 26, 47, 8, 48] O87_op O87_dst rfl rfl rfl rfl hN (by kernel_rfl) rfl rfl (by kernel_rfl) hr
    · exfalso
      rw [tail_take, hd] at h; simp at h
  · refine ⟨fun h => ?_, fun _ => ⟨rfl, ⟨by rw [tail_take, hl]; omega, by rw [tail_take, hl]; omega⟩, rfl, by rw [tail_take, hl]; omega, fun h => ?_, fun _ => ⟨rfl, ⟨?_, ?_⟩, ?_⟩⟩⟩
    · exfalso
      rw [decide_eq_true_eq, tail_take, hl] at h; omega
    · exfalso
      simp at h
    · simp
    · rw [tail_take, List.nil_append, List.length_append, hl, List.length_singleton]; omega
    · have er : (a.getD 0 0 + c) :: (a.drop 1 ++ [(k : Int)]) = [List.getD a (0 + Int.toNat 0) 0 + c] ++ (([] ++ List.take (List.length a - Int.toNat 1) (List.drop (0 + Int.toNat 1) a)) ++ [Int.ofNat k]) := by rw [tail_take]; rfl
      rw [er, ← r21_set (nn := nn)] at hr
      exact app_fin hb 87 N nn _ ([List.getD a (0 + Int.toNat 0) 0 + c] ++ (([] ++ List.take (List.length a - Int.toNat 1) (List.drop (0 + Int.toNat 1) a)) ++ [Int.ofNat k])) [10, 46, 7, 1, 24, 18, 19, 20, 25, 26, 47, 8, 48] O87_op O87_dst rfl rfl rfl rfl hN (by kernel_rfl) rfl rfl (by kernel_rfl) hr
namespace F
def exK (q a : List Int) : Nat → Nat → List (List Int)
  | 0, _ => []
  | d + 1, k => (if q.getD k 0 < 0 ∨ (k : Int) ∈ a.drop 1 then [] else [(a.getD 0 0 + q.getD k 0) :: (a.drop 1 ++ [(k : Int)])]) ++ exK q a d (k + 1)
theorem exK_eq (q a : List Int) : ∀ d k, exK q a d k = (List.range' k d).flatMap fun k => if q.getD k 0 < 0 ∨ (k : Int) ∈ a.drop 1 then [] else [(a.getD 0 0 + q.getD k 0) :: (a.drop 1 ++ [(k : Int)])]
  | 0, k => rfl
  | d + 1, k => by
    rw [List.range'_succ, List.flatMap_cons, ← exK_eq q a d (k + 1)]
    rfl
theorem ext1_eq (ms : Int) (q a : List Int) : ext1 ms q a = ((a.getD 0 0 + ms) :: (a.drop 1 ++ [(-1 : Int)])) :: exK q a q.length 0 := by
  unfold ext1
  rw [exK_eq, List.range_eq_range']
theorem exK_len (q a : List Int) : ∀ d k, (exK q a d k).length ≤ d
  | 0, _ => Nat.le_refl _
  | d + 1, k => by
    unfold exK
    rw [List.length_append]
    have := exK_len q a d (k + 1)
    split
    · simp only [List.length_nil]; omega
    · simp only [List.length_singleton]; omega
def okO (i : Nat) (O : List (List Int)) : Prop := ∀ a ∈ O, a.length = i + 1 ∧ 0 ≤ a.getD 0 0 ∧ a.getD 0 0 ≤ (i : Int) * 1099511627776
theorem exK_ok {q a : List Int} {i : Nat} (hq : ∀ k, q.getD k 0 ≤ 1099511627776) (ha : a.length = i + 1 ∧ 0 ≤ a.getD 0 0 ∧ a.getD 0 0 ≤ (i : Int) * 1099511627776) : ∀ d k, okO (i + 1) (exK q a d k)
  | 0, _, b, hb => by cases hb
  | d + 1, k, b, hb => by
    unfold exK at hb
    rcases List.mem_append.1 hb with h | h
    · split at h
      · cases h
      · rename_i hc
        have hk := hq k
        have hn : 0 ≤ q.getD k 0 := Int.not_lt.1 fun e => hc (.inl e)
        have e : ((i + 1 : Nat) : Int) * 1099511627776 = (i : Int) * 1099511627776 + 1099511627776 := by rw [Int.natCast_succ, Int.add_mul, Int.one_mul]
        rw [List.mem_singleton.1 h]
        refine ⟨by simp only [List.length_cons, List.length_append, List.length_drop, List.length_nil]; omega, ?_, ?_⟩
        · show 0 ≤ a.getD 0 0 + q.getD k 0
          omega
        · show a.getD 0 0 + q.getD k 0 ≤ _
          rw [e]
          omega
    · exact exK_ok hq ha d (k + 1) b h
theorem ext1_ok {ms : Int} {q a : List Int} {i : Nat} (hm : 0 ≤ ms ∧ ms ≤ 1099511627776) (hq : ∀ k, q.getD k 0 ≤ 1099511627776) (ha : a.length = i + 1 ∧ 0 ≤ a.getD 0 0 ∧ a.getD 0 0 ≤ (i : Int) * 1099511627776) : okO (i + 1) (ext1 ms q a) := by
  intro b hb
  rw [ext1_eq] at hb
  rcases List.mem_cons.1 hb with h | h
  · have e : ((i + 1 : Nat) : Int) * 1099511627776 = (i : Int) * 1099511627776 + 1099511627776 := by rw [Int.natCast_succ, Int.add_mul, Int.one_mul]
    rw [h]
    refine ⟨by simp only [List.length_cons, List.length_append, List.length_drop, List.length_nil]; omega, ?_, ?_⟩
    · show 0 ≤ a.getD 0 0 + ms
      omega
    · show a.getD 0 0 + ms ≤ _
      rw [e]
      omega
  · exact exK_ok hq ha _ _ b h
theorem flat_ok {ms : Int} {q : List Int} {i : Nat} (hm : 0 ≤ ms ∧ ms ≤ 1099511627776) (hq : ∀ k, q.getD k 0 ≤ 1099511627776) {O : List (List Int)} (hO : okO i O) : okO (i + 1) (O.flatMap (ext1 ms q)) := by
  intro b hb
  obtain ⟨a, ha, h⟩ := List.mem_flatMap.1 hb
  exact ext1_ok hm hq (hO a ha) b h
theorem flat_len (ms : Int) {q : List Int} (hq : q.length ≤ 5) : ∀ (O : List (List Int)), (O.flatMap (ext1 ms q)).length ≤ 6 * O.length
  | [] => Nat.le_refl _
  | a :: O => by
    rw [List.flatMap_cons, List.length_append, ext1_eq, List.length_cons, List.length_cons]
    have h1 := exK_len q a q.length 0
    have h2 := flat_len ms hq O
    omega
theorem any_mem (l : List Int) (k : Int) : (l.any fun y => decide (y = k)) = decide (k ∈ l) := by
  rw [Bool.eq_iff_iff, List.any_eq_true, decide_eq_true_eq]
  constructor
  · rintro ⟨y, hy, e⟩
    rw [← of_decide_eq_true e]
    exact hy
  · intro h
    exact ⟨k, h, decide_eq_true rfl⟩
end F
theorem ass15 (L : List (List Int)) (L_t : Bool) (ms : Int) (i : Nat) (O : List (List Int)) (q : List Int) (N : List (List Int)) (nn : Nat) (j : Nat) (a : List Int) (k : Nat) (c : Int) (b0 : Base) (hb : b0.n = 1) (RR : SV) (NW : Heap cod) (ha : a.length ≤ 1000) : ∀ (d x : Nat) (u : Bool), x + d = a.length - 1 →
    ((u || (a.drop (1 + x)).any fun y => decide (y = (k : Int))) = true → Sym.Runs Try.prog b0 (regAt Try.f8 21) (st_ass_r21 L L_t ms i O q N nn j a k) (Sym.Ends Try.prog Try.f8 1 RR NW)) →
    ((u || (a.drop (1 + x)).any fun y => decide (y = (k : Int))) = false → Sym.Runs Try.prog b0 (regAt Try.f8 20) (st_ass_r20 L L_t ms i O q N nn j a k c) (Sym.Ends Try.prog Try.f8 1 RR NW)) →
    Sym.Runs Try.prog b0 (cutAt Try.f8 15) (st_ass_15 L L_t ms i O q N nn j a k c x u) (Sym.Ends Try.prog Try.f8 1 RR NW) := by
  have d0 : (cod 0).d = (0 : Int) := rfl
  intro d
  induction d with
  | zero =>
    intro x u hx hT hF
    have e : a.drop (1 + x) = [] := List.drop_eq_nil_of_le (by omega)
    rw [e] at hT hF
    refine Runs.go (cfg := C_best) L_best_ok mixed cuts_ass 400 hb (ass_t15 L L_t ms i O q N nn j a k c x u) ?_
    cases u with
    | true =>
      have A := hT rfl
      simp only [T.wp, T.wp_cond, Aft, Int.ofNat_eq_natCast, decide_eq_true_eq, Bool.not_eq_true']
      exact ite_no (by omega) (ite_no (by decide) A)
    | false =>
      have A := hF rfl
      simp only [T.wp, T.wp_cond, Aft, Int.ofNat_eq_natCast, decide_eq_true_eq, Bool.not_eq_true']
      exact ite_no (by omega) (ite_yes (by decide) A)
  | succ d ih =>
    intro x u hx hT hF
    have e : a.drop (1 + x) = a.getD (1 + x) 0 :: a.drop (1 + (x + 1)) := by rw [dropc a 0 (1 + x) (by omega)]; rfl
    rw [e, List.any_cons] at hT hF
    have hx1 : 1 + x < a.length := by omega
    refine Runs.go (cfg := C_best) L_best_ok mixed cuts_ass 400 hb (ass_t15 L L_t ms i O q N nn j a k c x u) ?_
    cases u with
    | true =>
      have nx := ih (x + 1) true (by omega) (fun _ => hT (by simp)) (fun h => by simp at h)
      simp only [T.wp, T.wp_cond, Aft, Int.ofNat_eq_natCast, decide_eq_true_eq, Bool.not_eq_true', Int.toNat_natCast, d0]
      refine ite_yes (by omega) ⟨⟨by omega, by omega⟩, hx1, ?_⟩
      exact ite_yes trivial ⟨by unfold i64ok; omega, nx⟩
    | false =>
      have nx := ih (x + 1) (decide (a.getD (1 + x) 0 = (k : Int))) (by omega) (fun h => hT (by simpa using h)) (fun h => hF (by simpa using h))
      simp only [T.wp, T.wp_cond, Aft, Int.ofNat_eq_natCast, decide_eq_true_eq, Bool.not_eq_true', Int.toNat_natCast, d0]
      refine ite_yes (by omega) ⟨⟨by omega, by omega⟩, hx1, ?_⟩
      exact ite_no (by decide) ⟨by unfold i64ok; omega, nx⟩
theorem ass11 (L : List (List Int)) (L_t : Bool) (ms : Int) (i : Nat) (O : List (List Int)) (q : List Int) (j : Nat) (hj : j ≤ 100000) (a : List Int) (b0 : Base) (hb : b0.n = 1) (RR : SV) (NW : Heap cod) (ha0 : 0 < a.length) (ha : a.length ≤ 1000) (hq5 : q.length ≤ 5) (hi : i ≤ 5) (hq : ∀ k, q.getD k 0 ≤ 1099511627776) (ha2 : 0 ≤ a.getD 0 0 ∧ a.getD 0 0 ≤ (i : Int) * 1099511627776) : ∀ (d k : Nat) (N : List (List Int)) (nn : Nat), k + d = q.length → N.length + d + 1 ≤ 1000000 → nn = N.length →
    Sym.Runs Try.prog b0 (cutAt Try.f8 7) (st_ass_7 L L_t ms i O q (N ++ F.exK q a d k) (N ++ F.exK q a d k).length (j + 1)) (Sym.Ends Try.prog Try.f8 1 RR NW) → Sym.Runs Try.prog b0 (cutAt Try.f8 11) (st_ass_11 L L_t ms i O q N nn j a k) (Sym.Ends Try.prog Try.f8 1 RR NW) := by
  have d0 : (cod 0).d = (0 : Int) := rfl
  intro d
  induction d with
  | zero =>
    intro k N nn hk hN hn nx
    have e : F.exK q a 0 k = [] := rfl
    rw [e, List.append_nil, ← hn] at nx
    refine Runs.go (cfg := C_best) L_best_ok mixed cuts_ass 400 hb (ass_t11 L L_t ms i O q N nn j a k) ?_
    simp only [T.wp, T.wp_cond, Aft, Int.ofNat_eq_natCast, decide_eq_true_eq, Nat.zero_add]
    exact ite_no (by omega) ⟨by unfold i64ok; omega, nx⟩
  | succ d ih =>
    intro k N nn hk hN hn nx
    have hkq : k < q.length := by omega
    have hi5 : (i : Int) * 1099511627776 ≤ 5 * 1099511627776 := Int.mul_le_mul_of_nonneg_right (by omega) (by omega)
    have hqk := hq k
    have e : F.exK q a (d + 1) k = (if q.getD k 0 < 0 ∨ (k : Int) ∈ a.drop 1 then [] else [(a.getD 0 0 + q.getD k 0) :: (a.drop 1 ++ [(k : Int)])]) ++ F.exK q a d (k + 1) := rfl
    rw [e] at nx
    have em : (decide (q.getD k 0 < 0) || (a.drop (1 + 0)).any fun y => decide (y = (k : Int))) = decide (q.getD k 0 < 0 ∨ (k : Int) ∈ a.drop 1) := by
      rw [F.any_mem, Bool.decide_or]
    have A := ass15 L L_t ms i O q N nn j a k (q.getD k 0) b0 hb RR NW ha (a.length - 1) 0 (decide (q.getD k 0 < 0)) (by omega) (fun h => by
      rw [em, decide_eq_true_eq] at h
      rw [if_pos h, List.nil_append] at nx
      have B := ih (k + 1) N nn (by omega) (by omega) hn nx
      refine Runs.go (cfg := C_best) L_best_ok mixed cuts_ass_r21 400 hb (ass_tr21 L L_t ms i O q N nn j a k) ?_
      simp only [T.wp, Aft, Int.ofNat_eq_natCast]
      exact ⟨by unfold i64ok; omega, B⟩) (fun h => by
      rw [em, decide_eq_false_iff_not] at h
      rw [if_neg h, ← List.append_assoc] at nx
      have B := ih (k + 1) (N ++ [(a.getD 0 0 + q.getD k 0) :: (a.drop 1 ++ [(k : Int)])]) (N.length + 1) (by omega) (by rw [List.length_append, List.length_singleton]; omega) (by rw [List.length_append]; rfl) nx
      refine ass_app20 L L_t ms i O q N nn j a k (q.getD k 0) hb ha0 ha (by unfold i64ok; have : ¬ q.getD k 0 < 0 := fun e => h (.inl e); omega) (by omega) ?_
      refine Runs.go (cfg := C_best) L_best_ok mixed cuts_ass_r21 400 hb (ass_y21 L L_t ms i O q _ (N.length + 1) j a k) ?_
      simp only [T.wp, Aft, Int.ofNat_eq_natCast]
      exact ⟨by unfold i64ok; omega, B⟩)
    refine Runs.go (cfg := C_best) L_best_ok mixed cuts_ass 400 hb (ass_t11 L L_t ms i O q N nn j a k) ?_
    simp only [T.wp, T.wp_cond, Aft, Int.ofNat_eq_natCast, decide_eq_true_eq, Nat.zero_add, Int.toNat_natCast, d0]
    exact ite_yes (by omega) ⟨⟨by omega, by omega⟩, hkq, ⟨by omega, by omega⟩, A⟩
theorem ass7 (L : List (List Int)) (L_t : Bool) (ms : Int) (i : Nat) (O : List (List Int)) (q : List Int) (b0 : Base) (hb : b0.n = 1) (RR : SV) (NW : Heap cod) (hm : 0 ≤ ms ∧ ms ≤ 1099511627776) (hq5 : q.length ≤ 5) (hi : i < 5) (hq : ∀ k, q.getD k 0 ≤ 1099511627776) (hO : F.okO i O) (hOl : O.length ≤ 10000) : ∀ (d j : Nat) (N : List (List Int)) (nn : Nat), j + d = O.length → N.length + 6 * d ≤ 900000 → nn = N.length →
    Sym.Runs Try.prog b0 (cutAt Try.f8 3) (st_ass_3 L L_t ms (i + 1) (N ++ (O.drop j).flatMap (F.ext1 ms q)) (N ++ (O.drop j).flatMap (F.ext1 ms q)).length) (Sym.Ends Try.prog Try.f8 1 RR NW) → Sym.Runs Try.prog b0 (cutAt Try.f8 7) (st_ass_7 L L_t ms i O q N nn j) (Sym.Ends Try.prog Try.f8 1 RR NW) := by
  intro d
  induction d with
  | zero =>
    intro j N nn hj hN hn nx
    rw [List.drop_eq_nil_of_le (by omega), List.flatMap_nil, List.append_nil, ← hn] at nx
    refine Runs.go (cfg := C_best) L_best_ok mixed cuts_ass 400 hb (ass_t7 L L_t ms i O q N nn j) ?_
    simp only [T.wp, T.wp_cond, Aft, Int.ofNat_eq_natCast, decide_eq_true_eq]
    refine ite_no (by omega) ⟨by unfold i64ok; omega, ?_⟩
    exact Runs.turn [0, 3] 1 hb (by decide) rfl rfl rfl nx
  | succ d ih =>
    intro j N nn hj hN hn nx
    have hjO : j < O.length := by omega
    obtain ⟨a, hae⟩ : ∃ a, a = O.getD j [] := ⟨_, rfl⟩
    have haO : a ∈ O := by rw [hae]; exact F.getD_mem hjO
    obtain ⟨a1, a2⟩ := hO a haO
    have hi5 : (i : Int) * 1099511627776 ≤ 5 * 1099511627776 := Int.mul_le_mul_of_nonneg_right (by omega) (by omega)
    rw [dropc O [] j hjO, List.flatMap_cons, ← hae, ← List.append_assoc] at nx
    have hex := F.ext1_eq ms q a
    have hexl : (F.ext1 ms q a).length ≤ 6 := by
      rw [hex, List.length_cons]
      have := F.exK_len q a q.length 0
      omega
    have B := ih (j + 1) (N ++ F.ext1 ms q a) _ (by omega) (by rw [List.length_append]; omega) rfl nx
    rw [hex] at B
    have e3 : N ++ ((a.getD 0 0 + ms) :: (a.drop 1 ++ [(-1 : Int)])) :: F.exK q a q.length 0 = (N ++ [(a.getD 0 0 + ms) :: (a.drop 1 ++ [(-1 : Int)])]) ++ F.exK q a q.length 0 := by simp
    rw [e3] at B
    have C := ass11 L L_t ms i O q j (by omega) a b0 hb RR NW (by omega) (by omega) hq5 (by omega) hq a2 q.length 0 (N ++ [(a.getD 0 0 + ms) :: (a.drop 1 ++ [(-1 : Int)])]) (N.length + 1) (by omega) (by rw [List.length_append, List.length_singleton]; omega) (by rw [List.length_append]; rfl) B
    refine Runs.go (cfg := C_best) L_best_ok mixed cuts_ass 400 hb (ass_t7 L L_t ms i O q N nn j) ?_
    simp only [T.wp, T.wp_cond, Aft, Int.ofNat_eq_natCast, decide_eq_true_eq]
    refine ite_yes (by omega) ?_
    refine Runs.open 1 j rfl hjO rfl ?_
    refine Runs.weaken (st' := st_ass_r8b L L_t ms i O q N nn j j (O.getD j [])) (fun a w hR => hR) ?_
    rw [← hae]
    refine Runs.go (cfg := C_best) L_best_ok mixed cuts_ass_r8b 400 hb (ass_tr8b L L_t ms i O q N nn j j a) ?_
    simp only [T.wp, Aft, Int.ofNat_eq_natCast, true_and, Nat.zero_add, Int.toNat_natCast]
    refine ⟨⟨by omega, by omega⟩, hjO, ?_⟩
    refine Runs.close 1 rfl ?_
    refine Runs.weaken (st' := st_ass_r9b L L_t ms i O q N nn j a) (fun a w hR => hR) ?_
    refine ass_app9 L L_t ms i O q N nn j a hb (by omega) (by omega) (by unfold i64ok; omega) (by omega) ?_
    refine Runs.go (cfg := C_best) L_best_ok mixed cuts_ass_r10 400 hb (ass_y10 L L_t ms i O q _ (N.length + 1) j a) ?_
    exact C
theorem ass3 (L : List (List Int)) (L_t : Bool) (ms : Int) (b0 : Base) (hb : b0.n = 1) (hc : F.cE L ms = 0) (hL : L.length ≤ 5) (hw : (L.getD 0 []).length ≤ 5) (RR : List (List Int)) : ∀ (d i : Nat) (O : List (List Int)), i + d = L.length → F.okO i O → O.length ≤ 6 ^ i → F.allG ms (L.drop i) O = RR →
    Sym.Runs Try.prog b0 (cutAt Try.f8 3) (st_ass_3 L L_t ms i O O.length) (Sym.Ends Try.prog Try.f8 1 (.c (.own 1 RR.length)) [.nown 0 RR [] [] 23 3]) := by
  obtain ⟨ok, hms⟩ := F.cE_ok hc
  intro d
  induction d with
  | zero =>
    intro i O hi hO hl hR
    rw [List.drop_eq_nil_of_le (by omega)] at hR
    have hR : O = RR := hR
    subst hR
    refine Runs.go (cfg := C_best) L_best_ok mixed cuts_ass 400 hb (ass_t3 L L_t ms i O O.length) ?_
    simp only [T.wp, T.wp_cond, Aft, Int.ofNat_eq_natCast, decide_eq_true_eq, and_true]
    exact ite_no (by omega) (by first | trivial | exact ⟨rfl, rfl⟩)
  | succ d ih =>
    intro i O hi hO hl hR
    have hil : i < L.length := by omega
    obtain ⟨q, hqe⟩ : ∃ q, q = L.getD i [] := ⟨_, rfl⟩
    have hqm : q ∈ L := by rw [hqe]; exact F.getD_mem hil
    obtain ⟨q1, q2, q3⟩ := ok q hqm
    have hq : ∀ k, q.getD k 0 ≤ 1099511627776 := fun k => by
      rw [List.getD_eq_getElem?_getD]
      rcases Nat.lt_or_ge k q.length with c | c
      · rw [List.getElem?_eq_getElem c]
        exact (q3 _ (List.getElem_mem c)).2
      · rw [List.getElem?_eq_none c]
        decide
    rw [dropc L [] i hil, ← hqe] at hR
    have hp : 6 ^ i * 6 ≤ 7776 := by
      rw [← Nat.pow_succ]
      exact Nat.pow_le_pow_right (by omega) (show i + 1 ≤ 5 by omega)
    have hfl := F.flat_len ms (q := q) (by omega) O
    have B := ih (i + 1) (O.flatMap (F.ext1 ms q)) (by omega) (F.flat_ok hms hq hO) (by rw [Nat.pow_succ]; omega) hR
    have C := ass7 L L_t ms i O q b0 hb (.c (.own 1 RR.length)) [.nown 0 RR [] [] 23 3] hms (by omega) (by omega) hq hO (by omega) O.length 0 [] 0 (by omega) (by simp only [List.length_nil]; omega) rfl B
    refine Runs.go (cfg := C_best) L_best_ok mixed cuts_ass 400 hb (ass_t3 L L_t ms i O O.length) ?_
    simp only [T.wp, T.wp_cond, Aft, Int.ofNat_eq_natCast, decide_eq_true_eq]
    refine ite_yes (by omega) ?_
    refine Runs.open 0 i rfl hil rfl ?_
    refine Runs.weaken (st' := st_ass_r4b L L_t ms i O O.length i (L.getD i [])) (fun a w hR => hR) ?_
    rw [← hqe]
    refine Runs.go (cfg := C_best) L_best_ok mixed cuts_ass_r4b 400 hb (ass_tr4b L L_t ms i O O.length i q) ?_
    simp only [T.wp, Aft, Int.ofNat_eq_natCast, true_and, Nat.zero_add, Int.toNat_natCast]
    refine ⟨⟨by omega, by omega⟩, hil, ?_⟩
    refine Runs.close 0 rfl ?_
    refine Runs.madeW 8 0 23 3 rfl rfl ?_
    refine Runs.seenN 1 (t := 0) (LL := O) (ty := 23) (tyr := 3) rfl rfl ?_
    refine Runs.soft 5 rfl ?_
    refine Runs.weaken (st' := st_ass_r6b L L_t ms i O q) (fun a w hR => hR) ?_
    refine Runs.go (cfg := C_best) L_best_ok mixed cuts_ass_r6b 400 hb (ass_tr6b L L_t ms i O q) ?_
    exact C

theorem ass_run (L : List (List Int)) (L_t : Bool) (ms : Int) (b0 : Base) (hb : b0.n = 1) (h0 : F.cE L ms = 0) (h1 : List.length L ≤ 5) (h2 : List.length (L.getD 0 []) ≤ 5) : Sym.Runs Try.prog b0 [.code (codeOf Try.f8)] ⟨argsS Try.f8 [.c (.slc 0 0 (List.length L) L_t), .c (.int .i64 ms)], ([.nin 0 L none] : Heap cod)⟩ (Sym.Ends Try.prog Try.f8 1 (.c (.own 1 (List.length (F.asd L ms)))) [.nown 0 (F.asd L ms) [] [] 23 3]) := by
  have A := ass3 L L_t ms b0 hb h0 h1 h2 (F.asd L ms) L.length 0 [[0]] (by omega) (fun a ha => by rw [List.mem_singleton.1 ha]; exact ⟨rfl, by decide, by decide⟩) (by decide) rfl
  refine Runs.go (cfg := C_best) L_best_ok mixed cuts_ass 400 hb (ass_t0 L L_t ms) ?_
  refine Runs.blkW 5 2 0 (cs := [.slc 1 0 1 true]) 23 3 rfl rfl (by decide) rfl ?_
  refine Runs.closeW 3 (j := 0) (r := 1) (N := 1) hb (t := 0) (LL := [[]]) (js := []) (c := .slc 1 0 1 true) (cs := []) (ty := 23) (tyr := 3) (l := ([0] : List Int)) rfl (by decide) List.not_mem_nil rfl (by omega) (by omega) rfl ?_
  refine Runs.turn [0, 3] 1 hb (by decide) rfl rfl (st' := st_ass_r2b L L_t ms [[0]] 1) rfl ?_
  refine Runs.go (cfg := C_best) L_best_ok mixed cuts_ass_r2b 400 hb (ass_tr2b L L_t ms [[0]] 1) ?_
  exact A




noncomputable def s_ass : Summ cod := fun args H => match args, H with
  | [.c (.slc 0 L_i L_n L_t), .c (.int .i64 ms)], [o0] => (match o0.asNin 0 with | some L => .need ((L_i = 0 ∧ L_n = List.length L) ∧ (F.cE L ms = 0) ∧ (List.length L ≤ 5) ∧ (List.length (L.getD 0 []) ≤ 5)) (.ret (.c (.own 1 (List.length (F.asd L ms))), [.nown 0 (F.asd L ms) [] [] 23 3])) | none => .fail)
  | _, _ => .fail


theorem ass_sound : Sound Try.prog cod 8 s_ass := sound_runs (cfg := C_best) L_best_ok mixed Try.func8 rfl rfl _ fun args H r news hg b0 hb => by
  unfold s_ass at hg
  split at hg
  · skip
    split at hg
    · rename_i L hx0
      cases asNin_spec hx0
      simp only [T.gives, T.wp, Prod.mk.injEq] at hg
      obtain ⟨⟨⟨rfl, rfl⟩, q1, q2, q3⟩, rfl, rfl⟩ := hg
      exact ass_run _ _ _ b0 hb (by assumption) (by assumption) (by assumption)
    · exact hg.elim
  · exact hg.elim

noncomputable def L_ass : Sums cod := (8, .p s_ass) :: L_best
noncomputable def C_ass : Cfg cod := mkC L_ass

theorem L_ass_ok : Snd Try.prog cod L_ass := .cons ass_sound L_best_ok


end
end Go.Proofs.Ytjffboggpofbfaa
