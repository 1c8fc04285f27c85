/- Part of a claim: lemmas on the way to its theorem; each states its own conditions. -/
import Derived.Test.YtgmnfdmlidhbcaaKe
namespace Go.Proofs.Ytgmnfdmlidhbcaa
open Sym Go.RowKit
noncomputable section
set_option maxRecDepth 100000
set_option maxHeartbeats 4000000



namespace F
def edg (x y : Ev) : Bool := if x.1 = y.1 then true else if x.2.1 = 1 then (if y.2.1 = 2 then decide (x.2.2 = y.2.2) else false) else false
def rG (l : List Ev) (i : Nat) : Nat → List Bool
  | 0 => List.replicate l.length false
  | j + 1 => (rG l i j).set (i + 1 + j) (edg (l.getD i ev0) (l.getD (i + 1 + j) ev0))
def eG (l : List Ev) : Nat → List (List Bool)
  | 0 => List.replicate l.length []
  | i + 1 => (eG l i).set i (rG l i (l.length - (i + 1)))
def wRow (m : Nat) (ri rm : List Bool) : Nat → List Bool
  | 0 => ri
  | k + 1 => (wRow m ri rm k).set k (if (wRow m ri rm k).getD k false then true else if (wRow m ri rm k).getD m false then rm.getD k false else false)
def wI (n m : Nat) (LL : List (List Bool)) : Nat → List (List Bool)
  | 0 => LL
  | i + 1 => if i = m then wI n m LL i else (wI n m LL i).set i (wRow m ((wI n m LL i).getD i []) ((wI n m LL i).getD m []) n)
def wM (l : List Ev) : Nat → List (List Bool)
  | 0 => eG l l.length
  | m + 1 => wI l.length m (wM l m) l.length
def lea (l : List Ev) : List (List Bool) := wM l l.length
end F
noncomputable def Q1 : Array Oper := opsI (regAt Try.f11 1)
noncomputable def Q5 : Array Oper := opsI (regAt Try.f11 5)


def cuts_lea : Cuts := [(100001, [0], 2), (100002, [3, 0], 2), (3, [3, 0, 14, 15, 16], 2), (100005, [5, 4, 3, 0, 14, 15, 16], 3), (100006, [5, 4, 3, 0, 14, 15, 16], 4), (7, [5, 4, 3, 0, 14, 15, 16, 6], 4), (100011, [3, 0, 14, 15, 16], 4), (13, [3, 0, 69, 70], 2), (16, [8, 3, 0, 69, 70, 74, 75], 2), (100018, [8, 3, 9, 0, 69, 70, 74, 75], 2), (19, [8, 3, 9, 0, 69, 70, 74, 75, 79, 80], 4), (100023, [8, 3, 0, 69, 70, 74, 75], 4)]
def cuts_lea_r1 : Cuts := [(100002, [3, 0], 2), (3, [3, 0, 14, 15, 16], 2), (100005, [5, 4, 3, 0, 14, 15, 16], 3), (100006, [5, 4, 3, 0, 14, 15, 16], 4), (7, [5, 4, 3, 0, 14, 15, 16, 6], 4), (100011, [3, 0, 14, 15, 16], 4), (13, [3, 0, 69, 70], 2), (16, [8, 3, 0, 69, 70, 74, 75], 2), (100018, [8, 3, 9, 0, 69, 70, 74, 75], 2), (19, [8, 3, 9, 0, 69, 70, 74, 75, 79, 80], 4), (100023, [8, 3, 0, 69, 70, 74, 75], 4)]
def cuts_lea_r2 : Cuts := [(100001, [0], 2), (3, [3, 0, 14, 15, 16], 2), (100005, [5, 4, 3, 0, 14, 15, 16], 3), (100006, [5, 4, 3, 0, 14, 15, 16], 4), (7, [5, 4, 3, 0, 14, 15, 16, 6], 4), (100011, [3, 0, 14, 15, 16], 4), (13, [3, 0, 69, 70], 2), (16, [8, 3, 0, 69, 70, 74, 75], 2), (100018, [8, 3, 9, 0, 69, 70, 74, 75], 2), (19, [8, 3, 9, 0, 69, 70, 74, 75, 79, 80], 4), (100023, [8, 3, 0, 69, 70, 74, 75], 4)]
def cuts_lea_r5 : Cuts := [(100001, [0], 2), (100002, [3, 0], 2), (3, [3, 0, 14, 15, 16], 2), (100006, [5, 4, 3, 0, 14, 15, 16], 4), (7, [5, 4, 3, 0, 14, 15, 16, 6], 4), (100011, [3, 0, 14, 15, 16], 4), (13, [3, 0, 69, 70], 2), (16, [8, 3, 0, 69, 70, 74, 75], 2), (100018, [8, 3, 9, 0, 69, 70, 74, 75], 2), (19, [8, 3, 9, 0, 69, 70, 74, 75, 79, 80], 4), (100023, [8, 3, 0, 69, 70, 74, 75], 4)]
def cuts_lea_r6 : Cuts := [(100001, [0], 2), (100002, [3, 0], 2), (3, [3, 0, 14, 15, 16], 2), (100005, [5, 4, 3, 0, 14, 15, 16], 3), (7, [5, 4, 3, 0, 14, 15, 16, 6], 4), (100011, [3, 0, 14, 15, 16], 4), (13, [3, 0, 69, 70], 2), (16, [8, 3, 0, 69, 70, 74, 75], 2), (100018, [8, 3, 9, 0, 69, 70, 74, 75], 2), (19, [8, 3, 9, 0, 69, 70, 74, 75, 79, 80], 4), (100023, [8, 3, 0, 69, 70, 74, 75], 4)]
def cuts_lea_r11 : Cuts := [(100001, [0], 2), (100002, [3, 0], 2), (3, [3, 0, 14, 15, 16], 2), (100005, [5, 4, 3, 0, 14, 15, 16], 3), (100006, [5, 4, 3, 0, 14, 15, 16], 4), (7, [5, 4, 3, 0, 14, 15, 16, 6], 4), (13, [3, 0, 69, 70], 2), (16, [8, 3, 0, 69, 70, 74, 75], 2), (100018, [8, 3, 9, 0, 69, 70, 74, 75], 2), (19, [8, 3, 9, 0, 69, 70, 74, 75, 79, 80], 4), (100023, [8, 3, 0, 69, 70, 74, 75], 4)]
def cuts_lea_r18 : Cuts := [(100001, [0], 2), (100002, [3, 0], 2), (3, [3, 0, 14, 15, 16], 2), (100005, [5, 4, 3, 0, 14, 15, 16], 3), (100006, [5, 4, 3, 0, 14, 15, 16], 4), (7, [5, 4, 3, 0, 14, 15, 16, 6], 4), (100011, [3, 0, 14, 15, 16], 4), (13, [3, 0, 69, 70], 2), (16, [8, 3, 0, 69, 70, 74, 75], 2), (19, [8, 3, 9, 0, 69, 70, 74, 75, 79, 80], 4), (100023, [8, 3, 0, 69, 70, 74, 75], 4)]
def cuts_lea_r23 : Cuts := [(100001, [0], 2), (100002, [3, 0], 2), (3, [3, 0, 14, 15, 16], 2), (100005, [5, 4, 3, 0, 14, 15, 16], 3), (100006, [5, 4, 3, 0, 14, 15, 16], 4), (7, [5, 4, 3, 0, 14, 15, 16, 6], 4), (100011, [3, 0, 14, 15, 16], 4), (13, [3, 0, 69, 70], 2), (16, [8, 3, 0, 69, 70, 74, 75], 2), (100018, [8, 3, 9, 0, 69, 70, 74, 75], 2), (19, [8, 3, 9, 0, 69, 70, 74, 75, 79, 80], 4)]

theorem lea_t0 (l : List (Int × Int × Int)) (l_t : Bool) : symF C_con cuts_lea Try.f11.results.toList 1 400 [.code (codeOf Try.f11)] ⟨argsS Try.f11 [.c (.slc 0 0 (List.length l) l_t)], ([.inp 1 l] : Heap cod)⟩ =
.ret (.cut (regAt Try.f11 1) ⟨tmG 117 [(0, .c (.slc 0 0 (List.length l) l_t))], [.inp 1 l]⟩) := by kernel_rfl


noncomputable def st_lea_r1 (l : List (Int × Int × Int)) (l_t : Bool)  : St cod := ⟨tmG 117 [(0, .c (.slc 0 0 (List.length l) l_t))], [.inp 1 l]⟩


noncomputable def st_lea_r2 (l : List (Int × Int × Int)) (l_t : Bool) (LL : List (List Bool)) : St cod := ⟨tmG 114 [(0, .c (.slc 0 0 (List.length l) l_t)), (2, .c (.own 1 (List.length LL)))], ([.inp 1 l, .nown 4 LL [] [] 35 4] : Heap cod)⟩


noncomputable def st_lea_3 (l : List (Int × Int × Int)) (l_t : Bool) (i : Int) (LL : List (List Bool)) : St cod := ⟨tmG 101 [(0, .c (.slc 0 0 (List.length l) l_t)), (2, .c (.own 1 (List.length LL))), (10, .c (.slc 0 0 (List.length l) l_t)), (0, .c (.int .i64 (Int.ofNat (List.length l)))), (0, .c (.int .i64 i))], ([.inp 1 l, .nown 4 LL [] [] 35 4] : Heap cod)⟩


theorem lea_t3 (l : List (Int × Int × Int)) (l_t : Bool) (i : Int) (LL : List (List Bool)) : symF C_con cuts_lea Try.f11.results.toList 1 400 (cutAt Try.f11 3) (st_lea_3 l l_t i LL) =
 cond (decide (i < Int.ofNat (List.length l))) (
 .need (((0 : Int) ≤ i ∧ i < Int.ofNat (List.length l))) (
 .need (0 + Int.toNat i < List.length l) (
 .ret (.cut (regAt Try.f11 5) ⟨tmG 101 [(0, .c (.slc 0 0 (List.length l) l_t)), (2, .c (.own 1 (List.length LL))), (0, .c (.int .i64 i)), (0, .c (.ptr 2 0 0)), (8, .c (.slc 0 0 (List.length l) l_t)), (0, .c (.int .i64 (Int.ofNat (List.length l)))), (0, .c (.int .i64 i))], [.inp 1 l, .nown 4 (LL) [] [] 35 4, .blk [.int .i64 ((List.getD l (0 + Int.toNat i) (cod 1).d).1), .int .i64 ((List.getD l (0 + Int.toNat i) (cod 1).d).2.1), .int .i64 ((List.getD l (0 + Int.toNat i) (cod 1).d).2.2)] 37]⟩)))) (
 .ret (.cut (cutAt Try.f11 13) ⟨tmG 47 [(0, .c (.slc 0 0 (List.length l) l_t)), (2, .c (.own 1 (List.length LL))), (65, .c (.int .i64 (Int.ofNat (List.length l)))), (0, .c (.int .i64 0))], [.inp 1 l, .nown 4 (LL) [] [] 35 4]⟩)) := by kernel_rfl


noncomputable def st_lea_r5 (l : List (Int × Int × Int)) (l_t : Bool) (i : Int) (LL : List (List Bool)) (a1 a2 a3 : Int) : St cod := ⟨tmG 101 [(0, .c (.slc 0 0 (List.length l) l_t)), (2, .c (.own 1 (List.length LL))), (0, .c (.int .i64 i)), (0, .c (.ptr 2 0 0)), (8, .c (.slc 0 0 (List.length l) l_t)), (0, .c (.int .i64 (Int.ofNat (List.length l)))), (0, .c (.int .i64 i))], ([.inp 1 l, .nown 4 LL [] [] 35 4, .blk [.int .i64 a1, .int .i64 a2, .int .i64 a3] 37] : Heap cod)⟩


noncomputable def st_lea_r6 (l : List (Int × Int × Int)) (l_t : Bool) (i : Int) (LL : List (List Bool)) (a1 a2 a3 : Int) (j n : Nat) (r : List Bool) : St cod := ⟨tmG 101 [(0, .c (.slc 0 0 (List.length l) l_t)), (2, .c (.own 1 (List.length LL))), (0, .c (.int .i64 i)), (0, .c (.ptr 2 0 0)), (8, .c (.slc 0 0 (List.length l) l_t)), (0, .c (.int .i64 (Int.ofNat (List.length l)))), (0, .c (.int .i64 i))], ([.inp 1 l, .nown 4 LL [j] [.slc 3 0 n true] 35 4, .blk [.int .i64 a1, .int .i64 a2, .int .i64 a3] 37, .arr 4 r 4] : Heap cod)⟩


noncomputable def st_lea_7 (l : List (Int × Int × Int)) (l_t : Bool) (i : Int) (LL : List (List Bool)) (a1 a2 a3 : Int) (j n : Nat) (r : List Bool) (k : Int) : St cod := ⟨tmG 101 [(0, .c (.slc 0 0 (List.length l) l_t)), (2, .c (.own 1 (List.length LL))), (0, .c (.int .i64 i)), (0, .c (.ptr 2 0 0)), (0, .c (.int .i64 k)), (7, .c (.slc 0 0 (List.length l) l_t)), (0, .c (.int .i64 (Int.ofNat (List.length l)))), (0, .c (.int .i64 i))], [.inp 1 l, .nown 4 (LL) [(j)] [.slc 3 0 (n) true] 35 4, .blk [.int .i64 a1, .int .i64 a2, .int .i64 a3] 37, .arr 4 r 4]⟩


theorem lea_t7 (l : List (Int × Int × Int)) (l_t : Bool) (i : Int) (LL : List (List Bool)) (a1 a2 a3 : Int) (j n : Nat) (r : List Bool) (k : Int) : symF C_con cuts_lea Try.f11.results.toList 1 400 (cutAt Try.f11 7) (st_lea_7 l l_t i LL a1 a2 a3 j n r k) =
 cond (decide (k < Int.ofNat (List.length l))) (
 .need (((0 : Int) ≤ k ∧ k < Int.ofNat (List.length l))) (
 .need (0 + Int.toNat k < List.length l) (
 .need (((0 : Int) ≤ i ∧ i < Int.ofNat (List.length LL))) (
 .need ((0 + Int.toNat i = j ∧ j < List.length LL)) (
 cond (decide (a1 = (List.getD l (0 + Int.toNat k) (cod 1).d).1)) (
  .need (((0 : Int) ≤ k ∧ k < Int.ofNat n)) (
  .need (0 + Int.toNat k < List.length r) (
  .need (i64ok (k + 1)) (
  .ret (.cut (cutAt Try.f11 7) ⟨tmG 101 [(0, .c (.slc 0 0 (List.length l) l_t)), (2, .c (.own 1 (List.length LL))), (0, .c (.int .i64 i)), (0, .c (.ptr 2 0 0)), (0, .c (.int .i64 (k + 1))), (7, .c (.slc 0 0 (List.length l) l_t)), (0, .c (.int .i64 (Int.ofNat (List.length l)))), (0, .c (.int .i64 i))], [.inp 1 l, .nown 4 (LL) [(j)] [.slc 3 0 (n) true] 35 4, .blk [.int .i64 a1, .int .i64 a2, .int .i64 a3] 37, .arr 4 (List.set r (0 + Int.toNat k) true) 4]⟩))))) (
  cond (decide (a2 = 1)) (
   cond (decide ((List.getD l (0 + Int.toNat k) (cod 1).d).2.1 = 2)) (
    .need (((0 : Int) ≤ k ∧ k < Int.ofNat n)) (
    .need (0 + Int.toNat k < List.length r) (
    .need (i64ok (k + 1)) (
    .ret (.cut (cutAt Try.f11 7) ⟨tmG 101 [(0, .c (.slc 0 0 (List.length l) l_t)), (2, .c (.own 1 (List.length LL))), (0, .c (.int .i64 i)), (0, .c (.ptr 2 0 0)), (0, .c (.int .i64 (k + 1))), (7, .c (.slc 0 0 (List.length l) l_t)), (0, .c (.int .i64 (Int.ofNat (List.length l)))), (0, .c (.int .i64 i))], [.inp 1 l, .nown 4 (LL) [(j)] [.slc 3 0 (n) true] 35 4, .blk [.int .i64 a1, .int .i64 a2, .int .i64 a3] 37, .arr 4 (List.set r (0 + Int.toNat k) (decide (a3 = (List.getD l (0 + Int.toNat k) (cod 1).d).2.2))) 4]⟩))))) (
    .need (((0 : Int) ≤ k ∧ k < Int.ofNat n)) (
    .need (0 + Int.toNat k < List.length r) (
    .need (i64ok (k + 1)) (
    .ret (.cut (cutAt Try.f11 7) ⟨tmG 101 [(0, .c (.slc 0 0 (List.length l) l_t)), (2, .c (.own 1 (List.length LL))), (0, .c (.int .i64 i)), (0, .c (.ptr 2 0 0)), (0, .c (.int .i64 (k + 1))), (7, .c (.slc 0 0 (List.length l) l_t)), (0, .c (.int .i64 (Int.ofNat (List.length l)))), (0, .c (.int .i64 i))], [.inp 1 l, .nown 4 (LL) [(j)] [.slc 3 0 (n) true] 35 4, .blk [.int .i64 a1, .int .i64 a2, .int .i64 a3] 37, .arr 4 (List.set r (0 + Int.toNat k) false) 4]⟩)))))) (
   .need (((0 : Int) ≤ k ∧ k < Int.ofNat n)) (
   .need (0 + Int.toNat k < List.length r) (
   .need (i64ok (k + 1)) (
   .ret (.cut (cutAt Try.f11 7) ⟨tmG 101 [(0, .c (.slc 0 0 (List.length l) l_t)), (2, .c (.own 1 (List.length LL))), (0, .c (.int .i64 i)), (0, .c (.ptr 2 0 0)), (0, .c (.int .i64 (k + 1))), (7, .c (.slc 0 0 (List.length l) l_t)), (0, .c (.int .i64 (Int.ofNat (List.length l)))), (0, .c (.int .i64 i))], [.inp 1 l, .nown 4 (LL) [(j)] [.slc 3 0 (n) true] 35 4, .blk [.int .i64 a1, .int .i64 a2, .int .i64 a3] 37, .arr 4 (List.set r (0 + Int.toNat k) false) 4]⟩))))))))))) (
 .ret (.cut (regAt Try.f11 11) ⟨tmG 101 [(0, .c (.slc 0 0 (List.length l) l_t)), (2, .c (.own 1 (List.length LL))), (10, .c (.slc 0 0 (List.length l) l_t)), (0, .c (.int .i64 (Int.ofNat (List.length l)))), (0, .c (.int .i64 i))], [.inp 1 l, .nown 4 (LL) [(j)] [.slc 3 0 (n) true] 35 4, .blk [.int .i64 a1, .int .i64 a2, .int .i64 a3] 37, .arr 4 r 4]⟩)) := by kernel_rfl


noncomputable def st_lea_r11 (l : List (Int × Int × Int)) (l_t : Bool) (i : Int) (LL : List (List Bool)) : St cod := ⟨tmG 101 [(0, .c (.slc 0 0 (List.length l) l_t)), (2, .c (.own 1 (List.length LL))), (10, .c (.slc 0 0 (List.length l) l_t)), (0, .c (.int .i64 (Int.ofNat (List.length l)))), (0, .c (.int .i64 i))], [.inp 1 l, .nown 4 (LL) [] [] 35 4]⟩


theorem lea_tr11 (l : List (Int × Int × Int)) (l_t : Bool) (i : Int) (LL : List (List Bool)) : symF C_con cuts_lea_r11 Try.f11.results.toList 1 400 (regAt Try.f11 11) (st_lea_r11 l l_t i LL) =
.need (i64ok (i + 1)) (
.ret (.cut (cutAt Try.f11 3) ⟨tmG 101 [(0, .c (.slc 0 0 (List.length l) l_t)), (2, .c (.own 1 (List.length LL))), (10, .c (.slc 0 0 (List.length l) l_t)), (0, .c (.int .i64 (Int.ofNat (List.length l)))), (0, .c (.int .i64 (i + 1)))], [.inp 1 l, .nown 4 (LL) [] [] 35 4]⟩)) := by kernel_rfl


noncomputable def st_lea_13 (l : List (Int × Int × Int)) (l_t : Bool) (m : Int) (LL : List (List Bool)) : St cod := ⟨tmG 47 [(0, .c (.slc 0 0 (List.length l) l_t)), (2, .c (.own 1 (List.length LL))), (65, .c (.int .i64 (Int.ofNat (List.length l)))), (0, .c (.int .i64 m))], ([.inp 1 l, .nown 4 LL [] [] 35 4] : Heap cod)⟩


theorem lea_t13 (l : List (Int × Int × Int)) (l_t : Bool) (m : Int) (LL : List (List Bool)) : symF C_con cuts_lea Try.f11.results.toList 1 400 (cutAt Try.f11 13) (st_lea_13 l l_t m LL) =
 cond (decide (m < Int.ofNat (List.length l))) (
 .ret (.cut (cutAt Try.f11 16) ⟨tmG 42 [(0, .c (.slc 0 0 (List.length l) l_t)), (2, .c (.own 1 (List.length LL))), (4, .c (.int .i64 m)), (60, .c (.int .i64 (Int.ofNat (List.length l)))), (0, .c (.int .i64 m)), (3, .c (.int .i64 (Int.ofNat (List.length l)))), (0, .c (.int .i64 0))], [.inp 1 l, .nown 4 (LL) [] [] 35 4]⟩)) (
 .ret (.fin (.c (.own 1 (List.length LL))) [.nown 4 (LL) [] [] 35 4])) := by kernel_rfl


noncomputable def st_lea_16 (l : List (Int × Int × Int)) (l_t : Bool) (m i : Int) (LL : List (List Bool)) : St cod := ⟨tmG 42 [(0, .c (.slc 0 0 (List.length l) l_t)), (2, .c (.own 1 (List.length LL))), (4, .c (.int .i64 m)), (60, .c (.int .i64 (Int.ofNat (List.length l)))), (0, .c (.int .i64 m)), (3, .c (.int .i64 (Int.ofNat (List.length l)))), (0, .c (.int .i64 i))], ([.inp 1 l, .nown 4 LL [] [] 35 4] : Heap cod)⟩


theorem lea_t16 (l : List (Int × Int × Int)) (l_t : Bool) (m i : Int) (LL : List (List Bool)) : symF C_con cuts_lea Try.f11.results.toList 1 400 (cutAt Try.f11 16) (st_lea_16 l l_t m i LL) =
 cond (decide (i < Int.ofNat (List.length l))) (
 .ret (.cut (regAt Try.f11 18) ⟨tmG 42 [(0, .c (.slc 0 0 (List.length l) l_t)), (2, .c (.own 1 (List.length LL))), (4, .c (.int .i64 m)), (0, .c (.int .i64 i)), (59, .c (.int .i64 (Int.ofNat (List.length l)))), (0, .c (.int .i64 m)), (3, .c (.int .i64 (Int.ofNat (List.length l)))), (0, .c (.int .i64 i))], [.inp 1 l, .nown 4 (LL) [] [] 35 4]⟩)) (
 .need (i64ok (m + 1)) (
 .ret (.cut (cutAt Try.f11 13) ⟨tmG 47 [(0, .c (.slc 0 0 (List.length l) l_t)), (2, .c (.own 1 (List.length LL))), (65, .c (.int .i64 (Int.ofNat (List.length l)))), (0, .c (.int .i64 (m + 1)))], [.inp 1 l, .nown 4 (LL) [] [] 35 4]⟩))) := by kernel_rfl


noncomputable def st_lea_r18 (l : List (Int × Int × Int)) (l_t : Bool) (m i : Int) (LL : List (List Bool)) : St cod := ⟨tmG 42 [(0, .c (.slc 0 0 (List.length l) l_t)), (2, .c (.own 1 (List.length LL))), (4, .c (.int .i64 m)), (0, .c (.int .i64 i)), (59, .c (.int .i64 (Int.ofNat (List.length l)))), (0, .c (.int .i64 m)), (3, .c (.int .i64 (Int.ofNat (List.length l)))), (0, .c (.int .i64 i))], ([.inp 1 l, .nown 4 LL [] [] 35 4] : Heap cod)⟩


theorem lea_tr18 (l : List (Int × Int × Int)) (l_t : Bool) (m i : Int) (LL : List (List Bool)) : symF C_con cuts_lea_r18 Try.f11.results.toList 1 400 (regAt Try.f11 18) (st_lea_r18 l l_t m i LL) =
.ret (.cut (cutAt Try.f11 19) ⟨tmG 37 [(0, .c (.slc 0 0 (List.length l) l_t)), (2, .c (.own 1 (List.length LL))), (4, .c (.int .i64 m)), (0, .c (.int .i64 i)), (59, .c (.int .i64 (Int.ofNat (List.length l)))), (0, .c (.int .i64 m)), (3, .c (.int .i64 (Int.ofNat (List.length l)))), (0, .c (.int .i64 i)), (3, .c (.int .i64 (Int.ofNat (List.length l)))), (0, .c (.int .i64 0))], [.inp 1 l, .nown 4 (LL) [] [] 35 4]⟩) := by kernel_rfl


noncomputable def st_lea_19 (l : List (Int × Int × Int)) (l_t : Bool) (m i : Int) (LL : List (List Bool)) (j n : Nat) (r : List Bool) (k : Int) : St cod := ⟨tmG 37 [(0, .c (.slc 0 0 (List.length l) l_t)), (2, .c (.own 1 (List.length LL))), (4, .c (.int .i64 m)), (0, .c (.int .i64 i)), (59, .c (.int .i64 (Int.ofNat (List.length l)))), (0, .c (.int .i64 m)), (3, .c (.int .i64 (Int.ofNat (List.length l)))), (0, .c (.int .i64 i)), (3, .c (.int .i64 (Int.ofNat (List.length l)))), (0, .c (.int .i64 k))], ([.inp 1 l, .nown 4 LL [j] [.own 2 n] 35 4, .own 4 r 4] : Heap cod)⟩


theorem lea_t19 (l : List (Int × Int × Int)) (l_t : Bool) (m i : Int) (LL : List (List Bool)) (j n : Nat) (r : List Bool) (k : Int) : symF C_con cuts_lea Try.f11.results.toList 1 400 (cutAt Try.f11 19) (st_lea_19 l l_t m i LL j n r k) =
 cond (decide (k < Int.ofNat (List.length l))) (
 .need (((0 : Int) ≤ i ∧ i < Int.ofNat (List.length LL))) (
 .need ((0 + Int.toNat i = j ∧ j < List.length LL)) (
 .need (((0 : Int) ≤ i ∧ i < Int.ofNat (List.length LL))) (
 .need ((0 + Int.toNat i = j ∧ j < List.length LL)) (
 .need (((0 : Int) ≤ k ∧ k < Int.ofNat n)) (
 .need (0 + Int.toNat k < List.length r) (
 cond (List.getD r (0 + Int.toNat k) (cod 4).d) (
  .need (((0 : Int) ≤ k ∧ k < Int.ofNat n)) (
  .need (0 + Int.toNat k < List.length r) (
  .need (i64ok (k + 1)) (
  .ret (.cut (cutAt Try.f11 19) ⟨tmG 37 [(0, .c (.slc 0 0 (List.length l) l_t)), (2, .c (.own 1 (List.length LL))), (4, .c (.int .i64 m)), (0, .c (.int .i64 i)), (59, .c (.int .i64 (Int.ofNat (List.length l)))), (0, .c (.int .i64 m)), (3, .c (.int .i64 (Int.ofNat (List.length l)))), (0, .c (.int .i64 i)), (3, .c (.int .i64 (Int.ofNat (List.length l)))), (0, .c (.int .i64 (k + 1)))], [.inp 1 l, .nown 4 (LL) [(j)] [.own 2 (n)] 35 4, .own 4 (List.set r (0 + Int.toNat k) true) 4]⟩))))) (
  .need (((0 : Int) ≤ i ∧ i < Int.ofNat (List.length LL))) (
  .need ((0 + Int.toNat i = j ∧ j < List.length LL)) (
  .need (((0 : Int) ≤ m ∧ m < Int.ofNat n)) (
  .need (0 + Int.toNat m < List.length r) (
  cond (List.getD r (0 + Int.toNat m) (cod 4).d) (
   .need (((0 : Int) ≤ m ∧ m < Int.ofNat (List.length LL))) (
   .need ((0 + Int.toNat m = j ∧ j < List.length LL)) (
   .need (((0 : Int) ≤ k ∧ k < Int.ofNat n)) (
   .need (0 + Int.toNat k < List.length r) (
   .need (((0 : Int) ≤ k ∧ k < Int.ofNat n)) (
   .need (0 + Int.toNat k < List.length r) (
   .need (i64ok (k + 1)) (
   .ret (.cut (cutAt Try.f11 19) ⟨tmG 37 [(0, .c (.slc 0 0 (List.length l) l_t)), (2, .c (.own 1 (List.length LL))), (4, .c (.int .i64 m)), (0, .c (.int .i64 i)), (59, .c (.int .i64 (Int.ofNat (List.length l)))), (0, .c (.int .i64 m)), (3, .c (.int .i64 (Int.ofNat (List.length l)))), (0, .c (.int .i64 i)), (3, .c (.int .i64 (Int.ofNat (List.length l)))), (0, .c (.int .i64 (k + 1)))], [.inp 1 l, .nown 4 (LL) [(j)] [.own 2 (n)] 35 4, .own 4 (List.set r (0 + Int.toNat k) (List.getD r (0 + Int.toNat k) (cod 4).d)) 4]⟩))))))))) (
   .need (((0 : Int) ≤ k ∧ k < Int.ofNat n)) (
   .need (0 + Int.toNat k < List.length r) (
   .need (i64ok (k + 1)) (
   .ret (.cut (cutAt Try.f11 19) ⟨tmG 37 [(0, .c (.slc 0 0 (List.length l) l_t)), (2, .c (.own 1 (List.length LL))), (4, .c (.int .i64 m)), (0, .c (.int .i64 i)), (59, .c (.int .i64 (Int.ofNat (List.length l)))), (0, .c (.int .i64 m)), (3, .c (.int .i64 (Int.ofNat (List.length l)))), (0, .c (.int .i64 i)), (3, .c (.int .i64 (Int.ofNat (List.length l)))), (0, .c (.int .i64 (k + 1)))], [.inp 1 l, .nown 4 (LL) [(j)] [.own 2 (n)] 35 4, .own 4 (List.set r (0 + Int.toNat k) false) 4]⟩))))))))))))))))) (
 .ret (.cut (regAt Try.f11 23) ⟨tmG 42 [(0, .c (.slc 0 0 (List.length l) l_t)), (2, .c (.own 1 (List.length LL))), (4, .c (.int .i64 m)), (60, .c (.int .i64 (Int.ofNat (List.length l)))), (0, .c (.int .i64 m)), (3, .c (.int .i64 (Int.ofNat (List.length l)))), (0, .c (.int .i64 i))], [.inp 1 l, .nown 4 (LL) [(j)] [.own 2 (n)] 35 4, .own 4 r 4]⟩)) := by kernel_rfl


noncomputable def st_lea_19b (l : List (Int × Int × Int)) (l_t : Bool) (m i : Int) (LL : List (List Bool)) (u v n n' : Nat) (ri rm : List Bool) (k : Int) : St cod := ⟨tmG 37 [(0, .c (.slc 0 0 (List.length l) l_t)), (2, .c (.own 1 (List.length LL))), (4, .c (.int .i64 m)), (0, .c (.int .i64 i)), (59, .c (.int .i64 (Int.ofNat (List.length l)))), (0, .c (.int .i64 m)), (3, .c (.int .i64 (Int.ofNat (List.length l)))), (0, .c (.int .i64 i)), (3, .c (.int .i64 (Int.ofNat (List.length l)))), (0, .c (.int .i64 k))], ([.inp 1 l, .nown 4 LL [v, u] [.own 3 n', .own 2 n] 35 4, .own 4 ri 4, .own 4 rm 4] : Heap cod)⟩


theorem lea_t19b (l : List (Int × Int × Int)) (l_t : Bool) (m i : Int) (LL : List (List Bool)) (u v n n' : Nat) (ri rm : List Bool) (k : Int) : symF C_con cuts_lea Try.f11.results.toList 1 400 (cutAt Try.f11 19) (st_lea_19b l l_t m i LL u v n n' ri rm k) =
 cond (decide (k < Int.ofNat (List.length l))) (
 .need (((0 : Int) ≤ i ∧ i < Int.ofNat (List.length LL))) (
 .ite (decide (0 + Int.toNat i = v)) (
  .need (v < List.length LL) (
  .need (((0 : Int) ≤ i ∧ i < Int.ofNat (List.length LL))) (
  .ite (decide (0 + Int.toNat i = v)) (
   .need (v < List.length LL) (
   .need (((0 : Int) ≤ k ∧ k < Int.ofNat n')) (
   .need (0 + Int.toNat k < List.length rm) (
   cond (List.getD rm (0 + Int.toNat k) (cod 4).d) (
    .need (((0 : Int) ≤ k ∧ k < Int.ofNat n')) (
    .need (0 + Int.toNat k < List.length rm) (
    .need (i64ok (k + 1)) (
    .ret (.cut (cutAt Try.f11 19) ⟨tmG 37 [(0, .c (.slc 0 0 (List.length l) l_t)), (2, .c (.own 1 (List.length LL))), (4, .c (.int .i64 m)), (0, .c (.int .i64 i)), (59, .c (.int .i64 (Int.ofNat (List.length l)))), (0, .c (.int .i64 m)), (3, .c (.int .i64 (Int.ofNat (List.length l)))), (0, .c (.int .i64 i)), (3, .c (.int .i64 (Int.ofNat (List.length l)))), (0, .c (.int .i64 (k + 1)))], [.inp 1 l, .nown 4 (LL) [(v), (u)] [.own 3 (n'), .own 2 (n)] 35 4, .own 4 ri 4, .own 4 (List.set rm (0 + Int.toNat k) true) 4]⟩))))) (
    .need (((0 : Int) ≤ i ∧ i < Int.ofNat (List.length LL))) (
    .ite (decide (0 + Int.toNat i = v)) (
     .need (v < List.length LL) (
     .need (((0 : Int) ≤ m ∧ m < Int.ofNat n')) (
     .need (0 + Int.toNat m < List.length rm) (
     cond (List.getD rm (0 + Int.toNat m) (cod 4).d) (
      .need (((0 : Int) ≤ m ∧ m < Int.ofNat (List.length LL))) (
      .ite (decide (0 + Int.toNat m = v)) (
       .need (v < List.length LL) (
       .need (((0 : Int) ≤ k ∧ k < Int.ofNat n')) (
       .need (0 + Int.toNat k < List.length rm) (
       .need (((0 : Int) ≤ k ∧ k < Int.ofNat n')) (
       .need (0 + Int.toNat k < List.length rm) (
       .need (i64ok (k + 1)) (
       .ret (.cut (cutAt Try.f11 19) ⟨tmG 37 [(0, .c (.slc 0 0 (List.length l) l_t)), (2, .c (.own 1 (List.length LL))), (4, .c (.int .i64 m)), (0, .c (.int .i64 i)), (59, .c (.int .i64 (Int.ofNat (List.length l)))), (0, .c (.int .i64 m)), (3, .c (.int .i64 (Int.ofNat (List.length l)))), (0, .c (.int .i64 i)), (3, .c (.int .i64 (Int.ofNat (List.length l)))), (0, .c (.int .i64 (k + 1)))], [.inp 1 l, .nown 4 (LL) [(v), (u)] [.own 3 (n'), .own 2 (n)] 35 4, .own 4 ri 4, .own 4 (List.set rm (0 + Int.toNat k) (List.getD rm (0 + Int.toNat k) (cod 4).d)) 4]⟩)))))))) (
       .need ((0 + Int.toNat m = u ∧ u < List.length LL)) (
       .need (((0 : Int) ≤ k ∧ k < Int.ofNat n)) (
       .need (0 + Int.toNat k < List.length ri) (
       .need (((0 : Int) ≤ k ∧ k < Int.ofNat n')) (
       .need (0 + Int.toNat k < List.length rm) (
       .need (i64ok (k + 1)) (
       .ret (.cut (cutAt Try.f11 19) ⟨tmG 37 [(0, .c (.slc 0 0 (List.length l) l_t)), (2, .c (.own 1 (List.length LL))), (4, .c (.int .i64 m)), (0, .c (.int .i64 i)), (59, .c (.int .i64 (Int.ofNat (List.length l)))), (0, .c (.int .i64 m)), (3, .c (.int .i64 (Int.ofNat (List.length l)))), (0, .c (.int .i64 i)), (3, .c (.int .i64 (Int.ofNat (List.length l)))), (0, .c (.int .i64 (k + 1)))], [.inp 1 l, .nown 4 (LL) [(v), (u)] [.own 3 (n'), .own 2 (n)] 35 4, .own 4 ri 4, .own 4 (List.set rm (0 + Int.toNat k) (List.getD ri (0 + Int.toNat k) (cod 4).d)) 4]⟩)))))))))) (
      .need (((0 : Int) ≤ k ∧ k < Int.ofNat n')) (
      .need (0 + Int.toNat k < List.length rm) (
      .need (i64ok (k + 1)) (
      .ret (.cut (cutAt Try.f11 19) ⟨tmG 37 [(0, .c (.slc 0 0 (List.length l) l_t)), (2, .c (.own 1 (List.length LL))), (4, .c (.int .i64 m)), (0, .c (.int .i64 i)), (59, .c (.int .i64 (Int.ofNat (List.length l)))), (0, .c (.int .i64 m)), (3, .c (.int .i64 (Int.ofNat (List.length l)))), (0, .c (.int .i64 i)), (3, .c (.int .i64 (Int.ofNat (List.length l)))), (0, .c (.int .i64 (k + 1)))], [.inp 1 l, .nown 4 (LL) [(v), (u)] [.own 3 (n'), .own 2 (n)] 35 4, .own 4 ri 4, .own 4 (List.set rm (0 + Int.toNat k) false) 4]⟩))))))))) (
     .need ((0 + Int.toNat i = u ∧ u < List.length LL)) (
     .need (((0 : Int) ≤ m ∧ m < Int.ofNat n)) (
     .need (0 + Int.toNat m < List.length ri) (
     cond (List.getD ri (0 + Int.toNat m) (cod 4).d) (
      .need (((0 : Int) ≤ m ∧ m < Int.ofNat (List.length LL))) (
      .ite (decide (0 + Int.toNat m = v)) (
       .need (v < List.length LL) (
       .need (((0 : Int) ≤ k ∧ k < Int.ofNat n')) (
       .need (0 + Int.toNat k < List.length rm) (
       .need (((0 : Int) ≤ k ∧ k < Int.ofNat n')) (
       .need (0 + Int.toNat k < List.length rm) (
       .need (i64ok (k + 1)) (
       .ret (.cut (cutAt Try.f11 19) ⟨tmG 37 [(0, .c (.slc 0 0 (List.length l) l_t)), (2, .c (.own 1 (List.length LL))), (4, .c (.int .i64 m)), (0, .c (.int .i64 i)), (59, .c (.int .i64 (Int.ofNat (List.length l)))), (0, .c (.int .i64 m)), (3, .c (.int .i64 (Int.ofNat (List.length l)))), (0, .c (.int .i64 i)), (3, .c (.int .i64 (Int.ofNat (List.length l)))), (0, .c (.int .i64 (k + 1)))], [.inp 1 l, .nown 4 (LL) [(v), (u)] [.own 3 (n'), .own 2 (n)] 35 4, .own 4 ri 4, .own 4 (List.set rm (0 + Int.toNat k) (List.getD rm (0 + Int.toNat k) (cod 4).d)) 4]⟩)))))))) (
       .need ((0 + Int.toNat m = u ∧ u < List.length LL)) (
       .need (((0 : Int) ≤ k ∧ k < Int.ofNat n)) (
       .need (0 + Int.toNat k < List.length ri) (
       .need (((0 : Int) ≤ k ∧ k < Int.ofNat n')) (
       .need (0 + Int.toNat k < List.length rm) (
       .need (i64ok (k + 1)) (
       .ret (.cut (cutAt Try.f11 19) ⟨tmG 37 [(0, .c (.slc 0 0 (List.length l) l_t)), (2, .c (.own 1 (List.length LL))), (4, .c (.int .i64 m)), (0, .c (.int .i64 i)), (59, .c (.int .i64 (Int.ofNat (List.length l)))), (0, .c (.int .i64 m)), (3, .c (.int .i64 (Int.ofNat (List.length l)))), (0, .c (.int .i64 i)), (3, .c (.int .i64 (Int.ofNat (List.length l)))), (0, .c (.int .i64 (k + 1)))], [.inp 1 l, .nown 4 (LL) [(v), (u)] [.own 3 (n'), .own 2 (n)] 35 4, .own 4 ri 4, .own 4 (List.set rm (0 + Int.toNat k) (List.getD ri (0 + Int.toNat k) (cod 4).d)) 4]⟩)))))))))) (
      .need (((0 : Int) ≤ k ∧ k < Int.ofNat n')) (
      .need (0 + Int.toNat k < List.length rm) (
      .need (i64ok (k + 1)) (
      .ret (.cut (cutAt Try.f11 19) ⟨tmG 37 [(0, .c (.slc 0 0 (List.length l) l_t)), (2, .c (.own 1 (List.length LL))), (4, .c (.int .i64 m)), (0, .c (.int .i64 i)), (59, .c (.int .i64 (Int.ofNat (List.length l)))), (0, .c (.int .i64 m)), (3, .c (.int .i64 (Int.ofNat (List.length l)))), (0, .c (.int .i64 i)), (3, .c (.int .i64 (Int.ofNat (List.length l)))), (0, .c (.int .i64 (k + 1)))], [.inp 1 l, .nown 4 (LL) [(v), (u)] [.own 3 (n'), .own 2 (n)] 35 4, .own 4 ri 4, .own 4 (List.set rm (0 + Int.toNat k) false) 4]⟩))))))))))))))) (
   .need ((0 + Int.toNat i = u ∧ u < List.length LL)) (
   .need (((0 : Int) ≤ k ∧ k < Int.ofNat n)) (
   .need (0 + Int.toNat k < List.length ri) (
   cond (List.getD ri (0 + Int.toNat k) (cod 4).d) (
    .need (((0 : Int) ≤ k ∧ k < Int.ofNat n')) (
    .need (0 + Int.toNat k < List.length rm) (
    .need (i64ok (k + 1)) (
    .ret (.cut (cutAt Try.f11 19) ⟨tmG 37 [(0, .c (.slc 0 0 (List.length l) l_t)), (2, .c (.own 1 (List.length LL))), (4, .c (.int .i64 m)), (0, .c (.int .i64 i)), (59, .c (.int .i64 (Int.ofNat (List.length l)))), (0, .c (.int .i64 m)), (3, .c (.int .i64 (Int.ofNat (List.length l)))), (0, .c (.int .i64 i)), (3, .c (.int .i64 (Int.ofNat (List.length l)))), (0, .c (.int .i64 (k + 1)))], [.inp 1 l, .nown 4 (LL) [(v), (u)] [.own 3 (n'), .own 2 (n)] 35 4, .own 4 ri 4, .own 4 (List.set rm (0 + Int.toNat k) true) 4]⟩))))) (
    .need (((0 : Int) ≤ i ∧ i < Int.ofNat (List.length LL))) (
    .ite (decide (0 + Int.toNat i = v)) (
     .need (v < List.length LL) (
     .need (((0 : Int) ≤ m ∧ m < Int.ofNat n')) (
     .need (0 + Int.toNat m < List.length rm) (
     cond (List.getD rm (0 + Int.toNat m) (cod 4).d) (
      .need (((0 : Int) ≤ m ∧ m < Int.ofNat (List.length LL))) (
      .ite (decide (0 + Int.toNat m = v)) (
       .need (v < List.length LL) (
       .need (((0 : Int) ≤ k ∧ k < Int.ofNat n')) (
       .need (0 + Int.toNat k < List.length rm) (
       .need (((0 : Int) ≤ k ∧ k < Int.ofNat n')) (
       .need (0 + Int.toNat k < List.length rm) (
       .need (i64ok (k + 1)) (
       .ret (.cut (cutAt Try.f11 19) ⟨tmG 37 [(0, .c (.slc 0 0 (List.length l) l_t)), (2, .c (.own 1 (List.length LL))), (4, .c (.int .i64 m)), (0, .c (.int .i64 i)), (59, .c (.int .i64 (Int.ofNat (List.length l)))), (0, .c (.int .i64 m)), (3, .c (.int .i64 (Int.ofNat (List.length l)))), (0, .c (.int .i64 i)), (3, .c (.int .i64 (Int.ofNat (List.length l)))), (0, .c (.int .i64 (k + 1)))], [.inp 1 l, .nown 4 (LL) [(v), (u)] [.own 3 (n'), .own 2 (n)] 35 4, .own 4 ri 4, .own 4 (List.set rm (0 + Int.toNat k) (List.getD rm (0 + Int.toNat k) (cod 4).d)) 4]⟩)))))))) (
       .need ((0 + Int.toNat m = u ∧ u < List.length LL)) (
       .need (((0 : Int) ≤ k ∧ k < Int.ofNat n)) (
       .need (0 + Int.toNat k < List.length ri) (
       .need (((0 : Int) ≤ k ∧ k < Int.ofNat n')) (
       .need (0 + Int.toNat k < List.length rm) (
       .need (i64ok (k + 1)) (
       .ret (.cut (cutAt Try.f11 19) ⟨tmG 37 [(0, .c (.slc 0 0 (List.length l) l_t)), (2, .c (.own 1 (List.length LL))), (4, .c (.int .i64 m)), (0, .c (.int .i64 i)), (59, .c (.int .i64 (Int.ofNat (List.length l)))), (0, .c (.int .i64 m)), (3, .c (.int .i64 (Int.ofNat (List.length l)))), (0, .c (.int .i64 i)), (3, .c (.int .i64 (Int.ofNat (List.length l)))), (0, .c (.int .i64 (k + 1)))], [.inp 1 l, .nown 4 (LL) [(v), (u)] [.own 3 (n'), .own 2 (n)] 35 4, .own 4 ri 4, .own 4 (List.set rm (0 + Int.toNat k) (List.getD ri (0 + Int.toNat k) (cod 4).d)) 4]⟩)))))))))) (
      .need (((0 : Int) ≤ k ∧ k < Int.ofNat n')) (
      .need (0 + Int.toNat k < List.length rm) (
      .need (i64ok (k + 1)) (
      .ret (.cut (cutAt Try.f11 19) ⟨tmG 37 [(0, .c (.slc 0 0 (List.length l) l_t)), (2, .c (.own 1 (List.length LL))), (4, .c (.int .i64 m)), (0, .c (.int .i64 i)), (59, .c (.int .i64 (Int.ofNat (List.length l)))), (0, .c (.int .i64 m)), (3, .c (.int .i64 (Int.ofNat (List.length l)))), (0, .c (.int .i64 i)), (3, .c (.int .i64 (Int.ofNat (List.length l)))), (0, .c (.int .i64 (k + 1)))], [.inp 1 l, .nown 4 (LL) [(v), (u)] [.own 3 (n'), .own 2 (n)] 35 4, .own 4 ri 4, .own 4 (List.set rm (0 + Int.toNat k) false) 4]⟩))))))))) (
     .need ((0 + Int.toNat i = u ∧ u < List.length LL)) (
     .need (((0 : Int) ≤ m ∧ m < Int.ofNat n)) (
     .need (0 + Int.toNat m < List.length ri) (
     cond (List.getD ri (0 + Int.toNat m) (cod 4).d) (
      .need (((0 : Int) ≤ m ∧ m < Int.ofNat (List.length LL))) (
      .ite (decide (0 + Int.toNat m = v)) (
       .need (v < List.length LL) (
       .need (((0 : Int) ≤ k ∧ k < Int.ofNat n')) (
       .need (0 + Int.toNat k < List.length rm) (
       .need (((0 : Int) ≤ k ∧ k < Int.ofNat n')) (
       .need (0 + Int.toNat k < List.length rm) (
       .need (i64ok (k + 1)) (
       .ret (.cut (cutAt Try.f11 19) ⟨tmG 37 [(0, .c (.slc 0 0 (List.length l) l_t)), (2, .c (.own 1 (List.length LL))), (4, .c (.int .i64 m)), (0, .c (.int .i64 i)), (59, .c (.int .i64 (Int.ofNat (List.length l)))), (0, .c (.int .i64 m)), (3, .c (.int .i64 (Int.ofNat (List.length l)))), (0, .c (.int .i64 i)), (3, .c (.int .i64 (Int.ofNat (List.length l)))), (0, .c (.int .i64 (k + 1)))], [.inp 1 l, .nown 4 (LL) [(v), (u)] [.own 3 (n'), .own 2 (n)] 35 4, .own 4 ri 4, .own 4 (List.set rm (0 + Int.toNat k) (List.getD rm (0 + Int.toNat k) (cod 4).d)) 4]⟩)))))))) (
       .need ((0 + Int.toNat m = u ∧ u < List.length LL)) (
       .need (((0 : Int) ≤ k ∧ k < Int.ofNat n)) (
       .need (0 + Int.toNat k < List.length ri) (
       .need (((0 : Int) ≤ k ∧ k < Int.ofNat n')) (
       .need (0 + Int.toNat k < List.length rm) (
       .need (i64ok (k + 1)) (
       .ret (.cut (cutAt Try.f11 19) ⟨tmG 37 [(0, .c (.slc 0 0 (List.length l) l_t)), (2, .c (.own 1 (List.length LL))), (4, .c (.int .i64 m)), (0, .c (.int .i64 i)), (59, .c (.int .i64 (Int.ofNat (List.length l)))), (0, .c (.int .i64 m)), (3, .c (.int .i64 (Int.ofNat (List.length l)))), (0, .c (.int .i64 i)), (3, .c (.int .i64 (Int.ofNat (List.length l)))), (0, .c (.int .i64 (k + 1)))], [.inp 1 l, .nown 4 (LL) [(v), (u)] [.own 3 (n'), .own 2 (n)] 35 4, .own 4 ri 4, .own 4 (List.set rm (0 + Int.toNat k) (List.getD ri (0 + Int.toNat k) (cod 4).d)) 4]⟩)))))))))) (
      .need (((0 : Int) ≤ k ∧ k < Int.ofNat n')) (
      .need (0 + Int.toNat k < List.length rm) (
      .need (i64ok (k + 1)) (
      .ret (.cut (cutAt Try.f11 19) ⟨tmG 37 [(0, .c (.slc 0 0 (List.length l) l_t)), (2, .c (.own 1 (List.length LL))), (4, .c (.int .i64 m)), (0, .c (.int .i64 i)), (59, .c (.int .i64 (Int.ofNat (List.length l)))), (0, .c (.int .i64 m)), (3, .c (.int .i64 (Int.ofNat (List.length l)))), (0, .c (.int .i64 i)), (3, .c (.int .i64 (Int.ofNat (List.length l)))), (0, .c (.int .i64 (k + 1)))], [.inp 1 l, .nown 4 (LL) [(v), (u)] [.own 3 (n'), .own 2 (n)] 35 4, .own 4 ri 4, .own 4 (List.set rm (0 + Int.toNat k) false) 4]⟩)))))))))))))))))) (
  .need ((0 + Int.toNat i = u ∧ u < List.length LL)) (
  .need (((0 : Int) ≤ i ∧ i < Int.ofNat (List.length LL))) (
  .ite (decide (0 + Int.toNat i = v)) (
   .need (v < List.length LL) (
   .need (((0 : Int) ≤ k ∧ k < Int.ofNat n')) (
   .need (0 + Int.toNat k < List.length rm) (
   cond (List.getD rm (0 + Int.toNat k) (cod 4).d) (
    .need (((0 : Int) ≤ k ∧ k < Int.ofNat n)) (
    .need (0 + Int.toNat k < List.length ri) (
    .need (i64ok (k + 1)) (
    .ret (.cut (cutAt Try.f11 19) ⟨tmG 37 [(0, .c (.slc 0 0 (List.length l) l_t)), (2, .c (.own 1 (List.length LL))), (4, .c (.int .i64 m)), (0, .c (.int .i64 i)), (59, .c (.int .i64 (Int.ofNat (List.length l)))), (0, .c (.int .i64 m)), (3, .c (.int .i64 (Int.ofNat (List.length l)))), (0, .c (.int .i64 i)), (3, .c (.int .i64 (Int.ofNat (List.length l)))), (0, .c (.int .i64 (k + 1)))], [.inp 1 l, .nown 4 (LL) [(v), (u)] [.own 3 (n'), .own 2 (n)] 35 4, .own 4 (List.set ri (0 + Int.toNat k) true) 4, .own 4 rm 4]⟩))))) (
    .need (((0 : Int) ≤ i ∧ i < Int.ofNat (List.length LL))) (
    .ite (decide (0 + Int.toNat i = v)) (
     .need (v < List.length LL) (
     .need (((0 : Int) ≤ m ∧ m < Int.ofNat n')) (
     .need (0 + Int.toNat m < List.length rm) (
     cond (List.getD rm (0 + Int.toNat m) (cod 4).d) (
      .need (((0 : Int) ≤ m ∧ m < Int.ofNat (List.length LL))) (
      .ite (decide (0 + Int.toNat m = v)) (
       .need (v < List.length LL) (
       .need (((0 : Int) ≤ k ∧ k < Int.ofNat n')) (
       .need (0 + Int.toNat k < List.length rm) (
       .need (((0 : Int) ≤ k ∧ k < Int.ofNat n)) (
       .need (0 + Int.toNat k < List.length ri) (
       .need (i64ok (k + 1)) (
       .ret (.cut (cutAt Try.f11 19) ⟨tmG 37 [(0, .c (.slc 0 0 (List.length l) l_t)), (2, .c (.own 1 (List.length LL))), (4, .c (.int .i64 m)), (0, .c (.int .i64 i)), (59, .c (.int .i64 (Int.ofNat (List.length l)))), (0, .c (.int .i64 m)), (3, .c (.int .i64 (Int.ofNat (List.length l)))), (0, .c (.int .i64 i)), (3, .c (.int .i64 (Int.ofNat (List.length l)))), (0, .c (.int .i64 (k + 1)))], [.inp 1 l, .nown 4 (LL) [(v), (u)] [.own 3 (n'), .own 2 (n)] 35 4, .own 4 (List.set ri (0 + Int.toNat k) (List.getD rm (0 + Int.toNat k) (cod 4).d)) 4, .own 4 rm 4]⟩)))))))) (
       .need ((0 + Int.toNat m = u ∧ u < List.length LL)) (
       .need (((0 : Int) ≤ k ∧ k < Int.ofNat n)) (
       .need (0 + Int.toNat k < List.length ri) (
       .need (((0 : Int) ≤ k ∧ k < Int.ofNat n)) (
       .need (0 + Int.toNat k < List.length ri) (
       .need (i64ok (k + 1)) (
       .ret (.cut (cutAt Try.f11 19) ⟨tmG 37 [(0, .c (.slc 0 0 (List.length l) l_t)), (2, .c (.own 1 (List.length LL))), (4, .c (.int .i64 m)), (0, .c (.int .i64 i)), (59, .c (.int .i64 (Int.ofNat (List.length l)))), (0, .c (.int .i64 m)), (3, .c (.int .i64 (Int.ofNat (List.length l)))), (0, .c (.int .i64 i)), (3, .c (.int .i64 (Int.ofNat (List.length l)))), (0, .c (.int .i64 (k + 1)))], [.inp 1 l, .nown 4 (LL) [(v), (u)] [.own 3 (n'), .own 2 (n)] 35 4, .own 4 (List.set ri (0 + Int.toNat k) (List.getD ri (0 + Int.toNat k) (cod 4).d)) 4, .own 4 rm 4]⟩)))))))))) (
      .need (((0 : Int) ≤ k ∧ k < Int.ofNat n)) (
      .need (0 + Int.toNat k < List.length ri) (
      .need (i64ok (k + 1)) (
      .ret (.cut (cutAt Try.f11 19) ⟨tmG 37 [(0, .c (.slc 0 0 (List.length l) l_t)), (2, .c (.own 1 (List.length LL))), (4, .c (.int .i64 m)), (0, .c (.int .i64 i)), (59, .c (.int .i64 (Int.ofNat (List.length l)))), (0, .c (.int .i64 m)), (3, .c (.int .i64 (Int.ofNat (List.length l)))), (0, .c (.int .i64 i)), (3, .c (.int .i64 (Int.ofNat (List.length l)))), (0, .c (.int .i64 (k + 1)))], [.inp 1 l, .nown 4 (LL) [(v), (u)] [.own 3 (n'), .own 2 (n)] 35 4, .own 4 (List.set ri (0 + Int.toNat k) false) 4, .own 4 rm 4]⟩))))))))) (
     .need ((0 + Int.toNat i = u ∧ u < List.length LL)) (
     .need (((0 : Int) ≤ m ∧ m < Int.ofNat n)) (
     .need (0 + Int.toNat m < List.length ri) (
     cond (List.getD ri (0 + Int.toNat m) (cod 4).d) (
      .need (((0 : Int) ≤ m ∧ m < Int.ofNat (List.length LL))) (
      .ite (decide (0 + Int.toNat m = v)) (
       .need (v < List.length LL) (
       .need (((0 : Int) ≤ k ∧ k < Int.ofNat n')) (
       .need (0 + Int.toNat k < List.length rm) (
       .need (((0 : Int) ≤ k ∧ k < Int.ofNat n)) (
       .need (0 + Int.toNat k < List.length ri) (
       .need (i64ok (k + 1)) (
       .ret (.cut (cutAt Try.f11 19) ⟨tmG 37 [(0, .c (.slc 0 0 (List.length l) l_t)), (2, .c (.own 1 (List.length LL))), (4, .c (.int .i64 m)), (0, .c (.int .i64 i)), (59, .c (.int .i64 (Int.ofNat (List.length l)))), (0, .c (.int .i64 m)), (3, .c (.int .i64 (Int.ofNat (List.length l)))), (0, .c (.int .i64 i)), (3, .c (.int .i64 (Int.ofNat (List.length l)))), (0, .c (.int .i64 (k + 1)))], [.inp 1 l, .nown 4 (LL) [(v), (u)] [.own 3 (n'), .own 2 (n)] 35 4, .own 4 (List.set ri (0 + Int.toNat k) (List.getD rm (0 + Int.toNat k) (cod 4).d)) 4, .own 4 rm 4]⟩)))))))) (
       .need ((0 + Int.toNat m = u ∧ u < List.length LL)) (
       .need (((0 : Int) ≤ k ∧ k < Int.ofNat n)) (
       .need (0 + Int.toNat k < List.length ri) (
       .need (((0 : Int) ≤ k ∧ k < Int.ofNat n)) (
       .need (0 + Int.toNat k < List.length ri) (
       .need (i64ok (k + 1)) (
       .ret (.cut (cutAt Try.f11 19) ⟨tmG 37 [(0, .c (.slc 0 0 (List.length l) l_t)), (2, .c (.own 1 (List.length LL))), (4, .c (.int .i64 m)), (0, .c (.int .i64 i)), (59, .c (.int .i64 (Int.ofNat (List.length l)))), (0, .c (.int .i64 m)), (3, .c (.int .i64 (Int.ofNat (List.length l)))), (0, .c (.int .i64 i)), (3, .c (.int .i64 (Int.ofNat (List.length l)))), (0, .c (.int .i64 (k + 1)))], [.inp 1 l, .nown 4 (LL) [(v), (u)] [.own 3 (n'), .own 2 (n)] 35 4, .own 4 (List.set ri (0 + Int.toNat k) (List.getD ri (0 + Int.toNat k) (cod 4).d)) 4, .own 4 rm 4]⟩)))))))))) (
      .need (((0 : Int) ≤ k ∧ k < Int.ofNat n)) (
      .need (0 + Int.toNat k < List.length ri) (
      .need (i64ok (k + 1)) (
      .ret (.cut (cutAt Try.f11 19) ⟨tmG 37 [(0, .c (.slc 0 0 (List.length l) l_t)), (2, .c (.own 1 (List.length LL))), (4, .c (.int .i64 m)), (0, .c (.int .i64 i)), (59, .c (.int .i64 (Int.ofNat (List.length l)))), (0, .c (.int .i64 m)), (3, .c (.int .i64 (Int.ofNat (List.length l)))), (0, .c (.int .i64 i)), (3, .c (.int .i64 (Int.ofNat (List.length l)))), (0, .c (.int .i64 (k + 1)))], [.inp 1 l, .nown 4 (LL) [(v), (u)] [.own 3 (n'), .own 2 (n)] 35 4, .own 4 (List.set ri (0 + Int.toNat k) false) 4, .own 4 rm 4]⟩))))))))))))))) (
   .need ((0 + Int.toNat i = u ∧ u < List.length LL)) (
   .need (((0 : Int) ≤ k ∧ k < Int.ofNat n)) (
   .need (0 + Int.toNat k < List.length ri) (
   cond (List.getD ri (0 + Int.toNat k) (cod 4).d) (
    .need (((0 : Int) ≤ k ∧ k < Int.ofNat n)) (
    .need (0 + Int.toNat k < List.length ri) (
    .need (i64ok (k + 1)) (
    .ret (.cut (cutAt Try.f11 19) ⟨tmG 37 [(0, .c (.slc 0 0 (List.length l) l_t)), (2, .c (.own 1 (List.length LL))), (4, .c (.int .i64 m)), (0, .c (.int .i64 i)), (59, .c (.int .i64 (Int.ofNat (List.length l)))), (0, .c (.int .i64 m)), (3, .c (.int .i64 (Int.ofNat (List.length l)))), (0, .c (.int .i64 i)), (3, .c (.int .i64 (Int.ofNat (List.length l)))), (0, .c (.int .i64 (k + 1)))], [.inp 1 l, .nown 4 (LL) [(v), (u)] [.own 3 (n'), .own 2 (n)] 35 4, .own 4 (List.set ri (0 + Int.toNat k) true) 4, .own 4 rm 4]⟩))))) (
    .need (((0 : Int) ≤ i ∧ i < Int.ofNat (List.length LL))) (
    .ite (decide (0 + Int.toNat i = v)) (
     .need (v < List.length LL) (
     .need (((0 : Int) ≤ m ∧ m < Int.ofNat n')) (
     .need (0 + Int.toNat m < List.length rm) (
     cond (List.getD rm (0 + Int.toNat m) (cod 4).d) (
      .need (((0 : Int) ≤ m ∧ m < Int.ofNat (List.length LL))) (
      .ite (decide (0 + Int.toNat m = v)) (
       .need (v < List.length LL) (
       .need (((0 : Int) ≤ k ∧ k < Int.ofNat n')) (
       .need (0 + Int.toNat k < List.length rm) (
       .need (((0 : Int) ≤ k ∧ k < Int.ofNat n)) (
       .need (0 + Int.toNat k < List.length ri) (
       .need (i64ok (k + 1)) (
       .ret (.cut (cutAt Try.f11 19) ⟨tmG 37 [(0, .c (.slc 0 0 (List.length l) l_t)), (2, .c (.own 1 (List.length LL))), (4, .c (.int .i64 m)), (0, .c (.int .i64 i)), (59, .c (.int .i64 (Int.ofNat (List.length l)))), (0, .c (.int .i64 m)), (3, .c (.int .i64 (Int.ofNat (List.length l)))), (0, .c (.int .i64 i)), (3, .c (.int .i64 (Int.ofNat (List.length l)))), (0, .c (.int .i64 (k + 1)))], [.inp 1 l, .nown 4 (LL) [(v), (u)] [.own 3 (n'), .own 2 (n)] 35 4, .own 4 (List.set ri (0 + Int.toNat k) (List.getD rm (0 + Int.toNat k) (cod 4).d)) 4, .own 4 rm 4]⟩)))))))) (
       .need ((0 + Int.toNat m = u ∧ u < List.length LL)) (
       .need (((0 : Int) ≤ k ∧ k < Int.ofNat n)) (
       .need (0 + Int.toNat k < List.length ri) (
       .need (((0 : Int) ≤ k ∧ k < Int.ofNat n)) (
       .need (0 + Int.toNat k < List.length ri) (
       .need (i64ok (k + 1)) (
       .ret (.cut (cutAt Try.f11 19) ⟨tmG 37 [(0, .c (.slc 0 0 (List.length l) l_t)), (2, .c (.own 1 (List.length LL))), (4, .c (.int .i64 m)), (0, .c (.int .i64 i)), (59, .c (.int .i64 (Int.ofNat (List.length l)))), (0, .c (.int .i64 m)), (3, .c (.int .i64 (Int.ofNat (List.length l)))), (0, .c (.int .i64 i)), (3, .c (.int .i64 (Int.ofNat (List.length l)))), (0, .c (.int .i64 (k + 1)))], [.inp 1 l, .nown 4 (LL) [(v), (u)] [.own 3 (n'), .own 2 (n)] 35 4, .own 4 (List.set ri (0 + Int.toNat k) (List.getD ri (0 + Int.toNat k) (cod 4).d)) 4, .own 4 rm 4]⟩)))))))))) (
      .need (((0 : Int) ≤ k ∧ k < Int.ofNat n)) (
      .need (0 + Int.toNat k < List.length ri) (
      .need (i64ok (k + 1)) (
      .ret (.cut (cutAt Try.f11 19) ⟨tmG 37 [(0, .c (.slc 0 0 (List.length l) l_t)), (2, .c (.own 1 (List.length LL))), (4, .c (.int .i64 m)), (0, .c (.int .i64 i)), (59, .c (.int .i64 (Int.ofNat (List.length l)))), (0, .c (.int .i64 m)), (3, .c (.int .i64 (Int.ofNat (List.length l)))), (0, .c (.int .i64 i)), (3, .c (.int .i64 (Int.ofNat (List.length l)))), (0, .c (.int .i64 (k + 1)))], [.inp 1 l, .nown 4 (LL) [(v), (u)] [.own 3 (n'), .own 2 (n)] 35 4, .own 4 (List.set ri (0 + Int.toNat k) false) 4, .own 4 rm 4]⟩))))))))) (
     .need ((0 + Int.toNat i = u ∧ u < List.length LL)) (
     .need (((0 : Int) ≤ m ∧ m < Int.ofNat n)) (
     .need (0 + Int.toNat m < List.length ri) (
     cond (List.getD ri (0 + Int.toNat m) (cod 4).d) (
      .need (((0 : Int) ≤ m ∧ m < Int.ofNat (List.length LL))) (
      .ite (decide (0 + Int.toNat m = v)) (
       .need (v < List.length LL) (
       .need (((0 : Int) ≤ k ∧ k < Int.ofNat n')) (
       .need (0 + Int.toNat k < List.length rm) (
       .need (((0 : Int) ≤ k ∧ k < Int.ofNat n)) (
       .need (0 + Int.toNat k < List.length ri) (
       .need (i64ok (k + 1)) (
       .ret (.cut (cutAt Try.f11 19) ⟨tmG 37 [(0, .c (.slc 0 0 (List.length l) l_t)), (2, .c (.own 1 (List.length LL))), (4, .c (.int .i64 m)), (0, .c (.int .i64 i)), (59, .c (.int .i64 (Int.ofNat (List.length l)))), (0, .c (.int .i64 m)), (3, .c (.int .i64 (Int.ofNat (List.length l)))), (0, .c (.int .i64 i)), (3, .c (.int .i64 (Int.ofNat (List.length l)))), (0, .c (.int .i64 (k + 1)))], [.inp 1 l, .nown 4 (LL) [(v), (u)] [.own 3 (n'), .own 2 (n)] 35 4, .own 4 (List.set ri (0 + Int.toNat k) (List.getD rm (0 + Int.toNat k) (cod 4).d)) 4, .own 4 rm 4]⟩)))))))) (
       .need ((0 + Int.toNat m = u ∧ u < List.length LL)) (
       .need (((0 : Int) ≤ k ∧ k < Int.ofNat n)) (
       .need (0 + Int.toNat k < List.length ri) (
       .need (((0 : Int) ≤ k ∧ k < Int.ofNat n)) (
       .need (0 + Int.toNat k < List.length ri) (
       .need (i64ok (k + 1)) (
       .ret (.cut (cutAt Try.f11 19) ⟨tmG 37 [(0, .c (.slc 0 0 (List.length l) l_t)), (2, .c (.own 1 (List.length LL))), (4, .c (.int .i64 m)), (0, .c (.int .i64 i)), (59, .c (.int .i64 (Int.ofNat (List.length l)))), (0, .c (.int .i64 m)), (3, .c (.int .i64 (Int.ofNat (List.length l)))), (0, .c (.int .i64 i)), (3, .c (.int .i64 (Int.ofNat (List.length l)))), (0, .c (.int .i64 (k + 1)))], [.inp 1 l, .nown 4 (LL) [(v), (u)] [.own 3 (n'), .own 2 (n)] 35 4, .own 4 (List.set ri (0 + Int.toNat k) (List.getD ri (0 + Int.toNat k) (cod 4).d)) 4, .own 4 rm 4]⟩)))))))))) (
      .need (((0 : Int) ≤ k ∧ k < Int.ofNat n)) (
      .need (0 + Int.toNat k < List.length ri) (
      .need (i64ok (k + 1)) (
      .ret (.cut (cutAt Try.f11 19) ⟨tmG 37 [(0, .c (.slc 0 0 (List.length l) l_t)), (2, .c (.own 1 (List.length LL))), (4, .c (.int .i64 m)), (0, .c (.int .i64 i)), (59, .c (.int .i64 (Int.ofNat (List.length l)))), (0, .c (.int .i64 m)), (3, .c (.int .i64 (Int.ofNat (List.length l)))), (0, .c (.int .i64 i)), (3, .c (.int .i64 (Int.ofNat (List.length l)))), (0, .c (.int .i64 (k + 1)))], [.inp 1 l, .nown 4 (LL) [(v), (u)] [.own 3 (n'), .own 2 (n)] 35 4, .own 4 (List.set ri (0 + Int.toNat k) false) 4, .own 4 rm 4]⟩)))))))))))))))))))) (
 .ret (.cut (regAt Try.f11 23) ⟨tmG 42 [(0, .c (.slc 0 0 (List.length l) l_t)), (2, .c (.own 1 (List.length LL))), (4, .c (.int .i64 m)), (60, .c (.int .i64 (Int.ofNat (List.length l)))), (0, .c (.int .i64 m)), (3, .c (.int .i64 (Int.ofNat (List.length l)))), (0, .c (.int .i64 i))], [.inp 1 l, .nown 4 (LL) [(v), (u)] [.own 3 (n'), .own 2 (n)] 35 4, .own 4 ri 4, .own 4 rm 4]⟩)) := by kernel_rfl


noncomputable def st_lea_r23 (l : List (Int × Int × Int)) (l_t : Bool) (m i : Int) (LL : List (List Bool)) : St cod := ⟨tmG 42 [(0, .c (.slc 0 0 (List.length l) l_t)), (2, .c (.own 1 (List.length LL))), (4, .c (.int .i64 m)), (60, .c (.int .i64 (Int.ofNat (List.length l)))), (0, .c (.int .i64 m)), (3, .c (.int .i64 (Int.ofNat (List.length l)))), (0, .c (.int .i64 i))], [.inp 1 l, .nown 4 (LL) [] [] 35 4]⟩


theorem lea_tr23 (l : List (Int × Int × Int)) (l_t : Bool) (m i : Int) (LL : List (List Bool)) : symF C_con cuts_lea_r23 Try.f11.results.toList 1 400 (regAt Try.f11 23) (st_lea_r23 l l_t m i LL) =
.need (i64ok (i + 1)) (
.ret (.cut (cutAt Try.f11 16) ⟨tmG 42 [(0, .c (.slc 0 0 (List.length l) l_t)), (2, .c (.own 1 (List.length LL))), (4, .c (.int .i64 m)), (60, .c (.int .i64 (Int.ofNat (List.length l)))), (0, .c (.int .i64 m)), (3, .c (.int .i64 (Int.ofNat (List.length l)))), (0, .c (.int .i64 (i + 1)))], [.inp 1 l, .nown 4 (LL) [] [] 35 4]⟩)) := by kernel_rfl


theorem lea_y2 (l : List (Int × Int × Int)) (l_t : Bool) (LL : List (List Bool)) : symF C_con cuts_lea_r2 Try.f11.results.toList 1 400 (regAt Try.f11 1).tail (st_lea_r2 l l_t LL) =
.ret (.cut (cutAt Try.f11 3) ⟨tmG 101 [(0, .c (.slc 0 0 (List.length l) l_t)), (2, .c (.own 1 (List.length LL))), (10, .c (.slc 0 0 (List.length l) l_t)), (0, .c (.int .i64 (Int.ofNat (List.length l)))), (0, .c (.int .i64 0))], [.inp 1 l, .nown 4 (LL) [] [] 35 4]⟩) := by kernel_rfl


theorem lea_y6 (l : List (Int × Int × Int)) (l_t : Bool) (i : Int) (LL : List (List Bool)) (a1 a2 a3 : Int) (j n : Nat) (r : List Bool) : symF C_con cuts_lea_r6 Try.f11.results.toList 1 400 (regAt Try.f11 5).tail (st_lea_r6 l l_t i LL a1 a2 a3 j n r) =
.need (i64ok (i + 1)) (
.ret (.cut (cutAt Try.f11 7) ⟨tmG 101 [(0, .c (.slc 0 0 (List.length l) l_t)), (2, .c (.own 1 (List.length LL))), (0, .c (.int .i64 i)), (0, .c (.ptr 2 0 0)), (0, .c (.int .i64 (i + 1))), (7, .c (.slc 0 0 (List.length l) l_t)), (0, .c (.int .i64 (Int.ofNat (List.length l)))), (0, .c (.int .i64 i))], [.inp 1 l, .nown 4 (LL) [(j)] [.slc 3 0 (n) true] 35 4, .blk [.int .i64 a1, .int .i64 a2, .int .i64 a3] 37, .arr 4 r 4]⟩)) := by kernel_rfl


theorem lea_x1 (l : List (Int × Int × Int)) (l_t : Bool) : ((lexT C_con (Q1.toList.take 2) (st_lea_r1 l l_t)).bind fun s => T.ret (Fin.cut (regAt Try.f11 1) s)) =
.ret (.cut (regAt Try.f11 1) ⟨tmG 105 [(0, .c (.slc 0 0 (List.length l) l_t)), (10, .c (.slc 0 0 (List.length l) l_t)), (0, .c (.int .i64 (Int.ofNat (List.length l))))], [.inp 1 l]⟩) := by kernel_rfl


theorem lea_x5 (l : List (Int × Int × Int)) (l_t : Bool) (i : Int) (LL : List (List Bool)) (a1 a2 a3 : Int) : ((lexT C_con (Q5.toList.take 6) (st_lea_r5 l l_t i LL a1 a2 a3)).bind fun s => T.ret (Fin.cut (regAt Try.f11 5) s)) =
.need (((0 : Int) ≤ Int.ofNat (List.length l) ∧ (Int.ofNat (List.length l) ≤ 1000000 ∧ Int.ofNat (List.length l) = Int.ofNat (List.length l)))) (
.need (((0 : Int) ≤ i ∧ i < Int.ofNat (List.length LL))) (
.ret (.cut (regAt Try.f11 5) ⟨tmG 91 [(0, .c (.slc 0 0 (List.length l) l_t)), (2, .c (.own 1 (List.length LL))), (0, .c (.int .i64 i)), (0, .c (.ptr 2 0 0)), (8, .c (.slc 0 0 (List.length l) l_t)), (0, .c (.int .i64 (Int.ofNat (List.length l)))), (0, .c (.int .i64 i)), (4, .c (.own 1 (List.length LL))), (0, .c (.int .i64 i)), (0, .c (.slc 0 0 (List.length l) l_t)), (0, .c (.int .i64 (Int.ofNat (List.length l)))), (0, .c (.slc 3 0 (Int.toNat (Int.ofNat (List.length l))) true)), (0, .c (.ptr 1 (0 + Int.toNat i) 0))], [.inp 1 l, .nown 4 (LL) [] [] 35 4, .blk [.int .i64 a1, .int .i64 a2, .int .i64 a3] 37, .arr 4 (List.replicate (Int.toNat (Int.ofNat (List.length l))) false) 4]⟩))) := by kernel_rfl



theorem Q1_at : regAt Try.f11 1 = .code (.region (idI (regAt Try.f11 1)) Q1 false) :: (regAt Try.f11 1).tail := by kernel_rfl
theorem Q5_at : regAt Try.f11 5 = .code (.region (idI (regAt Try.f11 5)) Q5 false) :: (regAt Try.f11 5).tail := by kernel_rfl
noncomputable def O13 : Oper := Q1.toList.getD 2 default
noncomputable def O26 : Oper := Q5.toList.getD 6 default
theorem O13_op : O13.op = .makeSlice 32 (.tmp 12) (.tmp 12) := by kernel_rfl
theorem O13_dst : O13.dst = some 13 := by kernel_rfl
theorem O26_op : O26.op = .store 35 (.tmp 26) (.tmp 25) := by kernel_rfl
theorem O26_dst : O26.dst = none := by kernel_rfl
theorem Q1_split : Q1.toList = Q1.toList.take 2 ++ O13 :: Q1.toList.drop 3 := by kernel_rfl
theorem Q5_split : Q5.toList = Q5.toList.take 6 ++ O26 :: [] := by kernel_rfl
theorem Q1_free : (Q1.toList.all fun o => o.guard.isNone) = true := by kernel_rfl
theorem Q5_free : (Q5.toList.all fun o => o.guard.isNone) = true := by kernel_rfl
theorem T32 : Try.prog.underlying 32 = some (.slice 35) := by kernel_rfl
theorem Z35 : (Try.prog.info? 35).map (fun i => (i.zero, i.size, i.bytes)) = some (some (.slice none 0 0), 1, 24) := by kernel_rfl
theorem C35 : Try.prog.cellsOf 35 = 1 := by kernel_rfl
def st_lea_x1 (l : List (Int × Int × Int)) (l_t : Bool) : St cod := ⟨tmG 105 [(0, .c (.slc 0 0 (List.length l) l_t)), (10, .c (.slc 0 0 (List.length l) l_t)), (0, .c (.int .i64 (Int.ofNat (List.length l))))], [.inp 1 l]⟩
theorem lea_x1' (l : List (Int × Int × Int)) (l_t : Bool) : lexT C_con (Q1.toList.take 2) (st_lea_r1 l l_t) = .ret (st_lea_x1 l l_t) := by kernel_rfl
def st_lea_x2 (l : List (Int × Int × Int)) (l_t : Bool) : St cod := (st_lea_x1 l l_t).put (some 13) { v := .c (.own 1 (Int.toNat (Int.ofNat (List.length l)))), H := [.inp 1 l] ++ [.nown 4 (List.replicate (Int.toNat (Int.ofNat (List.length l))) []) [] [] 35 4] }
def st_lea_x3 (l : List (Int × Int × Int)) (l_t : Bool) : St cod := (st_lea_x2 l l_t).put (some 3) { v := .c (.own 1 (Int.toNat (Int.ofNat (List.length l)))), H := (st_lea_x2 l l_t).heap }
theorem lea_x3 (l : List (Int × Int × Int)) (l_t : Bool) : lexT C_con (Q1.toList.drop 3) (st_lea_x2 l l_t) = .ret (st_lea_x3 l l_t) := by kernel_rfl
def st_lea_x4 (l : List (Int × Int × Int)) (l_t : Bool) : St cod := ⟨tmG 114 [(0, .c (.slc 0 0 (List.length l) l_t)), (2, .c (.own 1 (List.length l)))], [.inp 1 l, .nown 4 (List.replicate (List.length l) []) [] [] 35 4]⟩
theorem lea_x4 (l : List (Int × Int × Int)) (l_t : Bool) : (st_lea_x3 l l_t).fit [3, 0] 2 = st_lea_x4 l l_t := by kernel_rfl
theorem lea_mk (l : List (Int × Int × Int)) (l_t : Bool) {b0 : Base} (hb : b0.n = 1) {Q : St cod → Prop} (h1 : l.length ≤ 200)
    (hr : Sym.Runs Try.prog b0 (regAt Try.f11 1).tail (st_lea_r2 l l_t (List.replicate l.length [])) Q) : Sym.Runs Try.prog b0 (regAt Try.f11 1) (st_lea_r1 l l_t) Q := by
  refine Runs.mid (cfg := C_con) L_con_ok Q1_at Q1_split Q1_free (lea_x1' l l_t) ?_
  refine ⟨st_lea_x2 l l_t, ?_, ?_⟩
  · refine StepW.make (T := 32) (ty := 35) (tyr := 4) (t := 4) (B := 24) (n := Int.ofNat (List.length l)) (kx := .i64) (ky := .i64) O13_op T32 Z35 (by omega) rfl rfl (by simp only [Int.ofNat_eq_natCast]; omega) (by simp only [Int.ofNat_eq_natCast]; omega) ?_
    rw [O13_dst]
    rfl
  · rw [lea_x3]
    have e4 : st_lea_x4 l l_t = st_lea_r2 l l_t (List.replicate l.length []) := by
      unfold st_lea_x4 st_lea_r2
      rw [List.length_replicate]
      rfl
    refine Runs.weaken (fun a w hR => ?_) hr
    rw [← e4, ← lea_x4]
    exact fit_rel _ _ (by omega) hR
def st_lea_z1 (l : List (Int × Int × Int)) (l_t : Bool) (i : Int) (LL : List (List Bool)) (a1 a2 a3 : Int) : St cod := ⟨tmG 91 [(0, .c (.slc 0 0 (List.length l) l_t)), (2, .c (.own 1 (List.length LL))), (0, .c (.int .i64 i)), (0, .c (.ptr 2 0 0)), (8, .c (.slc 0 0 (List.length l) l_t)), (0, .c (.int .i64 (Int.ofNat (List.length l)))), (0, .c (.int .i64 i)), (4, .c (.own 1 (List.length LL))), (0, .c (.int .i64 i)), (0, .c (.slc 0 0 (List.length l) l_t)), (0, .c (.int .i64 (Int.ofNat (List.length l)))), (0, .c (.slc 3 0 (Int.toNat (Int.ofNat (List.length l))) true)), (0, .c (.ptr 1 (0 + Int.toNat i) 0))], [.inp 1 l, .nown 4 (LL) [] [] 35 4, .blk [.int .i64 a1, .int .i64 a2, .int .i64 a3] 37, .arr 4 (List.replicate (Int.toNat (Int.ofNat (List.length l))) false) 4]⟩
theorem lea_z1 (l : List (Int × Int × Int)) (l_t : Bool) (i : Int) (LL : List (List Bool)) (a1 a2 a3 : Int) : lexT C_con (Q5.toList.take 6) (st_lea_r5 l l_t i LL a1 a2 a3) =
  .need (((0 : Int) ≤ Int.ofNat (List.length l) ∧ (Int.ofNat (List.length l) ≤ 1000000 ∧ Int.ofNat (List.length l) = Int.ofNat (List.length l)))) (.need (((0 : Int) ≤ i ∧ i < Int.ofNat (List.length LL))) (.ret (st_lea_z1 l l_t i LL a1 a2 a3))) := by kernel_rfl
def st_lea_z2 (l : List (Int × Int × Int)) (l_t : Bool) (i : Int) (LL : List (List Bool)) (a1 a2 a3 : Int) : St cod := (st_lea_z1 l l_t i LL a1 a2 a3).put none { v := undefS, H := (st_lea_z1 l l_t i LL a1 a2 a3).heap.set 1 (.nown 4 LL [0 + Int.toNat i] [.slc 3 0 (Int.toNat (Int.ofNat (List.length l))) true] 35 4) }
theorem lea_z2 (l : List (Int × Int × Int)) (l_t : Bool) (i : Int) (LL : List (List Bool)) (a1 a2 a3 : Int) : (st_lea_z2 l l_t i LL a1 a2 a3).fit [5, 4, 3, 0, 14, 15, 16] 4 = st_lea_r6 l l_t i LL a1 a2 a3 (0 + Int.toNat i) (Int.toNat (Int.ofNat (List.length l))) (List.replicate (Int.toNat (Int.ofNat (List.length l))) false) := by kernel_rfl
theorem lea_row (l : List (Int × Int × Int)) (l_t : Bool) (i : Nat) (LL : List (List Bool)) (a1 a2 a3 : Int) {b0 : Base} (hb : b0.n = 1) {Q : St cod → Prop} (h1 : l.length ≤ 200) (hi : i < LL.length)
    (hr : Sym.Runs Try.prog b0 (regAt Try.f11 5).tail (st_lea_r6 l l_t (i : Int) LL a1 a2 a3 i l.length (List.replicate l.length false)) Q) : Sym.Runs Try.prog b0 (regAt Try.f11 5) (st_lea_r5 l l_t (i : Int) LL a1 a2 a3) Q := by
  refine Runs.mid (cfg := C_con) L_con_ok Q5_at Q5_split Q5_free (lea_z1 l l_t (i : Int) LL a1 a2 a3) ?_
  refine ⟨⟨by simp only [Int.ofNat_eq_natCast]; omega, by simp only [Int.ofNat_eq_natCast]; omega, rfl⟩, ⟨by omega, by simp only [Int.ofNat_eq_natCast]; omega⟩, st_lea_z2 l l_t (i : Int) LL a1 a2 a3, ?_, ?_⟩
  · refine StepW.row (T := 35) (ty := 35) (tyr := 4) (t := 4) (h := 1) (i := 0 + Int.toNat (i : Int)) (LL := LL) (c := .slc 3 0 (Int.toNat (Int.ofNat (List.length l))) true) O26_op C35 rfl rfl rfl rfl (by rw [Int.toNat_natCast, Nat.zero_add]; exact hi) ?_
    rw [O26_dst]
    rfl
  · refine Runs.weaken (fun a w hR => ?_) hr
    have e := lea_z2 l l_t (i : Int) LL a1 a2 a3
    rw [Int.toNat_natCast, Nat.zero_add] at e
    have e2 : Int.toNat (Int.ofNat (List.length l)) = l.length := rfl
    rw [e2] at e
    rw [← e]
    exact fit_rel _ _ (by omega) hR
theorem rowOf_slc {t : Nat} {tyr : TypeId} {H : Heap cod} {r m : Nat} {l : List (cod t).α} (ho : Sym.getObj H r = .arr t l tyr) (hm : m = l.length) (h0 : 0 < m) : rowOf t tyr H (.slc r 0 m true) = some (r, l) := by
  unfold rowOf
  simp only [ho]
  rw [dif_pos trivial, if_pos ⟨trivial, hm, h0⟩]
theorem closeW_eq {t h j r : Nat} {ty tyr : TypeId} {st : St cod} {LL : List (List (cod t).α)} {js : List Nat} {c : Cell} {cs : List Cell} {l : List (cod t).α} (ho : Sym.getObj st.heap h = .nown t LL (j :: js) (c :: cs) ty tyr) (hr : rowOf t tyr st.heap c = some (r, l)) : st.closeW h = { st with heap := (st.heap.set h (.nown t (LL.set j l) js cs ty tyr)).set r .dead } := by
  unfold St.closeW
  rw [ho]
  simp only [hr]
namespace F
theorem rG_len (l : List Ev) (i : Nat) : ∀ j, (rG l i j).length = l.length
  | 0 => List.length_replicate
  | j + 1 => by unfold rG; rw [List.length_set, rG_len l i j]
theorem eG_len (l : List Ev) : ∀ i, (eG l i).length = l.length
  | 0 => List.length_replicate
  | i + 1 => by unfold eG; rw [List.length_set, eG_len l i]
theorem eG_row (l : List Ev) : ∀ i j, j < i → i ≤ l.length → ((eG l i).getD j []).length = l.length
  | 0, j, h, _ => by omega
  | i + 1, j, h, hn => by
      unfold eG
      rw [gset]
      split
      · rw [rG_len]
      · rename_i q
        rw [eG_len] at q
        exact eG_row l i j (by omega) (by omega)
theorem wRow_len (m : Nat) (ri rm : List Bool) : ∀ k, (wRow m ri rm k).length = ri.length
  | 0 => rfl
  | k + 1 => by unfold wRow; rw [List.length_set, wRow_len m ri rm k]
def Mat (n : Nat) (LL : List (List Bool)) : Prop := LL.length = n ∧ ∀ j, j < n → (LL.getD j []).length = n
theorem wI_mat {n m : Nat} {LL : List (List Bool)} (h : Mat n LL) : ∀ i, Mat n (wI n m LL i)
  | 0 => h
  | i + 1 => by
      have h2 := wI_mat (m := m) h i
      unfold wI
      split
      · exact h2
      · refine ⟨by rw [List.length_set]; exact h2.1, fun j hj => ?_⟩
        rw [gset]
        split
        · rename_i q
          rw [wRow_len]
          exact h2.2 i (by omega)
        · exact h2.2 j hj
theorem wM_mat (l : List Ev) : ∀ m, Mat l.length (wM l m)
  | 0 => ⟨eG_len l _, fun j hj => eG_row l _ j hj (Nat.le_refl _)⟩
  | m + 1 => wI_mat (wM_mat l m) _
theorem setB_same (r : List Bool) (k : Nat) (b : Bool) (h : r.getD k false = b) : r.set k b = r := by
  rw [← h, List.getD_eq_getElem?_getD]
  by_cases q : k < r.length
  · rw [List.getElem?_eq_getElem q]
    exact List.set_getElem_self q
  · rw [List.set_eq_of_length_le (by omega)]
theorem setBB_same (L : List (List Bool)) (j : Nat) : L.set j (L.getD j []) = L := by
  rw [List.getD_eq_getElem?_getD]
  by_cases h : j < L.length
  · rw [List.getElem?_eq_getElem h]
    exact List.set_getElem_self h
  · rw [List.set_eq_of_length_le (by omega)]
end F
theorem lea_run (l : List (Int × Int × Int)) (l_t : Bool) (b0 : Base) (hb : b0.n = 1) (h0 : l.length ≤ 200) : Sym.Runs Try.prog b0 [.code (codeOf Try.f11)] ⟨argsS Try.f11 [.c (.slc 0 0 (List.length l) l_t)], ([.inp 1 l] : Heap cod)⟩ (Sym.Ends Try.prog Try.f11 1 (.c (.own 1 (List.length (F.lea l)))) [.nown 4 (F.lea l) [] [] 35 4]) := by
  have ez : (cod 4).d = false := rfl
  have ed : (cod 1).d = F.ev0 := rfl
  have eL : F.lea l = F.wM l l.length := rfl
  -- the closing loops
  have key2 : ∀ (r m : Nat), m + r = l.length → Sym.Runs Try.prog b0 (cutAt Try.f11 13) (st_lea_13 l l_t (m : Int) (F.wM l m)) (Sym.Ends Try.prog Try.f11 1 (.c (.own 1 (List.length (F.lea l)))) [.nown 4 (F.lea l) [] [] 35 4]) := by
    intro r
    induction r with
    | zero =>
      intro m hm
      refine Runs.go (cfg := C_con) L_con_ok mixed cuts_lea 400 hb (lea_t13 l l_t (m : Int) (F.wM l m)) ?_
      simp only [T.wp, T.wp_cond, Aft, Int.ofNat_eq_natCast, decide_eq_true_eq, and_true, true_and, Nat.zero_add, Bool.not_eq_true', decide_eq_false_iff_not]
      refine ite_no (by omega) ?_
      have em : m = l.length := by omega
      subst em
      exact ⟨rfl, rfl⟩
    | succ r ih =>
      intro m hm
      have nx := ih (m + 1) (by omega)
      have hM := F.wM_mat l m
      have e1 : F.wM l (m + 1) = F.wI l.length m (F.wM l m) l.length := rfl
      rw [e1] at nx
      refine Runs.go (cfg := C_con) L_con_ok mixed cuts_lea 400 hb (lea_t13 l l_t (m : Int) (F.wM l m)) ?_
      generalize F.wM l m = W at *
      simp only [T.wp, T.wp_cond, Aft, Int.ofNat_eq_natCast, decide_eq_true_eq, and_true, true_and, Nat.zero_add, Bool.not_eq_true', decide_eq_false_iff_not]
      refine ite_yes (by omega) ?_
      have key3 : ∀ (q i : Nat), i + q = l.length → Sym.Runs Try.prog b0 (cutAt Try.f11 16) (st_lea_16 l l_t (m : Int) (i : Int) (F.wI l.length m W i)) (Sym.Ends Try.prog Try.f11 1 (.c (.own 1 (List.length (F.lea l)))) [.nown 4 (F.lea l) [] [] 35 4]) := by
        intro q
        induction q with
        | zero =>
          intro i hi
          have ei : i = l.length := by omega
          subst ei
          refine Runs.go (cfg := C_con) L_con_ok mixed cuts_lea 400 hb (lea_t16 l l_t (m : Int) (l.length : Int) (F.wI l.length m W l.length)) ?_
          simp only [T.wp, T.wp_cond, Aft, Int.ofNat_eq_natCast, decide_eq_true_eq, and_true, true_and, Nat.zero_add, Bool.not_eq_true', decide_eq_false_iff_not]
          rw [Int.natCast_succ] at nx
          have eW : (F.wI l.length m W l.length).length = l.length := (F.wI_mat hM _).1
          have hq := hM.1
          exact ite_no (by omega) ⟨by unfold Sym.i64ok; omega, nx⟩
        | succ q ih3 =>
          intro i hi
          have nx3 := ih3 (i + 1) (by omega)
          obtain ⟨d1, d2⟩ := F.wI_mat (m := m) hM i
          have e2 : F.wI l.length m W (i + 1) = (if i = m then F.wI l.length m W i else (F.wI l.length m W i).set i (F.wRow m ((F.wI l.length m W i).getD i []) ((F.wI l.length m W i).getD m []) l.length)) := rfl
          rw [e2] at nx3
          have hri := d2 i (by omega)
          have hrm := d2 m (by omega)
          refine Runs.go (cfg := C_con) L_con_ok mixed cuts_lea 400 hb (lea_t16 l l_t (m : Int) (i : Int) (F.wI l.length m W i)) ?_
          generalize F.wI l.length m W i = LL at *
          simp only [T.wp, T.wp_cond, Aft, Int.ofNat_eq_natCast, decide_eq_true_eq, and_true, true_and, Nat.zero_add, Bool.not_eq_true', decide_eq_false_iff_not]
          refine ite_yes (by omega) ?_
          refine Runs.go (cfg := C_con) L_con_ok mixed cuts_lea_r18 400 hb (lea_tr18 l l_t (m : Int) (i : Int) LL) ?_
          simp only [T.wp, T.wp_cond, Aft, Int.ofNat_eq_natCast, decide_eq_true_eq, and_true, true_and, Nat.zero_add, Bool.not_eq_true', decide_eq_false_iff_not]
          have hiL : i < LL.length := by omega
          have hmL : m < LL.length := by omega
          have hk64 : ∀ k : Nat, k ≤ 200 → Sym.i64ok ((k : Int) + 1) := fun k hk => by unfold Sym.i64ok; omega
          by_cases him : i = m
          · subst him
            rw [if_pos rfl] at nx3
            generalize eR : LL.getD i [] = R at *
            refine Runs.openW 1 i (t := 4) (LL := LL) (js := []) (cs := []) (ty := 35) (tyr := 4) rfl hiL List.not_mem_nil (st' := st_lea_19 l l_t (i : Int) (i : Int) LL i R.length R 0) (by rw [← eR]; rfl) ?_
            have inner : ∀ (p k : Nat), k + p = l.length → Sym.Runs Try.prog b0 (cutAt Try.f11 19) (st_lea_19 l l_t (i : Int) (i : Int) LL i R.length R (k : Int)) (Sym.Ends Try.prog Try.f11 1 (.c (.own 1 (List.length (F.lea l)))) [.nown 4 (F.lea l) [] [] 35 4]) := by
              intro p
              induction p with
              | zero =>
                intro k hk
                refine Runs.go (cfg := C_con) L_con_ok mixed cuts_lea 400 hb (lea_t19 l l_t (i : Int) (i : Int) LL i R.length R (k : Int)) ?_
                simp only [T.wp, T.wp_cond, Aft, Int.ofNat_eq_natCast, decide_eq_true_eq, and_true, true_and, Nat.zero_add, Bool.not_eq_true', decide_eq_false_iff_not]
                refine ite_no (by omega) ?_
                refine Runs.closeW 1 (j := i) (r := 2) (N := 1) hb (t := 4) (LL := LL) (js := []) (c := .own 2 (List.length R)) (cs := []) (ty := 35) (tyr := 4) (l := R) rfl hiL List.not_mem_nil rfl (by omega) (by omega) (st' := ⟨tmG 42 [(0, .c (.slc 0 0 (List.length l) l_t)), (2, .c (.own 1 (List.length LL))), (4, .c (.int .i64 (i : Int))), (60, .c (.int .i64 (Int.ofNat (List.length l)))), (0, .c (.int .i64 (i : Int))), (3, .c (.int .i64 (Int.ofNat (List.length l)))), (0, .c (.int .i64 (i : Int)))], [.inp 1 l, .nown 4 (LL.set i R) [] [] 35 4, .dead]⟩) rfl ?_
                rw [← eR, F.setBB_same]
                refine Runs.weaken (st' := st_lea_r23 l l_t (i : Int) (i : Int) LL) (fun a w hR => fit_rel [8, 3, 0, 69, 70, 74, 75] 2 (by omega) hR) ?_
                refine Runs.go (cfg := C_con) L_con_ok mixed cuts_lea_r23 400 hb (lea_tr23 l l_t (i : Int) (i : Int) LL) ?_
                simp only [T.wp, T.wp_cond, Aft, Int.ofNat_eq_natCast, decide_eq_true_eq, and_true, true_and, Nat.zero_add, Bool.not_eq_true', decide_eq_false_iff_not]
                rw [Int.natCast_succ] at nx3
                exact ⟨hk64 i (by omega), nx3⟩
              | succ p ih4 =>
                intro k hk
                have nx4 := ih4 (k + 1) (by omega)
                rw [Int.natCast_succ] at nx4
                refine Runs.go (cfg := C_con) L_con_ok mixed cuts_lea 400 hb (lea_t19 l l_t (i : Int) (i : Int) LL i R.length R (k : Int)) ?_
                simp only [T.wp, T.wp_cond, Aft, Int.ofNat_eq_natCast, decide_eq_true_eq, and_true, true_and, Nat.zero_add, Bool.not_eq_true', decide_eq_false_iff_not, Nat.zero_add, Int.toNat_natCast, ez]
                have hkR : k < R.length := by omega
                have hiR : i < R.length := by omega
                have z1 : (0 : Int) ≤ (i : Int) ∧ (i : Int) < (LL.length : Int) := ⟨by omega, by omega⟩
                have z2 : (0 : Int) ≤ (k : Int) ∧ (k : Int) < (R.length : Int) := ⟨by omega, by omega⟩
                have z3 : (0 : Int) ≤ (i : Int) ∧ (i : Int) < (R.length : Int) := ⟨by omega, by omega⟩
                have n4 : ∀ b : Bool, R.getD k false = b → Sym.Runs Try.prog b0 (cutAt Try.f11 19) (st_lea_19 l l_t (i : Int) (i : Int) LL i R.length (R.set k b) ((k : Int) + 1)) (Sym.Ends Try.prog Try.f11 1 (.c (.own 1 (List.length (F.lea l)))) [.nown 4 (F.lea l) [] [] 35 4]) := fun b hb => by
                  rw [F.setB_same R k b hb]
                  exact nx4
                refine ite_yes (by omega) ⟨z1, hiL, z1, hiL, z2, hkR, ?_⟩
                cases c1 : R.getD k false with
                | true => exact ite_yes rfl ⟨z2, hkR, hk64 k (by omega), n4 true c1⟩
                | false =>
                  refine ite_no (by decide) ⟨z1, hiL, z3, hiR, ?_⟩
                  cases c2 : R.getD i false with
                  | true => exact ite_yes rfl ⟨z1, hiL, z2, hkR, z2, hkR, hk64 k (by omega), n4 _ rfl⟩
                  | false => exact ite_no (by decide) ⟨z2, hkR, hk64 k (by omega), n4 false c1⟩
            exact inner l.length 0 (by omega)
          · rw [if_neg him] at nx3
            generalize eR : LL.getD i [] = R at *
            generalize eM : LL.getD m [] = M at *
            have hmi : ¬ m = i := fun h => him h.symm
            refine Runs.openW 1 i (t := 4) (LL := LL) (js := []) (cs := []) (ty := 35) (tyr := 4) rfl hiL List.not_mem_nil rfl ?_
            refine Runs.openW 1 m (t := 4) (LL := LL) (js := [i]) (cs := [.own 2 (List.length (LL.getD i []))]) (ty := 35) (tyr := 4) rfl hmL (by simpa using hmi) (st' := st_lea_19b l l_t (m : Int) (i : Int) LL i m R.length M.length R M 0) (by rw [← eR, ← eM]; rfl) ?_
            have inner : ∀ (p k : Nat), k + p = l.length → Sym.Runs Try.prog b0 (cutAt Try.f11 19) (st_lea_19b l l_t (m : Int) (i : Int) LL i m R.length M.length (F.wRow m R M k) M (k : Int)) (Sym.Ends Try.prog Try.f11 1 (.c (.own 1 (List.length (F.lea l)))) [.nown 4 (F.lea l) [] [] 35 4]) := by
              intro p
              induction p with
              | zero =>
                intro k hk
                have ek : k = l.length := by omega
                subst ek
                refine Runs.go (cfg := C_con) L_con_ok mixed cuts_lea 400 hb (lea_t19b l l_t (m : Int) (i : Int) LL i m R.length M.length (F.wRow m R M l.length) M (l.length : Int)) ?_
                generalize F.wRow m R M l.length = V at *
                simp only [T.wp, T.wp_cond, Aft, Int.ofNat_eq_natCast, decide_eq_true_eq, and_true, true_and, Nat.zero_add, Bool.not_eq_true', decide_eq_false_iff_not]
                refine ite_no (by omega) ?_
                refine Runs.closeW 1 (j := m) (r := 3) (N := 1) hb (t := 4) (LL := LL) (js := [i]) (c := .own 3 (List.length M)) (cs := [.own 2 (List.length R)]) (ty := 35) (tyr := 4) (l := M) rfl hmL (by simpa using hmi) rfl (by omega) (by omega) (st' := ⟨tmG 42 [(0, .c (.slc 0 0 (List.length l) l_t)), (2, .c (.own 1 (List.length LL))), (4, .c (.int .i64 (m : Int))), (60, .c (.int .i64 (Int.ofNat (List.length l)))), (0, .c (.int .i64 (m : Int))), (3, .c (.int .i64 (Int.ofNat (List.length l)))), (0, .c (.int .i64 (i : Int)))], [.inp 1 l, .nown 4 (LL.set m M) [i] [.own 2 (List.length R)] 35 4, .own 4 V 4, .dead]⟩) rfl ?_
                rw [← eM, F.setBB_same]
                refine Runs.closeW 1 (j := i) (r := 2) (N := 1) hb (t := 4) (LL := LL) (js := []) (c := .own 2 (List.length R)) (cs := []) (ty := 35) (tyr := 4) (l := V) rfl hiL List.not_mem_nil rfl (by omega) (by omega) (st' := ⟨tmG 42 [(0, .c (.slc 0 0 (List.length l) l_t)), (2, .c (.own 1 (List.length LL))), (4, .c (.int .i64 (m : Int))), (60, .c (.int .i64 (Int.ofNat (List.length l)))), (0, .c (.int .i64 (m : Int))), (3, .c (.int .i64 (Int.ofNat (List.length l)))), (0, .c (.int .i64 (i : Int)))], [.inp 1 l, .nown 4 (LL.set i V) [] [] 35 4, .dead, .dead]⟩) rfl ?_
                have eS : (LL.set i V).length = LL.length := List.length_set
                rw [← eS]
                refine Runs.weaken (st' := st_lea_r23 l l_t (m : Int) (i : Int) (LL.set i V)) (fun a w hR => fit_rel [8, 3, 0, 69, 70, 74, 75] 2 (by omega) hR) ?_
                refine Runs.go (cfg := C_con) L_con_ok mixed cuts_lea_r23 400 hb (lea_tr23 l l_t (m : Int) (i : Int) (LL.set i V)) ?_
                simp only [T.wp, T.wp_cond, Aft, Int.ofNat_eq_natCast, decide_eq_true_eq, and_true, true_and, Nat.zero_add, Bool.not_eq_true', decide_eq_false_iff_not]
                rw [Int.natCast_succ] at nx3
                exact ⟨hk64 i (by omega), nx3⟩
              | succ p ih4 =>
                intro k hk
                have nx4 := ih4 (k + 1) (by omega)
                rw [Int.natCast_succ] at nx4
                have eV : F.wRow m R M (k + 1) = (F.wRow m R M k).set k (if (F.wRow m R M k).getD k false then true else if (F.wRow m R M k).getD m false then M.getD k false else false) := rfl
                rw [eV] at nx4
                have hVl : (F.wRow m R M k).length = R.length := F.wRow_len m R M k
                refine Runs.go (cfg := C_con) L_con_ok mixed cuts_lea 400 hb (lea_t19b l l_t (m : Int) (i : Int) LL i m R.length M.length (F.wRow m R M k) M (k : Int)) ?_
                generalize F.wRow m R M k = V at *
                simp only [T.wp, T.wp_cond, Aft, Int.ofNat_eq_natCast, decide_eq_true_eq, and_true, true_and, Nat.zero_add, Bool.not_eq_true', decide_eq_false_iff_not, Nat.zero_add, Int.toNat_natCast, ez]
                have hkV : k < V.length := by omega
                have hkM : k < M.length := by omega
                have hmV : m < V.length := by omega
                have z1 : (0 : Int) ≤ (i : Int) ∧ (i : Int) < (LL.length : Int) := ⟨by omega, by omega⟩
                have z1m : (0 : Int) ≤ (m : Int) ∧ (m : Int) < (LL.length : Int) := ⟨by omega, by omega⟩
                have z2 : (0 : Int) ≤ (k : Int) ∧ (k : Int) < (R.length : Int) := ⟨by omega, by omega⟩
                have z2M : (0 : Int) ≤ (k : Int) ∧ (k : Int) < (M.length : Int) := ⟨by omega, by omega⟩
                have z3 : (0 : Int) ≤ (m : Int) ∧ (m : Int) < (R.length : Int) := ⟨by omega, by omega⟩
                refine ite_yes (by omega) ⟨z1, ⟨fun h => absurd h him, fun _ => ⟨hiL, z1, ⟨fun h => absurd h him, fun _ => ⟨hiL, z2, hkV, ?_⟩⟩⟩⟩⟩
                cases c1 : V.getD k false with
                | true =>
                  rw [c1, if_pos rfl] at nx4
                  exact ite_yes rfl ⟨z2, hkV, hk64 k (by omega), nx4⟩
                | false =>
                  rw [c1, if_neg (by decide)] at nx4
                  refine ite_no (by decide) ⟨z1, ⟨fun h => absurd h him, fun _ => ⟨hiL, z3, hmV, ?_⟩⟩⟩
                  cases c2 : V.getD m false with
                  | true =>
                    rw [c2, if_pos rfl] at nx4
                    exact ite_yes rfl ⟨z1m, ⟨fun _ => ⟨hmL, z2M, hkM, z2, hkV, hk64 k (by omega), nx4⟩, fun h => absurd trivial h⟩⟩
                  | false =>
                    rw [c2, if_neg (by decide)] at nx4
                    exact ite_no (by decide) ⟨z2, hkV, hk64 k (by omega), nx4⟩
            exact inner l.length 0 (by omega)
      exact key3 l.length 0 (by omega)
  have key1 : ∀ (r i : Nat), i + r = l.length → Sym.Runs Try.prog b0 (cutAt Try.f11 3) (st_lea_3 l l_t (i : Int) (F.eG l i)) (Sym.Ends Try.prog Try.f11 1 (.c (.own 1 (List.length (F.lea l)))) [.nown 4 (F.lea l) [] [] 35 4]) := by
    intro r
    induction r with
    | zero =>
      intro i hi
      have ei : i = l.length := by omega
      subst ei
      refine Runs.go (cfg := C_con) L_con_ok mixed cuts_lea 400 hb (lea_t3 l l_t (l.length : Int) (F.eG l l.length)) ?_
      simp only [T.wp, T.wp_cond, Aft, Int.ofNat_eq_natCast, decide_eq_true_eq, and_true, true_and, Nat.zero_add, Bool.not_eq_true', decide_eq_false_iff_not]
      exact ite_no (by omega) (key2 l.length 0 (by omega))
    | succ r ih =>
      intro i hi
      have nx := ih (i + 1) (by omega)
      have hl := F.eG_len l i
      have e1 : F.eG l (i + 1) = (F.eG l i).set i (F.rG l i (l.length - (i + 1))) := rfl
      rw [e1] at nx
      refine Runs.go (cfg := C_con) L_con_ok mixed cuts_lea 400 hb (lea_t3 l l_t (i : Int) (F.eG l i)) ?_
      generalize F.eG l i = LL at *
      simp only [T.wp, T.wp_cond, Aft, Int.ofNat_eq_natCast, decide_eq_true_eq, and_true, true_and, Nat.zero_add, Bool.not_eq_true', decide_eq_false_iff_not, Nat.zero_add, Int.toNat_natCast, ed]
      have hiL : i < LL.length := by omega
      refine ite_yes (by omega) ⟨⟨by omega, by omega⟩, by omega, ?_⟩
      refine lea_row l l_t i LL _ _ _ hb h0 hiL ?_
      refine Runs.go (cfg := C_con) L_con_ok mixed cuts_lea_r6 400 hb (lea_y6 l l_t (i : Int) LL _ _ _ i l.length (List.replicate l.length false)) ?_
      simp only [T.wp, T.wp_cond, Aft, Int.ofNat_eq_natCast, decide_eq_true_eq, and_true, true_and, Nat.zero_add, Bool.not_eq_true', decide_eq_false_iff_not]
      refine ⟨by unfold Sym.i64ok; omega, ?_⟩
      have inner : ∀ (p j : Nat), i + 1 + j + p = l.length → Sym.Runs Try.prog b0 (cutAt Try.f11 7) (st_lea_7 l l_t (i : Int) LL (l.getD i F.ev0).1 (l.getD i F.ev0).2.1 (l.getD i F.ev0).2.2 i l.length (F.rG l i j) ((i : Int) + 1 + (j : Int))) (Sym.Ends Try.prog Try.f11 1 (.c (.own 1 (List.length (F.lea l)))) [.nown 4 (F.lea l) [] [] 35 4]) := by
        intro p
        induction p with
        | zero =>
          intro j hj
          have ej : j = l.length - (i + 1) := by omega
          have hRl := F.rG_len l i j
          rw [← ej] at nx
          refine Runs.go (cfg := C_con) L_con_ok mixed cuts_lea 400 hb (lea_t7 l l_t (i : Int) LL _ _ _ i l.length (F.rG l i j) ((i : Int) + 1 + (j : Int))) ?_
          generalize F.rG l i j = R at *
          simp only [T.wp, T.wp_cond, Aft, Int.ofNat_eq_natCast, decide_eq_true_eq, and_true, true_and, Nat.zero_add, Bool.not_eq_true', decide_eq_false_iff_not]
          refine ite_no (by omega) ?_
          refine Runs.closeW 1 (j := i) (r := 3) (N := 1) hb (t := 4) (LL := LL) (js := []) (c := .slc 3 0 l.length true) (cs := []) (ty := 35) (tyr := 4) (l := R) rfl hiL List.not_mem_nil (rowOf_slc rfl hRl.symm (by omega)) (by omega) (by omega) (st' := ⟨tmG 101 [(0, .c (.slc 0 0 (List.length l) l_t)), (2, .c (.own 1 (List.length LL))), (10, .c (.slc 0 0 (List.length l) l_t)), (0, .c (.int .i64 (Int.ofNat (List.length l)))), (0, .c (.int .i64 (i : Int)))], [.inp 1 l, .nown 4 (LL.set i R) [] [] 35 4, .blk [.int .i64 (l.getD i F.ev0).1, .int .i64 (l.getD i F.ev0).2.1, .int .i64 (l.getD i F.ev0).2.2] 37, .dead]⟩) ((closeW_eq (t := 4) (LL := LL) (j := i) (js := []) (c := .slc 3 0 l.length true) (cs := []) (ty := 35) (tyr := 4) (l := R) rfl (rowOf_slc rfl hRl.symm (by omega))).trans rfl) ?_
          have eS : (LL.set i R).length = LL.length := List.length_set
          refine Runs.weaken (st' := st_lea_r11 l l_t (i : Int) (LL.set i R)) (fun a w hR => ?_) ?_
          · unfold st_lea_r11
            rw [eS]
            exact fit_rel [3, 0, 14, 15, 16] 2 (by omega) hR
          · refine Runs.go (cfg := C_con) L_con_ok mixed cuts_lea_r11 400 hb (lea_tr11 l l_t (i : Int) (LL.set i R)) ?_
            simp only [T.wp, T.wp_cond, Aft, Int.ofNat_eq_natCast, decide_eq_true_eq, and_true, true_and, Nat.zero_add, Bool.not_eq_true', decide_eq_false_iff_not]
            rw [Int.natCast_succ] at nx
            exact ⟨by unfold Sym.i64ok; omega, nx⟩
        | succ p ih2 =>
          intro j hj
          have nx2 := ih2 (j + 1) (by omega)
          have e2 : F.rG l i (j + 1) = (F.rG l i j).set (i + 1 + j) (F.edg (l.getD i F.ev0) (l.getD (i + 1 + j) F.ev0)) := rfl
          rw [e2] at nx2
          have hRl := F.rG_len l i j
          have ec : (i : Int) + 1 + ((j + 1 : Nat) : Int) = (i : Int) + 1 + (j : Int) + 1 := by omega
          rw [ec] at nx2
          have et : ((i : Int) + 1 + (j : Int)).toNat = i + 1 + j := by omega
          refine Runs.go (cfg := C_con) L_con_ok mixed cuts_lea 400 hb (lea_t7 l l_t (i : Int) LL _ _ _ i l.length (F.rG l i j) ((i : Int) + 1 + (j : Int))) ?_
          generalize F.rG l i j = R at *
          simp only [T.wp, T.wp_cond, Aft, Int.ofNat_eq_natCast, decide_eq_true_eq, and_true, true_and, Nat.zero_add, Bool.not_eq_true', decide_eq_false_iff_not, Nat.zero_add, Int.toNat_natCast, ed, et]
          have hjR : i + 1 + j < R.length := by omega
          have hk64 : Sym.i64ok ((i : Int) + 1 + (j : Int) + 1) := by unfold Sym.i64ok; omega
          have z2 : (0 : Int) ≤ (i : Int) + 1 + (j : Int) ∧ (i : Int) + 1 + (j : Int) < (l.length : Int) := ⟨by omega, by omega⟩
          have z1 : (0 : Int) ≤ (i : Int) ∧ (i : Int) < (LL.length : Int) := ⟨by omega, by omega⟩
          unfold F.edg at nx2
          generalize l.getD i F.ev0 = x at *
          generalize l.getD (i + 1 + j) F.ev0 = y at *
          generalize (i : Int) + 1 + (j : Int) = k at *
          refine ite_yes z2.2 ⟨z2, by omega, z1, hiL, ?_⟩
          by_cases q1 : x.1 = y.1
          · rw [if_pos q1] at nx2
            exact ite_yes q1 ⟨z2, hjR, hk64, nx2⟩
          · rw [if_neg q1] at nx2
            refine ite_no q1 ?_
            by_cases q2 : x.2.1 = 1
            · rw [if_pos q2] at nx2
              refine ite_yes q2 ?_
              by_cases q3 : y.2.1 = 2
              · rw [if_pos q3] at nx2
                exact ite_yes q3 ⟨z2, hjR, hk64, nx2⟩
              · rw [if_neg q3] at nx2
                exact ite_no q3 ⟨z2, hjR, hk64, nx2⟩
            · rw [if_neg q2] at nx2
              exact ite_no q2 ⟨z2, hjR, hk64, nx2⟩
      have h00 := inner (l.length - (i + 1)) 0 (by omega)
      have ez0 : (i : Int) + 1 + ((0 : Nat) : Int) = (i : Int) + 1 := by omega
      rw [ez0] at h00
      exact h00
  refine Runs.go (cfg := C_con) L_con_ok mixed cuts_lea 400 hb (lea_t0 l l_t) ?_
  simp only [T.wp, T.wp_cond, Aft, Int.ofNat_eq_natCast, decide_eq_true_eq, and_true, true_and, Nat.zero_add, Bool.not_eq_true', decide_eq_false_iff_not]
  refine lea_mk l l_t hb h0 ?_
  refine Runs.go (cfg := C_con) L_con_ok mixed cuts_lea_r2 400 hb (lea_y2 l l_t (List.replicate l.length [])) ?_
  simp only [T.wp, T.wp_cond, Aft, Int.ofNat_eq_natCast, decide_eq_true_eq, and_true, true_and, Nat.zero_add, Bool.not_eq_true', decide_eq_false_iff_not]
  exact key1 l.length 0 (by omega)



noncomputable def s_lea : Summ cod := fun args H => match args, H with
  | [.c (.slc 0 l_i l_n l_t)], [o0] => (match o0.asInp 1 with | some l => .need ((l_i = 0 ∧ l_n = List.length l) ∧ (l.length ≤ 200)) (.ret (.c (.own 1 (List.length (F.lea l))), [.nown 4 (F.lea l) [] [] 35 4])) | none => .fail)
  | _, _ => .fail


theorem lea_sound : Sound Try.prog cod 11 s_lea := sound_runs (cfg := C_con) L_con_ok mixed Try.func11 rfl rfl _ fun args H r news hg b0 hb => by
  unfold s_lea at hg
  split at hg
  · skip
    split at hg
    · rename_i l hx0
      cases asInp_spec hx0
      simp only [T.gives, T.wp, Prod.mk.injEq] at hg
      obtain ⟨⟨⟨rfl, rfl⟩, q1⟩, rfl, rfl⟩ := hg
      exact lea_run _ _ b0 hb (by assumption)
    · exact hg.elim
  · exact hg.elim

noncomputable def L_lea : Sums cod := (11, .p s_lea) :: L_con
noncomputable def C_lea : Cfg cod := mkC L_lea

theorem L_lea_ok : Snd Try.prog cod L_lea := .cons lea_sound L_con_ok


end
end Go.Proofs.Ytgmnfdmlidhbcaa
