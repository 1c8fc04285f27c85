/- Part of a claim: lemmas on the way to its theorem; each states its own conditions. -/
import Derived.Test.YtbkpgpkeecnjpaaVc
namespace Go.Proofs.Ytbkpgpkeecnjpaa
open Sym Go.RowKit
noncomputable section
set_option maxRecDepth 100000
set_option maxHeartbeats 4000000



def cuts_wread : Cuts := [(100002, [2, 5, 0], 9), (100004, [2, 5, 0], 9), (16, [2, 5, 6, 0, 8, 75, 76], 5)]
def cuts_wread_r2 : Cuts := [(100004, [2, 5, 0], 9), (16, [2, 5, 6, 0, 8, 75, 76], 5)]
def cuts_wread_r2b : Cuts := [(100004, [2, 5, 0], 9), (16, [2, 5, 6, 0, 8, 75, 76], 5)]
def cuts_wread_r4 : Cuts := [(100002, [2, 5, 0], 9), (16, [2, 5, 6, 0, 8, 75, 76], 5)]

theorem wread_t0 (s : List UInt8) : symF C_wdec cuts_wread Try.f23.results.toList 0 400 [.code (codeOf Try.f23)] ⟨argsS Try.f23 [.c (.str s)], ([] : Heap cod)⟩ =
.ret (.cut (regAt Try.f23 2) ⟨tmG 137 [(0, .c (.str s)), (1, .c (.ptr 0 0 0)), (2, .c (.ptr 1 0 0))], [.blk [.int .i64 0, .int .i64 0, .nil] 24, .blk [.int .i64 0, .int .i64 0, .nil] 24]⟩) := by kernel_rfl


noncomputable def st_wread_r2 (s : List UInt8)  : St cod := ⟨tmG 137 [(0, .c (.str s)), (1, .c (.ptr 0 0 0)), (2, .c (.ptr 1 0 0))], [.blk [.int .i64 0, .int .i64 0, .nil] 24, .blk [.int .i64 0, .int .i64 0, .nil] 24]⟩


noncomputable def st_wread_r2b (s : List UInt8)  : St cod := ⟨tmG 137 [(0, .c (.str s)), (1, .c (.ptr 0 0 0)), (2, .c (.ptr 1 0 0))], ([.blk [.int .i64 0, .int .i64 0, .nil] 24, .blk [.int .i64 0, .int .i64 0, .own 2 0] 24, .own 2 [] 53] : Heap cod)⟩


theorem wread_tr2b (s : List UInt8)  : symF C_wdec cuts_wread_r2b Try.f23.results.toList 0 400 (regAt Try.f23 2) (st_wread_r2b s ) =
 cond (decide (0 < Int.ofNat (List.length s))) (
 .need (((0 : Int) ≤ 0 ∧ (0 : Int) < Int.ofNat (List.length s))) (
 cond (!decide (Int.ofNat (UInt8.toNat (List.getD s (Int.toNat 0) 0)) = 83)) (
  .ret (.fin (.tup [.agg [.int .i64 0, .int .i64 0, .own 0 0], .c (.int .i64 0), .c (.int .i64 3)]) [.own 2 [] 53])) (
  cond (decide (1 < Int.ofNat (List.length s))) (
   .need (((0 : Int) ≤ 1 ∧ (1 : Int) < Int.ofNat (List.length s))) (
   cond (!decide (Int.ofNat (UInt8.toNat (List.getD s (Int.toNat 1) 0)) = 87)) (
    .ret (.fin (.tup [.agg [.int .i64 0, .int .i64 0, .own 0 0], .c (.int .i64 0), .c (.int .i64 3)]) [.own 2 [] 53])) (
    .ret (.cut (regAt Try.f23 4) ⟨tmG 137 [(0, .c (.str s)), (1, .c (.ptr 0 0 0)), (2, .c (.ptr 1 0 0))], [.blk [.int .i64 0, .int .i64 0, .nil] 24, .blk [.int .i64 0, .int .i64 0, .own 2 0] 24, .own 2 [] 53]⟩)))) (
   .ret (.cut (regAt Try.f23 4) ⟨tmG 137 [(0, .c (.str s)), (1, .c (.ptr 0 0 0)), (2, .c (.ptr 1 0 0))], [.blk [.int .i64 0, .int .i64 0, .nil] 24, .blk [.int .i64 0, .int .i64 0, .own 2 0] 24, .own 2 [] 53]⟩))))) (
 cond (decide (1 < Int.ofNat (List.length s))) (
  .need (((0 : Int) ≤ 1 ∧ (1 : Int) < Int.ofNat (List.length s))) (
  cond (!decide (Int.ofNat (UInt8.toNat (List.getD s (Int.toNat 1) 0)) = 87)) (
   .ret (.fin (.tup [.agg [.int .i64 0, .int .i64 0, .own 0 0], .c (.int .i64 0), .c (.int .i64 3)]) [.own 2 [] 53])) (
   .ret (.cut (regAt Try.f23 4) ⟨tmG 137 [(0, .c (.str s)), (1, .c (.ptr 0 0 0)), (2, .c (.ptr 1 0 0))], [.blk [.int .i64 0, .int .i64 0, .nil] 24, .blk [.int .i64 0, .int .i64 0, .own 2 0] 24, .own 2 [] 53]⟩)))) (
  .ret (.cut (regAt Try.f23 4) ⟨tmG 137 [(0, .c (.str s)), (1, .c (.ptr 0 0 0)), (2, .c (.ptr 1 0 0))], [.blk [.int .i64 0, .int .i64 0, .nil] 24, .blk [.int .i64 0, .int .i64 0, .own 2 0] 24, .own 2 [] 53]⟩))) := by kernel_rfl


noncomputable def st_wread_r4 (s : List UInt8)  : St cod := ⟨tmG 137 [(0, .c (.str s)), (1, .c (.ptr 0 0 0)), (2, .c (.ptr 1 0 0))], [.blk [.int .i64 0, .int .i64 0, .nil] 24, .blk [.int .i64 0, .int .i64 0, .own 2 0] 24, .own 2 [] 53]⟩


theorem wread_tr4 (s : List UInt8)  : symF C_wdec cuts_wread_r4 Try.f23.results.toList 0 400 (regAt Try.f23 4) (st_wread_r4 s ) =
 cond (decide (Int.ofNat (List.length s) < 9)) (
 .ret (.fin (.tup [.agg [.int .i64 0, .int .i64 0, .own 0 0], .c (.int .i64 0), .c (.int .i64 8)]) [.own 2 [] 53])) (
 .need (((0 : Int) ≤ 2 ∧ ((2 : Int) ≤ 3 ∧ (3 : Int) ≤ Int.ofNat (List.length s)))) (
 .need (List.length (List.take (Int.toNat 3 - Int.toNat 2) (List.drop (Int.toNat 2) s)) ≤ 7) (
 .need (((0 : Int) ≤ 3 ∧ ((3 : Int) ≤ 7 ∧ (7 : Int) ≤ Int.ofNat (List.length s)))) (
 .need (List.length (List.take (Int.toNat 7 - Int.toNat 3) (List.drop (Int.toNat 3) s)) ≤ 7) (
 .need (((0 : Int) ≤ 7 ∧ ((7 : Int) ≤ 9 ∧ (9 : Int) ≤ Int.ofNat (List.length s)))) (
 .need (List.length (List.take (Int.toNat 9 - Int.toNat 7) (List.drop (Int.toNat 7) s)) ≤ 7) (
 cond (decide (200000 < F.num (List.take (Int.toNat 7 - Int.toNat 3) (List.drop (Int.toNat 3) s)))) (
  .ret (.fin (.tup [.agg [.int .i64 0, .int .i64 0, .own 0 0], .c (.int .i64 0), .c (.int .i64 3)]) [.own 2 [] 53])) (
  cond (decide (32 < F.num (List.take (Int.toNat 9 - Int.toNat 7) (List.drop (Int.toNat 7) s)))) (
   .ret (.fin (.tup [.agg [.int .i64 0, .int .i64 0, .own 0 0], .c (.int .i64 0), .c (.int .i64 3)]) [.own 2 [] 53])) (
   .need (Sym.i64ok (16 * F.num (List.take (Int.toNat 9 - Int.toNat 7) (List.drop (Int.toNat 7) s)))) (
   .need (Sym.i64ok (9 + 16 * F.num (List.take (Int.toNat 9 - Int.toNat 7) (List.drop (Int.toNat 7) s)))) (
   .need (Sym.i64ok (9 + 16 * F.num (List.take (Int.toNat 9 - Int.toNat 7) (List.drop (Int.toNat 7) s)) + 2)) (
   cond (decide   (Int.ofNat (List.length s) < 9 + 16 * F.num (List.take (Int.toNat 9 - Int.toNat 7) (List.drop (Int.toNat 7) s)) + 2)) (
    .ret (.fin (.tup [.agg [.int .i64 0, .int .i64 0, .own 0 0], .c (.int .i64 0), .c (.int .i64 8)]) [.own 2 [] 53])) (
    .need (Sym.i64ok (9 + 16 * F.num (List.take (Int.toNat 9 - Int.toNat 7) (List.drop (Int.toNat 7) s)) + 2 - 2)) (
    .need (((0 : Int) ≤ 9 + 16 * F.num (List.take (Int.toNat 9 - Int.toNat 7) (List.drop (Int.toNat 7) s)) + 2 - 2 ∧ 9 + 16 * F.num (List.take (Int.toNat 9 - Int.toNat 7) (List.drop (Int.toNat 7) s)) + 2 - 2 ≤ Int.ofNat (List.length s))) (
    .need (List.length     (List.take (Int.toNat (9 + 16 * F.num (List.take (Int.toNat 9 - Int.toNat 7) (List.drop (Int.toNat 7) s)) + 2 - 2))       s) ≤   1000000) (
    .need (Sym.i64ok (9 + 16 * F.num (List.take (Int.toNat 9 - Int.toNat 7) (List.drop (Int.toNat 7) s)) + 2 - 2)) (
    .need (((0 : Int) ≤ 9 + 16 * F.num (List.take (Int.toNat 9 - Int.toNat 7) (List.drop (Int.toNat 7) s)) + 2 - 2 ∧ (9 + 16 * F.num (List.take (Int.toNat 9 - Int.toNat 7) (List.drop (Int.toNat 7) s)) + 2 - 2 ≤   9 + 16 * F.num (List.take (Int.toNat 9 - Int.toNat 7) (List.drop (Int.toNat 7) s)) + 2 ∧ 9 + 16 * F.num (List.take (Int.toNat 9 - Int.toNat 7) (List.drop (Int.toNat 7) s)) + 2 ≤ Int.ofNat (List.length s)))) (
    .need (List.length     (List.take       (Int.toNat (9 + 16 * F.num (List.take (Int.toNat 9 - Int.toNat 7) (List.drop (Int.toNat 7) s)) + 2) -         Int.toNat (9 + 16 * F.num (List.take (Int.toNat 9 - Int.toNat 7) (List.drop (Int.toNat 7) s)) + 2 - 2))       (List.drop         (Int.toNat (9 + 16 * F.num (List.take (Int.toNat 9 - Int.toNat 7) (List.drop (Int.toNat 7) s)) + 2 - 2)) s)) ≤   7) (
    cond (!decide     (F.wsum         (List.take           (Int.toNat (9 + 16 * F.num (List.take (Int.toNat 9 - Int.toNat 7) (List.drop (Int.toNat 7) s)) + 2 - 2)) s) =       F.num         (List.take           (Int.toNat (9 + 16 * F.num (List.take (Int.toNat 9 - Int.toNat 7) (List.drop (Int.toNat 7) s)) + 2) -             Int.toNat (9 + 16 * F.num (List.take (Int.toNat 9 - Int.toNat 7) (List.drop (Int.toNat 7) s)) + 2 - 2))           (List.drop             (Int.toNat (9 + 16 * F.num (List.take (Int.toNat 9 - Int.toNat 7) (List.drop (Int.toNat 7) s)) + 2 - 2))             s)))) (
     .ret (.fin (.tup [.agg [.int .i64 0, .int .i64 0, .own 0 0], .c (.int .i64 0), .c (.int .i64 13)]) [.own 2 [] 53])) (
     .ret (.cut (cutAt Try.f23 16) ⟨tmG 66 [(0, .c (.str s)), (1, .c (.ptr 0 0 0)), (2, .c (.ptr 1 0 0)), (0, .c (.ptr 3 0 0)), (1, .c (.int .i64 (9 + 16 * F.num (List.take (Int.toNat 9 - Int.toNat 7) (List.drop (Int.toNat 7) s)) + 2))), (66, .c (.int .i64 (F.num (List.take (Int.toNat 9 - Int.toNat 7) (List.drop (Int.toNat 7) s))))), (0, .c (.int .i64 0))], [.blk [.int .i64 0, .int .i64 0, .nil] 24, .blk [.int .i64 0, .int .i64 0, .own 2 0] 24, .own 2 [] 53, .blk [.int .i64 (F.num (List.take (Int.toNat 3 - Int.toNat 2) (List.drop (Int.toNat 2) s))), .int .i64 (F.num (List.take (Int.toNat 7 - Int.toNat 3) (List.drop (Int.toNat 3) s))), .nil] 24]⟩))))))))))))))))))))) := by kernel_rfl


noncomputable def st_wread_16a (s : List UInt8)  : St cod := ⟨tmG 66 [(0, .c (.str s)), (1, .c (.ptr 0 0 0)), (2, .c (.ptr 1 0 0)), (0, .c (.ptr 3 0 0)), (1, .c (.int .i64 (9 + 16 * F.num (List.take (Int.toNat 9 - Int.toNat 7) (List.drop (Int.toNat 7) s)) + 2))), (66, .c (.int .i64 (F.num (List.take (Int.toNat 9 - Int.toNat 7) (List.drop (Int.toNat 7) s))))), (0, .c (.int .i64 0))], [.blk [.int .i64 0, .int .i64 0, .nil] 24, .blk [.int .i64 0, .int .i64 0, .own 2 0] 24, .own 2 [] 53, .blk [.int .i64 (F.num (List.take (Int.toNat 3 - Int.toNat 2) (List.drop (Int.toNat 2) s))), .int .i64 (F.num (List.take (Int.toNat 7 - Int.toNat 3) (List.drop (Int.toNat 3) s))), .nil] 24]⟩


noncomputable def st_wread_16 (s : List UInt8) (r t z n i : Int) (ps : List (Int × Int × Int × Int × Int × Int)) (q : Nat) : St cod := ⟨tmG 66 [(0, .c (.str s)), (1, .c (.ptr 0 0 0)), (2, .c (.ptr 1 0 0)), (0, .c (.ptr 3 0 0)), (1, .c (.int .i64 z)), (66, .c (.int .i64 n)), (0, .c (.int .i64 i))], ([.blk [.int .i64 0, .int .i64 0, .nil] 24, .blk [.int .i64 0, .int .i64 0, .own 2 0] 24, .own 2 [] 53, .blk [.int .i64 r, .int .i64 t, .own 4 q] 24, .own 2 ps 53] : Heap cod)⟩


theorem wread_t16 (s : List UInt8) (r t z n i : Int) (ps : List (Int × Int × Int × Int × Int × Int)) (q : Nat) : symF C_wdec cuts_wread Try.f23.results.toList 0 400 (cutAt Try.f23 16) (st_wread_16 s r t z n i ps q) =
 cond (decide (i < n)) (
 .need (Sym.i64ok (16 * i)) (
 .need (Sym.i64ok (9 + 16 * i)) (
 .need (Sym.i64ok (16 * i)) (
 .need (Sym.i64ok (25 + 16 * i)) (
 .need (((0 : Int) ≤ 9 + 16 * i ∧ (9 + 16 * i ≤ 25 + 16 * i ∧ 25 + 16 * i ≤ Int.ofNat (List.length s)))) (
 .need (((0 : Int) ≤ 4 ∧ (4 : Int) ≤ Int.ofNat   (List.length (List.take (Int.toNat (25 + 16 * i) - Int.toNat (9 + 16 * i)) (List.drop (Int.toNat (9 + 16 * i)) s))))) (
 .need (List.length     (List.take (Int.toNat 4)       (List.take (Int.toNat (25 + 16 * i) - Int.toNat (9 + 16 * i)) (List.drop (Int.toNat (9 + 16 * i)) s))) ≤   7) (
 .need ((0 : Int) ≤ 32) (
 .need (((0 : Int) ≤ 4 ∧ ((4 : Int) ≤ 8 ∧ (8 : Int) ≤ Int.ofNat   (List.length (List.take (Int.toNat (25 + 16 * i) - Int.toNat (9 + 16 * i)) (List.drop (Int.toNat (9 + 16 * i)) s)))))) (
 .need (List.length     (List.take (Int.toNat 8 - Int.toNat 4)       (List.drop (Int.toNat 4)         (List.take (Int.toNat (25 + 16 * i) - Int.toNat (9 + 16 * i)) (List.drop (Int.toNat (9 + 16 * i)) s)))) ≤   7) (
 cond (F.fgt FloatKind.f64     (Int.toNat       (bits BinOp.or IntKind.u64         (IntKind.wrap IntKind.u64           (IntKind.wrap IntKind.u64               (F.num                 (List.take (Int.toNat 4)                   (List.take (Int.toNat (25 + 16 * i) - Int.toNat (9 + 16 * i))                     (List.drop (Int.toNat (9 + 16 * i)) s)))) *             2 ^ min (Int.toNat 32) 64))         (IntKind.wrap IntKind.u64           (F.num             (List.take (Int.toNat 8 - Int.toNat 4)               (List.drop (Int.toNat 4)                 (List.take (Int.toNat (25 + 16 * i) - Int.toNat (9 + 16 * i))                   (List.drop (Int.toNat (9 + 16 * i)) s))))))))     0 ||   F.feq FloatKind.f64     (Int.toNat       (bits BinOp.or IntKind.u64         (IntKind.wrap IntKind.u64           (IntKind.wrap IntKind.u64               (F.num                 (List.take (Int.toNat 4)                   (List.take (Int.toNat (25 + 16 * i) - Int.toNat (9 + 16 * i))                     (List.drop (Int.toNat (9 + 16 * i)) s)))) *             2 ^ min (Int.toNat 32) 64))         (IntKind.wrap IntKind.u64           (F.num             (List.take (Int.toNat 8 - Int.toNat 4)               (List.drop (Int.toNat 4)                 (List.take (Int.toNat (25 + 16 * i) - Int.toNat (9 + 16 * i))                   (List.drop (Int.toNat (9 + 16 * i)) s))))))))     0) (
  cond (!(F.flt FloatKind.f64       (Int.toNat         (bits BinOp.or IntKind.u64           (IntKind.wrap IntKind.u64             (IntKind.wrap IntKind.u64                 (F.num                   (List.take (Int.toNat 4)                     (List.take (Int.toNat (25 + 16 * i) - Int.toNat (9 + 16 * i))                       (List.drop (Int.toNat (9 + 16 * i)) s)))) *               2 ^ min (Int.toNat 32) 64))           (IntKind.wrap IntKind.u64             (F.num               (List.take (Int.toNat 8 - Int.toNat 4)                 (List.drop (Int.toNat 4)                   (List.take (Int.toNat (25 + 16 * i) - Int.toNat (9 + 16 * i))                     (List.drop (Int.toNat (9 + 16 * i)) s))))))))       4701340746312056832 ||     F.feq FloatKind.f64       (Int.toNat         (bits BinOp.or IntKind.u64           (IntKind.wrap IntKind.u64             (IntKind.wrap IntKind.u64                 (F.num                   (List.take (Int.toNat 4)                     (List.take (Int.toNat (25 + 16 * i) - Int.toNat (9 + 16 * i))                       (List.drop (Int.toNat (9 + 16 * i)) s)))) *               2 ^ min (Int.toNat 32) 64))           (IntKind.wrap IntKind.u64             (F.num               (List.take (Int.toNat 8 - Int.toNat 4)                 (List.drop (Int.toNat 4)                   (List.take (Int.toNat (25 + 16 * i) - Int.toNat (9 + 16 * i))                     (List.drop (Int.toNat (9 + 16 * i)) s))))))))       4701340746312056832)) (
   .ret (.fin (.tup [.agg [.int .i64 0, .int .i64 0, .own 0 0], .c (.int .i64 0), .c (.int .i64 3)]) [.own 2 [] 53])) (
   .need (F.f2iOk FloatKind.f64   (Int.toNat     (bits BinOp.or IntKind.u64       (IntKind.wrap IntKind.u64         (IntKind.wrap IntKind.u64             (F.num               (List.take (Int.toNat 4)                 (List.take (Int.toNat (25 + 16 * i) - Int.toNat (9 + 16 * i))                   (List.drop (Int.toNat (9 + 16 * i)) s)))) *           2 ^ min (Int.toNat 32) 64))       (IntKind.wrap IntKind.u64         (F.num           (List.take (Int.toNat 8 - Int.toNat 4)             (List.drop (Int.toNat 4)               (List.take (Int.toNat (25 + 16 * i) - Int.toNat (9 + 16 * i))                 (List.drop (Int.toNat (9 + 16 * i)) s))))))))   IntKind.i64) (
   .need (((0 : Int) ≤ 8 ∧ ((8 : Int) ≤ 10 ∧ (10 : Int) ≤ Int.ofNat   (List.length (List.take (Int.toNat (25 + 16 * i) - Int.toNat (9 + 16 * i)) (List.drop (Int.toNat (9 + 16 * i)) s)))))) (
   .need (List.length     (List.take (Int.toNat 10 - Int.toNat 8)       (List.drop (Int.toNat 8)         (List.take (Int.toNat (25 + 16 * i) - Int.toNat (9 + 16 * i)) (List.drop (Int.toNat (9 + 16 * i)) s)))) ≤   7) (
   .need (((0 : Int) ≤ 10 ∧ ((10 : Int) ≤ 14 ∧ (14 : Int) ≤ Int.ofNat   (List.length (List.take (Int.toNat (25 + 16 * i) - Int.toNat (9 + 16 * i)) (List.drop (Int.toNat (9 + 16 * i)) s)))))) (
   .need (List.length     (List.take (Int.toNat 14 - Int.toNat 10)       (List.drop (Int.toNat 10)         (List.take (Int.toNat (25 + 16 * i) - Int.toNat (9 + 16 * i)) (List.drop (Int.toNat (9 + 16 * i)) s)))) ≤   7) (
   .need (((0 : Int) ≤ 14 ∧ ((14 : Int) ≤ 16 ∧ (16 : Int) ≤ Int.ofNat   (List.length (List.take (Int.toNat (25 + 16 * i) - Int.toNat (9 + 16 * i)) (List.drop (Int.toNat (9 + 16 * i)) s)))))) (
   .need (List.length     (List.take (Int.toNat 16 - Int.toNat 14)       (List.drop (Int.toNat 14)         (List.take (Int.toNat (25 + 16 * i) - Int.toNat (9 + 16 * i)) (List.drop (Int.toNat (9 + 16 * i)) s)))) ≤   7) (
   .need (Sym.i64ok   (F.num       (List.take (Int.toNat 16 - Int.toNat 14)         (List.drop (Int.toNat 14)           (List.take (Int.toNat (25 + 16 * i) - Int.toNat (9 + 16 * i)) (List.drop (Int.toNat (9 + 16 * i)) s)))) -     1)) (
   .need (1 = 1) (
   .need (q + 1 ≤ 1000000) (
   .need (Sym.i64ok (i + 1)) (
   .ret (.cut (cutAt Try.f23 16) ⟨tmG 66 [(0, .c (.str s)), (1, .c (.ptr 0 0 0)), (2, .c (.ptr 1 0 0)), (0, .c (.ptr 3 0 0)), (1, .c (.int .i64 z)), (66, .c (.int .i64 n)), (0, .c (.int .i64 (i + 1)))], [.blk [.int .i64 0, .int .i64 0, .nil] 24, .blk [.int .i64 0, .int .i64 0, .own 2 0] 24, .own 2 [] 53, .blk [.int .i64 r, .int .i64 t, .own 4 (q + 1)] 24, .own 2 (ps ++ ([(r, t,     F.f2i FloatKind.f64       (Int.toNat         (bits BinOp.or IntKind.u64           (IntKind.wrap IntKind.u64             (IntKind.wrap IntKind.u64                 (F.num                   (List.take (Int.toNat 4)                     (List.take (Int.toNat (25 + 16 * i) - Int.toNat (9 + 16 * i))                       (List.drop (Int.toNat (9 + 16 * i)) s)))) *               2 ^ min (Int.toNat 32) 64))           (IntKind.wrap IntKind.u64             (F.num               (List.take (Int.toNat 8 - Int.toNat 4)                 (List.drop (Int.toNat 4)                   (List.take (Int.toNat (25 + 16 * i) - Int.toNat (9 + 16 * i))                     (List.drop (Int.toNat (9 + 16 * i)) s))))))))       IntKind.i64,     F.num       (List.take (Int.toNat 10 - Int.toNat 8)         (List.drop (Int.toNat 8)           (List.take (Int.toNat (25 + 16 * i) - Int.toNat (9 + 16 * i)) (List.drop (Int.toNat (9 + 16 * i)) s)))),     F.num       (List.take (Int.toNat 14 - Int.toNat 10)         (List.drop (Int.toNat 10)           (List.take (Int.toNat (25 + 16 * i) - Int.toNat (9 + 16 * i)) (List.drop (Int.toNat (9 + 16 * i)) s)))),     F.num         (List.take (Int.toNat 16 - Int.toNat 14)           (List.drop (Int.toNat 14)             (List.take (Int.toNat (25 + 16 * i) - Int.toNat (9 + 16 * i)) (List.drop (Int.toNat (9 + 16 * i)) s)))) -       1)])) 53]⟩)))))))))))))) (
  .ret (.fin (.tup [.agg [.int .i64 0, .int .i64 0, .own 0 0], .c (.int .i64 0), .c (.int .i64 3)]) [.own 2 [] 53]))))))))))))) (
 .need ((0 = 0 ∧ q = List.length ps)) (
 cond (!decide (F.chk r t ps = 0)) (
  .ret (.fin (.tup [.agg [.int .i64 0, .int .i64 0, .own 0 0], .c (.int .i64 0), .c (.int .i64 3)]) [.own 2 [] 53])) (
  .need (((0 = 0 ∧ q = List.length ps) ∧ F.chk r t ps = 0)) (
  .need (((0 : Int) ≤ z ∧ z ≤ Int.ofNat (List.length s))) (
  cond (!decide (F.frame r t ps = List.take (Int.toNat z) s)) (
   .ret (.fin (.tup [.agg [.int .i64 0, .int .i64 0, .own 0 0], .c (.int .i64 0), .c (.int .i64 3)]) [.own 2 [] 53])) (
   .ret (.fin (.tup [.agg [.int .i64 r, .int .i64 t, .own 0 (q)], .c (.int .i64 z), .c (.int .i64 0)]) [.own 2 ps 53]))))))) := by kernel_rfl



theorem take_sl (s : List UInt8) (a : Nat) {n m : Nat} (h : n ≤ m) : List.take n (F.sl s a m) = F.sl s a n := by
  unfold F.sl
  rw [List.take_take, Nat.min_eq_left h]
theorem sub_sl (s : List UInt8) (a b : Nat) {n m : Nat} (h : b + n ≤ m) : List.take n (List.drop b (F.sl s a m)) = F.sl s (a + b) n := by
  unfold F.sl
  rw [List.drop_take, List.take_take, Nat.min_eq_left (by omega), List.drop_drop]
theorem sl_full (s : List UInt8) {a n : Nat} (h : a + n ≤ s.length) : (F.sl s a n).length = n := by
  unfold F.sl
  rw [List.length_take, List.length_drop]
  omega
theorem or32 (s : List UInt8) (a : Nat) (h : a + 8 ≤ s.length) : bits .or .u64 (IntKind.wrap .u64 (IntKind.wrap .u64 (F.num (F.sl s a 4)) * 2 ^ min (Int.toNat 32) 64)) (IntKind.wrap .u64 (F.num (F.sl s (a + 4) 4))) = F.num (F.sl s a 8) := by
  have e : F.sl s a 8 = F.sl s a 4 ++ F.sl s (a + 4) 4 := by
    unfold F.sl
    rw [show (8 : Nat) = 4 + 4 by rfl, List.take_add, List.drop_drop]
  have e2 : (2 : Int) ^ min (Int.toNat 32) 64 = 4294967296 := by decide
  have n1 := num4 s a
  have n2 := num4 s (a + 4)
  rw [e, num_append, sl_full s (a := a + 4) (n := 4) (by omega), show (256 : Int) ^ 4 = 4294967296 by decide, e2]
  generalize F.num (F.sl s a 4) = x at *
  generalize F.num (F.sl s (a + 4) 4) = y at *
  obtain ⟨u, rfl⟩ := Int.eq_ofNat_of_zero_le n1.1
  obtain ⟨v, rfl⟩ := Int.eq_ofNat_of_zero_le n2.1
  rw [IntKind.wrap_u64, IntKind.wrap_u64, IntKind.wrap_u64, show (u : Int) % 18446744073709551616 * 4294967296 % 18446744073709551616 = ((u * 4294967296 : Nat) : Int) by omega, show (v : Int) % 18446744073709551616 = ((v : Nat) : Int) by omega, u64_or_nat _ _ (by omega) (by omega), nat_join 32 _ _ (by omega) (by omega)]
  omega
theorem wread_run (s : List UInt8) (b0 : Base) (hb : b0.n = 0)  : Sym.Runs Try.prog b0 [.code (codeOf Try.f23)] ⟨argsS Try.f23 [.c (.str s)], ([] : Heap cod)⟩ (Sym.Ends Try.prog Try.f23 0 (.tup [.agg [.int .i64 (F.oR s), .int .i64 (F.oT s), .own 0 (List.length (F.oL s))], .c (.int .i64 (F.oZ s)), .c (.int .i64 (F.rE s))]) [.own 2 (F.oL s) 53]) := by
  have key : ¬ F.hd s → ¬ s.length < 9 → ¬ (200000 < F.rT s ∨ 32 < F.rN s) → ¬ (s.length : Int) < F.rZ s → ¬ F.wsum (s.take (F.rZ s - 2).toNat) ≠ F.num (F.sl s (F.rZ s - 2).toNat 2) → ∀ (m k : Nat), k + m = (F.rN s).toNat →
      Sym.Runs Try.prog b0 (cutAt Try.f23 16) (st_wread_16 s (F.rR s) (F.rT s) (F.rZ s) (F.rN s) (k : Int) (F.gL F.gB s (F.rR s) (F.rT s) k) k) (Sym.Ends Try.prog Try.f23 0 (.tup [.agg [.int .i64 (F.oR s), .int .i64 (F.oT s), .own 0 (List.length (F.oL s))], .c (.int .i64 (F.oZ s)), .c (.int .i64 (F.rE s))]) [.own 2 (F.oL s) 53]) := by
    intro g1 g2 g3 g4 g5 m
    have hN := num2 s 7
    have hN : 0 ≤ F.rN s := hN.1
    have hZ : F.rZ s = 11 + 16 * F.rN s := rfl
    induction m with
    | zero =>
      intro k hk
      refine Runs.go (cfg := C_wdec) L_wdec_ok mixed cuts_wread 400 hb (wread_t16 s _ _ _ _ _ _ _) ?_
      have ek : k = (F.rN s).toNat := by omega
      simp only [T.wp, T.wp_cond, Aft, Int.ofNat_eq_natCast, decide_eq_true_eq, and_true, true_and, Nat.zero_add, Bool.not_eq_true', decide_eq_false_iff_not]
      refine ite_no (by omega) ⟨(gL_len ..).symm, ?_⟩
      subst ek
      by_cases c1 : F.chk (F.rR s) (F.rT s) (F.gL F.gB s (F.rR s) (F.rT s) (F.rN s).toNat) = 0
      · refine ite_no (fun q => q c1) ⟨⟨(gL_len ..).symm, c1⟩, ⟨by omega, by omega⟩, ?_⟩
        by_cases c2 : F.frame (F.rR s) (F.rT s) (F.gL F.gB s (F.rR s) (F.rT s) (F.rN s).toNat) = s.take (F.rZ s).toNat
        · exact ite_no (fun q => q c2) (rd_ok (rE_ok g1 g2 g3 g4 g5 ⟨c1, c2⟩))
        · exact ite_yes c2 (rd_bad (rE_no g1 g2 g3 g4 g5 fun fb => c2 fb.2) (by decide))
      · exact ite_yes c1 (rd_bad (rE_no g1 g2 g3 g4 g5 fun fb => c1 fb.1) (by decide))
    | succ m ih =>
      intro k hk
      refine Runs.go (cfg := C_wdec) L_wdec_ok mixed cuts_wread 400 hb (wread_t16 s _ _ _ _ _ _ _) ?_
      have nx := ih (k + 1) (by omega)
      rw [show ((k + 1 : Nat) : Int) = (k : Int) + 1 by omega] at nx
      have eq := cut_sl s (i := 9 + 16 * (k : Int)) (j := 25 + 16 * (k : Int)) (a := 9 + 16 * k) (n := 16) (by omega) (by omega)
      have e0 : List.take (Int.toNat 4) (F.sl s (9 + 16 * k) 16) = F.sl s (9 + 16 * k) 4 := take_sl s _ (by decide)
      have e1 : List.take (Int.toNat 8 - Int.toNat 4) (List.drop (Int.toNat 4) (F.sl s (9 + 16 * k) 16)) = F.sl s (9 + 16 * k + 4) 4 := sub_sl s _ 4 (n := 4) (by decide)
      have e2 : List.take (Int.toNat 10 - Int.toNat 8) (List.drop (Int.toNat 8) (F.sl s (9 + 16 * k) 16)) = F.sl s (17 + 16 * k) 2 := (sub_sl s _ 8 (n := 2) (by decide)).trans (by rw [show 9 + 16 * k + 8 = 17 + 16 * k by omega])
      have e3 : List.take (Int.toNat 14 - Int.toNat 10) (List.drop (Int.toNat 10) (F.sl s (9 + 16 * k) 16)) = F.sl s (19 + 16 * k) 4 := (sub_sl s _ 10 (n := 4) (by decide)).trans (by rw [show 9 + 16 * k + 10 = 19 + 16 * k by omega])
      have e4 : List.take (Int.toNat 16 - Int.toNat 14) (List.drop (Int.toNat 14) (F.sl s (9 + 16 * k) 16)) = F.sl s (23 + 16 * k) 2 := (sub_sl s _ 14 (n := 2) (by decide)).trans (by rw [show 9 + 16 * k + 14 = 23 + 16 * k by omega])
      have eo := or32 s (9 + 16 * k) (by omega)
      have lq : (F.sl s (9 + 16 * k) 16).length = 16 := sl_full s (by omega)
      have l0 := sl_len s (9 + 16 * k) 4
      have l1 := sl_len s (9 + 16 * k + 4) 4
      have l2 := sl_len s (17 + 16 * k) 2
      have l3 := sl_len s (19 + 16 * k) 4
      have l4 := sl_len s (23 + 16 * k) 2
      have n4 := num2 s (23 + 16 * k)
      simp only [T.wp, T.wp_cond, Aft, Int.ofNat_eq_natCast, decide_eq_true_eq, and_true, true_and, Nat.zero_add, Bool.not_eq_true', decide_eq_false_iff_not, eq, e0, e1, e2, e3, e4, eo, lq]
      refine ite_yes (by omega) ⟨by unfold Sym.i64ok; omega, by unfold Sym.i64ok; omega, by unfold Sym.i64ok; omega, by unfold Sym.i64ok; omega, ⟨by omega, by omega, by omega⟩, ⟨by decide, by decide⟩, by omega, by decide, ⟨by decide, by decide, by decide⟩, by omega, ?_⟩
      have bad : ¬ (F.fine F.gB s) → (SV.tup [.agg [.int .i64 0, .int .i64 0, .own 0 0], .c (.int .i64 0), .c (.int .i64 3)] : SV) = .tup [.agg [.int .i64 (F.oR s), .int .i64 (F.oT s), .own 0 (List.length (F.oL s))], .c (.int .i64 (F.oZ s)), .c (.int .i64 (F.rE s))] ∧ ([.own 2 [] 53] : Heap cod) = [.own 2 (F.oL s) 53] := fun nf => rd_bad (rE_no g1 g2 g3 g4 g5 nf) (by decide)
      have word : F.fine F.gB s → ∃ n : Nat, n ≤ 2000000 ∧ (F.num (F.sl s (9 + 16 * k) 8)).toNat = F.dbl n := fun fb => by
        obtain ⟨n, hn, he⟩ := fine_word (by omega) fb (k := k) (by omega)
        have he : F.num (F.sl s (9 + 16 * k) 8) = _ := he
        exact ⟨n, hn, by rw [he]; omega⟩
      by_cases c0 : (Sym.F.fgt .f64 (F.num (F.sl s (9 + 16 * k) 8)).toNat 0 || Sym.F.feq .f64 (F.num (F.sl s (9 + 16 * k) 8)).toNat 0) = true
      · refine ite_yes c0 ?_
        by_cases c1 : (Sym.F.flt .f64 (F.num (F.sl s (9 + 16 * k) 8)).toNat 4701340746312056832 || Sym.F.feq .f64 (F.num (F.sl s (9 + 16 * k) 8)).toNat 4701340746312056832) = true
        · refine ite_no (by rw [c1]; decide) ⟨f2i_ok c0 c1, ⟨by decide, by decide, by decide⟩, by omega, ⟨by decide, by decide, by decide⟩, by omega, ⟨by decide, by decide, by decide⟩, by omega, by unfold Sym.i64ok; omega, by omega, by unfold Sym.i64ok; omega, nx⟩
        · refine ite_yes (Bool.eq_false_iff.2 c1) (bad fun fb => ?_)
          obtain ⟨n, hn, he⟩ := word fb
          rw [he] at c1
          exact c1 (dbl_le hn)
      · refine ite_no c0 (bad fun fb => ?_)
        obtain ⟨n, hn, he⟩ := word fb
        rw [he] at c0
        exact c0 (dbl_ge (by omega))
  have main : ¬ F.hd s → Sym.Runs Try.prog b0 (regAt Try.f23 4) (st_wread_r4 s) (Sym.Ends Try.prog Try.f23 0 (.tup [.agg [.int .i64 (F.oR s), .int .i64 (F.oT s), .own 0 (List.length (F.oL s))], .c (.int .i64 (F.oZ s)), .c (.int .i64 (F.rE s))]) [.own 2 (F.oL s) 53]) := by
    intro g1
    refine Runs.go (cfg := C_wdec) L_wdec_ok mixed cuts_wread_r4 400 hb (wread_tr4 s) ?_
    have e0 := cut_sl s (i := 2) (j := 3) (a := 2) (n := 1) rfl rfl
    have e1 := cut_sl s (i := 3) (j := 7) (a := 3) (n := 4) rfl rfl
    have e2 := cut_sl s (i := 7) (j := 9) (a := 7) (n := 2) rfl rfl
    have t0 : F.num (F.sl s 2 1) = F.rR s := rfl
    have t1 : F.num (F.sl s 3 4) = F.rT s := rfl
    have t2 : F.num (F.sl s 7 2) = F.rN s := rfl
    have t3 : 9 + 16 * F.rN s + 2 = F.rZ s := by unfold F.rZ; omega
    have hZ : F.rZ s = 11 + 16 * F.rN s := rfl
    have l0 := sl_len s 2 1
    have l1 := sl_len s 3 4
    have l2 := sl_len s 7 2
    have n1 : 0 ≤ F.rT s ∧ F.rT s < 4294967296 := num4 s 3
    have n2 : 0 ≤ F.rN s ∧ F.rN s < 65536 := num2 s 7
    simp only [T.wp, T.wp_cond, Aft, Int.ofNat_eq_natCast, decide_eq_true_eq, and_true, true_and, Nat.zero_add, Bool.not_eq_true', decide_eq_false_iff_not, e0, e1, e2, t0, t1, t2, t3]
    by_cases g2 : s.length < 9
    · exact ite_yes (by omega) (rd_bad (rE_short g1 g2) (by decide))
    refine ite_no (by omega) ⟨⟨by decide, by decide, by omega⟩, by omega, ⟨by decide, by decide, by omega⟩, by omega, ⟨by decide, by decide, by omega⟩, by omega, ?_⟩
    by_cases g3 : 200000 < F.rT s ∨ 32 < F.rN s
    · have hbad := rd_bad (rE_big g1 g2 g3) (by decide)
      by_cases q : 200000 < F.rT s
      · exact ite_yes q hbad
      · exact ite_no q (ite_yes (by omega) hbad)
    refine ite_no (fun q => g3 (.inl q)) (ite_no (fun q => g3 (.inr q)) ⟨by unfold Sym.i64ok; omega, by unfold Sym.i64ok; omega, by unfold Sym.i64ok; omega, ?_⟩)
    by_cases g4 : (s.length : Int) < F.rZ s
    · exact ite_yes g4 (rd_bad (rE_part g1 g2 g3 g4) (by decide))
    have e3 := cut_sl s (i := F.rZ s - 2) (j := F.rZ s) (a := (F.rZ s - 2).toNat) (n := 2) (by omega) (by omega)
    have l3 := sl_len s (F.rZ s - 2).toNat 2
    simp only [e3]
    have lw : (List.take (F.rZ s - 2).toNat s).length ≤ 1000000 := by rw [List.length_take]; omega
    refine ite_no g4 ⟨by unfold Sym.i64ok; omega, ⟨by omega, by omega⟩, lw, by unfold Sym.i64ok; omega, ⟨by omega, by omega, by omega⟩, by omega, ?_⟩
    by_cases g5 : F.wsum (s.take (F.rZ s - 2).toNat) ≠ F.num (F.sl s (F.rZ s - 2).toNat 2)
    · exact ite_yes (fun q => g5 q) (rd_bad (rE_sum g1 g2 g3 g4 g5) (by decide))
    refine ite_no (fun q => g5 q) ?_
    have k0 := key g1 g2 g3 g4 g5 (F.rN s).toNat 0 (by omega)
    exact Runs.made 3 2 2 53 rfl rfl (st' := st_wread_16 s (F.rR s) (F.rT s) (F.rZ s) (F.rN s) 0 [] 0) rfl k0
  refine Runs.go (cfg := C_wdec) L_wdec_ok mixed cuts_wread 400 hb (wread_t0 s) ?_
  simp only [T.wp, T.wp_cond, Aft, Int.ofNat_eq_natCast, decide_eq_true_eq, and_true, true_and, Nat.zero_add, Bool.not_eq_true', decide_eq_false_iff_not]
  refine Runs.made 1 2 2 53 rfl rfl (st' := st_wread_r2b s) rfl ?_
  refine Runs.go (cfg := C_wdec) L_wdec_ok mixed cuts_wread_r2b 400 hb (wread_tr2b s) ?_
  simp only [T.wp, T.wp_cond, Aft, Int.ofNat_eq_natCast, decide_eq_true_eq, and_true, true_and, Nat.zero_add, Bool.not_eq_true', decide_eq_false_iff_not]
  by_cases p0 : 0 < s.length
  · refine ite_yes (by omega) ⟨⟨by decide, by omega⟩, ?_⟩
    by_cases c0 : (s.getD 0 0).toNat = 83
    · refine ite_no (fun q => q (show ((s.getD 0 0).toNat : Int) = 83 by omega)) ?_
      by_cases p1 : 1 < s.length
      · refine ite_yes (by omega) ⟨⟨by decide, by omega⟩, ?_⟩
        by_cases c1 : (s.getD 1 0).toNat = 87
        · exact ite_no (fun q => q (show ((s.getD 1 0).toNat : Int) = 87 by omega)) (main (by unfold F.hd; omega))
        · exact ite_yes (show ¬ ((s.getD 1 0).toNat : Int) = 87 by omega) (rd_bad (rE_hd (by unfold F.hd; omega)) (by decide))
      · exact ite_no (by omega) (main (by unfold F.hd; omega))
    · exact ite_yes (show ¬ ((s.getD 0 0).toNat : Int) = 83 by omega) (rd_bad (rE_hd (by unfold F.hd; omega)) (by decide))
  · exact ite_no (by omega) (ite_no (by omega) (main (by unfold F.hd; omega)))



noncomputable def s_wread : Summ cod := fun args H => match args, H with
  | [.c (.str s)], [] => .ret (.tup [.agg [.int .i64 (F.oR s), .int .i64 (F.oT s), .own 0 (List.length (F.oL s))], .c (.int .i64 (F.oZ s)), .c (.int .i64 (F.rE s))], [.own 2 (F.oL s) 53])
  | _, _ => .fail


theorem wread_sound : Sound Try.prog cod 23 s_wread := sound_runs (cfg := C_wdec) L_wdec_ok mixed Try.func23 rfl rfl _ fun args H r news hg b0 hb => by
  unfold s_wread at hg
  split at hg
  · skip
    cases hg
    exact wread_run _ b0 hb 
  · exact hg.elim

noncomputable def L_wread : Sums cod := (23, .p s_wread) :: L_wdec
noncomputable def C_wread : Cfg cod := mkC L_wread

theorem L_wread_ok : Snd Try.prog cod L_wread := .cons wread_sound L_wdec_ok


end
end Go.Proofs.Ytbkpgpkeecnjpaa
