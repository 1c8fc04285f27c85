/- Part of a claim: lemmas on the way to its theorem; each states its own conditions. -/
import Derived.Test.YtffcfbamcaoidaaRd
namespace Go.Proofs.Ytffcfbamcaoidaa
open Sym Go.RowKit
noncomputable section
set_option maxRecDepth 100000
set_option maxHeartbeats 4000000



def cuts_os : Cuts := [(3, [5, 0, 1, 14, 15], 40), (7, [5, 0, 1], 40), (10, [5, 0, 1, 7], 40), (15, [5, 0, 1, 7, 8], 40), (19, [5, 0, 1, 10, 9], 40)]

theorem os_t0 (l : List (List UInt8 × Int × Int × Int)) (l_t : Bool) (g0 g1 g2 g3 g4 g5 g6 g7 g8 g9 g10 g11 g12 g13 g14 g15 : Int) (ln on : Nat) : symI C_cl cuts_os Try.f46.results.toList ([.blk [.slc 3 0 ln l_t] 42, .arr 0 [g0, g1, g2, g3, g4, g5, g6, g7, g8, g9, g10, g11, g12, g13, g14, g15] 43, .blk [.nil] 45, .inp 7 l] : Heap cod) 400 [.code (codeOf Try.f46)] ⟨argsS Try.f46 [.c (.int .i64 (on : Int)), .c (.fn 47 [(0, 0, 0), (1, 0, 0), (2, 0, 0)])], ([.blk [.slc 3 0 ln l_t] 42, .arr 0 [g0, g1, g2, g3, g4, g5, g6, g7, g8, g9, g10, g11, g12, g13, g14, g15] 43, .blk [.nil] 45, .inp 7 l] : Heap cod)⟩ =
.need (((0 : Int) ≤ Int.ofNat on ∧ (Int.ofNat on ≤ 1000000 ∧ Int.ofNat on = Int.ofNat on))) (
.ret (.cut (cutAt Try.f46 3) ⟨tmG 82 [(0, .c (.int .i64 (Int.ofNat on))), (0, .c (.fn 47 [(0, 0, 0), (1, 0, 0), (2, 0, 0)])), (3, .c (.slc 4 0 (Int.toNat (Int.ofNat on)) true)), (8, .c (.int .i64 (Int.ofNat (Int.toNat (Int.ofNat on))))), (0, .c (.int .i64 0))], [.blk [.slc 3 0 (ln) l_t] 42, .arr 0 [g0, g1, g2, g3, g4, g5, g6, g7, g8, g9, g10, g11, g12, g13, g14, g15] 43, .blk [.nil] 45, .inp 7 l, .arr 0 (List.replicate (Int.toNat (Int.ofNat on)) (0 : Int)) 3]⟩)) := by kernel_rfl


noncomputable def st_os_3 (l : List (List UInt8 × Int × Int × Int)) (l_t : Bool) (g0 g1 g2 g3 g4 g5 g6 g7 g8 g9 g10 g11 g12 g13 g14 g15 : Int) (ln on : Nat) (k : Int) (o : List Int) : St cod := ⟨tmG 82 [(0, .c (.int .i64 (Int.ofNat on))), (0, .c (.fn 47 [(0, 0, 0), (1, 0, 0), (2, 0, 0)])), (3, .c (.slc 4 0 on true)), (8, .c (.int .i64 (on : Int))), (0, .c (.int .i64 k))], ([.blk [.slc 3 0 ln l_t] 42, .arr 0 [g0, g1, g2, g3, g4, g5, g6, g7, g8, g9, g10, g11, g12, g13, g14, g15] 43, .blk [.nil] 45, .inp 7 l, .arr 0 o 3] : Heap cod)⟩


theorem os_t3 (l : List (List UInt8 × Int × Int × Int)) (l_t : Bool) (g0 g1 g2 g3 g4 g5 g6 g7 g8 g9 g10 g11 g12 g13 g14 g15 : Int) (ln on : Nat) (k : Int) (o : List Int) : symI C_cl cuts_os Try.f46.results.toList ([.blk [.slc 3 0 ln l_t] 42, .arr 0 [g0, g1, g2, g3, g4, g5, g6, g7, g8, g9, g10, g11, g12, g13, g14, g15] 43, .blk [.nil] 45, .inp 7 l] : Heap cod) 400 (cutAt Try.f46 3) (st_os_3 l l_t g0 g1 g2 g3 g4 g5 g6 g7 g8 g9 g10 g11 g12 g13 g14 g15 ln on k o) =
 cond (decide (k < Int.ofNat on)) (
 .need (((0 : Int) ≤ k ∧ k < Int.ofNat on)) (
 .need (0 + Int.toNat k < List.length o) (
 .need (i64ok (k + 1)) (
 .ret (.cut (cutAt Try.f46 3) ⟨tmG 82 [(0, .c (.int .i64 (Int.ofNat on))), (0, .c (.fn 47 [(0, 0, 0), (1, 0, 0), (2, 0, 0)])), (3, .c (.slc 4 0 (on) true)), (8, .c (.int .i64 (Int.ofNat on))), (0, .c (.int .i64 (k + 1)))], [.blk [.slc 3 0 (ln) l_t] 42, .arr 0 [g0, g1, g2, g3, g4, g5, g6, g7, g8, g9, g10, g11, g12, g13, g14, g15] 43, .blk [.nil] 45, .inp 7 l, .arr 0 (List.set o (0 + Int.toNat k) k) 3]⟩))))) (
 .ret (.cut (cutAt Try.f46 7) ⟨tmG 92 [(0, .c (.int .i64 (Int.ofNat on))), (0, .c (.fn 47 [(0, 0, 0), (1, 0, 0), (2, 0, 0)])), (3, .c (.slc 4 0 (on) true))], [.blk [.slc 3 0 (ln) l_t] 42, .arr 0 [g0, g1, g2, g3, g4, g5, g6, g7, g8, g9, g10, g11, g12, g13, g14, g15] 43, .blk [.nil] 45, .inp 7 l, .arr 0 o 3]⟩)) := by kernel_rfl


noncomputable def st_os_7 (l : List (List UInt8 × Int × Int × Int)) (l_t : Bool) (g0 g1 g2 g3 g4 g5 g6 g7 g8 g9 g10 g11 g12 g13 g14 g15 : Int) (ln on : Nat) (o : List Int) : St cod := ⟨tmG 92 [(0, .c (.int .i64 (Int.ofNat on))), (0, .c (.fn 47 [(0, 0, 0), (1, 0, 0), (2, 0, 0)])), (3, .c (.slc 4 0 on true))], ([.blk [.slc 3 0 ln l_t] 42, .arr 0 [g0, g1, g2, g3, g4, g5, g6, g7, g8, g9, g10, g11, g12, g13, g14, g15] 43, .blk [.nil] 45, .inp 7 l, .arr 0 o 3] : Heap cod)⟩


theorem os_t7 (l : List (List UInt8 × Int × Int × Int)) (l_t : Bool) (g0 g1 g2 g3 g4 g5 g6 g7 g8 g9 g10 g11 g12 g13 g14 g15 : Int) (ln on : Nat) (o : List Int) : symI C_cl cuts_os Try.f46.results.toList ([.blk [.slc 3 0 ln l_t] 42, .arr 0 [g0, g1, g2, g3, g4, g5, g6, g7, g8, g9, g10, g11, g12, g13, g14, g15] 43, .blk [.nil] 45, .inp 7 l] : Heap cod) 400 (cutAt Try.f46 7) (st_os_7 l l_t g0 g1 g2 g3 g4 g5 g6 g7 g8 g9 g10 g11 g12 g13 g14 g15 ln on o) =
.need ((((0 = 0 ∧ on = List.length o) ∧ ((0 = 0 ∧ ln = List.length l) ∧ ((42 : TypeId) = 42 ∧ (45 : TypeId) = 45))) ∧ (on ≤ 32 ∧ (F.inL l o ∧ F.apE l [(g0, g1, g2, g3), (g4, g5, g6, g7), (g8, g9, g10, g11), (g12, g13, g14, g15)] = 0)))) (
.ite (F.gdB l [g0, g1, g2, g3, g4, g5, g6, g7, g8, g9, g10, g11, g12, g13, g14, g15] o) (
 .ite (decide (on = 0)) (
  .ret (.fin (.c (.bool true)) [.blk [.slc 3 0 (ln) l_t] 42, .arr 0 [g0, g1, g2, g3, g4, g5, g6, g7, g8, g9, g10, g11, g12, g13, g14, g15] 43, .blk [.slc 4 0 0 true] 45, .dead, .arr 0 o 3])) (
  .ret (.fin (.c (.bool true)) [.blk [.slc 3 0 (ln) l_t] 42, .arr 0 [g0, g1, g2, g3, g4, g5, g6, g7, g8, g9, g10, g11, g12, g13, g14, g15] 43, .blk [.own 4 (on)] 45, .dead, .own 0 o 3]))) (
 .need (i64ok (Int.ofNat on - 2)) (
 .ret (.cut (cutAt Try.f46 10) ⟨tmG 90 [(0, .c (.int .i64 (Int.ofNat on))), (0, .c (.fn 47 [(0, 0, 0), (1, 0, 0), (2, 0, 0)])), (3, .c (.slc 4 0 (on) true)), (1, .c (.int .i64 (Int.ofNat on - 2)))], [.blk [.slc 3 0 (ln) l_t] 42, .arr 0 [g0, g1, g2, g3, g4, g5, g6, g7, g8, g9, g10, g11, g12, g13, g14, g15] 43, .blk [.nil] 45, .inp 7 l, .arr 0 o 3]⟩)))) := by kernel_rfl


noncomputable def st_os_10 (l : List (List UInt8 × Int × Int × Int)) (l_t : Bool) (g0 g1 g2 g3 g4 g5 g6 g7 g8 g9 g10 g11 g12 g13 g14 g15 : Int) (ln on : Nat) (o : List Int) (i : Int) : St cod := ⟨tmG 90 [(0, .c (.int .i64 (Int.ofNat on))), (0, .c (.fn 47 [(0, 0, 0), (1, 0, 0), (2, 0, 0)])), (3, .c (.slc 4 0 on true)), (1, .c (.int .i64 i))], ([.blk [.slc 3 0 ln l_t] 42, .arr 0 [g0, g1, g2, g3, g4, g5, g6, g7, g8, g9, g10, g11, g12, g13, g14, g15] 43, .blk [.nil] 45, .inp 7 l, .arr 0 o 3] : Heap cod)⟩


theorem os_t10 (l : List (List UInt8 × Int × Int × Int)) (l_t : Bool) (g0 g1 g2 g3 g4 g5 g6 g7 g8 g9 g10 g11 g12 g13 g14 g15 : Int) (ln on : Nat) (o : List Int) (i : Int) : symI C_cl cuts_os Try.f46.results.toList ([.blk [.slc 3 0 ln l_t] 42, .arr 0 [g0, g1, g2, g3, g4, g5, g6, g7, g8, g9, g10, g11, g12, g13, g14, g15] 43, .blk [.nil] 45, .inp 7 l] : Heap cod) 400 (cutAt Try.f46 10) (st_os_10 l l_t g0 g1 g2 g3 g4 g5 g6 g7 g8 g9 g10 g11 g12 g13 g14 g15 ln on o i) =
 cond (decide (0 ≤ i)) (
 .need (((0 : Int) ≤ i ∧ i < Int.ofNat on)) (
 .need (0 + Int.toNat i < List.length o) (
 .need (i64ok (i + 1)) (
 .need (((0 : Int) ≤ i + 1 ∧ i + 1 < Int.ofNat on)) (
 .need (0 + Int.toNat (i + 1) < List.length o) (
 cond (decide (List.getD o (0 + Int.toNat (i + 1)) (cod 0).d < List.getD o (0 + Int.toNat i) (cod 0).d)) (
  .need (i64ok (i - 1)) (
  .ret (.cut (cutAt Try.f46 10) ⟨tmG 90 [(0, .c (.int .i64 (Int.ofNat on))), (0, .c (.fn 47 [(0, 0, 0), (1, 0, 0), (2, 0, 0)])), (3, .c (.slc 4 0 (on) true)), (1, .c (.int .i64 (i - 1)))], [.blk [.slc 3 0 (ln) l_t] 42, .arr 0 [g0, g1, g2, g3, g4, g5, g6, g7, g8, g9, g10, g11, g12, g13, g14, g15] 43, .blk [.nil] 45, .inp 7 l, .arr 0 o 3]⟩))) (
  cond (decide (i < 0)) (
   .ret (.fin (.c (.bool false)) [.blk [.slc 3 0 (ln) l_t] 42, .arr 0 [g0, g1, g2, g3, g4, g5, g6, g7, g8, g9, g10, g11, g12, g13, g14, g15] 43, .blk [.nil] 45, .dead])) (
   .need (i64ok (Int.ofNat on - 1)) (
   .ret (.cut (cutAt Try.f46 15) ⟨tmG 89 [(0, .c (.int .i64 (Int.ofNat on))), (0, .c (.fn 47 [(0, 0, 0), (1, 0, 0), (2, 0, 0)])), (3, .c (.slc 4 0 (on) true)), (1, .c (.int .i64 i)), (0, .c (.int .i64 (Int.ofNat on - 1)))], [.blk [.slc 3 0 (ln) l_t] 42, .arr 0 [g0, g1, g2, g3, g4, g5, g6, g7, g8, g9, g10, g11, g12, g13, g14, g15] 43, .blk [.nil] 45, .inp 7 l, .arr 0 o 3]⟩)))))))))) (
 cond (decide (i < 0)) (
  .ret (.fin (.c (.bool false)) [.blk [.slc 3 0 (ln) l_t] 42, .arr 0 [g0, g1, g2, g3, g4, g5, g6, g7, g8, g9, g10, g11, g12, g13, g14, g15] 43, .blk [.nil] 45, .dead])) (
  .need (i64ok (Int.ofNat on - 1)) (
  .ret (.cut (cutAt Try.f46 15) ⟨tmG 89 [(0, .c (.int .i64 (Int.ofNat on))), (0, .c (.fn 47 [(0, 0, 0), (1, 0, 0), (2, 0, 0)])), (3, .c (.slc 4 0 (on) true)), (1, .c (.int .i64 i)), (0, .c (.int .i64 (Int.ofNat on - 1)))], [.blk [.slc 3 0 (ln) l_t] 42, .arr 0 [g0, g1, g2, g3, g4, g5, g6, g7, g8, g9, g10, g11, g12, g13, g14, g15] 43, .blk [.nil] 45, .inp 7 l, .arr 0 o 3]⟩)))) := by kernel_rfl


noncomputable def st_os_15 (l : List (List UInt8 × Int × Int × Int)) (l_t : Bool) (g0 g1 g2 g3 g4 g5 g6 g7 g8 g9 g10 g11 g12 g13 g14 g15 : Int) (ln on : Nat) (o : List Int) (i k : Int) : St cod := ⟨tmG 89 [(0, .c (.int .i64 (Int.ofNat on))), (0, .c (.fn 47 [(0, 0, 0), (1, 0, 0), (2, 0, 0)])), (3, .c (.slc 4 0 on true)), (1, .c (.int .i64 i)), (0, .c (.int .i64 k))], ([.blk [.slc 3 0 ln l_t] 42, .arr 0 [g0, g1, g2, g3, g4, g5, g6, g7, g8, g9, g10, g11, g12, g13, g14, g15] 43, .blk [.nil] 45, .inp 7 l, .arr 0 o 3] : Heap cod)⟩


theorem os_t15 (l : List (List UInt8 × Int × Int × Int)) (l_t : Bool) (g0 g1 g2 g3 g4 g5 g6 g7 g8 g9 g10 g11 g12 g13 g14 g15 : Int) (ln on : Nat) (o : List Int) (i k : Int) : symI C_cl cuts_os Try.f46.results.toList ([.blk [.slc 3 0 ln l_t] 42, .arr 0 [g0, g1, g2, g3, g4, g5, g6, g7, g8, g9, g10, g11, g12, g13, g14, g15] 43, .blk [.nil] 45, .inp 7 l] : Heap cod) 400 (cutAt Try.f46 15) (st_os_15 l l_t g0 g1 g2 g3 g4 g5 g6 g7 g8 g9 g10 g11 g12 g13 g14 g15 ln on o i k) =
.need (((0 : Int) ≤ k ∧ k < Int.ofNat on)) (
.need (0 + Int.toNat k < List.length o) (
.need (((0 : Int) ≤ i ∧ i < Int.ofNat on)) (
.need (0 + Int.toNat i < List.length o) (
 cond (decide (List.getD o (0 + Int.toNat k) (cod 0).d < List.getD o (0 + Int.toNat i) (cod 0).d)) (
 .need (i64ok (k - 1)) (
 .ret (.cut (cutAt Try.f46 15) ⟨tmG 89 [(0, .c (.int .i64 (Int.ofNat on))), (0, .c (.fn 47 [(0, 0, 0), (1, 0, 0), (2, 0, 0)])), (3, .c (.slc 4 0 (on) true)), (1, .c (.int .i64 i)), (0, .c (.int .i64 (k - 1)))], [.blk [.slc 3 0 (ln) l_t] 42, .arr 0 [g0, g1, g2, g3, g4, g5, g6, g7, g8, g9, g10, g11, g12, g13, g14, g15] 43, .blk [.nil] 45, .inp 7 l, .arr 0 o 3]⟩))) (
 .need (((0 : Int) ≤ k ∧ k < Int.ofNat on)) (
 .need (0 + Int.toNat k < List.length o) (
 .need (((0 : Int) ≤ i ∧ i < Int.ofNat on)) (
 .need (0 + Int.toNat i < List.length o) (
 .need (((0 : Int) ≤ i ∧ i < Int.ofNat on)) (
 .need (0 + Int.toNat i < List.length o) (
 .need (((0 : Int) ≤ k ∧ k < Int.ofNat on)) (
 .need (0 + Int.toNat k < List.length (List.set o (0 + Int.toNat i) (List.getD o (0 + Int.toNat k) (cod 0).d))) (
 .need (i64ok (i + 1)) (
 .need (i64ok (Int.ofNat on - 1)) (
 .ret (.cut (cutAt Try.f46 19) ⟨tmG 87 [(0, .c (.int .i64 (Int.ofNat on))), (0, .c (.fn 47 [(0, 0, 0), (1, 0, 0), (2, 0, 0)])), (3, .c (.slc 4 0 (on) true)), (3, .c (.int .i64 (i + 1))), (0, .c (.int .i64 (Int.ofNat on - 1)))], [.blk [.slc 3 0 (ln) l_t] 42, .arr 0 [g0, g1, g2, g3, g4, g5, g6, g7, g8, g9, g10, g11, g12, g13, g14, g15] 43, .blk [.nil] 45, .inp 7 l, .arr 0 (List.set (List.set o (0 + Int.toNat i) (List.getD o (0 + Int.toNat k) (cod 0).d)) (0 + Int.toNat k)   (List.getD o (0 + Int.toNat i) (cod 0).d)) 3]⟩)))))))))))))))) := by kernel_rfl


noncomputable def st_os_19 (l : List (List UInt8 × Int × Int × Int)) (l_t : Bool) (g0 g1 g2 g3 g4 g5 g6 g7 g8 g9 g10 g11 g12 g13 g14 g15 : Int) (ln on : Nat) (o : List Int) (a b : Int) : St cod := ⟨tmG 87 [(0, .c (.int .i64 (Int.ofNat on))), (0, .c (.fn 47 [(0, 0, 0), (1, 0, 0), (2, 0, 0)])), (3, .c (.slc 4 0 on true)), (3, .c (.int .i64 a)), (0, .c (.int .i64 b))], ([.blk [.slc 3 0 ln l_t] 42, .arr 0 [g0, g1, g2, g3, g4, g5, g6, g7, g8, g9, g10, g11, g12, g13, g14, g15] 43, .blk [.nil] 45, .inp 7 l, .arr 0 o 3] : Heap cod)⟩


theorem os_t19 (l : List (List UInt8 × Int × Int × Int)) (l_t : Bool) (g0 g1 g2 g3 g4 g5 g6 g7 g8 g9 g10 g11 g12 g13 g14 g15 : Int) (ln on : Nat) (o : List Int) (a b : Int) : symI C_cl cuts_os Try.f46.results.toList ([.blk [.slc 3 0 ln l_t] 42, .arr 0 [g0, g1, g2, g3, g4, g5, g6, g7, g8, g9, g10, g11, g12, g13, g14, g15] 43, .blk [.nil] 45, .inp 7 l] : Heap cod) 400 (cutAt Try.f46 19) (st_os_19 l l_t g0 g1 g2 g3 g4 g5 g6 g7 g8 g9 g10 g11 g12 g13 g14 g15 ln on o a b) =
 cond (decide (a < b)) (
 .need (((0 : Int) ≤ b ∧ b < Int.ofNat on)) (
 .need (0 + Int.toNat b < List.length o) (
 .need (((0 : Int) ≤ a ∧ a < Int.ofNat on)) (
 .need (0 + Int.toNat a < List.length o) (
 .need (((0 : Int) ≤ a ∧ a < Int.ofNat on)) (
 .need (0 + Int.toNat a < List.length o) (
 .need (((0 : Int) ≤ b ∧ b < Int.ofNat on)) (
 .need (0 + Int.toNat b < List.length (List.set o (0 + Int.toNat a) (List.getD o (0 + Int.toNat b) (cod 0).d))) (
 .need (i64ok (a + 1)) (
 .need (i64ok (b - 1)) (
 .ret (.cut (cutAt Try.f46 19) ⟨tmG 87 [(0, .c (.int .i64 (Int.ofNat on))), (0, .c (.fn 47 [(0, 0, 0), (1, 0, 0), (2, 0, 0)])), (3, .c (.slc 4 0 (on) true)), (3, .c (.int .i64 (a + 1))), (0, .c (.int .i64 (b - 1)))], [.blk [.slc 3 0 (ln) l_t] 42, .arr 0 [g0, g1, g2, g3, g4, g5, g6, g7, g8, g9, g10, g11, g12, g13, g14, g15] 43, .blk [.nil] 45, .inp 7 l, .arr 0 (List.set (List.set o (0 + Int.toNat a) (List.getD o (0 + Int.toNat b) (cod 0).d)) (0 + Int.toNat b)   (List.getD o (0 + Int.toNat a) (cod 0).d)) 3]⟩)))))))))))) (
 .ret (.cut (cutAt Try.f46 7) ⟨tmG 92 [(0, .c (.int .i64 (Int.ofNat on))), (0, .c (.fn 47 [(0, 0, 0), (1, 0, 0), (2, 0, 0)])), (3, .c (.slc 4 0 (on) true))], [.blk [.slc 3 0 (ln) l_t] 42, .arr 0 [g0, g1, g2, g3, g4, g5, g6, g7, g8, g9, g10, g11, g12, g13, g14, g15] 43, .blk [.nil] 45, .inp 7 l, .arr 0 o 3]⟩)) := by kernel_rfl



/-! ### the next order, as Orders reckons it -/
def F.fi (o : List Int) : Nat → Int
  | 0 => -1
  | m + 1 => if o.getD (m + 1) 0 < o.getD m 0 then F.fi o m else (m : Int)
def F.fk (o : List Int) (p : Int) : Nat → Option Nat
  | 0 => none
  | k + 1 => if o.getD k 0 < p then F.fk o p k else some k
def F.sw (o : List Int) (i k : Nat) : List Int := (o.set i (o.getD k 0)).set k (o.getD i 0)
def F.rv : Nat → List Int → Int → Int → List Int
  | 0, o, _, _ => o
  | m + 1, o, a, b => if a < b then F.rv m (F.sw o a.toNat b.toNat) (a + 1) (b - 1) else o
def F.nxk (n : Nat) (o o' : List Int) (i : Nat) : Option Nat → Bool
  | some k => decide (F.rv n (F.sw o i k) ((i : Int) + 1) ((n : Int) - 1) = o')
  | none => false
def F.lnk (n : Nat) (o o' : List Int) : Bool := decide (0 ≤ F.fi o (n - 1)) && F.nxk n o o' (F.fi o (n - 1)).toNat (F.fk o (o.getD (F.fi o (n - 1)).toNat 0) n)
def F.inO (n : Nat) (o : List Int) : Bool := decide (o.length = n) && o.all fun m => decide (0 ≤ m ∧ m < n)
def F.chn (n : Nat) : List (List Int) → Bool
  | [] => false
  | [o] => F.inO n o && decide (F.fi o (n - 1) < 0)
  | o :: o' :: r => F.inO n o && (F.lnk n o o' && F.chn n (o' :: r))
def F.fll : Nat → Nat → List Int → List Int
  | 0, _, o => o
  | m + 1, k, o => F.fll m (k + 1) (o.set k (k : Int))
def F.beg (n : Nat) : List (List Int) → Bool
  | o :: _ => decide (F.fll n 0 (List.replicate n 0) = o)
  | [] => false
theorem chain5 : ∀ n : Nat, n ≤ 5 → F.chn n (F.perms n n []) = true ∧ F.beg n (F.perms n n []) = true := by
  intro n hn
  match n, hn with
  | 0, _ => exact ⟨by kernel_rfl, by kernel_rfl⟩
  | 1, _ => exact ⟨by kernel_rfl, by kernel_rfl⟩
  | 2, _ => exact ⟨by kernel_rfl, by kernel_rfl⟩
  | 3, _ => exact ⟨by kernel_rfl, by kernel_rfl⟩
  | 4, _ => exact ⟨by kernel_rfl, by kernel_rfl⟩
  | 5, _ => exact ⟨by kernel_rfl, by kernel_rfl⟩
  | n + 6, h => omega
theorem inO_spec {n : Nat} {o : List Int} (h : F.inO n o = true) : o.length = n ∧ ∀ m ∈ o, 0 ≤ m ∧ m < (n : Int) := by
  simp only [F.inO, Bool.and_eq_true, decide_eq_true_eq, List.all_eq_true] at h
  exact h
theorem sw_len (o : List Int) (i k : Nat) : (F.sw o i k).length = o.length := by simp [F.sw]
theorem fi_lt (o : List Int) : ∀ m : Nat, F.fi o m < m
  | 0 => by unfold F.fi; omega
  | m + 1 => by
    have := fi_lt o m
    unfold F.fi
    split <;> omega
theorem fk_lt (o : List Int) (p : Int) : ∀ (m k : Nat), F.fk o p m = some k → k < m
  | 0, k, h => by cases h
  | m + 1, k, h => by
    unfold F.fk at h
    split at h
    · have := fk_lt o p m k h; omega
    · cases h; omega
/-! ### the walk -/
section
variable (l : List F.It) (l_t : Bool) (g0 g1 g2 g3 g4 g5 g6 g7 g8 g9 g10 g11 g12 g13 g14 g15 : Int) (ln on : Nat) (b0 : Base) (hb : b0.n = 4) (h5 : on ≤ 5)
abbrev F.RunO (l : List F.It) (l_t : Bool) (g0 g1 g2 g3 g4 g5 g6 g7 g8 g9 g10 g11 g12 g13 g14 g15 : Int) (ln : Nat) (b0 : Base) (k : List Item) (st : St cod) (R : SV) (N : Heap cod) : Prop := Sym.Runs Try.prog b0 k st (Sym.EndsI Try.prog Try.f46 ([.blk [.slc 3 0 ln l_t] 42, .arr 0 [g0, g1, g2, g3, g4, g5, g6, g7, g8, g9, g10, g11, g12, g13, g14, g15] 43, .blk [.nil] 45, .inp 7 l] : Heap cod) R N)
include hb h5
theorem os_rev (R : SV) (N : Heap cod) : ∀ (m : Nat) (o : List Int) (a b : Int), o.length = on → 0 ≤ a → b < on → b - a ≤ m → b ≥ -5 → a ≤ 5 →
    F.RunO l l_t g0 g1 g2 g3 g4 g5 g6 g7 g8 g9 g10 g11 g12 g13 g14 g15 ln b0 (cutAt Try.f46 7) (st_os_7 l l_t g0 g1 g2 g3 g4 g5 g6 g7 g8 g9 g10 g11 g12 g13 g14 g15 ln on (F.rv m o a b)) R N → F.RunO l l_t g0 g1 g2 g3 g4 g5 g6 g7 g8 g9 g10 g11 g12 g13 g14 g15 ln b0 (cutAt Try.f46 19) (st_os_19 l l_t g0 g1 g2 g3 g4 g5 g6 g7 g8 g9 g10 g11 g12 g13 g14 g15 ln on o a b) R N := by
  intro m
  induction m with
  | zero =>
    intro o a b ho ha hbn hm _ _ hr
    refine Runs.goI (cfg := C_cl) L_cl_ok mixed cuts_os 400 (H := ([.blk [.slc 3 0 ln l_t] 42, .arr 0 [g0, g1, g2, g3, g4, g5, g6, g7, g8, g9, g10, g11, g12, g13, g14, g15] 43, .blk [.nil] 45, .inp 7 l] : Heap cod)) hb (os_t19 l l_t g0 g1 g2 g3 g4 g5 g6 g7 g8 g9 g10 g11 g12 g13 g14 g15 ln on o a b) ?_
    simp only [T.wp, T.wp_cond, Aft, decide_eq_true_eq]
    exact ite_no (by omega) hr
  | succ m ih =>
    intro o a b ho ha hbn hm hb5 ha5 hr
    refine Runs.goI (cfg := C_cl) L_cl_ok mixed cuts_os 400 (H := ([.blk [.slc 3 0 ln l_t] 42, .arr 0 [g0, g1, g2, g3, g4, g5, g6, g7, g8, g9, g10, g11, g12, g13, g14, g15] 43, .blk [.nil] 45, .inp 7 l] : Heap cod)) hb (os_t19 l l_t g0 g1 g2 g3 g4 g5 g6 g7 g8 g9 g10 g11 g12 g13 g14 g15 ln on o a b) ?_
    simp only [T.wp, T.wp_cond, Aft, decide_eq_true_eq, Nat.zero_add, Int.ofNat_eq_natCast]
    by_cases c : a < b
    · rw [F.rv, if_pos c] at hr
      have nx := ih (F.sw o a.toNat b.toNat) (a + 1) (b - 1) (by rw [sw_len, ho]) (by omega) (by omega) (by omega) (by omega) (by omega) hr
      have B : (0 : Int) ≤ b ∧ b < (on : Int) := by omega
      have A : (0 : Int) ≤ a ∧ a < (on : Int) := by omega
      have bo : b.toNat < o.length := by omega
      have ao : a.toNat < o.length := by omega
      have i1 : i64ok (a + 1) := by unfold i64ok; omega
      have i2 : i64ok (b - 1) := by unfold i64ok; omega
      exact ite_yes c ⟨B, bo, A, ao, A, ao, B, (by rw [List.length_set]; exact bo), i1, i2, nx⟩
    · rw [F.rv, if_neg c] at hr
      exact ite_no c hr
theorem os_swap (R : SV) (N : Heap cod) (o : List Int) (i : Nat) (ho : o.length = on) (hi : i < on) (k' : Nat) : ∀ k : Nat, k < on → F.fk o (o.getD i 0) (k + 1) = some k' →
    F.RunO l l_t g0 g1 g2 g3 g4 g5 g6 g7 g8 g9 g10 g11 g12 g13 g14 g15 ln b0 (cutAt Try.f46 7) (st_os_7 l l_t g0 g1 g2 g3 g4 g5 g6 g7 g8 g9 g10 g11 g12 g13 g14 g15 ln on (F.rv on (F.sw o i k') ((i : Int) + 1) ((on : Int) - 1))) R N → F.RunO l l_t g0 g1 g2 g3 g4 g5 g6 g7 g8 g9 g10 g11 g12 g13 g14 g15 ln b0 (cutAt Try.f46 15) (st_os_15 l l_t g0 g1 g2 g3 g4 g5 g6 g7 g8 g9 g10 g11 g12 g13 g14 g15 ln on o (i : Int) (k : Int)) R N := by
  intro k
  induction k with
  | zero =>
    intro hk hf hr
    have I : (0 : Int) ≤ (i : Int) ∧ (i : Int) < (on : Int) := by omega
    have K : (0 : Int) ≤ ((0 : Nat) : Int) ∧ ((0 : Nat) : Int) < (on : Int) := by omega
    have i1 : i64ok ((i : Int) + 1) := by unfold i64ok; omega
    have i2 : i64ok ((on : Int) - 1) := by unfold i64ok; omega
    rw [F.fk] at hf
    split at hf
    · cases hf
    · rename_i c
      cases hf
      have nx := os_rev l l_t g0 g1 g2 g3 g4 g5 g6 g7 g8 g9 g10 g11 g12 g13 g14 g15 ln on b0 hb h5 R N on (F.sw o i 0) ((i : Int) + 1) ((on : Int) - 1) (by rw [sw_len, ho]) (by omega) (by omega) (by omega) (by omega) (by omega) hr
      refine Runs.goI (cfg := C_cl) L_cl_ok mixed cuts_os 400 (H := ([.blk [.slc 3 0 ln l_t] 42, .arr 0 [g0, g1, g2, g3, g4, g5, g6, g7, g8, g9, g10, g11, g12, g13, g14, g15] 43, .blk [.nil] 45, .inp 7 l] : Heap cod)) hb (os_t15 l l_t g0 g1 g2 g3 g4 g5 g6 g7 g8 g9 g10 g11 g12 g13 g14 g15 ln on o (i : Int) ((0 : Nat) : Int)) ?_
      simp only [T.wp, T.wp_cond, Aft, decide_eq_true_eq, Nat.zero_add, Int.ofNat_eq_natCast, Int.toNat_natCast]
      exact ⟨K, by omega, I, by omega, ite_no c ⟨K, by omega, I, by omega, I, by omega, K, by rw [List.length_set]; omega, i1, i2, nx⟩⟩
  | succ k ih =>
    intro hk hf hr
    have I : (0 : Int) ≤ (i : Int) ∧ (i : Int) < (on : Int) := by omega
    have K : (0 : Int) ≤ ((k + 1 : Nat) : Int) ∧ ((k + 1 : Nat) : Int) < (on : Int) := by omega
    have i1 : i64ok ((i : Int) + 1) := by unfold i64ok; omega
    have i2 : i64ok ((on : Int) - 1) := by unfold i64ok; omega
    have i3 : i64ok (((k + 1 : Nat) : Int) - 1) := by unfold i64ok; omega
    have eK : ((k + 1 : Nat) : Int) - 1 = (k : Int) := by omega
    rw [F.fk] at hf
    refine Runs.goI (cfg := C_cl) L_cl_ok mixed cuts_os 400 (H := ([.blk [.slc 3 0 ln l_t] 42, .arr 0 [g0, g1, g2, g3, g4, g5, g6, g7, g8, g9, g10, g11, g12, g13, g14, g15] 43, .blk [.nil] 45, .inp 7 l] : Heap cod)) hb (os_t15 l l_t g0 g1 g2 g3 g4 g5 g6 g7 g8 g9 g10 g11 g12 g13 g14 g15 ln on o (i : Int) ((k + 1 : Nat) : Int)) ?_
    simp only [T.wp, T.wp_cond, Aft, decide_eq_true_eq, Nat.zero_add, Int.ofNat_eq_natCast, Int.toNat_natCast]
    split at hf
    · rename_i c
      have nx := ih (by omega) hf hr
      rw [← eK] at nx
      exact ⟨K, by omega, I, by omega, ite_yes c ⟨i3, nx⟩⟩
    · rename_i c
      cases hf
      have nx := os_rev l l_t g0 g1 g2 g3 g4 g5 g6 g7 g8 g9 g10 g11 g12 g13 g14 g15 ln on b0 hb h5 R N on (F.sw o i (k + 1)) ((i : Int) + 1) ((on : Int) - 1) (by rw [sw_len, ho]) (by omega) (by omega) (by omega) (by omega) (by omega) hr
      exact ⟨K, by omega, I, by omega, ite_no c ⟨K, by omega, I, by omega, I, by omega, K, by rw [List.length_set]; omega, i1, i2, nx⟩⟩
def F.noR (l_t : Bool) (g0 g1 g2 g3 g4 g5 g6 g7 g8 g9 g10 g11 g12 g13 g14 g15 : Int) (ln : Nat) : SV × Heap cod := (.c (.bool false), [.blk [.slc 3 0 ln l_t] 42, .arr 0 [g0, g1, g2, g3, g4, g5, g6, g7, g8, g9, g10, g11, g12, g13, g14, g15] 43, .blk [.nil] 45, .dead])
theorem os_find (R : SV) (N : Heap cod) (o : List Int) (ho : o.length = on) (h1 : 0 < on) : ∀ m : Nat, m < on → (F.fi o m < 0 → (R, N) = F.noR l_t g0 g1 g2 g3 g4 g5 g6 g7 g8 g9 g10 g11 g12 g13 g14 g15 ln) →
    (∀ i : Nat, F.fi o m = i → F.RunO l l_t g0 g1 g2 g3 g4 g5 g6 g7 g8 g9 g10 g11 g12 g13 g14 g15 ln b0 (cutAt Try.f46 15) (st_os_15 l l_t g0 g1 g2 g3 g4 g5 g6 g7 g8 g9 g10 g11 g12 g13 g14 g15 ln on o (i : Int) ((on : Int) - 1)) R N) →
    F.RunO l l_t g0 g1 g2 g3 g4 g5 g6 g7 g8 g9 g10 g11 g12 g13 g14 g15 ln b0 (cutAt Try.f46 10) (st_os_10 l l_t g0 g1 g2 g3 g4 g5 g6 g7 g8 g9 g10 g11 g12 g13 g14 g15 ln on o ((m : Int) - 1)) R N := by
  intro m
  have i9 : i64ok ((on : Int) - 1) := by unfold i64ok; omega
  induction m with
  | zero =>
    intro hm hend _
    have hR := hend (by unfold F.fi; omega)
    simp only [F.noR, Prod.mk.injEq] at hR
    refine Runs.goI (cfg := C_cl) L_cl_ok mixed cuts_os 400 (H := ([.blk [.slc 3 0 ln l_t] 42, .arr 0 [g0, g1, g2, g3, g4, g5, g6, g7, g8, g9, g10, g11, g12, g13, g14, g15] 43, .blk [.nil] 45, .inp 7 l] : Heap cod)) hb (os_t10 l l_t g0 g1 g2 g3 g4 g5 g6 g7 g8 g9 g10 g11 g12 g13 g14 g15 ln on o (((0 : Nat) : Int) - 1)) ?_
    simp only [T.wp, T.wp_cond, Aft, decide_eq_true_eq]
    exact ite_no (by omega) (ite_yes (by omega) ⟨hR.1.symm, hR.2.symm⟩)
  | succ m ih =>
    intro hm hend hnx
    rw [F.fi] at hend
    rw [show (((m + 1 : Nat) : Int) - 1) = (m : Int) by omega]
    have I : (0 : Int) ≤ (m : Int) ∧ (m : Int) < (on : Int) := by omega
    have J : (0 : Int) ≤ (m : Int) + 1 ∧ (m : Int) + 1 < (on : Int) := by omega
    have i1 : i64ok ((m : Int) + 1) := by unfold i64ok; omega
    have i2 : i64ok ((m : Int) - 1) := by unfold i64ok; omega
    have e1 : ((m : Int) + 1).toNat = m + 1 := by omega
    refine Runs.goI (cfg := C_cl) L_cl_ok mixed cuts_os 400 (H := ([.blk [.slc 3 0 ln l_t] 42, .arr 0 [g0, g1, g2, g3, g4, g5, g6, g7, g8, g9, g10, g11, g12, g13, g14, g15] 43, .blk [.nil] 45, .inp 7 l] : Heap cod)) hb (os_t10 l l_t g0 g1 g2 g3 g4 g5 g6 g7 g8 g9 g10 g11 g12 g13 g14 g15 ln on o (m : Int)) ?_
    simp only [T.wp, T.wp_cond, Aft, decide_eq_true_eq, Nat.zero_add, Int.ofNat_eq_natCast, Int.toNat_natCast, e1]
    refine ite_yes I.1 ⟨I, by omega, i1, J, by omega, ?_⟩
    by_cases c : o.getD (m + 1) 0 < o.getD m 0
    · rw [if_pos c] at hend
      have nx := ih (by omega) hend fun i hi => hnx i (by rw [F.fi, if_pos c]; exact hi)
      exact ite_yes c ⟨i2, nx⟩
    · have nx := hnx m (by rw [F.fi, if_neg c])
      exact ite_no c (ite_no (by omega) ⟨i9, nx⟩)
def F.orR (l_t : Bool) (g0 g1 g2 g3 g4 g5 g6 g7 g8 g9 g10 g11 g12 g13 g14 g15 : Int) (ln on : Nat) : Option (List Int) → SV × Heap cod
  | some o => if on = 0 then (.c (.bool true), [.blk [.slc 3 0 ln l_t] 42, .arr 0 [g0, g1, g2, g3, g4, g5, g6, g7, g8, g9, g10, g11, g12, g13, g14, g15] 43, .blk [.slc 4 0 0 true] 45, .dead, .arr 0 o 3])
    else (.c (.bool true), [.blk [.slc 3 0 ln l_t] 42, .arr 0 [g0, g1, g2, g3, g4, g5, g6, g7, g8, g9, g10, g11, g12, g13, g14, g15] 43, .blk [.own 4 on] 45, .dead, .own 0 o 3])
  | none => F.noR l_t g0 g1 g2 g3 g4 g5 g6 g7 g8 g9 g10 g11 g12 g13 g14 g15 ln
theorem os_loop (R : SV) (N : Heap cod) (hln : ln = l.length) (hon : on = l.length) (h0 : F.apE l [(g0, g1, g2, g3), (g4, g5, g6, g7), (g8, g9, g10, g11), (g12, g13, g14, g15)] = 0) : ∀ (r : List (List Int)) (o : List Int), F.chn on (o :: r) = true → (R, N) = F.orR l_t g0 g1 g2 g3 g4 g5 g6 g7 g8 g9 g10 g11 g12 g13 g14 g15 ln on ((o :: r).find? (F.gdB l [g0, g1, g2, g3, g4, g5, g6, g7, g8, g9, g10, g11, g12, g13, g14, g15])) →
    F.RunO l l_t g0 g1 g2 g3 g4 g5 g6 g7 g8 g9 g10 g11 g12 g13 g14 g15 ln b0 (cutAt Try.f46 7) (st_os_7 l l_t g0 g1 g2 g3 g4 g5 g6 g7 g8 g9 g10 g11 g12 g13 g14 g15 ln on o) R N := by
  intro r
  induction r with
  | nil =>
    intro o hc hR
    simp only [F.chn, Bool.and_eq_true, decide_eq_true_eq] at hc
    obtain ⟨hi, hl⟩ := hc
    obtain ⟨i1, i2⟩ := inO_spec hi
    have hin : F.inL l o := fun m hm => by have := i2 m hm; omega
    refine Runs.goI (cfg := C_cl) L_cl_ok mixed cuts_os 400 (H := ([.blk [.slc 3 0 ln l_t] 42, .arr 0 [g0, g1, g2, g3, g4, g5, g6, g7, g8, g9, g10, g11, g12, g13, g14, g15] 43, .blk [.nil] 45, .inp 7 l] : Heap cod)) hb (os_t7 l l_t g0 g1 g2 g3 g4 g5 g6 g7 g8 g9 g10 g11 g12 g13 g14 g15 ln on o) ?_
    simp only [T.wp, T.wp_cond, Aft, decide_eq_true_eq, decide_eq_false_iff_not, Int.ofNat_eq_natCast]
    refine ⟨⟨⟨⟨trivial, i1.symm⟩, ⟨trivial, hln⟩, trivial, trivial⟩, by omega, hin, h0⟩, fun g => ?_, fun g => ?_⟩
    · rw [List.find?_cons_of_pos g] at hR
      refine ⟨fun c => ?_, fun c => ?_⟩
      · simp only [F.orR, if_pos c, Prod.mk.injEq] at hR
        exact ⟨hR.1.symm, hR.2.symm⟩
      · simp only [F.orR, if_neg c, Prod.mk.injEq] at hR
        exact ⟨hR.1.symm, hR.2.symm⟩
    · rw [List.find?_cons_of_neg (by rw [g]; decide), List.find?_nil] at hR
      have h1 : 0 < on := by
        rcases Nat.eq_zero_or_pos on with c | c
        · have : o = [] := List.length_eq_zero_iff.1 (by omega)
          rw [this] at g
          cases g
        · exact c
      have nx := os_find l l_t g0 g1 g2 g3 g4 g5 g6 g7 g8 g9 g10 g11 g12 g13 g14 g15 ln on b0 hb h5 R N o i1 h1 (on - 1) (by omega) (fun _ => hR) (fun i hi => by omega)
      rw [show (((on - 1 : Nat) : Int) - 1) = (on : Int) - 2 by omega] at nx
      exact ⟨by unfold i64ok; omega, nx⟩
  | cons o' r ih =>
    intro o hc hR
    simp only [F.chn, F.lnk, Bool.and_eq_true, decide_eq_true_eq] at hc
    obtain ⟨hi, ⟨hl, hk⟩, hc'⟩ := hc
    obtain ⟨i1, i2⟩ := inO_spec hi
    have hin : F.inL l o := fun m hm => by have := i2 m hm; omega
    refine Runs.goI (cfg := C_cl) L_cl_ok mixed cuts_os 400 (H := ([.blk [.slc 3 0 ln l_t] 42, .arr 0 [g0, g1, g2, g3, g4, g5, g6, g7, g8, g9, g10, g11, g12, g13, g14, g15] 43, .blk [.nil] 45, .inp 7 l] : Heap cod)) hb (os_t7 l l_t g0 g1 g2 g3 g4 g5 g6 g7 g8 g9 g10 g11 g12 g13 g14 g15 ln on o) ?_
    simp only [T.wp, T.wp_cond, Aft, decide_eq_true_eq, decide_eq_false_iff_not, Int.ofNat_eq_natCast]
    refine ⟨⟨⟨⟨trivial, i1.symm⟩, ⟨trivial, hln⟩, trivial, trivial⟩, by omega, hin, h0⟩, fun g => ?_, fun g => ?_⟩
    · rw [List.find?_cons_of_pos g] at hR
      refine ⟨fun c => ?_, fun c => ?_⟩
      · simp only [F.orR, if_pos c, Prod.mk.injEq] at hR
        exact ⟨hR.1.symm, hR.2.symm⟩
      · simp only [F.orR, if_neg c, Prod.mk.injEq] at hR
        exact ⟨hR.1.symm, hR.2.symm⟩
    · rw [List.find?_cons_of_neg (by rw [g]; decide)] at hR
      have h1 : 0 < on := by
        rcases Nat.eq_zero_or_pos on with c | c
        · have : o = [] := List.length_eq_zero_iff.1 (by omega)
          rw [this] at g
          cases g
        · exact c
      have fl := fi_lt o (on - 1)
      have nx := os_find l l_t g0 g1 g2 g3 g4 g5 g6 g7 g8 g9 g10 g11 g12 g13 g14 g15 ln on b0 hb h5 R N o i1 h1 (on - 1) (by omega) (fun c => by omega) (fun i hi => by
        rw [hi, Int.toNat_natCast] at hk
        cases hf : F.fk o (o.getD i 0) on with
        | none => rw [hf] at hk; cases hk
        | some k' =>
          rw [hf] at hk
          have e : F.rv on (F.sw o i k') ((i : Int) + 1) ((on : Int) - 1) = o' := of_decide_eq_true hk
          have nx := os_swap l l_t g0 g1 g2 g3 g4 g5 g6 g7 g8 g9 g10 g11 g12 g13 g14 g15 ln on b0 hb h5 R N o i i1 (by omega) k' (on - 1) (by omega) (by rw [show on - 1 + 1 = on by omega]; exact hf) (by rw [e]; exact ih o' hc' hR)
          rw [show ((on - 1 : Nat) : Int) = (on : Int) - 1 by omega] at nx
          exact nx)
      rw [show (((on - 1 : Nat) : Int) - 1) = (on : Int) - 2 by omega] at nx
      exact ⟨by unfold i64ok; omega, nx⟩
theorem os_fill (R : SV) (N : Heap cod) : ∀ (m k : Nat) (o : List Int), o.length = on → k + m = on → F.RunO l l_t g0 g1 g2 g3 g4 g5 g6 g7 g8 g9 g10 g11 g12 g13 g14 g15 ln b0 (cutAt Try.f46 7) (st_os_7 l l_t g0 g1 g2 g3 g4 g5 g6 g7 g8 g9 g10 g11 g12 g13 g14 g15 ln on (F.fll m k o)) R N →
    F.RunO l l_t g0 g1 g2 g3 g4 g5 g6 g7 g8 g9 g10 g11 g12 g13 g14 g15 ln b0 (cutAt Try.f46 3) (st_os_3 l l_t g0 g1 g2 g3 g4 g5 g6 g7 g8 g9 g10 g11 g12 g13 g14 g15 ln on (k : Int) o) R N := by
  intro m
  induction m with
  | zero =>
    intro k o ho hk hr
    refine Runs.goI (cfg := C_cl) L_cl_ok mixed cuts_os 400 (H := ([.blk [.slc 3 0 ln l_t] 42, .arr 0 [g0, g1, g2, g3, g4, g5, g6, g7, g8, g9, g10, g11, g12, g13, g14, g15] 43, .blk [.nil] 45, .inp 7 l] : Heap cod)) hb (os_t3 l l_t g0 g1 g2 g3 g4 g5 g6 g7 g8 g9 g10 g11 g12 g13 g14 g15 ln on (k : Int) o) ?_
    simp only [T.wp, T.wp_cond, Aft, decide_eq_true_eq]
    exact ite_no (by simp only [Int.ofNat_eq_natCast]; omega) hr
  | succ m ih =>
    intro k o ho hk hr
    have nx := ih (k + 1) (o.set k (k : Int)) (by rw [List.length_set, ho]) (by omega) hr
    have K : (0 : Int) ≤ (k : Int) ∧ (k : Int) < (on : Int) := by omega
    have i1 : i64ok ((k : Int) + 1) := by unfold i64ok; omega
    refine Runs.goI (cfg := C_cl) L_cl_ok mixed cuts_os 400 (H := ([.blk [.slc 3 0 ln l_t] 42, .arr 0 [g0, g1, g2, g3, g4, g5, g6, g7, g8, g9, g10, g11, g12, g13, g14, g15] 43, .blk [.nil] 45, .inp 7 l] : Heap cod)) hb (os_t3 l l_t g0 g1 g2 g3 g4 g5 g6 g7 g8 g9 g10 g11 g12 g13 g14 g15 ln on (k : Int) o) ?_
    simp only [T.wp, T.wp_cond, Aft, decide_eq_true_eq, Nat.zero_add, Int.ofNat_eq_natCast, Int.toNat_natCast]
    exact ite_yes K.2 ⟨K, by omega, i1, nx⟩
theorem os_run (R : SV) (N : Heap cod) (hln : ln = l.length) (hon : on = l.length) (h0 : F.apE l [(g0, g1, g2, g3), (g4, g5, g6, g7), (g8, g9, g10, g11), (g12, g13, g14, g15)] = 0) (hR : (R, N) = F.orR l_t g0 g1 g2 g3 g4 g5 g6 g7 g8 g9 g10 g11 g12 g13 g14 g15 ln on ((F.perms on on []).find? (F.gdB l [g0, g1, g2, g3, g4, g5, g6, g7, g8, g9, g10, g11, g12, g13, g14, g15]))) :
    F.RunO l l_t g0 g1 g2 g3 g4 g5 g6 g7 g8 g9 g10 g11 g12 g13 g14 g15 ln b0 [.code (codeOf Try.f46)] ⟨argsS Try.f46 [.c (.int .i64 (on : Int)), .c (.fn 47 [(0, 0, 0), (1, 0, 0), (2, 0, 0)])], ([.blk [.slc 3 0 ln l_t] 42, .arr 0 [g0, g1, g2, g3, g4, g5, g6, g7, g8, g9, g10, g11, g12, g13, g14, g15] 43, .blk [.nil] 45, .inp 7 l] : Heap cod)⟩ R N := by
  obtain ⟨c1, c2⟩ := chain5 on h5
  cases hp : F.perms on on [] with
  | nil => rw [hp] at c1; cases c1
  | cons o r =>
    rw [hp] at c1 c2 hR
    have e : F.fll on 0 (List.replicate on 0) = o := of_decide_eq_true c2
    refine Runs.goI (cfg := C_cl) L_cl_ok mixed cuts_os 400 (H := ([.blk [.slc 3 0 ln l_t] 42, .arr 0 [g0, g1, g2, g3, g4, g5, g6, g7, g8, g9, g10, g11, g12, g13, g14, g15] 43, .blk [.nil] 45, .inp 7 l] : Heap cod)) hb (os_t0 l l_t g0 g1 g2 g3 g4 g5 g6 g7 g8 g9 g10 g11 g12 g13 g14 g15 ln on) ?_
    simp only [T.wp, T.wp_cond, Aft, Int.ofNat_eq_natCast, Int.toNat_natCast]
    refine ⟨⟨by omega, by omega, trivial⟩, ?_⟩
    exact os_fill l l_t g0 g1 g2 g3 g4 g5 g6 g7 g8 g9 g10 g11 g12 g13 g14 g15 ln on b0 hb h5 R N on 0 (List.replicate on 0) (List.length_replicate ..) (by omega) (by rw [e]; exact os_loop l l_t g0 g1 g2 g3 g4 g5 g6 g7 g8 g9 g10 g11 g12 g13 g14 g15 ln on b0 hb h5 R N hln hon h0 r o c1 hR)
end


def F.orB (l : List F.It) (g : List Int) (n : Nat) : Bool := ((F.perms n n []).find? (F.gdB l g)).isSome
def F.orL (l : List F.It) (g : List Int) (n : Nat) : List Int := ((F.perms n n []).find? (F.gdB l g)).getD []
noncomputable def s_os : Summ cod := fun args H => match args, H with
  | [.c (.int .i64 n), .c (.fn 47 [(0, 0, 0), (1, 0, 0), (2, 0, 0)])], [.blk [.slc 3 li ln l_t] tl, o1, .blk [.nil] tw, o3] => (match asArr 0 43 o1 with
    | some [g0, g1, g2, g3, g4, g5, g6, g7, g8, g9, g10, g11, g12, g13, g14, g15] => (match o3.asInp 7 with
        | some l => .need (((li = 0 ∧ ln = List.length l) ∧ (tl = 42 ∧ tw = 45) ∧ n = Int.ofNat ln) ∧ ln ≤ 5 ∧ F.apE l [(g0, g1, g2, g3), (g4, g5, g6, g7), (g8, g9, g10, g11), (g12, g13, g14, g15)] = 0)
            (.ite (F.orB l [g0, g1, g2, g3, g4, g5, g6, g7, g8, g9, g10, g11, g12, g13, g14, g15] ln) (.ite (decide (ln = 0)) (.ret (.c (.bool true), [.blk [.slc 3 0 ln l_t] 42, .arr 0 [g0, g1, g2, g3, g4, g5, g6, g7, g8, g9, g10, g11, g12, g13, g14, g15] 43, .blk [.slc 4 0 0 true] 45, .dead, .arr 0 (F.orL l [g0, g1, g2, g3, g4, g5, g6, g7, g8, g9, g10, g11, g12, g13, g14, g15] ln) 3]))
              (.ret (.c (.bool true), [.blk [.slc 3 0 ln l_t] 42, .arr 0 [g0, g1, g2, g3, g4, g5, g6, g7, g8, g9, g10, g11, g12, g13, g14, g15] 43, .blk [.own 4 ln] 45, .dead, .own 0 (F.orL l [g0, g1, g2, g3, g4, g5, g6, g7, g8, g9, g10, g11, g12, g13, g14, g15] ln) 3])))
              (.ret (.c (.bool false), [.blk [.slc 3 0 ln l_t] 42, .arr 0 [g0, g1, g2, g3, g4, g5, g6, g7, g8, g9, g10, g11, g12, g13, g14, g15] 43, .blk [.nil] 45, .dead])))
        | none => .fail)
      | _ => .fail)
  | _, _ => .fail


theorem os_sound : SoundI Try.prog cod 46 s_os := tree_soundI (cfg := C_cl) Try.func46 rfl rfl _ fun args H r H' hg b0 hb => by
  unfold s_os at hg
  split at hg
  · rename_i n li ln l_t tl o1 tw o3
    split at hg
    · rename_i g0 g1 g2 g3 g4 g5 g6 g7 g8 g9 g10 g11 g12 g13 g14 g15 hx1
      split at hg
      · rename_i l hx3
        cases asArr_spec hx1
        cases asInp_spec hx3
        obtain ⟨⟨⟨⟨rfl, hln⟩, ⟨rfl, rfl⟩, rfl⟩, h5, h0⟩, q1, q2⟩ := hg
        refine os_run l l_t g0 g1 g2 g3 g4 g5 g6 g7 g8 g9 g10 g11 g12 g13 g14 g15 ln ln b0 hb h5 r H' hln hln h0 ?_
        unfold F.orB F.orL at q1
        unfold F.orB at q2
        cases hf : (F.perms ln ln []).find? (F.gdB l [g0, g1, g2, g3, g4, g5, g6, g7, g8, g9, g10, g11, g12, g13, g14, g15]) with
        | some o =>
          rw [hf] at q1
          have q := q1 rfl
          by_cases c : ln = 0
          · cases q.1 (by simp [c])
            simp only [F.orR, c, if_true, Option.getD_some]
          · cases q.2 (by simp [c])
            simp only [F.orR, c, if_false, Option.getD_some]
        | none =>
          rw [hf] at q2
          cases q2 rfl
          rfl
      · exact hg.elim
    · exact hg.elim
  · exact hg.elim

noncomputable def L_os : Sums cod := (46, .i s_os) :: L_cl
noncomputable def C_os : Cfg cod := mkC L_os

theorem L_os_ok : Snd Try.prog cod L_os := .consI os_sound L_cl_ok


end
end Go.Proofs.Ytffcfbamcaoidaa
