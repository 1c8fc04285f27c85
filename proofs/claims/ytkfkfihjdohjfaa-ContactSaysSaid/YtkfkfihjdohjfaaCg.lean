/- Part of a claim: lemmas on the way to its theorem; each states its own conditions. -/
import Derived.Test.YtkfkfihjdohjfaaCe
namespace Go.Proofs.Ytkfkfihjdohjfaa
open Sym Go.RowKit
noncomputable section
set_option maxRecDepth 100000
set_option maxHeartbeats 4000000


noncomputable def L_sortN : Sums cod := (31, .k s_sortN) :: L_ncmp
noncomputable def C_sortN : Cfg cod := mkC L_sortN

theorem L_sortN_ok : Snd Try.prog cod L_sortN := .consK sortN_sound L_ncmp_ok



def cuts_claw : Cuts := [(100006, [9, 1, 3, 2, 0], 9), (9, [10, 11, 9, 36, 1, 3, 2, 37, 38], 4), (100018, [10, 11, 9, 36, 1, 3, 2, 37, 38, 16, 13, 14, 47], 5), (100043, [1, 3, 2, 9, 10], 4), (46, [1, 174, 3, 2, 9, 10, 175, 176, 17], 5), (100051, [3, 2, 9, 17, 1, 10], 5), (54, [20, 3, 2, 9, 17, 1, 10, 197, 198], 6), (58, [21, 213, 3, 2, 9, 17, 1, 10, 197, 198, 214, 215, 20], 6), (100064, [20, 3, 2, 9, 17, 1, 10], 6)]
def cuts_claw_r6 : Cuts := [(9, [10, 11, 9, 36, 1, 3, 2, 37, 38], 4), (100018, [10, 11, 9, 36, 1, 3, 2, 37, 38, 16, 13, 14, 47], 5), (100043, [1, 3, 2, 9, 10], 4), (46, [1, 174, 3, 2, 9, 10, 175, 176, 17], 5), (100051, [3, 2, 9, 17, 1, 10], 5), (54, [20, 3, 2, 9, 17, 1, 10, 197, 198], 6), (58, [21, 213, 3, 2, 9, 17, 1, 10, 197, 198, 214, 215, 20], 6), (100064, [20, 3, 2, 9, 17, 1, 10], 6)]
def cuts_claw_r6b : Cuts := [(9, [10, 11, 9, 36, 1, 3, 2, 37, 38], 4), (100018, [10, 11, 9, 36, 1, 3, 2, 37, 38, 16, 13, 14, 47], 5), (100043, [1, 3, 2, 9, 10], 4), (46, [1, 174, 3, 2, 9, 10, 175, 176, 17], 5), (100051, [3, 2, 9, 17, 1, 10], 5), (54, [20, 3, 2, 9, 17, 1, 10, 197, 198], 6), (58, [21, 213, 3, 2, 9, 17, 1, 10, 197, 198, 214, 215, 20], 6), (100064, [20, 3, 2, 9, 17, 1, 10], 6)]
def cuts_claw_r18 : Cuts := [(100006, [9, 1, 3, 2, 0], 9), (9, [10, 11, 9, 36, 1, 3, 2, 37, 38], 4), (100043, [1, 3, 2, 9, 10], 4), (46, [1, 174, 3, 2, 9, 10, 175, 176, 17], 5), (100051, [3, 2, 9, 17, 1, 10], 5), (54, [20, 3, 2, 9, 17, 1, 10, 197, 198], 6), (58, [21, 213, 3, 2, 9, 17, 1, 10, 197, 198, 214, 215, 20], 6), (100064, [20, 3, 2, 9, 17, 1, 10], 6)]
def cuts_claw_r43 : Cuts := [(100006, [9, 1, 3, 2, 0], 9), (9, [10, 11, 9, 36, 1, 3, 2, 37, 38], 4), (100018, [10, 11, 9, 36, 1, 3, 2, 37, 38, 16, 13, 14, 47], 5), (46, [1, 174, 3, 2, 9, 10, 175, 176, 17], 5), (100051, [3, 2, 9, 17, 1, 10], 5), (54, [20, 3, 2, 9, 17, 1, 10, 197, 198], 6), (58, [21, 213, 3, 2, 9, 17, 1, 10, 197, 198, 214, 215, 20], 6), (100064, [20, 3, 2, 9, 17, 1, 10], 6)]
def cuts_claw_r51 : Cuts := [(100006, [9, 1, 3, 2, 0], 9), (9, [10, 11, 9, 36, 1, 3, 2, 37, 38], 4), (100018, [10, 11, 9, 36, 1, 3, 2, 37, 38, 16, 13, 14, 47], 5), (100043, [1, 3, 2, 9, 10], 4), (46, [1, 174, 3, 2, 9, 10, 175, 176, 17], 5), (54, [20, 3, 2, 9, 17, 1, 10, 197, 198], 6), (58, [21, 213, 3, 2, 9, 17, 1, 10, 197, 198, 214, 215, 20], 6), (100064, [20, 3, 2, 9, 17, 1, 10], 6)]
def cuts_claw_r64 : Cuts := [(100006, [9, 1, 3, 2, 0], 9), (9, [10, 11, 9, 36, 1, 3, 2, 37, 38], 4), (100018, [10, 11, 9, 36, 1, 3, 2, 37, 38, 16, 13, 14, 47], 5), (100043, [1, 3, 2, 9, 10], 4), (46, [1, 174, 3, 2, 9, 10, 175, 176, 17], 5), (100051, [3, 2, 9, 17, 1, 10], 5), (54, [20, 3, 2, 9, 17, 1, 10, 197, 198], 6), (58, [21, 213, 3, 2, 9, 17, 1, 10, 197, 198, 214, 215, 20], 6)]

theorem claw_t0 (l : List (Int × Int × Int × List UInt8)) (l_t : Bool) (b : Int) (t : Int) (g : Int) : symF C_sortN cuts_claw Try.f4.results.toList 1 400 [.code (codeOf Try.f4)] ⟨argsS Try.f4 [.c (.slc 0 0 (List.length l) l_t), .c (.int .i64 b), .c (.int .i64 t), .c (.int .i64 g)], ([.inp 7 l] : Heap cod)⟩ =
.need (i64ok 118000) (
.need (i64ok 118010) (
.need (True) (
.ret (.cut (regAt Try.f4 6) ⟨tmG 238 [(0, .c (.slc 0 0 (List.length l) l_t)), (0, .c (.int .i64 b)), (0, .c (.int .i64 t)), (0, .c (.int .i64 g)), (5, .c (.ptr 1 0 0))], [.inp 7 l, .blk [.nil] 79]⟩)))) := by kernel_rfl


noncomputable def st_claw_r6 (l : List (Int × Int × Int × List UInt8)) (l_t : Bool) (b : Int) (t : Int) (g : Int)  : St cod := ⟨tmG 238 [(0, .c (.slc 0 0 (List.length l) l_t)), (0, .c (.int .i64 b)), (0, .c (.int .i64 t)), (0, .c (.int .i64 g)), (5, .c (.ptr 1 0 0))], [.inp 7 l, .blk [.nil] 79]⟩


noncomputable def st_claw_r6b (l : List (Int × Int × Int × List UInt8)) (l_t : Bool) (b : Int) (t : Int) (g : Int)  : St cod := ⟨tmG 238 [(0, .c (.slc 0 0 (List.length l) l_t)), (0, .c (.int .i64 b)), (0, .c (.int .i64 t)), (0, .c (.int .i64 g)), (5, .c (.ptr 1 0 0))], ([.inp 7 l, .blk [.own 2 0] 79, .own 5 [] 56] : Heap cod)⟩


theorem claw_tr6b (l : List (Int × Int × Int × List UInt8)) (l_t : Bool) (b : Int) (t : Int) (g : Int)  : symF C_sortN cuts_claw_r6b Try.f4.results.toList 1 400 (regAt Try.f4 6) (st_claw_r6b l l_t b t g ) =
.need (((0 : Int) ≤ min (Int.ofNat (List.length l)) 20 ∧ min (Int.ofNat (List.length l)) 20 ≤ Int.ofNat (List.length l))) (
.ret (.cut (cutAt Try.f4 9) ⟨tmG 209 [(1, .c (.int .i64 b)), (0, .c (.int .i64 t)), (0, .c (.int .i64 g)), (5, .c (.ptr 1 0 0)), (0, .c (.own 3 0)), (0, .c (.fn 24 [])), (24, .c (.slc 0 0 (Int.toNat (min (Int.ofNat (List.length l)) 20)) false)), (0, .c (.int .i64 (Int.ofNat (Int.toNat (min (Int.ofNat (List.length l)) 20))))), (0, .c (.int .i64 0))], [.inp 7 l, .blk [.own 2 0] 79, .own 5 [] 56, .own 5 [] 56]⟩)) := by kernel_rfl


noncomputable def st_claw_9 (l : List (Int × Int × Int × List UInt8)) (l_t : Bool) (b : Int) (t : Int) (g : Int) (P L : List (List UInt8 × Int × Int)) (p q N : Nat) (m i : Int) : St cod := ⟨tmG 209 [(1, .c (.int .i64 b)), (0, .c (.int .i64 t)), (0, .c (.int .i64 g)), (5, .c (.ptr 1 0 0)), (0, .c (.own 3 q)), (0, .c (.fn 24 [])), (24, .c (.slc 0 0 N false)), (0, .c (.int .i64 m)), (0, .c (.int .i64 i))], ([.inp 7 l, .blk [.own 2 p] 79, .own 5 P 56, .own 5 L 56] : Heap cod)⟩


theorem claw_t9 (l : List (Int × Int × Int × List UInt8)) (l_t : Bool) (b : Int) (t : Int) (g : Int) (P L : List (List UInt8 × Int × Int)) (p q N : Nat) (m i : Int) : symF C_sortN cuts_claw Try.f4.results.toList 1 400 (cutAt Try.f4 9) (st_claw_9 l l_t b t g P L p q N m i) =
 cond (decide (i < m)) (
 .need (((0 : Int) ≤ i ∧ i < Int.ofNat N)) (
 .need (0 + Int.toNat i < List.length l) (
 .need (((0 = 0 ∧ q = List.length L) ∧ List.length L ≤ 1000000)) (
 .need (((0 : Int) ≤ 0 ∧ ((0 : Int) ≤ 2 ∧ ((2 : Int) ≤ 100000 ∧ i64ok (List.getD l (0 + Int.toNat i) (cod 7).d).1)))) (
 .ret (.cut (regAt Try.f4 18) ⟨tmG 200 [(1, .c (.int .i64 b)), (0, .c (.int .i64 t)), (0, .c (.int .i64 g)), (5, .c (.ptr 1 0 0)), (0, .c (.own 3 (q))), (0, .c (.fn 24 [])), (1, .c (.ptr 4 0 0)), (0, .c (.int .i64 (F.kdx L (List.getD l (0 + Int.toNat i) (cod 7).d).2.2.2))), (1, .c (.int .i64 0)), (19, .c (.slc 0 0 (N) false)), (0, .c (.int .i64 m)), (0, .c (.int .i64 i)), (8, .c (.int .i64 (F.rcut (List.getD l (0 + Int.toNat i) (cod 7).d).1 0 2)))], [.inp 7 l, .blk [.own 2 (p)] 79, .own 5 P 56, .own 5 L 56, .blk [.int .i64 ((List.getD l (0 + Int.toNat i) (cod 7).d).1), .int .i64 ((List.getD l (0 + Int.toNat i) (cod 7).d).2.1), .int .i64 ((List.getD l (0 + Int.toNat i) (cod 7).d).2.2.1), .str ((List.getD l (0 + Int.toNat i) (cod 7).d).2.2.2)] 53]⟩)))))) (
 .ret (.cut (regAt Try.f4 43) ⟨tmG 237 [(1, .c (.int .i64 b)), (0, .c (.int .i64 t)), (0, .c (.int .i64 g)), (5, .c (.ptr 1 0 0)), (0, .c (.own 3 (q)))], [.inp 7 l, .blk [.own 2 (p)] 79, .own 5 P 56, .own 5 L 56]⟩)) := by kernel_rfl


noncomputable def st_claw_r18 (l : List (Int × Int × Int × List UInt8)) (l_t : Bool) (b : Int) (t : Int) (g : Int) (P L : List (List UInt8 × Int × Int)) (p q N : Nat) (m i : Int) (kd fq tm : Int) (cl : List UInt8) (k kc : Int) : St cod := ⟨tmG 200 [(1, .c (.int .i64 b)), (0, .c (.int .i64 t)), (0, .c (.int .i64 g)), (5, .c (.ptr 1 0 0)), (0, .c (.own 3 (q))), (0, .c (.fn 24 [])), (1, .c (.ptr 4 0 0)), (0, .c (.int .i64 k)), (1, .c (.int .i64 0)), (19, .c (.slc 0 0 (N) false)), (0, .c (.int .i64 m)), (0, .c (.int .i64 i)), (8, .c (.int .i64 kc))], ([.inp 7 l, .blk [.own 2 p] 79, .own 5 P 56, .own 5 L 56, .blk [.int .i64 kd, .int .i64 fq, .int .i64 tm, .str cl] 53] : Heap cod)⟩


theorem claw_tr18 (l : List (Int × Int × Int × List UInt8)) (l_t : Bool) (b : Int) (t : Int) (g : Int) (P L : List (List UInt8 × Int × Int)) (p q N : Nat) (m i : Int) (kd fq tm : Int) (cl : List UInt8) (k kc : Int) : symF C_sortN cuts_claw_r18 Try.f4.results.toList 1 400 (regAt Try.f4 18) (st_claw_r18 l l_t b t g P L p q N m i kd fq tm cl k kc) =
 cond (decide (kc = 0)) (
 .need ((HObj.blk [Cell.own 1 p] 79 : HObj cod) = HObj.blk [Cell.own 1 (List.length P)] 79) (
 .need ((F.asc P = true ∧ (List.length P ≤ 1000 ∧ i64ok fq))) (
 cond (!F.named cl) (
  cond (!decide (F.tunE P cl fq tm = 6)) (
   .ret (.fin (.c (.bool false)) [])) (
   .need (i64ok (i + 1)) (
   .ret (.cut (cutAt Try.f4 9) ⟨tmG 209 [(1, .c (.int .i64 b)), (0, .c (.int .i64 t)), (0, .c (.int .i64 g)), (5, .c (.ptr 1 0 0)), (0, .c (.own 3 (q))), (0, .c (.fn 24 [])), (24, .c (.slc 0 0 (N) false)), (0, .c (.int .i64 m)), (0, .c (.int .i64 (i + 1)))], [.inp 7 l, .blk [.own 2 (List.length (F.tunL P cl fq tm))] 79, .own 5 (F.tunL P cl fq tm) 56, .own 5 L 56]⟩)))) (
  cond (!F.vfr fq) (
   cond (!decide (F.tunE P cl fq tm = 4)) (
    .ret (.fin (.c (.bool false)) [])) (
    .need (i64ok (i + 1)) (
    .ret (.cut (cutAt Try.f4 9) ⟨tmG 209 [(1, .c (.int .i64 b)), (0, .c (.int .i64 t)), (0, .c (.int .i64 g)), (5, .c (.ptr 1 0 0)), (0, .c (.own 3 (q))), (0, .c (.fn 24 [])), (24, .c (.slc 0 0 (N) false)), (0, .c (.int .i64 m)), (0, .c (.int .i64 (i + 1)))], [.inp 7 l, .blk [.own 2 (List.length (F.tunL P cl fq tm))] 79, .own 5 (F.tunL P cl fq tm) 56, .own 5 L 56]⟩)))) (
   cond (!F.inb tm 0 200000) (
    cond (!decide (F.tunE P cl fq tm = 4)) (
     .ret (.fin (.c (.bool false)) [])) (
     .need (i64ok (i + 1)) (
     .ret (.cut (cutAt Try.f4 9) ⟨tmG 209 [(1, .c (.int .i64 b)), (0, .c (.int .i64 t)), (0, .c (.int .i64 g)), (5, .c (.ptr 1 0 0)), (0, .c (.own 3 (q))), (0, .c (.fn 24 [])), (24, .c (.slc 0 0 (N) false)), (0, .c (.int .i64 m)), (0, .c (.int .i64 (i + 1)))], [.inp 7 l, .blk [.own 2 (List.length (F.tunL P cl fq tm))] 79, .own 5 (F.tunL P cl fq tm) 56, .own 5 L 56]⟩)))) (
    cond (decide (k < 0)) (
     cond (decide (Int.ofNat q = 24)) (
      cond (!decide (F.tunE P cl fq tm = 9)) (
       .ret (.fin (.c (.bool false)) [])) (
       .need (i64ok (i + 1)) (
       .ret (.cut (cutAt Try.f4 9) ⟨tmG 209 [(1, .c (.int .i64 b)), (0, .c (.int .i64 t)), (0, .c (.int .i64 g)), (5, .c (.ptr 1 0 0)), (0, .c (.own 3 (q))), (0, .c (.fn 24 [])), (24, .c (.slc 0 0 (N) false)), (0, .c (.int .i64 m)), (0, .c (.int .i64 (i + 1)))], [.inp 7 l, .blk [.own 2 (List.length (F.tunL P cl fq tm))] 79, .own 5 (F.tunL P cl fq tm) 56, .own 5 L 56]⟩)))) (
      cond (decide (0 ≤ k)) (
       .need (((0 : Int) ≤ k ∧ k < Int.ofNat q)) (
       .need (0 + Int.toNat k < List.length L) (
       cond (decide (tm < (List.getD L (0 + Int.toNat k) (cod 5).d).2.2)) (
        cond (!decide (F.tunE P cl fq tm = 12)) (
         .ret (.fin (.c (.bool false)) [])) (
         .need (i64ok (i + 1)) (
         .ret (.cut (cutAt Try.f4 9) ⟨tmG 209 [(1, .c (.int .i64 b)), (0, .c (.int .i64 t)), (0, .c (.int .i64 g)), (5, .c (.ptr 1 0 0)), (0, .c (.own 3 (q))), (0, .c (.fn 24 [])), (24, .c (.slc 0 0 (N) false)), (0, .c (.int .i64 m)), (0, .c (.int .i64 (i + 1)))], [.inp 7 l, .blk [.own 2 (List.length (F.tunL P cl fq tm))] 79, .own 5 (F.tunL P cl fq tm) 56, .own 5 L 56]⟩)))) (
        cond (decide (0 ≤ k)) (
         .need (((0 : Int) ≤ k ∧ k < Int.ofNat q)) (
         .need (0 + Int.toNat k < List.length L) (
         cond (!decide (F.tunE P cl fq tm = 0)) (
          .ret (.fin (.c (.bool false)) [])) (
          .need (i64ok (i + 1)) (
          .ret (.cut (cutAt Try.f4 9) ⟨tmG 209 [(1, .c (.int .i64 b)), (0, .c (.int .i64 t)), (0, .c (.int .i64 g)), (5, .c (.ptr 1 0 0)), (0, .c (.own 3 (q))), (0, .c (.fn 24 [])), (24, .c (.slc 0 0 (N) false)), (0, .c (.int .i64 m)), (0, .c (.int .i64 (i + 1)))], [.inp 7 l, .blk [.own 2 (List.length (F.tunL P cl fq tm))] 79, .own 5 (F.tunL P cl fq tm) 56, .own 5 (List.set L (0 + Int.toNat k) (cl, fq, tm)) 56]⟩)))))) (
         .need (1 = 1) (
         .need (q + 1 ≤ 1000000) (
         cond (!decide (F.tunE P cl fq tm = 0)) (
          .ret (.fin (.c (.bool false)) [])) (
          .need (i64ok (i + 1)) (
          .ret (.cut (cutAt Try.f4 9) ⟨tmG 209 [(1, .c (.int .i64 b)), (0, .c (.int .i64 t)), (0, .c (.int .i64 g)), (5, .c (.ptr 1 0 0)), (0, .c (.own 3 (q + 1))), (0, .c (.fn 24 [])), (24, .c (.slc 0 0 (N) false)), (0, .c (.int .i64 m)), (0, .c (.int .i64 (i + 1)))], [.inp 7 l, .blk [.own 2 (List.length (F.tunL P cl fq tm))] 79, .own 5 (F.tunL P cl fq tm) 56, .own 5 (L ++ ([(cl, fq, tm)])) 56]⟩)))))))))) (
       cond (decide (0 ≤ k)) (
        .need (((0 : Int) ≤ k ∧ k < Int.ofNat q)) (
        .need (0 + Int.toNat k < List.length L) (
        cond (!decide (F.tunE P cl fq tm = 0)) (
         .ret (.fin (.c (.bool false)) [])) (
         .need (i64ok (i + 1)) (
         .ret (.cut (cutAt Try.f4 9) ⟨tmG 209 [(1, .c (.int .i64 b)), (0, .c (.int .i64 t)), (0, .c (.int .i64 g)), (5, .c (.ptr 1 0 0)), (0, .c (.own 3 (q))), (0, .c (.fn 24 [])), (24, .c (.slc 0 0 (N) false)), (0, .c (.int .i64 m)), (0, .c (.int .i64 (i + 1)))], [.inp 7 l, .blk [.own 2 (List.length (F.tunL P cl fq tm))] 79, .own 5 (F.tunL P cl fq tm) 56, .own 5 (List.set L (0 + Int.toNat k) (cl, fq, tm)) 56]⟩)))))) (
        .need (1 = 1) (
        .need (q + 1 ≤ 1000000) (
        cond (!decide (F.tunE P cl fq tm = 0)) (
         .ret (.fin (.c (.bool false)) [])) (
         .need (i64ok (i + 1)) (
         .ret (.cut (cutAt Try.f4 9) ⟨tmG 209 [(1, .c (.int .i64 b)), (0, .c (.int .i64 t)), (0, .c (.int .i64 g)), (5, .c (.ptr 1 0 0)), (0, .c (.own 3 (q + 1))), (0, .c (.fn 24 [])), (24, .c (.slc 0 0 (N) false)), (0, .c (.int .i64 m)), (0, .c (.int .i64 (i + 1)))], [.inp 7 l, .blk [.own 2 (List.length (F.tunL P cl fq tm))] 79, .own 5 (F.tunL P cl fq tm) 56, .own 5 (L ++ ([(cl, fq, tm)])) 56]⟩))))))))) (
     cond (decide (0 ≤ k)) (
      .need (((0 : Int) ≤ k ∧ k < Int.ofNat q)) (
      .need (0 + Int.toNat k < List.length L) (
      cond (decide (tm < (List.getD L (0 + Int.toNat k) (cod 5).d).2.2)) (
       cond (!decide (F.tunE P cl fq tm = 12)) (
        .ret (.fin (.c (.bool false)) [])) (
        .need (i64ok (i + 1)) (
        .ret (.cut (cutAt Try.f4 9) ⟨tmG 209 [(1, .c (.int .i64 b)), (0, .c (.int .i64 t)), (0, .c (.int .i64 g)), (5, .c (.ptr 1 0 0)), (0, .c (.own 3 (q))), (0, .c (.fn 24 [])), (24, .c (.slc 0 0 (N) false)), (0, .c (.int .i64 m)), (0, .c (.int .i64 (i + 1)))], [.inp 7 l, .blk [.own 2 (List.length (F.tunL P cl fq tm))] 79, .own 5 (F.tunL P cl fq tm) 56, .own 5 L 56]⟩)))) (
       cond (decide (0 ≤ k)) (
        .need (((0 : Int) ≤ k ∧ k < Int.ofNat q)) (
        .need (0 + Int.toNat k < List.length L) (
        cond (!decide (F.tunE P cl fq tm = 0)) (
         .ret (.fin (.c (.bool false)) [])) (
         .need (i64ok (i + 1)) (
         .ret (.cut (cutAt Try.f4 9) ⟨tmG 209 [(1, .c (.int .i64 b)), (0, .c (.int .i64 t)), (0, .c (.int .i64 g)), (5, .c (.ptr 1 0 0)), (0, .c (.own 3 (q))), (0, .c (.fn 24 [])), (24, .c (.slc 0 0 (N) false)), (0, .c (.int .i64 m)), (0, .c (.int .i64 (i + 1)))], [.inp 7 l, .blk [.own 2 (List.length (F.tunL P cl fq tm))] 79, .own 5 (F.tunL P cl fq tm) 56, .own 5 (List.set L (0 + Int.toNat k) (cl, fq, tm)) 56]⟩)))))) (
        .need (1 = 1) (
        .need (q + 1 ≤ 1000000) (
        cond (!decide (F.tunE P cl fq tm = 0)) (
         .ret (.fin (.c (.bool false)) [])) (
         .need (i64ok (i + 1)) (
         .ret (.cut (cutAt Try.f4 9) ⟨tmG 209 [(1, .c (.int .i64 b)), (0, .c (.int .i64 t)), (0, .c (.int .i64 g)), (5, .c (.ptr 1 0 0)), (0, .c (.own 3 (q + 1))), (0, .c (.fn 24 [])), (24, .c (.slc 0 0 (N) false)), (0, .c (.int .i64 m)), (0, .c (.int .i64 (i + 1)))], [.inp 7 l, .blk [.own 2 (List.length (F.tunL P cl fq tm))] 79, .own 5 (F.tunL P cl fq tm) 56, .own 5 (L ++ ([(cl, fq, tm)])) 56]⟩)))))))))) (
      cond (decide (0 ≤ k)) (
       .need (((0 : Int) ≤ k ∧ k < Int.ofNat q)) (
       .need (0 + Int.toNat k < List.length L) (
       cond (!decide (F.tunE P cl fq tm = 0)) (
        .ret (.fin (.c (.bool false)) [])) (
        .need (i64ok (i + 1)) (
        .ret (.cut (cutAt Try.f4 9) ⟨tmG 209 [(1, .c (.int .i64 b)), (0, .c (.int .i64 t)), (0, .c (.int .i64 g)), (5, .c (.ptr 1 0 0)), (0, .c (.own 3 (q))), (0, .c (.fn 24 [])), (24, .c (.slc 0 0 (N) false)), (0, .c (.int .i64 m)), (0, .c (.int .i64 (i + 1)))], [.inp 7 l, .blk [.own 2 (List.length (F.tunL P cl fq tm))] 79, .own 5 (F.tunL P cl fq tm) 56, .own 5 (List.set L (0 + Int.toNat k) (cl, fq, tm)) 56]⟩)))))) (
       .need (1 = 1) (
       .need (q + 1 ≤ 1000000) (
       cond (!decide (F.tunE P cl fq tm = 0)) (
        .ret (.fin (.c (.bool false)) [])) (
        .need (i64ok (i + 1)) (
        .ret (.cut (cutAt Try.f4 9) ⟨tmG 209 [(1, .c (.int .i64 b)), (0, .c (.int .i64 t)), (0, .c (.int .i64 g)), (5, .c (.ptr 1 0 0)), (0, .c (.own 3 (q + 1))), (0, .c (.fn 24 [])), (24, .c (.slc 0 0 (N) false)), (0, .c (.int .i64 m)), (0, .c (.int .i64 (i + 1)))], [.inp 7 l, .blk [.own 2 (List.length (F.tunL P cl fq tm))] 79, .own 5 (F.tunL P cl fq tm) 56, .own 5 (L ++ ([(cl, fq, tm)])) 56]⟩)))))))))))))) (
 cond (decide (kc = 1)) (
  .need ((HObj.blk [Cell.own 1 p] 79 : HObj cod) = HObj.blk [Cell.own 1 (List.length P)] 79) (
  .need ((F.asc P = true ∧ List.length P ≤ 1000)) (
  cond (decide (k < 0)) (
   cond (!decide (F.heaE P cl fq tm = 8)) (
    .ret (.fin (.c (.bool false)) [])) (
    .need (i64ok (i + 1)) (
    .ret (.cut (cutAt Try.f4 9) ⟨tmG 209 [(1, .c (.int .i64 b)), (0, .c (.int .i64 t)), (0, .c (.int .i64 g)), (5, .c (.ptr 1 0 0)), (0, .c (.own 3 (q))), (0, .c (.fn 24 [])), (24, .c (.slc 0 0 (N) false)), (0, .c (.int .i64 m)), (0, .c (.int .i64 (i + 1)))], [.inp 7 l, .blk [.own 2 (List.length (F.heaL P cl fq tm))] 79, .own 5 (F.heaL P cl fq tm) 56, .own 5 L 56]⟩)))) (
   .need (((0 : Int) ≤ k ∧ k < Int.ofNat q)) (
   .need (0 + Int.toNat k < List.length L) (
   cond (!decide ((List.getD L (0 + Int.toNat k) (cod 5).d).2.1 = fq)) (
    cond (!decide (F.heaE P cl fq tm = 11)) (
     .ret (.fin (.c (.bool false)) [])) (
     .need (i64ok (i + 1)) (
     .ret (.cut (cutAt Try.f4 9) ⟨tmG 209 [(1, .c (.int .i64 b)), (0, .c (.int .i64 t)), (0, .c (.int .i64 g)), (5, .c (.ptr 1 0 0)), (0, .c (.own 3 (q))), (0, .c (.fn 24 [])), (24, .c (.slc 0 0 (N) false)), (0, .c (.int .i64 m)), (0, .c (.int .i64 (i + 1)))], [.inp 7 l, .blk [.own 2 (List.length (F.heaL P cl fq tm))] 79, .own 5 (F.heaL P cl fq tm) 56, .own 5 L 56]⟩)))) (
    .need (((0 : Int) ≤ k ∧ k < Int.ofNat q)) (
    .need (0 + Int.toNat k < List.length L) (
    cond (!F.inb tm (List.getD L (0 + Int.toNat k) (cod 5).d).2.2 200000) (
     cond (!decide (F.heaE P cl fq tm = 12)) (
      .ret (.fin (.c (.bool false)) [])) (
      .need (i64ok (i + 1)) (
      .ret (.cut (cutAt Try.f4 9) ⟨tmG 209 [(1, .c (.int .i64 b)), (0, .c (.int .i64 t)), (0, .c (.int .i64 g)), (5, .c (.ptr 1 0 0)), (0, .c (.own 3 (q))), (0, .c (.fn 24 [])), (24, .c (.slc 0 0 (N) false)), (0, .c (.int .i64 m)), (0, .c (.int .i64 (i + 1)))], [.inp 7 l, .blk [.own 2 (List.length (F.heaL P cl fq tm))] 79, .own 5 (F.heaL P cl fq tm) 56, .own 5 L 56]⟩)))) (
     .need (((0 : Int) ≤ k ∧ k < Int.ofNat q)) (
     .need (0 + Int.toNat k < List.length L) (
     cond (!decide (F.heaE P cl fq tm = 0)) (
      .ret (.fin (.c (.bool false)) [])) (
      .need (i64ok (i + 1)) (
      .ret (.cut (cutAt Try.f4 9) ⟨tmG 209 [(1, .c (.int .i64 b)), (0, .c (.int .i64 t)), (0, .c (.int .i64 g)), (5, .c (.ptr 1 0 0)), (0, .c (.own 3 (q))), (0, .c (.fn 24 [])), (24, .c (.slc 0 0 (N) false)), (0, .c (.int .i64 m)), (0, .c (.int .i64 (i + 1)))], [.inp 7 l, .blk [.own 2 (List.length (F.heaL P cl fq tm))] 79, .own 5 (F.heaL P cl fq tm) 56, .own 5 (List.set L (0 + Int.toNat k)   ((List.getD L (0 + Int.toNat k) (cod 5).d).1, (List.getD L (0 + Int.toNat k) (cod 5).d).2.1, tm)) 56]⟩))))))))))))))) (
  .need ((HObj.blk [Cell.own 1 p] 79 : HObj cod) = HObj.blk [Cell.own 1 (List.length P)] 79) (
  .need ((F.asc P = true ∧ List.length P ≤ 1000)) (
  cond (decide (k < 0)) (
   cond (!decide (F.levE P cl = 8)) (
    .ret (.fin (.c (.bool false)) [])) (
    .need (i64ok (i + 1)) (
    .ret (.cut (cutAt Try.f4 9) ⟨tmG 209 [(1, .c (.int .i64 b)), (0, .c (.int .i64 t)), (0, .c (.int .i64 g)), (5, .c (.ptr 1 0 0)), (0, .c (.own 3 (q))), (0, .c (.fn 24 [])), (24, .c (.slc 0 0 (N) false)), (0, .c (.int .i64 m)), (0, .c (.int .i64 (i + 1)))], [.inp 7 l, .blk [.own 2 (List.length (F.levL P cl))] 79, .own 5 (F.levL P cl) 56, .own 5 L 56]⟩)))) (
   .need (i64ok (k + 1)) (
   .need (((0 : Int) ≤ k ∧ (k < Int.ofNat (List.length L) ∧ k + 1 = k + 1))) (
   cond (!decide (F.levE P cl = 0)) (
    .ret (.fin (.c (.bool false)) [])) (
    .need (i64ok (i + 1)) (
    .ret (.cut (cutAt Try.f4 9) ⟨tmG 209 [(1, .c (.int .i64 b)), (0, .c (.int .i64 t)), (0, .c (.int .i64 g)), (5, .c (.ptr 1 0 0)), (0, .c (.own 3 (List.length L - 1))), (0, .c (.fn 24 [])), (24, .c (.slc 0 0 (N) false)), (0, .c (.int .i64 m)), (0, .c (.int .i64 (i + 1)))], [.inp 7 l, .blk [.own 2 (List.length (F.levL P cl))] 79, .own 5 (F.levL P cl) 56, .own 5 (List.eraseIdx L (Int.toNat k)) 56]⟩)))))))))) := by kernel_rfl


noncomputable def st_claw_r43 (l : List (Int × Int × Int × List UInt8)) (l_t : Bool) (b : Int) (t : Int) (g : Int) (P L : List (List UInt8 × Int × Int)) (p q N : Nat) (m i : Int) : St cod := ⟨tmG 237 [(1, .c (.int .i64 b)), (0, .c (.int .i64 t)), (0, .c (.int .i64 g)), (5, .c (.ptr 1 0 0)), (0, .c (.own 3 (q)))], ([.inp 7 l, .blk [.own 2 p] 79, .own 5 P 56, .own 5 L 56] : Heap cod)⟩


theorem claw_tr43 (l : List (Int × Int × Int × List UInt8)) (l_t : Bool) (b : Int) (t : Int) (g : Int) (P L : List (List UInt8 × Int × Int)) (p q N : Nat) (m i : Int) : symF C_sortN cuts_claw_r43 Try.f4.results.toList 1 400 (regAt Try.f4 43) (st_claw_r43 l l_t b t g P L p q N m i) =
.need ((F.dstC L ∧ List.length L ≤ 1000000)) (
.ret (.cut (cutAt Try.f4 46) ⟨tmG 71 [(1, .c (.int .i64 b)), (0, .c (.int .i64 t)), (0, .c (.int .i64 g)), (5, .c (.ptr 1 0 0)), (0, .c (.own 3 (q))), (6, .c (.own 4 0)), (156, .c (.own 3 (q))), (0, .c (.int .i64 (Int.ofNat q))), (0, .c (.int .i64 0))], [.inp 7 l, .blk [.own 2 (p)] 79, .own 5 P 56, .own 5 (F.sortN L) 56, .own 2 [] 9]⟩)) := by kernel_rfl


noncomputable def st_claw_46 (l : List (Int × Int × Int × List UInt8)) (l_t : Bool) (b : Int) (t : Int) (g : Int) (P L : List (List UInt8 × Int × Int)) (p q N : Nat) (m i : Int) (on : List (List UInt8)) (oq : Nat) (j : Int) : St cod := ⟨tmG 71 [(1, .c (.int .i64 b)), (0, .c (.int .i64 t)), (0, .c (.int .i64 g)), (5, .c (.ptr 1 0 0)), (0, .c (.own 3 (q))), (6, .c (.own 4 oq)), (156, .c (.own 3 (q))), (0, .c (.int .i64 (Int.ofNat q))), (0, .c (.int .i64 j))], ([.inp 7 l, .blk [.own 2 p] 79, .own 5 P 56, .own 5 L 56, .own 2 on 9] : Heap cod)⟩


theorem claw_t46 (l : List (Int × Int × Int × List UInt8)) (l_t : Bool) (b : Int) (t : Int) (g : Int) (P L : List (List UInt8 × Int × Int)) (p q N : Nat) (m i : Int) (on : List (List UInt8)) (oq : Nat) (j : Int) : symF C_sortN cuts_claw Try.f4.results.toList 1 400 (cutAt Try.f4 46) (st_claw_46 l l_t b t g P L p q N m i on oq j) =
 cond (decide (j < Int.ofNat q)) (
 .need (((0 : Int) ≤ j ∧ j < Int.ofNat q)) (
 .need (0 + Int.toNat j < List.length L) (
 cond (decide ((List.getD L (0 + Int.toNat j) (cod 5).d).2.1 = b)) (
  .need (1 = 1) (
  .need (oq + 1 ≤ 1000000) (
  .need (i64ok (j + 1)) (
  .ret (.cut (cutAt Try.f4 46) ⟨tmG 71 [(1, .c (.int .i64 b)), (0, .c (.int .i64 t)), (0, .c (.int .i64 g)), (5, .c (.ptr 1 0 0)), (0, .c (.own 3 (q))), (6, .c (.own 4 (oq + 1))), (156, .c (.own 3 (q))), (0, .c (.int .i64 (Int.ofNat q))), (0, .c (.int .i64 (j + 1)))], [.inp 7 l, .blk [.own 2 (p)] 79, .own 5 P 56, .own 5 L 56, .own 2 (on ++ ([(List.getD L (0 + Int.toNat j) (cod 5).d).1])) 9]⟩))))) (
  .need (i64ok (j + 1)) (
  .ret (.cut (cutAt Try.f4 46) ⟨tmG 71 [(1, .c (.int .i64 b)), (0, .c (.int .i64 t)), (0, .c (.int .i64 g)), (5, .c (.ptr 1 0 0)), (0, .c (.own 3 (q))), (6, .c (.own 4 (oq))), (156, .c (.own 3 (q))), (0, .c (.int .i64 (Int.ofNat q))), (0, .c (.int .i64 (j + 1)))], [.inp 7 l, .blk [.own 2 (p)] 79, .own 5 P 56, .own 5 L 56, .own 2 on 9]⟩)))))) (
 .ret (.cut (regAt Try.f4 51) ⟨tmG 230 [(1, .c (.int .i64 b)), (0, .c (.int .i64 t)), (0, .c (.int .i64 g)), (5, .c (.ptr 1 0 0)), (0, .c (.own 3 (q))), (6, .c (.own 4 (oq)))], [.inp 7 l, .blk [.own 2 (p)] 79, .own 5 P 56, .own 5 L 56, .own 2 on 9]⟩)) := by kernel_rfl


noncomputable def st_claw_r51 (l : List (Int × Int × Int × List UInt8)) (l_t : Bool) (b : Int) (t : Int) (g : Int) (P L : List (List UInt8 × Int × Int)) (p q N : Nat) (m i : Int) (on : List (List UInt8)) (oq : Nat) (j : Int) : St cod := ⟨tmG 230 [(1, .c (.int .i64 b)), (0, .c (.int .i64 t)), (0, .c (.int .i64 g)), (5, .c (.ptr 1 0 0)), (0, .c (.own 3 (q))), (6, .c (.own 4 (oq)))], ([.inp 7 l, .blk [.own 2 p] 79, .own 5 P 56, .own 5 L 56, .own 2 on 9] : Heap cod)⟩


theorem claw_tr51 (l : List (Int × Int × Int × List UInt8)) (l_t : Bool) (b : Int) (t : Int) (g : Int) (P L : List (List UInt8 × Int × Int)) (p q N : Nat) (m i : Int) (on : List (List UInt8)) (oq : Nat) (j : Int) : symF C_sortN cuts_claw_r51 Try.f4.results.toList 1 400 (regAt Try.f4 51) (st_claw_r51 l l_t b t g P L p q N m i on oq j) =
 cond (F.inb t 0 200000) (
 cond (decide (0 ≤ g)) (
  .need (i64ok (t + 1)) (
  .ret (.cut (cutAt Try.f4 54) ⟨tmG 49 [(1, .c (.int .i64 b)), (0, .c (.int .i64 t)), (0, .c (.int .i64 g)), (5, .c (.ptr 1 0 0)), (0, .c (.own 3 (q))), (6, .c (.own 4 (oq))), (2, .c (.own 5 0)), (176, .c (.int .i64 (t + 1))), (0, .c (.int .i64 0))], [.inp 7 l, .blk [.own 2 (p)] 79, .own 5 P 56, .own 5 L 56, .own 2 on 9, .own 5 [] 56]⟩))) (
  .ret (.cut (regAt Try.f4 64) ⟨tmG 227 [(1, .c (.int .i64 b)), (0, .c (.int .i64 t)), (0, .c (.int .i64 g)), (5, .c (.ptr 1 0 0)), (0, .c (.own 3 (q))), (6, .c (.own 4 (oq))), (2, .c (.own 5 0))], [.inp 7 l, .blk [.own 2 (p)] 79, .own 5 P 56, .own 5 L 56, .own 2 on 9, .own 5 [] 56]⟩))) (
 .ret (.cut (regAt Try.f4 64) ⟨tmG 227 [(1, .c (.int .i64 b)), (0, .c (.int .i64 t)), (0, .c (.int .i64 g)), (5, .c (.ptr 1 0 0)), (0, .c (.own 3 (q))), (6, .c (.own 4 (oq))), (2, .c (.own 5 0))], [.inp 7 l, .blk [.own 2 (p)] 79, .own 5 P 56, .own 5 L 56, .own 2 on 9, .own 5 [] 56]⟩)) := by kernel_rfl


noncomputable def st_claw_54 (l : List (Int × Int × Int × List UInt8)) (l_t : Bool) (b : Int) (t : Int) (g : Int) (P L : List (List UInt8 × Int × Int)) (p q N : Nat) (m i : Int) (on : List (List UInt8)) (oq : Nat) (j : Int) (lo : List (List UInt8 × Int × Int)) (lq : Nat) (d : Int) : St cod := ⟨tmG 49 [(1, .c (.int .i64 b)), (0, .c (.int .i64 t)), (0, .c (.int .i64 g)), (5, .c (.ptr 1 0 0)), (0, .c (.own 3 (q))), (6, .c (.own 4 (oq))), (2, .c (.own 5 lq)), (176, .c (.int .i64 (t + 1))), (0, .c (.int .i64 d))], ([.inp 7 l, .blk [.own 2 p] 79, .own 5 P 56, .own 5 L 56, .own 2 on 9, .own 5 lo 56] : Heap cod)⟩


theorem claw_t54 (l : List (Int × Int × Int × List UInt8)) (l_t : Bool) (b : Int) (t : Int) (g : Int) (P L : List (List UInt8 × Int × Int)) (p q N : Nat) (m i : Int) (on : List (List UInt8)) (oq : Nat) (j : Int) (lo : List (List UInt8 × Int × Int)) (lq : Nat) (d : Int) : symF C_sortN cuts_claw Try.f4.results.toList 1 400 (cutAt Try.f4 54) (st_claw_54 l l_t b t g P L p q N m i on oq j lo lq d) =
 cond (decide (d < t + 1)) (
 .need (i64ok (t - d)) (
 cond (decide (t - d ≤ g)) (
  .ret (.cut (regAt Try.f4 64) ⟨tmG 227 [(1, .c (.int .i64 b)), (0, .c (.int .i64 t)), (0, .c (.int .i64 g)), (5, .c (.ptr 1 0 0)), (0, .c (.own 3 (q))), (6, .c (.own 4 (oq))), (2, .c (.own 5 (lq)))], [.inp 7 l, .blk [.own 2 (p)] 79, .own 5 P 56, .own 5 L 56, .own 2 on 9, .own 5 lo 56]⟩)) (
  cond (decide (Int.ofNat lq = Int.ofNat q)) (
   .ret (.cut (regAt Try.f4 64) ⟨tmG 227 [(1, .c (.int .i64 b)), (0, .c (.int .i64 t)), (0, .c (.int .i64 g)), (5, .c (.ptr 1 0 0)), (0, .c (.own 3 (q))), (6, .c (.own 4 (oq))), (2, .c (.own 5 (lq)))], [.inp 7 l, .blk [.own 2 (p)] 79, .own 5 P 56, .own 5 L 56, .own 2 on 9, .own 5 lo 56]⟩)) (
   .ret (.cut (cutAt Try.f4 58) ⟨tmG 32 [(1, .c (.int .i64 b)), (0, .c (.int .i64 t)), (0, .c (.int .i64 g)), (5, .c (.ptr 1 0 0)), (0, .c (.own 3 (q))), (6, .c (.own 4 (oq))), (2, .c (.own 5 (lq))), (0, .c (.int .i64 d)), (175, .c (.int .i64 (t + 1))), (0, .c (.int .i64 d)), (14, .c (.own 3 (q))), (0, .c (.int .i64 (Int.ofNat q))), (0, .c (.int .i64 0))], [.inp 7 l, .blk [.own 2 (p)] 79, .own 5 P 56, .own 5 L 56, .own 2 on 9, .own 5 lo 56]⟩))))) (
 .ret (.cut (regAt Try.f4 64) ⟨tmG 227 [(1, .c (.int .i64 b)), (0, .c (.int .i64 t)), (0, .c (.int .i64 g)), (5, .c (.ptr 1 0 0)), (0, .c (.own 3 (q))), (6, .c (.own 4 (oq))), (2, .c (.own 5 (lq)))], [.inp 7 l, .blk [.own 2 (p)] 79, .own 5 P 56, .own 5 L 56, .own 2 on 9, .own 5 lo 56]⟩)) := by kernel_rfl


noncomputable def st_claw_58 (l : List (Int × Int × Int × List UInt8)) (l_t : Bool) (b : Int) (t : Int) (g : Int) (P L : List (List UInt8 × Int × Int)) (p q N : Nat) (m i : Int) (on : List (List UInt8)) (oq : Nat) (j : Int) (lo : List (List UInt8 × Int × Int)) (lq : Nat) (d : Int) (n : Int) : St cod := ⟨tmG 32 [(1, .c (.int .i64 b)), (0, .c (.int .i64 t)), (0, .c (.int .i64 g)), (5, .c (.ptr 1 0 0)), (0, .c (.own 3 (q))), (6, .c (.own 4 (oq))), (2, .c (.own 5 lq)), (0, .c (.int .i64 d)), (175, .c (.int .i64 (t + 1))), (0, .c (.int .i64 d)), (14, .c (.own 3 (q))), (0, .c (.int .i64 (Int.ofNat q))), (0, .c (.int .i64 n))], ([.inp 7 l, .blk [.own 2 p] 79, .own 5 P 56, .own 5 L 56, .own 2 on 9, .own 5 lo 56] : Heap cod)⟩


theorem claw_t58 (l : List (Int × Int × Int × List UInt8)) (l_t : Bool) (b : Int) (t : Int) (g : Int) (P L : List (List UInt8 × Int × Int)) (p q N : Nat) (m i : Int) (on : List (List UInt8)) (oq : Nat) (j : Int) (lo : List (List UInt8 × Int × Int)) (lq : Nat) (d : Int) (n : Int) : symF C_sortN cuts_claw Try.f4.results.toList 1 400 (cutAt Try.f4 58) (st_claw_58 l l_t b t g P L p q N m i on oq j lo lq d n) =
 cond (decide (n < Int.ofNat q)) (
 .need (((0 : Int) ≤ n ∧ n < Int.ofNat q)) (
 .need (0 + Int.toNat n < List.length L) (
 cond (decide ((List.getD L (0 + Int.toNat n) (cod 5).d).2.2 = d)) (
  .need (1 = 1) (
  .need (lq + 1 ≤ 1000000) (
  .need (i64ok (n + 1)) (
  .ret (.cut (cutAt Try.f4 58) ⟨tmG 32 [(1, .c (.int .i64 b)), (0, .c (.int .i64 t)), (0, .c (.int .i64 g)), (5, .c (.ptr 1 0 0)), (0, .c (.own 3 (q))), (6, .c (.own 4 (oq))), (2, .c (.own 5 (lq + 1))), (0, .c (.int .i64 d)), (175, .c (.int .i64 (t + 1))), (0, .c (.int .i64 d)), (14, .c (.own 3 (q))), (0, .c (.int .i64 (Int.ofNat q))), (0, .c (.int .i64 (n + 1)))], [.inp 7 l, .blk [.own 2 (p)] 79, .own 5 P 56, .own 5 L 56, .own 2 on 9, .own 5 (lo ++ ([((List.getD L (0 + Int.toNat n) (cod 5).d).1, (List.getD L (0 + Int.toNat n) (cod 5).d).2.1,     (List.getD L (0 + Int.toNat n) (cod 5).d).2.2)])) 56]⟩))))) (
  .need (i64ok (n + 1)) (
  .ret (.cut (cutAt Try.f4 58) ⟨tmG 32 [(1, .c (.int .i64 b)), (0, .c (.int .i64 t)), (0, .c (.int .i64 g)), (5, .c (.ptr 1 0 0)), (0, .c (.own 3 (q))), (6, .c (.own 4 (oq))), (2, .c (.own 5 (lq))), (0, .c (.int .i64 d)), (175, .c (.int .i64 (t + 1))), (0, .c (.int .i64 d)), (14, .c (.own 3 (q))), (0, .c (.int .i64 (Int.ofNat q))), (0, .c (.int .i64 (n + 1)))], [.inp 7 l, .blk [.own 2 (p)] 79, .own 5 P 56, .own 5 L 56, .own 2 on 9, .own 5 lo 56]⟩)))))) (
 .need (i64ok (d + 1)) (
 .ret (.cut (cutAt Try.f4 54) ⟨tmG 49 [(1, .c (.int .i64 b)), (0, .c (.int .i64 t)), (0, .c (.int .i64 g)), (5, .c (.ptr 1 0 0)), (0, .c (.own 3 (q))), (6, .c (.own 4 (oq))), (2, .c (.own 5 (lq))), (176, .c (.int .i64 (t + 1))), (0, .c (.int .i64 (d + 1)))], [.inp 7 l, .blk [.own 2 (p)] 79, .own 5 P 56, .own 5 L 56, .own 2 on 9, .own 5 lo 56]⟩))) := by kernel_rfl


noncomputable def st_claw_r64 (l : List (Int × Int × Int × List UInt8)) (l_t : Bool) (b : Int) (t : Int) (g : Int) (P L : List (List UInt8 × Int × Int)) (p q N : Nat) (m i : Int) (on : List (List UInt8)) (oq : Nat) (j : Int) (lo : List (List UInt8 × Int × Int)) (lq : Nat) (d : Int) : St cod := ⟨tmG 227 [(1, .c (.int .i64 b)), (0, .c (.int .i64 t)), (0, .c (.int .i64 g)), (5, .c (.ptr 1 0 0)), (0, .c (.own 3 (q))), (6, .c (.own 4 (oq))), (2, .c (.own 5 lq))], ([.inp 7 l, .blk [.own 2 p] 79, .own 5 P 56, .own 5 L 56, .own 2 on 9, .own 5 lo 56] : Heap cod)⟩


theorem claw_tr64 (l : List (Int × Int × Int × List UInt8)) (l_t : Bool) (b : Int) (t : Int) (g : Int) (P L : List (List UInt8 × Int × Int)) (p q N : Nat) (m i : Int) (on : List (List UInt8)) (oq : Nat) (j : Int) (lo : List (List UInt8 × Int × Int)) (lq : Nat) (d : Int) : symF C_sortN cuts_claw_r64 Try.f4.results.toList 1 400 (regAt Try.f4 64) (st_claw_r64 l l_t b t g P L p q N m i on oq j lo lq d) =
.ite (decide (p = 0)) (
 .need (((0 = 0 ∧ p = List.length P) ∧ List.length P = 0)) (
 .need (((0 = 0 ∧ 0 = List.length P) ∧ ((0 = 0 ∧ q = List.length L) ∧ (P = L ∧ List.length P ≤ 100000)))) (
 .need (((0 = 0 ∧ p = List.length P) ∧ List.length P ≤ 100000)) (
 .need (((0 = 0 ∧ List.length (F.onC b P) = List.length (F.onC b P)) ∧ ((0 = 0 ∧ oq = List.length on) ∧ (F.onC b P = on ∧ List.length (F.onC b P) ≤ 100000)))) (
 .need (((0 = 0 ∧ p = List.length P) ∧ F.okC P)) (
 .need (((0 = 0 ∧ List.length (F.lostC t g P) = List.length (F.lostC t g P)) ∧ ((0 = 0 ∧ lq = List.length lo) ∧ (F.lostC t g P = lo ∧ List.length (F.lostC t g P) ≤ 100000)))) (
 .ret (.fin (.c (.bool true)) [])))))))) (
 .need (((0 = 0 ∧ p = List.length P) ∧ ((0 : Nat) < List.length P ∧ List.length P ≤ 100000))) (
 .need (((0 = 0 ∧ List.length P = List.length P) ∧ ((0 = 0 ∧ q = List.length L) ∧ (P = L ∧ List.length P ≤ 100000)))) (
 .need (((0 = 0 ∧ p = List.length P) ∧ List.length P ≤ 100000)) (
 .need (((0 = 0 ∧ List.length (F.onC b P) = List.length (F.onC b P)) ∧ ((0 = 0 ∧ oq = List.length on) ∧ (F.onC b P = on ∧ List.length (F.onC b P) ≤ 100000)))) (
 .need (((0 = 0 ∧ p = List.length P) ∧ F.okC P)) (
 .need (((0 = 0 ∧ List.length (F.lostC t g P) = List.length (F.lostC t g P)) ∧ ((0 = 0 ∧ lq = List.length lo) ∧ (F.lostC t g P = lo ∧ List.length (F.lostC t g P) ≤ 100000)))) (
 .ret (.fin (.c (.bool true)) [])))))))) := by kernel_rfl



theorem getD_memA {α : Type} {l : List α} {n : Nat} (d : α) (h : n < l.length) : l.getD n d ∈ l := by
  rw [List.getD_eq_getElem?_getD, List.getElem?_eq_getElem h]
  exact List.getElem_mem h
theorem claw_run (l : List (Int × Int × Int × List UInt8)) (l_t : Bool) (b : Int) (t : Int) (g : Int) (b0 : Base) (hb : b0.n = 1) (h0 : ∀ x ∈ l, Sym.i64ok x.1 ∧ Sym.i64ok x.2.1) : Sym.Runs Try.prog b0 [.code (codeOf Try.f4)] ⟨argsS Try.f4 [.c (.slc 0 0 (List.length l) l_t), .c (.int .i64 b), .c (.int .i64 t), .c (.int .i64 g)], ([.inp 7 l] : Heap cod)⟩ (Sym.Ends Try.prog Try.f4 1 (.c (.bool true)) []) := by
  have d0 : (cod 5).d = F.co0 := rfl
  -- the end
  have fin64 : ∀ (P : List F.Co) (N : Nat) (m i : Int) (j : Int) (lo : List F.Co) (d : Int), F.okC P → lo = F.lostC t g P → Sym.Runs Try.prog b0 (regAt Try.f4 64) (st_claw_r64 l l_t b t g P P P.length P.length N m i (F.onC b P) (F.onC b P).length j lo lo.length d) (Sym.Ends Try.prog Try.f4 1 (.c (.bool true)) []) := by
    intro P N m i j lo d hP hlo
    have h20 := hP.2.2
    have hon : (F.onC b P).length ≤ P.length := by
      unfold F.onC
      rw [List.length_map]
      exact List.length_filter_le ..
    have hll : (F.lostC t g P).length ≤ P.length := by
      unfold F.lostC
      split
      · simp
      · split
        · simp
        · rw [sortL_len]
          exact List.length_filter_le ..
    subst hlo
    refine Runs.go (cfg := C_sortN) L_sortN_ok mixed cuts_claw_r64 400 hb (claw_tr64 l l_t b t g P P P.length P.length N m i (F.onC b P) (F.onC b P).length j (F.lostC t g P) (F.lostC t g P).length d) ?_
    simp only [T.wp, T.wp_cond, Aft, Int.ofNat_eq_natCast, decide_eq_true_eq, and_true, true_and, Nat.zero_add, Bool.not_eq_true', decide_eq_false_iff_not]
    refine ⟨fun e => ⟨e, ⟨by omega, by omega⟩, by omega, by omega, hP, by omega⟩, fun e => ⟨⟨by omega, by omega⟩, by omega, by omega, by omega, hP, by omega⟩⟩
  -- the buckets
  have fin54 : F.wrg t = false → ¬ g < 0 → ∀ (P : List F.Co) (N : Nat) (m i : Int) (j : Int), F.okC P → ∀ (r d : Nat), (d : Int) + r = t + 1 → (∀ k : Nat, k < d → g < t - k) → Sym.Runs Try.prog b0 (cutAt Try.f4 54) (st_claw_54 l l_t b t g P P P.length P.length N m i (F.onC b P) (F.onC b P).length j (F.upTo P d) (F.upTo P d).length (d : Int)) (Sym.Ends Try.prog Try.f4 1 (.c (.bool true)) []) := by
    intro ht hg P N m i j hP r
    have h20 := hP.2.2
    have htt : 0 ≤ t ∧ t ≤ 200000 := by simp only [F.wrg, Bool.or_eq_false_iff, decide_eq_false_iff_not] at ht; omega
    have h0' : ∀ x ∈ P, 0 ≤ x.2.2 := fun x hx => (hP.2.1 x hx).1
    have hv : F.lostC t g P = F.sortL (P.filter (F.old t g)) := by unfold F.lostC; rw [ht, if_neg (by decide), if_neg hg]
    induction r with
    | zero =>
      intro d hd hb'
      have := hb' t.toNat (by omega)
      omega
    | succ r ih =>
      intro d hd hb'
      refine Runs.go (cfg := C_sortN) L_sortN_ok mixed cuts_claw 400 hb (claw_t54 l l_t b t g P P P.length P.length N m i (F.onC b P) (F.onC b P).length j (F.upTo P d) (F.upTo P d).length (d : Int)) ?_
      have e1 : (d : Int) < t + 1 := by omega
      have fin := fin64 P N m i j (F.upTo P d) (d : Int) hP
      simp only [T.wp, T.wp_cond, Aft, Int.ofNat_eq_natCast, decide_eq_true_eq, and_true, true_and, Nat.zero_add, Bool.not_eq_true', decide_eq_false_iff_not]
      refine ite_yes e1 ⟨by unfold Sym.i64ok; omega, ?_⟩
      by_cases c1 : t - d ≤ g
      · exact ite_yes c1 (fin (by rw [hv]; exact lost_end hP.1 h0' hb' (.inl c1)))
      refine ite_no c1 ?_
      by_cases c2 : (F.upTo P d).length = P.length
      · exact ite_yes (by omega) (fin (by rw [hv]; exact lost_end hP.1 h0' hb' (.inr c2)))
      refine ite_no (by omega) ?_
      have nx := ih (d + 1) (by omega) (fun k hk => by
        rcases Nat.lt_or_ge k d with q | q
        · exact hb' k q
        · have : k = d := by omega
          subst this
          omega)
      have inner : ∀ (q n : Nat) (lo : List F.Co), n + q = P.length → lo ++ (P.drop n).filter (fun x => decide (x.2.2 = (d : Int))) = F.upTo P (d + 1) → Sym.Runs Try.prog b0 (cutAt Try.f4 58) (st_claw_58 l l_t b t g P P P.length P.length N m i (F.onC b P) (F.onC b P).length j lo lo.length (d : Int) (n : Int)) (Sym.Ends Try.prog Try.f4 1 (.c (.bool true)) []) := by
        intro q
        induction q with
        | zero =>
          intro n lo hn hlo
          refine Runs.go (cfg := C_sortN) L_sortN_ok mixed cuts_claw 400 hb (claw_t58 l l_t b t g P P P.length P.length N m i (F.onC b P) (F.onC b P).length j lo lo.length (d : Int) (n : Int)) ?_
          rw [List.drop_of_length_le (by omega), List.filter_nil, List.append_nil] at hlo
          subst hlo
          simp only [T.wp, T.wp_cond, Aft, Int.ofNat_eq_natCast, decide_eq_true_eq, and_true, true_and, Nat.zero_add, Bool.not_eq_true', decide_eq_false_iff_not]
          exact ite_no (by omega) ⟨by unfold Sym.i64ok; omega, nx⟩
        | succ q iq =>
          intro n lo hn hlo
          refine Runs.go (cfg := C_sortN) L_sortN_ok mixed cuts_claw 400 hb (claw_t58 l l_t b t g P P P.length P.length N m i (F.onC b P) (F.onC b P).length j lo lo.length (d : Int) (n : Int)) ?_
          have hlt : n < P.length := by omega
          have hlt' : (n : Int) < (P.length : Int) := by omega
          have hup := upTo_len h0' (d + 1)
          have hll : lo.length ≤ P.length := by
            rw [← hlo, List.length_append] at hup
            omega
          have ed : P.drop n = P.getD n F.co0 :: P.drop (n + 1) := by
            rw [List.drop_eq_getElem_cons hlt, List.getD_eq_getElem?_getD, List.getElem?_eq_getElem hlt]
            rfl
          rw [ed] at hlo
          have n1 := iq (n + 1) lo (by omega)
          have n2 := iq (n + 1) (lo ++ [P.getD n F.co0]) (by omega)
          simp only [T.wp, T.wp_cond, Aft, Int.ofNat_eq_natCast, decide_eq_true_eq, and_true, true_and, Nat.zero_add, Bool.not_eq_true', decide_eq_false_iff_not, Nat.zero_add, Int.toNat_natCast, d0]
          generalize P.getD n F.co0 = x at *
          refine ite_yes hlt' ⟨⟨by omega, hlt'⟩, hlt, ?_⟩
          by_cases e : x.2.2 = (d : Int)
          · rw [List.filter_cons_of_pos (by simp [e])] at hlo
            have el : (lo ++ [x]).length = lo.length + 1 := by simp
            rw [el] at n2
            exact ite_yes e ⟨by omega, by unfold Sym.i64ok; omega, n2 (by rw [← hlo]; simp)⟩
          · rw [List.filter_cons_of_neg (by simp [e])] at hlo
            exact ite_no e ⟨by unfold Sym.i64ok; omega, n1 hlo⟩
      exact inner P.length 0 (F.upTo P d) (by omega) rfl
  have fin51 : ∀ (P : List F.Co) (N : Nat) (m i : Int) (j : Int), F.okC P → Sym.Runs Try.prog b0 (regAt Try.f4 51) (st_claw_r51 l l_t b t g P P P.length P.length N m i (F.onC b P) (F.onC b P).length j) (Sym.Ends Try.prog Try.f4 1 (.c (.bool true)) []) := by
    intro P N m i j hP
    refine Runs.go (cfg := C_sortN) L_sortN_ok mixed cuts_claw_r51 400 hb (claw_tr51 l l_t b t g P P P.length P.length N m i (F.onC b P) (F.onC b P).length j) ?_
    have ew : F.wrg t = !F.inb t 0 200000 := by
      unfold F.wrg F.inb
      by_cases q1 : t < 0 <;> by_cases q2 : 200000 < t <;> simp [q1, q2] <;> omega
    have f0 := fin64 P N m i j [] 0 hP
    simp only [T.wp, T.wp_cond, Aft, Int.ofNat_eq_natCast, decide_eq_true_eq, and_true, true_and, Nat.zero_add, Bool.not_eq_true', decide_eq_false_iff_not]
    cases c1 : F.inb t 0 200000 with
    | false => exact ite_no (by decide) (f0 (by unfold F.lostC; rw [ew, c1]; rfl))
    | true =>
      refine ite_yes rfl ?_
      have hw : F.wrg t = false := by rw [ew, c1]; rfl
      have htt : 0 ≤ t ∧ t ≤ 200000 := by have := hw; simp only [F.wrg, Bool.or_eq_false_iff, decide_eq_false_iff_not] at this; omega
      by_cases c2 : 0 ≤ g
      · exact ite_yes c2 ⟨by unfold Sym.i64ok; omega, fin54 hw (by omega) P N m i j hP (t + 1).toNat 0 (by omega) (fun k hk => by omega)⟩
      · exact ite_no c2 (f0 (by unfold F.lostC; rw [hw, if_neg (by decide), if_pos (by omega)]))
  have fin46 : ∀ (P : List F.Co) (N : Nat) (m i : Int), F.okC P → ∀ (r j : Nat) (on : List (List UInt8)), j + r = P.length → on ++ F.onC b (P.drop j) = F.onC b P → on.length ≤ j → Sym.Runs Try.prog b0 (cutAt Try.f4 46) (st_claw_46 l l_t b t g P P P.length P.length N m i on on.length (j : Int)) (Sym.Ends Try.prog Try.f4 1 (.c (.bool true)) []) := by
    intro P N m i hP r
    have h20 := hP.2.2
    induction r with
    | zero =>
      intro j on hj hon hl
      refine Runs.go (cfg := C_sortN) L_sortN_ok mixed cuts_claw 400 hb (claw_t46 l l_t b t g P P P.length P.length N m i on on.length (j : Int)) ?_
      rw [List.drop_of_length_le (by omega)] at hon
      have e : on = F.onC b P := by rw [← hon]; simp [F.onC]
      subst e
      simp only [T.wp, T.wp_cond, Aft, Int.ofNat_eq_natCast, decide_eq_true_eq, and_true, true_and, Nat.zero_add, Bool.not_eq_true', decide_eq_false_iff_not]
      exact ite_no (by omega) (fin51 P N m i (j : Int) hP)
    | succ r ih =>
      intro j on hj hon hl
      refine Runs.go (cfg := C_sortN) L_sortN_ok mixed cuts_claw 400 hb (claw_t46 l l_t b t g P P P.length P.length N m i on on.length (j : Int)) ?_
      have hlt : j < P.length := by omega
      have hlt' : (j : Int) < (P.length : Int) := by omega
      have ed : P.drop j = P.getD j F.co0 :: P.drop (j + 1) := by
        rw [List.drop_eq_getElem_cons hlt, List.getD_eq_getElem?_getD, List.getElem?_eq_getElem hlt]
        rfl
      rw [ed] at hon
      have n1 := ih (j + 1) on (by omega)
      have n2 := ih (j + 1) (on ++ [(P.getD j F.co0).1]) (by omega)
      simp only [T.wp, T.wp_cond, Aft, Int.ofNat_eq_natCast, decide_eq_true_eq, and_true, true_and, Nat.zero_add, Bool.not_eq_true', decide_eq_false_iff_not, Nat.zero_add, Int.toNat_natCast, d0]
      generalize P.getD j F.co0 = x at *
      refine ite_yes hlt' ⟨⟨by omega, hlt'⟩, hlt, ?_⟩
      unfold F.onC at hon n1 n2
      by_cases e : x.2.1 = b
      · rw [List.filter_cons_of_pos (by simp [e])] at hon
        have el : (on ++ [x.1]).length = on.length + 1 := by simp
        rw [el] at n2
        exact ite_yes e ⟨by omega, by unfold Sym.i64ok; omega, n2 (by rw [← hon]; simp) (by omega)⟩
      · rw [List.filter_cons_of_neg (by simp [e])] at hon
        exact ite_no e ⟨by unfold Sym.i64ok; omega, n1 hon (by omega)⟩
  have fin43 : ∀ (P L : List F.Co) (N : Nat) (m i : Int), F.IC P L → L.length ≤ 20 → Sym.Runs Try.prog b0 (regAt Try.f4 43) (st_claw_r43 l l_t b t g P L P.length L.length N m i) (Sym.Ends Try.prog Try.f4 1 (.c (.bool true)) []) := by
    intro P L N m i hI hL
    refine Runs.go (cfg := C_sortN) L_sortN_ok mixed cuts_claw_r43 400 hb (claw_tr43 l l_t b t g P L P.length L.length N m i) ?_
    simp only [T.wp, T.wp_cond, Aft, Int.ofNat_eq_natCast, decide_eq_true_eq, and_true, true_and, Nat.zero_add, Bool.not_eq_true', decide_eq_false_iff_not]
    refine ⟨⟨IC_dst hI, by omega⟩, ?_⟩
    rw [IC_sort hI, ← IC_len hI]
    exact fin46 P N m i ⟨hI.a, IC_t hI, by rw [IC_len hI]; exact hL⟩ P.length 0 [] (by omega) rfl (by simp)
  -- one call
  have step : ∀ (P L : List F.Co) (N : Nat) (i : Nat) (kd fq tm : Int) (cl : List UInt8), F.IC P L → L.length ≤ 20 → i ≤ 100 → Sym.i64ok fq →
      (∀ P' L' : List F.Co, F.IC P' L' → L'.length ≤ L.length + 1 → Sym.Runs Try.prog b0 (cutAt Try.f4 9) (st_claw_9 l l_t b t g P' L' P'.length L'.length N (N : Int) ((i : Int) + 1)) (Sym.Ends Try.prog Try.f4 1 (.c (.bool true)) [])) →
      Sym.Runs Try.prog b0 (regAt Try.f4 18) (st_claw_r18 l l_t b t g P L P.length L.length N (N : Int) (i : Int) kd fq tm cl (F.kdx L cl) (F.rcut kd 0 2)) (Sym.Ends Try.prog Try.f4 1 (.c (.bool true)) []) := by
    intro P L N i kd fq tm cl hI hL hi hfq nx
    refine Runs.go (cfg := C_sortN) L_sortN_ok mixed cuts_claw_r18 400 hb (claw_tr18 l l_t b t g P L P.length L.length N (N : Int) (i : Int) kd fq tm cl (F.kdx L cl) (F.rcut kd 0 2)) ?_
    have hPL := IC_len hI
    have i1 : Sym.i64ok ((i : Int) + 1) := by unfold Sym.i64ok; omega
    have same := nx P L hI (by omega)
    have hx := kdx_lt L cl
    have ew : F.wrg tm = !F.inb tm 0 200000 := by
      unfold F.wrg F.inb
      by_cases q1 : tm < 0 <;> by_cases q2 : 200000 < tm <;> simp [q1, q2] <;> omega
    simp only [T.wp, T.wp_cond, Aft, Int.ofNat_eq_natCast, decide_eq_true_eq, and_true, true_and, Nat.zero_add, Bool.not_eq_true', decide_eq_false_iff_not, Nat.zero_add, d0]
    by_cases k0 : F.rcut kd 0 2 = 0
    · refine ite_yes k0 ⟨⟨hI.a, by omega, hfq⟩, ?_⟩
      have bad : ∀ v : Int, v ≠ 0 → F.tunE P cl fq tm = v → F.tunL P cl fq tm = P := fun v hv e => by unfold F.tunL; rw [if_neg (by rw [e]; exact hv)]
      cases c1 : F.named cl with
      | false =>
        have eE : F.tunE P cl fq tm = 6 := by unfold F.tunE; rw [c1]; rfl
        rw [bad 6 (by decide) eE]
        exact ite_yes rfl (ite_no (fun q => q eE) ⟨i1, same⟩)
      | true =>
      refine ite_no (by decide) ?_
      cases c2 : F.vfr fq with
      | false =>
        have eE : F.tunE P cl fq tm = 4 := by unfold F.tunE; rw [c1, c2]; rfl
        rw [bad 4 (by decide) eE]
        exact ite_yes rfl (ite_no (fun q => q eE) ⟨i1, same⟩)
      | true =>
      refine ite_no (by decide) ?_
      cases c3 : F.inb tm 0 200000 with
      | false =>
        have eE : F.tunE P cl fq tm = 4 := by unfold F.tunE; rw [c1, c2, ew, c3]; rfl
        rw [bad 4 (by decide) eE]
        exact ite_yes rfl (ite_no (fun q => q eE) ⟨i1, same⟩)
      | true =>
      refine ite_no (by decide) ?_
      have htm : 0 ≤ tm ∧ tm ≤ 200000 := by
        have := c3
        unfold F.inb at this
        simp only [Bool.and_eq_true, decide_eq_true_eq] at this
        exact this
      have e0 : F.tunE P cl fq tm = (if F.hasC P cl then (if tm < (F.atC P cl).2.2 then 12 else 0) else (if P.length = 24 then 9 else 0)) := by
        unfold F.tunE
        rw [c1, c2, ew, c3]
        rfl
      by_cases hk : F.kdx L cl < 0
      · have hno := kdx_no hI hk
        rw [hno, if_neg (by decide), if_neg (by omega)] at e0
        have eL : F.tunL P cl fq tm = P.take (F.posC P cl) ++ [(cl, fq, tm)] ++ P.drop (F.posC P cl) := by unfold F.tunL; rw [if_pos e0, hno]; rfl
        have en : (L ++ [(cl, fq, tm)]).length = L.length + 1 := by simp
        have nn := nx _ _ (IC_ins hI hk (y := (cl, fq, tm)) rfl htm) (by omega)
        rw [en] at nn
        rw [eL]
        exact ite_yes hk (ite_no (by omega) (ite_no (by omega) (ite_no (by omega) ⟨by omega, ite_no (fun q => q e0) ⟨i1, nn⟩⟩)))
      · obtain ⟨q1, q2, q3, q4, q5, q6, q7⟩ := kdx_yes hI hk
        have ea : L.getD (Int.toNat (F.kdx L cl)) F.co0 = F.atC P cl := q5.symm
        have q3' : Int.toNat (F.kdx L cl) < L.length := q3
        rw [q1, if_pos rfl] at e0
        rw [ea]
        refine ite_no hk (ite_yes (by omega) ⟨⟨by omega, hx⟩, q3', ?_⟩)
        by_cases c5 : tm < (F.atC P cl).2.2
        · rw [if_pos c5] at e0
          rw [bad 12 (by decide) e0]
          exact ite_yes c5 (ite_no (fun q => q e0) ⟨i1, same⟩)
        · rw [if_neg c5] at e0
          have eL : F.tunL P cl fq tm = P.set (F.posC P cl) (cl, fq, tm) := by unfold F.tunL; rw [if_pos e0, q1]; rfl
          have en : (L.set (F.kdxN L cl) (cl, fq, tm)).length = L.length := List.length_set
          have nn := nx _ _ (IC_set hI hk (y := (cl, fq, tm)) rfl htm) (by omega)
          rw [en] at nn
          rw [eL]
          exact ite_no c5 (ite_yes (by omega) ⟨⟨by omega, hx⟩, q3', ite_no (fun q => q e0) ⟨i1, nn⟩⟩)
    refine ite_no k0 ?_
    by_cases k1 : F.rcut kd 0 2 = 1
    · refine ite_yes k1 ⟨⟨hI.a, by omega⟩, ?_⟩
      have bad : ∀ v : Int, v ≠ 0 → F.heaE P cl fq tm = v → F.heaL P cl fq tm = P := fun v hv e => by unfold F.heaL; rw [if_neg (by rw [e]; exact hv)]
      by_cases hk : F.kdx L cl < 0
      · have hno := kdx_no hI hk
        have eE : F.heaE P cl fq tm = 8 := by unfold F.heaE; rw [hno]; rfl
        rw [bad 8 (by decide) eE]
        exact ite_yes hk (ite_no (fun q => q eE) ⟨i1, same⟩)
      · obtain ⟨q1, q2, q3, q4, q5, q6, q7⟩ := kdx_yes hI hk
        have ea : L.getD (Int.toNat (F.kdx L cl)) F.co0 = F.atC P cl := q5.symm
        have q3' : Int.toNat (F.kdx L cl) < L.length := q3
        have hlast := hI.t _ (getD_memC q3')
        rw [ea] at hlast
        have e0 : F.heaE P cl fq tm = (if (F.atC P cl).2.1 = fq then (if tm < (F.atC P cl).2.2 then 12 else (if 200000 < tm then 12 else 0)) else 11) := by unfold F.heaE; rw [q1, if_pos rfl]
        rw [ea]
        refine ite_no hk ⟨⟨by omega, hx⟩, q3', ?_⟩
        by_cases c2 : (F.atC P cl).2.1 = fq
        · rw [if_pos c2] at e0
          refine ite_no (fun q => q c2) ⟨⟨by omega, hx⟩, q3', ?_⟩
          cases c3 : F.inb tm (F.atC P cl).2.2 200000 with
          | false =>
            have eE : F.heaE P cl fq tm = 12 := by
              unfold F.inb at c3
              rw [e0]
              simp only [Bool.and_eq_false_iff, decide_eq_false_iff_not] at c3
              split
              · rfl
              · rw [if_pos (by omega)]
            rw [bad 12 (by decide) eE]
            exact ite_yes rfl (ite_no (fun q => q eE) ⟨i1, same⟩)
          | true =>
            unfold F.inb at c3
            simp only [Bool.and_eq_true, decide_eq_true_eq] at c3
            have eE : F.heaE P cl fq tm = 0 := by rw [e0, if_neg (by omega), if_neg (by omega)]
            have eL : F.heaL P cl fq tm = P.set (F.posC P cl) ((F.atC P cl).1, (F.atC P cl).2.1, tm) := by unfold F.heaL; rw [if_pos eE]
            have en : (L.set (F.kdxN L cl) ((F.atC P cl).1, (F.atC P cl).2.1, tm)).length = L.length := List.length_set
            have nn := nx _ _ (IC_set hI hk (y := ((F.atC P cl).1, (F.atC P cl).2.1, tm)) q6 ⟨by simp only; omega, c3.2⟩) (by omega)
            rw [en] at nn
            rw [eL]
            exact ite_no (by decide) ⟨⟨by omega, hx⟩, q3', ite_no (fun q => q eE) ⟨i1, nn⟩⟩
        · rw [if_neg c2] at e0
          rw [bad 11 (by decide) e0]
          exact ite_yes c2 (ite_no (fun q => q e0) ⟨i1, same⟩)
    refine ite_no k1 ⟨⟨hI.a, by omega⟩, ?_⟩
    by_cases hk : F.kdx L cl < 0
    · have hno := kdx_no hI hk
      have eE : F.levE P cl = 8 := by unfold F.levE; rw [hno]; rfl
      have eL : F.levL P cl = P := by unfold F.levL; rw [hno]; rfl
      rw [eL]
      exact ite_yes hk (ite_no (fun q => q eE) ⟨i1, same⟩)
    · obtain ⟨q1, q2, q3, q4, q5, q6, q7⟩ := kdx_yes hI hk
      have eE : F.levE P cl = 0 := by unfold F.levE; rw [q1]; rfl
      have eL : F.levL P cl = P.eraseIdx (F.posC P cl) := by unfold F.levL; rw [q1]; rfl
      have en : (L.eraseIdx (F.kdxN L cl)).length = L.length - 1 := List.length_eraseIdx_of_lt q3
      have nn := nx _ _ (IC_erase hI hk) (by omega)
      rw [en] at nn
      rw [eL]
      exact ite_no hk ⟨by unfold Sym.i64ok; omega, ⟨by omega, hx⟩, ite_no (fun q => q eE) ⟨i1, nn⟩⟩
  -- the calls
  have calls : ∀ (N : Nat), N ≤ l.length → N ≤ 20 → ∀ (r i : Nat) (P L : List F.Co), i + r = N → F.IC P L → L.length ≤ i → Sym.Runs Try.prog b0 (cutAt Try.f4 9) (st_claw_9 l l_t b t g P L P.length L.length N (N : Int) (i : Int)) (Sym.Ends Try.prog Try.f4 1 (.c (.bool true)) []) := by
    intro N hN h20 r
    induction r with
    | zero =>
      intro i P L hi hI hL
      refine Runs.go (cfg := C_sortN) L_sortN_ok mixed cuts_claw 400 hb (claw_t9 l l_t b t g P L P.length L.length N (N : Int) (i : Int)) ?_
      simp only [T.wp, T.wp_cond, Aft, Int.ofNat_eq_natCast, decide_eq_true_eq, and_true, true_and, Nat.zero_add, Bool.not_eq_true', decide_eq_false_iff_not]
      exact ite_no (by omega) (fin43 P L N (N : Int) (i : Int) hI (by omega))
    | succ r ih =>
      intro i P L hi hI hL
      refine Runs.go (cfg := C_sortN) L_sortN_ok mixed cuts_claw 400 hb (claw_t9 l l_t b t g P L P.length L.length N (N : Int) (i : Int)) ?_
      have nx : ∀ P' L' : List F.Co, F.IC P' L' → L'.length ≤ L.length + 1 → Sym.Runs Try.prog b0 (cutAt Try.f4 9) (st_claw_9 l l_t b t g P' L' P'.length L'.length N (N : Int) ((i : Int) + 1)) (Sym.Ends Try.prog Try.f4 1 (.c (.bool true)) []) := by
        intro P' L' h1 h2
        have := ih (i + 1) P' L' (by omega) h1 (by omega)
        rw [show ((i + 1 : Nat) : Int) = (i : Int) + 1 by omega] at this
        exact this
      have hlt' : (i : Int) < (N : Int) := by omega
      have hk := h0 (l.getD i (cod 7).d) (getD_memA _ (by omega))
      simp only [T.wp, T.wp_cond, Aft, Int.ofNat_eq_natCast, decide_eq_true_eq, and_true, true_and, Nat.zero_add, Bool.not_eq_true', decide_eq_false_iff_not, Nat.zero_add, Int.toNat_natCast]
      generalize l.getD i (cod 7).d = x at *
      obtain ⟨kd, fq, tm, cl⟩ := x
      exact ite_yes hlt' ⟨⟨by omega, hlt'⟩, by omega, by omega, ⟨by decide, by decide, by decide, hk.1⟩, step P L N i kd fq tm cl hI (by omega) (by omega) hk.2 nx⟩
  refine Runs.go (cfg := C_sortN) L_sortN_ok mixed cuts_claw 400 hb (claw_t0 l l_t b t g ) ?_
  simp only [T.wp, T.wp_cond, Aft, Int.ofNat_eq_natCast, decide_eq_true_eq, and_true, true_and, Nat.zero_add, Bool.not_eq_true', decide_eq_false_iff_not]
  refine ⟨by unfold Sym.i64ok; omega, by unfold Sym.i64ok; omega, ?_⟩
  refine Runs.made 1 0 5 56 rfl rfl (st' := st_claw_r6b l l_t b t g) rfl ?_
  refine Runs.go (cfg := C_sortN) L_sortN_ok mixed cuts_claw_r6b 400 hb (claw_tr6b l l_t b t g ) ?_
  simp only [T.wp, T.wp_cond, Aft, Int.ofNat_eq_natCast, decide_eq_true_eq, and_true, true_and, Nat.zero_add, Bool.not_eq_true', decide_eq_false_iff_not]
  have h9 := calls (Int.toNat (min (Int.ofNat (List.length l)) 20)) (by simp only [Int.ofNat_eq_natCast]; omega) (by simp only [Int.ofNat_eq_natCast]; omega) _ 0 [] [] (Nat.zero_add _) IC_nil (Nat.le_refl _)
  exact ⟨⟨by omega, by omega⟩, h9⟩



noncomputable def s_claw : Summ cod := fun args H => match args, H with
  | [.c (.slc 0 l_i l_n l_t), .c (.int .i64 b), .c (.int .i64 t), .c (.int .i64 g)], [o0] => (match o0.asInp 7 with | some l => .need ((l_i = 0 ∧ l_n = List.length l) ∧ (∀ x ∈ l, Sym.i64ok x.1 ∧ Sym.i64ok x.2.1)) (.ret (.c (.bool true), [])) | none => .fail)
  | _, _ => .fail


theorem claw_sound : Sound Try.prog cod 4 s_claw := sound_runs (cfg := C_sortN) L_sortN_ok mixed Try.func4 rfl rfl _ fun args H r news hg b0 hb => by
  unfold s_claw at hg
  split at hg
  · skip
    split at hg
    · rename_i l hx0
      cases asInp_spec hx0
      simp only [T.gives, T.wp, Prod.mk.injEq] at hg
      obtain ⟨⟨⟨rfl, rfl⟩, q1⟩, rfl, rfl⟩ := hg
      exact claw_run _ _ _ _ _ b0 hb (by assumption)
    · exact hg.elim
  · exact hg.elim

noncomputable def L_claw : Sums cod := (4, .p s_claw) :: L_sortN
noncomputable def C_claw : Cfg cod := mkC L_claw

theorem L_claw_ok : Snd Try.prog cod L_claw := .cons claw_sound L_sortN_ok


end
end Go.Proofs.Ytkfkfihjdohjfaa
