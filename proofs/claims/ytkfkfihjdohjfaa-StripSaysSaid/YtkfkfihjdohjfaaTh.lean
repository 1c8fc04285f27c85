/- Part of a claim: lemmas on the way to its theorem; each states its own conditions. -/
import Derived.Test.YtkfkfihjdohjfaaTg
import Derived.Test.YtkfkfihjdohjfaaTn
namespace Go.Proofs.Ytkfkfihjdohjfaa
open Sym Go.RowKit
noncomputable section
set_option maxRecDepth 100000
set_option maxHeartbeats 4000000


noncomputable def L_smvK : Sums cod := (14, .k s_smvK) :: L_ixB
noncomputable def C_smvK : Cfg cod := mkC L_smvK

theorem L_smvK_ok : Snd Try.prog cod L_smvK := .consK smvK_sound L_ixB_ok



def cuts_slaw : Cuts := [(100006, [7, 2, 1, 0], 9), (8, [8, 7, 33, 2, 1, 34, 35], 4), (19, [11, 72, 8, 7, 33, 2, 1, 34, 35, 12, 13, 10, 73, 74, 14], 6), (100024, [8, 7, 33, 2, 1, 34, 35, 11, 14, 12, 13, 10], 6), (100056, [2, 1, 8, 7], 4), (58, [19, 20, 2, 192, 1, 8, 7, 193, 194], 5)]
def cuts_slaw_r6 : Cuts := [(8, [8, 7, 33, 2, 1, 34, 35], 4), (19, [11, 72, 8, 7, 33, 2, 1, 34, 35, 12, 13, 10, 73, 74, 14], 6), (100024, [8, 7, 33, 2, 1, 34, 35, 11, 14, 12, 13, 10], 6), (100056, [2, 1, 8, 7], 4), (58, [19, 20, 2, 192, 1, 8, 7, 193, 194], 5)]
def cuts_slaw_r6b : Cuts := [(8, [8, 7, 33, 2, 1, 34, 35], 4), (19, [11, 72, 8, 7, 33, 2, 1, 34, 35, 12, 13, 10, 73, 74, 14], 6), (100024, [8, 7, 33, 2, 1, 34, 35, 11, 14, 12, 13, 10], 6), (100056, [2, 1, 8, 7], 4), (58, [19, 20, 2, 192, 1, 8, 7, 193, 194], 5)]
def cuts_slaw_r24 : Cuts := [(100006, [7, 2, 1, 0], 9), (8, [8, 7, 33, 2, 1, 34, 35], 4), (19, [11, 72, 8, 7, 33, 2, 1, 34, 35, 12, 13, 10, 73, 74, 14], 6), (100056, [2, 1, 8, 7], 4), (58, [19, 20, 2, 192, 1, 8, 7, 193, 194], 5)]
def cuts_slaw_r56 : Cuts := [(100006, [7, 2, 1, 0], 9), (8, [8, 7, 33, 2, 1, 34, 35], 4), (19, [11, 72, 8, 7, 33, 2, 1, 34, 35, 12, 13, 10, 73, 74, 14], 6), (100024, [8, 7, 33, 2, 1, 34, 35, 11, 14, 12, 13, 10], 6), (58, [19, 20, 2, 192, 1, 8, 7, 193, 194], 5)]

theorem slaw_t0 (l : List (Int × List UInt8 × List UInt8 × Int × Int × Int)) (l_t : Bool) (b : Int) (c : List UInt8) : symF C_smvK cuts_slaw Try.f3.results.toList 1 400 [.code (codeOf Try.f3)] ⟨argsS Try.f3 [.c (.slc 0 0 (List.length l) l_t), .c (.int .i64 b), .c (.str c)], ([.inp 6 l] : Heap cod)⟩ =
.need (True) (
.ret (.cut (regAt Try.f3 6) ⟨tmG 211 [(0, .c (.slc 0 0 (List.length l) l_t)), (0, .c (.int .i64 b)), (0, .c (.str c)), (4, .c (.ptr 1 0 0))], [.inp 6 l, .blk [.nil] 71]⟩)) := by kernel_rfl


noncomputable def st_slaw_r6 (l : List (Int × List UInt8 × List UInt8 × Int × Int × Int)) (l_t : Bool) (b : Int) (c : List UInt8)  : St cod := ⟨tmG 211 [(0, .c (.slc 0 0 (List.length l) l_t)), (0, .c (.int .i64 b)), (0, .c (.str c)), (4, .c (.ptr 1 0 0))], [.inp 6 l, .blk [.nil] 71]⟩


noncomputable def st_slaw_r6b (l : List (Int × List UInt8 × List UInt8 × Int × Int × Int)) (l_t : Bool) (b : Int) (c : List UInt8)  : St cod := ⟨tmG 211 [(0, .c (.slc 0 0 (List.length l) l_t)), (0, .c (.int .i64 b)), (0, .c (.str c)), (4, .c (.ptr 1 0 0))], ([.inp 6 l, .blk [.own 2 0] 71, .own 1 [] 26] : Heap cod)⟩


theorem slaw_tr6b (l : List (Int × List UInt8 × List UInt8 × Int × Int × Int)) (l_t : Bool) (b : Int) (c : List UInt8)  : symF C_smvK cuts_slaw_r6b Try.f3.results.toList 1 400 (regAt Try.f3 6) (st_slaw_r6b l l_t b c ) =
.need (((0 : Int) ≤ min (Int.ofNat (List.length l)) 20 ∧ min (Int.ofNat (List.length l)) 20 ≤ Int.ofNat (List.length l))) (
.ret (.cut (cutAt Try.f3 8) ⟨tmG 183 [(1, .c (.int .i64 b)), (0, .c (.str c)), (4, .c (.ptr 1 0 0)), (0, .c (.own 3 0)), (24, .c (.slc 0 0 (Int.toNat (min (Int.ofNat (List.length l)) 20)) false)), (0, .c (.int .i64 (Int.ofNat (Int.toNat (min (Int.ofNat (List.length l)) 20))))), (0, .c (.int .i64 0))], [.inp 6 l, .blk [.own 2 0] 71, .own 1 [] 26, .own 1 [] 26]⟩)) := by kernel_rfl


noncomputable def st_slaw_8 (l : List (Int × List UInt8 × List UInt8 × Int × Int × Int)) (l_t : Bool) (b : Int) (c : List UInt8) (P L : List (List UInt8 × List UInt8 × Int × Int × Int)) (p q N : Nat) (m i : Int) : St cod := ⟨tmG 183 [(1, .c (.int .i64 b)), (0, .c (.str c)), (4, .c (.ptr 1 0 0)), (0, .c (.own 3 q)), (24, .c (.slc 0 0 N false)), (0, .c (.int .i64 m)), (0, .c (.int .i64 i))], ([.inp 6 l, .blk [.own 2 p] 71, .own 1 P 26, .own 1 L 26] : Heap cod)⟩


theorem slaw_t8 (l : List (Int × List UInt8 × List UInt8 × Int × Int × Int)) (l_t : Bool) (b : Int) (c : List UInt8) (P L : List (List UInt8 × List UInt8 × Int × Int × Int)) (p q N : Nat) (m i : Int) : symF C_smvK cuts_slaw Try.f3.results.toList 1 400 (cutAt Try.f3 8) (st_slaw_8 l l_t b c P L p q N m i) =
 cond (decide (i < m)) (
 .need (((0 : Int) ≤ i ∧ i < Int.ofNat N)) (
 .need (0 + Int.toNat i < List.length l) (
 .need (((0 = 0 ∧ q = List.length L) ∧ List.length L ≤ 1000000)) (
 cond (!F.named (List.getD l (0 + Int.toNat i) (cod 6).d).2.1) (
  .ret (.cut (cutAt Try.f3 19) ⟨tmG 144 [(1, .c (.int .i64 b)), (0, .c (.str c)), (4, .c (.ptr 1 0 0)), (0, .c (.own 3 (q))), (1, .c (.ptr 4 0 0)), (0, .c (.ptr 5 0 0)), (0, .c (.int .i64 (F.idx L (List.getD l (0 + Int.toNat i) (cod 6).d).2.1))), (0, .c (.int .i64 6)), (0, .c (.int .i64 0)), (18, .c (.slc 0 0 (N) false)), (0, .c (.int .i64 m)), (0, .c (.int .i64 i)), (36, .c (.own 3 (q))), (0, .c (.int .i64 (Int.ofNat q))), (0, .c (.int .i64 0))], [.inp 6 l, .blk [.own 2 (p)] 71, .own 1 P 26, .own 1 L 26, .blk [.int .i64 ((List.getD l (0 + Int.toNat i) (cod 6).d).1), .str ((List.getD l (0 + Int.toNat i) (cod 6).d).2.1), .str ((List.getD l (0 + Int.toNat i) (cod 6).d).2.2.1), .int .i64 ((List.getD l (0 + Int.toNat i) (cod 6).d).2.2.2.1), .int .i64 ((List.getD l (0 + Int.toNat i) (cod 6).d).2.2.2.2.1), .int .i64 ((List.getD l (0 + Int.toNat i) (cod 6).d).2.2.2.2.2)] 31, .blk [.str ((List.getD l (0 + Int.toNat i) (cod 6).d).2.1), .str ((List.getD l (0 + Int.toNat i) (cod 6).d).2.2.1), .int .i64 ((List.getD l (0 + Int.toNat i) (cod 6).d).2.2.2.1), .int .i64 ((List.getD l (0 + Int.toNat i) (cod 6).d).2.2.2.2.1), .int .i64 ((List.getD l (0 + Int.toNat i) (cod 6).d).2.2.2.2.2)] 26]⟩)) (
  cond (!F.named (List.getD l (0 + Int.toNat i) (cod 6).d).2.2.1) (
   .ret (.cut (cutAt Try.f3 19) ⟨tmG 144 [(1, .c (.int .i64 b)), (0, .c (.str c)), (4, .c (.ptr 1 0 0)), (0, .c (.own 3 (q))), (1, .c (.ptr 4 0 0)), (0, .c (.ptr 5 0 0)), (0, .c (.int .i64 (F.idx L (List.getD l (0 + Int.toNat i) (cod 6).d).2.1))), (0, .c (.int .i64 6)), (0, .c (.int .i64 0)), (18, .c (.slc 0 0 (N) false)), (0, .c (.int .i64 m)), (0, .c (.int .i64 i)), (36, .c (.own 3 (q))), (0, .c (.int .i64 (Int.ofNat q))), (0, .c (.int .i64 0))], [.inp 6 l, .blk [.own 2 (p)] 71, .own 1 P 26, .own 1 L 26, .blk [.int .i64 ((List.getD l (0 + Int.toNat i) (cod 6).d).1), .str ((List.getD l (0 + Int.toNat i) (cod 6).d).2.1), .str ((List.getD l (0 + Int.toNat i) (cod 6).d).2.2.1), .int .i64 ((List.getD l (0 + Int.toNat i) (cod 6).d).2.2.2.1), .int .i64 ((List.getD l (0 + Int.toNat i) (cod 6).d).2.2.2.2.1), .int .i64 ((List.getD l (0 + Int.toNat i) (cod 6).d).2.2.2.2.2)] 31, .blk [.str ((List.getD l (0 + Int.toNat i) (cod 6).d).2.1), .str ((List.getD l (0 + Int.toNat i) (cod 6).d).2.2.1), .int .i64 ((List.getD l (0 + Int.toNat i) (cod 6).d).2.2.2.1), .int .i64 ((List.getD l (0 + Int.toNat i) (cod 6).d).2.2.2.2.1), .int .i64 ((List.getD l (0 + Int.toNat i) (cod 6).d).2.2.2.2.2)] 26]⟩)) (
   cond (!F.inb (List.getD l (0 + Int.toNat i) (cod 6).d).2.2.2.1 0 200000) (
    .ret (.cut (cutAt Try.f3 19) ⟨tmG 144 [(1, .c (.int .i64 b)), (0, .c (.str c)), (4, .c (.ptr 1 0 0)), (0, .c (.own 3 (q))), (1, .c (.ptr 4 0 0)), (0, .c (.ptr 5 0 0)), (0, .c (.int .i64 (F.idx L (List.getD l (0 + Int.toNat i) (cod 6).d).2.1))), (0, .c (.int .i64 4)), (0, .c (.int .i64 0)), (18, .c (.slc 0 0 (N) false)), (0, .c (.int .i64 m)), (0, .c (.int .i64 i)), (36, .c (.own 3 (q))), (0, .c (.int .i64 (Int.ofNat q))), (0, .c (.int .i64 0))], [.inp 6 l, .blk [.own 2 (p)] 71, .own 1 P 26, .own 1 L 26, .blk [.int .i64 ((List.getD l (0 + Int.toNat i) (cod 6).d).1), .str ((List.getD l (0 + Int.toNat i) (cod 6).d).2.1), .str ((List.getD l (0 + Int.toNat i) (cod 6).d).2.2.1), .int .i64 ((List.getD l (0 + Int.toNat i) (cod 6).d).2.2.2.1), .int .i64 ((List.getD l (0 + Int.toNat i) (cod 6).d).2.2.2.2.1), .int .i64 ((List.getD l (0 + Int.toNat i) (cod 6).d).2.2.2.2.2)] 31, .blk [.str ((List.getD l (0 + Int.toNat i) (cod 6).d).2.1), .str ((List.getD l (0 + Int.toNat i) (cod 6).d).2.2.1), .int .i64 ((List.getD l (0 + Int.toNat i) (cod 6).d).2.2.2.1), .int .i64 ((List.getD l (0 + Int.toNat i) (cod 6).d).2.2.2.2.1), .int .i64 ((List.getD l (0 + Int.toNat i) (cod 6).d).2.2.2.2.2)] 26]⟩)) (
    cond (!F.inb (List.getD l (0 + Int.toNat i) (cod 6).d).2.2.2.2.1 0 60000) (
     .ret (.cut (cutAt Try.f3 19) ⟨tmG 144 [(1, .c (.int .i64 b)), (0, .c (.str c)), (4, .c (.ptr 1 0 0)), (0, .c (.own 3 (q))), (1, .c (.ptr 4 0 0)), (0, .c (.ptr 5 0 0)), (0, .c (.int .i64 (F.idx L (List.getD l (0 + Int.toNat i) (cod 6).d).2.1))), (0, .c (.int .i64 4)), (0, .c (.int .i64 0)), (18, .c (.slc 0 0 (N) false)), (0, .c (.int .i64 m)), (0, .c (.int .i64 i)), (36, .c (.own 3 (q))), (0, .c (.int .i64 (Int.ofNat q))), (0, .c (.int .i64 0))], [.inp 6 l, .blk [.own 2 (p)] 71, .own 1 P 26, .own 1 L 26, .blk [.int .i64 ((List.getD l (0 + Int.toNat i) (cod 6).d).1), .str ((List.getD l (0 + Int.toNat i) (cod 6).d).2.1), .str ((List.getD l (0 + Int.toNat i) (cod 6).d).2.2.1), .int .i64 ((List.getD l (0 + Int.toNat i) (cod 6).d).2.2.2.1), .int .i64 ((List.getD l (0 + Int.toNat i) (cod 6).d).2.2.2.2.1), .int .i64 ((List.getD l (0 + Int.toNat i) (cod 6).d).2.2.2.2.2)] 31, .blk [.str ((List.getD l (0 + Int.toNat i) (cod 6).d).2.1), .str ((List.getD l (0 + Int.toNat i) (cod 6).d).2.2.1), .int .i64 ((List.getD l (0 + Int.toNat i) (cod 6).d).2.2.2.1), .int .i64 ((List.getD l (0 + Int.toNat i) (cod 6).d).2.2.2.2.1), .int .i64 ((List.getD l (0 + Int.toNat i) (cod 6).d).2.2.2.2.2)] 26]⟩)) (
     cond (!F.inb (List.getD l (0 + Int.toNat i) (cod 6).d).2.2.2.2.2 0 3) (
      .ret (.cut (cutAt Try.f3 19) ⟨tmG 144 [(1, .c (.int .i64 b)), (0, .c (.str c)), (4, .c (.ptr 1 0 0)), (0, .c (.own 3 (q))), (1, .c (.ptr 4 0 0)), (0, .c (.ptr 5 0 0)), (0, .c (.int .i64 (F.idx L (List.getD l (0 + Int.toNat i) (cod 6).d).2.1))), (0, .c (.int .i64 4)), (0, .c (.int .i64 0)), (18, .c (.slc 0 0 (N) false)), (0, .c (.int .i64 m)), (0, .c (.int .i64 i)), (36, .c (.own 3 (q))), (0, .c (.int .i64 (Int.ofNat q))), (0, .c (.int .i64 0))], [.inp 6 l, .blk [.own 2 (p)] 71, .own 1 P 26, .own 1 L 26, .blk [.int .i64 ((List.getD l (0 + Int.toNat i) (cod 6).d).1), .str ((List.getD l (0 + Int.toNat i) (cod 6).d).2.1), .str ((List.getD l (0 + Int.toNat i) (cod 6).d).2.2.1), .int .i64 ((List.getD l (0 + Int.toNat i) (cod 6).d).2.2.2.1), .int .i64 ((List.getD l (0 + Int.toNat i) (cod 6).d).2.2.2.2.1), .int .i64 ((List.getD l (0 + Int.toNat i) (cod 6).d).2.2.2.2.2)] 31, .blk [.str ((List.getD l (0 + Int.toNat i) (cod 6).d).2.1), .str ((List.getD l (0 + Int.toNat i) (cod 6).d).2.2.1), .int .i64 ((List.getD l (0 + Int.toNat i) (cod 6).d).2.2.2.1), .int .i64 ((List.getD l (0 + Int.toNat i) (cod 6).d).2.2.2.2.1), .int .i64 ((List.getD l (0 + Int.toNat i) (cod 6).d).2.2.2.2.2)] 26]⟩)) (
      .ret (.cut (cutAt Try.f3 19) ⟨tmG 144 [(1, .c (.int .i64 b)), (0, .c (.str c)), (4, .c (.ptr 1 0 0)), (0, .c (.own 3 (q))), (1, .c (.ptr 4 0 0)), (0, .c (.ptr 5 0 0)), (0, .c (.int .i64 (F.idx L (List.getD l (0 + Int.toNat i) (cod 6).d).2.1))), (0, .c (.int .i64 0)), (0, .c (.int .i64 0)), (18, .c (.slc 0 0 (N) false)), (0, .c (.int .i64 m)), (0, .c (.int .i64 i)), (36, .c (.own 3 (q))), (0, .c (.int .i64 (Int.ofNat q))), (0, .c (.int .i64 0))], [.inp 6 l, .blk [.own 2 (p)] 71, .own 1 P 26, .own 1 L 26, .blk [.int .i64 ((List.getD l (0 + Int.toNat i) (cod 6).d).1), .str ((List.getD l (0 + Int.toNat i) (cod 6).d).2.1), .str ((List.getD l (0 + Int.toNat i) (cod 6).d).2.2.1), .int .i64 ((List.getD l (0 + Int.toNat i) (cod 6).d).2.2.2.1), .int .i64 ((List.getD l (0 + Int.toNat i) (cod 6).d).2.2.2.2.1), .int .i64 ((List.getD l (0 + Int.toNat i) (cod 6).d).2.2.2.2.2)] 31, .blk [.str ((List.getD l (0 + Int.toNat i) (cod 6).d).2.1), .str ((List.getD l (0 + Int.toNat i) (cod 6).d).2.2.1), .int .i64 ((List.getD l (0 + Int.toNat i) (cod 6).d).2.2.2.1), .int .i64 ((List.getD l (0 + Int.toNat i) (cod 6).d).2.2.2.2.1), .int .i64 ((List.getD l (0 + Int.toNat i) (cod 6).d).2.2.2.2.2)] 26]⟩)))))))))) (
 .ret (.cut (regAt Try.f3 56) ⟨tmG 210 [(1, .c (.int .i64 b)), (0, .c (.str c)), (4, .c (.ptr 1 0 0)), (0, .c (.own 3 (q)))], [.inp 6 l, .blk [.own 2 (p)] 71, .own 1 P 26, .own 1 L 26]⟩)) := by kernel_rfl


noncomputable def st_slaw_19 (l : List (Int × List UInt8 × List UInt8 × Int × Int × Int)) (l_t : Bool) (b : Int) (c : List UInt8) (P L : List (List UInt8 × List UInt8 × Int × Int × Int)) (p q N : Nat) (m i : Int) (kd : Int) (s1 s2 : List UInt8) (s3 s4 s5 k v n : Int) (j : Int) : St cod := ⟨tmG 144 [(1, .c (.int .i64 b)), (0, .c (.str c)), (4, .c (.ptr 1 0 0)), (0, .c (.own 3 (q))), (1, .c (.ptr 4 0 0)), (0, .c (.ptr 5 0 0)), (0, .c (.int .i64 k)), (0, .c (.int .i64 v)), (0, .c (.int .i64 n)), (18, .c (.slc 0 0 (N) false)), (0, .c (.int .i64 m)), (0, .c (.int .i64 i)), (36, .c (.own 3 (q))), (0, .c (.int .i64 (Int.ofNat q))), (0, .c (.int .i64 j))], ([.inp 6 l, .blk [.own 2 p] 71, .own 1 P 26, .own 1 L 26, .blk [.int .i64 kd, .str s1, .str s2, .int .i64 s3, .int .i64 s4, .int .i64 s5] 31, .blk [.str s1, .str s2, .int .i64 s3, .int .i64 s4, .int .i64 s5] 26] : Heap cod)⟩


theorem slaw_t19 (l : List (Int × List UInt8 × List UInt8 × Int × Int × Int)) (l_t : Bool) (b : Int) (c : List UInt8) (P L : List (List UInt8 × List UInt8 × Int × Int × Int)) (p q N : Nat) (m i : Int) (kd : Int) (s1 s2 : List UInt8) (s3 s4 s5 k v n : Int) (j : Int) : symF C_smvK cuts_slaw Try.f3.results.toList 1 400 (cutAt Try.f3 19) (st_slaw_19 l l_t b c P L p q N m i kd s1 s2 s3 s4 s5 k v n j) =
 cond (decide (j < Int.ofNat q)) (
 .need (((0 : Int) ≤ j ∧ j < Int.ofNat q)) (
 .need (0 + Int.toNat j < List.length L) (
 cond (decide ((List.getD L (0 + Int.toNat j) (cod 1).d).2.2.2.2 = s5)) (
  .need (Sym.i64ok (n + 1)) (
  .need (Sym.i64ok (j + 1)) (
  .ret (.cut (cutAt Try.f3 19) ⟨tmG 144 [(1, .c (.int .i64 b)), (0, .c (.str c)), (4, .c (.ptr 1 0 0)), (0, .c (.own 3 (q))), (1, .c (.ptr 4 0 0)), (0, .c (.ptr 5 0 0)), (0, .c (.int .i64 k)), (0, .c (.int .i64 v)), (0, .c (.int .i64 (n + 1))), (18, .c (.slc 0 0 (N) false)), (0, .c (.int .i64 m)), (0, .c (.int .i64 i)), (36, .c (.own 3 (q))), (0, .c (.int .i64 (Int.ofNat q))), (0, .c (.int .i64 (j + 1)))], [.inp 6 l, .blk [.own 2 (p)] 71, .own 1 P 26, .own 1 L 26, .blk [.int .i64 kd, .str s1, .str s2, .int .i64 s3, .int .i64 s4, .int .i64 s5] 31, .blk [.str s1, .str s2, .int .i64 s3, .int .i64 s4, .int .i64 s5] 26]⟩)))) (
  .need (Sym.i64ok (j + 1)) (
  .ret (.cut (cutAt Try.f3 19) ⟨tmG 144 [(1, .c (.int .i64 b)), (0, .c (.str c)), (4, .c (.ptr 1 0 0)), (0, .c (.own 3 (q))), (1, .c (.ptr 4 0 0)), (0, .c (.ptr 5 0 0)), (0, .c (.int .i64 k)), (0, .c (.int .i64 v)), (0, .c (.int .i64 n)), (18, .c (.slc 0 0 (N) false)), (0, .c (.int .i64 m)), (0, .c (.int .i64 i)), (36, .c (.own 3 (q))), (0, .c (.int .i64 (Int.ofNat q))), (0, .c (.int .i64 (j + 1)))], [.inp 6 l, .blk [.own 2 (p)] 71, .own 1 P 26, .own 1 L 26, .blk [.int .i64 kd, .str s1, .str s2, .int .i64 s3, .int .i64 s4, .int .i64 s5] 31, .blk [.str s1, .str s2, .int .i64 s3, .int .i64 s4, .int .i64 s5] 26]⟩)))))) (
 .ret (.cut (regAt Try.f3 24) ⟨tmG 183 [(1, .c (.int .i64 b)), (0, .c (.str c)), (4, .c (.ptr 1 0 0)), (0, .c (.own 3 (q))), (1, .c (.ptr 4 0 0)), (0, .c (.ptr 5 0 0)), (0, .c (.int .i64 k)), (0, .c (.int .i64 v)), (0, .c (.int .i64 n)), (18, .c (.slc 0 0 (N) false)), (0, .c (.int .i64 m)), (0, .c (.int .i64 i))], [.inp 6 l, .blk [.own 2 (p)] 71, .own 1 P 26, .own 1 L 26, .blk [.int .i64 kd, .str s1, .str s2, .int .i64 s3, .int .i64 s4, .int .i64 s5] 31, .blk [.str s1, .str s2, .int .i64 s3, .int .i64 s4, .int .i64 s5] 26]⟩)) := by kernel_rfl


noncomputable def st_slaw_r24 (l : List (Int × List UInt8 × List UInt8 × Int × Int × Int)) (l_t : Bool) (b : Int) (c : List UInt8) (P L : List (List UInt8 × List UInt8 × Int × Int × Int)) (p q N : Nat) (m i : Int) (kd : Int) (s1 s2 : List UInt8) (s3 s4 s5 k v n : Int) (j : Int) : St cod := ⟨tmG 183 [(1, .c (.int .i64 b)), (0, .c (.str c)), (4, .c (.ptr 1 0 0)), (0, .c (.own 3 (q))), (1, .c (.ptr 4 0 0)), (0, .c (.ptr 5 0 0)), (0, .c (.int .i64 k)), (0, .c (.int .i64 v)), (0, .c (.int .i64 n)), (18, .c (.slc 0 0 (N) false)), (0, .c (.int .i64 m)), (0, .c (.int .i64 i))], ([.inp 6 l, .blk [.own 2 p] 71, .own 1 P 26, .own 1 L 26, .blk [.int .i64 kd, .str s1, .str s2, .int .i64 s3, .int .i64 s4, .int .i64 s5] 31, .blk [.str s1, .str s2, .int .i64 s3, .int .i64 s4, .int .i64 s5] 26] : Heap cod)⟩


theorem slaw_tr24 (l : List (Int × List UInt8 × List UInt8 × Int × Int × Int)) (l_t : Bool) (b : Int) (c : List UInt8) (P L : List (List UInt8 × List UInt8 × Int × Int × Int)) (p q N : Nat) (m i : Int) (kd : Int) (s1 s2 : List UInt8) (s3 s4 s5 k v n : Int) (j : Int) : symF C_smvK cuts_slaw_r24 Try.f3.results.toList 1 400 (regAt Try.f3 24) (st_slaw_r24 l l_t b c P L p q N m i kd s1 s2 s3 s4 s5 k v n j) =
.need (((0 : Int) ≤ 0 ∧ ((0 : Int) ≤ 3 ∧ ((3 : Int) ≤ 100000 ∧ Sym.i64ok kd)))) (
 cond (decide (F.rcut kd 0 3 = 0)) (
 .need ((HObj.blk [Cell.own 1 p] 71 : HObj cod) = HObj.blk [Cell.own 1 (List.length P)] 71) (
 .need ((F.okB P ∧ List.length P ≤ 1000)) (
 cond (decide (v = 0)) (
  cond (decide (0 ≤ k)) (
   cond (!decide (F.putE P s1 s2 s3 s4 s5 = 7)) (
    .ret (.fin (.c (.bool false)) [])) (
    .need (Sym.i64ok (i + 1)) (
    .ret (.cut (cutAt Try.f3 8) ⟨tmG 183 [(1, .c (.int .i64 b)), (0, .c (.str c)), (4, .c (.ptr 1 0 0)), (0, .c (.own 3 (q))), (24, .c (.slc 0 0 (N) false)), (0, .c (.int .i64 m)), (0, .c (.int .i64 (i + 1)))], [.inp 6 l, .blk [.own 2 (List.length (F.putL P s1 s2 s3 s4 s5))] 71, .own 1 (F.putL P s1 s2 s3 s4 s5) 26, .own 1 L 26]⟩)))) (
   cond (decide (v = 0)) (
    cond (decide (n = 16)) (
     cond (!decide (F.putE P s1 s2 s3 s4 s5 = 9)) (
      .ret (.fin (.c (.bool false)) [])) (
      .need (Sym.i64ok (i + 1)) (
      .ret (.cut (cutAt Try.f3 8) ⟨tmG 183 [(1, .c (.int .i64 b)), (0, .c (.str c)), (4, .c (.ptr 1 0 0)), (0, .c (.own 3 (q))), (24, .c (.slc 0 0 (N) false)), (0, .c (.int .i64 m)), (0, .c (.int .i64 (i + 1)))], [.inp 6 l, .blk [.own 2 (List.length (F.putL P s1 s2 s3 s4 s5))] 71, .own 1 (F.putL P s1 s2 s3 s4 s5) 26, .own 1 L 26]⟩)))) (
     cond (decide (v = 0)) (
      .need (1 = 1) (
      .need (q + 1 ≤ 1000000) (
      cond (!decide (F.putE P s1 s2 s3 s4 s5 = v)) (
       .ret (.fin (.c (.bool false)) [])) (
       .need (Sym.i64ok (i + 1)) (
       .ret (.cut (cutAt Try.f3 8) ⟨tmG 183 [(1, .c (.int .i64 b)), (0, .c (.str c)), (4, .c (.ptr 1 0 0)), (0, .c (.own 3 (q + 1))), (24, .c (.slc 0 0 (N) false)), (0, .c (.int .i64 m)), (0, .c (.int .i64 (i + 1)))], [.inp 6 l, .blk [.own 2 (List.length (F.putL P s1 s2 s3 s4 s5))] 71, .own 1 (F.putL P s1 s2 s3 s4 s5) 26, .own 1 (L ++ ([(s1, s2, s3, s4, s5)])) 26]⟩)))))) (
      cond (!decide (F.putE P s1 s2 s3 s4 s5 = v)) (
       .ret (.fin (.c (.bool false)) [])) (
       .need (Sym.i64ok (i + 1)) (
       .ret (.cut (cutAt Try.f3 8) ⟨tmG 183 [(1, .c (.int .i64 b)), (0, .c (.str c)), (4, .c (.ptr 1 0 0)), (0, .c (.own 3 (q))), (24, .c (.slc 0 0 (N) false)), (0, .c (.int .i64 m)), (0, .c (.int .i64 (i + 1)))], [.inp 6 l, .blk [.own 2 (List.length (F.putL P s1 s2 s3 s4 s5))] 71, .own 1 (F.putL P s1 s2 s3 s4 s5) 26, .own 1 L 26]⟩)))))) (
    cond (decide (v = 0)) (
     .need (1 = 1) (
     .need (q + 1 ≤ 1000000) (
     cond (!decide (F.putE P s1 s2 s3 s4 s5 = v)) (
      .ret (.fin (.c (.bool false)) [])) (
      .need (Sym.i64ok (i + 1)) (
      .ret (.cut (cutAt Try.f3 8) ⟨tmG 183 [(1, .c (.int .i64 b)), (0, .c (.str c)), (4, .c (.ptr 1 0 0)), (0, .c (.own 3 (q + 1))), (24, .c (.slc 0 0 (N) false)), (0, .c (.int .i64 m)), (0, .c (.int .i64 (i + 1)))], [.inp 6 l, .blk [.own 2 (List.length (F.putL P s1 s2 s3 s4 s5))] 71, .own 1 (F.putL P s1 s2 s3 s4 s5) 26, .own 1 (L ++ ([(s1, s2, s3, s4, s5)])) 26]⟩)))))) (
     cond (!decide (F.putE P s1 s2 s3 s4 s5 = v)) (
      .ret (.fin (.c (.bool false)) [])) (
      .need (Sym.i64ok (i + 1)) (
      .ret (.cut (cutAt Try.f3 8) ⟨tmG 183 [(1, .c (.int .i64 b)), (0, .c (.str c)), (4, .c (.ptr 1 0 0)), (0, .c (.own 3 (q))), (24, .c (.slc 0 0 (N) false)), (0, .c (.int .i64 m)), (0, .c (.int .i64 (i + 1)))], [.inp 6 l, .blk [.own 2 (List.length (F.putL P s1 s2 s3 s4 s5))] 71, .own 1 (F.putL P s1 s2 s3 s4 s5) 26, .own 1 L 26]⟩))))))) (
  cond (decide (v = 0)) (
   cond (decide (n = 16)) (
    cond (!decide (F.putE P s1 s2 s3 s4 s5 = 9)) (
     .ret (.fin (.c (.bool false)) [])) (
     .need (Sym.i64ok (i + 1)) (
     .ret (.cut (cutAt Try.f3 8) ⟨tmG 183 [(1, .c (.int .i64 b)), (0, .c (.str c)), (4, .c (.ptr 1 0 0)), (0, .c (.own 3 (q))), (24, .c (.slc 0 0 (N) false)), (0, .c (.int .i64 m)), (0, .c (.int .i64 (i + 1)))], [.inp 6 l, .blk [.own 2 (List.length (F.putL P s1 s2 s3 s4 s5))] 71, .own 1 (F.putL P s1 s2 s3 s4 s5) 26, .own 1 L 26]⟩)))) (
    cond (decide (v = 0)) (
     .need (1 = 1) (
     .need (q + 1 ≤ 1000000) (
     cond (!decide (F.putE P s1 s2 s3 s4 s5 = v)) (
      .ret (.fin (.c (.bool false)) [])) (
      .need (Sym.i64ok (i + 1)) (
      .ret (.cut (cutAt Try.f3 8) ⟨tmG 183 [(1, .c (.int .i64 b)), (0, .c (.str c)), (4, .c (.ptr 1 0 0)), (0, .c (.own 3 (q + 1))), (24, .c (.slc 0 0 (N) false)), (0, .c (.int .i64 m)), (0, .c (.int .i64 (i + 1)))], [.inp 6 l, .blk [.own 2 (List.length (F.putL P s1 s2 s3 s4 s5))] 71, .own 1 (F.putL P s1 s2 s3 s4 s5) 26, .own 1 (L ++ ([(s1, s2, s3, s4, s5)])) 26]⟩)))))) (
     cond (!decide (F.putE P s1 s2 s3 s4 s5 = v)) (
      .ret (.fin (.c (.bool false)) [])) (
      .need (Sym.i64ok (i + 1)) (
      .ret (.cut (cutAt Try.f3 8) ⟨tmG 183 [(1, .c (.int .i64 b)), (0, .c (.str c)), (4, .c (.ptr 1 0 0)), (0, .c (.own 3 (q))), (24, .c (.slc 0 0 (N) false)), (0, .c (.int .i64 m)), (0, .c (.int .i64 (i + 1)))], [.inp 6 l, .blk [.own 2 (List.length (F.putL P s1 s2 s3 s4 s5))] 71, .own 1 (F.putL P s1 s2 s3 s4 s5) 26, .own 1 L 26]⟩)))))) (
   cond (decide (v = 0)) (
    .need (1 = 1) (
    .need (q + 1 ≤ 1000000) (
    cond (!decide (F.putE P s1 s2 s3 s4 s5 = v)) (
     .ret (.fin (.c (.bool false)) [])) (
     .need (Sym.i64ok (i + 1)) (
     .ret (.cut (cutAt Try.f3 8) ⟨tmG 183 [(1, .c (.int .i64 b)), (0, .c (.str c)), (4, .c (.ptr 1 0 0)), (0, .c (.own 3 (q + 1))), (24, .c (.slc 0 0 (N) false)), (0, .c (.int .i64 m)), (0, .c (.int .i64 (i + 1)))], [.inp 6 l, .blk [.own 2 (List.length (F.putL P s1 s2 s3 s4 s5))] 71, .own 1 (F.putL P s1 s2 s3 s4 s5) 26, .own 1 (L ++ ([(s1, s2, s3, s4, s5)])) 26]⟩)))))) (
    cond (!decide (F.putE P s1 s2 s3 s4 s5 = v)) (
     .ret (.fin (.c (.bool false)) [])) (
     .need (Sym.i64ok (i + 1)) (
     .ret (.cut (cutAt Try.f3 8) ⟨tmG 183 [(1, .c (.int .i64 b)), (0, .c (.str c)), (4, .c (.ptr 1 0 0)), (0, .c (.own 3 (q))), (24, .c (.slc 0 0 (N) false)), (0, .c (.int .i64 m)), (0, .c (.int .i64 (i + 1)))], [.inp 6 l, .blk [.own 2 (List.length (F.putL P s1 s2 s3 s4 s5))] 71, .own 1 (F.putL P s1 s2 s3 s4 s5) 26, .own 1 L 26]⟩))))))))) (
 cond (decide (F.rcut kd 0 3 = 1)) (
  .need ((HObj.blk [Cell.own 1 p] 71 : HObj cod) = HObj.blk [Cell.own 1 (List.length P)] 71) (
  .need ((F.okB P ∧ List.length P ≤ 1000)) (
  .need (SV.c (Cell.own 0 q) = SV.c (Cell.own 0 (List.length L))) (
  .need ((k < Int.ofNat (List.length L) ∧ F.byO L)) (
  cond (!decide (F.movE P s1 s5 = F.mvE L k s5 n)) (
   .ret (.fin (.c (.bool false)) [])) (
   .need (Sym.i64ok (i + 1)) (
   .ret (.cut (cutAt Try.f3 8) ⟨tmG 183 [(1, .c (.int .i64 b)), (0, .c (.str c)), (4, .c (.ptr 1 0 0)), (0, .c (.own 3 (q))), (24, .c (.slc 0 0 (N) false)), (0, .c (.int .i64 m)), (0, .c (.int .i64 (i + 1)))], [.inp 6 l, .blk [.own 2 (List.length (F.movL P s1 s5))] 71, .own 1 (F.movL P s1 s5) 26, .own 1 (F.mvL L k s5 n) 26]⟩)))))))) (
  cond (decide (F.rcut kd 0 3 = 2)) (
   .need ((HObj.blk [Cell.own 1 p] 71 : HObj cod) = HObj.blk [Cell.own 1 (List.length P)] 71) (
   .need (List.length P ≤ 1000) (
   cond (decide (v = 0)) (
    cond (decide (k < 0)) (
     cond (!decide (F.chgE P s1 s2 s3 s4 s5 = 8)) (
      .ret (.fin (.c (.bool false)) [])) (
      .need (Sym.i64ok (i + 1)) (
      .ret (.cut (cutAt Try.f3 8) ⟨tmG 183 [(1, .c (.int .i64 b)), (0, .c (.str c)), (4, .c (.ptr 1 0 0)), (0, .c (.own 3 (q))), (24, .c (.slc 0 0 (N) false)), (0, .c (.int .i64 m)), (0, .c (.int .i64 (i + 1)))], [.inp 6 l, .blk [.own 2 (List.length (F.chgL P s1 s2 s3 s4 s5))] 71, .own 1 (F.chgL P s1 s2 s3 s4 s5) 26, .own 1 L 26]⟩)))) (
     cond (decide (v = 0)) (
      .need (((0 : Int) ≤ k ∧ k < Int.ofNat q)) (
      .need (0 + Int.toNat k < List.length L) (
      cond (decide ((List.getD L (0 + Int.toNat k) (cod 1).d).2.2.2.2 = 3)) (
       cond (!decide (F.chgE P s1 s2 s3 s4 s5 = 11)) (
        .ret (.fin (.c (.bool false)) [])) (
        .need (Sym.i64ok (i + 1)) (
        .ret (.cut (cutAt Try.f3 8) ⟨tmG 183 [(1, .c (.int .i64 b)), (0, .c (.str c)), (4, .c (.ptr 1 0 0)), (0, .c (.own 3 (q))), (24, .c (.slc 0 0 (N) false)), (0, .c (.int .i64 m)), (0, .c (.int .i64 (i + 1)))], [.inp 6 l, .blk [.own 2 (List.length (F.chgL P s1 s2 s3 s4 s5))] 71, .own 1 (F.chgL P s1 s2 s3 s4 s5) 26, .own 1 L 26]⟩)))) (
       .need (((0 : Int) ≤ k ∧ k < Int.ofNat q)) (
       .need (0 + Int.toNat k < List.length L) (
       cond (!decide ((List.getD L (0 + Int.toNat k) (cod 1).d).2.2.2.2 = s5)) (
        cond (!decide (F.chgE P s1 s2 s3 s4 s5 = 11)) (
         .ret (.fin (.c (.bool false)) [])) (
         .need (Sym.i64ok (i + 1)) (
         .ret (.cut (cutAt Try.f3 8) ⟨tmG 183 [(1, .c (.int .i64 b)), (0, .c (.str c)), (4, .c (.ptr 1 0 0)), (0, .c (.own 3 (q))), (24, .c (.slc 0 0 (N) false)), (0, .c (.int .i64 m)), (0, .c (.int .i64 (i + 1)))], [.inp 6 l, .blk [.own 2 (List.length (F.chgL P s1 s2 s3 s4 s5))] 71, .own 1 (F.chgL P s1 s2 s3 s4 s5) 26, .own 1 L 26]⟩)))) (
        cond (decide (v = 0)) (
         .need (((0 : Int) ≤ k ∧ k < Int.ofNat q)) (
         .need (0 + Int.toNat k < List.length L) (
         cond (!decide (F.chgE P s1 s2 s3 s4 s5 = v)) (
          .ret (.fin (.c (.bool false)) [])) (
          .need (Sym.i64ok (i + 1)) (
          .ret (.cut (cutAt Try.f3 8) ⟨tmG 183 [(1, .c (.int .i64 b)), (0, .c (.str c)), (4, .c (.ptr 1 0 0)), (0, .c (.own 3 (q))), (24, .c (.slc 0 0 (N) false)), (0, .c (.int .i64 m)), (0, .c (.int .i64 (i + 1)))], [.inp 6 l, .blk [.own 2 (List.length (F.chgL P s1 s2 s3 s4 s5))] 71, .own 1 (F.chgL P s1 s2 s3 s4 s5) 26, .own 1 (List.set L (0 + Int.toNat k) (s1, s2, s3, s4, s5)) 26]⟩)))))) (
         cond (!decide (F.chgE P s1 s2 s3 s4 s5 = v)) (
          .ret (.fin (.c (.bool false)) [])) (
          .need (Sym.i64ok (i + 1)) (
          .ret (.cut (cutAt Try.f3 8) ⟨tmG 183 [(1, .c (.int .i64 b)), (0, .c (.str c)), (4, .c (.ptr 1 0 0)), (0, .c (.own 3 (q))), (24, .c (.slc 0 0 (N) false)), (0, .c (.int .i64 m)), (0, .c (.int .i64 (i + 1)))], [.inp 6 l, .blk [.own 2 (List.length (F.chgL P s1 s2 s3 s4 s5))] 71, .own 1 (F.chgL P s1 s2 s3 s4 s5) 26, .own 1 L 26]⟩))))))))))) (
      cond (decide (v = 0)) (
       .need (((0 : Int) ≤ k ∧ k < Int.ofNat q)) (
       .need (0 + Int.toNat k < List.length L) (
       cond (!decide (F.chgE P s1 s2 s3 s4 s5 = v)) (
        .ret (.fin (.c (.bool false)) [])) (
        .need (Sym.i64ok (i + 1)) (
        .ret (.cut (cutAt Try.f3 8) ⟨tmG 183 [(1, .c (.int .i64 b)), (0, .c (.str c)), (4, .c (.ptr 1 0 0)), (0, .c (.own 3 (q))), (24, .c (.slc 0 0 (N) false)), (0, .c (.int .i64 m)), (0, .c (.int .i64 (i + 1)))], [.inp 6 l, .blk [.own 2 (List.length (F.chgL P s1 s2 s3 s4 s5))] 71, .own 1 (F.chgL P s1 s2 s3 s4 s5) 26, .own 1 (List.set L (0 + Int.toNat k) (s1, s2, s3, s4, s5)) 26]⟩)))))) (
       cond (!decide (F.chgE P s1 s2 s3 s4 s5 = v)) (
        .ret (.fin (.c (.bool false)) [])) (
        .need (Sym.i64ok (i + 1)) (
        .ret (.cut (cutAt Try.f3 8) ⟨tmG 183 [(1, .c (.int .i64 b)), (0, .c (.str c)), (4, .c (.ptr 1 0 0)), (0, .c (.own 3 (q))), (24, .c (.slc 0 0 (N) false)), (0, .c (.int .i64 m)), (0, .c (.int .i64 (i + 1)))], [.inp 6 l, .blk [.own 2 (List.length (F.chgL P s1 s2 s3 s4 s5))] 71, .own 1 (F.chgL P s1 s2 s3 s4 s5) 26, .own 1 L 26]⟩))))))) (
    cond (decide (v = 0)) (
     .need (((0 : Int) ≤ k ∧ k < Int.ofNat q)) (
     .need (0 + Int.toNat k < List.length L) (
     cond (decide ((List.getD L (0 + Int.toNat k) (cod 1).d).2.2.2.2 = 3)) (
      cond (!decide (F.chgE P s1 s2 s3 s4 s5 = 11)) (
       .ret (.fin (.c (.bool false)) [])) (
       .need (Sym.i64ok (i + 1)) (
       .ret (.cut (cutAt Try.f3 8) ⟨tmG 183 [(1, .c (.int .i64 b)), (0, .c (.str c)), (4, .c (.ptr 1 0 0)), (0, .c (.own 3 (q))), (24, .c (.slc 0 0 (N) false)), (0, .c (.int .i64 m)), (0, .c (.int .i64 (i + 1)))], [.inp 6 l, .blk [.own 2 (List.length (F.chgL P s1 s2 s3 s4 s5))] 71, .own 1 (F.chgL P s1 s2 s3 s4 s5) 26, .own 1 L 26]⟩)))) (
      .need (((0 : Int) ≤ k ∧ k < Int.ofNat q)) (
      .need (0 + Int.toNat k < List.length L) (
      cond (!decide ((List.getD L (0 + Int.toNat k) (cod 1).d).2.2.2.2 = s5)) (
       cond (!decide (F.chgE P s1 s2 s3 s4 s5 = 11)) (
        .ret (.fin (.c (.bool false)) [])) (
        .need (Sym.i64ok (i + 1)) (
        .ret (.cut (cutAt Try.f3 8) ⟨tmG 183 [(1, .c (.int .i64 b)), (0, .c (.str c)), (4, .c (.ptr 1 0 0)), (0, .c (.own 3 (q))), (24, .c (.slc 0 0 (N) false)), (0, .c (.int .i64 m)), (0, .c (.int .i64 (i + 1)))], [.inp 6 l, .blk [.own 2 (List.length (F.chgL P s1 s2 s3 s4 s5))] 71, .own 1 (F.chgL P s1 s2 s3 s4 s5) 26, .own 1 L 26]⟩)))) (
       cond (decide (v = 0)) (
        .need (((0 : Int) ≤ k ∧ k < Int.ofNat q)) (
        .need (0 + Int.toNat k < List.length L) (
        cond (!decide (F.chgE P s1 s2 s3 s4 s5 = v)) (
         .ret (.fin (.c (.bool false)) [])) (
         .need (Sym.i64ok (i + 1)) (
         .ret (.cut (cutAt Try.f3 8) ⟨tmG 183 [(1, .c (.int .i64 b)), (0, .c (.str c)), (4, .c (.ptr 1 0 0)), (0, .c (.own 3 (q))), (24, .c (.slc 0 0 (N) false)), (0, .c (.int .i64 m)), (0, .c (.int .i64 (i + 1)))], [.inp 6 l, .blk [.own 2 (List.length (F.chgL P s1 s2 s3 s4 s5))] 71, .own 1 (F.chgL P s1 s2 s3 s4 s5) 26, .own 1 (List.set L (0 + Int.toNat k) (s1, s2, s3, s4, s5)) 26]⟩)))))) (
        cond (!decide (F.chgE P s1 s2 s3 s4 s5 = v)) (
         .ret (.fin (.c (.bool false)) [])) (
         .need (Sym.i64ok (i + 1)) (
         .ret (.cut (cutAt Try.f3 8) ⟨tmG 183 [(1, .c (.int .i64 b)), (0, .c (.str c)), (4, .c (.ptr 1 0 0)), (0, .c (.own 3 (q))), (24, .c (.slc 0 0 (N) false)), (0, .c (.int .i64 m)), (0, .c (.int .i64 (i + 1)))], [.inp 6 l, .blk [.own 2 (List.length (F.chgL P s1 s2 s3 s4 s5))] 71, .own 1 (F.chgL P s1 s2 s3 s4 s5) 26, .own 1 L 26]⟩))))))))))) (
     cond (decide (v = 0)) (
      .need (((0 : Int) ≤ k ∧ k < Int.ofNat q)) (
      .need (0 + Int.toNat k < List.length L) (
      cond (!decide (F.chgE P s1 s2 s3 s4 s5 = v)) (
       .ret (.fin (.c (.bool false)) [])) (
       .need (Sym.i64ok (i + 1)) (
       .ret (.cut (cutAt Try.f3 8) ⟨tmG 183 [(1, .c (.int .i64 b)), (0, .c (.str c)), (4, .c (.ptr 1 0 0)), (0, .c (.own 3 (q))), (24, .c (.slc 0 0 (N) false)), (0, .c (.int .i64 m)), (0, .c (.int .i64 (i + 1)))], [.inp 6 l, .blk [.own 2 (List.length (F.chgL P s1 s2 s3 s4 s5))] 71, .own 1 (F.chgL P s1 s2 s3 s4 s5) 26, .own 1 (List.set L (0 + Int.toNat k) (s1, s2, s3, s4, s5)) 26]⟩)))))) (
      cond (!decide (F.chgE P s1 s2 s3 s4 s5 = v)) (
       .ret (.fin (.c (.bool false)) [])) (
       .need (Sym.i64ok (i + 1)) (
       .ret (.cut (cutAt Try.f3 8) ⟨tmG 183 [(1, .c (.int .i64 b)), (0, .c (.str c)), (4, .c (.ptr 1 0 0)), (0, .c (.own 3 (q))), (24, .c (.slc 0 0 (N) false)), (0, .c (.int .i64 m)), (0, .c (.int .i64 (i + 1)))], [.inp 6 l, .blk [.own 2 (List.length (F.chgL P s1 s2 s3 s4 s5))] 71, .own 1 (F.chgL P s1 s2 s3 s4 s5) 26, .own 1 L 26]⟩))))))))) (
   .need ((HObj.blk [Cell.own 1 p] 71 : HObj cod) = HObj.blk [Cell.own 1 (List.length P)] 71) (
   .need (List.length P ≤ 1000) (
   cond (decide (k < 0)) (
    cond (!decide (F.remE P s1 = 8)) (
     .ret (.fin (.c (.bool false)) [])) (
     .need (Sym.i64ok (i + 1)) (
     .ret (.cut (cutAt Try.f3 8) ⟨tmG 183 [(1, .c (.int .i64 b)), (0, .c (.str c)), (4, .c (.ptr 1 0 0)), (0, .c (.own 3 (q))), (24, .c (.slc 0 0 (N) false)), (0, .c (.int .i64 m)), (0, .c (.int .i64 (i + 1)))], [.inp 6 l, .blk [.own 2 (List.length (F.remL P s1))] 71, .own 1 (F.remL P s1) 26, .own 1 L 26]⟩)))) (
    .need (((0 : Int) ≤ k ∧ k < Int.ofNat q)) (
    .need (0 + Int.toNat k < List.length L) (
    cond (!decide ((List.getD L (0 + Int.toNat k) (cod 1).d).2.2.2.2 = 3)) (
     cond (!decide (F.remE P s1 = 11)) (
      .ret (.fin (.c (.bool false)) [])) (
      .need (Sym.i64ok (i + 1)) (
      .ret (.cut (cutAt Try.f3 8) ⟨tmG 183 [(1, .c (.int .i64 b)), (0, .c (.str c)), (4, .c (.ptr 1 0 0)), (0, .c (.own 3 (q))), (24, .c (.slc 0 0 (N) false)), (0, .c (.int .i64 m)), (0, .c (.int .i64 (i + 1)))], [.inp 6 l, .blk [.own 2 (List.length (F.remL P s1))] 71, .own 1 (F.remL P s1) 26, .own 1 L 26]⟩)))) (
     .need (Sym.i64ok (k + 1)) (
     .need (((0 : Int) ≤ k ∧ (k < Int.ofNat (List.length L) ∧ k + 1 = k + 1))) (
     cond (!decide (F.remE P s1 = 0)) (
      .ret (.fin (.c (.bool false)) [])) (
      .need (Sym.i64ok (i + 1)) (
      .ret (.cut (cutAt Try.f3 8) ⟨tmG 183 [(1, .c (.int .i64 b)), (0, .c (.str c)), (4, .c (.ptr 1 0 0)), (0, .c (.own 3 (List.length L - 1))), (24, .c (.slc 0 0 (N) false)), (0, .c (.int .i64 m)), (0, .c (.int .i64 (i + 1)))], [.inp 6 l, .blk [.own 2 (List.length (F.remL P s1))] 71, .own 1 (F.remL P s1) 26, .own 1 (List.eraseIdx L (Int.toNat k)) 26]⟩))))))))))))))) := by kernel_rfl


noncomputable def st_slaw_r56 (l : List (Int × List UInt8 × List UInt8 × Int × Int × Int)) (l_t : Bool) (b : Int) (c : List UInt8) (P L : List (List UInt8 × List UInt8 × Int × Int × Int)) (p q N : Nat) (m i : Int) : St cod := ⟨tmG 210 [(1, .c (.int .i64 b)), (0, .c (.str c)), (4, .c (.ptr 1 0 0)), (0, .c (.own 3 (q)))], ([.inp 6 l, .blk [.own 2 p] 71, .own 1 P 26, .own 1 L 26] : Heap cod)⟩


theorem slaw_tr56 (l : List (Int × List UInt8 × List UInt8 × Int × Int × Int)) (l_t : Bool) (b : Int) (c : List UInt8) (P L : List (List UInt8 × List UInt8 × Int × Int × Int)) (p q N : Nat) (m i : Int) : symF C_smvK cuts_slaw_r56 Try.f3.results.toList 1 400 (regAt Try.f3 56) (st_slaw_r56 l l_t b c P L p q N m i) =
.need (((0 = 0 ∧ p = List.length P) ∧ List.length P ≤ 100000)) (
.ret (.cut (cutAt Try.f3 58) ⟨tmG 24 [(1, .c (.int .i64 b)), (0, .c (.str c)), (4, .c (.ptr 1 0 0)), (0, .c (.own 3 (q))), (10, .c (.ptr 4 0 0)), (0, .c (.int .i64 (F.gtE P c))), (171, .c (.own 3 (q))), (0, .c (.int .i64 (Int.ofNat q))), (0, .c (.int .i64 0))], [.inp 6 l, .blk [.own 2 (p)] 71, .own 1 P 26, .own 1 L 26, .blk [.str (F.gt1 P c), .str (F.gt2 P c), .int .i64 (F.gt3 P c), .int .i64 (F.gt4 P c), .int .i64 (F.gt5 P c)] 26]⟩)) := by kernel_rfl


noncomputable def st_slaw_58 (l : List (Int × List UInt8 × List UInt8 × Int × Int × Int)) (l_t : Bool) (b : Int) (c : List UInt8) (P L : List (List UInt8 × List UInt8 × Int × Int × Int)) (p q N : Nat) (m i : Int) (g1 g2 : List UInt8) (g3 g4 g5 ge j : Int) : St cod := ⟨tmG 24 [(1, .c (.int .i64 b)), (0, .c (.str c)), (4, .c (.ptr 1 0 0)), (0, .c (.own 3 (q))), (10, .c (.ptr 4 0 0)), (0, .c (.int .i64 ge)), (171, .c (.own 3 (q))), (0, .c (.int .i64 (Int.ofNat q))), (0, .c (.int .i64 j))], ([.inp 6 l, .blk [.own 2 p] 71, .own 1 P 26, .own 1 L 26, .blk [.str g1, .str g2, .int .i64 g3, .int .i64 g4, .int .i64 g5] 26] : Heap cod)⟩


theorem slaw_t58 (l : List (Int × List UInt8 × List UInt8 × Int × Int × Int)) (l_t : Bool) (b : Int) (c : List UInt8) (P L : List (List UInt8 × List UInt8 × Int × Int × Int)) (p q N : Nat) (m i : Int) (g1 g2 : List UInt8) (g3 g4 g5 ge j : Int) : symF C_smvK cuts_slaw Try.f3.results.toList 1 400 (cutAt Try.f3 58) (st_slaw_58 l l_t b c P L p q N m i g1 g2 g3 g4 g5 ge j) =
 cond (decide (j < Int.ofNat q)) (
 .need (((0 : Int) ≤ j ∧ j < Int.ofNat q)) (
 .need (0 + Int.toNat j < List.length L) (
 cond (decide ((List.getD L (0 + Int.toNat j) (cod 1).d).1 = c)) (
  cond (!decide (ge = 0)) (
   .ret (.fin (.c (.bool false)) [])) (
   cond (!(decide (g1 = (List.getD L (0 + Int.toNat j) (cod 1).d).1) &&     (decide (g2 = (List.getD L (0 + Int.toNat j) (cod 1).d).2.1) &&       (decide (g3 = (List.getD L (0 + Int.toNat j) (cod 1).d).2.2.1) &&         (decide (g4 = (List.getD L (0 + Int.toNat j) (cod 1).d).2.2.2.1) &&           decide (g5 = (List.getD L (0 + Int.toNat j) (cod 1).d).2.2.2.2)))))) (
    .ret (.fin (.c (.bool false)) [])) (
    .need (Sym.i64ok (j + 1)) (
    .ret (.cut (cutAt Try.f3 58) ⟨tmG 24 [(1, .c (.int .i64 b)), (0, .c (.str c)), (4, .c (.ptr 1 0 0)), (0, .c (.own 3 (q))), (10, .c (.ptr 4 0 0)), (0, .c (.int .i64 ge)), (171, .c (.own 3 (q))), (0, .c (.int .i64 (Int.ofNat q))), (0, .c (.int .i64 (j + 1)))], [.inp 6 l, .blk [.own 2 (p)] 71, .own 1 P 26, .own 1 L 26, .blk [.str g1, .str g2, .int .i64 g3, .int .i64 g4, .int .i64 g5] 26]⟩))))) (
  .need (Sym.i64ok (j + 1)) (
  .ret (.cut (cutAt Try.f3 58) ⟨tmG 24 [(1, .c (.int .i64 b)), (0, .c (.str c)), (4, .c (.ptr 1 0 0)), (0, .c (.own 3 (q))), (10, .c (.ptr 4 0 0)), (0, .c (.int .i64 ge)), (171, .c (.own 3 (q))), (0, .c (.int .i64 (Int.ofNat q))), (0, .c (.int .i64 (j + 1)))], [.inp 6 l, .blk [.own 2 (p)] 71, .own 1 P 26, .own 1 L 26, .blk [.str g1, .str g2, .int .i64 g3, .int .i64 g4, .int .i64 g5] 26]⟩)))))) (
 .need (((0 = 0 ∧ p = List.length P) ∧ (F.okB P ∧ List.length P ≤ 100000))) (
 .need (((0 = 0 ∧ q = List.length L) ∧ List.length L ≤ 100000)) (
 .need (((0 = 0 ∧ List.length (F.bay P b) = List.length (F.bay P b)) ∧ ((0 = 0 ∧ List.length (F.srt [] b L) = List.length (F.srt [] b L)) ∧ (F.bay P b = F.srt [] b L ∧ List.length (F.bay P b) ≤ 100000)))) (
 .ret (.fin (.c (.bool true)) []))))) := by kernel_rfl



theorem getD_memA {α : Type} {l : List α} {n : Nat} (d : α) (h : n < l.length) : l.getD n d ∈ l := by
  rw [List.getD_eq_getElem?_getD, List.getElem?_eq_getElem h]
  exact List.getElem_mem h
theorem getD_memS {l : List F.St} {n : Nat} (h : n < l.length) : l.getD n F.st0 ∈ l := by
  rw [List.getD_eq_getElem?_getD, List.getElem?_eq_getElem h]
  exact List.getElem_mem h
theorem slaw_run (l : List (Int × List UInt8 × List UInt8 × Int × Int × Int)) (l_t : Bool) (b : Int) (c : List UInt8) (b0 : Base) (hb : b0.n = 1) (h0 : ∀ x ∈ l, Sym.i64ok x.1) : Sym.Runs Try.prog b0 [.code (codeOf Try.f3)] ⟨argsS Try.f3 [.c (.slc 0 0 (List.length l) l_t), .c (.int .i64 b), .c (.str c)], ([.inp 6 l] : Heap cod)⟩ (Sym.Ends Try.prog Try.f3 1 (.c (.bool true)) []) := by
  -- behind the calls
  have fin58 : ∀ (L : List F.St) (N : Nat) (m i : Int), F.Inv L → L.length ≤ 1000 → ∀ (r j : Nat), j + r = L.length →
      Sym.Runs Try.prog b0 (cutAt Try.f3 58) (st_slaw_58 l l_t b c L L L.length L.length N m i (F.gt1 L c) (F.gt2 L c) (F.gt3 L c) (F.gt4 L c) (F.gt5 L c) (F.gtE L c) (j : Int)) (Sym.Ends Try.prog Try.f3 1 (.c (.bool true)) []) := by
    intro L N m i hI hL r
    induction r with
    | zero =>
      intro j hj
      refine Runs.go (cfg := C_smvK) L_smvK_ok mixed cuts_slaw 400 hb (slaw_t58 l l_t b c L L L.length L.length N m i _ _ _ _ _ _ (j : Int)) ?_
      simp only [T.wp, T.wp_cond, Aft, Int.ofNat_eq_natCast, decide_eq_true_eq, and_true, true_and, Nat.zero_add, Bool.not_eq_true', decide_eq_false_iff_not]
      have hs := srt_eq hI.d b
      have hl : (F.bay L b).length ≤ 100000 := by
        rw [bay_len]
        have := hI.n b
        omega
      exact ite_no (by omega) ⟨⟨⟨hI.d, hI.t⟩, by omega⟩, by omega, hs.symm, hl⟩
    | succ r ih =>
      intro j hj
      refine Runs.go (cfg := C_smvK) L_smvK_ok mixed cuts_slaw 400 hb (slaw_t58 l l_t b c L L L.length L.length N m i _ _ _ _ _ _ (j : Int)) ?_
      have nx := ih (j + 1) (by omega)
      have hlt : j < L.length := by omega
      have hlt' : (j : Int) < (L.length : Int) := by omega
      have d0 : (cod 1).d = F.st0 := rfl
      have hm := getD_memS hlt
      simp only [T.wp, T.wp_cond, Aft, Int.ofNat_eq_natCast, decide_eq_true_eq, and_true, true_and, Nat.zero_add, Bool.not_eq_true', decide_eq_false_iff_not, Nat.zero_add, Int.toNat_natCast, d0]
      refine ite_yes hlt' ⟨⟨by omega, hlt'⟩, hlt, ?_⟩
      by_cases e : (L.getD j F.st0).1 = c
      · have hi : ¬ F.idx L c < 0 := by
          rcases idx_bd L c with ⟨_, h2⟩ | ⟨k, _, h2, _⟩
          · exact absurd e (h2 _ hm)
          · omega
        obtain ⟨g1, g2, g3, g4⟩ := idx_split hi
        have eg : F.gt L c = L.getD j F.st0 := dst_one hI.d g4 hm (g2.trans e.symm)
        have eE : F.gtE L c = 0 := by unfold F.gtE; rw [if_pos (by omega)]
        have e1 : F.gt1 L c = (L.getD j F.st0).1 := by unfold F.gt1; rw [eg]
        have e2 : F.gt2 L c = (L.getD j F.st0).2.1 := by unfold F.gt2; rw [eg]
        have e3 : F.gt3 L c = (L.getD j F.st0).2.2.1 := by unfold F.gt3; rw [eg]
        have e4 : F.gt4 L c = (L.getD j F.st0).2.2.2.1 := by unfold F.gt4; rw [eg]
        have e5 : F.gt5 L c = (L.getD j F.st0).2.2.2.2 := by unfold F.gt5; rw [eg]
        refine ite_yes e (ite_no (fun q => q eE) ?_)
        refine ite_no ?_ ⟨by unfold Sym.i64ok; omega, nx⟩
        rw [← e1, ← e2, ← e3, ← e4, ← e5]
        simp
      · exact ite_no e ⟨by unfold Sym.i64ok; omega, nx⟩
  have fin56 : ∀ (L : List F.St) (N : Nat) (m i : Int), F.Inv L → L.length ≤ 1000 → Sym.Runs Try.prog b0 (regAt Try.f3 56) (st_slaw_r56 l l_t b c L L L.length L.length N m i) (Sym.Ends Try.prog Try.f3 1 (.c (.bool true)) []) := by
    intro L N m i hI hL
    refine Runs.go (cfg := C_smvK) L_smvK_ok mixed cuts_slaw_r56 400 hb (slaw_tr56 l l_t b c L L L.length L.length N m i) ?_
    simp only [T.wp, T.wp_cond, Aft, Int.ofNat_eq_natCast, decide_eq_true_eq, and_true, true_and, Nat.zero_add, Bool.not_eq_true', decide_eq_false_iff_not]
    exact ⟨by omega, fin58 L N m i hI hL L.length 0 (by omega)⟩
  -- one call
  have step : ∀ (L : List F.St) (N : Nat) (i : Nat) (kd : Int) (s1 s2 : List UInt8) (s3 s4 s5 j : Int), F.Inv L → L.length ≤ 900 → i ≤ 100 → Sym.i64ok kd →
      (∀ L' : List F.St, F.Inv L' → L'.length ≤ L.length + 1 → Sym.Runs Try.prog b0 (cutAt Try.f3 8) (st_slaw_8 l l_t b c L' L' L'.length L'.length N (N : Int) ((i : Int) + 1)) (Sym.Ends Try.prog Try.f3 1 (.c (.bool true)) [])) →
      Sym.Runs Try.prog b0 (regAt Try.f3 24) (st_slaw_r24 l l_t b c L L L.length L.length N (N : Int) (i : Int) kd s1 s2 s3 s4 s5 (F.idx L s1) (F.chkS s1 s2 s3 s4 s5) (F.cnt L s5 : Int) j) (Sym.Ends Try.prog Try.f3 1 (.c (.bool true)) []) := by
    intro L N i kd s1 s2 s3 s4 s5 j hI hL hi hkd nx
    refine Runs.go (cfg := C_smvK) L_smvK_ok mixed cuts_slaw_r24 400 hb (slaw_tr24 l l_t b c L L L.length L.length N (N : Int) (i : Int) kd s1 s2 s3 s4 s5 _ _ _ j) ?_
    have okB : F.okB L := ⟨hI.d, hI.t⟩
    have i1 : Sym.i64ok ((i : Int) + 1) := by unfold Sym.i64ok; omega
    have same := nx L hI (by omega)
    have hx := idx_lt L s1
    have hcn := hI.n s5
    have d0 : (cod 1).d = F.st0 := rfl
    simp only [T.wp, T.wp_cond, Aft, Int.ofNat_eq_natCast, decide_eq_true_eq, and_true, true_and, Nat.zero_add, Bool.not_eq_true', decide_eq_false_iff_not, Nat.zero_add, d0]
    refine ⟨⟨by decide, by decide, by decide, hkd⟩, ?_⟩
    by_cases k0 : F.rcut kd 0 3 = 0
    · refine ite_yes k0 ⟨⟨okB, by omega⟩, ?_⟩
      by_cases c1 : F.chkS s1 s2 s3 s4 s5 = 0
      · refine ite_yes c1 ?_
        by_cases c2 : 0 ≤ F.idx L s1
        · have eE : F.putE L s1 s2 s3 s4 s5 = 7 := by unfold F.putE; rw [if_pos c1, if_pos c2]
          have eL : F.putL L s1 s2 s3 s4 s5 = L := by unfold F.putL; rw [if_neg (by rw [eE]; decide)]
          rw [eL]
          exact ite_yes c2 (ite_no (fun q => q eE) ⟨i1, same⟩)
        · refine ite_no c2 (ite_yes c1 ?_)
          by_cases c3 : (F.cnt L s5 : Int) = 16
          · have eE : F.putE L s1 s2 s3 s4 s5 = 9 := by unfold F.putE; rw [if_pos c1, if_neg c2, if_pos (by omega)]
            have eL : F.putL L s1 s2 s3 s4 s5 = L := by unfold F.putL; rw [if_neg (by rw [eE]; decide)]
            rw [eL]
            exact ite_yes c3 (ite_no (fun q => q eE) ⟨i1, same⟩)
          · have eE : F.putE L s1 s2 s3 s4 s5 = 0 := by unfold F.putE; rw [if_pos c1, if_neg c2, if_neg (by omega)]
            have eL : F.putL L s1 s2 s3 s4 s5 = L ++ [(s1, s2, s3, s4, s5)] := by unfold F.putL; rw [if_pos eE]; rfl
            have en : (L ++ [(s1, s2, s3, s4, s5)]).length = L.length + 1 := by simp
            have nn := nx (L ++ [(s1, s2, s3, s4, s5)]) (inv_put hI eE) (by omega)
            rw [en] at nn
            rw [eL, en]
            exact ite_no c3 (ite_yes c1 ⟨by omega, ite_no (fun q => q (eE.trans c1.symm)) ⟨i1, nn⟩⟩)
      · have eE : F.putE L s1 s2 s3 s4 s5 = F.chkS s1 s2 s3 s4 s5 := by unfold F.putE; rw [if_neg c1]
        have eL : F.putL L s1 s2 s3 s4 s5 = L := by unfold F.putL; rw [if_neg (by rw [eE]; exact c1)]
        rw [eL]
        exact ite_no c1 (ite_no c1 (ite_no c1 (ite_no (fun q => q eE) ⟨i1, same⟩)))
    refine ite_no k0 ?_
    by_cases k1 : F.rcut kd 0 3 = 1
    · have mq := mv_eq hI s1 s5
      have hv : F.Inv (F.movL L s1 s5) := by
        by_cases e0 : F.movE L s1 s5 = 0
        · exact inv_mov hI e0
        · unfold F.movL
          rw [if_neg e0]
          exact hI
      have en : (F.movL L s1 s5).length = L.length := by
        unfold F.movL
        split
        · exact List.length_set
        · rfl
      have nn := nx _ hv (by omega)
      rw [en] at nn
      rw [mq.1, mq.2, en]
      exact ite_yes k1 ⟨⟨okB, by omega⟩, ⟨hx, hI.b⟩, ite_no (fun q => q rfl) ⟨i1, nn⟩⟩
    refine ite_no k1 ?_
    by_cases k2 : F.rcut kd 0 3 = 2
    · refine ite_yes k2 ⟨by omega, ?_⟩
      by_cases c1 : F.chkS s1 s2 s3 s4 s5 = 0
      · refine ite_yes c1 ?_
        by_cases c2 : F.idx L s1 < 0
        · have eE : F.chgE L s1 s2 s3 s4 s5 = 8 := by unfold F.chgE; rw [if_pos c1, if_pos c2]
          have eL : F.chgL L s1 s2 s3 s4 s5 = L := by unfold F.chgL; rw [if_neg (by rw [eE]; decide)]
          rw [eL]
          exact ite_yes c2 (ite_no (fun q => q eE) ⟨i1, same⟩)
        have hn : 0 ≤ F.idx L s1 := by omega
        have hlt : (F.idx L s1).toNat < L.length := by omega
        have e5 : F.gt5 L s1 = (L.getD (F.idx L s1).toNat F.st0).2.2.2.2 := by unfold F.gt5 F.gt; rw [if_pos hn]
        rw [← e5]
        refine ite_no c2 (ite_yes c1 ⟨⟨hn, hx⟩, hlt, ?_⟩)
        by_cases c3 : F.gt5 L s1 = 3
        · have eE : F.chgE L s1 s2 s3 s4 s5 = 11 := by unfold F.chgE; rw [if_pos c1, if_neg c2, if_pos c3]
          have eL : F.chgL L s1 s2 s3 s4 s5 = L := by unfold F.chgL; rw [if_neg (by rw [eE]; decide)]
          rw [eL]
          exact ite_yes c3 (ite_no (fun q => q eE) ⟨i1, same⟩)
        refine ite_no c3 ⟨⟨hn, hx⟩, hlt, ?_⟩
        by_cases c4 : F.gt5 L s1 = s5
        · have eE : F.chgE L s1 s2 s3 s4 s5 = 0 := by unfold F.chgE; rw [if_pos c1, if_neg c2, if_neg c3, if_pos c4]
          have eL : F.chgL L s1 s2 s3 s4 s5 = L.set (F.idx L s1).toNat (s1, s2, s3, s4, s5) := by unfold F.chgL; rw [if_pos eE]; rfl
          have en : (L.set (F.idx L s1).toNat (s1, s2, s3, s4, s5)).length = L.length := List.length_set
          have nn := nx _ (inv_chg hI eE) (by rw [List.length_set]; omega)
          have ek : F.stk s1 s2 s3 s4 s5 = (s1, s2, s3, s4, s5) := rfl
          rw [ek, en] at nn
          rw [eL, en]
          exact ite_no (fun q => q c4) (ite_yes c1 ⟨⟨hn, hx⟩, hlt, ite_no (fun q => q (eE.trans c1.symm)) ⟨i1, nn⟩⟩)
        · have eE : F.chgE L s1 s2 s3 s4 s5 = 11 := by unfold F.chgE; rw [if_pos c1, if_neg c2, if_neg c3, if_neg c4]
          have eL : F.chgL L s1 s2 s3 s4 s5 = L := by unfold F.chgL; rw [if_neg (by rw [eE]; decide)]
          rw [eL]
          exact ite_yes c4 (ite_no (fun q => q eE) ⟨i1, same⟩)
      · have eE : F.chgE L s1 s2 s3 s4 s5 = F.chkS s1 s2 s3 s4 s5 := by unfold F.chgE; rw [if_neg c1]
        have eL : F.chgL L s1 s2 s3 s4 s5 = L := by unfold F.chgL; rw [if_neg (by rw [eE]; exact c1)]
        rw [eL]
        exact ite_no c1 (ite_no c1 (ite_no c1 (ite_no (fun q => q eE) ⟨i1, same⟩)))
    refine ite_no k2 ⟨by omega, ?_⟩
    by_cases c2 : F.idx L s1 < 0
    · have eE : F.remE L s1 = 8 := by unfold F.remE; rw [if_pos c2]
      have eL : F.remL L s1 = L := by unfold F.remL; rw [if_neg (by rw [eE]; decide)]
      rw [eL]
      exact ite_yes c2 (ite_no (fun q => q eE) ⟨i1, same⟩)
    have hn : 0 ≤ F.idx L s1 := by omega
    have hlt : (F.idx L s1).toNat < L.length := by omega
    have e5 : F.gt5 L s1 = (L.getD (F.idx L s1).toNat F.st0).2.2.2.2 := by unfold F.gt5 F.gt; rw [if_pos hn]
    rw [← e5]
    refine ite_no c2 ⟨⟨hn, hx⟩, hlt, ?_⟩
    by_cases c3 : F.gt5 L s1 = 3
    · have eE : F.remE L s1 = 0 := by unfold F.remE; rw [if_neg c2, if_pos c3]
      have eL : F.remL L s1 = L.eraseIdx (F.idx L s1).toNat := by unfold F.remL; rw [if_pos eE]
      have en : (L.eraseIdx (F.idx L s1).toNat).length = L.length - 1 := List.length_eraseIdx_of_lt hlt
      have nn := nx _ (inv_erase hI (F.idx L s1).toNat) (by omega)
      rw [en] at nn
      rw [eL, en]
      exact ite_no (fun q => q c3) ⟨by unfold Sym.i64ok; omega, ⟨hn, hx⟩, ite_no (fun q => q eE) ⟨i1, nn⟩⟩
    · have eE : F.remE L s1 = 11 := by unfold F.remE; rw [if_neg c2, if_neg c3]
      have eL : F.remL L s1 = L := by unfold F.remL; rw [if_neg (by rw [eE]; decide)]
      rw [eL]
      exact ite_yes c3 (ite_no (fun q => q eE) ⟨i1, same⟩)
  -- the count
  have many : ∀ (L : List F.St) (N : Nat) (i : Nat) (kd : Int) (s1 s2 : List UInt8) (s3 s4 s5 : Int), F.Inv L → L.length ≤ 900 → i ≤ 100 → Sym.i64ok kd →
      (∀ L' : List F.St, F.Inv L' → L'.length ≤ L.length + 1 → Sym.Runs Try.prog b0 (cutAt Try.f3 8) (st_slaw_8 l l_t b c L' L' L'.length L'.length N (N : Int) ((i : Int) + 1)) (Sym.Ends Try.prog Try.f3 1 (.c (.bool true)) [])) →
      ∀ (r j : Nat) (n : Int), j + r = L.length → n + F.cnt (L.drop j) s5 = F.cnt L s5 → 0 ≤ n → Sym.Runs Try.prog b0 (cutAt Try.f3 19) (st_slaw_19 l l_t b c L L L.length L.length N (N : Int) (i : Int) kd s1 s2 s3 s4 s5 (F.idx L s1) (F.chkS s1 s2 s3 s4 s5) n (j : Int)) (Sym.Ends Try.prog Try.f3 1 (.c (.bool true)) []) := by
    intro L N i kd s1 s2 s3 s4 s5 hI hL hi hkd nx r
    induction r with
    | zero =>
      intro j n hj hn h0
      refine Runs.go (cfg := C_smvK) L_smvK_ok mixed cuts_slaw 400 hb (slaw_t19 l l_t b c L L L.length L.length N (N : Int) (i : Int) kd s1 s2 s3 s4 s5 _ _ n (j : Int)) ?_
      have e : n = F.cnt L s5 := by
        rw [List.drop_of_length_le (by omega)] at hn
        have : F.cnt [] s5 = 0 := rfl
        omega
      have st := step L N i kd s1 s2 s3 s4 s5 (j : Int) hI hL hi hkd nx
      rw [← e] at st
      simp only [T.wp, T.wp_cond, Aft, Int.ofNat_eq_natCast, decide_eq_true_eq, and_true, true_and, Nat.zero_add, Bool.not_eq_true', decide_eq_false_iff_not]
      exact ite_no (by omega) st
    | succ r ih =>
      intro j n hj hn h0
      refine Runs.go (cfg := C_smvK) L_smvK_ok mixed cuts_slaw 400 hb (slaw_t19 l l_t b c L L L.length L.length N (N : Int) (i : Int) kd s1 s2 s3 s4 s5 _ _ n (j : Int)) ?_
      have hlt : j < L.length := by omega
      have hlt' : (j : Int) < (L.length : Int) := by omega
      have ed : L.drop j = L.getD j F.st0 :: L.drop (j + 1) := by
        rw [List.drop_eq_getElem_cons hlt, List.getD_eq_getElem?_getD, List.getElem?_eq_getElem hlt]
        rfl
      rw [ed, cnt_cons] at hn
      have hc := hI.n s5
      have d0 : (cod 1).d = F.st0 := rfl
      simp only [T.wp, T.wp_cond, Aft, Int.ofNat_eq_natCast, decide_eq_true_eq, and_true, true_and, Nat.zero_add, Bool.not_eq_true', decide_eq_false_iff_not, Nat.zero_add, Int.toNat_natCast, d0]
      refine ite_yes hlt' ⟨⟨by omega, hlt'⟩, hlt, ?_⟩
      by_cases e : (L.getD j F.st0).2.2.2.2 = s5
      · rw [if_pos e] at hn
        exact ite_yes e ⟨by unfold Sym.i64ok; omega, by unfold Sym.i64ok; omega, ih (j + 1) (n + 1) (by omega) (by omega) (by omega)⟩
      · rw [if_neg e] at hn
        exact ite_no e ⟨by unfold Sym.i64ok; omega, ih (j + 1) n (by omega) (by omega) h0⟩
  -- the calls
  have calls : ∀ (N : Nat), N ≤ l.length → N ≤ 20 → ∀ (r i : Nat) (L : List F.St), i + r = N → F.Inv L → L.length ≤ i → Sym.Runs Try.prog b0 (cutAt Try.f3 8) (st_slaw_8 l l_t b c L L L.length L.length N (N : Int) (i : Int)) (Sym.Ends Try.prog Try.f3 1 (.c (.bool true)) []) := by
    intro N hN h20 r
    induction r with
    | zero =>
      intro i L hi hI hL
      refine Runs.go (cfg := C_smvK) L_smvK_ok mixed cuts_slaw 400 hb (slaw_t8 l l_t b c L L L.length L.length N (N : Int) (i : Int)) ?_
      simp only [T.wp, T.wp_cond, Aft, Int.ofNat_eq_natCast, decide_eq_true_eq, and_true, true_and, Nat.zero_add, Bool.not_eq_true', decide_eq_false_iff_not]
      exact ite_no (by omega) (fin56 L N (N : Int) (i : Int) hI (by omega))
    | succ r ih =>
      intro i L hi hI hL
      refine Runs.go (cfg := C_smvK) L_smvK_ok mixed cuts_slaw 400 hb (slaw_t8 l l_t b c L L L.length L.length N (N : Int) (i : Int)) ?_
      have nx : ∀ L' : List F.St, F.Inv L' → L'.length ≤ L.length + 1 → Sym.Runs Try.prog b0 (cutAt Try.f3 8) (st_slaw_8 l l_t b c L' L' L'.length L'.length N (N : Int) ((i : Int) + 1)) (Sym.Ends Try.prog Try.f3 1 (.c (.bool true)) []) := by
        intro L' h1 h2
        have := ih (i + 1) L' (by omega) h1 (by omega)
        rw [show ((i + 1 : Nat) : Int) = (i : Int) + 1 by omega] at this
        exact this
      have hlt' : (i : Int) < (N : Int) := by omega
      have hk := h0 (l.getD i (cod 6).d) (getD_memA _ (by omega))
      simp only [T.wp, T.wp_cond, Aft, Int.ofNat_eq_natCast, decide_eq_true_eq, and_true, true_and, Nat.zero_add, Bool.not_eq_true', decide_eq_false_iff_not, Nat.zero_add, Int.toNat_natCast]
      generalize l.getD i (cod 6).d = x at *
      obtain ⟨kd, s1, s2, s3, s4, s5⟩ := x
      have K := many L N i kd s1 s2 s3 s4 s5 hI (by omega) (by omega) hk nx L.length 0 0 (by omega) (by simp) (by omega)
      refine ite_yes hlt' ⟨⟨by omega, hlt'⟩, by omega, by omega, ?_⟩
      simp only
      have e6 : ∀ v : Int, F.chkS s1 s2 s3 s4 s5 = v → Sym.Runs Try.prog b0 (cutAt Try.f3 19) (st_slaw_19 l l_t b c L L L.length L.length N (N : Int) (i : Int) kd s1 s2 s3 s4 s5 (F.idx L s1) v 0 0) (Sym.Ends Try.prog Try.f3 1 (.c (.bool true)) []) := by
        intro v hv
        rw [← hv]
        exact K
      have nb : F.nob s5 = !F.inb s5 0 3 := by
        unfold F.nob F.inb
        by_cases q1 : s5 < 0 <;> by_cases q2 : 3 < s5 <;> simp [q1, q2] <;> omega
      cases v1 : F.named s1 with
      | false => exact ite_yes rfl (e6 6 (by unfold F.chkS; rw [v1]; rfl))
      | true =>
        refine ite_no (by decide) ?_
        cases v2 : F.named s2 with
        | false => exact ite_yes rfl (e6 6 (by unfold F.chkS; rw [v1, v2]; rfl))
        | true =>
          refine ite_no (by decide) ?_
          cases v3 : F.inb s3 0 200000 with
          | false => exact ite_yes rfl (e6 4 (by unfold F.chkS; rw [v1, v2, v3]; rfl))
          | true =>
            refine ite_no (by decide) ?_
            cases v4 : F.inb s4 0 60000 with
            | false => exact ite_yes rfl (e6 4 (by unfold F.chkS; rw [v1, v2, v3, v4]; rfl))
            | true =>
              refine ite_no (by decide) ?_
              cases v5 : F.inb s5 0 3 with
              | false => exact ite_yes rfl (e6 4 (by unfold F.chkS; rw [v1, v2, v3, v4, nb, v5]; rfl))
              | true => exact ite_no (by decide) (e6 0 (by unfold F.chkS; rw [v1, v2, v3, v4, nb, v5]; rfl))
  refine Runs.go (cfg := C_smvK) L_smvK_ok mixed cuts_slaw 400 hb (slaw_t0 l l_t b c) ?_
  simp only [T.wp, T.wp_cond, Aft, Int.ofNat_eq_natCast, decide_eq_true_eq, and_true, true_and, Nat.zero_add, Bool.not_eq_true', decide_eq_false_iff_not]
  refine Runs.made 1 0 1 26 rfl rfl (st' := st_slaw_r6b l l_t b c) rfl ?_
  refine Runs.go (cfg := C_smvK) L_smvK_ok mixed cuts_slaw_r6b 400 hb (slaw_tr6b l l_t b c) ?_
  simp only [T.wp, T.wp_cond, Aft, Int.ofNat_eq_natCast, decide_eq_true_eq, and_true, true_and, Nat.zero_add, Bool.not_eq_true', decide_eq_false_iff_not]
  have h8 := calls (Int.toNat (min (Int.ofNat (List.length l)) 20)) (by simp only [Int.ofNat_eq_natCast]; omega) (by simp only [Int.ofNat_eq_natCast]; omega) _ 0 [] (Nat.zero_add _) inv_nil (Nat.le_refl _)
  exact ⟨⟨by omega, by omega⟩, h8⟩



noncomputable def s_slaw : Summ cod := fun args H => match args, H with
  | [.c (.slc 0 l_i l_n l_t), .c (.int .i64 b), .c (.str c)], [o0] => (match o0.asInp 6 with | some l => .need ((l_i = 0 ∧ l_n = List.length l) ∧ (∀ x ∈ l, Sym.i64ok x.1)) (.ret (.c (.bool true), [])) | none => .fail)
  | _, _ => .fail


theorem slaw_sound : Sound Try.prog cod 3 s_slaw := sound_runs (cfg := C_smvK) L_smvK_ok mixed Try.func3 rfl rfl _ fun args H r news hg b0 hb => by
  unfold s_slaw at hg
  split at hg
  · skip
    split at hg
    · rename_i l hx0
      cases asInp_spec hx0
      simp only [T.gives, T.wp, Prod.mk.injEq] at hg
      obtain ⟨⟨⟨rfl, rfl⟩, q1⟩, rfl, rfl⟩ := hg
      exact slaw_run _ _ _ _ b0 hb (by assumption)
    · exact hg.elim
  · exact hg.elim

noncomputable def L_slaw : Sums cod := (3, .p s_slaw) :: L_smvK
noncomputable def C_slaw : Cfg cod := mkC L_slaw

theorem L_slaw_ok : Snd Try.prog cod L_slaw := .cons slaw_sound L_smvK_ok


end
end Go.Proofs.Ytkfkfihjdohjfaa
