/- Part of a claim: lemmas on the way to its theorem; each states its own conditions. -/
import Derived.Test.YtbkpgpkeecnjpaaIb
namespace Go.Proofs.Ytbkpgpkeecnjpaa
open Sym Go.RowKit
noncomputable section
set_option maxRecDepth 100000
set_option maxHeartbeats 4000000



def cuts_bmlaw : Cuts := [(100008, [0, 1], 2), (100009, [7, 8, 0, 1], 3), (10, [7, 8, 51, 0, 1, 52, 53], 6), (100015, [8, 0, 1, 7], 3), (21, [0, 1, 7, 8, 81, 82, 13, 12, 11], 30)]
def cuts_bmlaw_r8 : Cuts := [(100009, [7, 8, 0, 1], 3), (10, [7, 8, 51, 0, 1, 52, 53], 6), (100015, [8, 0, 1, 7], 3), (21, [0, 1, 7, 8, 81, 82, 13, 12, 11], 30)]
def cuts_bmlaw_r9 : Cuts := [(100008, [0, 1], 2), (10, [7, 8, 51, 0, 1, 52, 53], 6), (100015, [8, 0, 1, 7], 3), (21, [0, 1, 7, 8, 81, 82, 13, 12, 11], 30)]
def cuts_bmlaw_r15 : Cuts := [(100008, [0, 1], 2), (100009, [7, 8, 0, 1], 3), (10, [7, 8, 51, 0, 1, 52, 53], 6), (21, [0, 1, 7, 8, 81, 82, 13, 12, 11], 30)]

theorem bmlaw_t0 (a : List (Int × Int × Int × Int × Int × Int)) (a_t : Bool) (b : List (Int × Int × Int × Int × Int × Int)) (b_t : Bool) : symF C_mid cuts_bmlaw Try.f6.results.toList 2 400 [.code (codeOf Try.f6)] ⟨argsS Try.f6 [.c (.slc 0 0 (List.length a) a_t), .c (.slc 1 0 (List.length b) b_t)], ([.inp 2 a, .inp 2 b] : Heap cod)⟩ =
.need (((0 = 0 ∧ 1 = 1) ∧ (0 = 0 ∧ 1 = 1))) (
 cond (decide (40 < Int.ofNat (List.length a))) (
 .need (((0 : Int) ≤ 40 ∧ (40 : Int) ≤ Int.ofNat (List.length a))) (
 cond (decide (40 < Int.ofNat (List.length b))) (
  .need (((0 : Int) ≤ 40 ∧ (40 : Int) ≤ Int.ofNat (List.length b))) (
  .ret (.cut (regAt Try.f6 8) ⟨tmG 162 [(0, .c (.slc 0 0 40 false)), (0, .c (.slc 1 0 40 false))], [.inp 2 a, .inp 2 b]⟩))) (
  .ret (.cut (regAt Try.f6 8) ⟨tmG 162 [(0, .c (.slc 0 0 40 false)), (0, .c (.slc 1 0 (List.length b) b_t))], [.inp 2 a, .inp 2 b]⟩)))) (
 cond (decide (40 < Int.ofNat (List.length b))) (
  .need (((0 : Int) ≤ 40 ∧ (40 : Int) ≤ Int.ofNat (List.length b))) (
  .ret (.cut (regAt Try.f6 8) ⟨tmG 162 [(0, .c (.slc 0 0 (List.length a) a_t)), (0, .c (.slc 1 0 40 false))], [.inp 2 a, .inp 2 b]⟩))) (
  .ret (.cut (regAt Try.f6 8) ⟨tmG 162 [(0, .c (.slc 0 0 (List.length a) a_t)), (0, .c (.slc 1 0 (List.length b) b_t))], [.inp 2 a, .inp 2 b]⟩)))) := by kernel_rfl


noncomputable def st_bmlaw_r8 (a : List (Int × Int × Int × Int × Int × Int)) (a_t : Bool) (b : List (Int × Int × Int × Int × Int × Int)) (b_t : Bool) (an : Nat) (at' : Bool) (bn : Nat) (bt' : Bool) : St cod := ⟨tmG 162 [(0, .c (.slc 0 0 an at')), (0, .c (.slc 1 0 bn bt'))], [.inp 2 a, .inp 2 b]⟩


theorem bmlaw_tr8 (a : List (Int × Int × Int × Int × Int × Int)) (a_t : Bool) (b : List (Int × Int × Int × Int × Int × Int)) (b_t : Bool) (an : Nat) (at' : Bool) (bn : Nat) (bt' : Bool) : symF C_mid cuts_bmlaw_r8 Try.f6.results.toList 2 400 (regAt Try.f6 8) (st_bmlaw_r8 a a_t b b_t an at' bn bt') =
.need (((0 = 0 ∧ an = List.length a) ∧ (0 = 0 ∧ bn = List.length b))) (
.ret (.cut (regAt Try.f6 9) ⟨tmG 155 [(0, .c (.slc 0 0 (an) at')), (0, .c (.slc 1 0 (bn) bt')), (5, .c (.ptr 2 0 0)), (0, .c (.int .i64 (F.estE a b)))], [.inp 2 a, .inp 2 b, .blk [.int .i64 (F.zz (F.estE a b) (F.mR a b)), .int .i64 (F.zz (F.estE a b) (F.mA a b)), .int .i64 (F.zz (F.estE a b) (F.mT a b))] 49]⟩)) := by kernel_rfl


noncomputable def st_bmlaw_r9 (a : List (Int × Int × Int × Int × Int × Int)) (a_t : Bool) (b : List (Int × Int × Int × Int × Int × Int)) (b_t : Bool) (an : Nat) (at' : Bool) (bn : Nat) (bt' : Bool) (E r z t : Int) : St cod := ⟨tmG 155 [(0, .c (.slc 0 0 (an) at')), (0, .c (.slc 1 0 (bn) bt')), (5, .c (.ptr 2 0 0)), (0, .c (.int .i64 E))], ([.inp 2 a, .inp 2 b, .blk [.int .i64 r, .int .i64 z, .int .i64 t] 49] : Heap cod)⟩


theorem bmlaw_tr9 (a : List (Int × Int × Int × Int × Int × Int)) (a_t : Bool) (b : List (Int × Int × Int × Int × Int × Int)) (b_t : Bool) (an : Nat) (at' : Bool) (bn : Nat) (bt' : Bool) (E r z t : Int) : symF C_mid cuts_bmlaw_r9 Try.f6.results.toList 2 400 (regAt Try.f6 9) (st_bmlaw_r9 a a_t b b_t an at' bn bt' E r z t) =
.need (List.length (List.take an (List.drop 0 a)) = an) (
.need (0 = 0) (
.need (((0 : Nat) < List.length (List.take an (List.drop 0 a)) ∧ 0 + List.length (List.take an (List.drop 0 a)) ≤ 1000000)) (
.need (List.length (List.take bn (List.drop 0 b)) = bn) (
.need (0 + List.length (List.take an (List.drop 0 a)) + List.length (List.take bn (List.drop 0 b)) ≤ 1000000) (
.ret (.cut (cutAt Try.f6 10) ⟨tmG 110 [(0, .c (.slc 0 0 (an) at')), (0, .c (.slc 1 0 (bn) bt')), (5, .c (.ptr 2 0 0)), (0, .c (.int .i64 E)), (42, .c (.own 4 (0 + List.length (List.take an (List.drop 0 a)) + List.length (List.take bn (List.drop 0 b))))), (0, .c (.int .i64 (Int.ofNat (0 + List.length (List.take an (List.drop 0 a)) + List.length (List.take bn (List.drop 0 b)))))), (0, .c (.int .i64 0))], [.inp 2 a, .inp 2 b, .blk [.int .i64 r, .int .i64 z, .int .i64 t] 49, .arr 2 [] 53, .own 2 (([] ++ (List.take an (List.drop 0 a))) ++ (List.take bn (List.drop 0 b))) 53]⟩)))))) := by kernel_rfl


noncomputable def st_bmlaw_10 (a : List (Int × Int × Int × Int × Int × Int)) (a_t : Bool) (b : List (Int × Int × Int × Int × Int × Int)) (b_t : Bool) (an : Nat) (at' : Bool) (bn : Nat) (bt' : Bool) (E r z t : Int) (L : List (Int × Int × Int × Int × Int × Int)) (n : Nat) (k : Int) : St cod := ⟨tmG 110 [(0, .c (.slc 0 0 (an) at')), (0, .c (.slc 1 0 (bn) bt')), (5, .c (.ptr 2 0 0)), (0, .c (.int .i64 E)), (42, .c (.slc 3 0 n false)), (0, .c (.int .i64 n)), (0, .c (.int .i64 k))], ([.inp 2 a, .inp 2 b, .blk [.int .i64 r, .int .i64 z, .int .i64 t] 49, .inp 2 L] : Heap cod)⟩


theorem bmlaw_t10 (a : List (Int × Int × Int × Int × Int × Int)) (a_t : Bool) (b : List (Int × Int × Int × Int × Int × Int)) (b_t : Bool) (an : Nat) (at' : Bool) (bn : Nat) (bt' : Bool) (E r z t : Int) (L : List (Int × Int × Int × Int × Int × Int)) (n : Nat) (k : Int) : symF C_mid cuts_bmlaw Try.f6.results.toList 2 400 (cutAt Try.f6 10) (st_bmlaw_10 a a_t b b_t an at' bn bt' E r z t L n k) =
 cond (decide (k < Int.ofNat n)) (
 .need (((0 : Int) ≤ k ∧ k < Int.ofNat n)) (
 .need (0 + Int.toNat k < List.length L) (
 cond (!decide     (F.plot (List.getD L (0 + Int.toNat k) (cod 2).d).1 (List.getD L (0 + Int.toNat k) (cod 2).d).2.1         (List.getD L (0 + Int.toNat k) (cod 2).d).2.2.1 (List.getD L (0 + Int.toNat k) (cod 2).d).2.2.2.1         (List.getD L (0 + Int.toNat k) (cod 2).d).2.2.2.2.1 (List.getD L (0 + Int.toNat k) (cod 2).d).2.2.2.2.2 =       0)) (
  cond (decide (E = 4)) (
   .ret (.fin (.c (.bool (decide (r = 0) && (decide (z = 0) && decide (t = 0))))) [])) (
   .ret (.fin (.c (.bool false)) []))) (
  .need (i64ok (k + 1)) (
  .ret (.cut (cutAt Try.f6 10) ⟨tmG 110 [(0, .c (.slc 0 0 (an) at')), (0, .c (.slc 1 0 (bn) bt')), (5, .c (.ptr 2 0 0)), (0, .c (.int .i64 E)), (42, .c (.slc 3 0 (n) false)), (0, .c (.int .i64 (Int.ofNat n))), (0, .c (.int .i64 (k + 1)))], [.inp 2 a, .inp 2 b, .blk [.int .i64 r, .int .i64 z, .int .i64 t] 49, .inp 2 L, .blk [.int .i64 ((List.getD L (0 + Int.toNat k) (cod 2).d).1), .int .i64 ((List.getD L (0 + Int.toNat k) (cod 2).d).2.1), .int .i64 ((List.getD L (0 + Int.toNat k) (cod 2).d).2.2.1), .int .i64 ((List.getD L (0 + Int.toNat k) (cod 2).d).2.2.2.1), .int .i64 ((List.getD L (0 + Int.toNat k) (cod 2).d).2.2.2.2.1), .int .i64 ((List.getD L (0 + Int.toNat k) (cod 2).d).2.2.2.2.2)] 53]⟩)))))) (
 .ret (.cut (regAt Try.f6 15) ⟨tmG 155 [(0, .c (.slc 0 0 (an) at')), (0, .c (.slc 1 0 (bn) bt')), (5, .c (.ptr 2 0 0)), (0, .c (.int .i64 E))], [.inp 2 a, .inp 2 b, .blk [.int .i64 r, .int .i64 z, .int .i64 t] 49]⟩)) := by kernel_rfl


noncomputable def st_bmlaw_r15 (a : List (Int × Int × Int × Int × Int × Int)) (a_t : Bool) (b : List (Int × Int × Int × Int × Int × Int)) (b_t : Bool) (an : Nat) (at' : Bool) (bn : Nat) (bt' : Bool) (E r z t : Int) : St cod := ⟨tmG 155 [(0, .c (.slc 0 0 (an) at')), (0, .c (.slc 1 0 (bn) bt')), (5, .c (.ptr 2 0 0)), (0, .c (.int .i64 E))], ([.inp 2 a, .inp 2 b, .blk [.int .i64 r, .int .i64 z, .int .i64 t] 49] : Heap cod)⟩


theorem bmlaw_tr15 (a : List (Int × Int × Int × Int × Int × Int)) (a_t : Bool) (b : List (Int × Int × Int × Int × Int × Int)) (b_t : Bool) (an : Nat) (at' : Bool) (bn : Nat) (bt' : Bool) (E r z t : Int) : symF C_mid cuts_bmlaw_r15 Try.f6.results.toList 2 400 (regAt Try.f6 15) (st_bmlaw_r15 a a_t b b_t an at' bn bt' E r z t) =
 cond (!decide (Int.ofNat an = Int.ofNat bn)) (
 .ret (.fin (.c (.bool (decide (E = 3)))) [])) (
 cond (decide (Int.ofNat an = 0)) (
  .ret (.fin (.c (.bool (decide (E = 8)))) [])) (
  .ret (.cut (cutAt Try.f6 21) ⟨tmG 81 [(0, .c (.slc 0 0 (an) at')), (0, .c (.slc 1 0 (bn) bt')), (5, .c (.ptr 2 0 0)), (0, .c (.int .i64 E)), (2, .c (.own 3 0)), (0, .c (.own 4 0)), (0, .c (.own 5 0)), (67, .c (.int .i64 (Int.ofNat an))), (0, .c (.int .i64 0))], [.inp 2 a, .inp 2 b, .blk [.int .i64 r, .int .i64 z, .int .i64 t] 49, .own 0 [] 3, .own 0 [] 3, .own 0 [] 3]⟩))) := by kernel_rfl


noncomputable def st_bmlaw_21 (a : List (Int × Int × Int × Int × Int × Int)) (a_t : Bool) (b : List (Int × Int × Int × Int × Int × Int)) (b_t : Bool) (an : Nat) (at' : Bool) (bn : Nat) (bt' : Bool) (E r z t : Int) (x y w : List Int) (xn yn wn : Nat) (i : Int) : St cod := ⟨tmG 81 [(0, .c (.slc 0 0 (an) at')), (0, .c (.slc 1 0 (bn) bt')), (5, .c (.ptr 2 0 0)), (0, .c (.int .i64 E)), (2, .c (.own 3 xn)), (0, .c (.own 4 yn)), (0, .c (.own 5 wn)), (67, .c (.int .i64 (Int.ofNat an))), (0, .c (.int .i64 i))], ([.inp 2 a, .inp 2 b, .blk [.int .i64 r, .int .i64 z, .int .i64 t] 49, .own 0 x 3, .own 0 y 3, .own 0 w 3] : Heap cod)⟩


theorem bmlaw_t21 (a : List (Int × Int × Int × Int × Int × Int)) (a_t : Bool) (b : List (Int × Int × Int × Int × Int × Int)) (b_t : Bool) (an : Nat) (at' : Bool) (bn : Nat) (bt' : Bool) (E r z t : Int) (x y w : List Int) (xn yn wn : Nat) (i : Int) : symF C_mid cuts_bmlaw Try.f6.results.toList 2 400 (cutAt Try.f6 21) (st_bmlaw_21 a a_t b b_t an at' bn bt' E r z t x y w xn yn wn i) =
 cond (decide (i < Int.ofNat an)) (
 .need (((0 : Int) ≤ i ∧ i < Int.ofNat bn)) (
 .need (0 + Int.toNat i < List.length b) (
 .need (((0 : Int) ≤ i ∧ i < Int.ofNat an)) (
 .need (0 + Int.toNat i < List.length a) (
 .need (i64ok ((List.getD b (0 + Int.toNat i) (cod 2).d).2.2.1 - (List.getD a (0 + Int.toNat i) (cod 2).d).2.2.1)) (
 .need (1 = 1) (
 .need (xn + 1 ≤ 1000000) (
 .need (((0 : Int) ≤ i ∧ i < Int.ofNat an)) (
 .need (0 + Int.toNat i < List.length a) (
 .need (((0 : Int) ≤ i ∧ i < Int.ofNat bn)) (
 .need (0 + Int.toNat i < List.length b) (
 .need (((-100000 : Int) ≤ (List.getD b (0 + Int.toNat i) (cod 2).d).2.2.2.1 - (List.getD a (0 + Int.toNat i) (cod 2).d).2.2.2.1 ∧ (List.getD b (0 + Int.toNat i) (cod 2).d).2.2.2.1 - (List.getD a (0 + Int.toNat i) (cod 2).d).2.2.2.1 ≤ 100000)) (
 .need (1 = 1) (
 .need (yn + 1 ≤ 1000000) (
 .need (((0 : Int) ≤ i ∧ i < Int.ofNat bn)) (
 .need (0 + Int.toNat i < List.length b) (
 .need (((0 : Int) ≤ i ∧ i < Int.ofNat an)) (
 .need (0 + Int.toNat i < List.length a) (
 .need (i64ok ((List.getD b (0 + Int.toNat i) (cod 2).d).2.1 - (List.getD a (0 + Int.toNat i) (cod 2).d).2.1)) (
 .need (1 = 1) (
 .need (wn + 1 ≤ 1000000) (
 .need (i64ok (i + 1)) (
 .ret (.cut (cutAt Try.f6 21) ⟨tmG 81 [(0, .c (.slc 0 0 (an) at')), (0, .c (.slc 1 0 (bn) bt')), (5, .c (.ptr 2 0 0)), (0, .c (.int .i64 E)), (2, .c (.own 7 (xn + 1))), (0, .c (.own 9 (yn + 1))), (0, .c (.own 11 (wn + 1))), (67, .c (.int .i64 (Int.ofNat an))), (0, .c (.int .i64 (i + 1)))], [.inp 2 a, .inp 2 b, .blk [.int .i64 r, .int .i64 z, .int .i64 t] 49, .dead, .dead, .dead, .arr 0 ([(List.getD b (0 + Int.toNat i) (cod 2).d).2.2.1 - (List.getD a (0 + Int.toNat i) (cod 2).d).2.2.1]) 3, .own 0 (x ++ ([(List.getD b (0 + Int.toNat i) (cod 2).d).2.2.1 - (List.getD a (0 + Int.toNat i) (cod 2).d).2.2.1])) 3, .arr 0 ([F.dif (List.getD a (0 + Int.toNat i) (cod 2).d).2.2.2.1 (List.getD b (0 + Int.toNat i) (cod 2).d).2.2.2.1]) 3, .own 0 (y ++ ([F.dif (List.getD a (0 + Int.toNat i) (cod 2).d).2.2.2.1 (List.getD b (0 + Int.toNat i) (cod 2).d).2.2.2.1])) 3, .arr 0 ([(List.getD b (0 + Int.toNat i) (cod 2).d).2.1 - (List.getD a (0 + Int.toNat i) (cod 2).d).2.1]) 3, .own 0 (w ++ ([(List.getD b (0 + Int.toNat i) (cod 2).d).2.1 - (List.getD a (0 + Int.toNat i) (cod 2).d).2.1])) 3]⟩)))))))))))))))))))))))) (
 .need (((0 = 0 ∧ xn = List.length x) ∧ ((0 : Nat) < List.length x ∧ List.length x ≤ 1000))) (
 .need (((0 = 0 ∧ yn = List.length y) ∧ ((0 : Nat) < List.length y ∧ List.length y ≤ 1000))) (
 .need (((0 = 0 ∧ wn = List.length w) ∧ ((0 : Nat) < List.length w ∧ List.length w ≤ 1000))) (
 cond (!F.inb (F.med x) (-10000) 10000) (
  cond (decide (E = 4)) (
   .ret (.fin (.c (.bool (decide (r = 0) && (decide (z = 0) && decide (t = 0))))) [])) (
   .ret (.fin (.c (.bool false)) []))) (
  cond (!F.inb (F.med w) (-1000) 1000) (
   cond (decide (E = 4)) (
    .ret (.fin (.c (.bool (decide (r = 0) && (decide (z = 0) && decide (t = 0))))) [])) (
    .ret (.fin (.c (.bool false)) []))) (
   cond (decide (E = 0)) (
    cond (decide (r = F.med x) && (decide (z = F.med y) && decide (t = F.med w))) (
     .ret (.fin (.c (.bool (decide (F.bchk r z t = 0)))) [])) (
     .ret (.fin (.c (.bool false)) []))) (
    .ret (.fin (.c (.bool false)) [])))))))) := by kernel_rfl


theorem bmlaw_tr9m (a : List (Int × Int × Int × Int × Int × Int)) (a_t : Bool) (b : List (Int × Int × Int × Int × Int × Int)) (b_t : Bool) (an : Nat) (at' : Bool) (bn : Nat) (bt' : Bool) (E r z t : Int) : symF (Cfg.maybe C_mid) cuts_bmlaw_r9 Try.f6.results.toList 2 400 (regAt Try.f6 9) (st_bmlaw_r9 a a_t b b_t an at' bn bt' E r z t) =
.need (List.length (List.take an (List.drop 0 a)) = an) (
.ite (decide (List.length (List.take an (List.drop 0 a)) = 0)) (
 .need (List.length (List.take bn (List.drop 0 b)) = bn) (
 .ite (decide (List.length (List.take bn (List.drop 0 b)) = 0)) (
  .ret (.cut (cutAt Try.f6 10) ⟨tmG 110 [(0, .c (.slc 0 0 (an) at')), (0, .c (.slc 1 0 (bn) bt')), (5, .c (.ptr 2 0 0)), (0, .c (.int .i64 E)), (42, .c (.slc 3 0 0 true)), (0, .c (.int .i64 (Int.ofNat 0))), (0, .c (.int .i64 0))], [.inp 2 a, .inp 2 b, .blk [.int .i64 r, .int .i64 z, .int .i64 t] 49, .arr 2 [] 53]⟩)) (
  .need (0 = 0) (
  .need (((0 : Nat) < List.length (List.take bn (List.drop 0 b)) ∧ 0 + List.length (List.take bn (List.drop 0 b)) ≤ 1000000)) (
  .ret (.cut (cutAt Try.f6 10) ⟨tmG 110 [(0, .c (.slc 0 0 (an) at')), (0, .c (.slc 1 0 (bn) bt')), (5, .c (.ptr 2 0 0)), (0, .c (.int .i64 E)), (42, .c (.own 4 (0 + List.length (List.take bn (List.drop 0 b))))), (0, .c (.int .i64 (Int.ofNat (0 + List.length (List.take bn (List.drop 0 b)))))), (0, .c (.int .i64 0))], [.inp 2 a, .inp 2 b, .blk [.int .i64 r, .int .i64 z, .int .i64 t] 49, .arr 2 [] 53, .own 2 ([] ++ (List.take bn (List.drop 0 b))) 53]⟩)))))) (
 .need (0 = 0) (
 .need (((0 : Nat) < List.length (List.take an (List.drop 0 a)) ∧ 0 + List.length (List.take an (List.drop 0 a)) ≤ 1000000)) (
 .need (List.length (List.take bn (List.drop 0 b)) = bn) (
 .need (0 + List.length (List.take an (List.drop 0 a)) + List.length (List.take bn (List.drop 0 b)) ≤ 1000000) (
 .ret (.cut (cutAt Try.f6 10) ⟨tmG 110 [(0, .c (.slc 0 0 (an) at')), (0, .c (.slc 1 0 (bn) bt')), (5, .c (.ptr 2 0 0)), (0, .c (.int .i64 E)), (42, .c (.own 4 (0 + List.length (List.take an (List.drop 0 a)) + List.length (List.take bn (List.drop 0 b))))), (0, .c (.int .i64 (Int.ofNat (0 + List.length (List.take an (List.drop 0 a)) + List.length (List.take bn (List.drop 0 b)))))), (0, .c (.int .i64 0))], [.inp 2 a, .inp 2 b, .blk [.int .i64 r, .int .i64 z, .int .i64 t] 49, .arr 2 [] 53, .own 2 (([] ++ (List.take an (List.drop 0 a))) ++ (List.take bn (List.drop 0 b))) 53]⟩))))))) := by kernel_rfl



theorem mem_listN {f : F.C6 → F.C6 → Int} {a b : List F.C6} : ∀ (m j : Nat) (v : Int), v ∈ F.listN f a b m j → ∃ i, v = f (a.getD i F.d6) (b.getD i F.d6)
  | 0, j, v, h => by cases h
  | m + 1, j, v, h => by
    rw [F.listN] at h
    rcases List.mem_cons.1 h with h | h
    · exact ⟨j, h⟩
    · exact mem_listN m (j + 1) v h
theorem listN_len {f : F.C6 → F.C6 → Int} {a b : List F.C6} : ∀ (m j : Nat), (F.listN f a b m j).length = m
  | 0, j => rfl
  | m + 1, j => by rw [F.listN, List.length_cons, listN_len m (j + 1)]
theorem med_mem {l : List Int} (hp : 0 < l.length) : F.med l ∈ l := by
  obtain ⟨j, hj, hg⟩ := gd_has hp
  rw [gd_med hp hg, List.getD, List.getElem?_eq_getElem hj]
  exact List.getElem_mem hj
theorem mA_in {a b : List F.C6} (hp : 0 < a.length) : F.inb (F.mA a b) (-2047) 2048 = true := by
  have hm : F.mA a b ∈ F.listN F.fA a b a.length 0 := med_mem (by rw [listN_len]; exact hp)
  obtain ⟨i, hi⟩ := mem_listN _ _ _ hm
  rw [hi]
  unfold F.fA F.dif F.inb
  simp only [Bool.and_eq_true, decide_eq_true_eq]
  generalize (b.getD i F.d6).2.2.2.1 - (a.getD i F.d6).2.2.2.1 = q
  have h2 := Int.emod_nonneg q (show (4096 : Int) ≠ 0 by decide)
  have h3 := Int.emod_lt_of_pos q (show (0 : Int) < 4096 by decide)
  split <;> omega
theorem bm21 (a : List F.C6) (a_t : Bool) (b : List F.C6) (b_t : Bool) (at' bt' : Bool) (b0 : Base) (hb : b0.n = 2) (hlen : b.length = a.length) (hpos : 0 < a.length) (h40 : a.length ≤ 40) (ha : ∀ j, j < a.length → F.plot6 (a.getD j F.d6) = 0) (hbb : ∀ j, j < a.length → F.plot6 (b.getD j F.d6) = 0) (E r z t : Int)
    (hE : E = F.bchk (F.mR a b) (F.mA a b) (F.mT a b)) (hr : r = F.zz E (F.mR a b)) (hz : z = F.zz E (F.mA a b)) (ht : t = F.zz E (F.mT a b)) :
    ∀ (m : Nat) (i : Int) (x y w : List Int) (xn yn wn : Nat), 0 ≤ i → i + m = a.length → xn = i.toNat → yn = i.toNat → wn = i.toNat → x.length = xn → y.length = yn → w.length = wn →
    x ++ F.listN F.fR a b m i.toNat = F.listN F.fR a b a.length 0 → y ++ F.listN F.fA a b m i.toNat = F.listN F.fA a b a.length 0 → w ++ F.listN F.fT a b m i.toNat = F.listN F.fT a b a.length 0 →
    Sym.Runs Try.prog b0 (cutAt Try.f6 21) (st_bmlaw_21 a a_t b b_t a.length at' b.length bt' E r z t x y w xn yn wn i) (Sym.Ends Try.prog Try.f6 2 (.c (.bool true)) []) := by
  intro m
  induction m with
  | zero =>
    intro i x y w xn yn wn h0 hm e1 e2 e3 l1 l2 l3 hx hy hw
    simp only [F.listN, List.append_nil] at hx hy hw
    refine Runs.go (cfg := C_mid) L_mid_ok mixed cuts_bmlaw 400 hb (bmlaw_t21 a a_t b b_t a.length at' b.length bt' E r z t x y w xn yn wn i) ?_
    simp only [T.wp, T.wp_cond, Aft, decide_eq_true_eq]
    refine ite_no (by simp only [Int.ofNat_eq_natCast]; omega) ?_
    have g1 : F.med x = F.mR a b := by unfold F.mR; rw [hx]
    have g2 : F.med y = F.mA a b := by unfold F.mA; rw [hy]
    have g3 : F.med w = F.mT a b := by unfold F.mT; rw [hw]
    rw [g1, g2, g3]
    refine ⟨⟨⟨trivial, l1.symm⟩, by omega, by omega⟩, ⟨⟨trivial, l2.symm⟩, by omega, by omega⟩, ⟨⟨trivial, l3.symm⟩, by omega, by omega⟩, ?_⟩
    have hA := mA_in (b := b) hpos
    unfold F.bchk at hE
    rw [hA, Bool.true_and] at hE
    have four : E = 4 → (SV.c (.bool (decide (r = 0) && (decide (z = 0) && decide (t = 0)))) = SV.c (.bool true)) := fun h => by
      rw [h] at hr hz ht
      have z1 : r = 0 := hr
      have z2 : z = 0 := hz
      have z3 : t = 0 := ht
      rw [z1, z2, z3]
      rfl
    cases cR : F.inb (F.mR a b) (-10000) 10000 with
    | false =>
      rw [cR, Bool.false_and, if_neg Bool.false_ne_true] at hE
      exact ite_yes rfl (ite_yes hE ⟨four hE, trivial⟩)
    | true =>
      rw [cR, Bool.true_and] at hE
      refine ite_no (by decide) ?_
      cases cT : F.inb (F.mT a b) (-1000) 1000 with
      | false =>
        rw [cT, if_neg Bool.false_ne_true] at hE
        exact ite_yes rfl (ite_yes hE ⟨four hE, trivial⟩)
      | true =>
        rw [cT, if_pos rfl] at hE
        rw [hE] at hr hz ht
        have z1 : r = F.mR a b := hr
        have z2 : z = F.mA a b := hz
        have z3 : t = F.mT a b := ht
        refine ite_no (by decide) (ite_yes hE (ite_yes (by rw [z1, z2, z3]; simp) ⟨?_, trivial⟩))
        rw [z1, z2, z3]
        unfold F.bchk
        rw [cR, hA, cT]
        rfl
  | succ m ih =>
    intro i x y w xn yn wn h0 hm e1 e2 e3 l1 l2 l3 hx hy hw
    refine Runs.go (cfg := C_mid) L_mid_ok mixed cuts_bmlaw 400 hb (bmlaw_t21 a a_t b b_t a.length at' b.length bt' E r z t x y w xn yn wn i) ?_
    simp only [T.wp, T.wp_cond, Aft, decide_eq_true_eq, Nat.zero_add]
    refine ite_yes (by simp only [Int.ofNat_eq_natCast]; omega) ?_
    have ba := plot_bd (ha i.toNat (by omega))
    have bb := plot_bd (hbb i.toNat (by omega))
    have hi : (i + 1).toNat = i.toNat + 1 := by omega
    have n1 : (0 : Int) ≤ i ∧ i < Int.ofNat a.length := by simp only [Int.ofNat_eq_natCast]; omega
    have n2 : (0 : Int) ≤ i ∧ i < Int.ofNat b.length := by simp only [Int.ofNat_eq_natCast]; omega
    have k1 : i.toNat < a.length := by omega
    have k2 : i.toNat < b.length := by omega
    have u1 : i64ok ((b.getD i.toNat F.d6).2.2.1 - (a.getD i.toNat F.d6).2.2.1) := by unfold i64ok; omega
    have u2 : -100000 ≤ (b.getD i.toNat F.d6).2.2.2.1 - (a.getD i.toNat F.d6).2.2.2.1 ∧ (b.getD i.toNat F.d6).2.2.2.1 - (a.getD i.toNat F.d6).2.2.2.1 ≤ 100000 := by omega
    have u3 : i64ok ((b.getD i.toNat F.d6).2.1 - (a.getD i.toNat F.d6).2.1) := by unfold i64ok; omega
    refine ⟨n2, k2, n1, k1, u1, trivial, by omega, n1, k1, n2, k2, u2, trivial, by omega, n2, k2, n1, k1, u3, trivial, by omega, by unfold i64ok; omega, ?_⟩
    rw [F.listN] at hx hy hw
    have nx := ih (i + 1) (x ++ [F.fR (a.getD i.toNat F.d6) (b.getD i.toNat F.d6)]) (y ++ [F.fA (a.getD i.toNat F.d6) (b.getD i.toNat F.d6)]) (w ++ [F.fT (a.getD i.toNat F.d6) (b.getD i.toNat F.d6)]) (xn + 1) (yn + 1) (wn + 1) (by omega) (by omega) (by omega) (by omega) (by omega) (by simp [l1]) (by simp [l2]) (by simp [l3]) (by rw [hi, List.append_assoc]; exact hx) (by rw [hi, List.append_assoc]; exact hy) (by rw [hi, List.append_assoc]; exact hw)
    exact Runs.turn [0, 1, 2, 7, 9, 11] 82 hb (by decide) rfl rfl rfl nx
theorem bm15 (a : List F.C6) (a_t : Bool) (b : List F.C6) (b_t : Bool) (at' bt' : Bool) (b0 : Base) (hb : b0.n = 2) (h40 : a.length ≤ 40 ∧ b.length ≤ 40) (ha : ∀ j, j < a.length → F.plot6 (a.getD j F.d6) = 0) (hbb : ∀ j, j < b.length → F.plot6 (b.getD j F.d6) = 0) (E r z t : Int)
    (hE : E = if a.length ≠ b.length then 3 else if a.length = 0 then 8 else F.bchk (F.mR a b) (F.mA a b) (F.mT a b)) (hr : r = F.zz E (F.mR a b)) (hz : z = F.zz E (F.mA a b)) (ht : t = F.zz E (F.mT a b)) :
    Sym.Runs Try.prog b0 (regAt Try.f6 15) (st_bmlaw_r15 a a_t b b_t a.length at' b.length bt' E r z t) (Sym.Ends Try.prog Try.f6 2 (.c (.bool true)) []) := by
  refine Runs.go (cfg := C_mid) L_mid_ok mixed cuts_bmlaw_r15 400 hb (bmlaw_tr15 a a_t b b_t a.length at' b.length bt' E r z t) ?_
  simp only [T.wp, T.wp_cond, Aft, decide_eq_true_eq]
  by_cases c : a.length = b.length
  · rw [if_neg (by simpa using c)] at hE
    refine ite_no (by simp [c]) ?_
    by_cases c2 : a.length = 0
    · rw [if_pos c2] at hE
      refine ite_yes (by simp only [Int.ofNat_eq_natCast]; omega) ?_
      rw [hE]
      exact ⟨rfl, trivial⟩
    · rw [if_neg c2] at hE
      refine ite_no (by simp only [Int.ofNat_eq_natCast]; omega) ?_
      have nx := bm21 a a_t b b_t at' bt' b0 hb c.symm (by omega) h40.1 ha (fun j hj => hbb j (by omega)) E r z t hE hr hz ht a.length 0 [] [] [] 0 0 0 (by omega) (by omega) rfl rfl rfl rfl rfl rfl rfl rfl rfl
      exact nx
  · rw [if_pos (by simpa using c)] at hE
    refine ite_yes (by
      have : ¬ (Int.ofNat a.length = Int.ofNat b.length) := by simp only [Int.ofNat_eq_natCast]; omega
      rw [decide_eq_false this]; rfl) ?_
    rw [hE]
    exact ⟨rfl, trivial⟩
theorem bm10 (a : List F.C6) (a_t : Bool) (b : List F.C6) (b_t : Bool) (at' bt' : Bool) (b0 : Base) (hb : b0.n = 2) (E r z t : Int) (L : List F.C6) (n : Nat) (hn : n = L.length) (h80 : n ≤ 80)
    (hbad : ∀ j, j < n → F.plot6 (L.getD j F.d6) ≠ 0 → E = 4 ∧ r = 0 ∧ z = 0 ∧ t = 0)
    (nx : (∀ j, j < n → F.plot6 (L.getD j F.d6) = 0) → Sym.Runs Try.prog b0 (regAt Try.f6 15) (st_bmlaw_r15 a a_t b b_t a.length at' b.length bt' E r z t) (Sym.Ends Try.prog Try.f6 2 (.c (.bool true)) [])) :
    ∀ (m : Nat) (k : Int), 0 ≤ k → k + m = n → (∀ j, j < k.toNat → F.plot6 (L.getD j F.d6) = 0) →
    Sym.Runs Try.prog b0 (cutAt Try.f6 10) (st_bmlaw_10 a a_t b b_t a.length at' b.length bt' E r z t L n k) (Sym.Ends Try.prog Try.f6 2 (.c (.bool true)) []) := by
  intro m
  induction m with
  | zero =>
    intro k h0 hm hall
    refine Runs.go (cfg := C_mid) L_mid_ok mixed cuts_bmlaw 400 hb (bmlaw_t10 a a_t b b_t a.length at' b.length bt' E r z t L n k) ?_
    simp only [T.wp, T.wp_cond, Aft, decide_eq_true_eq]
    exact ite_no (by simp only [Int.ofNat_eq_natCast]; omega) (nx fun j hj => hall j (by omega))
  | succ m ih =>
    intro k h0 hm hall
    refine Runs.go (cfg := C_mid) L_mid_ok mixed cuts_bmlaw 400 hb (bmlaw_t10 a a_t b b_t a.length at' b.length bt' E r z t L n k) ?_
    simp only [T.wp, T.wp_cond, Aft, decide_eq_true_eq, Nat.zero_add]
    refine ite_yes (by simp only [Int.ofNat_eq_natCast]; omega) ⟨by simp only [Int.ofNat_eq_natCast]; omega, by omega, ?_⟩
    by_cases hv : F.plot6 (L.getD k.toNat F.d6) = 0
    · have nx1 := ih (k + 1) (by omega) (by omega) (fun j hj => by
        by_cases e : j = k.toNat
        · rw [e]; exact hv
        · exact hall j (by omega))
      refine ite_no (by
        change ¬ (!decide (F.plot6 (L.getD k.toNat F.d6) = 0)) = true
        rw [hv]; decide) ?_
      exact ⟨by unfold i64ok; omega, Runs.turn [0, 1, 2, 3] 53 hb (by decide) rfl rfl rfl nx1⟩
    · obtain ⟨f1, f2, f3, f4⟩ := hbad k.toNat (by omega) hv
      refine ite_yes (by
        change (!decide (F.plot6 (L.getD k.toNat F.d6) = 0)) = true
        rw [decide_eq_false hv]; rfl) ?_
      refine ite_yes f1 ⟨?_, trivial⟩
      rw [f2, f3, f4]
      rfl
theorem F.plot04 (x : F.C6) : F.plot6 x ≠ 0 → F.plot6 x = 4 := by
  unfold F.plot6 F.plot
  split <;> simp
theorem errN_bad (l : List F.C6) : ∀ (m j : Nat), (∃ i, j ≤ i ∧ i < j + m ∧ F.plot6 (l.getD i F.d6) ≠ 0) → F.errN l m j = 4
  | 0, j, ⟨i, h1, h2, _⟩ => by omega
  | m + 1, j, ⟨i, h1, h2, h3⟩ => by
    rw [F.errN]
    by_cases q : F.plot6 (l.getD j F.d6) ≠ 0
    · rw [if_pos q]
      exact F.plot04 _ q
    · rw [if_neg q]
      exact errN_bad l m (j + 1) ⟨i, by
        rcases Nat.lt_or_ge j i with h | h
        · exact h
        · have : i = j := by omega
          subst this
          exact absurd h3 q, by omega, h3⟩
theorem errN_good (l : List F.C6) : ∀ (m j : Nat), (∀ i, j ≤ i → i < j + m → F.plot6 (l.getD i F.d6) = 0) → F.errN l m j = 0
  | 0, j, _ => rfl
  | m + 1, j, h => by
    rw [F.errN, if_neg (by rw [h j (Nat.le_refl _) (by omega)]; decide)]
    exact errN_good l m (j + 1) fun i h1 h2 => h i (by omega) (by omega)
theorem errN_04 (l : List F.C6) : ∀ (m j : Nat), F.errN l m j = 0 ∨ F.errN l m j = 4
  | 0, j => .inl rfl
  | m + 1, j => by
    rw [F.errN]
    split
    · rename_i q
      exact .inr (F.plot04 _ q)
    · exact errN_04 l m (j + 1)
theorem getD_append_l (a b : List F.C6) (j : Nat) (h : j < a.length) : (a ++ b).getD j F.d6 = a.getD j F.d6 := by
  simp only [List.getD]
  rw [List.getElem?_append_left h]
theorem getD_append_r (a b : List F.C6) (j : Nat) (h : a.length ≤ j) : (a ++ b).getD j F.d6 = b.getD (j - a.length) F.d6 := by
  simp only [List.getD]
  rw [List.getElem?_append_right h]
theorem bm9 (a : List F.C6) (a_t : Bool) (b : List F.C6) (b_t : Bool) (at' bt' : Bool) (b0 : Base) (hb : b0.n = 2) (h40 : a.length ≤ 40 ∧ b.length ≤ 40) (E r z t : Int) (hE : E = F.estE a b) (hr : r = F.zz E (F.mR a b)) (hz : z = F.zz E (F.mA a b)) (ht : t = F.zz E (F.mT a b)) :
    Sym.Runs Try.prog b0 (regAt Try.f6 9) (st_bmlaw_r9 a a_t b b_t a.length at' b.length bt' E r z t) (Sym.Ends Try.prog Try.f6 2 (.c (.bool true)) []) := by
  have e256 : ¬ (256 < a.length ∨ 256 < b.length) := by omega
  have nx : ∀ (L : List F.C6) (n : Nat), L = a ++ b → n = L.length → Sym.Runs Try.prog b0 (cutAt Try.f6 10) (st_bmlaw_10 a a_t b b_t a.length at' b.length bt' E r z t L n 0) (Sym.Ends Try.prog Try.f6 2 (.c (.bool true)) []) := by
    rintro L n rfl hn
    have hn' : n = a.length + b.length := by rw [hn, List.length_append]
    refine bm10 a a_t b b_t at' bt' b0 hb E r z t (a ++ b) n hn (by omega) (fun j hj hq => ?_) (fun hall => ?_) n 0 (by omega) (by omega) (fun j hj => absurd hj (by omega))
    · have h4 : E = 4 := by
        rw [hE]
        unfold F.estE
        rw [if_neg e256]
        rcases errN_04 a a.length 0 with ea | ea
        · rw [if_neg (by rw [ea]; decide)]
          have hja : a.length ≤ j := by
            rcases Nat.lt_or_ge j a.length with h | h
            · rw [getD_append_l a b j h] at hq
              exact absurd (errN_all a _ _ ea j (by omega) (by omega)) hq
            · exact h
          rw [getD_append_r a b j hja] at hq
          have eb := errN_bad b b.length 0 ⟨j - a.length, by omega, by omega, hq⟩
          rw [if_pos (by rw [eb]; decide), eb]
        · rw [if_pos (by rw [ea]; decide), ea]
      rw [h4] at hr hz ht
      exact ⟨h4, hr, hz, ht⟩
    · have ga : ∀ j, j < a.length → F.plot6 (a.getD j F.d6) = 0 := fun j hj => by
        rw [← getD_append_l a b j hj]
        exact hall j (by omega)
      have gb : ∀ j, j < b.length → F.plot6 (b.getD j F.d6) = 0 := fun j hj => by
        have := hall (a.length + j) (by omega)
        rwa [getD_append_r a b _ (by omega), Nat.add_sub_cancel_left] at this
      refine bm15 a a_t b b_t at' bt' b0 hb h40 ga gb E r z t ?_ hr hz ht
      rw [hE]
      unfold F.estE
      rw [if_neg e256, errN_good a a.length 0 (fun i _ hi => ga i (by omega)), errN_good b b.length 0 (fun i _ hi => gb i (by omega)), if_neg (by decide), if_neg (by decide)]
  refine Runs.go (cfg := Cfg.maybe C_mid) (CfgFit.maybe L_mid_ok) mixed cuts_bmlaw_r9 400 hb (bmlaw_tr9m a a_t b b_t a.length at' b.length bt' E r z t) ?_
  simp only [T.wp, T.wp_cond, Aft, List.drop_zero, List.take_length, Nat.zero_add, List.nil_append]
  refine ⟨trivial, fun h => ⟨trivial, fun h' => ?_, fun h' => ⟨trivial, ?_, ?_⟩⟩, fun h => ⟨trivial, ?_, trivial, ?_, ?_⟩⟩
  · have za : a = [] := List.eq_nil_of_length_eq_zero (of_decide_eq_true h)
    have zb : b = [] := List.eq_nil_of_length_eq_zero (of_decide_eq_true h')
    subst za
    subst zb
    exact Runs.turn [0, 1, 2, 3] 51 hb (by decide) rfl rfl rfl (Runs.view 3 rfl (nx [] 0 rfl rfl))
  · have zb := of_decide_eq_false h'
    omega
  · have za : a = [] := List.eq_nil_of_length_eq_zero (of_decide_eq_true h)
    subst za
    exact Runs.turn [0, 1, 2, 4] 51 hb (by decide) rfl rfl rfl (Runs.view 3 rfl (nx b b.length rfl rfl))
  · have za := of_decide_eq_false h
    omega
  · omega
  · exact Runs.turn [0, 1, 2, 4] 51 hb (by decide) rfl rfl rfl (Runs.view 3 rfl (nx (a ++ b) (a.length + b.length) rfl (by rw [List.length_append])))
theorem bm8 (a : List F.C6) (a_t : Bool) (b : List F.C6) (b_t : Bool) (an : Nat) (at' : Bool) (bn : Nat) (bt' : Bool) (b0 : Base) (hb : b0.n = 2) (han : an = a.length) (hbn : bn = b.length) (h40 : an ≤ 40 ∧ bn ≤ 40) :
    Sym.Runs Try.prog b0 (regAt Try.f6 8) (st_bmlaw_r8 a a_t b b_t an at' bn bt') (Sym.Ends Try.prog Try.f6 2 (.c (.bool true)) []) := by
  subst han
  subst hbn
  refine Runs.go (cfg := C_mid) L_mid_ok mixed cuts_bmlaw_r8 400 hb (bmlaw_tr8 a a_t b b_t a.length at' b.length bt') ?_
  simp only [T.wp, T.wp_cond, Aft]
  have nx := bm9 a a_t b b_t at' bt' b0 hb h40 (F.estE a b) _ _ _ rfl rfl rfl rfl
  exact ⟨⟨⟨trivial, trivial⟩, trivial, trivial⟩, nx⟩
theorem bmlaw_run (a : List (Int × Int × Int × Int × Int × Int)) (a_t : Bool) (b : List (Int × Int × Int × Int × Int × Int)) (b_t : Bool) (b0 : Base) (hb : b0.n = 2)  : Sym.Runs Try.prog b0 [.code (codeOf Try.f6)] ⟨argsS Try.f6 [.c (.slc 0 0 (List.length a) a_t), .c (.slc 1 0 (List.length b) b_t)], ([.inp 2 a, .inp 2 b] : Heap cod)⟩ (Sym.Ends Try.prog Try.f6 2 (.c (.bool true)) []) := by
  refine Runs.go (cfg := C_mid) L_mid_ok mixed cuts_bmlaw 400 hb (bmlaw_t0 a a_t b b_t) ?_
  simp only [T.wp, T.wp_cond, Aft, decide_eq_true_eq]
  refine ⟨⟨⟨trivial, trivial⟩, trivial, trivial⟩, ?_⟩
  by_cases c : 40 < a.length
  · refine ite_yes (by simp only [Int.ofNat_eq_natCast]; omega) ⟨by simp only [Int.ofNat_eq_natCast]; omega, ?_⟩
    by_cases c2 : 40 < b.length
    · refine ite_yes (by simp only [Int.ofNat_eq_natCast]; omega) ⟨by simp only [Int.ofNat_eq_natCast]; omega, ?_⟩
      exact Runs.trim 0 40 rfl (Runs.trim 1 40 rfl (bm8 (a.take 40) a_t (b.take 40) b_t 40 false 40 false b0 hb (by rw [List.length_take]; omega) (by rw [List.length_take]; omega) (by omega)))
    · refine ite_no (by simp only [Int.ofNat_eq_natCast]; omega) ?_
      exact Runs.trim 0 40 rfl (bm8 (a.take 40) a_t b b_t 40 false b.length b_t b0 hb (by rw [List.length_take]; omega) rfl (by omega))
  · refine ite_no (by simp only [Int.ofNat_eq_natCast]; omega) ?_
    by_cases c2 : 40 < b.length
    · refine ite_yes (by simp only [Int.ofNat_eq_natCast]; omega) ⟨by simp only [Int.ofNat_eq_natCast]; omega, ?_⟩
      exact Runs.trim 1 40 rfl (bm8 a a_t (b.take 40) b_t a.length a_t 40 false b0 hb rfl (by rw [List.length_take]; omega) (by omega))
    · refine ite_no (by simp only [Int.ofNat_eq_natCast]; omega) ?_
      exact bm8 a a_t b b_t a.length a_t b.length b_t b0 hb rfl rfl (by omega)



noncomputable def s_bmlaw : Summ cod := fun args H => match args, H with
  | [.c (.slc 0 a_i a_n a_t), .c (.slc 1 b_i b_n b_t)], [o0, o1] => (match o0.asInp 2 with | some a => (match o1.asInp 2 with | some b => .need ((a_i = 0 ∧ a_n = List.length a) ∧ (b_i = 0 ∧ b_n = List.length b)) (.ret (.c (.bool true), [])) | none => .fail) | none => .fail)
  | _, _ => .fail


theorem bmlaw_sound : Sound Try.prog cod 6 s_bmlaw := sound_runs (cfg := C_mid) L_mid_ok mixed Try.func6 rfl rfl _ fun args H r news hg b0 hb => by
  unfold s_bmlaw at hg
  split at hg
  · skip
    split at hg
    · rename_i a hx0
      cases asInp_spec hx0
      split at hg
      · rename_i b hx1
        cases asInp_spec hx1
        simp only [T.gives, T.wp, Prod.mk.injEq] at hg
        obtain ⟨⟨⟨rfl, rfl⟩, ⟨rfl, rfl⟩⟩, rfl, rfl⟩ := hg
        exact bmlaw_run _ _ _ _ b0 hb 
      · exact hg.elim
    · exact hg.elim
  · exact hg.elim

noncomputable def L_bmlaw : Sums cod := (6, .p s_bmlaw) :: L_mid
noncomputable def C_bmlaw : Cfg cod := mkC L_bmlaw

theorem L_bmlaw_ok : Snd Try.prog cod L_bmlaw := .cons bmlaw_sound L_mid_ok


end
end Go.Proofs.Ytbkpgpkeecnjpaa
