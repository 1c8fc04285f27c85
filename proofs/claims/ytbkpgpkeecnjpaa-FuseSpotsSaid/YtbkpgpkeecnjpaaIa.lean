/- Part of a claim: lemmas on the way to its theorem; each states its own conditions. -/
import Derived.Test.YtbkpgpkeecnjpaaHz
import Derived.Test.YtbkpgpkeecnjpaaSym29
namespace Go.Proofs.Ytbkpgpkeecnjpaa
open Sym Go.RowKit
noncomputable section
set_option maxRecDepth 100000
set_option maxHeartbeats 4000000



def cuts_fslaw : Cuts := [(100006, [1, 0], 1), (8, [7, 8, 52, 1, 0, 53, 54], 2), (17, [11, 1, 7, 8, 12], 5), (20, [11, 1, 7, 8, 12, 86, 87, 13], 4), (100025, [1, 7, 8, 12, 13, 11], 4), (29, [1, 15, 115, 11, 7, 8, 12, 116, 117, 16], 6), (38, [12, 7, 186, 187], 4)]
def cuts_fslaw_r6 : Cuts := [(8, [7, 8, 52, 1, 0, 53, 54], 2), (17, [11, 1, 7, 8, 12], 5), (20, [11, 1, 7, 8, 12, 86, 87, 13], 4), (100025, [1, 7, 8, 12, 13, 11], 4), (29, [1, 15, 115, 11, 7, 8, 12, 116, 117, 16], 6), (38, [12, 7, 186, 187], 4)]
def cuts_fslaw_r25 : Cuts := [(100006, [1, 0], 1), (8, [7, 8, 52, 1, 0, 53, 54], 2), (17, [11, 1, 7, 8, 12], 5), (20, [11, 1, 7, 8, 12, 86, 87, 13], 4), (29, [1, 15, 115, 11, 7, 8, 12, 116, 117, 16], 6), (38, [12, 7, 186, 187], 4)]

theorem fslaw_t0 (l : List (Int × Int × Int × Int × Int × Int)) (l_t : Bool) (band : Int) : symF C_spotsB cuts_fslaw Try.f9.results.toList 1 400 [.code (codeOf Try.f9)] ⟨argsS Try.f9 [.c (.slc 0 0 (List.length l) l_t), .c (.int .i64 band)], ([.inp 2 l] : Heap cod)⟩ =
.need (((0 = 0 ∧ 2 = 2) ∧ i64ok 0)) (
.ite (decide (F.spE [(0, 0, 0, 0, 5, 2), (0, 0, 0, 0, 5, 1)] 0 = 0)) (
 .need (((0 : Int) ≤ 0 ∧ (0 : Int) < Int.ofNat 1)) (
 .need ((0 + Int.toNat 0 : Nat) < 1) (
 cond (decide (20 < Int.ofNat (List.length l))) (
  .need (((0 : Int) ≤ 20 ∧ (20 : Int) ≤ Int.ofNat (List.length l))) (
  .ret (.cut (regAt Try.f9 6) ⟨tmG 198 [(0, .c (.slc 0 0 20 false)), (0, .c (.int .i64 band))], [.inp 2 l]⟩))) (
  .ret (.cut (regAt Try.f9 6) ⟨tmG 198 [(0, .c (.slc 0 0 (List.length l) l_t)), (0, .c (.int .i64 band))], [.inp 2 l]⟩))))) (
 .ret (.fin (.c (.bool false)) []))) := by kernel_rfl


noncomputable def st_fslaw_r6 (l : List (Int × Int × Int × Int × Int × Int)) (l_t : Bool) (band : Int) (ln : Nat) (lt : Bool) : St cod := ⟨tmG 198 [(0, .c (.slc 0 0 ln lt)), (0, .c (.int .i64 band))], [.inp 2 l]⟩


theorem fslaw_tr6 (l : List (Int × Int × Int × Int × Int × Int)) (l_t : Bool) (band : Int) (ln : Nat) (lt : Bool) : symF C_spotsB cuts_fslaw_r6 Try.f9.results.toList 1 400 (regAt Try.f9 6) (st_fslaw_r6 l l_t band ln lt) =
.need (((0 = 0 ∧ ln = List.length l) ∧ i64ok band)) (
.ite (decide (F.spE l band = 0)) (
 .ret (.cut (cutAt Try.f9 8) ⟨tmG 145 [(0, .c (.slc 0 0 (ln) lt)), (0, .c (.int .i64 band)), (5, .c (.own 1 (List.length (F.spots l band)))), (0, .c (.int .i64 0)), (43, .c (.slc 0 0 (ln) lt)), (0, .c (.int .i64 (Int.ofNat ln))), (0, .c (.int .i64 0))], [.inp 2 l, .own 2 (F.spots l band) 81]⟩)) (
 .ret (.cut (cutAt Try.f9 8) ⟨tmG 145 [(0, .c (.slc 0 0 (ln) lt)), (0, .c (.int .i64 band)), (5, .c (.own 1 0)), (0, .c (.int .i64 (F.spE l band))), (43, .c (.slc 0 0 (ln) lt)), (0, .c (.int .i64 (Int.ofNat ln))), (0, .c (.int .i64 0))], [.inp 2 l, .own 2 [] 81]⟩))) := by kernel_rfl


noncomputable def st_fslaw_8 (l : List (Int × Int × Int × Int × Int × Int)) (l_t : Bool) (band : Int) (ln : Nat) (lt : Bool) (E : Int) (out : List (Int × Int × Int × Int × Int × Int)) (on : Nat) (k : Int) : St cod := ⟨tmG 145 [(0, .c (.slc 0 0 ln lt)), (0, .c (.int .i64 band)), (5, .c (.own 1 on)), (0, .c (.int .i64 E)), (43, .c (.slc 0 0 ln lt)), (0, .c (.int .i64 ln)), (0, .c (.int .i64 k))], ([.inp 2 l, .own 2 out 81] : Heap cod)⟩


theorem fslaw_t8 (l : List (Int × Int × Int × Int × Int × Int)) (l_t : Bool) (band : Int) (ln : Nat) (lt : Bool) (E : Int) (out : List (Int × Int × Int × Int × Int × Int)) (on : Nat) (k : Int) : symF C_spotsB cuts_fslaw Try.f9.results.toList 1 400 (cutAt Try.f9 8) (st_fslaw_8 l l_t band ln lt E out on k) =
 cond (decide (k < Int.ofNat ln)) (
 .need (((0 : Int) ≤ k ∧ k < Int.ofNat ln)) (
 .need (0 + Int.toNat k < List.length l) (
 cond (!decide     (F.spot (List.getD l (0 + Int.toNat k) (cod 2).d).1 (List.getD l (0 + Int.toNat k) (cod 2).d).2.1         (List.getD l (0 + Int.toNat k) (cod 2).d).2.2.1 (List.getD l (0 + Int.toNat k) (cod 2).d).2.2.2.1         (List.getD l (0 + Int.toNat k) (cod 2).d).2.2.2.2.1 (List.getD l (0 + Int.toNat k) (cod 2).d).2.2.2.2.2 =       0)) (
  cond (decide (E = 4)) (
   .ret (.fin (.c (.bool (decide (Int.ofNat on = 0)))) [])) (
   .ret (.fin (.c (.bool false)) []))) (
  .need (i64ok (k + 1)) (
  .ret (.cut (cutAt Try.f9 8) ⟨tmG 145 [(0, .c (.slc 0 0 (ln) lt)), (0, .c (.int .i64 band)), (5, .c (.own 1 (on))), (0, .c (.int .i64 E)), (43, .c (.slc 0 0 (ln) lt)), (0, .c (.int .i64 (Int.ofNat ln))), (0, .c (.int .i64 (k + 1)))], [.inp 2 l, .own 2 out 81]⟩)))))) (
 cond (!F.inb band 0 60000) (
  cond (decide (E = 4)) (
   .ret (.fin (.c (.bool (decide (Int.ofNat on = 0)))) [])) (
   .ret (.fin (.c (.bool false)) []))) (
  .need (List.length (List.take ln (List.drop 0 l)) = ln) (
  .need (0 = 0) (
  .need (((0 : Nat) < List.length (List.take ln (List.drop 0 l)) ∧ 0 + List.length (List.take ln (List.drop 0 l)) ≤ 1000000)) (
  .ret (.cut (cutAt Try.f9 17) ⟨tmG 187 [(1, .c (.int .i64 band)), (5, .c (.own 1 (on))), (0, .c (.int .i64 E)), (2, .c (.own 3 (0 + List.length (List.take ln (List.drop 0 l))))), (0, .c (.own 4 0))], [.inp 2 l, .own 2 out 81, .arr 2 [] 81, .own 2 ([] ++ (List.take ln (List.drop 0 l))) 81, .own 2 [] 81]⟩)))))) := by kernel_rfl


noncomputable def st_fslaw_17 (l : List (Int × Int × Int × Int × Int × Int)) (l_t : Bool) (band : Int) (E : Int) (out L W : List (Int × Int × Int × Int × Int × Int)) (on n wn : Nat) : St cod := ⟨tmG 187 [(1, .c (.int .i64 band)), (5, .c (.own 1 on)), (0, .c (.int .i64 E)), (2, .c (.slc 2 0 n false)), (0, .c (.own 3 wn))], ([.inp 2 l, .own 2 out 81, .own 2 L 81, .own 2 W 81] : Heap cod)⟩


theorem fslaw_t17 (l : List (Int × Int × Int × Int × Int × Int)) (l_t : Bool) (band : Int) (E : Int) (out L W : List (Int × Int × Int × Int × Int × Int)) (on n wn : Nat) : symF C_spotsB cuts_fslaw Try.f9.results.toList 1 400 (cutAt Try.f9 17) (st_fslaw_17 l l_t band E out L W on n wn) =
 cond (decide (0 < Int.ofNat n)) (
 .ret (.cut (cutAt Try.f9 20) ⟨tmG 112 [(1, .c (.int .i64 band)), (5, .c (.own 1 (on))), (0, .c (.int .i64 E)), (2, .c (.slc 2 0 (n) false)), (0, .c (.own 3 (wn))), (0, .c (.int .i64 0)), (72, .c (.int .i64 (Int.ofNat n))), (0, .c (.int .i64 0))], [.inp 2 l, .own 2 out 81, .own 2 L 81, .own 2 W 81]⟩)) (
 cond (!decide (E = 0)) (
  .ret (.fin (.c (.bool false)) [])) (
  cond (!decide (Int.ofNat on = Int.ofNat wn)) (
   .ret (.fin (.c (.bool false)) [])) (
   .ret (.cut (cutAt Try.f9 38) ⟨tmG 12 [(7, .c (.own 1 (on))), (4, .c (.own 3 (wn))), (173, .c (.int .i64 (Int.ofNat on))), (0, .c (.int .i64 0))], [.inp 2 l, .own 2 out 81, .own 2 L 81, .own 2 W 81]⟩)))) := by kernel_rfl


noncomputable def st_fslaw_20 (l : List (Int × Int × Int × Int × Int × Int)) (l_t : Bool) (band : Int) (E : Int) (out L W : List (Int × Int × Int × Int × Int × Int)) (on n wn : Nat) (i k : Int) : St cod := ⟨tmG 112 [(1, .c (.int .i64 band)), (5, .c (.own 1 on)), (0, .c (.int .i64 E)), (2, .c (.slc 2 0 n false)), (0, .c (.own 3 wn)), (0, .c (.int .i64 k)), (72, .c (.int .i64 n)), (0, .c (.int .i64 i))], ([.inp 2 l, .own 2 out 81, .own 2 L 81, .own 2 W 81] : Heap cod)⟩


theorem fslaw_t20 (l : List (Int × Int × Int × Int × Int × Int)) (l_t : Bool) (band : Int) (E : Int) (out L W : List (Int × Int × Int × Int × Int × Int)) (on n wn : Nat) (i k : Int) : symF C_spotsB cuts_fslaw Try.f9.results.toList 1 400 (cutAt Try.f9 20) (st_fslaw_20 l l_t band E out L W on n wn i k) =
 cond (decide (i < Int.ofNat n)) (
 .need (((0 : Int) ≤ i ∧ i < Int.ofNat n)) (
 .need (0 + Int.toNat i < List.length L) (
 .need (((0 : Int) ≤ k ∧ k < Int.ofNat n)) (
 .need (0 + Int.toNat k < List.length L) (
 cond (decide   (F.cmpS       ((List.getD L (0 + Int.toNat i) (cod 2).d).1, (List.getD L (0 + Int.toNat i) (cod 2).d).2.1,         (List.getD L (0 + Int.toNat i) (cod 2).d).2.2.1, (List.getD L (0 + Int.toNat i) (cod 2).d).2.2.2.1,         (List.getD L (0 + Int.toNat i) (cod 2).d).2.2.2.2.1, (List.getD L (0 + Int.toNat i) (cod 2).d).2.2.2.2.2)       ((List.getD L (0 + Int.toNat k) (cod 2).d).1, (List.getD L (0 + Int.toNat k) (cod 2).d).2.1,         (List.getD L (0 + Int.toNat k) (cod 2).d).2.2.1, (List.getD L (0 + Int.toNat k) (cod 2).d).2.2.2.1,         (List.getD L (0 + Int.toNat k) (cod 2).d).2.2.2.2.1, (List.getD L (0 + Int.toNat k) (cod 2).d).2.2.2.2.2) <     0)) (
  .need (i64ok (i + 1)) (
  .ret (.cut (cutAt Try.f9 20) ⟨tmG 112 [(1, .c (.int .i64 band)), (5, .c (.own 1 (on))), (0, .c (.int .i64 E)), (2, .c (.slc 2 0 (n) false)), (0, .c (.own 3 (wn))), (0, .c (.int .i64 i)), (72, .c (.int .i64 (Int.ofNat n))), (0, .c (.int .i64 (i + 1)))], [.inp 2 l, .own 2 out 81, .own 2 L 81, .own 2 W 81]⟩))) (
  .need (i64ok (i + 1)) (
  .ret (.cut (cutAt Try.f9 20) ⟨tmG 112 [(1, .c (.int .i64 band)), (5, .c (.own 1 (on))), (0, .c (.int .i64 E)), (2, .c (.slc 2 0 (n) false)), (0, .c (.own 3 (wn))), (0, .c (.int .i64 k)), (72, .c (.int .i64 (Int.ofNat n))), (0, .c (.int .i64 (i + 1)))], [.inp 2 l, .own 2 out 81, .own 2 L 81, .own 2 W 81]⟩)))))))) (
 .ret (.cut (regAt Try.f9 25) ⟨tmG 186 [(1, .c (.int .i64 band)), (5, .c (.own 1 (on))), (0, .c (.int .i64 E)), (2, .c (.slc 2 0 (n) false)), (0, .c (.own 3 (wn))), (0, .c (.int .i64 k))], [.inp 2 l, .own 2 out 81, .own 2 L 81, .own 2 W 81]⟩)) := by kernel_rfl


noncomputable def st_fslaw_r25 (l : List (Int × Int × Int × Int × Int × Int)) (l_t : Bool) (band : Int) (E : Int) (out L W : List (Int × Int × Int × Int × Int × Int)) (on n wn : Nat) (k : Int) : St cod := ⟨tmG 186 [(1, .c (.int .i64 band)), (5, .c (.own 1 on)), (0, .c (.int .i64 E)), (2, .c (.slc 2 0 n false)), (0, .c (.own 3 wn)), (0, .c (.int .i64 k))], ([.inp 2 l, .own 2 out 81, .own 2 L 81, .own 2 W 81] : Heap cod)⟩


theorem fslaw_tr25 (l : List (Int × Int × Int × Int × Int × Int)) (l_t : Bool) (band : Int) (E : Int) (out L W : List (Int × Int × Int × Int × Int × Int)) (on n wn : Nat) (k : Int) : symF C_spotsB cuts_fslaw_r25 Try.f9.results.toList 1 400 (regAt Try.f9 25) (st_fslaw_r25 l l_t band E out L W on n wn k) =
.need (((0 : Int) ≤ k ∧ k < Int.ofNat n)) (
.need (0 + Int.toNat k < List.length L) (
.need (((0 : Int) ≤ k ∧ (k ≤ Int.ofNat n ∧ k = k))) (
.need (i64ok (k + 1)) (
.need (((0 : Int) ≤ k + 1 ∧ k + 1 ≤ Int.ofNat n)) (
.need (List.length (List.take (n - Int.toNat (k + 1)) (List.drop (0 + Int.toNat (k + 1)) L)) = n - Int.toNat (k + 1)) (
.need (List.length (List.take (Int.toNat k) (List.drop 0 L)) = Int.toNat k) (
.need (((0 : Nat) < List.length (List.take (n - Int.toNat (k + 1)) (List.drop (0 + Int.toNat (k + 1)) L)) ∧ Int.toNat k + List.length (List.take (n - Int.toNat (k + 1)) (List.drop (0 + Int.toNat (k + 1)) L)) ≤ 1000000)) (
.ret (.cut (cutAt Try.f9 29) ⟨tmG 82 [(1, .c (.int .i64 band)), (5, .c (.own 1 (on))), (0, .c (.int .i64 E)), (2, .c (.own 5 (Int.toNat k + List.length (List.take (n - Int.toNat (k + 1)) (List.drop (0 + Int.toNat (k + 1)) L))))), (0, .c (.own 3 (wn))), (2, .c (.ptr 4 0 0)), (0, .c (.bool false)), (98, .c (.own 3 (wn))), (0, .c (.int .i64 (Int.ofNat wn))), (0, .c (.int .i64 0))], [.inp 2 l, .own 2 out 81, .own 2 L 81, .own 2 W 81, .blk [.int .i64 ((List.getD L (0 + Int.toNat k) (cod 2).d).1), .int .i64 ((List.getD L (0 + Int.toNat k) (cod 2).d).2.1), .int .i64 ((List.getD L (0 + Int.toNat k) (cod 2).d).2.2.1), .int .i64 ((List.getD L (0 + Int.toNat k) (cod 2).d).2.2.2.1), .int .i64 ((List.getD L (0 + Int.toNat k) (cod 2).d).2.2.2.2.1), .int .i64 ((List.getD L (0 + Int.toNat k) (cod 2).d).2.2.2.2.2)] 81, .own 2 ((List.take (Int.toNat k) (List.drop 0 L)) ++ (List.take (n - Int.toNat (k + 1)) (List.drop (0 + Int.toNat (k + 1)) L))) 81]⟩))))))))) := by kernel_rfl


noncomputable def st_fslaw_29 (l : List (Int × Int × Int × Int × Int × Int)) (l_t : Bool) (band : Int) (E : Int) (out L W : List (Int × Int × Int × Int × Int × Int)) (on n wn : Nat) (a b c d e f : Int) (j : Int) (ag : Bool) : St cod := ⟨tmG 82 [(1, .c (.int .i64 band)), (5, .c (.own 1 on)), (0, .c (.int .i64 E)), (2, .c (.slc 2 0 n false)), (0, .c (.own 3 wn)), (2, .c (.ptr 4 0 0)), (0, .c (.bool ag)), (98, .c (.own 3 wn)), (0, .c (.int .i64 wn)), (0, .c (.int .i64 j))], ([.inp 2 l, .own 2 out 81, .own 2 L 81, .own 2 W 81, .blk [.int .i64 a, .int .i64 b, .int .i64 c, .int .i64 d, .int .i64 e, .int .i64 f] 81] : Heap cod)⟩


theorem fslaw_t29 (l : List (Int × Int × Int × Int × Int × Int)) (l_t : Bool) (band : Int) (E : Int) (out L W : List (Int × Int × Int × Int × Int × Int)) (on n wn : Nat) (a b c d e f : Int) (j : Int) (ag : Bool) : symF C_spotsB cuts_fslaw Try.f9.results.toList 1 400 (cutAt Try.f9 29) (st_fslaw_29 l l_t band E out L W on n wn a b c d e f j ag) =
 cond (decide (j < Int.ofNat wn)) (
 .need (((0 : Int) ≤ j ∧ j < Int.ofNat wn)) (
 .need (0 + Int.toNat j < List.length W) (
 cond (ag) (
  .need (i64ok (j + 1)) (
  .ret (.cut (cutAt Try.f9 29) ⟨tmG 82 [(1, .c (.int .i64 band)), (5, .c (.own 1 (on))), (0, .c (.int .i64 E)), (2, .c (.slc 2 0 (n) false)), (0, .c (.own 3 (wn))), (2, .c (.ptr 4 0 0)), (0, .c (.bool true)), (98, .c (.own 3 (wn))), (0, .c (.int .i64 (Int.ofNat wn))), (0, .c (.int .i64 (j + 1)))], [.inp 2 l, .own 2 out 81, .own 2 L 81, .own 2 W 81, .blk [.int .i64 a, .int .i64 b, .int .i64 c, .int .i64 d, .int .i64 e, .int .i64 f] 81, .blk [.int .i64 ((List.getD W (0 + Int.toNat j) (cod 2).d).1), .int .i64 ((List.getD W (0 + Int.toNat j) (cod 2).d).2.1), .int .i64 ((List.getD W (0 + Int.toNat j) (cod 2).d).2.2.1), .int .i64 ((List.getD W (0 + Int.toNat j) (cod 2).d).2.2.2.1), .int .i64 ((List.getD W (0 + Int.toNat j) (cod 2).d).2.2.2.2.1), .int .i64 ((List.getD W (0 + Int.toNat j) (cod 2).d).2.2.2.2.2)] 81]⟩))) (
  cond (decide ((List.getD W (0 + Int.toNat j) (cod 2).d).1 = a)) (
   cond (decide ((List.getD W (0 + Int.toNat j) (cod 2).d).2.2.2.2.1 = e)) (
    cond (!decide (e = -1)) (
     .need ((F.b9 (List.getD W (0 + Int.toNat j) (cod 2).d).2.1 ∧ (F.b9 (List.getD W (0 + Int.toNat j) (cod 2).d).2.2.1 ∧ (F.b9 b ∧ F.b9 c)))) (
     .need (i64ok ((List.getD W (0 + Int.toNat j) (cod 2).d).2.2.2.2.2 + f)) (
     .need (i64ok ((List.getD W (0 + Int.toNat j) (cod 2).d).2.2.2.2.2 + f)) (
     .need (i64ok   (((List.getD W (0 + Int.toNat j) (cod 2).d).2.2.2.2.2 + f) *     ((List.getD W (0 + Int.toNat j) (cod 2).d).2.2.2.2.2 + f))) (
     cond (decide   (F.far (List.getD W (0 + Int.toNat j) (cod 2).d).2.1 (List.getD W (0 + Int.toNat j) (cod 2).d).2.2.1 b c ≤     ((List.getD W (0 + Int.toNat j) (cod 2).d).2.2.2.2.2 + f) *       ((List.getD W (0 + Int.toNat j) (cod 2).d).2.2.2.2.2 + f))) (
      .need (i64ok (F.apart (List.getD W (0 + Int.toNat j) (cod 2).d).2.2.2.1 d)) (
      .need (i64ok (j + 1)) (
      .ret (.cut (cutAt Try.f9 29) ⟨tmG 82 [(1, .c (.int .i64 band)), (5, .c (.own 1 (on))), (0, .c (.int .i64 E)), (2, .c (.slc 2 0 (n) false)), (0, .c (.own 3 (wn))), (2, .c (.ptr 4 0 0)), (0, .c (.bool (decide (F.apart (List.getD W (0 + Int.toNat j) (cod 2).d).2.2.2.1 d ≤ band)))), (98, .c (.own 3 (wn))), (0, .c (.int .i64 (Int.ofNat wn))), (0, .c (.int .i64 (j + 1)))], [.inp 2 l, .own 2 out 81, .own 2 L 81, .own 2 W 81, .blk [.int .i64 a, .int .i64 b, .int .i64 c, .int .i64 d, .int .i64 e, .int .i64 f] 81, .blk [.int .i64 ((List.getD W (0 + Int.toNat j) (cod 2).d).1), .int .i64 ((List.getD W (0 + Int.toNat j) (cod 2).d).2.1), .int .i64 ((List.getD W (0 + Int.toNat j) (cod 2).d).2.2.1), .int .i64 ((List.getD W (0 + Int.toNat j) (cod 2).d).2.2.2.1), .int .i64 ((List.getD W (0 + Int.toNat j) (cod 2).d).2.2.2.2.1), .int .i64 ((List.getD W (0 + Int.toNat j) (cod 2).d).2.2.2.2.2)] 81]⟩)))) (
      .need (i64ok (j + 1)) (
      .ret (.cut (cutAt Try.f9 29) ⟨tmG 82 [(1, .c (.int .i64 band)), (5, .c (.own 1 (on))), (0, .c (.int .i64 E)), (2, .c (.slc 2 0 (n) false)), (0, .c (.own 3 (wn))), (2, .c (.ptr 4 0 0)), (0, .c (.bool false)), (98, .c (.own 3 (wn))), (0, .c (.int .i64 (Int.ofNat wn))), (0, .c (.int .i64 (j + 1)))], [.inp 2 l, .own 2 out 81, .own 2 L 81, .own 2 W 81, .blk [.int .i64 a, .int .i64 b, .int .i64 c, .int .i64 d, .int .i64 e, .int .i64 f] 81, .blk [.int .i64 ((List.getD W (0 + Int.toNat j) (cod 2).d).1), .int .i64 ((List.getD W (0 + Int.toNat j) (cod 2).d).2.1), .int .i64 ((List.getD W (0 + Int.toNat j) (cod 2).d).2.2.1), .int .i64 ((List.getD W (0 + Int.toNat j) (cod 2).d).2.2.2.1), .int .i64 ((List.getD W (0 + Int.toNat j) (cod 2).d).2.2.2.2.1), .int .i64 ((List.getD W (0 + Int.toNat j) (cod 2).d).2.2.2.2.2)] 81]⟩)))))))) (
     .need (i64ok (j + 1)) (
     .ret (.cut (cutAt Try.f9 29) ⟨tmG 82 [(1, .c (.int .i64 band)), (5, .c (.own 1 (on))), (0, .c (.int .i64 E)), (2, .c (.slc 2 0 (n) false)), (0, .c (.own 3 (wn))), (2, .c (.ptr 4 0 0)), (0, .c (.bool false)), (98, .c (.own 3 (wn))), (0, .c (.int .i64 (Int.ofNat wn))), (0, .c (.int .i64 (j + 1)))], [.inp 2 l, .own 2 out 81, .own 2 L 81, .own 2 W 81, .blk [.int .i64 a, .int .i64 b, .int .i64 c, .int .i64 d, .int .i64 e, .int .i64 f] 81, .blk [.int .i64 ((List.getD W (0 + Int.toNat j) (cod 2).d).1), .int .i64 ((List.getD W (0 + Int.toNat j) (cod 2).d).2.1), .int .i64 ((List.getD W (0 + Int.toNat j) (cod 2).d).2.2.1), .int .i64 ((List.getD W (0 + Int.toNat j) (cod 2).d).2.2.2.1), .int .i64 ((List.getD W (0 + Int.toNat j) (cod 2).d).2.2.2.2.1), .int .i64 ((List.getD W (0 + Int.toNat j) (cod 2).d).2.2.2.2.2)] 81]⟩)))) (
    .need (i64ok (j + 1)) (
    .ret (.cut (cutAt Try.f9 29) ⟨tmG 82 [(1, .c (.int .i64 band)), (5, .c (.own 1 (on))), (0, .c (.int .i64 E)), (2, .c (.slc 2 0 (n) false)), (0, .c (.own 3 (wn))), (2, .c (.ptr 4 0 0)), (0, .c (.bool false)), (98, .c (.own 3 (wn))), (0, .c (.int .i64 (Int.ofNat wn))), (0, .c (.int .i64 (j + 1)))], [.inp 2 l, .own 2 out 81, .own 2 L 81, .own 2 W 81, .blk [.int .i64 a, .int .i64 b, .int .i64 c, .int .i64 d, .int .i64 e, .int .i64 f] 81, .blk [.int .i64 ((List.getD W (0 + Int.toNat j) (cod 2).d).1), .int .i64 ((List.getD W (0 + Int.toNat j) (cod 2).d).2.1), .int .i64 ((List.getD W (0 + Int.toNat j) (cod 2).d).2.2.1), .int .i64 ((List.getD W (0 + Int.toNat j) (cod 2).d).2.2.2.1), .int .i64 ((List.getD W (0 + Int.toNat j) (cod 2).d).2.2.2.2.1), .int .i64 ((List.getD W (0 + Int.toNat j) (cod 2).d).2.2.2.2.2)] 81]⟩)))) (
   .need (i64ok (j + 1)) (
   .ret (.cut (cutAt Try.f9 29) ⟨tmG 82 [(1, .c (.int .i64 band)), (5, .c (.own 1 (on))), (0, .c (.int .i64 E)), (2, .c (.slc 2 0 (n) false)), (0, .c (.own 3 (wn))), (2, .c (.ptr 4 0 0)), (0, .c (.bool false)), (98, .c (.own 3 (wn))), (0, .c (.int .i64 (Int.ofNat wn))), (0, .c (.int .i64 (j + 1)))], [.inp 2 l, .own 2 out 81, .own 2 L 81, .own 2 W 81, .blk [.int .i64 a, .int .i64 b, .int .i64 c, .int .i64 d, .int .i64 e, .int .i64 f] 81, .blk [.int .i64 ((List.getD W (0 + Int.toNat j) (cod 2).d).1), .int .i64 ((List.getD W (0 + Int.toNat j) (cod 2).d).2.1), .int .i64 ((List.getD W (0 + Int.toNat j) (cod 2).d).2.2.1), .int .i64 ((List.getD W (0 + Int.toNat j) (cod 2).d).2.2.2.1), .int .i64 ((List.getD W (0 + Int.toNat j) (cod 2).d).2.2.2.2.1), .int .i64 ((List.getD W (0 + Int.toNat j) (cod 2).d).2.2.2.2.2)] 81]⟩))))))) (
 cond (!ag) (
  .need (1 = 1) (
  .need (wn + 1 ≤ 1000000) (
  .ret (.cut (cutAt Try.f9 17) ⟨tmG 187 [(1, .c (.int .i64 band)), (5, .c (.own 1 (on))), (0, .c (.int .i64 E)), (2, .c (.slc 2 0 (n) false)), (0, .c (.own 3 (wn + 1)))], [.inp 2 l, .own 2 out 81, .own 2 L 81, .own 2 (W ++ ([(a, b, c, d, e, f)])) 81, .blk [.int .i64 a, .int .i64 b, .int .i64 c, .int .i64 d, .int .i64 e, .int .i64 f] 81]⟩)))) (
  .ret (.cut (cutAt Try.f9 17) ⟨tmG 187 [(1, .c (.int .i64 band)), (5, .c (.own 1 (on))), (0, .c (.int .i64 E)), (2, .c (.slc 2 0 (n) false)), (0, .c (.own 3 (wn)))], [.inp 2 l, .own 2 out 81, .own 2 L 81, .own 2 W 81, .blk [.int .i64 a, .int .i64 b, .int .i64 c, .int .i64 d, .int .i64 e, .int .i64 f] 81]⟩))) := by kernel_rfl


noncomputable def st_fslaw_38 (l : List (Int × Int × Int × Int × Int × Int)) (l_t : Bool) (band : Int) (out W : List (Int × Int × Int × Int × Int × Int)) (on wn : Nat) (i : Int) : St cod := ⟨tmG 12 [(7, .c (.own 1 on)), (4, .c (.own 2 wn)), (173, .c (.int .i64 on)), (0, .c (.int .i64 i))], ([.inp 2 l, .own 2 out 81, .own 2 W 81] : Heap cod)⟩


theorem fslaw_t38 (l : List (Int × Int × Int × Int × Int × Int)) (l_t : Bool) (band : Int) (out W : List (Int × Int × Int × Int × Int × Int)) (on wn : Nat) (i : Int) : symF C_spotsB cuts_fslaw Try.f9.results.toList 1 400 (cutAt Try.f9 38) (st_fslaw_38 l l_t band out W on wn i) =
 cond (decide (i < Int.ofNat on)) (
 .need (((0 : Int) ≤ i ∧ i < Int.ofNat on)) (
 .need (0 + Int.toNat i < List.length out) (
 .need (((0 : Int) ≤ i ∧ i < Int.ofNat wn)) (
 .need (0 + Int.toNat i < List.length W) (
 cond (!(decide ((List.getD out (0 + Int.toNat i) (cod 2).d).1 = (List.getD W (0 + Int.toNat i) (cod 2).d).1) &&     (decide ((List.getD out (0 + Int.toNat i) (cod 2).d).2.1 = (List.getD W (0 + Int.toNat i) (cod 2).d).2.1) &&         decide ((List.getD out (0 + Int.toNat i) (cod 2).d).2.2.1 = (List.getD W (0 + Int.toNat i) (cod 2).d).2.2.1) &&       (decide           ((List.getD out (0 + Int.toNat i) (cod 2).d).2.2.2.1 = (List.getD W (0 + Int.toNat i) (cod 2).d).2.2.2.1) &&         (decide             ((List.getD out (0 + Int.toNat i) (cod 2).d).2.2.2.2.1 =               (List.getD W (0 + Int.toNat i) (cod 2).d).2.2.2.2.1) &&           decide             ((List.getD out (0 + Int.toNat i) (cod 2).d).2.2.2.2.2 =               (List.getD W (0 + Int.toNat i) (cod 2).d).2.2.2.2.2)))))) (
  .ret (.fin (.c (.bool false)) [])) (
  .need (i64ok (i + 1)) (
  .ret (.cut (cutAt Try.f9 38) ⟨tmG 12 [(7, .c (.own 1 (on))), (4, .c (.own 2 (wn))), (173, .c (.int .i64 (Int.ofNat on))), (0, .c (.int .i64 (i + 1)))], [.inp 2 l, .own 2 out 81, .own 2 W 81]⟩)))))))) (
 .ret (.fin (.c (.bool true)) [])) := by kernel_rfl


theorem fslaw_tr25e (l : List (Int × Int × Int × Int × Int × Int)) (l_t : Bool) (band E : Int) (out L W : List (Int × Int × Int × Int × Int × Int)) (on n wn : Nat) (k : Int) : symF (Cfg.empty C_spotsB) cuts_fslaw_r25 Try.f9.results.toList 1 400 (regAt Try.f9 25) (st_fslaw_r25 l l_t band E out L W on n wn k) =
.need (((0 : Int) ≤ k ∧ k < Int.ofNat n)) (
.need (0 + Int.toNat k < List.length L) (
.need (((0 : Int) ≤ k ∧ (k ≤ Int.ofNat n ∧ k = k))) (
.need (i64ok (k + 1)) (
.need (((0 : Int) ≤ k + 1 ∧ k + 1 ≤ Int.ofNat n)) (
.need (List.length (List.take (n - Int.toNat (k + 1)) (List.drop (0 + Int.toNat (k + 1)) L)) = n - Int.toNat (k + 1)) (
.need (List.length (List.take (n - Int.toNat (k + 1)) (List.drop (0 + Int.toNat (k + 1)) L)) = 0) (
.ret (.cut (cutAt Try.f9 29) ⟨tmG 82 [(1, .c (.int .i64 band)), (5, .c (.own 1 (on))), (0, .c (.int .i64 E)), (2, .c (.slc 2 0 (Int.toNat k) true)), (0, .c (.own 3 (wn))), (2, .c (.ptr 4 0 0)), (0, .c (.bool false)), (98, .c (.own 3 (wn))), (0, .c (.int .i64 (Int.ofNat wn))), (0, .c (.int .i64 0))], [.inp 2 l, .own 2 out 81, .own 2 L 81, .own 2 W 81, .blk [.int .i64 ((List.getD L (0 + Int.toNat k) (cod 2).d).1), .int .i64 ((List.getD L (0 + Int.toNat k) (cod 2).d).2.1), .int .i64 ((List.getD L (0 + Int.toNat k) (cod 2).d).2.2.1), .int .i64 ((List.getD L (0 + Int.toNat k) (cod 2).d).2.2.2.1), .int .i64 ((List.getD L (0 + Int.toNat k) (cod 2).d).2.2.2.2.1), .int .i64 ((List.getD L (0 + Int.toNat k) (cod 2).d).2.2.2.2.2)] 81]⟩)))))))) := by kernel_rfl


theorem fslaw_t8e (l : List (Int × Int × Int × Int × Int × Int)) (l_t : Bool) (band : Int) (lt : Bool) (E : Int) (out : List (Int × Int × Int × Int × Int × Int)) (on : Nat) : symF (Cfg.empty C_spotsB) cuts_fslaw Try.f9.results.toList 1 400 (cutAt Try.f9 8) (st_fslaw_8 l l_t band 0 lt E out on 0) =
 cond (!F.inb band 0 60000) (
 cond (decide (E = 4)) (
  .ret (.fin (.c (.bool (decide (Int.ofNat on = 0)))) [])) (
  .ret (.fin (.c (.bool false)) []))) (
 .need (0 = 0) (
 .need (0 = 0) (
 .ret (.cut (cutAt Try.f9 17) ⟨tmG 187 [(1, .c (.int .i64 band)), (5, .c (.own 1 (on))), (0, .c (.int .i64 E)), (2, .c (.slc 2 0 0 true)), (0, .c (.own 3 0))], [.inp 2 l, .own 2 out 81, .arr 2 [] 81, .own 2 [] 81]⟩)))) := by kernel_rfl


theorem fslaw_t17z (l : List (Int × Int × Int × Int × Int × Int)) (band E : Int) (out : List (Int × Int × Int × Int × Int × Int)) (on : Nat) : symF C_spotsB cuts_fslaw Try.f9.results.toList 1 400 (cutAt Try.f9 17) ⟨tmG 187 [(1, .c (.int .i64 band)), (5, .c (.own 1 (on))), (0, .c (.int .i64 E)), (2, .c (.slc 2 0 0 true)), (0, .c (.own 3 0))], ([.inp 2 l, .own 2 out 81, .arr 2 [] 81, .own 2 [] 81] : Heap cod)⟩ =
 cond (!decide (E = 0)) (
 .ret (.fin (.c (.bool false)) [])) (
 cond (!decide (Int.ofNat on = Int.ofNat 0)) (
  .ret (.fin (.c (.bool false)) [])) (
  .ret (.cut (cutAt Try.f9 38) ⟨tmG 12 [(7, .c (.own 1 (on))), (4, .c (.own 3 0)), (173, .c (.int .i64 (Int.ofNat on))), (0, .c (.int .i64 0))], [.inp 2 l, .own 2 out 81, .arr 2 [] 81, .own 2 [] 81]⟩))) := by kernel_rfl



theorem F.spv04 (x : F.Sp) : F.spv x ≠ 0 → F.spv x = 4 := by
  unfold F.spv F.spot
  split <;> simp
theorem fs38 (l : List F.Sp) (l_t : Bool) (band : Int) (b0 : Base) (hb : b0.n = 1) (out : List F.Sp) (on : Nat) (hon : on = out.length) (h20 : on ≤ 20) : ∀ (m : Nat) (i : Int), 0 ≤ i → i + m = on →
    Sym.Runs Try.prog b0 (cutAt Try.f9 38) (st_fslaw_38 l l_t band out out on on i) (Sym.Ends Try.prog Try.f9 1 (.c (.bool true)) []) := by
  intro m
  induction m with
  | zero =>
    intro i h0 hm
    refine Runs.go (cfg := C_spotsB) L_spotsB_ok mixed cuts_fslaw 400 hb (fslaw_t38 l l_t band out out on on i) ?_
    simp only [T.wp, T.wp_cond, Aft, decide_eq_true_eq]
    rw [if_neg (by simp only [Int.ofNat_eq_natCast]; omega)]
    simp
  | succ m ih =>
    intro i h0 hm
    refine Runs.go (cfg := C_spotsB) L_spotsB_ok mixed cuts_fslaw 400 hb (fslaw_t38 l l_t band out out on on i) ?_
    simp only [T.wp, T.wp_cond, Aft, decide_eq_true_eq]
    have nx := ih (i + 1) (by omega) (by omega)
    refine ite_yes (by simp only [Int.ofNat_eq_natCast]; omega) ⟨by simp only [Int.ofNat_eq_natCast]; omega, by omega, by simp only [Int.ofNat_eq_natCast]; omega, by omega, ?_⟩
    refine ite_no (by simp) ⟨by unfold i64ok; omega, nx⟩
theorem alk_law {band : Int} {x s : F.Sp} (hx : F.sp1 x) (hs : F.sp1 s) : F.alk band s x = (decide (x.1 = s.1) && (decide (x.2.2.2.2.1 = s.2.2.2.2.1) && (!decide (s.2.2.2.2.1 = -1) && (decide (F.far x.2.1 x.2.2.1 s.2.1 s.2.2.1 ≤ (x.2.2.2.2.2 + s.2.2.2.2.2) * (x.2.2.2.2.2 + s.2.2.2.2.2)) && decide (F.apart x.2.2.2.1 s.2.2.2.1 ≤ band))))) := by
  have bx := F.sp_bd hx
  have bs := F.sp_bd hs
  unfold F.alk
  have e1 : F.inb (x.2.2.2.2.2 + s.2.2.2.2.2) 0 8000000 = true := by
    unfold F.inb
    simp only [Bool.and_eq_true, decide_eq_true_eq]
    omega
  have e2 : max (x.2.2.2.1 - s.2.2.2.1) (s.2.2.2.1 - x.2.2.2.1) = F.apart x.2.2.2.1 s.2.2.2.1 := by
    unfold F.apart
    split <;> omega
  rw [e1, e2, Bool.true_and]
  by_cases e : x.2.2.2.2.1 = s.2.2.2.2.1
  · rw [e]
  · rw [decide_eq_false e, Bool.false_and, Bool.false_and]
theorem fs29 (l : List F.Sp) (l_t : Bool) (band : Int) (hw : 0 ≤ band ∧ band ≤ 60000) (b0 : Base) (hb : b0.n = 1) (out L W : List F.Sp) (on n wn : Nat) (s : F.Sp) (hs : F.sp1 s) (hW : F.allS W) (hwn : wn = W.length) (h20 : wn ≤ 20)
    (n1 : F.anyQ (F.alk band s) W wn 0 = false → Sym.Runs Try.prog b0 (cutAt Try.f9 17) (st_fslaw_17 l l_t band 0 out L (W ++ [s]) on n (wn + 1)) (Sym.Ends Try.prog Try.f9 1 (.c (.bool true)) []))
    (n2 : F.anyQ (F.alk band s) W wn 0 = true → Sym.Runs Try.prog b0 (cutAt Try.f9 17) (st_fslaw_17 l l_t band 0 out L W on n wn) (Sym.Ends Try.prog Try.f9 1 (.c (.bool true)) [])) :
    ∀ (m : Nat) (j : Int) (ag : Bool), 0 ≤ j → j + m = wn → (ag || F.anyQ (F.alk band s) W m j.toNat) = F.anyQ (F.alk band s) W wn 0 →
    Sym.Runs Try.prog b0 (cutAt Try.f9 29) (st_fslaw_29 l l_t band 0 out L W on n wn s.1 s.2.1 s.2.2.1 s.2.2.2.1 s.2.2.2.2.1 s.2.2.2.2.2 j ag) (Sym.Ends Try.prog Try.f9 1 (.c (.bool true)) []) := by
  intro m
  induction m with
  | zero =>
    intro j ag h0 hm hq
    refine Runs.go (cfg := C_spotsB) L_spotsB_ok mixed cuts_fslaw 400 hb (fslaw_t29 l l_t band 0 out L W on n wn s.1 s.2.1 s.2.2.1 s.2.2.2.1 s.2.2.2.2.1 s.2.2.2.2.2 j ag) ?_
    simp only [T.wp, T.wp_cond, Aft, decide_eq_true_eq]
    refine ite_no (by simp only [Int.ofNat_eq_natCast]; omega) ?_
    rw [F.anyQ, Bool.or_false] at hq
    cases ag with
    | true => exact ite_no (by decide) (Runs.turn [0, 1, 2, 3] 1 hb (by decide) rfl rfl rfl (n2 hq.symm))
    | false => exact ite_yes (by decide) ⟨trivial, by omega, Runs.turn [0, 1, 2, 3] 1 hb (by decide) rfl rfl rfl (n1 hq.symm)⟩
  | succ m ih =>
    intro j ag h0 hm hq
    have j2 : j.toNat < W.length := by omega
    have hx := hW _ (getD_mem' j2)
    have bx := F.sp_bd hx
    have bs := F.sp_bd hs
    have hj : (j + 1).toNat = j.toNat + 1 := by omega
    have h64 : i64ok (j + 1) := by unfold i64ok; omega
    rw [F.anyQ, alk_law hx hs] at hq
    have nx := fun ag' h => ih (j + 1) ag' (by omega) (by omega) h
    rw [hj] at nx
    refine Runs.go (cfg := C_spotsB) L_spotsB_ok mixed cuts_fslaw 400 hb (fslaw_t29 l l_t band 0 out L W on n wn s.1 s.2.1 s.2.2.1 s.2.2.2.1 s.2.2.2.2.1 s.2.2.2.2.2 j ag) ?_
    simp only [T.wp, T.wp_cond, Aft, decide_eq_true_eq, Nat.zero_add]
    refine ite_yes (by simp only [Int.ofNat_eq_natCast]; omega) ⟨by simp only [Int.ofNat_eq_natCast]; omega, j2, ?_⟩
    cases ag with
    | true => exact ite_yes rfl ⟨h64, Runs.turn [0, 1, 2, 3, 4] 1 hb (by decide) rfl rfl rfl (nx true (by simpa using hq))⟩
    | false =>
      rw [Bool.false_or] at hq
      refine ite_no (by decide) ?_
      by_cases c1 : (W.getD j.toNat F.sp0).1 = s.1
      · rw [decide_eq_true c1, Bool.true_and] at hq
        refine ite_yes c1 ?_
        by_cases c2 : (W.getD j.toNat F.sp0).2.2.2.2.1 = s.2.2.2.2.1
        · rw [decide_eq_true c2, Bool.true_and] at hq
          refine ite_yes c2 ?_
          by_cases c3 : s.2.2.2.2.1 = -1
          · rw [decide_eq_true c3, Bool.not_true, Bool.false_and] at hq
            refine ite_no (by rw [decide_eq_true c3]; decide) ?_
            exact ⟨h64, Runs.turn [0, 1, 2, 3, 4] 1 hb (by decide) rfl rfl rfl (nx false hq)⟩
          · rw [decide_eq_false c3, Bool.not_false, Bool.true_and] at hq
            refine ite_yes (by rw [decide_eq_false c3]; rfl) ?_
            have e0 : 0 ≤ (W.getD j.toNat F.sp0).2.2.2.2.2 + s.2.2.2.2.2 ∧ (W.getD j.toNat F.sp0).2.2.2.2.2 + s.2.2.2.2.2 ≤ 2000000 := by omega
            have e1 : i64ok ((W.getD j.toNat F.sp0).2.2.2.2.2 + s.2.2.2.2.2) := by unfold i64ok; omega
            have e2 := Int.mul_le_mul e0.2 e0.2 e0.1 (by omega)
            have e3 := Int.mul_nonneg e0.1 e0.1
            have e4 : i64ok (((W.getD j.toNat F.sp0).2.2.2.2.2 + s.2.2.2.2.2) * ((W.getD j.toNat F.sp0).2.2.2.2.2 + s.2.2.2.2.2)) := by unfold i64ok; omega
            have e5 : F.b9 (W.getD j.toNat F.sp0).2.1 ∧ F.b9 (W.getD j.toNat F.sp0).2.2.1 ∧ F.b9 s.2.1 ∧ F.b9 s.2.2.1 := by
              unfold F.b9
              exact ⟨by omega, by omega, by omega, by omega⟩
            refine ⟨e5, e1, e1, e4, ?_⟩
            by_cases c4 : F.far (W.getD j.toNat F.sp0).2.1 (W.getD j.toNat F.sp0).2.2.1 s.2.1 s.2.2.1 ≤ ((W.getD j.toNat F.sp0).2.2.2.2.2 + s.2.2.2.2.2) * ((W.getD j.toNat F.sp0).2.2.2.2.2 + s.2.2.2.2.2)
            · rw [decide_eq_true c4, Bool.true_and] at hq
              refine ite_yes c4 ⟨?_, h64, Runs.turn [0, 1, 2, 3, 4] 1 hb (by decide) rfl rfl rfl (nx _ hq)⟩
              change i64ok (F.apart (W.getD j.toNat F.sp0).2.2.2.1 s.2.2.2.1)
              unfold F.apart i64ok
              split <;> omega
            · rw [decide_eq_false c4, Bool.false_and] at hq
              exact ite_no c4 ⟨h64, Runs.turn [0, 1, 2, 3, 4] 1 hb (by decide) rfl rfl rfl (nx false hq)⟩
        · rw [decide_eq_false c2, Bool.false_and] at hq
          exact ite_no c2 ⟨h64, Runs.turn [0, 1, 2, 3, 4] 1 hb (by decide) rfl rfl rfl (nx false hq)⟩
      · rw [decide_eq_false c1, Bool.false_and] at hq
        exact ite_no c1 ⟨h64, Runs.turn [0, 1, 2, 3, 4] 1 hb (by decide) rfl rfl rfl (nx false hq)⟩
theorem take_pick (L : List F.Sp) (n k : Nat) (hk : k < n) (hn : n ≤ L.length) : (L.take n).Perm (L.getD k F.sp0 :: (L.take k ++ (L.drop (k + 1)).take (n - (k + 1)))) := by
  have e1 : k < (L.take n).length := by rw [List.length_take]; omega
  have e2 : L.take n = L.take k ++ L.getD k F.sp0 :: (L.drop (k + 1)).take (n - (k + 1)) := by
    conv => lhs; rw [← List.take_append_drop k (L.take n), List.drop_eq_getElem_cons e1, List.drop_take, List.take_take]
    rw [Nat.min_eq_left (by omega), List.getD, List.getElem?_eq_getElem (by omega : k < L.length)]
    simp
  rw [e2]
  exact List.perm_middle
theorem fs25 (l : List F.Sp) (l_t : Bool) (band : Int) (b0 : Base) (hb : b0.n = 1) (out L W : List F.Sp) (on n wn : Nat) (k : Int) (h0 : 0 ≤ k) (hk : k < n) (hn : n ≤ L.length) (h20 : n ≤ 20)
    (nx : ∀ (L' : List F.Sp) (n' : Nat), n' + 1 = n → n' ≤ L'.length → (L.take n).Perm (L.getD k.toNat F.sp0 :: L'.take n') → Sym.Runs Try.prog b0 (cutAt Try.f9 29) (st_fslaw_29 l l_t band 0 out L' W on n' wn (L.getD k.toNat F.sp0).1 (L.getD k.toNat F.sp0).2.1 (L.getD k.toNat F.sp0).2.2.1 (L.getD k.toNat F.sp0).2.2.2.1 (L.getD k.toNat F.sp0).2.2.2.2.1 (L.getD k.toNat F.sp0).2.2.2.2.2 0 false) (Sym.Ends Try.prog Try.f9 1 (.c (.bool true)) [])) :
    Sym.Runs Try.prog b0 (regAt Try.f9 25) (st_fslaw_r25 l l_t band 0 out L W on n wn k) (Sym.Ends Try.prog Try.f9 1 (.c (.bool true)) []) := by
  have e1 : (k + 1).toNat = k.toNat + 1 := by omega
  have hp := take_pick L n k.toNat (by omega) hn
  have hlen := hp.length_eq
  rw [List.length_take, Nat.min_eq_left hn, List.length_cons, List.length_append, List.length_take, Nat.min_eq_left (by omega)] at hlen
  have l1 : (List.take (n - (k.toNat + 1)) (List.drop (k.toNat + 1) L)).length = n - (k.toNat + 1) := by omega
  have n1 : (0 : Int) ≤ k ∧ k < Int.ofNat n := by simp only [Int.ofNat_eq_natCast]; omega
  have n2 : (0 : Int) ≤ k ∧ (k ≤ Int.ofNat n ∧ True) := ⟨h0, by simp only [Int.ofNat_eq_natCast]; omega, trivial⟩
  have l0 : (List.take k.toNat L).length = k.toNat := by rw [List.length_take]; omega
  have l2 : (List.take k.toNat L ++ List.take (n - (k.toNat + 1)) (List.drop (k.toNat + 1) L)).length = k.toNat + (List.take (n - (k.toNat + 1)) (List.drop (k.toNat + 1) L)).length := by rw [List.length_append, l0]
  have n3 : (0 : Int) ≤ k + 1 ∧ k + 1 ≤ Int.ofNat n := by simp only [Int.ofNat_eq_natCast]; omega
  by_cases c : k.toNat + 1 = n
  · refine Runs.go (cfg := Cfg.empty C_spotsB) (CfgFit.empty L_spotsB_ok) mixed cuts_fslaw_r25 400 hb (fslaw_tr25e l l_t band 0 out L W on n wn k) ?_
    simp only [T.wp, T.wp_cond, Aft, Nat.zero_add, e1]
    refine ⟨n1, by omega, n2, by unfold i64ok; omega, n3, l1, by omega, Runs.turn [0, 1, 2, 3, 4] 11 hb (by decide) rfl rfl rfl (nx L k.toNat c (by omega) ?_)⟩
    have e2 : n - (k.toNat + 1) = 0 := by omega
    rw [e2, List.take_zero, List.append_nil] at hp
    exact hp
  · refine Runs.go (cfg := C_spotsB) L_spotsB_ok mixed cuts_fslaw_r25 400 hb (fslaw_tr25 l l_t band 0 out L W on n wn k) ?_
    simp only [T.wp, T.wp_cond, Aft, Nat.zero_add, e1, List.drop_zero]
    refine ⟨n1, by omega, n2, by unfold i64ok; omega, n3, l1, l0, by omega, Runs.turn [0, 1, 5, 3, 4] 11 hb (by decide) rfl rfl rfl (nx (List.take k.toNat L ++ List.take (n - (k.toNat + 1)) (List.drop (k.toNat + 1) L)) (k.toNat + (List.take (n - (k.toNat + 1)) (List.drop (k.toNat + 1) L)).length) (by omega) (by omega) ?_)⟩
    have e3 : List.take (k.toNat + (List.take (n - (k.toNat + 1)) (List.drop (k.toNat + 1) L)).length) (List.take k.toNat L ++ List.take (n - (k.toNat + 1)) (List.drop (k.toNat + 1) L)) = List.take k.toNat L ++ List.take (n - (k.toNat + 1)) (List.drop (k.toNat + 1) L) := List.take_of_length_le (by omega)
    rw [e3]
    exact hp
theorem fs20 (l : List F.Sp) (l_t : Bool) (band : Int) (b0 : Base) (hb : b0.n = 1) (out L W : List F.Sp) (on n wn : Nat) (hn : n ≤ L.length) (h20 : n ≤ 20)
    (nx : ∀ k : Int, 0 ≤ k → k < n → (∀ j, j < n → leS (L.getD k.toNat F.sp0) (L.getD j F.sp0)) → Sym.Runs Try.prog b0 (regAt Try.f9 25) (st_fslaw_r25 l l_t band 0 out L W on n wn k) (Sym.Ends Try.prog Try.f9 1 (.c (.bool true)) [])) :
    ∀ (m : Nat) (i k : Int), 0 ≤ i → i + m = n → 0 ≤ k → k < n → (∀ j, j < i.toNat → leS (L.getD k.toNat F.sp0) (L.getD j F.sp0)) →
    Sym.Runs Try.prog b0 (cutAt Try.f9 20) (st_fslaw_20 l l_t band 0 out L W on n wn i k) (Sym.Ends Try.prog Try.f9 1 (.c (.bool true)) []) := by
  intro m
  induction m with
  | zero =>
    intro i k h0 hm hk hk2 hle
    refine Runs.go (cfg := C_spotsB) L_spotsB_ok mixed cuts_fslaw 400 hb (fslaw_t20 l l_t band 0 out L W on n wn i k) ?_
    simp only [T.wp, T.wp_cond, Aft, decide_eq_true_eq]
    exact ite_no (by simp only [Int.ofNat_eq_natCast]; omega) (nx k hk hk2 (fun j hj => hle j (by omega)))
  | succ m ih =>
    intro i k h0 hm hk hk2 hle
    have h64 : i64ok (i + 1) := by unfold i64ok; omega
    refine Runs.go (cfg := C_spotsB) L_spotsB_ok mixed cuts_fslaw 400 hb (fslaw_t20 l l_t band 0 out L W on n wn i k) ?_
    simp only [T.wp, T.wp_cond, Aft, decide_eq_true_eq, Nat.zero_add]
    refine ite_yes (by simp only [Int.ofNat_eq_natCast]; omega) ⟨by simp only [Int.ofNat_eq_natCast]; omega, by omega, by simp only [Int.ofNat_eq_natCast]; omega, by omega, ?_⟩
    by_cases c : F.ltS (L.getD i.toNat F.sp0) (L.getD k.toNat F.sp0)
    · have nx1 := ih (i + 1) i (by omega) (by omega) h0 (by omega) (fun j hj => by
        by_cases e : j = i.toNat
        · rw [e]; exact ltS_irr _
        · exact leS_trans (fun h => ltS_irr _ (ltS_trans c h)) (hle j (by omega)))
      exact ite_yes ((cmpS_lt (L.getD i.toNat F.sp0) (L.getD k.toNat F.sp0)).2 c) ⟨h64, nx1⟩
    · have nx1 := ih (i + 1) k (by omega) (by omega) hk hk2 (fun j hj => by
        by_cases e : j = i.toNat
        · rw [e]; exact c
        · exact hle j (by omega))
      exact ite_no (fun h => c ((cmpS_lt (L.getD i.toNat F.sp0) (L.getD k.toNat F.sp0)).1 h)) ⟨h64, nx1⟩
theorem sortS_least {l l' : List F.Sp} {s : F.Sp} (hp : l.Perm (s :: l')) (hl : ∀ x ∈ l, leS s x) : F.sortS l = s :: F.sortS l' := by
  refine sortedS_one (sortS_sorted l) (List.pairwise_cons.2 ⟨fun x hx => hl x ?_, sortS_sorted l'⟩) ?_
  · exact hp.mem_iff.2 (List.mem_cons_of_mem _ ((sortS_perm l').mem_iff.1 hx))
  · exact (sortS_perm l).trans (hp.trans ((sortS_perm l').symm.cons s))
theorem fs17 (l : List F.Sp) (l_t : Bool) (band : Int) (hw : 0 ≤ band ∧ band ≤ 60000) (b0 : Base) (hb : b0.n = 1) (out : List F.Sp) (on : Nat) (hon : on = out.length) :
    ∀ (n : Nat) (L W : List F.Sp) (wn : Nat), n ≤ L.length → n ≤ 20 → wn = W.length → wn + n ≤ 20 → F.allS (L.take n) → F.allS W → out = F.dd band (F.sortS (L.take n)) W →
    Sym.Runs Try.prog b0 (cutAt Try.f9 17) (st_fslaw_17 l l_t band 0 out L W on n wn) (Sym.Ends Try.prog Try.f9 1 (.c (.bool true)) []) := by
  intro n
  induction n with
  | zero =>
    intro L W wn hn h20 hwn hwn2 hL hW ho
    have ho' : out = W := ho
    subst ho'
    have hwo : wn = on := by rw [hwn, hon]
    subst hwo
    refine Runs.go (cfg := C_spotsB) L_spotsB_ok mixed cuts_fslaw 400 hb (fslaw_t17 l l_t band 0 out L out wn 0 wn) ?_
    simp only [T.wp, T.wp_cond, Aft, decide_eq_true_eq]
    refine ite_no (by decide) (ite_no (by decide) (ite_no (by simp) (Runs.turn [0, 1, 3] 1 hb (by decide) rfl rfl rfl (fs38 l l_t band b0 hb out wn hwn (by omega) wn 0 (by omega) (by omega)))))
  | succ n ih =>
    intro L W wn hn h20 hwn hwn2 hL hW ho
    refine Runs.go (cfg := C_spotsB) L_spotsB_ok mixed cuts_fslaw 400 hb (fslaw_t17 l l_t band 0 out L W on (n + 1) wn) ?_
    simp only [T.wp, T.wp_cond, Aft, decide_eq_true_eq]
    refine ite_yes (by simp only [Int.ofNat_eq_natCast]; omega) ?_
    have nx := fs20 l l_t band b0 hb out L W on (n + 1) wn hn h20 (fun k h0 hk hle => ?_) (n + 1) 0 0 (by omega) (by omega) (by omega) (by omega) (fun j hj => absurd hj (by omega))
    · exact nx
    refine fs25 l l_t band b0 hb out L W on (n + 1) wn k h0 hk hn h20 (fun L' n' e hlen hp => ?_)
    have e' : n' = n := by omega
    subst e'
    have hmem : ∀ x ∈ L.take (n' + 1), leS (L.getD k.toNat F.sp0) x := fun x hx => by
      obtain ⟨i, hi, rfl⟩ := List.getElem_of_mem hx
      rw [List.length_take] at hi
      have := hle i (by omega)
      have e9 : L.getD i F.sp0 = L[i]'(by omega) := by rw [List.getD, List.getElem?_eq_getElem (by omega)]; rfl
      rw [e9] at this
      rw [List.getElem_take]
      exact this
    have hs : F.sp1 (L.getD k.toNat F.sp0) := hL _ (hp.mem_iff.2 List.mem_cons_self)
    have hL' : F.allS (L'.take n') := fun x hx => hL x (hp.mem_iff.2 (List.mem_cons_of_mem _ hx))
    rw [sortS_least hp hmem, F.dd, ← hwn] at ho
    refine fs29 l l_t band hw b0 hb out L' W on n' wn _ hs hW hwn (by omega) (fun hq => ?_) (fun hq => ?_) wn 0 false (by omega) (by omega) (by simp)
    · rw [hq, if_neg Bool.false_ne_true] at ho
      exact ih L' _ (wn + 1) hlen (by omega) (by simp [hwn]) (by omega) hL' (fun x hx => by
        rcases List.mem_append.1 hx with h | h
        · exact hW x h
        · rw [List.mem_singleton.1 h]; exact hs) ho
    · rw [hq, if_pos rfl] at ho
      exact ih L' W wn hlen (by omega) hwn (by omega) hL' hW ho
theorem fs8 (l : List F.Sp) (l_t : Bool) (band : Int) (lt : Bool) (b0 : Base) (hb : b0.n = 1) (ln : Nat) (h20 : ln ≤ 20) (hln : ln = l.length) (E : Int) (out : List F.Sp) (on : Nat) (hon : on = out.length) (hE4 : E ≠ 0 → on = 0) (hE0 : E = 0 → out = F.spots l band) :
    ∀ (m : Nat) (k : Int), 0 ≤ k → k + m = ln → (∀ j, j < k.toNat → F.sp1 (l.getD j F.sp0)) → E = (if F.spc l m k.toNat = 0 then (if F.wr band then 4 else 0) else F.spc l m k.toNat) →
    Sym.Runs Try.prog b0 (cutAt Try.f9 8) (st_fslaw_8 l l_t band ln lt E out on k) (Sym.Ends Try.prog Try.f9 1 (.c (.bool true)) []) := by
  intro m
  induction m with
  | zero =>
    intro k h0 hm hall hE
    simp only [F.spc, if_true] at hE
    cases hw : F.wr band with
    | true =>
      rw [hw, if_pos rfl] at hE
      subst hE
      have ho := hE4 (by decide)
      subst ho
      have hin : F.inb band 0 60000 = false := by
        unfold F.wr at hw
        unfold F.inb
        simp only [Bool.or_eq_true, decide_eq_true_eq] at hw
        simp only [Bool.and_eq_false_iff, decide_eq_false_iff_not]
        omega
      refine Runs.go (cfg := C_spotsB) L_spotsB_ok mixed cuts_fslaw 400 hb (fslaw_t8 l l_t band ln lt 4 out 0 k) ?_
      simp only [T.wp, T.wp_cond, Aft, decide_eq_true_eq]
      exact ite_no (by simp only [Int.ofNat_eq_natCast]; omega) (ite_yes (by rw [hin]; rfl) (ite_yes trivial (by simp)))
    | false =>
      rw [hw, if_neg Bool.false_ne_true] at hE
      subst hE
      have ho := hE0 rfl
      have hwb : 0 ≤ band ∧ band ≤ 60000 := by
        unfold F.wr at hw
        simp only [Bool.or_eq_false_iff, decide_eq_false_iff_not] at hw
        omega
      have hin : F.inb band 0 60000 = true := by
        unfold F.inb
        simp only [Bool.and_eq_true, decide_eq_true_eq]
        exact hwb
      have ha : F.allS l := fun x hx => by
        obtain ⟨i, hi, rfl⟩ := List.getElem_of_mem hx
        have := hall i (by omega)
        rw [List.getD, List.getElem?_eq_getElem hi] at this
        exact this
      by_cases c : ln = 0
      · have hk : k = 0 := by omega
        have hl : l = [] := List.eq_nil_of_length_eq_zero (by omega)
        subst hl
        subst hk
        subst c
        have ho' : out = [] := ho
        subst ho'
        subst hon
        refine Runs.go (cfg := Cfg.empty C_spotsB) (CfgFit.empty L_spotsB_ok) mixed cuts_fslaw 400 hb (fslaw_t8e [] l_t band lt 0 [] 0) ?_
        simp only [T.wp, T.wp_cond, Aft]
        refine ite_no (by rw [hin]; decide) ⟨trivial, trivial, ?_⟩
        refine Runs.go (cfg := C_spotsB) L_spotsB_ok mixed cuts_fslaw 400 hb (fslaw_t17z [] band 0 [] 0) ?_
        simp only [T.wp, T.wp_cond, Aft]
        exact ite_no (by decide) (ite_no (by decide) (Runs.turn [0, 1, 3] 1 hb (by decide) rfl rfl rfl (fs38 [] l_t band b0 hb [] 0 rfl (by omega) 0 0 (by omega) (by omega))))
      · refine Runs.go (cfg := C_spotsB) L_spotsB_ok mixed cuts_fslaw 400 hb (fslaw_t8 l l_t band ln lt 0 out on k) ?_
        simp only [T.wp, T.wp_cond, Aft, decide_eq_true_eq, List.drop_zero, Nat.zero_add]
        have hlen : (List.take ln l).length = ln := by rw [List.length_take]; omega
        refine ite_no (by simp only [Int.ofNat_eq_natCast]; omega) (ite_no (by rw [hin]; decide) ⟨hlen, trivial, by omega, ?_⟩)
        have ht : List.take (List.take ln l).length ([] ++ List.take ln l) = l := by
          rw [List.nil_append, hlen, List.take_take, Nat.min_self, hln, List.take_length]
        have nx := fs17 l l_t band hwb b0 hb out on hon (List.take ln l).length ([] ++ List.take ln l) [] 0 (Nat.le_refl _) (by omega) rfl (by omega) (by rw [ht]; exact ha) (fun x hx => by cases hx) (by rw [ht]; exact ho)
        exact Runs.turn [0, 1, 3, 4] 11 hb (by decide) rfl rfl rfl nx
  | succ m ih =>
    intro k h0 hm hall hE
    have k2 : k.toNat < l.length := by omega
    refine Runs.go (cfg := C_spotsB) L_spotsB_ok mixed cuts_fslaw 400 hb (fslaw_t8 l l_t band ln lt E out on k) ?_
    simp only [T.wp, T.wp_cond, Aft, decide_eq_true_eq]
    refine ite_yes (by simp only [Int.ofNat_eq_natCast]; omega) ⟨by simp only [Int.ofNat_eq_natCast]; omega, by omega, ?_⟩
    rw [Nat.zero_add]
    rw [F.spc] at hE
    by_cases hv : F.spv (l.getD k.toNat F.sp0) = 0
    · rw [if_pos hv] at hE
      have nx := ih (k + 1) (by omega) (by omega) (fun j hj => by
        by_cases e : j = k.toNat
        · rw [e]; exact hv
        · exact hall j (by omega)) (by rw [show (k + 1).toNat = k.toNat + 1 by omega]; exact hE)
      refine ite_no (by
        change ¬ (!decide (F.spv (l.getD k.toNat F.sp0) = 0)) = true
        rw [hv]; decide) ?_
      exact ⟨by unfold i64ok; omega, nx⟩
    · rw [if_neg hv, if_neg hv, F.spv04 _ hv] at hE
      subst hE
      have ho := hE4 (by decide)
      subst ho
      refine ite_yes (by
        change (!decide (F.spv (l.getD k.toNat F.sp0) = 0)) = true
        rw [decide_eq_false hv]; rfl) ?_
      exact ite_yes rfl (by simp)
theorem fs6 (l : List F.Sp) (l_t : Bool) (band : Int) (h64 : i64ok band) (ln : Nat) (lt : Bool) (b0 : Base) (hb : b0.n = 1) (h20 : ln ≤ 20) (hln : ln = l.length) :
    Sym.Runs Try.prog b0 (regAt Try.f9 6) (st_fslaw_r6 l l_t band ln lt) (Sym.Ends Try.prog Try.f9 1 (.c (.bool true)) []) := by
  refine Runs.go (cfg := C_spotsB) L_spotsB_ok mixed cuts_fslaw_r6 400 hb (fslaw_tr6 l l_t band ln lt) ?_
  simp only [T.wp, T.wp_cond, Aft, decide_eq_true_eq]
  have hE : F.spE l band = (if F.spc l ln 0 = 0 then (if F.wr band then 4 else 0) else F.spc l ln 0) := by
    rw [F.spE, if_neg (by omega), hln]
  refine ⟨⟨⟨trivial, hln⟩, h64⟩, fun h => ?_, fun h => ?_⟩
  · have nx := fs8 l l_t band lt b0 hb ln h20 hln 0 (F.spots l band) (F.spots l band).length rfl (fun h => absurd rfl h) (fun _ => rfl) ln 0 (by omega) (by omega) (fun j hj => absurd hj (by omega)) (by rw [h] at hE; exact hE)
    exact nx
  · have nx := fs8 l l_t band lt b0 hb ln h20 hln (F.spE l band) [] 0 rfl (fun _ => rfl) (fun e => absurd e (of_decide_eq_false h)) ln 0 (by omega) (by omega) (fun j hj => absurd hj (by omega)) hE
    exact nx
theorem fslaw_run (l : List (Int × Int × Int × Int × Int × Int)) (l_t : Bool) (band : Int) (b0 : Base) (hb : b0.n = 1) (h0 : i64ok band) : Sym.Runs Try.prog b0 [.code (codeOf Try.f9)] ⟨argsS Try.f9 [.c (.slc 0 0 (List.length l) l_t), .c (.int .i64 band)], ([.inp 2 l] : Heap cod)⟩ (Sym.Ends Try.prog Try.f9 1 (.c (.bool true)) []) := by
  refine Runs.go (cfg := C_spotsB) L_spotsB_ok mixed cuts_fslaw 400 hb (fslaw_t0 l l_t band) ?_
  simp only [T.wp, T.wp_cond, Aft]
  refine ⟨⟨⟨trivial, trivial⟩, by unfold i64ok; decide⟩, fun _ => ⟨by decide, by decide, ?_⟩, fun h => absurd h (by decide)⟩
  by_cases c : 20 < l.length
  · refine ite_yes (by simp only [Int.ofNat_eq_natCast, decide_eq_true_eq]; omega) ⟨by simp only [Int.ofNat_eq_natCast]; omega, ?_⟩
    exact Runs.trim 0 20 rfl (fs6 (l.take 20) l_t band h0 20 false b0 hb (by omega) (by rw [List.length_take]; omega))
  · refine ite_no (by simp only [Int.ofNat_eq_natCast, decide_eq_true_eq]; omega) ?_
    exact fs6 l l_t band h0 l.length l_t b0 hb (by omega) rfl



noncomputable def s_fslaw : Summ cod := fun args H => match args, H with
  | [.c (.slc 0 l_i l_n l_t), .c (.int .i64 band)], [o0] => (match o0.asInp 2 with | some l => .need ((l_i = 0 ∧ l_n = List.length l) ∧ (i64ok band)) (.ret (.c (.bool true), [])) | none => .fail)
  | _, _ => .fail


theorem fslaw_sound : Sound Try.prog cod 9 s_fslaw := sound_runs (cfg := C_spotsB) L_spotsB_ok mixed Try.func9 rfl rfl _ fun args H r news hg b0 hb => by
  unfold s_fslaw at hg
  split at hg
  · skip
    split at hg
    · rename_i l hx0
      cases asInp_spec hx0
      simp only [T.gives, T.wp, Prod.mk.injEq] at hg
      obtain ⟨⟨⟨rfl, rfl⟩, q1⟩, rfl, rfl⟩ := hg
      exact fslaw_run _ _ _ b0 hb (by assumption)
    · exact hg.elim
  · exact hg.elim

noncomputable def L_fslaw : Sums cod := (9, .p s_fslaw) :: L_spotsB
noncomputable def C_fslaw : Cfg cod := mkC L_fslaw

theorem L_fslaw_ok : Snd Try.prog cod L_fslaw := .cons fslaw_sound L_spotsB_ok


end
end Go.Proofs.Ytbkpgpkeecnjpaa
