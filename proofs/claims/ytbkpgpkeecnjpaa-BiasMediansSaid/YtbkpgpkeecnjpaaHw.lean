/- Part of a claim: lemmas on the way to its theorem; each states its own conditions. -/
import Derived.Test.YtbkpgpkeecnjpaaHu
import Derived.Test.YtbkpgpkeecnjpaaSym29
namespace Go.Proofs.Ytbkpgpkeecnjpaa
open Sym Go.RowKit
noncomputable section
set_option maxRecDepth 100000
set_option maxHeartbeats 4000000



def cuts_est : Cuts := [(8, [4, 6, 36, 32, 1, 0, 33, 37, 38], 4), (21, [1, 62, 4, 6, 63, 64, 14, 13, 12], 30)]

theorem est_t0 (a : List (Int × Int × Int × Int × Int × Int)) (a_t : Bool) (b : List (Int × Int × Int × Int × Int × Int)) (b_t : Bool) : symF C_turn cuts_est Try.f25.results.toList 2 400 [.code (codeOf Try.f25)] ⟨argsS Try.f25 [.c (.slc 0 0 (List.length a) a_t), .c (.slc 1 0 (List.length b) b_t)], ([.inp 2 a, .inp 2 b] : Heap cod)⟩ =
 cond (decide (256 < Int.ofNat (List.length a))) (
 .ret (.fin (.tup [.agg [.int .i64 0, .int .i64 0, .int .i64 0], .c (.int .i64 2)]) [])) (
 cond (decide (256 < Int.ofNat (List.length b))) (
  .ret (.fin (.tup [.agg [.int .i64 0, .int .i64 0, .int .i64 0], .c (.int .i64 2)]) [])) (
  .ret (.cut (cutAt Try.f25 8) ⟨tmG 73 [(0, .c (.slc 0 0 (List.length a) a_t)), (0, .c (.slc 1 0 (List.length b) b_t)), (2, .c (.ptr 2 0 0)), (1, .c (.ptr 3 0 0)), (25, .agg [.slc 0 0 (List.length a) a_t, .slc 1 0 (List.length b) b_t]), (0, .c (.int .i64 0)), (2, .c (.slc 0 0 (List.length a) a_t)), (0, .c (.int .i64 (Int.ofNat (List.length a)))), (0, .c (.int .i64 0))], [.inp 2 a, .inp 2 b, .blk [.int .i64 0, .int .i64 0, .int .i64 0] 49, .blk [.int .i64 0, .int .i64 0, .int .i64 0] 49]⟩))) := by kernel_rfl


noncomputable def st_est_8 (a : List (Int × Int × Int × Int × Int × Int)) (a_t : Bool) (b : List (Int × Int × Int × Int × Int × Int)) (b_t : Bool) (i : Int) : St cod := ⟨tmG 73 [(0, .c (.slc 0 0 (List.length a) a_t)), (0, .c (.slc 1 0 (List.length b) b_t)), (2, .c (.ptr 2 0 0)), (1, .c (.ptr 3 0 0)), (25, .agg [.slc 0 0 (List.length a) a_t, .slc 1 0 (List.length b) b_t]), (0, .c (.int .i64 0)), (2, .c (.slc 0 0 (List.length a) a_t)), (0, .c (.int .i64 (Int.ofNat (List.length a)))), (0, .c (.int .i64 i))], [.inp 2 a, .inp 2 b, .blk [.int .i64 0, .int .i64 0, .int .i64 0] 49, .blk [.int .i64 0, .int .i64 0, .int .i64 0] 49]⟩


theorem est_t8 (a : List (Int × Int × Int × Int × Int × Int)) (a_t : Bool) (b : List (Int × Int × Int × Int × Int × Int)) (b_t : Bool) (i : Int) : symF C_turn cuts_est Try.f25.results.toList 2 400 (cutAt Try.f25 8) (st_est_8 a a_t b b_t i) =
 cond (decide (i < Int.ofNat (List.length a))) (
 .need (((0 : Int) ≤ i ∧ i < Int.ofNat (List.length a))) (
 .need (0 + Int.toNat i < List.length a) (
 cond (!decide     (F.plot (List.getD a (0 + Int.toNat i) (cod 2).d).1 (List.getD a (0 + Int.toNat i) (cod 2).d).2.1         (List.getD a (0 + Int.toNat i) (cod 2).d).2.2.1 (List.getD a (0 + Int.toNat i) (cod 2).d).2.2.2.1         (List.getD a (0 + Int.toNat i) (cod 2).d).2.2.2.2.1 (List.getD a (0 + Int.toNat i) (cod 2).d).2.2.2.2.2 =       0)) (
  .ret (.fin (.tup [.agg [.int .i64 0, .int .i64 0, .int .i64 0], .c (.int .i64 (F.plot (List.getD a (0 + Int.toNat i) (cod 2).d).1 (List.getD a (0 + Int.toNat i) (cod 2).d).2.1   (List.getD a (0 + Int.toNat i) (cod 2).d).2.2.1 (List.getD a (0 + Int.toNat i) (cod 2).d).2.2.2.1   (List.getD a (0 + Int.toNat i) (cod 2).d).2.2.2.2.1 (List.getD a (0 + Int.toNat i) (cod 2).d).2.2.2.2.2))]) [])) (
  .need (i64ok (i + 1)) (
  .ret (.cut (cutAt Try.f25 8) ⟨tmG 73 [(0, .c (.slc 0 0 (List.length a) a_t)), (0, .c (.slc 1 0 (List.length b) b_t)), (2, .c (.ptr 2 0 0)), (1, .c (.ptr 3 0 0)), (25, .agg [.slc 0 0 (List.length a) a_t, .slc 1 0 (List.length b) b_t]), (0, .c (.int .i64 0)), (2, .c (.slc 0 0 (List.length a) a_t)), (0, .c (.int .i64 (Int.ofNat (List.length a)))), (0, .c (.int .i64 (i + 1)))], [.inp 2 a, .inp 2 b, .blk [.int .i64 0, .int .i64 0, .int .i64 0] 49, .blk [.int .i64 0, .int .i64 0, .int .i64 0] 49]⟩)))))) (
 .need (i64ok (0 + 1)) (
 .ret (.cut (cutAt Try.f25 8) ⟨tmG 73 [(0, .c (.slc 0 0 (List.length a) a_t)), (0, .c (.slc 1 0 (List.length b) b_t)), (2, .c (.ptr 2 0 0)), (1, .c (.ptr 3 0 0)), (25, .agg [.slc 0 0 (List.length a) a_t, .slc 1 0 (List.length b) b_t]), (0, .c (.int .i64 (0 + 1))), (2, .c (.slc 1 0 (List.length b) b_t)), (0, .c (.int .i64 (Int.ofNat (List.length b)))), (0, .c (.int .i64 0))], [.inp 2 a, .inp 2 b, .blk [.int .i64 0, .int .i64 0, .int .i64 0] 49, .blk [.int .i64 0, .int .i64 0, .int .i64 0] 49]⟩))) := by kernel_rfl


noncomputable def st_est_8b (a : List (Int × Int × Int × Int × Int × Int)) (a_t : Bool) (b : List (Int × Int × Int × Int × Int × Int)) (b_t : Bool) (i : Int) : St cod := ⟨tmG 73 [(0, .c (.slc 0 0 (List.length a) a_t)), (0, .c (.slc 1 0 (List.length b) b_t)), (2, .c (.ptr 2 0 0)), (1, .c (.ptr 3 0 0)), (25, .agg [.slc 0 0 (List.length a) a_t, .slc 1 0 (List.length b) b_t]), (0, .c (.int .i64 1)), (2, .c (.slc 1 0 (List.length b) b_t)), (0, .c (.int .i64 (Int.ofNat (List.length b)))), (0, .c (.int .i64 i))], [.inp 2 a, .inp 2 b, .blk [.int .i64 0, .int .i64 0, .int .i64 0] 49, .blk [.int .i64 0, .int .i64 0, .int .i64 0] 49]⟩


theorem est_t8b (a : List (Int × Int × Int × Int × Int × Int)) (a_t : Bool) (b : List (Int × Int × Int × Int × Int × Int)) (b_t : Bool) (i : Int) : symF C_turn cuts_est Try.f25.results.toList 2 400 (cutAt Try.f25 8) (st_est_8b a a_t b b_t i) =
 cond (decide (i < Int.ofNat (List.length b))) (
 .need (((0 : Int) ≤ i ∧ i < Int.ofNat (List.length b))) (
 .need (0 + Int.toNat i < List.length b) (
 cond (!decide     (F.plot (List.getD b (0 + Int.toNat i) (cod 2).d).1 (List.getD b (0 + Int.toNat i) (cod 2).d).2.1         (List.getD b (0 + Int.toNat i) (cod 2).d).2.2.1 (List.getD b (0 + Int.toNat i) (cod 2).d).2.2.2.1         (List.getD b (0 + Int.toNat i) (cod 2).d).2.2.2.2.1 (List.getD b (0 + Int.toNat i) (cod 2).d).2.2.2.2.2 =       0)) (
  .ret (.fin (.tup [.agg [.int .i64 0, .int .i64 0, .int .i64 0], .c (.int .i64 (F.plot (List.getD b (0 + Int.toNat i) (cod 2).d).1 (List.getD b (0 + Int.toNat i) (cod 2).d).2.1   (List.getD b (0 + Int.toNat i) (cod 2).d).2.2.1 (List.getD b (0 + Int.toNat i) (cod 2).d).2.2.2.1   (List.getD b (0 + Int.toNat i) (cod 2).d).2.2.2.2.1 (List.getD b (0 + Int.toNat i) (cod 2).d).2.2.2.2.2))]) [])) (
  .need (i64ok (i + 1)) (
  .ret (.cut (cutAt Try.f25 8) ⟨tmG 73 [(0, .c (.slc 0 0 (List.length a) a_t)), (0, .c (.slc 1 0 (List.length b) b_t)), (2, .c (.ptr 2 0 0)), (1, .c (.ptr 3 0 0)), (25, .agg [.slc 0 0 (List.length a) a_t, .slc 1 0 (List.length b) b_t]), (0, .c (.int .i64 1)), (2, .c (.slc 1 0 (List.length b) b_t)), (0, .c (.int .i64 (Int.ofNat (List.length b)))), (0, .c (.int .i64 (i + 1)))], [.inp 2 a, .inp 2 b, .blk [.int .i64 0, .int .i64 0, .int .i64 0] 49, .blk [.int .i64 0, .int .i64 0, .int .i64 0] 49]⟩)))))) (
 .need (i64ok (1 + 1)) (
 cond (!decide (Int.ofNat (List.length a) = Int.ofNat (List.length b))) (
  .ret (.fin (.tup [.agg [.int .i64 0, .int .i64 0, .int .i64 0], .c (.int .i64 3)]) [])) (
  cond (decide (Int.ofNat (List.length b) = 0)) (
   .ret (.fin (.tup [.agg [.int .i64 0, .int .i64 0, .int .i64 0], .c (.int .i64 8)]) [])) (
   .ret (.cut (cutAt Try.f25 21) ⟨tmG 47 [(1, .c (.slc 1 0 (List.length b) b_t)), (2, .c (.ptr 2 0 0)), (1, .c (.ptr 3 0 0)), (5, .c (.own 4 0)), (0, .c (.own 5 0)), (0, .c (.own 6 0)), (47, .c (.slc 0 0 (List.length a) a_t)), (0, .c (.int .i64 (Int.ofNat (List.length a)))), (0, .c (.int .i64 0))], [.inp 2 a, .inp 2 b, .blk [.int .i64 0, .int .i64 0, .int .i64 0] 49, .blk [.int .i64 0, .int .i64 0, .int .i64 0] 49, .own 0 [] 3, .own 0 [] 3, .own 0 [] 3]⟩))))) := by kernel_rfl


noncomputable def st_est_21 (a : List (Int × Int × Int × Int × Int × Int)) (a_t : Bool) (b : List (Int × Int × Int × Int × Int × Int)) (b_t : Bool) (i : Int) (x y z : List Int) (xn yn zn : Nat) : St cod := ⟨tmG 47 [(1, .c (.slc 1 0 (List.length b) b_t)), (2, .c (.ptr 2 0 0)), (1, .c (.ptr 3 0 0)), (5, .c (.own 4 xn)), (0, .c (.own 5 yn)), (0, .c (.own 6 zn)), (47, .c (.slc 0 0 (List.length a) a_t)), (0, .c (.int .i64 (Int.ofNat (List.length a)))), (0, .c (.int .i64 i))], ([.inp 2 a, .inp 2 b, .blk [.int .i64 0, .int .i64 0, .int .i64 0] 49, .blk [.int .i64 0, .int .i64 0, .int .i64 0] 49, .own 0 x 3, .own 0 y 3, .own 0 z 3] : Heap cod)⟩


theorem est_t21 (a : List (Int × Int × Int × Int × Int × Int)) (a_t : Bool) (b : List (Int × Int × Int × Int × Int × Int)) (b_t : Bool) (i : Int) (x y z : List Int) (xn yn zn : Nat) : symF C_turn cuts_est Try.f25.results.toList 2 400 (cutAt Try.f25 21) (st_est_21 a a_t b b_t i x y z xn yn zn) =
 cond (decide (i < Int.ofNat (List.length a))) (
 .need (((0 : Int) ≤ i ∧ i < Int.ofNat (List.length a))) (
 .need (0 + Int.toNat i < List.length a) (
 .need (((0 : Int) ≤ i ∧ i < Int.ofNat (List.length b))) (
 .need (0 + Int.toNat i < List.length b) (
 .need (i64ok ((List.getD b (0 + Int.toNat i) (cod 2).d).2.2.1 - (List.getD a (0 + Int.toNat i) (cod 2).d).2.2.1)) (
 .need (1 = 1) (
 .need (xn + 1 ≤ 1000000) (
 .need (i64ok ((List.getD b (0 + Int.toNat i) (cod 2).d).2.2.2.1 - (List.getD a (0 + Int.toNat i) (cod 2).d).2.2.2.1)) (
 .need (1 = 1) (
 .need (yn + 1 ≤ 1000000) (
 .need (i64ok ((List.getD b (0 + Int.toNat i) (cod 2).d).2.1 - (List.getD a (0 + Int.toNat i) (cod 2).d).2.1)) (
 .need (1 = 1) (
 .need (zn + 1 ≤ 1000000) (
 .need (i64ok (i + 1)) (
 .ret (.cut (cutAt Try.f25 21) ⟨tmG 47 [(1, .c (.slc 1 0 (List.length b) b_t)), (2, .c (.ptr 2 0 0)), (1, .c (.ptr 3 0 0)), (5, .c (.own 10 (xn + 1))), (0, .c (.own 12 (yn + 1))), (0, .c (.own 14 (zn + 1))), (47, .c (.slc 0 0 (List.length a) a_t)), (0, .c (.int .i64 (Int.ofNat (List.length a)))), (0, .c (.int .i64 (i + 1)))], [.inp 2 a, .inp 2 b, .blk [.int .i64 0, .int .i64 0, .int .i64 0] 49, .blk [.int .i64 0, .int .i64 0, .int .i64 0] 49, .dead, .dead, .dead, .blk [.int .i64 ((List.getD a (0 + Int.toNat i) (cod 2).d).1), .int .i64 ((List.getD a (0 + Int.toNat i) (cod 2).d).2.1), .int .i64 ((List.getD a (0 + Int.toNat i) (cod 2).d).2.2.1), .int .i64 ((List.getD a (0 + Int.toNat i) (cod 2).d).2.2.2.1), .int .i64 ((List.getD a (0 + Int.toNat i) (cod 2).d).2.2.2.2.1), .int .i64 ((List.getD a (0 + Int.toNat i) (cod 2).d).2.2.2.2.2)] 53, .blk [.int .i64 ((List.getD b (0 + Int.toNat i) (cod 2).d).1), .int .i64 ((List.getD b (0 + Int.toNat i) (cod 2).d).2.1), .int .i64 ((List.getD b (0 + Int.toNat i) (cod 2).d).2.2.1), .int .i64 ((List.getD b (0 + Int.toNat i) (cod 2).d).2.2.2.1), .int .i64 ((List.getD b (0 + Int.toNat i) (cod 2).d).2.2.2.2.1), .int .i64 ((List.getD b (0 + Int.toNat i) (cod 2).d).2.2.2.2.2)] 53, .arr 0 ([(List.getD b (0 + Int.toNat i) (cod 2).d).2.2.1 - (List.getD a (0 + Int.toNat i) (cod 2).d).2.2.1]) 3, .own 0 (x ++ ([(List.getD b (0 + Int.toNat i) (cod 2).d).2.2.1 - (List.getD a (0 + Int.toNat i) (cod 2).d).2.2.1])) 3, .arr 0 ([F.dif (List.getD a (0 + Int.toNat i) (cod 2).d).2.2.2.1 (List.getD b (0 + Int.toNat i) (cod 2).d).2.2.2.1]) 3, .own 0 (y ++ ([F.dif (List.getD a (0 + Int.toNat i) (cod 2).d).2.2.2.1 (List.getD b (0 + Int.toNat i) (cod 2).d).2.2.2.1])) 3, .arr 0 ([(List.getD b (0 + Int.toNat i) (cod 2).d).2.1 - (List.getD a (0 + Int.toNat i) (cod 2).d).2.1]) 3, .own 0 (z ++ ([(List.getD b (0 + Int.toNat i) (cod 2).d).2.1 - (List.getD a (0 + Int.toNat i) (cod 2).d).2.1])) 3]⟩)))))))))))))))) (
 .need (List.length x ≤ 1000000) (
 .need (i64ok (Int.ofNat xn - 1)) (
 .need ((2 : Int) ≠ 0) (
 .need (i64ok (Int.tdiv (Int.ofNat xn - 1) 2)) (
 .need (((0 : Int) ≤ Int.tdiv (Int.ofNat xn - 1) 2 ∧ Int.tdiv (Int.ofNat xn - 1) 2 < Int.ofNat xn)) (
 .need (0 + Int.toNat (Int.tdiv (Int.ofNat xn - 1) 2) < List.length (F.sortI x)) (
 .need (List.length y ≤ 1000000) (
 .need (i64ok (Int.ofNat yn - 1)) (
 .need ((2 : Int) ≠ 0) (
 .need (i64ok (Int.tdiv (Int.ofNat yn - 1) 2)) (
 .need (((0 : Int) ≤ Int.tdiv (Int.ofNat yn - 1) 2 ∧ Int.tdiv (Int.ofNat yn - 1) 2 < Int.ofNat yn)) (
 .need (0 + Int.toNat (Int.tdiv (Int.ofNat yn - 1) 2) < List.length (F.sortI y)) (
 .need (List.length z ≤ 1000000) (
 .need (i64ok (Int.ofNat zn - 1)) (
 .need ((2 : Int) ≠ 0) (
 .need (i64ok (Int.tdiv (Int.ofNat zn - 1) 2)) (
 .need (((0 : Int) ≤ Int.tdiv (Int.ofNat zn - 1) 2 ∧ Int.tdiv (Int.ofNat zn - 1) 2 < Int.ofNat zn)) (
 .need (0 + Int.toNat (Int.tdiv (Int.ofNat zn - 1) 2) < List.length (F.sortI z)) (
 cond (!decide     (F.bchk (List.getD (F.sortI x) (0 + Int.toNat (Int.tdiv (Int.ofNat xn - 1) 2)) (cod 0).d)         (List.getD (F.sortI y) (0 + Int.toNat (Int.tdiv (Int.ofNat yn - 1) 2)) (cod 0).d)         (List.getD (F.sortI z) (0 + Int.toNat (Int.tdiv (Int.ofNat zn - 1) 2)) (cod 0).d) =       0)) (
  .ret (.fin (.tup [.agg [.int .i64 0, .int .i64 0, .int .i64 0], .c (.int .i64 (F.bchk (List.getD (F.sortI x) (0 + Int.toNat (Int.tdiv (Int.ofNat xn - 1) 2)) (cod 0).d)   (List.getD (F.sortI y) (0 + Int.toNat (Int.tdiv (Int.ofNat yn - 1) 2)) (cod 0).d)   (List.getD (F.sortI z) (0 + Int.toNat (Int.tdiv (Int.ofNat zn - 1) 2)) (cod 0).d)))]) [])) (
  .ret (.fin (.tup [.agg [.int .i64 (List.getD (F.sortI x) (0 + Int.toNat (Int.tdiv (Int.ofNat xn - 1) 2)) (cod 0).d), .int .i64 (List.getD (F.sortI y) (0 + Int.toNat (Int.tdiv (Int.ofNat yn - 1) 2)) (cod 0).d), .int .i64 (List.getD (F.sortI z) (0 + Int.toNat (Int.tdiv (Int.ofNat zn - 1) 2)) (cod 0).d)], .c (.int .i64 0)]) []))))))))))))))))))))) := by kernel_rfl



theorem ite_yes {c : Prop} [Decidable c] {a b : Prop} (h : c) (x : a) : if c then a else b := by rw [if_pos h]; exact x
theorem ite_no {c : Prop} [Decidable c] {a b : Prop} (h : ¬ c) (x : b) : if c then a else b := by rw [if_neg h]; exact x
theorem plot_bd {x : F.C6} (h : F.plot6 x = 0) : (0 ≤ x.1 ∧ x.1 ≤ 255) ∧ (0 ≤ x.2.1 ∧ x.2.1 ≤ 200000) ∧ (0 ≤ x.2.2.1 ∧ x.2.2.1 ≤ 2000000) ∧ (0 ≤ x.2.2.2.1 ∧ x.2.2.2.1 ≤ 4095) := by
  unfold F.plot6 F.plot F.inb at h
  split at h
  · rename_i q
    simp only [Bool.and_eq_true, decide_eq_true_eq] at q
    omega
  · cases h
theorem est_l21 (a : List F.C6) (a_t : Bool) (b : List F.C6) (b_t : Bool) (b0 : Base) (hb : b0.n = 2) (hlen : b.length = a.length) (hpos : 0 < a.length) (h256 : a.length ≤ 256) (ha : ∀ j, j < a.length → F.plot6 (a.getD j F.d6) = 0) (hbb : ∀ j, j < a.length → F.plot6 (b.getD j F.d6) = 0) (hE : F.estE a b = F.bchk (F.mR a b) (F.mA a b) (F.mT a b)) :
    ∀ (m : Nat) (i : Int) (x y z : List Int) (xn yn zn : Nat), 0 ≤ i → i + m = a.length → xn = i.toNat → yn = i.toNat → zn = i.toNat → x.length = xn → y.length = yn → z.length = zn →
    x ++ F.listN F.fR a b m i.toNat = F.listN F.fR a b a.length 0 → y ++ F.listN F.fA a b m i.toNat = F.listN F.fA a b a.length 0 → z ++ F.listN F.fT a b m i.toNat = F.listN F.fT a b a.length 0 →
    Sym.Runs Try.prog b0 (cutAt Try.f25 21) (st_est_21 a a_t b b_t i x y z xn yn zn) (Sym.Ends Try.prog Try.f25 2 (.tup [.agg [.int .i64 (F.zz (F.estE a b) (F.mR a b)), .int .i64 (F.zz (F.estE a b) (F.mA a b)), .int .i64 (F.zz (F.estE a b) (F.mT a b))], .c (.int .i64 (F.estE a b))]) []) := by
  intro m
  induction m with
  | zero =>
    intro i x y z xn yn zn h0 hm e1 e2 e3 l1 l2 l3 hx hy hz
    simp only [F.listN, List.append_nil] at hx hy hz
    refine Runs.go (cfg := C_turn) L_turn_ok mixed cuts_est 400 hb (est_t21 a a_t b b_t i x y z xn yn zn) ?_
    simp only [T.wp, T.wp_cond, Aft, decide_eq_true_eq, Nat.zero_add]
    refine ite_no (by simp only [Int.ofNat_eq_natCast]; omega) ?_
    have ex : xn = a.length := by omega
    have ey : yn = a.length := by omega
    have ez : zn = a.length := by omega
    have ht : Int.tdiv (Int.ofNat a.length - 1) 2 = ((a.length - 1) / 2 : Nat) := by
      rw [Int.tdiv_eq_ediv_of_nonneg (by simp only [Int.ofNat_eq_natCast]; omega)]
      simp only [Int.ofNat_eq_natCast]
      omega
    have hsx := sortI_len x
    have hsy := sortI_len y
    have hsz := sortI_len z
    rw [ex, ey, ez, ht]
    have hk : (((a.length - 1) / 2 : Nat) : Int).toNat = (a.length - 1) / 2 := by omega
    rw [hk]
    have g1 : (F.sortI x).getD ((a.length - 1) / 2) (cod 0).d = F.mR a b := by unfold F.mR F.med; rw [← hx, l1, ex]; rfl
    have g2 : (F.sortI y).getD ((a.length - 1) / 2) (cod 0).d = F.mA a b := by unfold F.mA F.med; rw [← hy, l2, ey]; rfl
    have g3 : (F.sortI z).getD ((a.length - 1) / 2) (cod 0).d = F.mT a b := by unfold F.mT F.med; rw [← hz, l3, ez]; rfl
    rw [g1, g2, g3]
    have i1 : i64ok (Int.ofNat a.length - 1) := by unfold i64ok; simp only [Int.ofNat_eq_natCast]; omega
    have i2 : i64ok (((a.length - 1) / 2 : Nat) : Int) := by unfold i64ok; omega
    have i3 : (0 : Int) ≤ (((a.length - 1) / 2 : Nat) : Int) ∧ (((a.length - 1) / 2 : Nat) : Int) < Int.ofNat a.length := by simp only [Int.ofNat_eq_natCast]; omega
    refine ⟨by omega, i1, by decide, i2, i3, by omega, by omega, i1, by decide, i2, i3, by omega, by omega, i1, by decide, i2, i3, by omega, ?_⟩
    rw [hE]
    by_cases c : F.bchk (F.mR a b) (F.mA a b) (F.mT a b) = 0
    · refine ite_no (by rw [c]; decide) ?_
      rw [c]
      exact ⟨rfl, trivial⟩
    · refine ite_yes (by rw [decide_eq_false c]; rfl) ?_
      unfold F.zz
      rw [if_neg c, if_neg c, if_neg c]
      exact ⟨rfl, trivial⟩
  | succ m ih =>
    intro i x y z xn yn zn h0 hm e1 e2 e3 l1 l2 l3 hx hy hz
    refine Runs.go (cfg := C_turn) L_turn_ok mixed cuts_est 400 hb (est_t21 a a_t b b_t i x y z xn yn zn) ?_
    simp only [T.wp, T.wp_cond, Aft, decide_eq_true_eq, Nat.zero_add]
    refine ite_yes (by simp only [Int.ofNat_eq_natCast]; omega) ?_
    have ba := plot_bd (ha i.toNat (by omega))
    have bb := plot_bd (hbb i.toNat (by omega))
    have hi : (i + 1).toNat = i.toNat + 1 := by omega
    have n1 : (0 : Int) ≤ i ∧ i < Int.ofNat a.length := by simp only [Int.ofNat_eq_natCast]; omega
    have n2 : (0 : Int) ≤ i ∧ i < Int.ofNat b.length := by simp only [Int.ofNat_eq_natCast]; omega
    have u1 : i64ok ((b.getD i.toNat F.d6).2.2.1 - (a.getD i.toNat F.d6).2.2.1) := by unfold i64ok; omega
    have u2 : i64ok ((b.getD i.toNat F.d6).2.2.2.1 - (a.getD i.toNat F.d6).2.2.2.1) := by unfold i64ok; omega
    have u3 : i64ok ((b.getD i.toNat F.d6).2.1 - (a.getD i.toNat F.d6).2.1) := by unfold i64ok; omega
    refine ⟨n1, by omega, n2, by omega, u1, trivial, by omega, u2, trivial, by omega, u3, trivial, by omega, by unfold i64ok; omega, ?_⟩
    rw [F.listN] at hx hy hz
    have nx := ih (i + 1) (x ++ [F.fR (a.getD i.toNat F.d6) (b.getD i.toNat F.d6)]) (y ++ [F.fA (a.getD i.toNat F.d6) (b.getD i.toNat F.d6)]) (z ++ [F.fT (a.getD i.toNat F.d6) (b.getD i.toNat F.d6)]) (xn + 1) (yn + 1) (zn + 1) (by omega) (by omega) (by omega) (by omega) (by omega) (by simp [l1]) (by simp [l2]) (by simp [l3]) (by rw [hi, List.append_assoc]; exact hx) (by rw [hi, List.append_assoc]; exact hy) (by rw [hi, List.append_assoc]; exact hz)
    exact Runs.turn [0, 1, 2, 3, 10, 12, 14] 64 hb (by decide) rfl rfl rfl nx
theorem errN_all (l : List F.C6) : ∀ (m j : Nat), F.errN l m j = 0 → ∀ i, j ≤ i → i < j + m → F.plot6 (l.getD i F.d6) = 0
  | 0, j, _, i, h1, h2 => by omega
  | m + 1, j, h, i, h1, h2 => by
    rw [F.errN] at h
    split at h
    · contradiction
    · rename_i q
      by_cases e : i = j
      · subst e
        exact Decidable.not_not.1 q
      · exact errN_all l m (j + 1) h i (by omega) (by omega)
theorem est_l8b (a : List F.C6) (a_t : Bool) (b : List F.C6) (b_t : Bool) (b0 : Base) (hb : b0.n = 2) (h256 : a.length ≤ 256 ∧ b.length ≤ 256) (ha : F.errN a a.length 0 = 0) :
    ∀ (m : Nat) (i : Int), 0 ≤ i → i + m = b.length → F.errN b b.length 0 = F.errN b m i.toNat →
    Sym.Runs Try.prog b0 (cutAt Try.f25 8) (st_est_8b a a_t b b_t i) (Sym.Ends Try.prog Try.f25 2 (.tup [.agg [.int .i64 (F.zz (F.estE a b) (F.mR a b)), .int .i64 (F.zz (F.estE a b) (F.mA a b)), .int .i64 (F.zz (F.estE a b) (F.mT a b))], .c (.int .i64 (F.estE a b))]) []) := by
  intro m
  induction m with
  | zero =>
    intro i h0 hm hI
    rw [F.errN] at hI
    refine Runs.go (cfg := C_turn) L_turn_ok mixed cuts_est 400 hb (est_t8b a a_t b b_t i) ?_
    simp only [T.wp, T.wp_cond, Aft, decide_eq_true_eq]
    refine ite_no (by simp only [Int.ofNat_eq_natCast]; omega) ⟨by unfold i64ok; omega, ?_⟩
    have hE : F.estE a b = if a.length ≠ b.length then 3 else if a.length = 0 then 8 else F.bchk (F.mR a b) (F.mA a b) (F.mT a b) := by
      unfold F.estE
      rw [if_neg (by omega), if_neg (by rw [ha]; decide), if_neg (by rw [hI]; decide)]
    by_cases c : a.length = b.length
    · rw [if_neg (by simpa using c)] at hE
      refine ite_no (by simp [c]) ?_
      by_cases c2 : a.length = 0
      · rw [if_pos c2] at hE
        refine ite_yes (by simp only [Int.ofNat_eq_natCast]; omega) ?_
        rw [hE]
        exact ⟨rfl, trivial⟩
      · rw [if_neg c2] at hE
        refine ite_no (by simp only [Int.ofNat_eq_natCast]; omega) ?_
        have nx := est_l21 a a_t b b_t b0 hb c.symm (by omega) h256.1 (fun j hj => errN_all a _ _ ha j (by omega) (by omega)) (fun j hj => errN_all b _ _ hI j (by omega) (by omega)) hE a.length 0 [] [] [] 0 0 0 (by omega) (by omega) rfl rfl rfl rfl rfl rfl rfl rfl rfl
        exact nx
    · rw [if_pos (by simpa using c)] at hE
      refine ite_yes (by
        have : ¬ (Int.ofNat a.length = Int.ofNat b.length) := by simp only [Int.ofNat_eq_natCast]; omega
        rw [decide_eq_false this]; rfl) ?_
      rw [hE]
      exact ⟨rfl, trivial⟩
  | succ m ih =>
    intro i h0 hm hI
    refine Runs.go (cfg := C_turn) L_turn_ok mixed cuts_est 400 hb (est_t8b a a_t b b_t i) ?_
    simp only [T.wp, T.wp_cond, Aft, decide_eq_true_eq]
    refine ite_yes (by simp only [Int.ofNat_eq_natCast]; omega) ⟨by simp only [Int.ofNat_eq_natCast]; omega, by omega, ?_⟩
    rw [Nat.zero_add]
    rw [F.errN] at hI
    by_cases hv : F.plot6 (b.getD i.toNat F.d6) = 0
    · rw [if_neg (by rw [hv]; decide)] at hI
      have nx := ih (i + 1) (by omega) (by omega) (by rw [show (i + 1).toNat = i.toNat + 1 by omega]; exact hI)
      refine ite_no (by
        change ¬ (!decide (F.plot6 (b.getD i.toNat F.d6) = 0)) = true
        rw [hv]; decide) ?_
      exact ⟨by unfold i64ok; omega, nx⟩
    · rw [if_pos hv] at hI
      have hE : F.estE a b = F.plot6 (b.getD i.toNat F.d6) := by
        unfold F.estE
        rw [if_neg (by omega), if_neg (by rw [ha]; decide), if_pos (by rw [hI]; exact hv), hI]
      refine ite_yes (by
        change (!decide (F.plot6 (b.getD i.toNat F.d6) = 0)) = true
        rw [decide_eq_false hv]; rfl) ?_
      rw [hE]
      unfold F.zz
      rw [if_neg hv, if_neg hv, if_neg hv]
      exact ⟨rfl, trivial⟩
theorem est_l8 (a : List F.C6) (a_t : Bool) (b : List F.C6) (b_t : Bool) (b0 : Base) (hb : b0.n = 2) (h256 : a.length ≤ 256 ∧ b.length ≤ 256) :
    ∀ (m : Nat) (i : Int), 0 ≤ i → i + m = a.length → F.errN a a.length 0 = F.errN a m i.toNat →
    Sym.Runs Try.prog b0 (cutAt Try.f25 8) (st_est_8 a a_t b b_t i) (Sym.Ends Try.prog Try.f25 2 (.tup [.agg [.int .i64 (F.zz (F.estE a b) (F.mR a b)), .int .i64 (F.zz (F.estE a b) (F.mA a b)), .int .i64 (F.zz (F.estE a b) (F.mT a b))], .c (.int .i64 (F.estE a b))]) []) := by
  intro m
  induction m with
  | zero =>
    intro i h0 hm hI
    rw [F.errN] at hI
    refine Runs.go (cfg := C_turn) L_turn_ok mixed cuts_est 400 hb (est_t8 a a_t b b_t i) ?_
    simp only [T.wp, T.wp_cond, Aft, decide_eq_true_eq]
    refine ite_no (by simp only [Int.ofNat_eq_natCast]; omega) ⟨by unfold i64ok; omega, ?_⟩
    have nx := est_l8b a a_t b b_t b0 hb h256 hI b.length 0 (by omega) (by omega) rfl
    exact nx
  | succ m ih =>
    intro i h0 hm hI
    refine Runs.go (cfg := C_turn) L_turn_ok mixed cuts_est 400 hb (est_t8 a a_t b b_t i) ?_
    simp only [T.wp, T.wp_cond, Aft, decide_eq_true_eq]
    refine ite_yes (by simp only [Int.ofNat_eq_natCast]; omega) ⟨by simp only [Int.ofNat_eq_natCast]; omega, by omega, ?_⟩
    rw [Nat.zero_add]
    rw [F.errN] at hI
    by_cases hv : F.plot6 (a.getD i.toNat F.d6) = 0
    · rw [if_neg (by rw [hv]; decide)] at hI
      have nx := ih (i + 1) (by omega) (by omega) (by rw [show (i + 1).toNat = i.toNat + 1 by omega]; exact hI)
      refine ite_no (by
        change ¬ (!decide (F.plot6 (a.getD i.toNat F.d6) = 0)) = true
        rw [hv]; decide) ?_
      exact ⟨by unfold i64ok; omega, nx⟩
    · rw [if_pos hv] at hI
      have hE : F.estE a b = F.plot6 (a.getD i.toNat F.d6) := by
        unfold F.estE
        rw [if_neg (by omega), if_pos (by rw [hI]; exact hv), hI]
      refine ite_yes (by
        change (!decide (F.plot6 (a.getD i.toNat F.d6) = 0)) = true
        rw [decide_eq_false hv]; rfl) ?_
      rw [hE]
      unfold F.zz
      rw [if_neg hv, if_neg hv, if_neg hv]
      exact ⟨rfl, trivial⟩
theorem est_run (a : List (Int × Int × Int × Int × Int × Int)) (a_t : Bool) (b : List (Int × Int × Int × Int × Int × Int)) (b_t : Bool) (b0 : Base) (hb : b0.n = 2)  : Sym.Runs Try.prog b0 [.code (codeOf Try.f25)] ⟨argsS Try.f25 [.c (.slc 0 0 (List.length a) a_t), .c (.slc 1 0 (List.length b) b_t)], ([.inp 2 a, .inp 2 b] : Heap cod)⟩ (Sym.Ends Try.prog Try.f25 2 (.tup [.agg [.int .i64 (F.zz (F.estE a b) (F.mR a b)), .int .i64 (F.zz (F.estE a b) (F.mA a b)), .int .i64 (F.zz (F.estE a b) (F.mT a b))], .c (.int .i64 (F.estE a b))]) []) := by
  refine Runs.go (cfg := C_turn) L_turn_ok mixed cuts_est 400 hb (est_t0 a a_t b b_t) ?_
  simp only [T.wp, T.wp_cond, Aft, decide_eq_true_eq]
  by_cases c : 256 < a.length
  · refine ite_yes (by simp only [Int.ofNat_eq_natCast]; omega) ?_
    have hE : F.estE a b = 2 := by unfold F.estE; rw [if_pos (.inl c)]
    rw [hE]
    exact ⟨rfl, trivial⟩
  · refine ite_no (by simp only [Int.ofNat_eq_natCast]; omega) ?_
    by_cases c2 : 256 < b.length
    · refine ite_yes (by simp only [Int.ofNat_eq_natCast]; omega) ?_
      have hE : F.estE a b = 2 := by unfold F.estE; rw [if_pos (.inr c2)]
      rw [hE]
      exact ⟨rfl, trivial⟩
    · refine ite_no (by simp only [Int.ofNat_eq_natCast]; omega) ?_
      have nx := est_l8 a a_t b b_t b0 hb (by omega) a.length 0 (by omega) (by omega) rfl
      exact nx



noncomputable def s_est : Summ cod := fun args H => match args, H with
  | [.c (.slc 0 a_i a_n a_t), .c (.slc 1 b_i b_n b_t)], [o0, o1] => (match o0.asInp 2 with | some a => (match o1.asInp 2 with | some b => .need ((a_i = 0 ∧ a_n = List.length a) ∧ (b_i = 0 ∧ b_n = List.length b)) (.ret (.tup [.agg [.int .i64 (F.zz (F.estE a b) (F.mR a b)), .int .i64 (F.zz (F.estE a b) (F.mA a b)), .int .i64 (F.zz (F.estE a b) (F.mT a b))], .c (.int .i64 (F.estE a b))], [])) | none => .fail) | none => .fail)
  | _, _ => .fail


theorem est_sound : Sound Try.prog cod 25 s_est := sound_runs (cfg := C_turn) L_turn_ok mixed Try.func25 rfl rfl _ fun args H r news hg b0 hb => by
  unfold s_est at hg
  split at hg
  · skip
    split at hg
    · rename_i a hx0
      cases asInp_spec hx0
      split at hg
      · rename_i b hx1
        cases asInp_spec hx1
        simp only [T.gives, T.wp, Prod.mk.injEq] at hg
        obtain ⟨⟨⟨rfl, rfl⟩, ⟨rfl, rfl⟩⟩, rfl, rfl⟩ := hg
        exact est_run _ _ _ _ b0 hb 
      · exact hg.elim
    · exact hg.elim
  · exact hg.elim

noncomputable def L_est : Sums cod := (25, .p s_est) :: L_turn
noncomputable def C_est : Cfg cod := mkC L_est

theorem L_est_ok : Snd Try.prog cod L_est := .cons est_sound L_turn_ok


end
end Go.Proofs.Ytbkpgpkeecnjpaa
