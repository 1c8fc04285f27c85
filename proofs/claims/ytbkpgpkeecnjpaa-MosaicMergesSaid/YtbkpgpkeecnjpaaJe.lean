/- Part of a claim: lemmas on the way to its theorem; each states its own conditions. -/
import Derived.Test.YtbkpgpkeecnjpaaJp
namespace Go.Proofs.Ytbkpgpkeecnjpaa
open Sym Go.RowKit
noncomputable section
set_option maxRecDepth 100000
set_option maxHeartbeats 4000000



def cuts_mmlaw : Cuts := [(100005, [5, 6, 0], 40), (9, [5, 6, 43, 44, 45, 7], 40), (14, [5, 6, 9, 52, 43, 44, 45, 53, 54, 7], 40)]
def cuts_mmlaw_r5 : Cuts := [(9, [5, 6, 43, 44, 45, 7], 40), (14, [5, 6, 9, 52, 43, 44, 45, 53, 54, 7], 40)]

theorem mmlaw_t0 (f : List (List (Int × Int × Int × Int × Int × Int))) (f_t : Bool) : symF C_same cuts_mmlaw Try.f8.results.toList 1 400 [.code (codeOf Try.f8)] ⟨argsS Try.f8 [.c (.slc 0 0 (List.length f) f_t)], ([.nin 2 f none] : Heap cod)⟩ =
.need ((([(0, 1, 0, 0, 0, 0)] : List (cod 2).α) = [(0, 1, 0, 0, 0, 0)] ∧ ([(0, 1, 0, 0, 0, 0)] : List (cod 2).α) = [(0, 1, 0, 0, 0, 0)])) (
.need ((0 = 0 ∧ List.length f = List.length f)) (
.ite (decide (F.mgE f = 0)) (
 .ret (.cut (regAt Try.f8 5) ⟨tmG 94 [(0, .c (.slc 0 0 (List.length f) f_t)), (4, .c (.slc 5 0 (List.length (F.mgO f)) false)), (0, .c (.int .i64 0))], [.nin 2 (f) none, .arr 2 ([(0, 1, 0, 0, 0, 0)]) 53, .arr 2 ([(0, 1, 0, 0, 0, 0)]) 53, .blk [.slc 1 0 1 true, .slc 2 0 1 true] 22, .own 2 (F.uqRow (F.sortP [(0, 1, 0, 0, 0, 0), (0, 1, 0, 0, 0, 0)])) 53, .own 2 (F.mgRow f) 53]⟩)) (
 .ret (.cut (regAt Try.f8 5) ⟨tmG 94 [(0, .c (.slc 0 0 (List.length f) f_t)), (4, .c (.own 5 0)), (0, .c (.int .i64 (F.mgE f)))], [.nin 2 (f) none, .arr 2 ([(0, 1, 0, 0, 0, 0)]) 53, .arr 2 ([(0, 1, 0, 0, 0, 0)]) 53, .blk [.slc 1 0 1 true, .slc 2 0 1 true] 22, .own 2 (F.uqRow (F.sortP [(0, 1, 0, 0, 0, 0), (0, 1, 0, 0, 0, 0)])) 53, .own 2 [] 53]⟩)))) := by kernel_rfl


noncomputable def st_mmlaw_r5 (f : List (List (Int × Int × Int × Int × Int × Int))) (f_t : Bool) (E : Int) (k : Nat) (O : List (Int × Int × Int × Int × Int × Int)) : St cod := ⟨tmG 94 [(0, .c (.slc 0 0 (List.length f) f_t)), (4, .c (.slc 1 0 k false)), (0, .c (.int .i64 E))], ([.nin 2 f none, .inp 2 O] : Heap cod)⟩


theorem mmlaw_tr5 (f : List (List (Int × Int × Int × Int × Int × Int))) (f_t : Bool) (E : Int) (k : Nat) (O : List (Int × Int × Int × Int × Int × Int)) : symF C_same cuts_mmlaw_r5 Try.f8.results.toList 1 400 (regAt Try.f8 5) (st_mmlaw_r5 f f_t E k O) =
 cond (decide (4 < Int.ofNat (List.length f))) (
 cond (decide (E = 2)) (
  .ret (.fin (.c (.bool (decide (Int.ofNat k = 0)))) [])) (
  .ret (.fin (.c (.bool false)) []))) (
 .ret (.cut (cutAt Try.f8 9) ⟨tmG 55 [(5, .c (.slc 1 0 (k) false)), (0, .c (.int .i64 E)), (0, .c (.own 2 0)), (35, .c (.slc 0 0 (List.length f) f_t)), (0, .c (.int .i64 (Int.ofNat (List.length f)))), (0, .c (.int .i64 0))], [.nin 2 (f) none, .inp 2 O, .own 2 [] 53]⟩)) := by kernel_rfl


noncomputable def st_mmlaw_9 (f : List (List (Int × Int × Int × Int × Int × Int))) (f_t : Bool) (E : Int) (k : Nat) (O : List (Int × Int × Int × Int × Int × Int)) (j : Int) (W : List (Int × Int × Int × Int × Int × Int)) (wn : Nat) : St cod := ⟨tmG 55 [(5, .c (.slc 1 0 (k) false)), (0, .c (.int .i64 E)), (0, .c (.slc 2 0 wn false)), (35, .c (.slc 0 0 (List.length f) f_t)), (0, .c (.int .i64 (Int.ofNat (List.length f)))), (0, .c (.int .i64 j))], ([.nin 2 f none, .inp 2 O, .inp 2 W] : Heap cod)⟩


theorem mmlaw_t9 (f : List (List (Int × Int × Int × Int × Int × Int))) (f_t : Bool) (E : Int) (k : Nat) (O : List (Int × Int × Int × Int × Int × Int)) (j : Int) (W : List (Int × Int × Int × Int × Int × Int)) (wn : Nat) : symF C_same cuts_mmlaw Try.f8.results.toList 1 400 (cutAt Try.f8 9) (st_mmlaw_9 f f_t E k O j W wn) =
 cond (decide (j < Int.ofNat (List.length f))) (
 .need (((0 : Int) ≤ j ∧ j < Int.ofNat (List.length f))) (
 .fail)) (
 cond (decide (E = 0)) (
  .need ((0 + k ≤ List.length O ∧ (0 + wn ≤ List.length W ∧ k ≤ 100000))) (
  .ret (.fin (.c (.bool (decide (k = wn) && F.smN O W 0 0 k 0))) []))) (
  .ret (.fin (.c (.bool false)) []))) := by kernel_rfl


noncomputable def st_mmlaw_9b (f : List (List (Int × Int × Int × Int × Int × Int))) (f_t : Bool) (E : Int) (k : Nat) (O : List (Int × Int × Int × Int × Int × Int)) (j : Int) (W : List (Int × Int × Int × Int × Int × Int)) (wn : Nat) (l : List (Int × Int × Int × Int × Int × Int)) (m jn : Nat) : St cod := ⟨tmG 55 [(5, .c (.slc 1 0 (k) false)), (0, .c (.int .i64 E)), (0, .c (.slc 2 0 wn false)), (35, .c (.slc 0 0 (List.length f) f_t)), (0, .c (.int .i64 (Int.ofNat (List.length f)))), (0, .c (.int .i64 j))], ([.nin 2 f (some (jn, .slc 3 0 m false)), .inp 2 O, .inp 2 W, .inp 2 l] : Heap cod)⟩


theorem mmlaw_t9b (f : List (List (Int × Int × Int × Int × Int × Int))) (f_t : Bool) (E : Int) (k : Nat) (O : List (Int × Int × Int × Int × Int × Int)) (j : Int) (W : List (Int × Int × Int × Int × Int × Int)) (wn : Nat) (l : List (Int × Int × Int × Int × Int × Int)) (m jn : Nat) : symF C_same cuts_mmlaw Try.f8.results.toList 1 400 (cutAt Try.f8 9) (st_mmlaw_9b f f_t E k O j W wn l m jn) =
 cond (decide (j < Int.ofNat (List.length f))) (
 .need (((0 : Int) ≤ j ∧ j < Int.ofNat (List.length f))) (
 .need ((0 + Int.toNat j = jn ∧ jn < List.length f)) (
 cond (decide (60 < Int.ofNat m)) (
  .ret (.fin (.c (.bool true)) [])) (
  .ret (.cut (cutAt Try.f8 14) ⟨tmG 46 [(5, .c (.slc 1 0 (k) false)), (0, .c (.int .i64 E)), (0, .c (.slc 2 0 (wn) false)), (1, .c (.slc 3 0 (m) false)), (33, .c (.slc 0 0 (List.length f) f_t)), (0, .c (.int .i64 (Int.ofNat (List.length f)))), (0, .c (.int .i64 j)), (6, .c (.slc 3 0 (m) false)), (0, .c (.int .i64 (Int.ofNat m))), (0, .c (.int .i64 0))], [.nin 2 (f) (some ((jn), .slc 3 0 (m) false)), .inp 2 O, .inp 2 W, .inp 2 l]⟩))))) (
 cond (decide (E = 0)) (
  .need ((0 + k ≤ List.length O ∧ (0 + wn ≤ List.length W ∧ k ≤ 100000))) (
  .ret (.fin (.c (.bool (decide (k = wn) && F.smN O W 0 0 k 0))) []))) (
  .ret (.fin (.c (.bool false)) []))) := by kernel_rfl


noncomputable def st_mmlaw_14 (f : List (List (Int × Int × Int × Int × Int × Int))) (f_t : Bool) (E : Int) (k : Nat) (O : List (Int × Int × Int × Int × Int × Int)) (j : Int) (W : List (Int × Int × Int × Int × Int × Int)) (wn : Nat) (l : List (Int × Int × Int × Int × Int × Int)) (m jn : Nat) (i : Int) : St cod := ⟨tmG 46 [(5, .c (.slc 1 0 (k) false)), (0, .c (.int .i64 E)), (0, .c (.slc 2 0 (wn) false)), (1, .c (.slc 3 0 (m) false)), (33, .c (.slc 0 0 (List.length f) f_t)), (0, .c (.int .i64 (Int.ofNat (List.length f)))), (0, .c (.int .i64 j)), (6, .c (.slc 3 0 (m) false)), (0, .c (.int .i64 (Int.ofNat m))), (0, .c (.int .i64 i))], [.nin 2 (f) (some ((jn), .slc 3 0 (m) false)), .inp 2 O, .inp 2 W, .inp 2 l]⟩


theorem mmlaw_t14 (f : List (List (Int × Int × Int × Int × Int × Int))) (f_t : Bool) (E : Int) (k : Nat) (O : List (Int × Int × Int × Int × Int × Int)) (j : Int) (W : List (Int × Int × Int × Int × Int × Int)) (wn : Nat) (l : List (Int × Int × Int × Int × Int × Int)) (m jn : Nat) (i : Int) : symF C_same cuts_mmlaw Try.f8.results.toList 1 400 (cutAt Try.f8 14) (st_mmlaw_14 f f_t E k O j W wn l m jn i) =
 cond (decide (i < Int.ofNat m)) (
 .need (((0 : Int) ≤ i ∧ i < Int.ofNat m)) (
 .need (0 + Int.toNat i < List.length l) (
 cond (!decide     (F.plot (List.getD l (0 + Int.toNat i) (cod 2).d).1 (List.getD l (0 + Int.toNat i) (cod 2).d).2.1         (List.getD l (0 + Int.toNat i) (cod 2).d).2.2.1 (List.getD l (0 + Int.toNat i) (cod 2).d).2.2.2.1         (List.getD l (0 + Int.toNat i) (cod 2).d).2.2.2.2.1 (List.getD l (0 + Int.toNat i) (cod 2).d).2.2.2.2.2 =       0)) (
  cond (decide (E = 4)) (
   .ret (.fin (.c (.bool (decide (Int.ofNat k = 0)))) [])) (
   .ret (.fin (.c (.bool false)) []))) (
  cond (decide (0 < i)) (
   .need (i64ok (i - 1)) (
   .need (((0 : Int) ≤ i - 1 ∧ i - 1 < Int.ofNat m)) (
   .need (0 + Int.toNat (i - 1) < List.length l) (
   cond (decide ((List.getD l (0 + Int.toNat i) (cod 2).d).2.1 < (List.getD l (0 + Int.toNat (i - 1)) (cod 2).d).2.1)) (
    cond (decide (E = 12)) (
     .ret (.fin (.c (.bool (decide (Int.ofNat k = 0)))) [])) (
     .ret (.fin (.c (.bool false)) []))) (
    .need (((0 = 0 ∧ wn = List.length W) ∧ List.length W ≤ 1000)) (
    .ite (F.hasP W   ((List.getD l (0 + Int.toNat i) (cod 2).d).1, (List.getD l (0 + Int.toNat i) (cod 2).d).2.1,     (List.getD l (0 + Int.toNat i) (cod 2).d).2.2.1, (List.getD l (0 + Int.toNat i) (cod 2).d).2.2.2.1,     (List.getD l (0 + Int.toNat i) (cod 2).d).2.2.2.2.1, (List.getD l (0 + Int.toNat i) (cod 2).d).2.2.2.2.2)) (
     .need (i64ok (i + 1)) (
     .ret (.cut (cutAt Try.f8 14) ⟨tmG 46 [(5, .c (.slc 1 0 (k) false)), (0, .c (.int .i64 E)), (0, .c (.slc 2 0 (wn) false)), (1, .c (.slc 3 0 (m) false)), (33, .c (.slc 0 0 (List.length f) f_t)), (0, .c (.int .i64 (Int.ofNat (List.length f)))), (0, .c (.int .i64 j)), (6, .c (.slc 3 0 (m) false)), (0, .c (.int .i64 (Int.ofNat m))), (0, .c (.int .i64 (i + 1)))], [.nin 2 (f) (some ((jn), .slc 3 0 (m) false)), .inp 2 O, .inp 2 W, .inp 2 l, .blk [.int .i64 ((List.getD l (0 + Int.toNat i) (cod 2).d).1), .int .i64 ((List.getD l (0 + Int.toNat i) (cod 2).d).2.1), .int .i64 ((List.getD l (0 + Int.toNat i) (cod 2).d).2.2.1), .int .i64 ((List.getD l (0 + Int.toNat i) (cod 2).d).2.2.2.1), .int .i64 ((List.getD l (0 + Int.toNat i) (cod 2).d).2.2.2.2.1), .int .i64 ((List.getD l (0 + Int.toNat i) (cod 2).d).2.2.2.2.2)] 53]⟩))) (
     .need (i64ok (i + 1)) (
     .ret (.cut (cutAt Try.f8 14) ⟨tmG 46 [(5, .c (.slc 1 0 (k) false)), (0, .c (.int .i64 E)), (0, .c (.own 5 (wn + 1))), (1, .c (.slc 3 0 (m) false)), (33, .c (.slc 0 0 (List.length f) f_t)), (0, .c (.int .i64 (Int.ofNat (List.length f)))), (0, .c (.int .i64 j)), (6, .c (.slc 3 0 (m) false)), (0, .c (.int .i64 (Int.ofNat m))), (0, .c (.int .i64 (i + 1)))], [.nin 2 (f) (some ((jn), .slc 3 0 (m) false)), .inp 2 O, .inp 2 W, .inp 2 l, .blk [.int .i64 ((List.getD l (0 + Int.toNat i) (cod 2).d).1), .int .i64 ((List.getD l (0 + Int.toNat i) (cod 2).d).2.1), .int .i64 ((List.getD l (0 + Int.toNat i) (cod 2).d).2.2.1), .int .i64 ((List.getD l (0 + Int.toNat i) (cod 2).d).2.2.2.1), .int .i64 ((List.getD l (0 + Int.toNat i) (cod 2).d).2.2.2.2.1), .int .i64 ((List.getD l (0 + Int.toNat i) (cod 2).d).2.2.2.2.2)] 53, .own 2 (F.insL W   ((List.getD l (0 + Int.toNat i) (cod 2).d).1, (List.getD l (0 + Int.toNat i) (cod 2).d).2.1,     (List.getD l (0 + Int.toNat i) (cod 2).d).2.2.1, (List.getD l (0 + Int.toNat i) (cod 2).d).2.2.2.1,     (List.getD l (0 + Int.toNat i) (cod 2).d).2.2.2.2.1, (List.getD l (0 + Int.toNat i) (cod 2).d).2.2.2.2.2)) 53]⟩))))))))) (
   .need (((0 = 0 ∧ wn = List.length W) ∧ List.length W ≤ 1000)) (
   .ite (F.hasP W   ((List.getD l (0 + Int.toNat i) (cod 2).d).1, (List.getD l (0 + Int.toNat i) (cod 2).d).2.1,     (List.getD l (0 + Int.toNat i) (cod 2).d).2.2.1, (List.getD l (0 + Int.toNat i) (cod 2).d).2.2.2.1,     (List.getD l (0 + Int.toNat i) (cod 2).d).2.2.2.2.1, (List.getD l (0 + Int.toNat i) (cod 2).d).2.2.2.2.2)) (
    .need (i64ok (i + 1)) (
    .ret (.cut (cutAt Try.f8 14) ⟨tmG 46 [(5, .c (.slc 1 0 (k) false)), (0, .c (.int .i64 E)), (0, .c (.slc 2 0 (wn) false)), (1, .c (.slc 3 0 (m) false)), (33, .c (.slc 0 0 (List.length f) f_t)), (0, .c (.int .i64 (Int.ofNat (List.length f)))), (0, .c (.int .i64 j)), (6, .c (.slc 3 0 (m) false)), (0, .c (.int .i64 (Int.ofNat m))), (0, .c (.int .i64 (i + 1)))], [.nin 2 (f) (some ((jn), .slc 3 0 (m) false)), .inp 2 O, .inp 2 W, .inp 2 l, .blk [.int .i64 ((List.getD l (0 + Int.toNat i) (cod 2).d).1), .int .i64 ((List.getD l (0 + Int.toNat i) (cod 2).d).2.1), .int .i64 ((List.getD l (0 + Int.toNat i) (cod 2).d).2.2.1), .int .i64 ((List.getD l (0 + Int.toNat i) (cod 2).d).2.2.2.1), .int .i64 ((List.getD l (0 + Int.toNat i) (cod 2).d).2.2.2.2.1), .int .i64 ((List.getD l (0 + Int.toNat i) (cod 2).d).2.2.2.2.2)] 53]⟩))) (
    .need (i64ok (i + 1)) (
    .ret (.cut (cutAt Try.f8 14) ⟨tmG 46 [(5, .c (.slc 1 0 (k) false)), (0, .c (.int .i64 E)), (0, .c (.own 5 (wn + 1))), (1, .c (.slc 3 0 (m) false)), (33, .c (.slc 0 0 (List.length f) f_t)), (0, .c (.int .i64 (Int.ofNat (List.length f)))), (0, .c (.int .i64 j)), (6, .c (.slc 3 0 (m) false)), (0, .c (.int .i64 (Int.ofNat m))), (0, .c (.int .i64 (i + 1)))], [.nin 2 (f) (some ((jn), .slc 3 0 (m) false)), .inp 2 O, .inp 2 W, .inp 2 l, .blk [.int .i64 ((List.getD l (0 + Int.toNat i) (cod 2).d).1), .int .i64 ((List.getD l (0 + Int.toNat i) (cod 2).d).2.1), .int .i64 ((List.getD l (0 + Int.toNat i) (cod 2).d).2.2.1), .int .i64 ((List.getD l (0 + Int.toNat i) (cod 2).d).2.2.2.1), .int .i64 ((List.getD l (0 + Int.toNat i) (cod 2).d).2.2.2.2.1), .int .i64 ((List.getD l (0 + Int.toNat i) (cod 2).d).2.2.2.2.2)] 53, .own 2 (F.insL W   ((List.getD l (0 + Int.toNat i) (cod 2).d).1, (List.getD l (0 + Int.toNat i) (cod 2).d).2.1,     (List.getD l (0 + Int.toNat i) (cod 2).d).2.2.1, (List.getD l (0 + Int.toNat i) (cod 2).d).2.2.2.1,     (List.getD l (0 + Int.toNat i) (cod 2).d).2.2.2.2.1, (List.getD l (0 + Int.toNat i) (cod 2).d).2.2.2.2.2)) 53]⟩))))))))) (
 .need (i64ok (j + 1)) (
 .ret (.cut (cutAt Try.f8 9) ⟨tmG 55 [(5, .c (.slc 1 0 (k) false)), (0, .c (.int .i64 E)), (0, .c (.slc 2 0 (wn) false)), (35, .c (.slc 0 0 (List.length f) f_t)), (0, .c (.int .i64 (Int.ofNat (List.length f)))), (0, .c (.int .i64 (j + 1)))], [.nin 2 (f) (some ((jn), .slc 3 0 (m) false)), .inp 2 O, .inp 2 W, .inp 2 l]⟩))) := by kernel_rfl



theorem insL_len (W : List F.Sp) (p : F.Sp) : (F.insL W p).length = W.length + 1 := by
  unfold F.insL
  rw [List.length_append, List.length_append, List.length_take, List.length_drop, List.length_singleton]
  have := (bk_spec p W W.length 0 (by omega)).2.1
  change F.bkN W p ≤ _ at this
  omega
theorem F.pl04 (x : F.Sp) : F.pl6 x ≠ 0 → F.pl6 x = 4 := by
  unfold F.pl6 F.plot
  split <;> simp
theorem mm14 (f : List (List F.Sp)) (f_t : Bool) (b0 : Base) (hb : b0.n = 1) (E : Int) (k : Nat) (O : List F.Sp) (hEk : E ≠ 0 → k = 0) (j : Int) (hj : 0 ≤ j ∧ j ≤ 4) (l W0 : List F.Sp) (m jn : Nat) (hm : m = l.length) (h60 : m ≤ 60)
    (nx : ∀ (W : List F.Sp) (wn : Nat), wn = W.length → wn ≤ 60 * (j.toNat + 1) → F.plE l l.length 0 = 0 → W = l.foldl F.insW W0 → Sym.Runs Try.prog b0 (cutAt Try.f8 9) (st_mmlaw_9 f f_t E k O (j + 1) W wn) (Sym.Ends Try.prog Try.f8 1 (.c (.bool true)) [])) (bad : F.plE l l.length 0 ≠ 0 → E = F.plE l l.length 0) :
    ∀ (q : Nat) (i : Int) (W : List F.Sp) (wn : Nat), 0 ≤ i → i + q = m → wn = W.length → wn ≤ 60 * j.toNat + i.toNat → W = (l.take i.toNat).foldl F.insW W0 → F.plE l l.length 0 = F.plE l q i.toNat →
    Sym.Runs Try.prog b0 (cutAt Try.f8 14) (st_mmlaw_14 f f_t E k O j W wn l m jn i) (Sym.Ends Try.prog Try.f8 1 (.c (.bool true)) []) := by
  intro q
  induction q with
  | zero =>
    intro i W wn h0 hi hw hw2 hW hE
    rw [F.plE] at hE
    refine Runs.go (cfg := C_same) L_same_ok mixed cuts_mmlaw 400 hb (mmlaw_t14 f f_t E k O j W wn l m jn i) ?_
    simp only [T.wp, T.wp_cond, Aft, decide_eq_true_eq]
    refine ite_no (by simp only [Int.ofNat_eq_natCast]; omega) ⟨by unfold i64ok; omega, Runs.close 0 rfl (Runs.turn [0, 1, 2] 45 hb (by decide) rfl rfl rfl (nx W wn hw (by omega) hE ?_))⟩
    rw [hW, List.take_of_length_le (by omega)]
  | succ q ih =>
    intro i W wn h0 hi hw hw2 hW hE
    have hil : i.toNat < l.length := by omega
    have i1 : (i - 1).toNat = i.toNat - 1 := by omega
    have hk : (i + 1).toNat = i.toNat + 1 := by omega
    have i64 : i64ok (i + 1) := by unfold i64ok; omega
    rw [F.plE] at hE
    refine Runs.go (cfg := C_same) L_same_ok mixed cuts_mmlaw 400 hb (mmlaw_t14 f f_t E k O j W wn l m jn i) ?_
    simp only [T.wp, T.wp_cond, Aft, decide_eq_true_eq, Nat.zero_add]
    refine ite_yes (by simp only [Int.ofNat_eq_natCast]; omega) ⟨by simp only [Int.ofNat_eq_natCast]; omega, hil, ?_⟩
    by_cases hv : F.pl6 (l.getD i.toNat F.sp0) = 0
    · rw [if_neg (by rw [hv]; decide)] at hE
      refine ite_no (by
        change ¬ (!decide (F.pl6 (l.getD i.toNat F.sp0) = 0)) = true
        rw [hv]; decide) ?_
      -- the plot is inserted
      have hfold : (l.take (i + 1).toNat).foldl F.insW W0 = F.insW W (l.getD i.toNat F.sp0) := by
        rw [hk, take_getD hil, List.foldl_append, ← hW]
        rfl
      have yes : F.plE l l.length 0 = F.plE l q (i + 1).toNat → F.hasP W (l.getD i.toNat F.sp0) = true → Sym.Runs Try.prog b0 (cutAt Try.f8 14) (st_mmlaw_14 f f_t E k O j W wn l m jn (i + 1)) (Sym.Ends Try.prog Try.f8 1 (.c (.bool true)) []) := fun g hP =>
        ih (i + 1) W wn (by omega) (by omega) hw (by omega) (by rw [hfold]; unfold F.insW; rw [if_pos hP]) g
      have no : F.plE l l.length 0 = F.plE l q (i + 1).toNat → F.hasP W (l.getD i.toNat F.sp0) = false → Sym.Runs Try.prog b0 (cutAt Try.f8 14) (st_mmlaw_14 f f_t E k O j (F.insL W (l.getD i.toNat F.sp0)) (wn + 1) l m jn (i + 1)) (Sym.Ends Try.prog Try.f8 1 (.c (.bool true)) []) := fun g hP =>
        ih (i + 1) (F.insL W (l.getD i.toNat F.sp0)) (wn + 1) (by omega) (by omega) (by rw [insL_len, hw]) (by omega) (by rw [hfold]; unfold F.insW; rw [if_neg (by rw [hP]; decide)]) g
      by_cases c1 : 0 < i
      · refine ite_yes c1 ⟨by unfold i64ok; omega, by simp only [Int.ofNat_eq_natCast]; omega, by omega, ?_⟩
        by_cases c2 : (l.getD i.toNat F.sp0).2.1 < (l.getD (i - 1).toNat F.sp0).2.1
        · rw [if_pos ⟨by omega, by rw [← i1]; exact c2⟩] at hE
          have hE4 := bad (by rw [hE]; decide)
          rw [hE] at hE4
          have hk0 := hEk (by rw [hE4]; decide)
          refine ite_yes c2 (ite_yes hE4 ?_)
          rw [hk0]
          exact ⟨rfl, trivial⟩
        · rw [if_neg (fun h => c2 (by rw [i1]; exact h.2)), ← hk] at hE
          refine ite_no c2 ⟨⟨⟨trivial, hw⟩, by omega⟩, fun hP => ⟨i64, ?_⟩, fun hP => ⟨i64, ?_⟩⟩
          · exact Runs.turn [0, 1, 2, 3] 54 hb (by decide) rfl rfl rfl (yes hE hP)
          · exact Runs.turn [0, 1, 5, 3] 7 hb (by decide) rfl rfl rfl (Runs.view 2 rfl (no hE hP))
      · rw [if_neg (fun h => c1 (by omega)), ← hk] at hE
        refine ite_no c1 ⟨⟨⟨trivial, hw⟩, by omega⟩, fun hP => ⟨i64, ?_⟩, fun hP => ⟨i64, ?_⟩⟩
        · exact Runs.turn [0, 1, 2, 3] 54 hb (by decide) rfl rfl rfl (yes hE hP)
        · exact Runs.turn [0, 1, 5, 3] 7 hb (by decide) rfl rfl rfl (Runs.view 2 rfl (no hE hP))
    · rw [if_pos hv, F.pl04 _ hv] at hE
      refine ite_yes (by
        change (!decide (F.pl6 (l.getD i.toNat F.sp0) = 0)) = true
        rw [decide_eq_false hv]; rfl) ?_
      have hE4 := bad (by rw [hE]; decide)
      rw [hE] at hE4
      have hk0 := hEk (by rw [hE4]; decide)
      refine ite_yes hE4 ?_
      rw [hk0]
      exact ⟨rfl, trivial⟩
theorem smN_all (a b : List F.Sp) (k : Nat) : ∀ (q i : Nat), i + q = k → (∀ x, x < k → a.getD x F.sp0 = b.getD x F.sp0) → F.smN a b 0 0 q i = true
  | 0, i, _, _ => rfl
  | q + 1, i, hi, h => by
    rw [F.smN, Nat.zero_add, h i (by omega), decide_eq_true rfl, Bool.true_and]
    exact smN_all a b k q (i + 1) (by omega) h
theorem mm9 (f : List (List F.Sp)) (f_t : Bool) (b0 : Base) (hb : b0.n = 1) (h4 : f.length ≤ 4) (E : Int) (k : Nat) (O : List F.Sp) (hEk : E ≠ 0 → k = 0) (hE0 : E = 0 → k = (F.mgO f).length ∧ O = F.mgRow f) :
    ∀ (q : Nat) (j : Int) (W : List F.Sp) (wn : Nat), 0 ≤ j → j + q = f.length → wn = W.length → wn ≤ 60 * j.toNat → W = ((f.take j.toNat).flatten).foldl F.insW [] → E = F.mgF f q j.toNat →
    Sym.Runs Try.prog b0 (cutAt Try.f8 9) (st_mmlaw_9 f f_t E k O j W wn) (Sym.Ends Try.prog Try.f8 1 (.c (.bool true)) []) := by
  intro q
  induction q with
  | zero =>
    intro j W wn h0 hj hw hw2 hW hE
    rw [F.mgF] at hE
    obtain ⟨hk, hO⟩ := hE0 hE
    rw [List.take_of_length_le (by omega), ← merge_insert] at hW
    have hWo : W = F.mgO f := hW
    have hkw : k = wn := by rw [hk, hw, hWo]
    have hOl : O.length = (F.mgO f).length + ((F.sortP f.flatten).length - (F.mgO f).length) := by
      rw [hO]
      unfold F.mgRow F.uqRow F.mgO
      rw [List.length_append, List.length_replicate]
    refine Runs.go (cfg := C_same) L_same_ok mixed cuts_mmlaw 400 hb (mmlaw_t9 f f_t E k O j W wn) ?_
    simp only [T.wp, T.wp_cond, Aft, decide_eq_true_eq, Nat.zero_add]
    refine ite_no (by simp only [Int.ofNat_eq_natCast]; omega) (ite_yes hE ⟨⟨by omega, by omega, by omega⟩, ?_, trivial⟩)
    have hs : F.smN O W 0 0 k 0 = true := smN_all O W k k 0 (by omega) (fun x hx => by
      rw [hO, hWo]
      unfold F.mgRow F.uqRow
      have hx' : x < (F.uniq (F.sortP f.flatten)).length := by
        have : (F.mgO f).length = (F.uniq (F.sortP f.flatten)).length := rfl
        omega
      unfold F.mgO
      simp only [List.getD]
      rw [List.getElem?_append_left hx'])
    rw [hs, decide_eq_true hkw]
    rfl
  | succ q ih =>
    intro j W wn h0 hj hw hw2 hW hE
    have j2 : j.toNat < f.length := by omega
    have hk : (j + 1).toNat = j.toNat + 1 := by omega
    have ht : f.take (j + 1).toNat = f.take j.toNat ++ [f.getD j.toNat []] := by
      rw [hk, List.take_succ_eq_append_getElem j2, List.getD, List.getElem?_eq_getElem j2]
      rfl
    rw [F.mgF] at hE
    refine Runs.open 0 j.toNat rfl j2 rfl ?_
    have main : Sym.Runs Try.prog b0 (cutAt Try.f8 9) (st_mmlaw_9b f f_t E k O j W wn (f.getD j.toNat []) (f.getD j.toNat []).length j.toNat) (Sym.Ends Try.prog Try.f8 1 (.c (.bool true)) []) := by
      generalize f.getD j.toNat [] = l at *
      refine Runs.go (cfg := C_same) L_same_ok mixed cuts_mmlaw 400 hb (mmlaw_t9b f f_t E k O j W wn l l.length j.toNat) ?_
      simp only [T.wp, T.wp_cond, Aft, decide_eq_true_eq, Nat.zero_add]
      refine ite_yes (by simp only [Int.ofNat_eq_natCast]; omega) ⟨by simp only [Int.ofNat_eq_natCast]; omega, ⟨trivial, j2⟩, ?_⟩
      by_cases c : 60 < l.length
      · exact ite_yes (by simp only [Int.ofNat_eq_natCast]; omega) ⟨trivial, trivial⟩
      · have hf : F.feE l = F.plE l l.length 0 := by unfold F.feE; rw [if_neg (by omega)]
        rw [hf] at hE
        refine ite_no (by simp only [Int.ofNat_eq_natCast]; omega) ?_
        have nx := mm14 f f_t b0 hb E k O hEk j (by omega) l W l.length j.toNat rfl (by omega) (fun W' wn' g1 g2 hz g3 => ?_) (fun hz => ?_) l.length 0 W wn (by omega) (by omega) hw (by simp; omega) rfl rfl
        · exact nx
        · rw [if_neg (by rw [hz]; decide)] at hE
          exact ih (j + 1) W' wn' (by omega) (by omega) g1 (by omega) (by rw [ht, List.flatten_append, List.foldl_append, ← hW, g3]; simp) (by rw [hk]; exact hE)
        · rw [if_pos hz] at hE
          exact hE
    exact main
theorem mmr5 (f : List (List F.Sp)) (f_t : Bool) (b0 : Base) (hb : b0.n = 1) (E : Int) (k : Nat) (O : List F.Sp) (hE : E = F.mgE f) (hEk : E ≠ 0 → k = 0) (hE0 : E = 0 → k = (F.mgO f).length ∧ O = F.mgRow f) :
    Sym.Runs Try.prog b0 (regAt Try.f8 5) (st_mmlaw_r5 f f_t E k O) (Sym.Ends Try.prog Try.f8 1 (.c (.bool true)) []) := by
  refine Runs.go (cfg := C_same) L_same_ok mixed cuts_mmlaw_r5 400 hb (mmlaw_tr5 f f_t E k O) ?_
  simp only [T.wp, T.wp_cond, Aft, decide_eq_true_eq]
  by_cases c : 4 < f.length
  · have h2 : E = 2 := by rw [hE]; unfold F.mgE; rw [if_pos c]
    have hk0 := hEk (by rw [h2]; decide)
    refine ite_yes (by simp only [Int.ofNat_eq_natCast]; omega) (ite_yes h2 ?_)
    rw [hk0]
    exact ⟨rfl, trivial⟩
  · have h2 : E = F.mgF f f.length 0 := by rw [hE]; unfold F.mgE; rw [if_neg c]
    refine ite_no (by simp only [Int.ofNat_eq_natCast]; omega) ?_
    exact Runs.turn [0, 1, 2] 7 hb (by decide) rfl rfl rfl (Runs.view 2 rfl (mm9 f f_t b0 hb (by omega) E k O hEk hE0 f.length 0 [] 0 (by omega) (by omega) rfl (by omega) rfl h2))
theorem mmlaw_run (f : List (List (Int × Int × Int × Int × Int × Int))) (f_t : Bool) (b0 : Base) (hb : b0.n = 1)  : Sym.Runs Try.prog b0 [.code (codeOf Try.f8)] ⟨argsS Try.f8 [.c (.slc 0 0 (List.length f) f_t)], ([.nin 2 f none] : Heap cod)⟩ (Sym.Ends Try.prog Try.f8 1 (.c (.bool true)) []) := by
  refine Runs.go (cfg := C_same) L_same_ok mixed cuts_mmlaw 400 hb (mmlaw_t0 f f_t) ?_
  simp only [T.wp, T.wp_cond, Aft]
  refine ⟨⟨rfl, rfl⟩, ⟨trivial, trivial⟩, fun h => ?_, fun h => ?_⟩
  · have h' : F.mgE f = 0 := of_decide_eq_true h
    exact Runs.turn [0, 5] 6 hb (by decide) rfl rfl rfl (Runs.view 1 rfl (mmr5 f f_t b0 hb 0 (F.mgO f).length (F.mgRow f) h'.symm (fun e => absurd rfl e) (fun _ => ⟨rfl, rfl⟩)))
  · have h' : F.mgE f ≠ 0 := of_decide_eq_false h
    exact Runs.turn [0, 5] 5 hb (by decide) rfl rfl rfl (Runs.view 1 rfl (mmr5 f f_t b0 hb (F.mgE f) 0 [] rfl (fun _ => rfl) (fun e => absurd e h')))



noncomputable def s_mmlaw : Summ cod := fun args H => match args, H with
  | [.c (.slc 0 f_i f_n f_t)], [o0] => (match o0.asNin 2 with | some f => .need ((f_i = 0 ∧ f_n = List.length f)) (.ret (.c (.bool true), [])) | none => .fail)
  | _, _ => .fail


theorem mmlaw_sound : Sound Try.prog cod 8 s_mmlaw := sound_runs (cfg := C_same) L_same_ok mixed Try.func8 rfl rfl _ fun args H r news hg b0 hb => by
  unfold s_mmlaw at hg
  split at hg
  · skip
    split at hg
    · rename_i f hx0
      cases asNin_spec hx0
      simp only [T.gives, T.wp, Prod.mk.injEq] at hg
      obtain ⟨⟨rfl, rfl⟩, rfl, rfl⟩ := hg
      exact mmlaw_run _ _ b0 hb 
    · exact hg.elim
  · exact hg.elim

noncomputable def L_mmlaw : Sums cod := (8, .p s_mmlaw) :: L_same
noncomputable def C_mmlaw : Cfg cod := mkC L_mmlaw

theorem L_mmlaw_ok : Snd Try.prog cod L_mmlaw := .cons mmlaw_sound L_same_ok


end
end Go.Proofs.Ytbkpgpkeecnjpaa
