/- Part of a claim: lemmas on the way to its theorem; each states its own conditions. -/
import Derived.Test.YtffcfbamcaoidaaGna
namespace Go.Proofs.Ytffcfbamcaoidaa
open Sym Go.RowKit
noncomputable section
set_option maxRecDepth 100000
set_option maxHeartbeats 4000000



namespace F
theorem lck_ok {l : List Q4} (h : allok l) : ∀ (m j : Nat), j + m = l.length → lck l m j = 0
  | 0, _, _ => rfl
  | m + 1, j, hm => by
    obtain ⟨a, b, c, d⟩ := ok_get h (n := j) (by omega)
    have : lin (l.getD j q0) = true := by
      unfold lin
      simp only [Bool.and_eq_true, decide_eq_true_eq]
      exact ⟨a, b, c, d⟩
    rw [lck, if_pos this, lck_ok h m (j + 1) (by omega)]
theorem lchk_ok {l : List Q4} (h : allok l) (hl : l.length ≤ 32) : lchk l = 0 := by
  unfold lchk
  rw [if_neg (by omega), lck_ok h _ _ (by omega)]
theorem rcut_in {n lo hi : Int} (h : lo ≤ hi) : lo ≤ rcut n lo hi ∧ rcut n lo hi ≤ hi := by
  unfold rcut
  have h1 := Int.emod_nonneg n (show hi - lo + 1 ≠ 0 by omega)
  have h2 := Int.emod_lt_of_pos n (show 0 < hi - lo + 1 by omega)
  omega
theorem cell_in {cx cy s w h px py : Int} (h1 : scE cx cy s w h px py = 0) (h2 : scV cx cy s w h px py = true) : (0 ≤ scX cx px s w ∧ scX cx px s w ≤ 60) ∧ (0 ≤ scX cy py s h ∧ scX cy py s h ≤ 60) := by
  unfold scV vis inb at h2
  unfold scE at h1
  split at h1
  · rename_i c
    unfold vok inb at c
    simp only [Bool.and_eq_true, decide_eq_true_eq] at c h2
    omega
  · cases h1
theorem fact_B2 : placeB [(0, 0, 2, 2), (9, 9, 2, 2)] = true := by decide
theorem anyQ_head {p : Q4 → Bool} {l : List Q4} {m j : Nat} (h : anyQ p l (m + 1) j = false) : p (l.getD j q0) = false ∧ anyQ p l m (j + 1) = false := by
  rw [anyQ, Bool.or_eq_false_iff] at h
  exact h
end F


def cuts_tllaw : Cuts := [(3, [3, 2, 4, 32, 33, 34, 9], 3), (19, [9, 17, 97, 98, 99, 19], 8), (25, [22, 115, 9, 17, 97, 98, 99, 19, 116, 117], 10), (31, [22, 129, 9, 17, 97, 98, 99, 19, 130, 131], 10)]

theorem tllaw_t0 (cx cy s w h : Int) (l : List (Int × Int)) (l_t : Bool) (ww : Int) (hh : Int) : symF C_lBox cuts_tllaw Try.f6.results.toList 1 400 [.code (codeOf Try.f6)] ⟨argsS Try.f6 [.agg [.int .i64 cx, .int .i64 cy, .int .i64 s, .int .i64 w, .int .i64 h], .c (.slc 0 0 (List.length l) l_t), .c (.int .i64 ww), .c (.int .i64 hh)], ([.inp 1 l] : Heap cod)⟩ =
.need (((0 : Int) ≤ min (Int.ofNat (List.length l)) 5 ∧ min (Int.ofNat (List.length l)) 5 ≤ Int.ofNat (List.length l))) (
.ret (.cut (cutAt Try.f6 3) ⟨tmG 109 [(2, .c (.int .i64 ww)), (0, .c (.int .i64 hh)), (0, .c (.ptr 1 0 0)), (4, .c (.own 2 0)), (22, .c (.slc 0 0 (Int.toNat (min (Int.ofNat (List.length l)) 5)) false)), (0, .c (.int .i64 (Int.ofNat (Int.toNat (min (Int.ofNat (List.length l)) 5))))), (0, .c (.int .i64 0))], [.inp 1 l, .blk [.int .i64 cx, .int .i64 cy, .int .i64 s, .int .i64 w, .int .i64 h] 56, .own 4 [] 63]⟩)) := by kernel_rfl


noncomputable def st_tllaw_3 (cx cy s w h : Int) (l : List (Int × Int)) (l_t : Bool) (ww : Int) (hh : Int) (ts : List (Int × Int × Int × Int)) (tn : Nat) (k : Int) : St cod := ⟨tmG 109 [(2, .c (.int .i64 ww)), (0, .c (.int .i64 hh)), (0, .c (.ptr 1 0 0)), (4, .c (.own 2 tn)), (22, .c (.slc 0 0 (Int.toNat (min (Int.ofNat (List.length l)) 5)) false)), (0, .c (.int .i64 (Int.ofNat (Int.toNat (min (Int.ofNat (List.length l)) 5))))), (0, .c (.int .i64 k))], ([.inp 1 l, .blk [.int .i64 cx, .int .i64 cy, .int .i64 s, .int .i64 w, .int .i64 h] 56, .own 4 ts 63] : Heap cod)⟩


theorem tllaw_t3 (cx cy s w h : Int) (l : List (Int × Int)) (l_t : Bool) (ww : Int) (hh : Int) (ts : List (Int × Int × Int × Int)) (tn : Nat) (k : Int) : symF C_lBox cuts_tllaw Try.f6.results.toList 1 400 (cutAt Try.f6 3) (st_tllaw_3 cx cy s w h l l_t ww hh ts tn k) =
 cond (decide (k < Int.ofNat (Int.toNat (min (Int.ofNat (List.length l)) 5)))) (
 .need (((0 : Int) ≤ k ∧ k < Int.ofNat (Int.toNat (min (Int.ofNat (List.length l)) 5)))) (
 .need (0 + Int.toNat k < List.length l) (
 cond (decide (F.scE cx cy s w h (List.getD l (0 + Int.toNat k) (cod 1).d).1 (List.getD l (0 + Int.toNat k) (cod 1).d).2 = 0)) (
  cond (F.scV cx cy s w h (List.getD l (0 + Int.toNat k) (cod 1).d).1 (List.getD l (0 + Int.toNat k) (cod 1).d).2) (
   .need (((0 : Int) ≤ 1 ∧ ((1 : Int) ≤ 8 ∧ ((8 : Int) ≤ 100000 ∧ i64ok ww)))) (
   .need (((0 : Int) ≤ 1 ∧ ((1 : Int) ≤ 3 ∧ ((3 : Int) ≤ 100000 ∧ i64ok hh)))) (
   .need (1 = 1) (
   .need (tn + 1 ≤ 1000000) (
   .need (i64ok (k + 1)) (
   .ret (.cut (cutAt Try.f6 3) ⟨tmG 109 [(2, .c (.int .i64 ww)), (0, .c (.int .i64 hh)), (0, .c (.ptr 1 0 0)), (4, .c (.own 2 (tn + 1))), (22, .c (.slc 0 0 (Int.toNat (min (Int.ofNat (List.length l)) 5)) false)), (0, .c (.int .i64 (Int.ofNat (Int.toNat (min (Int.ofNat (List.length l)) 5))))), (0, .c (.int .i64 (k + 1)))], [.inp 1 l, .blk [.int .i64 cx, .int .i64 cy, .int .i64 s, .int .i64 w, .int .i64 h] 56, .own 4 (ts ++ ([(F.z (F.scE cx cy s w h (List.getD l (0 + Int.toNat k) (cod 1).d).1 (List.getD l (0 + Int.toNat k) (cod 1).d).2)       (F.scX cx (List.getD l (0 + Int.toNat k) (cod 1).d).1 s w),     F.z (F.scE cx cy s w h (List.getD l (0 + Int.toNat k) (cod 1).d).1 (List.getD l (0 + Int.toNat k) (cod 1).d).2)       (F.scX cy (List.getD l (0 + Int.toNat k) (cod 1).d).2 s h),     F.rcut ww 1 8, F.rcut hh 1 3)])) 63]⟩))))))) (
   .need (i64ok (k + 1)) (
   .ret (.cut (cutAt Try.f6 3) ⟨tmG 109 [(2, .c (.int .i64 ww)), (0, .c (.int .i64 hh)), (0, .c (.ptr 1 0 0)), (4, .c (.own 2 (tn))), (22, .c (.slc 0 0 (Int.toNat (min (Int.ofNat (List.length l)) 5)) false)), (0, .c (.int .i64 (Int.ofNat (Int.toNat (min (Int.ofNat (List.length l)) 5))))), (0, .c (.int .i64 (k + 1)))], [.inp 1 l, .blk [.int .i64 cx, .int .i64 cy, .int .i64 s, .int .i64 w, .int .i64 h] 56, .own 4 ts 63]⟩)))) (
  .need (i64ok (k + 1)) (
  .ret (.cut (cutAt Try.f6 3) ⟨tmG 109 [(2, .c (.int .i64 ww)), (0, .c (.int .i64 hh)), (0, .c (.ptr 1 0 0)), (4, .c (.own 2 (tn))), (22, .c (.slc 0 0 (Int.toNat (min (Int.ofNat (List.length l)) 5)) false)), (0, .c (.int .i64 (Int.ofNat (Int.toNat (min (Int.ofNat (List.length l)) 5))))), (0, .c (.int .i64 (k + 1)))], [.inp 1 l, .blk [.int .i64 cx, .int .i64 cy, .int .i64 s, .int .i64 w, .int .i64 h] 56, .own 4 ts 63]⟩)))))) (
 .need (((0 = 0 ∧ 2 = 2) ∧ F.l64 [(0, 0, 2, 2), (9, 9, 2, 2)])) (
 .ite (F.placeB [(0, 0, 2, 2), (9, 9, 2, 2)]) (
  .need (((0 = 0 ∧ 2 = 2) ∧ ((0 = 0 ∧ 2 = 2) ∧ (Int.ofNat 2 : Int) ≤ 1000000))) (
  .need (((0 = 0 ∧ tn = List.length ts) ∧ F.l64 ts)) (
  .ite (F.placeB ts) (
   cond (!decide (Int.ofNat (List.length (F.placeR ts)) = Int.ofNat tn)) (
    .ret (.fin (.c (.bool false)) [])) (
    .ret (.cut (cutAt Try.f6 19) ⟨tmG 44 [(9, .c (.own 2 (tn))), (7, .c (.slc 6 0 (List.length (F.placeR ts)) false)), (1, .c (.own 7 0)), (77, .c (.own 2 (tn))), (0, .c (.int .i64 (Int.ofNat tn))), (0, .c (.int .i64 0))], [.inp 1 l, .blk [.int .i64 cx, .int .i64 cy, .int .i64 s, .int .i64 w, .int .i64 h] 56, .own 4 ts 63, .arr 4 ([(0, 0, 2, 2), (9, 9, 2, 2)]) 63, .own 0 (F.placeR [(0, 0, 2, 2), (9, 9, 2, 2)]) 3, .arr 0 ([0, 0] : List Int) 3, .own 0 (F.placeR ts) 3, .own 4 [] 66]⟩))) (
   cond (!decide (F.placeE ts = 0)) (
    cond (decide (F.placeE ts = 8)) (
     .ret (.fin (.c (.bool (decide (Int.ofNat 0 = 0)))) [])) (
     .ret (.fin (.c (.bool false)) []))) (
    cond (!decide (Int.ofNat 0 = Int.ofNat tn)) (
     .ret (.fin (.c (.bool false)) [])) (
     .ret (.cut (cutAt Try.f6 19) ⟨tmG 44 [(9, .c (.own 2 (tn))), (7, .c (.own 6 0)), (1, .c (.own 7 0)), (77, .c (.own 2 (tn))), (0, .c (.int .i64 (Int.ofNat tn))), (0, .c (.int .i64 0))], [.inp 1 l, .blk [.int .i64 cx, .int .i64 cy, .int .i64 s, .int .i64 w, .int .i64 h] 56, .own 4 ts 63, .arr 4 ([(0, 0, 2, 2), (9, 9, 2, 2)]) 63, .own 0 (F.placeR [(0, 0, 2, 2), (9, 9, 2, 2)]) 3, .arr 0 ([0, 0] : List Int) 3, .own 0 [] 3, .own 4 [] 66]⟩))))))) (
  .ret (.fin (.c (.bool false)) [])))) := by kernel_rfl


noncomputable def st_tllaw_19 (cx cy s w h : Int) (l : List (Int × Int)) (l_t : Bool) (ww : Int) (hh : Int) (ts : List (Int × Int × Int × Int)) (tn : Nat) (fa : List (Int × Int × Int × Int)) (fr fz r : List Int) (bs : List (Int × Int × Int × Int)) (bn : Nat) (k : Int) : St cod := ⟨tmG 44 [(9, .c (.own 2 (tn))), (7, .c (.slc 6 0 (List.length r) false)), (1, .c (.own 7 bn)), (77, .c (.own 2 (tn))), (0, .c (.int .i64 (Int.ofNat tn))), (0, .c (.int .i64 k))], ([.inp 1 l, .blk [.int .i64 cx, .int .i64 cy, .int .i64 s, .int .i64 w, .int .i64 h] 56, .own 4 ts 63, .arr 4 fa 63, .own 0 fr 3, .arr 0 fz 3, .own 0 r 3, .own 4 bs 66] : Heap cod)⟩


theorem tllaw_t19 (cx cy s w h : Int) (l : List (Int × Int)) (l_t : Bool) (ww : Int) (hh : Int) (ts : List (Int × Int × Int × Int)) (tn : Nat) (fa : List (Int × Int × Int × Int)) (fr fz r : List Int) (bs : List (Int × Int × Int × Int)) (bn : Nat) (k : Int) : symF C_lBox cuts_tllaw Try.f6.results.toList 1 400 (cutAt Try.f6 19) (st_tllaw_19 cx cy s w h l l_t ww hh ts tn fa fr fz r bs bn k) =
 cond (decide (k < Int.ofNat tn)) (
 .need (((0 : Int) ≤ k ∧ k < Int.ofNat tn)) (
 .need (0 + Int.toNat k < List.length ts) (
 .need (((0 : Int) ≤ k ∧ k < Int.ofNat (List.length r))) (
 .need (0 + Int.toNat k < List.length r) (
 .need (F.lab (List.getD ts (0 + Int.toNat k) (cod 4).d).1 (List.getD ts (0 + Int.toNat k) (cod 4).d).2.1   (List.getD ts (0 + Int.toNat k) (cod 4).d).2.2.1 (List.getD ts (0 + Int.toNat k) (cod 4).d).2.2.2   (List.getD r (0 + Int.toNat k) (cod 0).d)) (
 .ret (.cut (cutAt Try.f6 25) ⟨tmG 26 [(9, .c (.own 2 (tn))), (7, .c (.slc 6 0 (List.length r) false)), (1, .c (.own 7 (bn))), (2, .c (.ptr 9 0 0)), (74, .c (.own 2 (tn))), (0, .c (.int .i64 (Int.ofNat tn))), (0, .c (.int .i64 k)), (15, .c (.own 2 (tn))), (0, .c (.int .i64 (Int.ofNat tn))), (0, .c (.int .i64 0))], [.inp 1 l, .blk [.int .i64 cx, .int .i64 cy, .int .i64 s, .int .i64 w, .int .i64 h] 56, .own 4 ts 63, .arr 4 fa 63, .own 0 fr 3, .arr 0 fz 3, .own 0 r 3, .own 4 bs 66, .blk [.int .i64 ((List.getD ts (0 + Int.toNat k) (cod 4).d).1), .int .i64 ((List.getD ts (0 + Int.toNat k) (cod 4).d).2.1), .int .i64 ((List.getD ts (0 + Int.toNat k) (cod 4).d).2.2.1), .int .i64 ((List.getD ts (0 + Int.toNat k) (cod 4).d).2.2.2)] 63, .blk [.int .i64 (F.bX (List.getD ts (0 + Int.toNat k) (cod 4).d).1 (List.getD ts (0 + Int.toNat k) (cod 4).d).2.1   (List.getD ts (0 + Int.toNat k) (cod 4).d).2.2.1 (List.getD ts (0 + Int.toNat k) (cod 4).d).2.2.2   (List.getD r (0 + Int.toNat k) (cod 0).d)), .int .i64 (F.bY (List.getD ts (0 + Int.toNat k) (cod 4).d).1 (List.getD ts (0 + Int.toNat k) (cod 4).d).2.1   (List.getD ts (0 + Int.toNat k) (cod 4).d).2.2.1 (List.getD ts (0 + Int.toNat k) (cod 4).d).2.2.2   (List.getD r (0 + Int.toNat k) (cod 0).d)), .int .i64 ((List.getD ts (0 + Int.toNat k) (cod 4).d).2.2.1), .int .i64 ((List.getD ts (0 + Int.toNat k) (cod 4).d).2.2.2)] 66]⟩))))))) (
 .ret (.fin (.c (.bool true)) [])) := by kernel_rfl


noncomputable def st_tllaw_25 (cx cy s w h : Int) (l : List (Int × Int)) (l_t : Bool) (ww : Int) (hh : Int) (ts : List (Int × Int × Int × Int)) (tn : Nat) (fa : List (Int × Int × Int × Int)) (fr fz r : List Int) (bs : List (Int × Int × Int × Int)) (bn : Nat) (k : Int) (j : Int) : St cod := ⟨tmG 26 [(9, .c (.own 2 (tn))), (7, .c (.slc 6 0 (List.length r) false)), (1, .c (.own 7 (bn))), (2, .c (.ptr 9 0 0)), (74, .c (.own 2 (tn))), (0, .c (.int .i64 (Int.ofNat tn))), (0, .c (.int .i64 k)), (15, .c (.own 2 (tn))), (0, .c (.int .i64 (Int.ofNat tn))), (0, .c (.int .i64 j))], [.inp 1 l, .blk [.int .i64 cx, .int .i64 cy, .int .i64 s, .int .i64 w, .int .i64 h] 56, .own 4 ts 63, .arr 4 fa 63, .own 0 fr 3, .arr 0 fz 3, .own 0 r 3, .own 4 bs 66, .blk [.int .i64 ((List.getD ts (0 + Int.toNat k) (cod 4).d).1), .int .i64 ((List.getD ts (0 + Int.toNat k) (cod 4).d).2.1), .int .i64 ((List.getD ts (0 + Int.toNat k) (cod 4).d).2.2.1), .int .i64 ((List.getD ts (0 + Int.toNat k) (cod 4).d).2.2.2)] 63, .blk [.int .i64 (F.bX (List.getD ts (0 + Int.toNat k) (cod 4).d).1 (List.getD ts (0 + Int.toNat k) (cod 4).d).2.1   (List.getD ts (0 + Int.toNat k) (cod 4).d).2.2.1 (List.getD ts (0 + Int.toNat k) (cod 4).d).2.2.2   (List.getD r (0 + Int.toNat k) (cod 0).d)), .int .i64 (F.bY (List.getD ts (0 + Int.toNat k) (cod 4).d).1 (List.getD ts (0 + Int.toNat k) (cod 4).d).2.1   (List.getD ts (0 + Int.toNat k) (cod 4).d).2.2.1 (List.getD ts (0 + Int.toNat k) (cod 4).d).2.2.2   (List.getD r (0 + Int.toNat k) (cod 0).d)), .int .i64 ((List.getD ts (0 + Int.toNat k) (cod 4).d).2.2.1), .int .i64 ((List.getD ts (0 + Int.toNat k) (cod 4).d).2.2.2)] 66]⟩


theorem tllaw_t25 (cx cy s w h : Int) (l : List (Int × Int)) (l_t : Bool) (ww : Int) (hh : Int) (ts : List (Int × Int × Int × Int)) (tn : Nat) (fa : List (Int × Int × Int × Int)) (fr fz r : List Int) (bs : List (Int × Int × Int × Int)) (bn : Nat) (k : Int) (j : Int) : symF C_lBox cuts_tllaw Try.f6.results.toList 1 400 (cutAt Try.f6 25) (st_tllaw_25 cx cy s w h l l_t ww hh ts tn fa fr fz r bs bn k j) =
 cond (decide (j < Int.ofNat tn)) (
 .need (((0 : Int) ≤ j ∧ j < Int.ofNat tn)) (
 .need (0 + Int.toNat j < List.length ts) (
 .need ((F.b4   (F.bX (List.getD ts (0 + Int.toNat k) (cod 4).d).1 (List.getD ts (0 + Int.toNat k) (cod 4).d).2.1     (List.getD ts (0 + Int.toNat k) (cod 4).d).2.2.1 (List.getD ts (0 + Int.toNat k) (cod 4).d).2.2.2     (List.getD r (0 + Int.toNat k) (cod 0).d)) ∧ (F.b4   (F.bY (List.getD ts (0 + Int.toNat k) (cod 4).d).1 (List.getD ts (0 + Int.toNat k) (cod 4).d).2.1     (List.getD ts (0 + Int.toNat k) (cod 4).d).2.2.1 (List.getD ts (0 + Int.toNat k) (cod 4).d).2.2.2     (List.getD r (0 + Int.toNat k) (cod 0).d)) ∧ (F.b4 (List.getD ts (0 + Int.toNat k) (cod 4).d).2.2.1 ∧ (F.b4 (List.getD ts (0 + Int.toNat k) (cod 4).d).2.2.2 ∧ (F.b4 (List.getD ts (0 + Int.toNat j) (cod 4).d).1 ∧ (F.b4 (List.getD ts (0 + Int.toNat j) (cod 4).d).2.1 ∧ (F.b4 1 ∧ F.b4 1)))))))) (
 cond (F.meet   (F.bX (List.getD ts (0 + Int.toNat k) (cod 4).d).1 (List.getD ts (0 + Int.toNat k) (cod 4).d).2.1       (List.getD ts (0 + Int.toNat k) (cod 4).d).2.2.1 (List.getD ts (0 + Int.toNat k) (cod 4).d).2.2.2       (List.getD r (0 + Int.toNat k) (cod 0).d),     F.bY (List.getD ts (0 + Int.toNat k) (cod 4).d).1 (List.getD ts (0 + Int.toNat k) (cod 4).d).2.1       (List.getD ts (0 + Int.toNat k) (cod 4).d).2.2.1 (List.getD ts (0 + Int.toNat k) (cod 4).d).2.2.2       (List.getD r (0 + Int.toNat k) (cod 0).d),     (List.getD ts (0 + Int.toNat k) (cod 4).d).2.2.1, (List.getD ts (0 + Int.toNat k) (cod 4).d).2.2.2)   ((List.getD ts (0 + Int.toNat j) (cod 4).d).1, (List.getD ts (0 + Int.toNat j) (cod 4).d).2.1, 1, 1)) (
  .ret (.fin (.c (.bool false)) [])) (
  .need (i64ok (j + 1)) (
  .ret (.cut (cutAt Try.f6 25) ⟨tmG 26 [(9, .c (.own 2 (tn))), (7, .c (.slc 6 0 (List.length r) false)), (1, .c (.own 7 (bn))), (2, .c (.ptr 9 0 0)), (74, .c (.own 2 (tn))), (0, .c (.int .i64 (Int.ofNat tn))), (0, .c (.int .i64 k)), (15, .c (.own 2 (tn))), (0, .c (.int .i64 (Int.ofNat tn))), (0, .c (.int .i64 (j + 1)))], [.inp 1 l, .blk [.int .i64 cx, .int .i64 cy, .int .i64 s, .int .i64 w, .int .i64 h] 56, .own 4 ts 63, .arr 4 fa 63, .own 0 fr 3, .arr 0 fz 3, .own 0 r 3, .own 4 bs 66, .blk [.int .i64 ((List.getD ts (0 + Int.toNat k) (cod 4).d).1), .int .i64 ((List.getD ts (0 + Int.toNat k) (cod 4).d).2.1), .int .i64 ((List.getD ts (0 + Int.toNat k) (cod 4).d).2.2.1), .int .i64 ((List.getD ts (0 + Int.toNat k) (cod 4).d).2.2.2)] 63, .blk [.int .i64 (F.bX (List.getD ts (0 + Int.toNat k) (cod 4).d).1 (List.getD ts (0 + Int.toNat k) (cod 4).d).2.1   (List.getD ts (0 + Int.toNat k) (cod 4).d).2.2.1 (List.getD ts (0 + Int.toNat k) (cod 4).d).2.2.2   (List.getD r (0 + Int.toNat k) (cod 0).d)), .int .i64 (F.bY (List.getD ts (0 + Int.toNat k) (cod 4).d).1 (List.getD ts (0 + Int.toNat k) (cod 4).d).2.1   (List.getD ts (0 + Int.toNat k) (cod 4).d).2.2.1 (List.getD ts (0 + Int.toNat k) (cod 4).d).2.2.2   (List.getD r (0 + Int.toNat k) (cod 0).d)), .int .i64 ((List.getD ts (0 + Int.toNat k) (cod 4).d).2.2.1), .int .i64 ((List.getD ts (0 + Int.toNat k) (cod 4).d).2.2.2)] 66]⟩))))))) (
 .ret (.cut (cutAt Try.f6 31) ⟨tmG 12 [(9, .c (.own 2 (tn))), (7, .c (.slc 6 0 (List.length r) false)), (1, .c (.own 7 (bn))), (2, .c (.ptr 9 0 0)), (74, .c (.own 2 (tn))), (0, .c (.int .i64 (Int.ofNat tn))), (0, .c (.int .i64 k)), (29, .c (.own 7 (bn))), (0, .c (.int .i64 (Int.ofNat bn))), (0, .c (.int .i64 0))], [.inp 1 l, .blk [.int .i64 cx, .int .i64 cy, .int .i64 s, .int .i64 w, .int .i64 h] 56, .own 4 ts 63, .arr 4 fa 63, .own 0 fr 3, .arr 0 fz 3, .own 0 r 3, .own 4 bs 66, .blk [.int .i64 ((List.getD ts (0 + Int.toNat k) (cod 4).d).1), .int .i64 ((List.getD ts (0 + Int.toNat k) (cod 4).d).2.1), .int .i64 ((List.getD ts (0 + Int.toNat k) (cod 4).d).2.2.1), .int .i64 ((List.getD ts (0 + Int.toNat k) (cod 4).d).2.2.2)] 63, .blk [.int .i64 (F.bX (List.getD ts (0 + Int.toNat k) (cod 4).d).1 (List.getD ts (0 + Int.toNat k) (cod 4).d).2.1   (List.getD ts (0 + Int.toNat k) (cod 4).d).2.2.1 (List.getD ts (0 + Int.toNat k) (cod 4).d).2.2.2   (List.getD r (0 + Int.toNat k) (cod 0).d)), .int .i64 (F.bY (List.getD ts (0 + Int.toNat k) (cod 4).d).1 (List.getD ts (0 + Int.toNat k) (cod 4).d).2.1   (List.getD ts (0 + Int.toNat k) (cod 4).d).2.2.1 (List.getD ts (0 + Int.toNat k) (cod 4).d).2.2.2   (List.getD r (0 + Int.toNat k) (cod 0).d)), .int .i64 ((List.getD ts (0 + Int.toNat k) (cod 4).d).2.2.1), .int .i64 ((List.getD ts (0 + Int.toNat k) (cod 4).d).2.2.2)] 66]⟩)) := by kernel_rfl


noncomputable def st_tllaw_31 (cx cy s w h : Int) (l : List (Int × Int)) (l_t : Bool) (ww : Int) (hh : Int) (ts : List (Int × Int × Int × Int)) (tn : Nat) (fa : List (Int × Int × Int × Int)) (fr fz r : List Int) (bs : List (Int × Int × Int × Int)) (bn : Nat) (k : Int) (j : Int) : St cod := ⟨tmG 12 [(9, .c (.own 2 (tn))), (7, .c (.slc 6 0 (List.length r) false)), (1, .c (.own 7 (bn))), (2, .c (.ptr 9 0 0)), (74, .c (.own 2 (tn))), (0, .c (.int .i64 (Int.ofNat tn))), (0, .c (.int .i64 k)), (29, .c (.own 7 (bn))), (0, .c (.int .i64 (Int.ofNat bn))), (0, .c (.int .i64 j))], [.inp 1 l, .blk [.int .i64 cx, .int .i64 cy, .int .i64 s, .int .i64 w, .int .i64 h] 56, .own 4 ts 63, .arr 4 fa 63, .own 0 fr 3, .arr 0 fz 3, .own 0 r 3, .own 4 bs 66, .blk [.int .i64 ((List.getD ts (0 + Int.toNat k) (cod 4).d).1), .int .i64 ((List.getD ts (0 + Int.toNat k) (cod 4).d).2.1), .int .i64 ((List.getD ts (0 + Int.toNat k) (cod 4).d).2.2.1), .int .i64 ((List.getD ts (0 + Int.toNat k) (cod 4).d).2.2.2)] 63, .blk [.int .i64 (F.bX (List.getD ts (0 + Int.toNat k) (cod 4).d).1 (List.getD ts (0 + Int.toNat k) (cod 4).d).2.1   (List.getD ts (0 + Int.toNat k) (cod 4).d).2.2.1 (List.getD ts (0 + Int.toNat k) (cod 4).d).2.2.2   (List.getD r (0 + Int.toNat k) (cod 0).d)), .int .i64 (F.bY (List.getD ts (0 + Int.toNat k) (cod 4).d).1 (List.getD ts (0 + Int.toNat k) (cod 4).d).2.1   (List.getD ts (0 + Int.toNat k) (cod 4).d).2.2.1 (List.getD ts (0 + Int.toNat k) (cod 4).d).2.2.2   (List.getD r (0 + Int.toNat k) (cod 0).d)), .int .i64 ((List.getD ts (0 + Int.toNat k) (cod 4).d).2.2.1), .int .i64 ((List.getD ts (0 + Int.toNat k) (cod 4).d).2.2.2)] 66]⟩


theorem tllaw_t31 (cx cy s w h : Int) (l : List (Int × Int)) (l_t : Bool) (ww : Int) (hh : Int) (ts : List (Int × Int × Int × Int)) (tn : Nat) (fa : List (Int × Int × Int × Int)) (fr fz r : List Int) (bs : List (Int × Int × Int × Int)) (bn : Nat) (k : Int) (j : Int) : symF C_lBox cuts_tllaw Try.f6.results.toList 1 400 (cutAt Try.f6 31) (st_tllaw_31 cx cy s w h l l_t ww hh ts tn fa fr fz r bs bn k j) =
 cond (decide (j < Int.ofNat bn)) (
 .need (((0 : Int) ≤ j ∧ j < Int.ofNat bn)) (
 .need (0 + Int.toNat j < List.length bs) (
 .need ((F.b4   (F.bX (List.getD ts (0 + Int.toNat k) (cod 4).d).1 (List.getD ts (0 + Int.toNat k) (cod 4).d).2.1     (List.getD ts (0 + Int.toNat k) (cod 4).d).2.2.1 (List.getD ts (0 + Int.toNat k) (cod 4).d).2.2.2     (List.getD r (0 + Int.toNat k) (cod 0).d)) ∧ (F.b4   (F.bY (List.getD ts (0 + Int.toNat k) (cod 4).d).1 (List.getD ts (0 + Int.toNat k) (cod 4).d).2.1     (List.getD ts (0 + Int.toNat k) (cod 4).d).2.2.1 (List.getD ts (0 + Int.toNat k) (cod 4).d).2.2.2     (List.getD r (0 + Int.toNat k) (cod 0).d)) ∧ (F.b4 (List.getD ts (0 + Int.toNat k) (cod 4).d).2.2.1 ∧ (F.b4 (List.getD ts (0 + Int.toNat k) (cod 4).d).2.2.2 ∧ (F.b4 (List.getD bs (0 + Int.toNat j) (cod 4).d).1 ∧ (F.b4 (List.getD bs (0 + Int.toNat j) (cod 4).d).2.1 ∧ (F.b4 (List.getD bs (0 + Int.toNat j) (cod 4).d).2.2.1 ∧ F.b4 (List.getD bs (0 + Int.toNat j) (cod 4).d).2.2.2)))))))) (
 cond (F.meet   (F.bX (List.getD ts (0 + Int.toNat k) (cod 4).d).1 (List.getD ts (0 + Int.toNat k) (cod 4).d).2.1       (List.getD ts (0 + Int.toNat k) (cod 4).d).2.2.1 (List.getD ts (0 + Int.toNat k) (cod 4).d).2.2.2       (List.getD r (0 + Int.toNat k) (cod 0).d),     F.bY (List.getD ts (0 + Int.toNat k) (cod 4).d).1 (List.getD ts (0 + Int.toNat k) (cod 4).d).2.1       (List.getD ts (0 + Int.toNat k) (cod 4).d).2.2.1 (List.getD ts (0 + Int.toNat k) (cod 4).d).2.2.2       (List.getD r (0 + Int.toNat k) (cod 0).d),     (List.getD ts (0 + Int.toNat k) (cod 4).d).2.2.1, (List.getD ts (0 + Int.toNat k) (cod 4).d).2.2.2)   ((List.getD bs (0 + Int.toNat j) (cod 4).d).1, (List.getD bs (0 + Int.toNat j) (cod 4).d).2.1,     (List.getD bs (0 + Int.toNat j) (cod 4).d).2.2.1, (List.getD bs (0 + Int.toNat j) (cod 4).d).2.2.2)) (
  .ret (.fin (.c (.bool false)) [])) (
  .need (i64ok (j + 1)) (
  .ret (.cut (cutAt Try.f6 31) ⟨tmG 12 [(9, .c (.own 2 (tn))), (7, .c (.slc 6 0 (List.length r) false)), (1, .c (.own 7 (bn))), (2, .c (.ptr 9 0 0)), (74, .c (.own 2 (tn))), (0, .c (.int .i64 (Int.ofNat tn))), (0, .c (.int .i64 k)), (29, .c (.own 7 (bn))), (0, .c (.int .i64 (Int.ofNat bn))), (0, .c (.int .i64 (j + 1)))], [.inp 1 l, .blk [.int .i64 cx, .int .i64 cy, .int .i64 s, .int .i64 w, .int .i64 h] 56, .own 4 ts 63, .arr 4 fa 63, .own 0 fr 3, .arr 0 fz 3, .own 0 r 3, .own 4 bs 66, .blk [.int .i64 ((List.getD ts (0 + Int.toNat k) (cod 4).d).1), .int .i64 ((List.getD ts (0 + Int.toNat k) (cod 4).d).2.1), .int .i64 ((List.getD ts (0 + Int.toNat k) (cod 4).d).2.2.1), .int .i64 ((List.getD ts (0 + Int.toNat k) (cod 4).d).2.2.2)] 63, .blk [.int .i64 (F.bX (List.getD ts (0 + Int.toNat k) (cod 4).d).1 (List.getD ts (0 + Int.toNat k) (cod 4).d).2.1   (List.getD ts (0 + Int.toNat k) (cod 4).d).2.2.1 (List.getD ts (0 + Int.toNat k) (cod 4).d).2.2.2   (List.getD r (0 + Int.toNat k) (cod 0).d)), .int .i64 (F.bY (List.getD ts (0 + Int.toNat k) (cod 4).d).1 (List.getD ts (0 + Int.toNat k) (cod 4).d).2.1   (List.getD ts (0 + Int.toNat k) (cod 4).d).2.2.1 (List.getD ts (0 + Int.toNat k) (cod 4).d).2.2.2   (List.getD r (0 + Int.toNat k) (cod 0).d)), .int .i64 ((List.getD ts (0 + Int.toNat k) (cod 4).d).2.2.1), .int .i64 ((List.getD ts (0 + Int.toNat k) (cod 4).d).2.2.2)] 66]⟩))))))) (
 .need (1 = 1) (
 .need (bn + 1 ≤ 1000000) (
 .need (i64ok (k + 1)) (
 .ret (.cut (cutAt Try.f6 19) ⟨tmG 44 [(9, .c (.own 2 (tn))), (7, .c (.slc 6 0 (List.length r) false)), (1, .c (.own 7 (bn + 1))), (77, .c (.own 2 (tn))), (0, .c (.int .i64 (Int.ofNat tn))), (0, .c (.int .i64 (k + 1)))], [.inp 1 l, .blk [.int .i64 cx, .int .i64 cy, .int .i64 s, .int .i64 w, .int .i64 h] 56, .own 4 ts 63, .arr 4 fa 63, .own 0 fr 3, .arr 0 fz 3, .own 0 r 3, .own 4 (bs ++ ([(F.bX (List.getD ts (0 + Int.toNat k) (cod 4).d).1 (List.getD ts (0 + Int.toNat k) (cod 4).d).2.1       (List.getD ts (0 + Int.toNat k) (cod 4).d).2.2.1 (List.getD ts (0 + Int.toNat k) (cod 4).d).2.2.2       (List.getD r (0 + Int.toNat k) (cod 0).d),     F.bY (List.getD ts (0 + Int.toNat k) (cod 4).d).1 (List.getD ts (0 + Int.toNat k) (cod 4).d).2.1       (List.getD ts (0 + Int.toNat k) (cod 4).d).2.2.1 (List.getD ts (0 + Int.toNat k) (cod 4).d).2.2.2       (List.getD r (0 + Int.toNat k) (cod 0).d),     (List.getD ts (0 + Int.toNat k) (cod 4).d).2.2.1, (List.getD ts (0 + Int.toNat k) (cod 4).d).2.2.2)])) 66]⟩))))) := by kernel_rfl


noncomputable def st_tllaw_19b (cx cy s w h : Int) (l : List (Int × Int)) (l_t : Bool) (ww : Int) (hh : Int) (ts : List (Int × Int × Int × Int)) (tn : Nat) (fa : List (Int × Int × Int × Int)) (fr fz r : List Int) (bs : List (Int × Int × Int × Int)) (bn : Nat) (k : Int) : St cod := ⟨tmG 44 [(9, .c (.own 2 (tn))), (7, .c (.own 6 0)), (1, .c (.own 7 bn)), (77, .c (.own 2 (tn))), (0, .c (.int .i64 (Int.ofNat tn))), (0, .c (.int .i64 k))], ([.inp 1 l, .blk [.int .i64 cx, .int .i64 cy, .int .i64 s, .int .i64 w, .int .i64 h] 56, .own 4 ts 63, .arr 4 fa 63, .own 0 fr 3, .arr 0 fz 3, .own 0 [] 3, .own 4 bs 66] : Heap cod)⟩


theorem tllaw_t19b (cx cy s w h : Int) (l : List (Int × Int)) (l_t : Bool) (ww : Int) (hh : Int) (ts : List (Int × Int × Int × Int)) (tn : Nat) (fa : List (Int × Int × Int × Int)) (fr fz r : List Int) (bs : List (Int × Int × Int × Int)) (bn : Nat) (k : Int) : symF C_lBox cuts_tllaw Try.f6.results.toList 1 400 (cutAt Try.f6 19) (st_tllaw_19b cx cy s w h l l_t ww hh ts tn fa fr fz r bs bn k) =
 cond (decide (k < Int.ofNat tn)) (
 .need (((0 : Int) ≤ k ∧ k < Int.ofNat tn)) (
 .need (0 + Int.toNat k < List.length ts) (
 .need (((0 : Int) ≤ k ∧ k < Int.ofNat 0)) (
 .need (0 + Int.toNat k < 0) (
 .need (F.lab (List.getD ts (0 + Int.toNat k) (cod 4).d).1 (List.getD ts (0 + Int.toNat k) (cod 4).d).2.1   (List.getD ts (0 + Int.toNat k) (cod 4).d).2.2.1 (List.getD ts (0 + Int.toNat k) (cod 4).d).2.2.2   (List.getD [] (0 + Int.toNat k) (cod 0).d)) (
 .ret (.cut (cutAt Try.f6 25) ⟨tmG 26 [(9, .c (.own 2 (tn))), (7, .c (.own 6 0)), (1, .c (.own 7 (bn))), (2, .c (.ptr 9 0 0)), (74, .c (.own 2 (tn))), (0, .c (.int .i64 (Int.ofNat tn))), (0, .c (.int .i64 k)), (15, .c (.own 2 (tn))), (0, .c (.int .i64 (Int.ofNat tn))), (0, .c (.int .i64 0))], [.inp 1 l, .blk [.int .i64 cx, .int .i64 cy, .int .i64 s, .int .i64 w, .int .i64 h] 56, .own 4 ts 63, .arr 4 fa 63, .own 0 fr 3, .arr 0 fz 3, .own 0 [] 3, .own 4 bs 66, .blk [.int .i64 ((List.getD ts (0 + Int.toNat k) (cod 4).d).1), .int .i64 ((List.getD ts (0 + Int.toNat k) (cod 4).d).2.1), .int .i64 ((List.getD ts (0 + Int.toNat k) (cod 4).d).2.2.1), .int .i64 ((List.getD ts (0 + Int.toNat k) (cod 4).d).2.2.2)] 63, .blk [.int .i64 (F.bX (List.getD ts (0 + Int.toNat k) (cod 4).d).1 (List.getD ts (0 + Int.toNat k) (cod 4).d).2.1   (List.getD ts (0 + Int.toNat k) (cod 4).d).2.2.1 (List.getD ts (0 + Int.toNat k) (cod 4).d).2.2.2   (List.getD [] (0 + Int.toNat k) (cod 0).d)), .int .i64 (F.bY (List.getD ts (0 + Int.toNat k) (cod 4).d).1 (List.getD ts (0 + Int.toNat k) (cod 4).d).2.1   (List.getD ts (0 + Int.toNat k) (cod 4).d).2.2.1 (List.getD ts (0 + Int.toNat k) (cod 4).d).2.2.2   (List.getD [] (0 + Int.toNat k) (cod 0).d)), .int .i64 ((List.getD ts (0 + Int.toNat k) (cod 4).d).2.2.1), .int .i64 ((List.getD ts (0 + Int.toNat k) (cod 4).d).2.2.2)] 66]⟩))))))) (
 .ret (.fin (.c (.bool true)) [])) := by kernel_rfl



theorem tl31 (cx cy s w h : Int) (l : List (Int × Int)) (l_t : Bool) (ww hh : Int) (ts : List F.Q4) (tn : Nat) (fa : List F.Q4) (fr fz r : List Int) (bs : List F.Q4) (bn k : Nat) (b0 : Base) (hb0 : b0.n = 1) (hbn : bn = bs.length) (h5 : bn ≤ 100) (h6 : k ≤ 100) (hq : F.bq (F.boxAt ts r (k : Int))) (hbs : F.allB bs) (K : Sym.Runs Try.prog b0 (cutAt Try.f6 19) (st_tllaw_19 cx cy s w h l l_t ww hh ts tn fa fr fz r (bs ++ [F.boxAt ts r (k : Int)]) (bn + 1) ((k : Int) + 1)) (Sym.Ends Try.prog Try.f6 1 (.c (.bool true)) [])) : ∀ (m j : Nat), j + m = bn → F.anyQ (F.meet (F.boxAt ts r (k : Int))) bs m j = false →
    Sym.Runs Try.prog b0 (cutAt Try.f6 31) (st_tllaw_31 cx cy s w h l l_t ww hh ts tn fa fr fz r bs bn (k : Int) (j : Int)) (Sym.Ends Try.prog Try.f6 1 (.c (.bool true)) []) := by
  intro m
  induction m with
  | zero =>
    intro j hm ha
    refine Runs.go (cfg := C_lBox) L_lBox_ok mixed cuts_tllaw 400 hb0 (tllaw_t31 cx cy s w h l l_t ww hh ts tn fa fr fz r bs bn (k : Int) (j : Int)) ?_
    simp only [T.wp, T.wp_cond, Aft, decide_eq_true_eq]
    exact ite_no (by rw [Int.ofNat_eq_natCast]; omega) ⟨trivial, by omega, by unfold i64ok; omega, K⟩
  | succ m ih =>
    intro j hm ha
    obtain ⟨a1, a2⟩ := F.anyQ_head ha
    have nx := ih (j + 1) (by omega) a2
    have v1 : (j : Int) < Int.ofNat bn := by rw [Int.ofNat_eq_natCast]; omega
    have v2 : j < bs.length := by omega
    have hj : F.bq (bs.getD j F.q0) := hbs _ (by rw [List.getD, List.getElem?_eq_getElem v2]; exact List.getElem_mem v2)
    have e0 : 0 + Int.toNat (j : Int) = j := by omega
    refine Runs.go (cfg := C_lBox) L_lBox_ok mixed cuts_tllaw 400 hb0 (tllaw_t31 cx cy s w h l l_t ww hh ts tn fa fr fz r bs bn (k : Int) (j : Int)) ?_
    simp only [T.wp, T.wp_cond, Aft, decide_eq_true_eq]
    rw [e0]
    refine ite_yes v1 ⟨⟨by omega, v1⟩, v2, ⟨hq.1, hq.2.1, hq.2.2.1, hq.2.2.2, hj.1, hj.2.1, hj.2.2.1, hj.2.2.2⟩, ite_no (fun e => ?_) ⟨by unfold i64ok; omega, nx⟩⟩
    rw [show F.meet (F.boxAt ts r (k : Int)) (bs.getD j F.q0) = true from e] at a1
    cases a1
theorem tl25 (cx cy s w h : Int) (l : List (Int × Int)) (l_t : Bool) (ww hh : Int) (ts : List F.Q4) (tn : Nat) (fa : List F.Q4) (fr fz r : List Int) (bs : List F.Q4) (bn k : Nat) (b0 : Base) (hb0 : b0.n = 1) (htn : tn = ts.length) (h5 : tn ≤ 100) (hq : F.bq (F.boxAt ts r (k : Int))) (hok : F.allok ts) (K : Sym.Runs Try.prog b0 (cutAt Try.f6 31) (st_tllaw_31 cx cy s w h l l_t ww hh ts tn fa fr fz r bs bn (k : Int) 0) (Sym.Ends Try.prog Try.f6 1 (.c (.bool true)) [])) : ∀ (m j : Nat), j + m = tn → F.anyQ (F.mp (F.boxAt ts r (k : Int))) ts m j = false →
    Sym.Runs Try.prog b0 (cutAt Try.f6 25) (st_tllaw_25 cx cy s w h l l_t ww hh ts tn fa fr fz r bs bn (k : Int) (j : Int)) (Sym.Ends Try.prog Try.f6 1 (.c (.bool true)) []) := by
  intro m
  induction m with
  | zero =>
    intro j hm ha
    refine Runs.go (cfg := C_lBox) L_lBox_ok mixed cuts_tllaw 400 hb0 (tllaw_t25 cx cy s w h l l_t ww hh ts tn fa fr fz r bs bn (k : Int) (j : Int)) ?_
    simp only [T.wp, T.wp_cond, Aft, decide_eq_true_eq]
    exact ite_no (by rw [Int.ofNat_eq_natCast]; omega) K
  | succ m ih =>
    intro j hm ha
    obtain ⟨a1, a2⟩ := F.anyQ_head ha
    have nx := ih (j + 1) (by omega) a2
    have v1 : (j : Int) < Int.ofNat tn := by rw [Int.ofNat_eq_natCast]; omega
    have v2 : j < ts.length := by omega
    have hj : F.bq (ts.getD j F.q0) := F.allB_of hok _ (by rw [List.getD, List.getElem?_eq_getElem v2]; exact List.getElem_mem v2)
    have e0 : 0 + Int.toNat (j : Int) = j := by omega
    have one : F.b4 1 := by unfold F.b4; omega
    refine Runs.go (cfg := C_lBox) L_lBox_ok mixed cuts_tllaw 400 hb0 (tllaw_t25 cx cy s w h l l_t ww hh ts tn fa fr fz r bs bn (k : Int) (j : Int)) ?_
    simp only [T.wp, T.wp_cond, Aft, decide_eq_true_eq]
    rw [e0]
    refine ite_yes v1 ⟨⟨by omega, v1⟩, v2, ⟨hq.1, hq.2.1, hq.2.2.1, hq.2.2.2, hj.1, hj.2.1, one, one⟩, ite_no (fun e => ?_) ⟨by unfold i64ok; omega, nx⟩⟩
    rw [show F.mp (F.boxAt ts r (k : Int)) (ts.getD j F.q0) = true from e] at a1
    cases a1
theorem tl19 (cx cy s w h : Int) (l : List (Int × Int)) (l_t : Bool) (ww hh : Int) (ts : List F.Q4) (tn : Nat) (fa : List F.Q4) (fr fz r : List Int) (b0 : Base) (hb0 : b0.n = 1) (htn : tn = ts.length) (h5 : tn ≤ 5) (hr : r.length = tn) (hsp : F.spots r) (hok : F.allok ts) : ∀ (m k : Nat) (bs : List F.Q4) (bn : Nat), k + m = tn → bn = bs.length → bn = k → F.allB bs → F.fitW ts (r.take k) bs (r.drop k) = true →
    Sym.Runs Try.prog b0 (cutAt Try.f6 19) (st_tllaw_19 cx cy s w h l l_t ww hh ts tn fa fr fz r bs bn (k : Int)) (Sym.Ends Try.prog Try.f6 1 (.c (.bool true)) []) := by
  intro m
  induction m with
  | zero =>
    intro k bs bn hm hbn hk hbs hf
    refine Runs.go (cfg := C_lBox) L_lBox_ok mixed cuts_tllaw 400 hb0 (tllaw_t19 cx cy s w h l l_t ww hh ts tn fa fr fz r bs bn (k : Int)) ?_
    simp only [T.wp, T.wp_cond, Aft, decide_eq_true_eq]
    exact ite_no (by rw [Int.ofNat_eq_natCast]; omega) (by first | exact ⟨rfl, trivial⟩ | exact ⟨rfl, rfl⟩ | exact ⟨trivial, trivial⟩ | trivial)
  | succ m ih =>
    intro k bs bn hm hbn hk hbs hf
    have hi : k < r.length := by omega
    have v1 : (k : Int) < Int.ofNat tn := by rw [Int.ofNat_eq_natCast]; omega
    have v2 : k < ts.length := by omega
    have v3 : (k : Int) < Int.ofNat (List.length r) := by rw [Int.ofNat_eq_natCast]; omega
    have ak := F.at4_ok hok (i := (k : Int)) (by omega) (by omega)
    have sk := F.at0_ok hsp (i := (k : Int)) (by omega) (by omega)
    have lk := F.lab_of ak sk.1 sk.2
    have qk : F.bq (F.boxAt ts r (k : Int)) := F.bq_box ak sk.1 sk.2
    have e4 : F.at4 ts (k : Int) = ts.getD k F.q0 := by unfold F.at4; rw [Int.toNat_natCast, Nat.zero_add]
    have e0 : F.at0 r (k : Int) = r[k] := by unfold F.at0; rw [Int.toNat_natCast, Nat.zero_add, List.getD, List.getElem?_eq_getElem hi]; rfl
    have eb : F.boxAt ts r (k : Int) = F.boxQ (ts.getD k F.q0) r[k] := by unfold F.boxAt; rw [e4, e0]
    have ed : r.drop k = r[k] :: r.drop (k + 1) := List.drop_eq_getElem_cons hi
    have et : (r.take k).length = k := by rw [List.length_take]; omega
    have es : r.take (k + 1) = r.take k ++ [r[k]] := by rw [List.take_add_one, List.getElem?_eq_getElem hi]; rfl
    rw [ed, F.fitW, et, ← eb, ← es, Bool.and_eq_true] at hf
    obtain ⟨hfree, hrest⟩ := hf
    unfold F.free at hfree
    rw [Bool.and_eq_true, Bool.not_eq_true', Bool.not_eq_true'] at hfree
    have nx := ih (k + 1) (bs ++ [F.boxAt ts r (k : Int)]) (bn + 1) (by omega) (by simp [hbn]) (by omega) (F.allB_snoc hbs qk) hrest
    have w1 := tl31 cx cy s w h l l_t ww hh ts tn fa fr fz r bs bn k b0 hb0 hbn (by omega) (by omega) qk hbs nx bn 0 (by omega) (by rw [hbn]; exact hfree.2)
    have w2 := tl25 cx cy s w h l l_t ww hh ts tn fa fr fz r bs bn k b0 hb0 htn (by omega) qk hok w1 tn 0 (by omega) (by rw [htn]; exact hfree.1)
    refine Runs.go (cfg := C_lBox) L_lBox_ok mixed cuts_tllaw 400 hb0 (tllaw_t19 cx cy s w h l l_t ww hh ts tn fa fr fz r bs bn (k : Int)) ?_
    simp only [T.wp, T.wp_cond, Aft, decide_eq_true_eq]
    exact ite_yes v1 ⟨⟨by omega, v1⟩, by omega, ⟨by omega, v3⟩, by omega, lk, w2⟩
theorem tl3 (cx cy s w h : Int) (l : List (Int × Int)) (l_t : Bool) (ww hh : Int) (b0 : Base) (hb0 : b0.n = 1) (hw : i64ok ww) (hh' : i64ok hh) : ∀ (m k : Nat) (ts : List F.Q4) (tn : Nat), k + m = min l.length 5 → tn = ts.length → tn ≤ k → F.allok ts →
    Sym.Runs Try.prog b0 (cutAt Try.f6 3) (st_tllaw_3 cx cy s w h l l_t ww hh ts tn (k : Int)) (Sym.Ends Try.prog Try.f6 1 (.c (.bool true)) []) := by
  have hmin : Int.toNat (min (Int.ofNat (List.length l)) 5) = min l.length 5 := by rw [Int.ofNat_eq_natCast]; omega
  intro m
  induction m with
  | zero =>
    intro k ts tn hm htn hk hok
    have c1 := F.lchk_ok hok (by omega)
    have h64 : F.l64 ts := fun x hx => by
      obtain ⟨a, b, _, _⟩ := hok x hx
      unfold i64ok
      omega
    refine Runs.go (cfg := C_lBox) L_lBox_ok mixed cuts_tllaw 400 hb0 (tllaw_t3 cx cy s w h l l_t ww hh ts tn (k : Int)) ?_
    simp only [T.wp, T.wp_cond, Aft, decide_eq_true_eq]
    refine ite_no (by rw [Int.ofNat_eq_natCast, hmin]; omega) ⟨⟨⟨trivial, trivial⟩, ?_⟩, fun _ => ⟨⟨⟨trivial, trivial⟩, ⟨trivial, trivial⟩, by decide⟩, ⟨⟨trivial, htn⟩, h64⟩, fun hp => ?_, fun hp => ?_⟩, fun h => by rw [F.fact_B2] at h; cases h⟩
    · intro x hx
      rcases List.mem_cons.mp hx with rfl | hx
      · exact ⟨⟨by decide, by decide⟩, by decide, by decide⟩
      · rw [List.mem_singleton.mp hx]; exact ⟨⟨by decide, by decide⟩, by decide, by decide⟩
    · obtain ⟨p1, p2, p3, _⟩ := F.place_yes hp
      rw [F.fitL_fitW p1] at p3
      refine ite_no (by simp [p1, htn]) ?_
      exact tl19 cx cy s w h l l_t ww hh ts tn _ _ _ (F.placeR ts) b0 hb0 htn (by omega) (by omega) p2 hok tn 0 [] 0 (by omega) rfl rfl (fun x hx => absurd hx (by simp)) p3
    · by_cases z : ts.length = 0
      · have e0 : F.placeE ts = 0 := by unfold F.placeE; rw [if_pos c1, if_neg (by omega), if_pos z]
        refine ite_no (by simp [e0]) (ite_no (by rw [Int.ofNat_eq_natCast]; simp; omega) ?_)
        refine Runs.go (cfg := C_lBox) L_lBox_ok mixed cuts_tllaw 400 hb0 (tllaw_t19b cx cy s w h l l_t ww hh ts tn _ _ _ [] [] 0 0) ?_
        simp only [T.wp, T.wp_cond, Aft, decide_eq_true_eq]
        exact ite_no (by rw [Int.ofNat_eq_natCast]; omega) (by first | exact ⟨rfl, trivial⟩ | exact ⟨rfl, rfl⟩ | exact ⟨trivial, trivial⟩ | trivial)
      · have e0 := (F.place_no hp c1 (by omega) z).1
        exact ite_yes (by simp [e0]) (ite_yes e0 (by first | exact ⟨rfl, trivial⟩ | exact ⟨rfl, rfl⟩ | exact ⟨trivial, trivial⟩ | trivial))
  | succ m ih =>
    intro k ts tn hm htn hk hok
    have v1 : (k : Int) < Int.ofNat (Int.toNat (min (Int.ofNat (List.length l)) 5)) := by rw [hmin, Int.ofNat_eq_natCast]; omega
    have nx := ih (k + 1)
    refine Runs.go (cfg := C_lBox) L_lBox_ok mixed cuts_tllaw 400 hb0 (tllaw_t3 cx cy s w h l l_t ww hh ts tn (k : Int)) ?_
    simp only [T.wp, T.wp_cond, Aft, decide_eq_true_eq]
    refine ite_yes v1 ⟨⟨by omega, v1⟩, by omega, ?_⟩
    by_cases c1 : F.scE cx cy s w h (List.getD l (0 + Int.toNat (k : Int)) (cod 1).d).1 (List.getD l (0 + Int.toNat (k : Int)) (cod 1).d).2 = 0
    · rw [if_pos c1]
      cases c2 : F.scV cx cy s w h (List.getD l (0 + Int.toNat (k : Int)) (cod 1).d).1 (List.getD l (0 + Int.toNat (k : Int)) (cod 1).d).2
      · rw [if_neg (by simp)]
        exact ⟨by unfold i64ok; omega, nx ts tn (by omega) htn (by omega) hok⟩
      · rw [if_pos rfl]
        have ci := F.cell_in c1 c2
        have ca := F.rcut_in (n := ww) (lo := 1) (hi := 8) (by decide)
        have cb := F.rcut_in (n := hh) (lo := 1) (hi := 3) (by decide)
        refine ⟨⟨by decide, by decide, by decide, hw⟩, ⟨by decide, by decide, by decide, hh'⟩, trivial, by omega, by unfold i64ok; omega, ?_⟩
        refine nx _ (tn + 1) (by omega) ?_ (by omega) ?_
        · have key : ∀ x : F.Q4, ts.length + 1 = (ts ++ [x]).length := fun x => by simp
          rw [htn]; exact key _
        · intro x hx
          rcases List.mem_append.mp hx with hx | hx
          · exact hok x hx
          · rw [List.mem_singleton.mp hx]
            unfold F.ok4 F.z
            rw [c1]
            simp only [if_true]
            omega
    · rw [if_neg c1]
      exact ⟨by unfold i64ok; omega, nx ts tn (by omega) htn (by omega) hok⟩
theorem tllaw_run (cx cy s w h : Int) (l : List (Int × Int)) (l_t : Bool) (ww : Int) (hh : Int) (b0 : Base) (hb : b0.n = 1) (h0 : i64ok ww) (h1 : i64ok hh) : Sym.Runs Try.prog b0 [.code (codeOf Try.f6)] ⟨argsS Try.f6 [.agg [.int .i64 cx, .int .i64 cy, .int .i64 s, .int .i64 w, .int .i64 h], .c (.slc 0 0 (List.length l) l_t), .c (.int .i64 ww), .c (.int .i64 hh)], ([.inp 1 l] : Heap cod)⟩ (Sym.Ends Try.prog Try.f6 1 (.c (.bool true)) []) := by
  refine Runs.go (cfg := C_lBox) L_lBox_ok mixed cuts_tllaw 400 hb (tllaw_t0 cx cy s w h l l_t ww hh) ?_
  simp only [T.wp, T.wp_cond, Aft, decide_eq_true_eq]
  refine ⟨⟨by rw [Int.ofNat_eq_natCast]; omega, by rw [Int.ofNat_eq_natCast]; omega⟩, ?_⟩
  exact tl3 cx cy s w h l l_t ww hh b0 hb h0 h1 (min l.length 5) 0 [] 0 (by omega) rfl (Nat.le_refl _) (fun x hx => absurd hx (by simp))



noncomputable def s_tllaw : Summ cod := fun args H => match args, H with
  | [.agg [.int .i64 cx, .int .i64 cy, .int .i64 s, .int .i64 w, .int .i64 h], .c (.slc 0 l_i l_n l_t), .c (.int .i64 ww), .c (.int .i64 hh)], [o0] => (match o0.asInp 1 with | some l => .need ((l_i = 0 ∧ l_n = List.length l) ∧ (i64ok ww) ∧ (i64ok hh)) (.ret (.c (.bool true), [])) | none => .fail)
  | _, _ => .fail


theorem tllaw_sound : Sound Try.prog cod 6 s_tllaw := sound_runs (cfg := C_lBox) L_lBox_ok mixed Try.func6 rfl rfl _ fun args H r news hg b0 hb => by
  unfold s_tllaw at hg
  split at hg
  · skip
    split at hg
    · rename_i l hx0
      cases asInp_spec hx0
      simp only [T.gives, T.wp, Prod.mk.injEq] at hg
      obtain ⟨⟨⟨rfl, rfl⟩, q1, q2⟩, rfl, rfl⟩ := hg
      exact tllaw_run _ _ _ _ _ _ _ _ _ b0 hb (by assumption) (by assumption)
    · exact hg.elim
  · exact hg.elim

noncomputable def L_tllaw : Sums cod := (6, .p s_tllaw) :: L_lBox
noncomputable def C_tllaw : Cfg cod := mkC L_tllaw

theorem L_tllaw_ok : Snd Try.prog cod L_tllaw := .cons tllaw_sound L_lBox_ok


end
end Go.Proofs.Ytffcfbamcaoidaa
