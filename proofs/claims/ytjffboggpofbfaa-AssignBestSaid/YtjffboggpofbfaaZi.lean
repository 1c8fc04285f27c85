/- Part of a claim: lemmas on the way to its theorem; each states its own conditions. -/
import Derived.Test.YtjffboggpofbfaaZh
import Derived.Test.YtjffboggpofbfaaBd46
namespace Go.Proofs.Ytjffboggpofbfaa
open Sym Go.RowKit
noncomputable section
set_option maxRecDepth 100000
set_option maxHeartbeats 4000000



namespace F
def eqI (a b : List Int) : Bool := decide (a = b)
end F


def cuts_same : Cuts := [(4, [1, 0, 12, 13], 2)]

theorem same_t0 (a : List Int) (a_t : Bool) (b : List Int) (b_t : Bool) (b_i b_n : Nat) : symF C_ass cuts_same Try.f5.results.toList 2 400 [.code (codeOf Try.f5)] ⟨argsS Try.f5 [.c (.slc 0 0 (List.length a) a_t), .c (.slc 1 b_i b_n b_t)], ([.inp 0 a, .inp 0 b] : Heap cod)⟩ =
 cond (!decide (Int.ofNat (List.length a) = Int.ofNat b_n)) (
 .ret (.fin (.c (.bool false)) [])) (
 .ret (.cut (cutAt Try.f5 4) ⟨tmG 12 [(0, .c (.slc 0 0 (List.length a) a_t)), (0, .c (.slc 1 (b_i) (b_n) b_t)), (10, .c (.int .i64 (Int.ofNat (List.length a)))), (0, .c (.int .i64 0))], [.inp 0 a, .inp 0 b]⟩)) := by kernel_rfl


noncomputable def st_same_4 (a : List Int) (a_t : Bool) (b : List Int) (b_t : Bool) (b_i b_n : Nat) (i : Int) : St cod := ⟨tmG 12 [(0, .c (.slc 0 0 (List.length a) a_t)), (0, .c (.slc 1 (b_i) (b_n) b_t)), (10, .c (.int .i64 (Int.ofNat (List.length a)))), (0, .c (.int .i64 i))], [.inp 0 a, .inp 0 b]⟩


theorem same_t4 (a : List Int) (a_t : Bool) (b : List Int) (b_t : Bool) (b_i b_n : Nat) (i : Int) : symF C_ass cuts_same Try.f5.results.toList 2 400 (cutAt Try.f5 4) (st_same_4 a a_t b b_t b_i b_n i) =
 cond (decide (i < Int.ofNat (List.length a))) (
 .need (((0 : Int) ≤ i ∧ i < Int.ofNat (List.length a))) (
 .need (0 + Int.toNat i < List.length a) (
 .need (((0 : Int) ≤ i ∧ i < Int.ofNat b_n)) (
 .need (b_i + Int.toNat i < List.length b) (
 cond (!decide (List.getD a (0 + Int.toNat i) (cod 0).d = List.getD b (b_i + Int.toNat i) (cod 0).d)) (
  .ret (.fin (.c (.bool false)) [])) (
  .need (i64ok (i + 1)) (
  .ret (.cut (cutAt Try.f5 4) ⟨tmG 12 [(0, .c (.slc 0 0 (List.length a) a_t)), (0, .c (.slc 1 (b_i) (b_n) b_t)), (10, .c (.int .i64 (Int.ofNat (List.length a)))), (0, .c (.int .i64 (i + 1)))], [.inp 0 a, .inp 0 b]⟩)))))))) (
 .ret (.fin (.c (.bool true)) [])) := by kernel_rfl



theorem same_loop (a : List Int) (a_t : Bool) (b : List Int) (b_t : Bool) (b_i b_n : Nat) (hl : a.length = b_n) (hbn : b_i + b_n ≤ b.length) (b0 : Base) (hb : b0.n = 2) (u : Bool) (hm : (a.length : Int) ≤ 1000000) : ∀ (m k : Nat), k + m = a.length → u = decide (a.drop k = ((b.drop b_i).take b_n).drop k) →
    Sym.Runs Try.prog b0 (cutAt Try.f5 4) (st_same_4 a a_t b b_t b_i b_n k) (Sym.Ends Try.prog Try.f5 2 (.c (.bool u)) []) := by
  have hd0 : (cod 0).d = (0 : Int) := rfl
  have hbl : ((b.drop b_i).take b_n).length = b_n := by rw [List.length_take, List.length_drop]; omega
  intro m
  induction m with
  | zero =>
    intro k hk hu
    refine Runs.go (cfg := C_ass) L_ass_ok mixed cuts_same 400 hb (same_t4 a a_t b b_t b_i b_n k) ?_
    rw [List.drop_of_length_le (by omega), List.drop_of_length_le (by omega)] at hu
    subst hu
    simp only [T.wp, T.wp_cond, Aft, Int.ofNat_eq_natCast, decide_eq_true_eq, and_true, Nat.zero_add, Bool.not_eq_true', decide_eq_false_iff_not, hd0]
    exact ite_no (by omega) (by first | trivial | rfl)
  | succ m ih =>
    intro k hk hu
    refine Runs.go (cfg := C_ass) L_ass_ok mixed cuts_same 400 hb (same_t4 a a_t b b_t b_i b_n k) ?_
    have e3 : ((b.drop b_i).take b_n).getD k 0 = b.getD (b_i + k) 0 := by
      rw [List.getD_eq_getElem?_getD, List.getD_eq_getElem?_getD, List.getElem?_take, if_pos (by omega), List.getElem?_drop]
    have e1 : a.drop k = a.getD k 0 :: a.drop (k + 1) := dropc a 0 k (by omega)
    have e2 : ((b.drop b_i).take b_n).drop k = b.getD (b_i + k) 0 :: ((b.drop b_i).take b_n).drop (k + 1) := by rw [dropc _ 0 k (by omega), e3]
    rw [e1, e2] at hu
    have nx := ih (k + 1) (by omega)
    rw [Int.natCast_succ] at nx
    simp only [T.wp, T.wp_cond, Aft, Int.ofNat_eq_natCast, decide_eq_true_eq, and_true, Nat.zero_add, Bool.not_eq_true', decide_eq_false_iff_not, hd0, Int.toNat_natCast]
    refine ite_yes (by omega) ?_
    (repeat (refine ⟨(by first | omega | (unfold i64ok; omega)), ?_⟩))
    by_cases h2 : a.getD k 0 = b.getD (b_i + k) 0
    · rw [h2] at hu ⊢
      simp only [List.cons.injEq, true_and] at hu
      exact ite_no (by simp) ⟨by unfold i64ok; omega, nx hu⟩
    · simp only [h2, List.cons.injEq, false_and, decide_false] at hu
      subst hu
      exact ite_yes h2 (by first | trivial | rfl)
theorem same_run (a : List Int) (a_t : Bool) (b : List Int) (b_t : Bool) (b_i b_n : Nat) (b0 : Base) (hb : b0.n = 2) (h0 : b_i + b_n ≤ List.length b) (h1 : ((List.length a : Int) ≤ 1000000)) : Sym.Runs Try.prog b0 [.code (codeOf Try.f5)] ⟨argsS Try.f5 [.c (.slc 0 0 (List.length a) a_t), .c (.slc 1 b_i b_n b_t)], ([.inp 0 a, .inp 0 b] : Heap cod)⟩ (Sym.Ends Try.prog Try.f5 2 (.c (.bool (F.eqI a ((b.drop b_i).take b_n)))) []) := by
  refine Runs.go (cfg := C_ass) L_ass_ok mixed cuts_same 400 hb (same_t0 a a_t b b_t b_i b_n) ?_
  by_cases h : a.length = b_n
  · have := same_loop a a_t b b_t b_i b_n h h0 b0 hb _ h1 a.length 0 (by omega) rfl
    simp only [T.wp, T.wp_cond, Aft, Int.ofNat_eq_natCast, and_true, Bool.not_eq_true', decide_eq_false_iff_not]
    exact ite_no (by omega) this
  · have h2 : F.eqI a ((b.drop b_i).take b_n) = false := by
      unfold F.eqI
      refine decide_eq_false fun e => h ?_
      have := congrArg List.length e
      rw [List.length_take, List.length_drop] at this
      omega
    rw [h2]
    simp only [T.wp, T.wp_cond, Aft, Int.ofNat_eq_natCast, and_true, Bool.not_eq_true', decide_eq_false_iff_not]
    exact ite_yes (by omega) (by first | trivial | rfl)



noncomputable def s_same : Summ cod := fun args H => match args, H with
  | [.c (.slc 0 a_i a_n a_t), .c (.slc 1 b_i b_n b_t)], [o0, o1] => (match o0.asInp 0 with | some a => (match o1.asInp 0 with | some b => .need ((a_i = 0 ∧ a_n = List.length a) ∧ (b_i + b_n ≤ List.length b) ∧ (((List.length a : Int) ≤ 1000000))) (.ret (.c (.bool (F.eqI a ((b.drop b_i).take b_n))), [])) | none => .fail) | none => .fail)
  | _, _ => .fail


theorem same_sound : Sound Try.prog cod 5 s_same := sound_runs (cfg := C_ass) L_ass_ok mixed Try.func5 rfl rfl _ fun args H r news hg b0 hb => by
  unfold s_same at hg
  split at hg
  · skip
    split at hg
    · rename_i a hx0
      cases asInp_spec hx0
      split at hg
      · rename_i b hx1
        cases asInp_spec hx1
        simp only [T.gives, T.wp, Prod.mk.injEq] at hg
        obtain ⟨⟨⟨rfl, rfl⟩, q1, q2⟩, rfl, rfl⟩ := hg
        exact same_run _ _ _ _ _ _ b0 hb (by assumption) (by assumption)
      · exact hg.elim
    · exact hg.elim
  · exact hg.elim

noncomputable def L_same : Sums cod := (5, .p s_same) :: L_ass
noncomputable def C_same : Cfg cod := mkC L_same

theorem L_same_ok : Snd Try.prog cod L_same := .cons same_sound L_ass_ok



noncomputable def QL1 : Array Oper := opsI (regAt Try.f3 1)
def st_law_x1b (L : List (List Int)) (L_t : Bool) (ms : Int) : St cod := ⟨tmG 117 [(0, .c (.slc 0 0 (List.length L) L_t)), (0, .c (.int .i64 ms)), (19, .c (.slc 1 0 2 false))], [.nin 0 L none, .nin 0 ([[1, 2], [1, 5]] : List (List Int)) none]⟩


def cuts_law : Cuts := [(100001, [1, 0], 1), (100004, [1, 0], 1), (100006, [1, 0], 2), (100011, [8, 11, 9, 12, 10, 1, 0], 3), (100013, [8, 11, 9, 12, 10, 1, 0], 3), (100014, [8, 11, 9, 12, 10, 14], 4), (16, [98, 8, 11, 9, 12, 10, 99, 100, 15], 30), (100017, [98, 8, 11, 9, 12, 10, 99, 100, 15], 5)]
def cuts_law_r1 : Cuts := [(100004, [1, 0], 1), (100006, [1, 0], 2), (100011, [8, 11, 9, 12, 10, 1, 0], 3), (100013, [8, 11, 9, 12, 10, 1, 0], 3), (100014, [8, 11, 9, 12, 10, 14], 4), (16, [98, 8, 11, 9, 12, 10, 99, 100, 15], 30), (100017, [98, 8, 11, 9, 12, 10, 99, 100, 15], 5)]
def cuts_law_r4 : Cuts := [(100001, [1, 0], 1), (100006, [1, 0], 2), (100011, [8, 11, 9, 12, 10, 1, 0], 3), (100013, [8, 11, 9, 12, 10, 1, 0], 3), (100014, [8, 11, 9, 12, 10, 14], 4), (16, [98, 8, 11, 9, 12, 10, 99, 100, 15], 30), (100017, [98, 8, 11, 9, 12, 10, 99, 100, 15], 5)]
def cuts_law_r6 : Cuts := [(100001, [1, 0], 1), (100004, [1, 0], 1), (100011, [8, 11, 9, 12, 10, 1, 0], 3), (100013, [8, 11, 9, 12, 10, 1, 0], 3), (100014, [8, 11, 9, 12, 10, 14], 4), (16, [98, 8, 11, 9, 12, 10, 99, 100, 15], 30), (100017, [98, 8, 11, 9, 12, 10, 99, 100, 15], 5)]
def cuts_law_r6b : Cuts := [(100001, [1, 0], 1), (100004, [1, 0], 1), (100011, [8, 11, 9, 12, 10, 1, 0], 3), (100013, [8, 11, 9, 12, 10, 1, 0], 3), (100014, [8, 11, 9, 12, 10, 14], 4), (16, [98, 8, 11, 9, 12, 10, 99, 100, 15], 30), (100017, [98, 8, 11, 9, 12, 10, 99, 100, 15], 5)]
def cuts_law_r11 : Cuts := [(100001, [1, 0], 1), (100004, [1, 0], 1), (100006, [1, 0], 2), (100013, [8, 11, 9, 12, 10, 1, 0], 3), (100014, [8, 11, 9, 12, 10, 14], 4), (16, [98, 8, 11, 9, 12, 10, 99, 100, 15], 30), (100017, [98, 8, 11, 9, 12, 10, 99, 100, 15], 5)]
def cuts_law_r11b : Cuts := [(100001, [1, 0], 1), (100004, [1, 0], 1), (100006, [1, 0], 2), (100013, [8, 11, 9, 12, 10, 1, 0], 3), (100014, [8, 11, 9, 12, 10, 14], 4), (16, [98, 8, 11, 9, 12, 10, 99, 100, 15], 30), (100017, [98, 8, 11, 9, 12, 10, 99, 100, 15], 5)]
def cuts_law_r13 : Cuts := [(100001, [1, 0], 1), (100004, [1, 0], 1), (100006, [1, 0], 2), (100011, [8, 11, 9, 12, 10, 1, 0], 3), (100014, [8, 11, 9, 12, 10, 14], 4), (16, [98, 8, 11, 9, 12, 10, 99, 100, 15], 30), (100017, [98, 8, 11, 9, 12, 10, 99, 100, 15], 5)]
def cuts_law_r13b : Cuts := [(100001, [1, 0], 1), (100004, [1, 0], 1), (100006, [1, 0], 2), (100011, [8, 11, 9, 12, 10, 1, 0], 3), (100014, [8, 11, 9, 12, 10, 14], 4), (16, [98, 8, 11, 9, 12, 10, 99, 100, 15], 30), (100017, [98, 8, 11, 9, 12, 10, 99, 100, 15], 5)]
def cuts_law_r14 : Cuts := [(100001, [1, 0], 1), (100004, [1, 0], 1), (100006, [1, 0], 2), (100011, [8, 11, 9, 12, 10, 1, 0], 3), (100013, [8, 11, 9, 12, 10, 1, 0], 3), (16, [98, 8, 11, 9, 12, 10, 99, 100, 15], 30), (100017, [98, 8, 11, 9, 12, 10, 99, 100, 15], 5)]
def cuts_law_r14b : Cuts := [(100001, [1, 0], 1), (100004, [1, 0], 1), (100006, [1, 0], 2), (100011, [8, 11, 9, 12, 10, 1, 0], 3), (100013, [8, 11, 9, 12, 10, 1, 0], 3), (16, [98, 8, 11, 9, 12, 10, 99, 100, 15], 30), (100017, [98, 8, 11, 9, 12, 10, 99, 100, 15], 5)]
def cuts_law_r17 : Cuts := [(100001, [1, 0], 1), (100004, [1, 0], 1), (100006, [1, 0], 2), (100011, [8, 11, 9, 12, 10, 1, 0], 3), (100013, [8, 11, 9, 12, 10, 1, 0], 3), (100014, [8, 11, 9, 12, 10, 14], 4), (16, [98, 8, 11, 9, 12, 10, 99, 100, 15], 30)]
def cuts_law_r17b : Cuts := [(100001, [1, 0], 1), (100004, [1, 0], 1), (100006, [1, 0], 2), (100011, [8, 11, 9, 12, 10, 1, 0], 3), (100013, [8, 11, 9, 12, 10, 1, 0], 3), (100014, [8, 11, 9, 12, 10, 14], 4), (16, [98, 8, 11, 9, 12, 10, 99, 100, 15], 30)]

theorem law_t0 (L : List (List Int)) (L_t : Bool) (ms : Int) : symF C_same cuts_law Try.f3.results.toList 1 400 [.code (codeOf Try.f3)] ⟨argsS Try.f3 [.c (.slc 0 0 (List.length L) L_t), .c (.int .i64 ms)], ([.nin 0 L none] : Heap cod)⟩ =
.ret (.cut (regAt Try.f3 1) ⟨tmG 137 [(0, .c (.slc 0 0 (List.length L) L_t)), (0, .c (.int .i64 ms))], [.nin 0 (L) none]⟩) := by kernel_rfl


noncomputable def st_law_r1 (L : List (List Int)) (L_t : Bool) (ms : Int)  : St cod := ⟨tmG 137 [(0, .c (.slc 0 0 (List.length L) L_t)), (0, .c (.int .i64 ms))], [.nin 0 (L) none]⟩


noncomputable def st_law_r4 (L : List (List Int)) (L_t : Bool) (ms : Int)  : St cod := ⟨tmG 137 [(0, .c (.slc 0 0 (List.length L) L_t)), (0, .c (.int .i64 ms))], [.nin 0 (L) none]⟩


theorem law_tr4 (L : List (List Int)) (L_t : Bool) (ms : Int)  : symF C_same cuts_law_r4 Try.f3.results.toList 1 400 (regAt Try.f3 4) (st_law_r4 L L_t ms ) =
 cond (decide (5 < Int.ofNat (List.length L))) (
 .need (((0 : Int) ≤ 5 ∧ (5 : Int) ≤ Int.ofNat (List.length L))) (
 .ret (.cut (regAt Try.f3 6) ⟨tmG 137 [(0, .c (.slc 0 0 5 false)), (0, .c (.int .i64 ms))], [.nin 0 (L) none]⟩))) (
 .ret (.cut (regAt Try.f3 6) ⟨tmG 137 [(0, .c (.slc 0 0 (List.length L) L_t)), (0, .c (.int .i64 ms))], [.nin 0 (L) none]⟩)) := by kernel_rfl


noncomputable def st_law_r6 (L : List (List Int)) (L_t : Bool) (ms : Int) (n : Nat) (t : Bool) : St cod := ⟨tmG 137 [(0, .c (.slc 0 0 n t)), (0, .c (.int .i64 ms))], [.nin 0 (L) none]⟩


noncomputable def st_law_r6b (L : List (List Int)) (L_t : Bool) (ms : Int) (K : List (List Int)) (kn : Nat) : St cod := ⟨tmG 137 [(0, .c (.slc 1 0 kn false)), (0, .c (.int .i64 ms))], ([.nin 0 L none, .nin 0 K none] : Heap cod)⟩


theorem law_tr6b (L : List (List Int)) (L_t : Bool) (ms : Int) (K : List (List Int)) (kn : Nat) : symF C_same cuts_law_r6b Try.f3.results.toList 1 400 (regAt Try.f3 6) (st_law_r6b L L_t ms K kn) =
.need (((0 = 0 ∧ kn = List.length K) ∧ List.length K ≤ 5)) (
.need (((0 = 0 ∧ kn = List.length K) ∧ List.length K ≤ 5)) (
.need ((0 = 0 ∧ kn = List.length K)) (
 cond (!decide (F.cE K ms = 0)) (
 cond (decide (F.cE K ms = F.cE K ms)) (
  cond (decide (F.cE K ms = F.cE K ms)) (
   cond (decide (Int.ofNat (List.length (F.bst K ms)) = 0)) (
    cond (decide (F.tot K ms = 0)) (
     .ret (.fin (.c (.bool (decide (F.tot K ms = 0)))) [])) (
     .ret (.fin (.c (.bool false)) []))) (
    .ret (.fin (.c (.bool false)) []))) (
   .ret (.fin (.c (.bool false)) []))) (
  .ret (.fin (.c (.bool false)) []))) (
 .ret (.cut (regAt Try.f3 11) ⟨tmG 126 [(0, .c (.slc 1 0 (kn) false)), (0, .c (.int .i64 ms)), (6, .c (.own 2 (List.length (F.bst K ms)))), (0, .c (.int .i64 (F.tot K ms))), (0, .c (.int .i64 (F.cE K ms))), (0, .c (.int .i64 (F.tot K ms))), (0, .c (.int .i64 (F.cE K ms)))], [.nin 0 (L) none, .nin 0 (K) none, .own 0 (F.bst K ms) 3]⟩))))) := by kernel_rfl


noncomputable def st_law_r11 (L : List (List Int)) (L_t : Bool) (ms : Int) (K : List (List Int)) (kn : Nat) (tv : List Int) (tn : Nat) (n e m f : Int) : St cod := ⟨tmG 126 [(0, .c (.slc 1 0 (kn) false)), (0, .c (.int .i64 ms)), (6, .c (.own 2 tn)), (0, .c (.int .i64 n)), (0, .c (.int .i64 e)), (0, .c (.int .i64 m)), (0, .c (.int .i64 f))], ([.nin 0 L none, .nin 0 K none, .own 0 tv 3] : Heap cod)⟩


theorem law_tr11 (L : List (List Int)) (L_t : Bool) (ms : Int) (K : List (List Int)) (kn : Nat) (tv : List Int) (tn : Nat) (n e m f : Int) : symF C_same cuts_law_r11 Try.f3.results.toList 1 400 (regAt Try.f3 11) (st_law_r11 L L_t ms K kn tv tn n e m f) =
 cond (decide (0 < Int.ofNat kn)) (
 .need (((0 : Int) ≤ 0 ∧ (0 : Int) < Int.ofNat kn)) (
 .fail)) (
 .ret (.cut (regAt Try.f3 13) ⟨tmG 126 [(0, .c (.slc 1 0 (kn) false)), (0, .c (.int .i64 ms)), (6, .c (.own 2 (tn))), (0, .c (.int .i64 n)), (0, .c (.int .i64 e)), (0, .c (.int .i64 m)), (0, .c (.int .i64 f))], [.nin 0 (L) none, .nin 0 (K) none, .own 0 tv 3]⟩)) := by kernel_rfl


noncomputable def st_law_r11b (L : List (List Int)) (L_t : Bool) (ms : Int) (K : List (List Int)) (kn : Nat) (tv : List Int) (tn : Nat) (n e m f : Int) (p : Nat) (q : List Int) : St cod := ⟨tmG 126 [(0, .c (.slc 1 0 (kn) false)), (0, .c (.int .i64 ms)), (6, .c (.own 2 (tn))), (0, .c (.int .i64 n)), (0, .c (.int .i64 e)), (0, .c (.int .i64 m)), (0, .c (.int .i64 f))], ([.nin 0 L none, .nin 0 K (some (p, .slc 3 0 (List.length q) false)), .own 0 tv 3, .inp 0 q] : Heap cod)⟩


theorem law_tr11b (L : List (List Int)) (L_t : Bool) (ms : Int) (K : List (List Int)) (kn : Nat) (tv : List Int) (tn : Nat) (n e m f : Int) (p : Nat) (q : List Int) : symF C_same cuts_law_r11b Try.f3.results.toList 1 400 (regAt Try.f3 11) (st_law_r11b L L_t ms K kn tv tn n e m f p q) =
 cond (decide (0 < Int.ofNat kn)) (
 .need (((0 : Int) ≤ 0 ∧ (0 : Int) < Int.ofNat kn)) (
 .need ((0 + Int.toNat 0 = p ∧ p < List.length K)) (
 cond (decide (5 < Int.ofNat (List.length q))) (
  .ret (.fin (.c (.bool true)) [])) (
  .ret (.cut (regAt Try.f3 13) ⟨tmG 126 [(0, .c (.slc 1 0 (kn) false)), (0, .c (.int .i64 ms)), (6, .c (.own 2 (tn))), (0, .c (.int .i64 n)), (0, .c (.int .i64 e)), (0, .c (.int .i64 m)), (0, .c (.int .i64 f))], [.nin 0 (L) none, .nin 0 (K) (some ((p), .junk)), .own 0 tv 3]⟩))))) (
 .ret (.cut (regAt Try.f3 13) ⟨tmG 126 [(0, .c (.slc 1 0 (kn) false)), (0, .c (.int .i64 ms)), (6, .c (.own 2 (tn))), (0, .c (.int .i64 n)), (0, .c (.int .i64 e)), (0, .c (.int .i64 m)), (0, .c (.int .i64 f))], [.nin 0 (L) none, .nin 0 (K) (some ((p), .junk)), .own 0 tv 3]⟩)) := by kernel_rfl


noncomputable def st_law_r13 (L : List (List Int)) (L_t : Bool) (ms : Int) (K : List (List Int)) (kn : Nat) (tv : List Int) (tn : Nat) (n e m f : Int) (p : Nat) (q : List Int) : St cod := ⟨tmG 126 [(0, .c (.slc 1 0 (kn) false)), (0, .c (.int .i64 ms)), (6, .c (.own 2 (tn))), (0, .c (.int .i64 n)), (0, .c (.int .i64 e)), (0, .c (.int .i64 m)), (0, .c (.int .i64 f))], [.nin 0 (L) none, .nin 0 (K) (some ((p), .junk)), .own 0 tv 3]⟩


noncomputable def st_law_r13b (L : List (List Int)) (L_t : Bool) (ms : Int) (K : List (List Int)) (kn : Nat) (tv : List Int) (tn : Nat) (n e m f : Int) : St cod := ⟨tmG 126 [(0, .c (.slc 1 0 (kn) false)), (0, .c (.int .i64 ms)), (6, .c (.own 2 (tn))), (0, .c (.int .i64 n)), (0, .c (.int .i64 e)), (0, .c (.int .i64 m)), (0, .c (.int .i64 f))], [.nin 0 (L) none, .nin 0 (K) none, .own 0 tv 3]⟩


theorem law_tr13b (L : List (List Int)) (L_t : Bool) (ms : Int) (K : List (List Int)) (kn : Nat) (tv : List Int) (tn : Nat) (n e m f : Int) : symF C_same cuts_law_r13b Try.f3.results.toList 1 400 (regAt Try.f3 13) (st_law_r13b L L_t ms K kn tv tn n e m f) =
.need (((0 = 0 ∧ kn = List.length K) ∧ (F.cE K ms = 0 ∧ (List.length K ≤ 5 ∧ List.length (List.getD K 0 []) ≤ 5)))) (
.ret (.cut (regAt Try.f3 14) ⟨tmG 124 [(8, .c (.own 2 (tn))), (0, .c (.int .i64 n)), (0, .c (.int .i64 e)), (0, .c (.int .i64 m)), (0, .c (.int .i64 f)), (1, .c (.own 3 (List.length (F.asd K ms))))], [.nin 0 (L) none, .nin 0 (K) none, .own 0 tv 3, .nown 0 (F.asd K ms) [] [] 23 3]⟩)) := by kernel_rfl


noncomputable def st_law_r14 (L : List (List Int)) (L_t : Bool) (ms : Int) (K : List (List Int)) (tv : List Int) (tn : Nat) (n e m f : Int) (A : List (List Int)) (gn : Nat) : St cod := ⟨tmG 124 [(8, .c (.own 2 tn)), (0, .c (.int .i64 n)), (0, .c (.int .i64 e)), (0, .c (.int .i64 m)), (0, .c (.int .i64 f)), (1, .c (.own 3 gn))], ([.nin 0 L none, .nin 0 K none, .own 0 tv 3, .nown 0 A [] [] 23 3] : Heap cod)⟩


noncomputable def st_law_r14b (L : List (List Int)) (L_t : Bool) (ms : Int) (K : List (List Int)) (tv : List Int) (tn : Nat) (n e m f : Int) (A : List (List Int)) (gn : Nat) (p : Nat) (b : List Int) : St cod := ⟨tmG 124 [(8, .c (.own 2 (tn))), (0, .c (.int .i64 n)), (0, .c (.int .i64 e)), (0, .c (.int .i64 m)), (0, .c (.int .i64 f)), (1, .c (.slc 3 0 gn false))], ([.nin 0 L none, .nin 0 K none, .own 0 tv 3, .nin 0 A (some (p, .slc 4 0 (List.length b) false)), .inp 0 b] : Heap cod)⟩


theorem law_tr14b (L : List (List Int)) (L_t : Bool) (ms : Int) (K : List (List Int)) (tv : List Int) (tn : Nat) (n e m f : Int) (A : List (List Int)) (gn : Nat) (p : Nat) (b : List Int) : symF C_same cuts_law_r14b Try.f3.results.toList 1 400 (regAt Try.f3 14) (st_law_r14b L L_t ms K tv tn n e m f A gn p b) =
.need (((0 : Int) ≤ 0 ∧ (0 : Int) < Int.ofNat gn)) (
.need ((0 + Int.toNat 0 = p ∧ p < List.length A)) (
.ret (.cut (cutAt Try.f3 16) ⟨tmG 38 [(8, .c (.own 2 (tn))), (0, .c (.int .i64 n)), (0, .c (.int .i64 e)), (0, .c (.int .i64 m)), (0, .c (.int .i64 f)), (2, .c (.slc 4 0 (List.length b) false)), (82, .c (.slc 3 0 (gn) false)), (0, .c (.int .i64 (Int.ofNat gn))), (0, .c (.int .i64 0))], [.nin 0 (L) none, .nin 0 (K) none, .own 0 tv 3, .nin 0 (A) (some ((p), .slc 4 0 (List.length b) false)), .inp 0 b]⟩))) := by kernel_rfl


noncomputable def st_law_16 (L : List (List Int)) (L_t : Bool) (ms : Int) (K : List (List Int)) (tv : List Int) (tn : Nat) (n e m f : Int) (A : List (List Int)) (gn : Nat) (b : List Int) (i : Nat) : St cod := ⟨tmG 38 [(8, .c (.own 2 tn)), (0, .c (.int .i64 n)), (0, .c (.int .i64 e)), (0, .c (.int .i64 m)), (0, .c (.int .i64 f)), (2, .c (.slc 4 0 (List.length b) false)), (82, .c (.slc 3 0 gn false)), (0, .c (.int .i64 (gn : Int))), (0, .c (.int .i64 (i : Int)))], ([.nin 0 L none, .nin 0 K none, .own 0 tv 3, .nin 0 A none, .inp 0 b] : Heap cod)⟩


theorem law_t16 (L : List (List Int)) (L_t : Bool) (ms : Int) (K : List (List Int)) (tv : List Int) (tn : Nat) (n e m f : Int) (A : List (List Int)) (gn : Nat) (b : List Int) (i : Nat) : symF C_same cuts_law Try.f3.results.toList 1 400 (cutAt Try.f3 16) (st_law_16 L L_t ms K tv tn n e m f A gn b i) =
 cond (decide (Int.ofNat i < Int.ofNat gn)) (
 .ret (.cut (regAt Try.f3 17) ⟨tmG 38 [(8, .c (.own 2 (tn))), (0, .c (.int .i64 n)), (0, .c (.int .i64 e)), (0, .c (.int .i64 m)), (0, .c (.int .i64 f)), (2, .c (.slc 4 0 (List.length b) false)), (82, .c (.slc 3 0 (gn) false)), (0, .c (.int .i64 (Int.ofNat gn))), (0, .c (.int .i64 (Int.ofNat i)))], [.nin 0 (L) none, .nin 0 (K) none, .own 0 tv 3, .nin 0 (A) none, .inp 0 b]⟩)) (
 cond (decide (e = 0)) (
  cond (decide (f = 0)) (
   .need (((0 : Int) ≤ 0 ∧ (0 : Int) < Int.ofNat (List.length b))) (
   .need ((0 + Int.toNat 0 : Nat) < List.length b) (
   cond (decide (n = List.getD b (0 + Int.toNat 0) (cod 0).d)) (
    .need (((0 : Int) ≤ 0 ∧ (0 : Int) < Int.ofNat (List.length b))) (
    .need ((0 + Int.toNat 0 : Nat) < List.length b) (
    cond (decide (m = List.getD b (0 + Int.toNat 0) (cod 0).d)) (
     .need (((0 : Int) ≤ 1 ∧ (1 : Int) ≤ Int.ofNat (List.length b))) (
     .need (((0 = 0 ∧ tn = List.length tv) ∧ (0 + Int.toNat 1 + (List.length b - Int.toNat 1) ≤ List.length b ∧ Int.ofNat (List.length tv) ≤ 1000000))) (
     .ret (.fin (.c (.bool (F.eqI tv (List.take (List.length b - Int.toNat 1) (List.drop (0 + Int.toNat 1) b))))) [])))) (
     .ret (.fin (.c (.bool false)) []))))) (
    .ret (.fin (.c (.bool false)) []))))) (
   .ret (.fin (.c (.bool false)) []))) (
  .ret (.fin (.c (.bool false)) []))) := by kernel_rfl


noncomputable def st_law_r17 (L : List (List Int)) (L_t : Bool) (ms : Int) (K : List (List Int)) (tv : List Int) (tn : Nat) (n e m f : Int) (A : List (List Int)) (gn : Nat) (b : List Int) (i : Nat) : St cod := ⟨tmG 38 [(8, .c (.own 2 (tn))), (0, .c (.int .i64 n)), (0, .c (.int .i64 e)), (0, .c (.int .i64 m)), (0, .c (.int .i64 f)), (2, .c (.slc 4 0 (List.length b) false)), (82, .c (.slc 3 0 (gn) false)), (0, .c (.int .i64 (Int.ofNat gn))), (0, .c (.int .i64 (Int.ofNat i)))], [.nin 0 (L) none, .nin 0 (K) none, .own 0 tv 3, .nin 0 (A) none, .inp 0 b]⟩


noncomputable def st_law_r17b (L : List (List Int)) (L_t : Bool) (ms : Int) (K : List (List Int)) (tv : List Int) (tn : Nat) (n e m f : Int) (A : List (List Int)) (gn : Nat) (b : List Int) (i p : Nat) (a : List Int) : St cod := ⟨tmG 38 [(8, .c (.own 2 (tn))), (0, .c (.int .i64 n)), (0, .c (.int .i64 e)), (0, .c (.int .i64 m)), (0, .c (.int .i64 f)), (2, .c (.slc 4 0 (List.length b) false)), (82, .c (.slc 3 0 (gn) false)), (0, .c (.int .i64 (Int.ofNat gn))), (0, .c (.int .i64 (Int.ofNat i)))], ([.nin 0 L none, .nin 0 K none, .own 0 tv 3, .nin 0 A (some (p, .slc 5 0 (List.length a) false)), .inp 0 b, .inp 0 a] : Heap cod)⟩


theorem law_tr17b (L : List (List Int)) (L_t : Bool) (ms : Int) (K : List (List Int)) (tv : List Int) (tn : Nat) (n e m f : Int) (A : List (List Int)) (gn : Nat) (b : List Int) (i p : Nat) (a : List Int) : symF C_same cuts_law_r17b Try.f3.results.toList 1 400 (regAt Try.f3 17) (st_law_r17b L L_t ms K tv tn n e m f A gn b i p a) =
.need (((0 : Int) ≤ Int.ofNat i ∧ Int.ofNat i < Int.ofNat gn)) (
.need ((0 + Int.toNat (Int.ofNat i) = p ∧ p < List.length A)) (
.need (((0 : Int) ≤ 0 ∧ (0 : Int) < Int.ofNat (List.length a))) (
.need ((0 + Int.toNat 0 : Nat) < List.length a) (
.need (((0 : Int) ≤ 0 ∧ (0 : Int) < Int.ofNat (List.length b))) (
.need ((0 + Int.toNat 0 : Nat) < List.length b) (
 cond (decide (List.getD a (0 + Int.toNat 0) (cod 0).d < List.getD b (0 + Int.toNat 0) (cod 0).d)) (
 .need (i64ok (Int.ofNat i + 1)) (
 .ret (.cut (cutAt Try.f3 16) ⟨tmG 38 [(8, .c (.own 2 (tn))), (0, .c (.int .i64 n)), (0, .c (.int .i64 e)), (0, .c (.int .i64 m)), (0, .c (.int .i64 f)), (2, .c (.slc 5 0 (List.length a) false)), (82, .c (.slc 3 0 (gn) false)), (0, .c (.int .i64 (Int.ofNat gn))), (0, .c (.int .i64 (Int.ofNat i + 1)))], [.nin 0 (L) none, .nin 0 (K) none, .own 0 tv 3, .nin 0 (A) (some ((p), .slc 5 0 (List.length a) false)), .inp 0 b, .inp 0 a]⟩))) (
 .need (i64ok (Int.ofNat i + 1)) (
 .ret (.cut (cutAt Try.f3 16) ⟨tmG 38 [(8, .c (.own 2 (tn))), (0, .c (.int .i64 n)), (0, .c (.int .i64 e)), (0, .c (.int .i64 m)), (0, .c (.int .i64 f)), (2, .c (.slc 4 0 (List.length b) false)), (82, .c (.slc 3 0 (gn) false)), (0, .c (.int .i64 (Int.ofNat gn))), (0, .c (.int .i64 (Int.ofNat i + 1)))], [.nin 0 (L) none, .nin 0 (K) none, .own 0 tv 3, .nin 0 (A) (some ((p), .slc 5 0 (List.length a) false)), .inp 0 b, .inp 0 a]⟩))))))))) := by kernel_rfl


theorem law_x1 (L : List (List Int)) (L_t : Bool) (ms : Int) : ((lexT C_same (QL1.toList.take 3) (st_law_r1 L L_t ms)).bind fun s => T.ret (Fin.cut (regAt Try.f3 1) s)) =
.ret (.cut (regAt Try.f3 1) ⟨tmG 117 [(0, .c (.slc 0 0 (List.length L) L_t)), (0, .c (.int .i64 ms)), (17, .c (.slc 1 0 2 true)), (0, .c (.slc 2 0 2 true)), (0, .c (.slc 3 0 2 true))], [.nin 0 (L) none, .arr 0 ([1, 2] : List Int) 3, .arr 0 ([1, 5] : List Int) 3, .blk [.slc 1 0 2 true, .slc 2 0 2 true] 23]⟩) := by kernel_rfl


theorem law_x2 (L : List (List Int)) (L_t : Bool) (ms : Int) : ((lexT C_same (QL1.toList.drop 3) (st_law_x1b L L_t ms)).bind fun s => symF C_same cuts_law Try.f3.results.toList 1 400 (regAt Try.f3 1).tail s) =
.need (((0 = 0 ∧ 2 = 2) ∧ (2 : Nat) ≤ 5)) (
.need (((0 = 0 ∧ 2 = 2) ∧ ((0 + 2 : Nat) ≤ 2 ∧ (Int.ofNat 2 : Int) ≤ 1000000))) (
.ret (.cut (regAt Try.f3 4) ⟨tmG 137 [(0, .c (.slc 0 0 (List.length L) L_t)), (0, .c (.int .i64 ms))], [.nin 0 (L) none]⟩))) := by kernel_rfl



namespace F
theorem allG_ok {ms : Int} (hm : 0 ≤ ms ∧ ms ≤ 1099511627776) : ∀ (rs O : List (List Int)) (i : Nat), (∀ r ∈ rs, ∀ k, r.getD k 0 ≤ 1099511627776) → okO i O → okO (i + rs.length) (allG ms rs O)
  | [], O, i, _, hO => hO
  | r :: rs, O, i, hr, hO => by
    have := allG_ok hm rs (O.flatMap (ext1 ms r)) (i + 1) (fun r' h => hr r' (List.mem_cons_of_mem _ h)) (flat_ok hm (hr r (List.mem_cons_self ..)) hO)
    rw [List.length_cons, show i + (rs.length + 1) = i + 1 + rs.length by omega]
    exact this
theorem allG_len {ms : Int} : ∀ (rs O : List (List Int)), (∀ r ∈ rs, r.length ≤ 5) → (allG ms rs O).length ≤ 6 ^ rs.length * O.length
  | [], O, _ => by simp [allG]
  | r :: rs, O, hr => by
    have h1 := allG_len (ms := ms) rs (O.flatMap (ext1 ms r)) (fun r' h => hr r' (List.mem_cons_of_mem _ h))
    have h2 := flat_len ms (hr r (List.mem_cons_self ..)) O
    have h3 := Nat.mul_le_mul_left (6 ^ rs.length) h2
    rw [List.length_cons, Nat.pow_succ, Nat.mul_assoc]
    exact Nat.le_trans h1 h3
end F
theorem law16 (L : List (List Int)) (L_t : Bool) (ms : Int) (K : List (List Int)) (tv : List Int) (n m : Int) (A : List (List Int)) (b0 : Base) (hb : b0.n = 1) (W : List Int) (hn : n = W.getD 0 0) (hm : m = W.getD 0 0) (ht : tv = W.drop 1) (htl : tv.length ≤ 1000) (hA : A.length ≤ 100000) (hR : ∀ a ∈ A, 0 < a.length) :
    ∀ (d i : Nat) (b : List Int), i + d = A.length → 0 < b.length → F.pickL b (A.drop i) = W → Sym.Runs Try.prog b0 (cutAt Try.f3 16) (st_law_16 L L_t ms K tv tv.length n 0 m 0 A A.length b i) (Sym.Ends Try.prog Try.f3 1 (.c (.bool true)) []) := by
  have d0 : (cod 0).d = (0 : Int) := rfl
  intro d
  induction d with
  | zero =>
    intro i b hi hb0 hW
    rw [List.drop_eq_nil_of_le (by omega)] at hW
    have hW : b = W := hW
    subst hW
    refine Runs.go (cfg := C_same) L_same_ok mixed cuts_law 400 hb (law_t16 L L_t ms K tv tv.length n 0 m 0 A A.length b i) ?_
    have e : F.eqI tv (List.take (List.length b - Int.toNat 1) (List.drop (0 + Int.toNat 1) b)) = true := by
      rw [tail_take, ht]
      exact decide_eq_true rfl
    rw [e]
    simp only [T.wp, T.wp_cond, Aft, Int.ofNat_eq_natCast, decide_eq_true_eq, and_true, true_and, Nat.zero_add, d0]
    refine ite_no (by omega) (ite_yes (by first | rfl | trivial) (ite_yes (by first | rfl | trivial) ⟨⟨by omega, by omega⟩, hb0, ite_yes hn ⟨⟨by omega, by omega⟩, hb0, ite_yes hm ⟨⟨by omega, by omega⟩, ?_⟩⟩⟩))
    have e1 : Int.toNat 1 = 1 := rfl
    exact ⟨by omega, by omega⟩
  | succ d ih =>
    intro i b hi hb0 hW
    have hil : i < A.length := by omega
    obtain ⟨a, hae⟩ : ∃ a, a = A.getD i [] := ⟨_, rfl⟩
    have ha0 := hR a (by rw [hae]; exact F.getD_mem hil)
    rw [dropc A [] i hil, ← hae] at hW
    have hW : F.pickL (if a.getD 0 0 < b.getD 0 0 then a else b) (A.drop (i + 1)) = W := hW
    refine Runs.go (cfg := C_same) L_same_ok mixed cuts_law 400 hb (law_t16 L L_t ms K tv tv.length n 0 m 0 A A.length b i) ?_
    simp only [T.wp, T.wp_cond, Aft, Int.ofNat_eq_natCast, decide_eq_true_eq, and_true, true_and, Nat.zero_add]
    refine ite_yes (by omega) ?_
    refine Runs.open 3 i rfl hil rfl ?_
    refine Runs.weaken (st' := st_law_r17b L L_t ms K tv tv.length n 0 m 0 A A.length b i i (A.getD i [])) (fun a w hR => hR) ?_
    rw [← hae]
    refine Runs.go (cfg := C_same) L_same_ok mixed cuts_law_r17b 400 hb (law_tr17b L L_t ms K tv tv.length n 0 m 0 A A.length b i i a) ?_
    simp only [T.wp, T.wp_cond, Aft, Int.ofNat_eq_natCast, decide_eq_true_eq, true_and, Nat.zero_add, Int.toNat_natCast, d0]
    refine ⟨⟨by omega, by omega⟩, hil, ⟨by omega, by omega⟩, ha0, ⟨by omega, by omega⟩, hb0, ?_⟩
    by_cases c : a.getD 0 0 < b.getD 0 0
    · rw [if_pos c] at hW
      have nx := ih (i + 1) a (by omega) ha0 hW
      refine ite_yes c ⟨by unfold i64ok; omega, ?_⟩
      exact Runs.close 3 rfl (Runs.turn [0, 1, 2, 3, 5] 9 hb (by decide) rfl rfl rfl nx)
    · rw [if_neg c] at hW
      have nx := ih (i + 1) b (by omega) hb0 hW
      refine ite_no c ⟨by unfold i64ok; omega, ?_⟩
      exact Runs.close 3 rfl (Runs.turn [0, 1, 2, 3, 4] 9 hb (by decide) rfl rfl rfl nx)
theorem law13 (L : List (List Int)) (L_t : Bool) (ms : Int) (K : List (List Int)) (b0 : Base) (hb : b0.n = 1) (hc : F.cE K ms = 0) (hK : K.length ≤ 5) (hw : (K.getD 0 []).length ≤ 5) :
    Sym.Runs Try.prog b0 (regAt Try.f3 13) (st_law_r13b L L_t ms K K.length (F.bst K ms) (F.bst K ms).length (F.tot K ms) 0 (F.tot K ms) 0) (Sym.Ends Try.prog Try.f3 1 (.c (.bool true)) []) := by
  obtain ⟨ok, hms⟩ := F.cE_ok hc
  have hqb : ∀ r ∈ K, ∀ k, r.getD k 0 ≤ 1099511627776 := fun r hr k => by
    rw [List.getD_eq_getElem?_getD]
    rcases Nat.lt_or_ge k r.length with c | c
    · rw [List.getElem?_eq_getElem c]
      exact ((ok r hr).2.2 _ (List.getElem_mem c)).2
    · rw [List.getElem?_eq_none c]
      decide
  obtain ⟨p1, p2⟩ := F.law_pick ms (K.getD 0 []).length K (fun r hr => (ok r hr).1)
  have et : F.tot K ms = F.lst ms K (List.replicate (K.getD 0 []).length false) := by unfold F.tot; rw [if_pos hc]
  have eb : F.bst K ms = F.gre ms K (List.replicate (K.getD 0 []).length false) (F.tot K ms) := by unfold F.bst; rw [if_pos hc]
  have ebl : (F.bst K ms).length = K.length := by rw [eb, gre_len]
  rw [← et, ← eb] at p2
  have hO := F.allG_ok hms K [[0]] 0 hqb (fun a ha => by rw [List.mem_singleton.1 ha]; exact ⟨rfl, by decide, by decide⟩)
  have hl := F.allG_len (ms := ms) K [[0]] (fun r hr => by rw [(ok r hr).1]; exact hw)
  have hp : 6 ^ K.length ≤ 7776 := Nat.pow_le_pow_right (by omega) (show K.length ≤ 5 from hK)
  refine Runs.go (cfg := C_same) L_same_ok mixed cuts_law_r13b 400 hb (law_tr13b L L_t ms K K.length (F.bst K ms) (F.bst K ms).length (F.tot K ms) 0 (F.tot K ms) 0) ?_
  have eA : F.asd K ms = F.allG ms K [[0]] := rfl
  rw [eA]
  generalize F.allG ms K [[0]] = A at *
  generalize F.tot K ms = n at *
  generalize F.bst K ms = tv at *
  have hA0 : 0 < A.length := List.length_pos_iff.2 p1
  have hR : ∀ a ∈ A, 0 < a.length := fun a ha => by have := (hO a ha).1; omega
  have hlen : A.length ≤ 7776 := by
    have : ([[0]] : List (List Int)).length = 1 := rfl
    rw [this] at hl
    omega
  obtain ⟨b, hbe⟩ : ∃ b, b = A.getD 0 [] := ⟨_, rfl⟩
  have B := law16 L L_t ms K tv n n A b0 hb (n :: tv) rfl rfl rfl (by omega) (by omega) hR A.length 0 b (by omega) (by rw [hbe]; exact hR _ (F.getD_mem hA0)) (by rw [hbe]; exact p2)
  simp only [T.wp, Aft, and_true, true_and]
  refine ⟨by first | exact ⟨hc, hK, hw⟩ | exact ⟨⟨rfl, rfl⟩, hc, hK, hw⟩ | exact ⟨rfl, hc, hK, hw⟩, ?_⟩
  refine Runs.seenN 3 (t := 0) (LL := A) (ty := 23) (tyr := 3) rfl rfl ?_
  refine Runs.soft 14 rfl ?_
  refine Runs.open 3 0 rfl hA0 rfl ?_
  refine Runs.weaken (st' := st_law_r14b L L_t ms K tv tv.length n 0 n 0 A A.length 0 (A.getD 0 [])) (fun a w hR => hR) ?_
  rw [← hbe]
  refine Runs.go (cfg := C_same) L_same_ok mixed cuts_law_r14b 400 hb (law_tr14b L L_t ms K tv tv.length n 0 n 0 A A.length 0 b) ?_
  simp only [T.wp, Aft, Int.ofNat_eq_natCast, Nat.zero_add]
  exact ⟨⟨by omega, by omega⟩, ⟨rfl, hA0⟩, Runs.close 3 rfl B⟩
theorem law6 (L : List (List Int)) (L_t : Bool) (ms : Int) (b0 : Base) (hb : b0.n = 1) (n : Nat) (tt : Bool) (hn : n ≤ L.length) (h5 : n ≤ 5) : Sym.Runs Try.prog b0 (regAt Try.f3 6) (st_law_r6 L L_t ms n tt) (Sym.Ends Try.prog Try.f3 1 (.c (.bool true)) []) := by
  refine Runs.trimN 0 0 n 0 rfl rfl hn rfl ?_
  refine Runs.weaken (st' := st_law_r6b L L_t ms (L.take n) n) (fun a w hR => hR) ?_
  have hl : n = (L.take n).length := by rw [List.length_take]; omega
  obtain ⟨K, hKe⟩ : ∃ K, K = L.take n := ⟨_, rfl⟩
  rw [← hKe] at hl ⊢
  clear hKe hn
  subst hl
  refine Runs.go (cfg := C_same) L_same_ok mixed cuts_law_r6b 400 hb (law_tr6b L L_t ms K K.length) ?_
  by_cases hc : F.cE K ms = 0
  · have A : Sym.Runs Try.prog b0 (regAt Try.f3 11) (st_law_r11 L L_t ms K K.length (F.bst K ms) (F.bst K ms).length (F.tot K ms) 0 (F.tot K ms) 0) (Sym.Ends Try.prog Try.f3 1 (.c (.bool true)) []) := by
      by_cases hk : K.length = 0
      · have B := law13 L L_t ms K b0 hb hc h5 (by
          have : K = [] := List.eq_nil_of_length_eq_zero hk
          rw [this]
          decide)
        refine Runs.go (cfg := C_same) L_same_ok mixed cuts_law_r11 400 hb (law_tr11 L L_t ms K K.length (F.bst K ms) (F.bst K ms).length (F.tot K ms) 0 (F.tot K ms) 0) ?_
        simp only [T.wp, T.wp_cond, Aft, Int.ofNat_eq_natCast, decide_eq_true_eq]
        exact ite_no (by omega) B
      · refine Runs.open 1 0 rfl (Nat.pos_of_ne_zero hk) rfl ?_
        refine Runs.weaken (st' := st_law_r11b L L_t ms K K.length (F.bst K ms) (F.bst K ms).length (F.tot K ms) 0 (F.tot K ms) 0 0 (K.getD 0 [])) (fun a w hR => hR) ?_
        refine Runs.go (cfg := C_same) L_same_ok mixed cuts_law_r11b 400 hb (law_tr11b L L_t ms K K.length (F.bst K ms) (F.bst K ms).length (F.tot K ms) 0 (F.tot K ms) 0 0 (K.getD 0 [])) ?_
        simp only [T.wp, T.wp_cond, Aft, Int.ofNat_eq_natCast, decide_eq_true_eq, and_true, Nat.zero_add]
        refine ite_yes (by omega) ⟨⟨by omega, by omega⟩, ⟨rfl, by omega⟩, ?_⟩
        by_cases hw : 5 < (K.getD 0 []).length
        · exact ite_yes (by omega) (by first | trivial | rfl)
        · exact ite_no (by omega) (Runs.close 1 rfl (law13 L L_t ms K b0 hb hc h5 (by omega)))
    rw [hc]
    simp only [T.wp, T.wp_cond, Aft, Int.ofNat_eq_natCast, decide_eq_true_eq, and_true, true_and, Bool.not_eq_true', decide_eq_false_iff_not]
    refine ⟨h5, h5, ite_no (by simp) A⟩
  · have et : F.tot K ms = 0 := by unfold F.tot; rw [if_neg hc]
    have eb : F.bst K ms = [] := by unfold F.bst; rw [if_neg hc]
    rw [et, eb]
    simp only [T.wp, T.wp_cond, Aft, Int.ofNat_eq_natCast, decide_eq_true_eq, and_true, true_and, Bool.not_eq_true', decide_eq_false_iff_not]
    refine ⟨h5, h5, ite_yes hc ?_⟩
    simp
theorem QL1_at : regAt Try.f3 1 = .code (.region (idI (regAt Try.f3 1)) QL1 false) :: (regAt Try.f3 1).tail := by kernel_rfl
noncomputable def OL22 : Oper := QL1.toList.getD 3 default
theorem QL1_d : QL1.toList.drop 3 = OL22 :: QL1.toList.drop 4 := by kernel_rfl
theorem QL1_split : QL1.toList = QL1.toList.take 3 ++ OL22 :: QL1.toList.drop 4 := by kernel_rfl
theorem QL1_free : (QL1.toList.all fun o => o.guard.isNone) = true := by kernel_rfl
def st_law_x1a (L : List (List Int)) (L_t : Bool) (ms : Int) : St cod := ⟨tmG 117 [(0, .c (.slc 0 0 (List.length L) L_t)), (0, .c (.int .i64 ms)), (17, .c (.slc 1 0 2 true)), (0, .c (.slc 2 0 2 true)), (0, .c (.slc 3 0 2 true))], [.nin 0 (L) none, .arr 0 ([1, 2] : List Int) 3, .arr 0 ([1, 5] : List Int) 3, .blk [.slc 1 0 2 true, .slc 2 0 2 true] 23]⟩
theorem law_x1' (L : List (List Int)) (L_t : Bool) (ms : Int) : lexT C_same (QL1.toList.take 3) (st_law_r1 L L_t ms) = .ret (st_law_x1a L L_t ms) := by kernel_rfl
def st_law_x1c (L : List (List Int)) (L_t : Bool) (ms : Int) : St cod := (st_law_x1a L L_t ms).blkW 21 3 0 [.slc 1 0 2 true, .slc 2 0 2 true] 23 3
theorem law_x1_rel (L : List (List Int)) (L_t : Bool) (ms : Int) {b0 : Base} (hb : b0.n = 1) (a : Act) (w : World) (hR : Rel (st_law_x1a L L_t ms) b0 a w) : Rel (st_law_x1b L L_t ms) b0 a w := by
  have h1 : Rel (st_law_x1c L L_t ms) b0 a w := blkW_rel 21 3 0 (cs := [.slc 1 0 2 true, .slc 2 0 2 true]) 23 3 rfl rfl (by decide) (by decide) hR
  have h2 := closeW_rel (h := 4) (j := 0) (t := 0) (r := 1) (LL := [[], []]) (js := [1]) (c := .slc 1 0 2 true) (cs := [.slc 2 0 2 true]) (ty := 23) (tyr := 3) (l := ([1, 2] : List Int)) rfl (by decide) (by decide) rfl (by omega) (by omega) h1
  have h3 := closeW_rel (h := 4) (j := 1) (t := 0) (r := 2) (LL := ([[1, 2], []] : List (List Int))) (js := []) (c := .slc 2 0 2 true) (cs := []) (ty := 23) (tyr := 3) (l := ([1, 5] : List Int)) rfl (by decide) List.not_mem_nil rfl (by omega) (by omega) h2
  have h4 := seenN_rel 4 (t := 0) (LL := ([[1, 2], [1, 5]] : List (List Int))) (ty := 23) (tyr := 3) rfl (by decide) h3
  have h5 := soft_rel 21 h4
  have h6 : Rel ((((((st_law_x1c L L_t ms).closeW 4).closeW 4).seenN 4).soft 21).pick [0, 4]) b0 a w := by
    refine pick_rel [0, 4] (by decide) (fun h hh => ?_) (fun i hi => ?_) h5
    · rcases List.mem_cons.1 hh with rfl | hh
      · exact (by decide : 0 < 5)
      · rw [List.mem_singleton.1 hh]
        exact (by decide : 4 < 5)
    · have e : i = 0 := by omega
      rw [e]
      rfl
  have h7 := fit_rel [0, 1, 21] 2 (by omega) h6
  have e : (((((((st_law_x1c L L_t ms).closeW 4).closeW 4).seenN 4).soft 21).pick [0, 4]).fit [0, 1, 21] 2) = st_law_x1b L L_t ms := by kernel_rfl
  rw [← e]
  exact h7
theorem law_run (L : List (List Int)) (L_t : Bool) (ms : Int) (b0 : Base) (hb : b0.n = 1)  : Sym.Runs Try.prog b0 [.code (codeOf Try.f3)] ⟨argsS Try.f3 [.c (.slc 0 0 (List.length L) L_t), .c (.int .i64 ms)], ([.nin 0 L none] : Heap cod)⟩ (Sym.Ends Try.prog Try.f3 1 (.c (.bool true)) []) := by
  refine Runs.go (cfg := C_same) L_same_ok mixed cuts_law 400 hb (law_t0 L L_t ms) ?_
  refine Runs.midG (cfg := C_same) L_same_ok mixed cuts_law 400 hb QL1_at QL1_split QL1_free (law_x1' L L_t ms) (t := fun s' => (lexT C_same (QL1.toList.drop 3) s').bind fun s => symF C_same cuts_law Try.f3.results.toList 1 400 (regAt Try.f3 1).tail s) (fun s' => by rw [QL1_d]) ?_
  refine ⟨st_law_x1b L L_t ms, law_x1_rel L L_t ms hb, ?_⟩
  rw [law_x2]
  refine ⟨by decide, by decide, ?_⟩
  refine Runs.weaken (st' := st_law_r4 L L_t ms) (fun a w hR => hR) ?_
  refine Runs.go (cfg := C_same) L_same_ok mixed cuts_law_r4 400 hb (law_tr4 L L_t ms) ?_
  simp only [T.wp, T.wp_cond, Aft, Int.ofNat_eq_natCast, decide_eq_true_eq]
  by_cases c : 5 < L.length
  · exact ite_yes (by omega) ⟨⟨by omega, by omega⟩, law6 L L_t ms b0 hb 5 false (by omega) (by omega)⟩
  · exact ite_no (by omega) (law6 L L_t ms b0 hb L.length L_t (by omega) (by omega))



noncomputable def s_law : Summ cod := fun args H => match args, H with
  | [.c (.slc 0 L_i L_n L_t), .c (.int .i64 ms)], [o0] => (match o0.asNin 0 with | some L => .need ((L_i = 0 ∧ L_n = List.length L)) (.ret (.c (.bool true), [])) | none => .fail)
  | _, _ => .fail


theorem law_sound : Sound Try.prog cod 3 s_law := sound_runs (cfg := C_same) L_same_ok mixed Try.func3 rfl rfl _ fun args H r news hg b0 hb => by
  unfold s_law at hg
  split at hg
  · skip
    split at hg
    · rename_i L hx0
      cases asNin_spec hx0
      simp only [T.gives, T.wp, Prod.mk.injEq] at hg
      obtain ⟨⟨rfl, rfl⟩, rfl, rfl⟩ := hg
      exact law_run _ _ _ b0 hb 
    · exact hg.elim
  · exact hg.elim

noncomputable def L_law : Sums cod := (3, .p s_law) :: L_same
noncomputable def C_law : Cfg cod := mkC L_law

theorem L_law_ok : Snd Try.prog cod L_law := .cons law_sound L_same_ok


end
end Go.Proofs.Ytjffboggpofbfaa
