/- Part of a claim: lemmas on the way to its theorem; each states its own conditions. -/
import Derived.Test.YtffcfbamcaoidaaGj
namespace Go.Proofs.Ytffcfbamcaoidaa
open Sym Go.RowKit
noncomputable section
set_option maxRecDepth 100000
set_option maxHeartbeats 4000000

namespace F
def eqI (a b : List Int) : Bool := decide (a = b)
end F


def cuts_same : Cuts := [(4, [1, 0, 12, 13], 2)]

theorem same_t0 (a : List Int) (a_t : Bool) (b : List Int) (b_t : Bool) : symF C_atimes cuts_same Try.f27.results.toList 2 400 [.code (codeOf Try.f27)] ⟨argsS Try.f27 [.c (.slc 0 0 (List.length a) a_t), .c (.slc 1 0 (List.length b) b_t)], ([.inp 0 a, .inp 0 b] : Heap cod)⟩ =
 cond (!decide (Int.ofNat (List.length a) = Int.ofNat (List.length b))) (
 .ret (.fin (.c (.bool false)) [])) (
 .ret (.cut (cutAt Try.f27 4) ⟨tmG 12 [(0, .c (.slc 0 0 (List.length a) a_t)), (0, .c (.slc 1 0 (List.length b) b_t)), (10, .c (.int .i64 (Int.ofNat (List.length a)))), (0, .c (.int .i64 0))], [.inp 0 a, .inp 0 b]⟩)) := by kernel_rfl


noncomputable def st_same_4 (a : List Int) (a_t : Bool) (b : List Int) (b_t : Bool) (i : Int) : St cod := ⟨tmG 12 [(0, .c (.slc 0 0 (List.length a) a_t)), (0, .c (.slc 1 0 (List.length b) b_t)), (10, .c (.int .i64 (Int.ofNat (List.length a)))), (0, .c (.int .i64 i))], [.inp 0 a, .inp 0 b]⟩


theorem same_t4 (a : List Int) (a_t : Bool) (b : List Int) (b_t : Bool) (i : Int) : symF C_atimes cuts_same Try.f27.results.toList 2 400 (cutAt Try.f27 4) (st_same_4 a a_t b b_t i) =
 cond (decide (i < Int.ofNat (List.length a))) (
 .need (((0 : Int) ≤ i ∧ i < Int.ofNat (List.length a))) (
 .need (0 + Int.toNat i < List.length a) (
 .need (((0 : Int) ≤ i ∧ i < Int.ofNat (List.length b))) (
 .need (0 + Int.toNat i < List.length b) (
 cond (!decide (List.getD a (0 + Int.toNat i) (cod 0).d = List.getD b (0 + Int.toNat i) (cod 0).d)) (
  .ret (.fin (.c (.bool false)) [])) (
  .need (i64ok (i + 1)) (
  .ret (.cut (cutAt Try.f27 4) ⟨tmG 12 [(0, .c (.slc 0 0 (List.length a) a_t)), (0, .c (.slc 1 0 (List.length b) b_t)), (10, .c (.int .i64 (Int.ofNat (List.length a)))), (0, .c (.int .i64 (i + 1)))], [.inp 0 a, .inp 0 b]⟩)))))))) (
 .ret (.fin (.c (.bool true)) [])) := by kernel_rfl



theorem same_loop (a : List Int) (a_t : Bool) (b : List Int) (b_t : Bool) (hl : a.length = b.length) (b0 : Base) (hb : b0.n = 2) (u : Bool) (hm : (a.length : Int) ≤ 1000000) : ∀ (m k : Nat), k + m = a.length → u = decide (a.drop k = b.drop k) →
    Sym.Runs Try.prog b0 (cutAt Try.f27 4) (st_same_4 a a_t b b_t k) (Sym.Ends Try.prog Try.f27 2 (.c (.bool u)) []) := by
  have hd0 : (cod 0).d = (0 : Int) := rfl
  intro m
  induction m with
  | zero =>
    intro k hk hu
    refine Runs.go (cfg := C_atimes) L_atimes_ok mixed cuts_same 400 hb (same_t4 a a_t b b_t k) ?_
    rw [List.drop_of_length_le (by omega), List.drop_of_length_le (by omega)] at hu
    have h1 : ¬ (k : Int) < a.length := by omega
    simp only [T.wp, T.wp_cond, Aft, Int.ofNat_eq_natCast, decide_eq_true_eq, and_true, true_and, Nat.zero_add, Bool.not_eq_true', decide_eq_false_iff_not, h1, if_false, hu, decide_true]
  | succ m ih =>
    intro k hk hu
    refine Runs.go (cfg := C_atimes) L_atimes_ok mixed cuts_same 400 hb (same_t4 a a_t b b_t k) ?_
    have h1 : (k : Int) < a.length := by omega
    have e1 : a.drop k = a.getD k 0 :: a.drop (k + 1) := by rw [List.drop_eq_getElem_cons (by omega)]; simp [List.getD, show k < a.length by omega]
    have e2 : b.drop k = b.getD k 0 :: b.drop (k + 1) := by rw [List.drop_eq_getElem_cons (by omega)]; simp [List.getD, show k < b.length by omega]
    rw [e1, e2] at hu
    have nx := ih (k + 1) (by omega)
    simp only [T.wp, T.wp_cond, Aft, Int.ofNat_eq_natCast, decide_eq_true_eq, and_true, true_and, Nat.zero_add, Bool.not_eq_true', decide_eq_false_iff_not, h1, if_true, hd0, Int.toNat_natCast]
    (repeat (refine ⟨(by first | omega | (unfold i64ok; omega)), ?_⟩))
    by_cases h2 : a.getD k 0 = b.getD k 0
    · simp only [h2, List.cons.injEq, true_and] at hu
      simp only [h2, not_true_eq_false, if_false]
      exact ⟨by unfold i64ok; omega, nx hu⟩
    · simp only [h2, List.cons.injEq, false_and, decide_false] at hu
      simp only [h2, not_false_eq_true, if_true, hu]
theorem same_run (a : List Int) (a_t : Bool) (b : List Int) (b_t : Bool) (b0 : Base) (hb : b0.n = 2) (h0 : ((List.length a : Int) ≤ 1000000)) : Sym.Runs Try.prog b0 [.code (codeOf Try.f27)] ⟨argsS Try.f27 [.c (.slc 0 0 (List.length a) a_t), .c (.slc 1 0 (List.length b) b_t)], ([.inp 0 a, .inp 0 b] : Heap cod)⟩ (Sym.Ends Try.prog Try.f27 2 (.c (.bool (F.eqI a b))) []) := by
  refine Runs.go (cfg := C_atimes) L_atimes_ok mixed cuts_same 400 hb (same_t0 a a_t b b_t) ?_
  by_cases h : a.length = b.length
  · have := same_loop a a_t b b_t h b0 hb _ h0 a.length 0 (by omega) rfl
    simp only [T.wp, T.wp_cond, Aft, Int.ofNat_eq_natCast, decide_eq_true_eq, and_true, true_and, Nat.zero_add, Bool.not_eq_true', decide_eq_false_iff_not]
    rw [if_neg (by omega)]
    exact this
  · have h1 : ¬ (a.length : Int) = b.length := by omega
    have h2 : F.eqI a b = false := by
      unfold F.eqI
      exact decide_eq_false fun e => h (by rw [e])
    simp only [T.wp, T.wp_cond, Aft, Int.ofNat_eq_natCast, decide_eq_true_eq, and_true, true_and, Nat.zero_add, Bool.not_eq_true', decide_eq_false_iff_not, h1, not_false_eq_true, if_true, h2]



noncomputable def s_same : Summ cod := fun args H => match args, H with
  | [.c (.slc 0 a_i a_n a_t), .c (.slc 1 b_i b_n b_t)], [o0, o1] => (match o0.asInp 0 with | some a => (match o1.asInp 0 with | some b => .need ((a_i = 0 ∧ a_n = List.length a) ∧ (b_i = 0 ∧ b_n = List.length b) ∧ (((List.length a : Int) ≤ 1000000))) (.ret (.c (.bool (F.eqI a b)), [])) | none => .fail) | none => .fail)
  | _, _ => .fail


theorem same_sound : Sound Try.prog cod 27 s_same := sound_runs (cfg := C_atimes) L_atimes_ok mixed Try.func27 rfl rfl _ fun args H r news hg b0 hb => by
  unfold s_same at hg
  split at hg
  · skip
    split at hg
    · rename_i a hx0
      cases asInp_spec hx0
      split at hg
      · rename_i b hx1
        cases asInp_spec hx1
        simp only [T.gives, T.wp, Prod.mk.injEq] at hg
        obtain ⟨⟨⟨rfl, rfl⟩, ⟨rfl, rfl⟩, q2⟩, rfl, rfl⟩ := hg
        exact same_run _ _ _ _ b0 hb (by assumption)
      · exact hg.elim
    · exact hg.elim
  · exact hg.elim

noncomputable def L_same : Sums cod := (27, .p s_same) :: L_atimes
noncomputable def C_same : Cfg cod := mkC L_same

theorem L_same_ok : Snd Try.prog cod L_same := .cons same_sound L_atimes_ok



def cuts_equal : Cuts := [(4, [1, 0, 12, 13], 2)]

theorem equal_t0 (a : List Int) (a_t : Bool) (b : List Int) (b_t : Bool) : symF C_same cuts_equal Try.f31.results.toList 2 400 [.code (codeOf Try.f31)] ⟨argsS Try.f31 [.c (.slc 0 0 (List.length a) a_t), .c (.slc 1 0 (List.length b) b_t)], ([.inp 0 a, .inp 0 b] : Heap cod)⟩ =
 cond (!decide (Int.ofNat (List.length a) = Int.ofNat (List.length b))) (
 .ret (.fin (.c (.bool false)) [])) (
 .ret (.cut (cutAt Try.f31 4) ⟨tmG 12 [(0, .c (.slc 0 0 (List.length a) a_t)), (0, .c (.slc 1 0 (List.length b) b_t)), (10, .c (.int .i64 (Int.ofNat (List.length a)))), (0, .c (.int .i64 0))], [.inp 0 a, .inp 0 b]⟩)) := by kernel_rfl


noncomputable def st_equal_4 (a : List Int) (a_t : Bool) (b : List Int) (b_t : Bool) (i : Int) : St cod := ⟨tmG 12 [(0, .c (.slc 0 0 (List.length a) a_t)), (0, .c (.slc 1 0 (List.length b) b_t)), (10, .c (.int .i64 (Int.ofNat (List.length a)))), (0, .c (.int .i64 i))], [.inp 0 a, .inp 0 b]⟩


theorem equal_t4 (a : List Int) (a_t : Bool) (b : List Int) (b_t : Bool) (i : Int) : symF C_same cuts_equal Try.f31.results.toList 2 400 (cutAt Try.f31 4) (st_equal_4 a a_t b b_t i) =
 cond (decide (i < Int.ofNat (List.length a))) (
 .need (((0 : Int) ≤ i ∧ i < Int.ofNat (List.length a))) (
 .need (0 + Int.toNat i < List.length a) (
 .need (((0 : Int) ≤ i ∧ i < Int.ofNat (List.length b))) (
 .need (0 + Int.toNat i < List.length b) (
 cond (!decide (List.getD a (0 + Int.toNat i) (cod 0).d = List.getD b (0 + Int.toNat i) (cod 0).d)) (
  .ret (.fin (.c (.bool false)) [])) (
  .need (i64ok (i + 1)) (
  .ret (.cut (cutAt Try.f31 4) ⟨tmG 12 [(0, .c (.slc 0 0 (List.length a) a_t)), (0, .c (.slc 1 0 (List.length b) b_t)), (10, .c (.int .i64 (Int.ofNat (List.length a)))), (0, .c (.int .i64 (i + 1)))], [.inp 0 a, .inp 0 b]⟩)))))))) (
 .ret (.fin (.c (.bool true)) [])) := by kernel_rfl



theorem equal_loop (a : List Int) (a_t : Bool) (b : List Int) (b_t : Bool) (hl : a.length = b.length) (b0 : Base) (hb : b0.n = 2) (u : Bool) (hm : (a.length : Int) ≤ 1000000) : ∀ (m k : Nat), k + m = a.length → u = decide (a.drop k = b.drop k) →
    Sym.Runs Try.prog b0 (cutAt Try.f31 4) (st_equal_4 a a_t b b_t k) (Sym.Ends Try.prog Try.f31 2 (.c (.bool u)) []) := by
  have hd0 : (cod 0).d = (0 : Int) := rfl
  intro m
  induction m with
  | zero =>
    intro k hk hu
    refine Runs.go (cfg := C_same) L_same_ok mixed cuts_equal 400 hb (equal_t4 a a_t b b_t k) ?_
    rw [List.drop_of_length_le (by omega), List.drop_of_length_le (by omega)] at hu
    have h1 : ¬ (k : Int) < a.length := by omega
    simp only [T.wp, T.wp_cond, Aft, Int.ofNat_eq_natCast, decide_eq_true_eq, and_true, true_and, Nat.zero_add, Bool.not_eq_true', decide_eq_false_iff_not, h1, if_false, hu, decide_true]
  | succ m ih =>
    intro k hk hu
    refine Runs.go (cfg := C_same) L_same_ok mixed cuts_equal 400 hb (equal_t4 a a_t b b_t k) ?_
    have h1 : (k : Int) < a.length := by omega
    have e1 : a.drop k = a.getD k 0 :: a.drop (k + 1) := by rw [List.drop_eq_getElem_cons (by omega)]; simp [List.getD, show k < a.length by omega]
    have e2 : b.drop k = b.getD k 0 :: b.drop (k + 1) := by rw [List.drop_eq_getElem_cons (by omega)]; simp [List.getD, show k < b.length by omega]
    rw [e1, e2] at hu
    have nx := ih (k + 1) (by omega)
    simp only [T.wp, T.wp_cond, Aft, Int.ofNat_eq_natCast, decide_eq_true_eq, and_true, true_and, Nat.zero_add, Bool.not_eq_true', decide_eq_false_iff_not, h1, if_true, hd0, Int.toNat_natCast]
    (repeat (refine ⟨(by first | omega | (unfold i64ok; omega)), ?_⟩))
    by_cases h2 : a.getD k 0 = b.getD k 0
    · simp only [h2, List.cons.injEq, true_and] at hu
      simp only [h2, not_true_eq_false, if_false]
      exact ⟨by unfold i64ok; omega, nx hu⟩
    · simp only [h2, List.cons.injEq, false_and, decide_false] at hu
      simp only [h2, not_false_eq_true, if_true, hu]
theorem equal_run (a : List Int) (a_t : Bool) (b : List Int) (b_t : Bool) (b0 : Base) (hb : b0.n = 2) (h0 : ((List.length a : Int) ≤ 1000000)) : Sym.Runs Try.prog b0 [.code (codeOf Try.f31)] ⟨argsS Try.f31 [.c (.slc 0 0 (List.length a) a_t), .c (.slc 1 0 (List.length b) b_t)], ([.inp 0 a, .inp 0 b] : Heap cod)⟩ (Sym.Ends Try.prog Try.f31 2 (.c (.bool (F.eqI a b))) []) := by
  refine Runs.go (cfg := C_same) L_same_ok mixed cuts_equal 400 hb (equal_t0 a a_t b b_t) ?_
  by_cases h : a.length = b.length
  · have := equal_loop a a_t b b_t h b0 hb _ h0 a.length 0 (by omega) rfl
    simp only [T.wp, T.wp_cond, Aft, Int.ofNat_eq_natCast, decide_eq_true_eq, and_true, true_and, Nat.zero_add, Bool.not_eq_true', decide_eq_false_iff_not]
    rw [if_neg (by omega)]
    exact this
  · have h1 : ¬ (a.length : Int) = b.length := by omega
    have h2 : F.eqI a b = false := by
      unfold F.eqI
      exact decide_eq_false fun e => h (by rw [e])
    simp only [T.wp, T.wp_cond, Aft, Int.ofNat_eq_natCast, decide_eq_true_eq, and_true, true_and, Nat.zero_add, Bool.not_eq_true', decide_eq_false_iff_not, h1, not_false_eq_true, if_true, h2]



noncomputable def s_equal : Summ cod := fun args H => match args, H with
  | [.c (.slc 0 a_i a_n a_t), .c (.slc 1 b_i b_n b_t)], [o0, o1] => (match o0.asInp 0 with | some a => (match o1.asInp 0 with | some b => .need ((a_i = 0 ∧ a_n = List.length a) ∧ (b_i = 0 ∧ b_n = List.length b) ∧ (((List.length a : Int) ≤ 1000000))) (.ret (.c (.bool (F.eqI a b)), [])) | none => .fail) | none => .fail)
  | _, _ => .fail


theorem equal_sound : Sound Try.prog cod 31 s_equal := sound_runs (cfg := C_same) L_same_ok mixed Try.func31 rfl rfl _ fun args H r news hg b0 hb => by
  unfold s_equal at hg
  split at hg
  · skip
    split at hg
    · rename_i a hx0
      cases asInp_spec hx0
      split at hg
      · rename_i b hx1
        cases asInp_spec hx1
        simp only [T.gives, T.wp, Prod.mk.injEq] at hg
        obtain ⟨⟨⟨rfl, rfl⟩, ⟨rfl, rfl⟩, q2⟩, rfl, rfl⟩ := hg
        exact equal_run _ _ _ _ b0 hb (by assumption)
      · exact hg.elim
    · exact hg.elim
  · exact hg.elim

noncomputable def L_equal : Sums cod := (31, .p s_equal) :: L_same
noncomputable def C_equal : Cfg cod := mkC L_equal

theorem L_equal_ok : Snd Try.prog cod L_equal := .cons equal_sound L_same_ok


end
end Go.Proofs.Ytffcfbamcaoidaa
