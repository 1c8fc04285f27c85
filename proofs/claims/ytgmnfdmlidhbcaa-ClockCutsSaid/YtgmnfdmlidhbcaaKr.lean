/- Part of a claim: lemmas on the way to its theorem; each states its own conditions. -/
import Derived.Test.YtgmnfdmlidhbcaaKq
namespace Go.Proofs.Ytgmnfdmlidhbcaa
open Sym Go.RowKit
noncomputable section
set_option maxRecDepth 100000
set_option maxHeartbeats 4000000



namespace F
def eqI (a b : List Int) : Bool := decide (a = b)
end F


def cuts_equal : Cuts := [(4, [1, 0, 12, 13], 2)]

theorem equal_t0 (a : List Int) (a_t : Bool) (b : List Int) (b_t : Bool) : symF C_rlam cuts_equal Try.f14.results.toList 2 400 [.code (codeOf Try.f14)] ⟨argsS Try.f14 [.c (.slc 0 0 (List.length a) a_t), .c (.slc 1 0 (List.length b) b_t)], ([.inp 0 a, .inp 0 b] : Heap cod)⟩ =
 cond (!decide (Int.ofNat (List.length a) = Int.ofNat (List.length b))) (
 .ret (.fin (.c (.bool false)) [])) (
 .ret (.cut (cutAt Try.f14 4) ⟨tmG 12 [(0, .c (.slc 0 0 (List.length a) a_t)), (0, .c (.slc 1 0 (List.length b) b_t)), (10, .c (.int .i64 (Int.ofNat (List.length a)))), (0, .c (.int .i64 0))], [.inp 0 a, .inp 0 b]⟩)) := by kernel_rfl


noncomputable def st_equal_4 (a : List Int) (a_t : Bool) (b : List Int) (b_t : Bool) (i : Int) : St cod := ⟨tmG 12 [(0, .c (.slc 0 0 (List.length a) a_t)), (0, .c (.slc 1 0 (List.length b) b_t)), (10, .c (.int .i64 (Int.ofNat (List.length a)))), (0, .c (.int .i64 i))], [.inp 0 a, .inp 0 b]⟩


theorem equal_t4 (a : List Int) (a_t : Bool) (b : List Int) (b_t : Bool) (i : Int) : symF C_rlam cuts_equal Try.f14.results.toList 2 400 (cutAt Try.f14 4) (st_equal_4 a a_t b b_t i) =
 cond (decide (i < Int.ofNat (List.length a))) (
 .need (((0 : Int) ≤ i ∧ i < Int.ofNat (List.length a))) (
 .need (0 + Int.toNat i < List.length a) (
 .need (((0 : Int) ≤ i ∧ i < Int.ofNat (List.length b))) (
 .need (0 + Int.toNat i < List.length b) (
 cond (!decide (List.getD a (0 + Int.toNat i) (cod 0).d = List.getD b (0 + Int.toNat i) (cod 0).d)) (
  .ret (.fin (.c (.bool false)) [])) (
  .need (i64ok (i + 1)) (
  .ret (.cut (cutAt Try.f14 4) ⟨tmG 12 [(0, .c (.slc 0 0 (List.length a) a_t)), (0, .c (.slc 1 0 (List.length b) b_t)), (10, .c (.int .i64 (Int.ofNat (List.length a)))), (0, .c (.int .i64 (i + 1)))], [.inp 0 a, .inp 0 b]⟩)))))))) (
 .ret (.fin (.c (.bool true)) [])) := by kernel_rfl



theorem equal_loop (a : List Int) (a_t : Bool) (b : List Int) (b_t : Bool) (hl : a.length = b.length) (b0 : Base) (hb : b0.n = 2) (u : Bool) (hm : (a.length : Int) ≤ 1000000) : ∀ (m k : Nat), k + m = a.length → u = decide (a.drop k = b.drop k) →
    Sym.Runs Try.prog b0 (cutAt Try.f14 4) (st_equal_4 a a_t b b_t k) (Sym.Ends Try.prog Try.f14 2 (.c (.bool u)) []) := by
  have hd0 : (cod 0).d = (0 : Int) := rfl
  intro m
  induction m with
  | zero =>
    intro k hk hu
    refine Runs.go (cfg := C_rlam) L_rlam_ok mixed cuts_equal 400 hb (equal_t4 a a_t b b_t k) ?_
    rw [List.drop_of_length_le (by omega), List.drop_of_length_le (by omega)] at hu
    have h1 : ¬ (k : Int) < a.length := by omega
    simp only [T.wp, T.wp_cond, Aft, Int.ofNat_eq_natCast, decide_eq_true_eq, and_true, true_and, Nat.zero_add, Bool.not_eq_true', decide_eq_false_iff_not, h1, if_false, hu, decide_true]
  | succ m ih =>
    intro k hk hu
    refine Runs.go (cfg := C_rlam) L_rlam_ok mixed cuts_equal 400 hb (equal_t4 a a_t b b_t k) ?_
    have h1 : (k : Int) < a.length := by omega
    have e1 : a.drop k = a.getD k 0 :: a.drop (k + 1) := by rw [List.drop_eq_getElem_cons (by omega)]; simp [List.getD, show k < a.length by omega]
    have e2 : b.drop k = b.getD k 0 :: b.drop (k + 1) := by rw [List.drop_eq_getElem_cons (by omega)]; simp [List.getD, show k < b.length by omega]
    rw [e1, e2] at hu
    have nx := ih (k + 1) (by omega)
    simp only [T.wp, T.wp_cond, Aft, Int.ofNat_eq_natCast, decide_eq_true_eq, and_true, true_and, Nat.zero_add, Bool.not_eq_true', decide_eq_false_iff_not, h1, if_true, hd0, Int.toNat_natCast]
    (repeat (refine ⟨(by first | omega | (unfold i64ok; omega)), ?_⟩))
    by_cases h2 : a.getD k 0 = b.getD k 0
    · simp only [h2, List.cons.injEq, true_and] at hu
      simp only [h2, not_true_eq_false, if_false]
      exact ⟨by unfold i64ok; omega, nx hu⟩
    · simp only [h2, List.cons.injEq, false_and, decide_false] at hu
      simp only [h2, not_false_eq_true, if_true, hu]
theorem equal_run (a : List Int) (a_t : Bool) (b : List Int) (b_t : Bool) (b0 : Base) (hb : b0.n = 2) (h0 : ((List.length a : Int) ≤ 1000000)) : Sym.Runs Try.prog b0 [.code (codeOf Try.f14)] ⟨argsS Try.f14 [.c (.slc 0 0 (List.length a) a_t), .c (.slc 1 0 (List.length b) b_t)], ([.inp 0 a, .inp 0 b] : Heap cod)⟩ (Sym.Ends Try.prog Try.f14 2 (.c (.bool (F.eqI a b))) []) := by
  refine Runs.go (cfg := C_rlam) L_rlam_ok mixed cuts_equal 400 hb (equal_t0 a a_t b b_t) ?_
  by_cases h : a.length = b.length
  · have := equal_loop a a_t b b_t h b0 hb _ h0 a.length 0 (by omega) rfl
    simp only [T.wp, T.wp_cond, Aft, Int.ofNat_eq_natCast, decide_eq_true_eq, and_true, true_and, Nat.zero_add, Bool.not_eq_true', decide_eq_false_iff_not]
    rw [if_neg (by omega)]
    exact this
  · have h1 : ¬ (a.length : Int) = b.length := by omega
    have h2 : F.eqI a b = false := by
      unfold F.eqI
      exact decide_eq_false fun e => h (by rw [e])
    simp only [T.wp, T.wp_cond, Aft, Int.ofNat_eq_natCast, decide_eq_true_eq, and_true, true_and, Nat.zero_add, Bool.not_eq_true', decide_eq_false_iff_not, h1, not_false_eq_true, if_true, h2]



noncomputable def s_equal : Summ cod := fun args H => match args, H with
  | [.c (.slc 0 a_i a_n a_t), .c (.slc 1 b_i b_n b_t)], [o0, o1] => (match o0.asInp 0 with | some a => (match o1.asInp 0 with | some b => .need ((a_i = 0 ∧ a_n = List.length a) ∧ (b_i = 0 ∧ b_n = List.length b) ∧ (((List.length a : Int) ≤ 1000000))) (.ret (.c (.bool (F.eqI a b)), [])) | none => .fail) | none => .fail)
  | _, _ => .fail


theorem equal_sound : Sound Try.prog cod 14 s_equal := sound_runs (cfg := C_rlam) L_rlam_ok mixed Try.func14 rfl rfl _ fun args H r news hg b0 hb => by
  unfold s_equal at hg
  split at hg
  · skip
    split at hg
    · rename_i a hx0
      cases asInp_spec hx0
      split at hg
      · rename_i b hx1
        cases asInp_spec hx1
        simp only [T.gives, T.wp, Prod.mk.injEq] at hg
        obtain ⟨⟨⟨rfl, rfl⟩, ⟨rfl, rfl⟩, q2⟩, rfl, rfl⟩ := hg
        exact equal_run _ _ _ _ b0 hb (by assumption)
      · exact hg.elim
    · exact hg.elim
  · exact hg.elim

noncomputable def L_equal : Sums cod := (14, .p s_equal) :: L_rlam
noncomputable def C_equal : Cfg cod := mkC L_equal

theorem L_equal_ok : Snd Try.prog cod L_equal := .cons equal_sound L_rlam_ok



def cuts_cfact : Cuts := []

theorem cfact_t0  : symF C_equal cuts_cfact Try.f6.results.toList 0 400 [.code (codeOf Try.f6)] ⟨argsS Try.f6 [], ([] : Heap cod)⟩ =
.need (((0 = 0 ∧ 2 = 2) ∧ (2 : Nat) ≤ 1000000)) (
.need (((0 = 0 ∧ 2 = 2) ∧ ((0 = 0 ∧ 2 = 2) ∧ (Int.ofNat 2 : Int) ≤ 1000000))) (
.ret (.fin (.c (.bool (F.eqI (F.lam [(0, 1, 5), (1, 2, 5)]) [1, 2]))) []))) := by kernel_rfl



theorem cfact_run  (b0 : Base) (hb : b0.n = 0)  : Sym.Runs Try.prog b0 [.code (codeOf Try.f6)] ⟨argsS Try.f6 [], ([] : Heap cod)⟩ (Sym.Ends Try.prog Try.f6 0 (.c (.bool true)) []) := by
  refine Runs.go (cfg := C_equal) L_equal_ok mixed cuts_cfact 400 hb cfact_t0 ?_
  have e : F.eqI (F.lam [(0, 1, 5), (1, 2, 5)]) [1, 2] = true := by kernel_rfl
  simp only [T.wp, T.wp_cond, Aft, Int.ofNat_eq_natCast, decide_eq_true_eq, and_true, true_and, Nat.zero_add, Bool.not_eq_true', decide_eq_false_iff_not, e]
  exact ⟨by omega, by omega⟩



noncomputable def s_cfact : Summ cod := fun args H => match args, H with
  | [], [] => .ret (.c (.bool true), [])
  | _, _ => .fail


theorem cfact_sound : Sound Try.prog cod 6 s_cfact := sound_runs (cfg := C_equal) L_equal_ok mixed Try.func6 rfl rfl _ fun args H r news hg b0 hb => by
  unfold s_cfact at hg
  split at hg
  · skip
    cases hg
    exact cfact_run  b0 hb 
  · exact hg.elim

noncomputable def L_cfact : Sums cod := (6, .p s_cfact) :: L_equal
noncomputable def C_cfact : Cfg cod := mkC L_cfact

theorem L_cfact_ok : Snd Try.prog cod L_cfact := .cons cfact_sound L_equal_ok



def cuts_csl : Cuts := [(100004, [0], 1), (13, [8, 0, 5, 3, 87, 88], 4), (17, [9, 8, 0, 10, 5, 3, 87, 88, 92, 93], 5), (100019, [9, 8, 0, 10, 5, 3, 87, 88, 92, 93, 11], 6), (100024, [9, 8, 0, 10, 5, 3, 87, 88, 92, 93], 6), (100025, [8, 0, 5, 3, 87, 88, 10, 9], 6), (100027, [8, 0, 5, 3, 87, 88], 6)]
def cuts_csl_r4 : Cuts := [(13, [8, 0, 5, 3, 87, 88], 4), (17, [9, 8, 0, 10, 5, 3, 87, 88, 92, 93], 5), (100019, [9, 8, 0, 10, 5, 3, 87, 88, 92, 93, 11], 6), (100024, [9, 8, 0, 10, 5, 3, 87, 88, 92, 93], 6), (100025, [8, 0, 5, 3, 87, 88, 10, 9], 6), (100027, [8, 0, 5, 3, 87, 88], 6)]
def cuts_csl_r19 : Cuts := [(100004, [0], 1), (13, [8, 0, 5, 3, 87, 88], 4), (17, [9, 8, 0, 10, 5, 3, 87, 88, 92, 93], 5), (100024, [9, 8, 0, 10, 5, 3, 87, 88, 92, 93], 6), (100025, [8, 0, 5, 3, 87, 88, 10, 9], 6), (100027, [8, 0, 5, 3, 87, 88], 6)]
def cuts_csl_r19b : Cuts := [(100004, [0], 1), (13, [8, 0, 5, 3, 87, 88], 4), (17, [9, 8, 0, 10, 5, 3, 87, 88, 92, 93], 5), (100024, [9, 8, 0, 10, 5, 3, 87, 88, 92, 93], 6), (100025, [8, 0, 5, 3, 87, 88, 10, 9], 6), (100027, [8, 0, 5, 3, 87, 88], 6)]
def cuts_csl_r24 : Cuts := [(100004, [0], 1), (13, [8, 0, 5, 3, 87, 88], 4), (17, [9, 8, 0, 10, 5, 3, 87, 88, 92, 93], 5), (100019, [9, 8, 0, 10, 5, 3, 87, 88, 92, 93, 11], 6), (100025, [8, 0, 5, 3, 87, 88, 10, 9], 6), (100027, [8, 0, 5, 3, 87, 88], 6)]
def cuts_csl_r25 : Cuts := [(100004, [0], 1), (13, [8, 0, 5, 3, 87, 88], 4), (17, [9, 8, 0, 10, 5, 3, 87, 88, 92, 93], 5), (100019, [9, 8, 0, 10, 5, 3, 87, 88, 92, 93, 11], 6), (100024, [9, 8, 0, 10, 5, 3, 87, 88, 92, 93], 6), (100027, [8, 0, 5, 3, 87, 88], 6)]
def cuts_csl_r25b : Cuts := [(100004, [0], 1), (13, [8, 0, 5, 3, 87, 88], 4), (17, [9, 8, 0, 10, 5, 3, 87, 88, 92, 93], 5), (100019, [9, 8, 0, 10, 5, 3, 87, 88, 92, 93, 11], 6), (100024, [9, 8, 0, 10, 5, 3, 87, 88, 92, 93], 6), (100027, [8, 0, 5, 3, 87, 88], 6)]
def cuts_csl_r27 : Cuts := [(100004, [0], 1), (13, [8, 0, 5, 3, 87, 88], 4), (17, [9, 8, 0, 10, 5, 3, 87, 88, 92, 93], 5), (100019, [9, 8, 0, 10, 5, 3, 87, 88, 92, 93, 11], 6), (100024, [9, 8, 0, 10, 5, 3, 87, 88, 92, 93], 6), (100025, [8, 0, 5, 3, 87, 88, 10, 9], 6)]

theorem csl_t0 (l : List (Int × Int × Int)) (l_t : Bool) : symF C_cfact cuts_csl Try.f3.results.toList 1 400 [.code (codeOf Try.f3)] ⟨argsS Try.f3 [.c (.slc 0 0 (List.length l) l_t)], ([.inp 1 l] : Heap cod)⟩ =
.need (((0 : Int) ≤ min (Int.ofNat (List.length l)) 30 ∧ min (Int.ofNat (List.length l)) 30 ≤ Int.ofNat (List.length l))) (
.ret (.cut (regAt Try.f3 4) ⟨tmG 164 [(0, .c (.slc 0 0 (Int.toNat (min (Int.ofNat (List.length l)) 30)) false))], [.inp 1 l]⟩)) := by kernel_rfl


noncomputable def st_csl_r4 (l : List (Int × Int × Int)) (l_t : Bool) (L : List (Int × Int × Int)) : St cod := ⟨tmG 164 [(0, .c (.slc 0 0 (List.length L) false))], ([.inp 1 L] : Heap cod)⟩


theorem csl_tr4 (l : List (Int × Int × Int)) (l_t : Bool) (L : List (Int × Int × Int)) : symF C_cfact cuts_csl_r4 Try.f3.results.toList 1 400 (regAt Try.f3 4) (st_csl_r4 l l_t L) =
.need (((0 = 0 ∧ List.length L = List.length L) ∧ List.length L ≤ 1000000)) (
.ite (decide (F.chk L = 0)) (
 .need (((0 = 0 ∧ List.length L = List.length L) ∧ (List.length L ≤ 1000000 ∧ F.chk L = 0))) (
 .need (((0 = 0 ∧ List.length L = List.length L) ∧ List.length L ≤ 1000000)) (
 cond (!decide (F.chk L = 0)) (
  .need (((0 = 0 ∧ List.length L = List.length L) ∧ List.length L ≤ 1000000)) (
  cond (decide (F.chk L = F.chk L)) (
   cond (decide (F.chk L = F.chk L)) (
    cond (decide (0 = F.chk L)) (
     .need (i64ok (Int.ofNat (List.length (F.lam L)) + Int.ofNat (List.length (F.vec L)))) (
     .ret (.fin (.c (.bool (decide (Int.ofNat (List.length (F.lam L)) + Int.ofNat (List.length (F.vec L)) = 0)))) []))) (
     .ret (.fin (.c (.bool false)) []))) (
    .ret (.fin (.c (.bool false)) []))) (
   .ret (.fin (.c (.bool false)) [])))) (
  cond (!decide (F.chk L = 0)) (
   .ret (.fin (.c (.bool false)) [])) (
   .need (((0 = 0 ∧ List.length L = List.length L) ∧ List.length L ≤ 1000000)) (
   cond (!decide (F.chk L = 0)) (
    .ret (.fin (.c (.bool false)) [])) (
    cond (!decide (Int.ofNat (List.length (F.lam L)) = Int.ofNat (List.length L))) (
     .ret (.fin (.c (.bool false)) [])) (
     cond (!decide (Int.ofNat (List.length (F.vec L)) = Int.ofNat (List.length L))) (
      .ret (.fin (.c (.bool false)) [])) (
      .need (((0 = 0 ∧ List.length L = List.length L) ∧ List.length L ≤ 200)) (
      .ret (.cut (cutAt Try.f3 13) ⟨tmG 76 [(0, .c (.slc 0 0 (List.length L) false)), (2, .c (.own 1 (List.length (F.lam L)))), (1, .c (.own 2 (List.length (F.vec L)))), (2, .c (.own 3 (List.length (F.lea L)))), (78, .c (.int .i64 (Int.ofNat (List.length L)))), (0, .c (.int .i64 0))], [.inp 1 L, .own 0 (F.lam L) 3, .nown 0 (F.vec L) [] [] 24 3, .nown 4 (F.lea L) [] [] 35 4]⟩))))))))))) (
 .need (((0 = 0 ∧ List.length L = List.length L) ∧ (List.length L ≤ 1000000 ∧ ¬F.chk L = 0))) (
 .need (((0 = 0 ∧ List.length L = List.length L) ∧ List.length L ≤ 1000000)) (
 cond (!decide (F.chk L = 0)) (
  .need (((0 = 0 ∧ List.length L = List.length L) ∧ List.length L ≤ 1000000)) (
  cond (decide (F.chk L = F.chk L)) (
   cond (decide (F.chk L = F.chk L)) (
    cond (decide (F.chk L = F.chk L)) (
     .need (i64ok (Int.ofNat (List.length (F.lam L)) + 0)) (
     .ret (.fin (.c (.bool (decide (Int.ofNat (List.length (F.lam L)) + 0 = 0)))) []))) (
     .ret (.fin (.c (.bool false)) []))) (
    .ret (.fin (.c (.bool false)) []))) (
   .ret (.fin (.c (.bool false)) [])))) (
  cond (!decide (F.chk L = 0)) (
   .ret (.fin (.c (.bool false)) [])) (
   cond (!decide (F.chk L = 0)) (
    .ret (.fin (.c (.bool false)) [])) (
    .need (((0 = 0 ∧ List.length L = List.length L) ∧ List.length L ≤ 1000000)) (
    cond (!decide (F.chk L = 0)) (
     .ret (.fin (.c (.bool false)) [])) (
     cond (!decide (Int.ofNat (List.length (F.lam L)) = Int.ofNat (List.length L))) (
      .ret (.fin (.c (.bool false)) [])) (
      cond (!decide (0 = Int.ofNat (List.length L))) (
       .ret (.fin (.c (.bool false)) [])) (
       .need (((0 = 0 ∧ List.length L = List.length L) ∧ List.length L ≤ 200)) (
       .ret (.cut (cutAt Try.f3 13) ⟨tmG 76 [(0, .c (.slc 0 0 (List.length L) false)), (2, .c (.own 1 (List.length (F.lam L)))), (1, .c (.nil)), (2, .c (.own 2 (List.length (F.lea L)))), (78, .c (.int .i64 (Int.ofNat (List.length L)))), (0, .c (.int .i64 0))], [.inp 1 L, .own 0 (F.lam L) 3, .nown 4 (F.lea L) [] [] 35 4]⟩))))))))))))) := by kernel_rfl


noncomputable def st_csl_13 (l : List (Int × Int × Int)) (l_t : Bool) (L : List (Int × Int × Int)) (k : Int) (N : List Int) (V : List (List Int)) (X : List (List Bool)) : St cod := ⟨tmG 76 [(0, .c (.slc 0 0 (List.length L) false)), (2, .c (.own 1 (List.length N))), (1, .c (.own 2 (List.length V))), (2, .c (.own 3 (List.length X))), (78, .c (.int .i64 (Int.ofNat (List.length L)))), (0, .c (.int .i64 k))], ([.inp 1 L, .own 0 N 3, .nown 0 V [] [] 24 3, .nown 4 X [] [] 35 4] : Heap cod)⟩


theorem csl_t13 (l : List (Int × Int × Int)) (l_t : Bool) (L : List (Int × Int × Int)) (k : Int) (N : List Int) (V : List (List Int)) (X : List (List Bool)) : symF C_cfact cuts_csl Try.f3.results.toList 1 400 (cutAt Try.f3 13) (st_csl_13 l l_t L k N V X) =
 cond (decide (k < Int.ofNat (List.length L))) (
 .ret (.cut (cutAt Try.f3 17) ⟨tmG 71 [(0, .c (.slc 0 0 (List.length L) false)), (2, .c (.own 1 (List.length N))), (1, .c (.own 2 (List.length V))), (2, .c (.own 3 (List.length X))), (0, .c (.int .i64 k)), (0, .c (.ptr 4 0 0)), (76, .c (.int .i64 (Int.ofNat (List.length L)))), (0, .c (.int .i64 k)), (3, .c (.int .i64 (Int.ofNat (List.length L)))), (0, .c (.int .i64 0))], [.inp 1 L, .own 0 N 3, .nown 0 (V) [] [] 24 3, .nown 4 (X) [] [] 35 4, .arr 0 ([0, 0, 0, 0, 0, 0, 0, 0] : List Int) 34]⟩)) (
 .need (((0 = 0 ∧ List.length L = List.length L) ∧ F.chk L = 0)) (
 .ret (.fin (.c (.bool (decide (F.befE L (Int.ofNat (List.length L)) 0 = 8)))) []))) := by kernel_rfl


noncomputable def st_csl_17 (l : List (Int × Int × Int)) (l_t : Bool) (L : List (Int × Int × Int)) (k i : Int) (N : List Int) (V : List (List Int)) (X : List (List Bool)) (w : List Int) : St cod := ⟨tmG 71 [(0, .c (.slc 0 0 (List.length L) false)), (2, .c (.own 1 (List.length N))), (1, .c (.own 2 (List.length V))), (2, .c (.own 3 (List.length X))), (0, .c (.int .i64 k)), (0, .c (.ptr 4 0 0)), (76, .c (.int .i64 (Int.ofNat (List.length L)))), (0, .c (.int .i64 k)), (3, .c (.int .i64 (Int.ofNat (List.length L)))), (0, .c (.int .i64 i))], ([.inp 1 L, .own 0 N 3, .nown 0 V [] [] 24 3, .nown 4 X [] [] 35 4, .arr 0 w 34] : Heap cod)⟩


theorem csl_t17 (l : List (Int × Int × Int)) (l_t : Bool) (L : List (Int × Int × Int)) (k i : Int) (N : List Int) (V : List (List Int)) (X : List (List Bool)) (w : List Int) : symF C_cfact cuts_csl Try.f3.results.toList 1 400 (cutAt Try.f3 17) (st_csl_17 l l_t L k i N V X w) =
 cond (decide (i < Int.ofNat (List.length L))) (
 .ret (.cut (regAt Try.f3 19) ⟨tmG 71 [(0, .c (.slc 0 0 (List.length L) false)), (2, .c (.own 1 (List.length N))), (1, .c (.own 2 (List.length V))), (2, .c (.own 3 (List.length X))), (0, .c (.int .i64 k)), (0, .c (.ptr 4 0 0)), (0, .c (.int .i64 i)), (75, .c (.int .i64 (Int.ofNat (List.length L)))), (0, .c (.int .i64 k)), (3, .c (.int .i64 (Int.ofNat (List.length L)))), (0, .c (.int .i64 i))], [.inp 1 L, .own 0 N 3, .nown 0 (V) [] [] 24 3, .nown 4 (X) [] [] 35 4, .arr 0 w 34]⟩)) (
 .ret (.cut (regAt Try.f3 25) ⟨tmG 76 [(0, .c (.slc 0 0 (List.length L) false)), (2, .c (.own 1 (List.length N))), (1, .c (.own 2 (List.length V))), (2, .c (.own 3 (List.length X))), (0, .c (.int .i64 k)), (0, .c (.ptr 4 0 0)), (76, .c (.int .i64 (Int.ofNat (List.length L)))), (0, .c (.int .i64 k))], [.inp 1 L, .own 0 N 3, .nown 0 (V) [] [] 24 3, .nown 4 (X) [] [] 35 4, .arr 0 w 34]⟩)) := by kernel_rfl


noncomputable def st_csl_r19 (l : List (Int × Int × Int)) (l_t : Bool) (L : List (Int × Int × Int)) (k i : Int) (N : List Int) (V : List (List Int)) (X : List (List Bool)) (w : List Int) : St cod := ⟨tmG 71 [(0, .c (.slc 0 0 (List.length L) false)), (2, .c (.own 1 (List.length N))), (1, .c (.own 2 (List.length V))), (2, .c (.own 3 (List.length X))), (0, .c (.int .i64 k)), (0, .c (.ptr 4 0 0)), (0, .c (.int .i64 i)), (75, .c (.int .i64 (Int.ofNat (List.length L)))), (0, .c (.int .i64 k)), (3, .c (.int .i64 (Int.ofNat (List.length L)))), (0, .c (.int .i64 i))], ([.inp 1 L, .own 0 N 3, .nown 0 V [] [] 24 3, .nown 4 X [] [] 35 4, .arr 0 w 34] : Heap cod)⟩


noncomputable def st_csl_r19b (l : List (Int × Int × Int)) (l_t : Bool) (L : List (Int × Int × Int)) (k i : Int) (N : List Int) (V : List (List Int)) (X : List (List Bool)) (w : List Int) (j : Nat) (r : List Bool) : St cod := ⟨tmG 71 [(0, .c (.slc 0 0 (List.length L) false)), (2, .c (.own 1 (List.length N))), (1, .c (.own 2 (List.length V))), (2, .c (.own 3 (List.length X))), (0, .c (.int .i64 k)), (0, .c (.ptr 4 0 0)), (0, .c (.int .i64 i)), (75, .c (.int .i64 (Int.ofNat (List.length L)))), (0, .c (.int .i64 k)), (3, .c (.int .i64 (Int.ofNat (List.length L)))), (0, .c (.int .i64 i))], ([.inp 1 L, .own 0 N 3, .nown 0 V [] [] 24 3, .nown 4 X [j] [.own 5 (List.length r)] 35 4, .arr 0 w 34, .own 4 r 4] : Heap cod)⟩


theorem csl_tr19b (l : List (Int × Int × Int)) (l_t : Bool) (L : List (Int × Int × Int)) (k i : Int) (N : List Int) (V : List (List Int)) (X : List (List Bool)) (w : List Int) (j : Nat) (r : List Bool) : symF C_cfact cuts_csl_r19b Try.f3.results.toList 1 400 (regAt Try.f3 19) (st_csl_r19b l l_t L k i N V X w j r) =
 cond (decide (i = k)) (
 .need (((0 : Int) ≤ i ∧ i < Int.ofNat (List.length L))) (
 .need (0 + Int.toNat i < List.length L) (
 .need (((0 : Int) ≤ (List.getD L (0 + Int.toNat i) (cod 1).d).1 ∧ (List.getD L (0 + Int.toNat i) (cod 1).d).1 < Int.ofNat 8)) (
 .need (0 + Int.toNat (List.getD L (0 + Int.toNat i) (cod 1).d).1 < List.length w) (
 .need (i64ok (List.getD w (0 + Int.toNat (List.getD L (0 + Int.toNat i) (cod 1).d).1) (cod 0).d + 1)) (
 .need (((0 : Int) ≤ (List.getD L (0 + Int.toNat i) (cod 1).d).1 ∧ (List.getD L (0 + Int.toNat i) (cod 1).d).1 < Int.ofNat 8)) (
 .need (0 + Int.toNat (List.getD L (0 + Int.toNat i) (cod 1).d).1 < List.length w) (
 .need (((0 = 0 ∧ List.length L = List.length L) ∧ F.chk L = 0)) (
 cond (!decide (F.befE L i k = 0)) (
  .ret (.fin (.c (.bool false)) [])) (
  .need (((0 : Int) ≤ i ∧ i < Int.ofNat (List.length X))) (
  .need ((0 + Int.toNat i = j ∧ j < List.length X)) (
  .need (((0 : Int) ≤ k ∧ k < Int.ofNat (List.length r))) (
  .need (0 + Int.toNat k < List.length r) (
  cond (!F.bef L i k == List.getD r (0 + Int.toNat k) (cod 4).d) (
   .ret (.fin (.c (.bool false)) [])) (
   .ret (.cut (regAt Try.f3 24) ⟨tmG 71 [(0, .c (.slc 0 0 (List.length L) false)), (2, .c (.own 1 (List.length N))), (1, .c (.own 2 (List.length V))), (2, .c (.own 3 (List.length X))), (0, .c (.int .i64 k)), (0, .c (.ptr 4 0 0)), (76, .c (.int .i64 (Int.ofNat (List.length L)))), (0, .c (.int .i64 k)), (3, .c (.int .i64 (Int.ofNat (List.length L)))), (0, .c (.int .i64 i))], [.inp 1 L, .own 0 N 3, .nown 0 (V) [] [] 24 3, .nown 4 (X) [(j)] [.own 5 (List.length r)] 35 4, .arr 0 (List.set w (0 + Int.toNat (List.getD L (0 + Int.toNat i) (cod 1).d).1)   (List.getD w (0 + Int.toNat (List.getD L (0 + Int.toNat i) (cod 1).d).1) (cod 0).d + 1)) 34, .own 4 r 4]⟩)))))))))))))))) (
 .need (((0 : Int) ≤ i ∧ i < Int.ofNat (List.length X))) (
 .need ((0 + Int.toNat i = j ∧ j < List.length X)) (
 .need (((0 : Int) ≤ k ∧ k < Int.ofNat (List.length r))) (
 .need (0 + Int.toNat k < List.length r) (
 cond (List.getD r (0 + Int.toNat k) (cod 4).d) (
  .need (((0 : Int) ≤ i ∧ i < Int.ofNat (List.length L))) (
  .need (0 + Int.toNat i < List.length L) (
  .need (((0 : Int) ≤ (List.getD L (0 + Int.toNat i) (cod 1).d).1 ∧ (List.getD L (0 + Int.toNat i) (cod 1).d).1 < Int.ofNat 8)) (
  .need (0 + Int.toNat (List.getD L (0 + Int.toNat i) (cod 1).d).1 < List.length w) (
  .need (i64ok (List.getD w (0 + Int.toNat (List.getD L (0 + Int.toNat i) (cod 1).d).1) (cod 0).d + 1)) (
  .need (((0 : Int) ≤ (List.getD L (0 + Int.toNat i) (cod 1).d).1 ∧ (List.getD L (0 + Int.toNat i) (cod 1).d).1 < Int.ofNat 8)) (
  .need (0 + Int.toNat (List.getD L (0 + Int.toNat i) (cod 1).d).1 < List.length w) (
  .need (((0 = 0 ∧ List.length L = List.length L) ∧ F.chk L = 0)) (
  cond (!decide (F.befE L i k = 0)) (
   .ret (.fin (.c (.bool false)) [])) (
   .need (((0 : Int) ≤ i ∧ i < Int.ofNat (List.length X))) (
   .need ((0 + Int.toNat i = j ∧ j < List.length X)) (
   .need (((0 : Int) ≤ k ∧ k < Int.ofNat (List.length r))) (
   .need (0 + Int.toNat k < List.length r) (
   cond (!F.bef L i k == List.getD r (0 + Int.toNat k) (cod 4).d) (
    .ret (.fin (.c (.bool false)) [])) (
    .ret (.cut (regAt Try.f3 24) ⟨tmG 71 [(0, .c (.slc 0 0 (List.length L) false)), (2, .c (.own 1 (List.length N))), (1, .c (.own 2 (List.length V))), (2, .c (.own 3 (List.length X))), (0, .c (.int .i64 k)), (0, .c (.ptr 4 0 0)), (76, .c (.int .i64 (Int.ofNat (List.length L)))), (0, .c (.int .i64 k)), (3, .c (.int .i64 (Int.ofNat (List.length L)))), (0, .c (.int .i64 i))], [.inp 1 L, .own 0 N 3, .nown 0 (V) [] [] 24 3, .nown 4 (X) [(j)] [.own 5 (List.length r)] 35 4, .arr 0 (List.set w (0 + Int.toNat (List.getD L (0 + Int.toNat i) (cod 1).d).1)   (List.getD w (0 + Int.toNat (List.getD L (0 + Int.toNat i) (cod 1).d).1) (cod 0).d + 1)) 34, .own 4 r 4]⟩)))))))))))))))) (
  .need (((0 = 0 ∧ List.length L = List.length L) ∧ F.chk L = 0)) (
  cond (!decide (F.befE L i k = 0)) (
   .ret (.fin (.c (.bool false)) [])) (
   .need (((0 : Int) ≤ i ∧ i < Int.ofNat (List.length X))) (
   .need ((0 + Int.toNat i = j ∧ j < List.length X)) (
   .need (((0 : Int) ≤ k ∧ k < Int.ofNat (List.length r))) (
   .need (0 + Int.toNat k < List.length r) (
   cond (!F.bef L i k == List.getD r (0 + Int.toNat k) (cod 4).d) (
    .ret (.fin (.c (.bool false)) [])) (
    .ret (.cut (regAt Try.f3 24) ⟨tmG 71 [(0, .c (.slc 0 0 (List.length L) false)), (2, .c (.own 1 (List.length N))), (1, .c (.own 2 (List.length V))), (2, .c (.own 3 (List.length X))), (0, .c (.int .i64 k)), (0, .c (.ptr 4 0 0)), (76, .c (.int .i64 (Int.ofNat (List.length L)))), (0, .c (.int .i64 k)), (3, .c (.int .i64 (Int.ofNat (List.length L)))), (0, .c (.int .i64 i))], [.inp 1 L, .own 0 N 3, .nown 0 (V) [] [] 24 3, .nown 4 (X) [(j)] [.own 5 (List.length r)] 35 4, .arr 0 w 34, .own 4 r 4]⟩)))))))))))))) := by kernel_rfl


noncomputable def st_csl_r24 (l : List (Int × Int × Int)) (l_t : Bool) (L : List (Int × Int × Int)) (k i : Int) (N : List Int) (V : List (List Int)) (X : List (List Bool)) (w : List Int) : St cod := ⟨tmG 71 [(0, .c (.slc 0 0 (List.length L) false)), (2, .c (.own 1 (List.length N))), (1, .c (.own 2 (List.length V))), (2, .c (.own 3 (List.length X))), (0, .c (.int .i64 k)), (0, .c (.ptr 4 0 0)), (76, .c (.int .i64 (Int.ofNat (List.length L)))), (0, .c (.int .i64 k)), (3, .c (.int .i64 (Int.ofNat (List.length L)))), (0, .c (.int .i64 i))], [.inp 1 L, .own 0 N 3, .nown 0 (V) [] [] 24 3, .nown 4 (X) [] [] 35 4, .arr 0 w 34]⟩


theorem csl_tr24 (l : List (Int × Int × Int)) (l_t : Bool) (L : List (Int × Int × Int)) (k i : Int) (N : List Int) (V : List (List Int)) (X : List (List Bool)) (w : List Int) : symF C_cfact cuts_csl_r24 Try.f3.results.toList 1 400 (regAt Try.f3 24) (st_csl_r24 l l_t L k i N V X w) =
.need (i64ok (i + 1)) (
.ret (.cut (cutAt Try.f3 17) ⟨tmG 71 [(0, .c (.slc 0 0 (List.length L) false)), (2, .c (.own 1 (List.length N))), (1, .c (.own 2 (List.length V))), (2, .c (.own 3 (List.length X))), (0, .c (.int .i64 k)), (0, .c (.ptr 4 0 0)), (76, .c (.int .i64 (Int.ofNat (List.length L)))), (0, .c (.int .i64 k)), (3, .c (.int .i64 (Int.ofNat (List.length L)))), (0, .c (.int .i64 (i + 1)))], [.inp 1 L, .own 0 N 3, .nown 0 (V) [] [] 24 3, .nown 4 (X) [] [] 35 4, .arr 0 w 34]⟩)) := by kernel_rfl


noncomputable def st_csl_r25 (l : List (Int × Int × Int)) (l_t : Bool) (L : List (Int × Int × Int)) (k i : Int) (N : List Int) (V : List (List Int)) (X : List (List Bool)) (w : List Int) : St cod := ⟨tmG 76 [(0, .c (.slc 0 0 (List.length L) false)), (2, .c (.own 1 (List.length N))), (1, .c (.own 2 (List.length V))), (2, .c (.own 3 (List.length X))), (0, .c (.int .i64 k)), (0, .c (.ptr 4 0 0)), (76, .c (.int .i64 (Int.ofNat (List.length L)))), (0, .c (.int .i64 k))], ([.inp 1 L, .own 0 N 3, .nown 0 V [] [] 24 3, .nown 4 X [] [] 35 4, .arr 0 w 34] : Heap cod)⟩


noncomputable def st_csl_r25b (l : List (Int × Int × Int)) (l_t : Bool) (L : List (Int × Int × Int)) (k i : Int) (N : List Int) (V : List (List Int)) (X : List (List Bool)) (w : List Int) (j : Nat) (r : List Int) : St cod := ⟨tmG 76 [(0, .c (.slc 0 0 (List.length L) false)), (2, .c (.own 1 (List.length N))), (1, .c (.own 2 (List.length V))), (2, .c (.own 3 (List.length X))), (0, .c (.int .i64 k)), (0, .c (.ptr 4 0 0)), (76, .c (.int .i64 (Int.ofNat (List.length L)))), (0, .c (.int .i64 k))], ([.inp 1 L, .own 0 N 3, .nown 0 V [j] [.own 5 (List.length r)] 24 3, .nown 4 X [] [] 35 4, .arr 0 w 34, .own 0 r 3] : Heap cod)⟩


theorem csl_tr25b (l : List (Int × Int × Int)) (l_t : Bool) (L : List (Int × Int × Int)) (k i : Int) (N : List Int) (V : List (List Int)) (X : List (List Bool)) (w : List Int) (j : Nat) (r : List Int) : symF C_cfact cuts_csl_r25b Try.f3.results.toList 1 400 (regAt Try.f3 25) (st_csl_r25b l l_t L k i N V X w j r) =
.need (((0 : Int) ≤ k ∧ k < Int.ofNat (List.length N))) (
.need (0 + Int.toNat k < List.length N) (
.need (((0 = 0 ∧ List.length X = List.length X) ∧ ((0 : Int) ≤ k ∧ (k < Int.ofNat (List.length X) ∧ (List.length X ≤ 200 ∧ F.sqM X))))) (
 cond (!decide (List.getD N (0 + Int.toNat k) (cod 0).d = F.rlam X (Int.toNat k))) (
 .ret (.fin (.c (.bool false)) [])) (
 .need (((0 : Int) ≤ k ∧ k < Int.ofNat (List.length V))) (
 .need ((0 + Int.toNat k = j ∧ j < List.length V)) (
 .need (((0 = 0 ∧ List.length r = List.length r) ∧ ((0 = 0 ∧ 8 = List.length w) ∧ Int.ofNat (List.length r) ≤ 1000000))) (
 cond (!F.eqI r w) (
  .ret (.fin (.c (.bool false)) [])) (
  .ret (.cut (regAt Try.f3 27) ⟨tmG 76 [(0, .c (.slc 0 0 (List.length L) false)), (2, .c (.own 1 (List.length N))), (1, .c (.own 2 (List.length V))), (2, .c (.own 3 (List.length X))), (78, .c (.int .i64 (Int.ofNat (List.length L)))), (0, .c (.int .i64 k))], [.inp 1 L, .own 0 N 3, .nown 0 (V) [(j)] [.own 5 (List.length r)] 24 3, .nown 4 (X) [] [] 35 4, .arr 0 w 34, .own 0 r 3]⟩))))))))) := by kernel_rfl


noncomputable def st_csl_r27 (l : List (Int × Int × Int)) (l_t : Bool) (L : List (Int × Int × Int)) (k : Int) (N : List Int) (V : List (List Int)) (X : List (List Bool)) : St cod := ⟨tmG 76 [(0, .c (.slc 0 0 (List.length L) false)), (2, .c (.own 1 (List.length N))), (1, .c (.own 2 (List.length V))), (2, .c (.own 3 (List.length X))), (78, .c (.int .i64 (Int.ofNat (List.length L)))), (0, .c (.int .i64 k))], [.inp 1 L, .own 0 N 3, .nown 0 (V) [] [] 24 3, .nown 4 (X) [] [] 35 4]⟩


theorem csl_tr27 (l : List (Int × Int × Int)) (l_t : Bool) (L : List (Int × Int × Int)) (k : Int) (N : List Int) (V : List (List Int)) (X : List (List Bool)) : symF C_cfact cuts_csl_r27 Try.f3.results.toList 1 400 (regAt Try.f3 27) (st_csl_r27 l l_t L k N V X) =
.need (i64ok (k + 1)) (
.ret (.cut (cutAt Try.f3 13) ⟨tmG 76 [(0, .c (.slc 0 0 (List.length L) false)), (2, .c (.own 1 (List.length N))), (1, .c (.own 2 (List.length V))), (2, .c (.own 3 (List.length X))), (78, .c (.int .i64 (Int.ofNat (List.length L)))), (0, .c (.int .i64 (k + 1)))], [.inp 1 L, .own 0 N 3, .nown 0 (V) [] [] 24 3, .nown 4 (X) [] [] 35 4]⟩)) := by kernel_rfl



namespace F
theorem wG_bound (l : List Ev) (k : Nat) : ∀ i t : Nat, 0 ≤ (wG l k i).getD t 0 ∧ (wG l k i).getD t 0 ≤ (i : Int)
  | 0, t => by
      have e : (wG l k 0).getD t 0 = 0 := by
        show (List.replicate 8 (0 : Int)).getD t 0 = 0
        rw [List.getD_eq_getElem?_getD, List.getElem?_replicate]
        split <;> rfl
      rw [e]
      omega
  | i + 1, t => by
      have a := wG_bound l k i t
      have b := wG_bound l k i (st l i)
      unfold wG
      split
      · rw [gset]
        split <;> omega
      · omega
end F
theorem csl_loop (l : List (Int × Int × Int)) (l_t : Bool) (L : List (Int × Int × Int)) (N : List Int) (V : List (List Int)) (X : List (List Bool)) (b0 : Base) (hb : b0.n = 1) (hc : F.chk L = 0) (hL : L.length ≤ 30)
    (hNl : N.length = L.length) (hVl : V.length = L.length) (hX : F.Mat L.length X)
    (hN : ∀ k, k < L.length → N.getD k 0 = F.rlam X k) (hV : ∀ k, k < L.length → V.getD k [] = F.wG L k L.length)
    (hB : ∀ i k : Nat, i < L.length → k < L.length → F.bef L (i : Int) (k : Int) = (X.getD i []).getD k false)
    (hW : ∀ k i : Nat, F.wG L k (i + 1) = if (i = k ∨ (X.getD i []).getD k false = true) then (F.wG L k i).set (F.st L i) ((F.wG L k i).getD (F.st L i) 0 + 1) else F.wG L k i) :
    ∀ (r k : Nat), k + r = L.length → Sym.Runs Try.prog b0 (cutAt Try.f3 13) (st_csl_13 l l_t L (k : Int) N V X) (Sym.Ends Try.prog Try.f3 1 (.c (.bool true)) []) := by
  have ez : (cod 4).d = false := rfl
  have e0 : (cod 0).d = (0 : Int) := rfl
  have ed : (cod 1).d = F.ev0 := rfl
  have hE : ∀ i k : Nat, i < L.length → k < L.length → F.befE L (i : Int) (k : Int) = 0 := fun i k hi hk => by unfold F.befE; rw [if_neg (by omega)]
  have hX1 := hX.1
  have hX2 := hX.2
  intro r
  induction r with
  | zero =>
    intro k hk
    refine Runs.go (cfg := C_cfact) L_cfact_ok mixed cuts_csl 400 hb (csl_t13 l l_t L (k : Int) N V X) ?_
    have e8 : F.befE L (L.length : Int) 0 = 8 := by unfold F.befE; rw [if_pos (by omega)]
    simp only [T.wp, T.wp_cond, Aft, Int.ofNat_eq_natCast, decide_eq_true_eq, and_true, true_and, Nat.zero_add, Bool.not_eq_true', decide_eq_false_iff_not, e8]
    refine ite_no (by omega) ⟨hc, rfl⟩
  | succ r ih =>
    intro k hk
    have nx := ih (k + 1) (by omega)
    rw [Int.natCast_succ] at nx
    have hkL : k < L.length := by omega
    refine Runs.go (cfg := C_cfact) L_cfact_ok mixed cuts_csl 400 hb (csl_t13 l l_t L (k : Int) N V X) ?_
    simp only [T.wp, T.wp_cond, Aft, Int.ofNat_eq_natCast, decide_eq_true_eq, and_true, true_and, Nat.zero_add, Bool.not_eq_true', decide_eq_false_iff_not]
    refine ite_yes (by omega) ?_
    have tail : ∀ i : Int, Sym.Runs Try.prog b0 (regAt Try.f3 25) (st_csl_r25 l l_t L (k : Int) i N V X (F.wG L k L.length)) (Sym.Ends Try.prog Try.f3 1 (.c (.bool true)) []) := by
      intro i
      have hvk := hV k hkL
      have hnk := hN k hkL
      have hw8 := F.wG_len L k L.length
      generalize F.wG L k L.length = w at hvk hw8 ⊢
      have hkV : k < V.length := by omega
      have hkN : k < N.length := by omega
      have hkX : k < X.length := by omega
      refine Runs.openW 2 k (t := 0) (LL := V) (js := []) (cs := []) (ty := 24) (tyr := 3) rfl hkV List.not_mem_nil (st' := st_csl_r25b l l_t L (k : Int) i N V X w k w) (by rw [← hvk]; rfl) ?_
      refine Runs.go (cfg := C_cfact) L_cfact_ok mixed cuts_csl_r25b 400 hb (csl_tr25b l l_t L (k : Int) i N V X w k w) ?_
      have eI : F.eqI w w = true := decide_eq_true rfl
      have hsq : F.sqM X := fun j hj => by rw [hX2 j (by omega), hX1]
      simp only [T.wp, T.wp_cond, Aft, Int.ofNat_eq_natCast, decide_eq_true_eq, and_true, true_and, Nat.zero_add, Bool.not_eq_true', decide_eq_false_iff_not, Int.toNat_natCast, e0]
      refine ⟨⟨by omega, by omega⟩, hkN, ⟨by omega, by omega, by omega, hsq⟩, ?_⟩
      refine ite_no (fun h => h hnk) ⟨⟨by omega, by omega⟩, hkV, ⟨hw8.symm, by omega⟩, ?_⟩
      refine ite_no (by rw [eI]; decide) ?_
      refine Runs.closeW 2 (j := k) (r := 5) (N := 1) hb (t := 0) (LL := V) (js := []) (c := .own 5 (List.length w)) (cs := []) (ty := 24) (tyr := 3) (l := w) rfl hkV List.not_mem_nil rfl (by omega) (by omega) (st' := ⟨tmG 76 [(0, .c (.slc 0 0 (List.length L) false)), (2, .c (.own 1 (List.length N))), (1, .c (.own 2 (List.length V))), (2, .c (.own 3 (List.length X))), (78, .c (.int .i64 (Int.ofNat (List.length L)))), (0, .c (.int .i64 k))], ([.inp 1 L, .own 0 N 3, .nown 0 (V.set k w) [] [] 24 3, .nown 4 X [] [] 35 4, .arr 0 w 34, .dead] : Heap cod)⟩) rfl ?_
      have eS : V.set k w = V := by rw [← hvk]; exact F.set_same V k
      rw [eS]
      refine Runs.weaken (st' := st_csl_r27 l l_t L (k : Int) N V X) (fun a w hR => fit_rel [8, 0, 5, 3, 87, 88] 4 (by omega) hR) ?_
      refine Runs.go (cfg := C_cfact) L_cfact_ok mixed cuts_csl_r27 400 hb (csl_tr27 l l_t L (k : Int) N V X) ?_
      simp only [T.wp, T.wp_cond, Aft, Int.ofNat_eq_natCast, decide_eq_true_eq, and_true, true_and, Nat.zero_add, Bool.not_eq_true', decide_eq_false_iff_not]
      exact ⟨by unfold Sym.i64ok; omega, nx⟩
    have inner : ∀ (q i : Nat), i + q = L.length → Sym.Runs Try.prog b0 (cutAt Try.f3 17) (st_csl_17 l l_t L (k : Int) (i : Int) N V X (F.wG L k i)) (Sym.Ends Try.prog Try.f3 1 (.c (.bool true)) []) := by
      intro q
      induction q with
      | zero =>
        intro i hi
        have ei : i = L.length := by omega
        subst ei
        refine Runs.go (cfg := C_cfact) L_cfact_ok mixed cuts_csl 400 hb (csl_t17 l l_t L (k : Int) (L.length : Int) N V X (F.wG L k L.length)) ?_
        have t0 := tail (L.length : Int)
        generalize F.wG L k L.length = w at t0 ⊢
        simp only [T.wp, T.wp_cond, Aft, Int.ofNat_eq_natCast, decide_eq_true_eq, and_true, true_and, Nat.zero_add, Bool.not_eq_true', decide_eq_false_iff_not]
        exact ite_no (by omega) t0
      | succ q ih2 =>
        intro i hi
        have nx2 := ih2 (i + 1) (by omega)
        rw [Int.natCast_succ, hW k i] at nx2
        have hiL : i < L.length := by omega
        have hw8 := F.wG_len L k i
        have hwb := F.wG_bound L k i (F.st L i)
        have hst := F.st_lt hc hiL
        have k1 := (F.chkE_ok ((F.chk_ok hc).2 i hiL)).1
        have hbik := hB i k hiL hkL
        have hEik := hE i k hiL hkL
        have hRl := hX2 i hiL
        unfold F.st at nx2 hwb hst
        refine Runs.go (cfg := C_cfact) L_cfact_ok mixed cuts_csl 400 hb (csl_t17 l l_t L (k : Int) (i : Int) N V X (F.wG L k i)) ?_
        generalize F.wG L k i = w at nx2 hw8 hwb ⊢
        simp only [T.wp, T.wp_cond, Aft, Int.ofNat_eq_natCast, decide_eq_true_eq, and_true, true_and, Nat.zero_add, Bool.not_eq_true', decide_eq_false_iff_not]
        refine ite_yes (by omega) ?_
        have hiX : i < X.length := by omega
        generalize eR : X.getD i [] = R at nx2 hbik hRl
        refine Runs.openW 3 i (t := 4) (LL := X) (js := []) (cs := []) (ty := 35) (tyr := 4) rfl hiX List.not_mem_nil (st' := st_csl_r19b l l_t L (k : Int) (i : Int) N V X w i R) (by rw [← eR]; rfl) ?_
        have close : ∀ w' : List Int, Sym.Runs Try.prog b0 (cutAt Try.f3 17) (st_csl_17 l l_t L (k : Int) ((i : Int) + 1) N V X w') (Sym.Ends Try.prog Try.f3 1 (.c (.bool true)) []) → Sym.Runs Try.prog b0 (regAt Try.f3 24) ⟨tmG 71 [(0, .c (.slc 0 0 (List.length L) false)), (2, .c (.own 1 (List.length N))), (1, .c (.own 2 (List.length V))), (2, .c (.own 3 (List.length X))), (0, .c (.int .i64 k)), (0, .c (.ptr 4 0 0)), (76, .c (.int .i64 (Int.ofNat (List.length L)))), (0, .c (.int .i64 k)), (3, .c (.int .i64 (Int.ofNat (List.length L)))), (0, .c (.int .i64 i))], ([.inp 1 L, .own 0 N 3, .nown 0 V [] [] 24 3, .nown 4 X [i] [.own 5 (List.length R)] 35 4, .arr 0 w' 34, .own 4 R 4] : Heap cod)⟩ (Sym.Ends Try.prog Try.f3 1 (.c (.bool true)) []) := by
          intro w' hx
          refine Runs.closeW 3 (j := i) (r := 5) (N := 1) hb (t := 4) (LL := X) (js := []) (c := .own 5 (List.length R)) (cs := []) (ty := 35) (tyr := 4) (l := R) rfl hiX List.not_mem_nil rfl (by omega) (by omega) (st' := ⟨tmG 71 [(0, .c (.slc 0 0 (List.length L) false)), (2, .c (.own 1 (List.length N))), (1, .c (.own 2 (List.length V))), (2, .c (.own 3 (List.length X))), (0, .c (.int .i64 k)), (0, .c (.ptr 4 0 0)), (76, .c (.int .i64 (Int.ofNat (List.length L)))), (0, .c (.int .i64 k)), (3, .c (.int .i64 (Int.ofNat (List.length L)))), (0, .c (.int .i64 i))], ([.inp 1 L, .own 0 N 3, .nown 0 V [] [] 24 3, .nown 4 (X.set i R) [] [] 35 4, .arr 0 w' 34, .dead] : Heap cod)⟩) rfl ?_
          have eS : X.set i R = X := by rw [← eR]; exact F.setBB_same X i
          rw [eS]
          refine Runs.weaken (st' := st_csl_r24 l l_t L (k : Int) (i : Int) N V X w') (fun a w hR => fit_rel [9, 8, 0, 10, 5, 3, 87, 88, 92, 93] 5 (by omega) hR) ?_
          refine Runs.go (cfg := C_cfact) L_cfact_ok mixed cuts_csl_r24 400 hb (csl_tr24 l l_t L (k : Int) (i : Int) N V X w') ?_
          simp only [T.wp, T.wp_cond, Aft, Int.ofNat_eq_natCast, decide_eq_true_eq, and_true, true_and, Nat.zero_add, Bool.not_eq_true', decide_eq_false_iff_not]
          exact ⟨by unfold Sym.i64ok; omega, hx⟩
        refine Runs.go (cfg := C_cfact) L_cfact_ok mixed cuts_csl_r19b 400 hb (csl_tr19b l l_t L (k : Int) (i : Int) N V X w i R) ?_
        have hnb : ¬ ((F.bef L (i : Int) (k : Int) == R.getD k false) = false) := by rw [hbik]; simp
        simp only [T.wp, T.wp_cond, Aft, Int.ofNat_eq_natCast, decide_eq_true_eq, and_true, true_and, Nat.zero_add, Bool.not_eq_true', decide_eq_false_iff_not, Int.toNat_natCast, e0, ez, ed]
        generalize F.bef L (i : Int) (k : Int) = bb at hnb ⊢
        generalize F.befE L (i : Int) (k : Int) = be at hEik ⊢
        generalize L.getD i F.ev0 = p at *
        have hkR : k < R.length := by omega
        have zX : (0 : Int) ≤ (i : Int) ∧ (i : Int) < (X.length : Int) := ⟨by omega, by omega⟩
        have zR : (0 : Int) ≤ (k : Int) ∧ (k : Int) < (R.length : Int) := ⟨by omega, by omega⟩
        have zL : (0 : Int) ≤ (i : Int) ∧ (i : Int) < (L.length : Int) := ⟨by omega, by omega⟩
        have zp : (0 : Int) ≤ p.1 ∧ p.1 < ((8 : Nat) : Int) := ⟨by omega, by omega⟩
        have zw : p.1.toNat < w.length := by omega
        have zi : Sym.i64ok (w.getD p.1.toNat 0 + 1) := by unfold Sym.i64ok; omega
        by_cases hik : i = k
        · rw [if_pos (.inl hik)] at nx2
          exact ite_yes (by omega) ⟨zL, hiL, zp, zw, zi, zp, zw, hc, ite_no (fun h => h hEik) ⟨zX, hiX, zR, hkR, ite_no hnb (close _ nx2)⟩⟩
        · refine ite_no (by omega) ⟨zX, hiX, zR, hkR, ?_⟩
          cases c1 : R.getD k false with
          | true =>
            rw [c1] at hnb nx2
            rw [if_pos (.inr rfl)] at nx2
            exact ite_yes rfl ⟨zL, hiL, zp, zw, zi, zp, zw, hc, ite_no (fun h => h hEik) ⟨zX, hiX, zR, hkR, ite_no hnb (close _ nx2)⟩⟩
          | false =>
            rw [c1] at hnb nx2
            rw [if_neg (by intro h; rcases h with h | h; exact hik h; cases h)] at nx2
            exact ite_no (by decide) ⟨hc, ite_no (fun h => h hEik) ⟨zX, hiX, zR, hkR, ite_no hnb (close _ nx2)⟩⟩
    exact inner L.length 0 (by omega)
theorem csl_run (l : List (Int × Int × Int)) (l_t : Bool) (b0 : Base) (hb : b0.n = 1)  : Sym.Runs Try.prog b0 [.code (codeOf Try.f3)] ⟨argsS Try.f3 [.c (.slc 0 0 (List.length l) l_t)], ([.inp 1 l] : Heap cod)⟩ (Sym.Ends Try.prog Try.f3 1 (.c (.bool true)) []) := by
  have main : ∀ L : List (Int × Int × Int), L.length ≤ 30 → Sym.Runs Try.prog b0 (regAt Try.f3 4) (st_csl_r4 l l_t L) (Sym.Ends Try.prog Try.f3 1 (.c (.bool true)) []) := by
    intro L hL
    have h1M : List.length L ≤ 1000000 := by omega
    have h2H : List.length L ≤ 200 := by omega
    refine Runs.go (cfg := C_cfact) L_cfact_ok mixed cuts_csl_r4 400 hb (csl_tr4 l l_t L) ?_
    by_cases hc : F.chk L = 0
    · have hl1 : (F.lam L).length = L.length := by unfold F.lam; rw [if_pos hc]; exact (F.lam_bound L _).2.1
      have hl2 : (F.vec L).length = L.length := (F.vec_bound hc _ (Nat.le_refl _)).2.1
      have hfin := csl_loop l l_t L (F.lam L) (F.vec L) (F.lea L) b0 hb hc hL hl1 hl2 (F.wM_mat L _) (fun k hk => F.rlam_eq hc hk) (fun k hk => F.want_eq hc hk) (fun i k hi hk => F.bef_eq hc hi hk) (fun k i => rfl) L.length 0 (by omega)
      generalize F.lam L = N at *
      generalize F.vec L = V at *
      generalize F.lea L = X at *
      simp only [T.wp, T.wp_cond, Aft, Int.ofNat_eq_natCast, decide_eq_true_eq, and_true, true_and, Nat.zero_add, Bool.not_eq_true', decide_eq_false_iff_not]
      refine ⟨h1M, fun _ => ⟨⟨h1M, hc⟩, h1M, ite_no (fun h => h hc) (ite_no (fun h => h hc) ⟨h1M, ite_no (fun h => h hc) (ite_no (fun h => h (by omega)) (ite_no (fun h => h (by omega)) ⟨h2H, hfin⟩))⟩)⟩, fun h => absurd hc h⟩
    · have hl1 : F.lam L = [] := by unfold F.lam; rw [if_neg hc]
      rw [hl1]
      simp only [T.wp, T.wp_cond, Aft, Int.ofNat_eq_natCast, decide_eq_true_eq, and_true, true_and, Nat.zero_add, Bool.not_eq_true', decide_eq_false_iff_not]
      refine ⟨h1M, fun h => absurd h hc, fun _ => ⟨⟨h1M, hc⟩, h1M, ite_yes hc ⟨h1M, ite_yes trivial (ite_yes trivial (ite_yes trivial ⟨by unfold Sym.i64ok; exact ⟨by decide, by decide⟩, rfl⟩))⟩⟩⟩
  refine Runs.go (cfg := C_cfact) L_cfact_ok mixed cuts_csl 400 hb (csl_t0 l l_t) ?_
  have e : Int.toNat (min (Int.ofNat (List.length l)) 30) = min l.length 30 := by rw [Int.ofNat_eq_natCast]; omega
  have eL : (l.take (min l.length 30)).length = min l.length 30 := by rw [List.length_take]; omega
  have h := main (l.take (min l.length 30)) (by omega)
  unfold st_csl_r4 at h
  rw [eL] at h
  rw [e]
  simp only [T.wp, T.wp_cond, Aft, Int.ofNat_eq_natCast, decide_eq_true_eq, and_true, true_and, Nat.zero_add, Bool.not_eq_true', decide_eq_false_iff_not]
  exact ⟨⟨by omega, by omega⟩, Runs.trim 0 (min l.length 30) rfl h⟩



noncomputable def s_csl : Summ cod := fun args H => match args, H with
  | [.c (.slc 0 l_i l_n l_t)], [o0] => (match o0.asInp 1 with | some l => .need ((l_i = 0 ∧ l_n = List.length l)) (.ret (.c (.bool true), [])) | none => .fail)
  | _, _ => .fail


theorem csl_sound : Sound Try.prog cod 3 s_csl := sound_runs (cfg := C_cfact) L_cfact_ok mixed Try.func3 rfl rfl _ fun args H r news hg b0 hb => by
  unfold s_csl at hg
  split at hg
  · skip
    split at hg
    · rename_i l hx0
      cases asInp_spec hx0
      simp only [T.gives, T.wp, Prod.mk.injEq] at hg
      obtain ⟨⟨rfl, rfl⟩, rfl, rfl⟩ := hg
      exact csl_run _ _ b0 hb 
    · exact hg.elim
  · exact hg.elim

noncomputable def L_csl : Sums cod := (3, .p s_csl) :: L_cfact
noncomputable def C_csl : Cfg cod := mkC L_csl

theorem L_csl_ok : Snd Try.prog cod L_csl := .cons csl_sound L_cfact_ok


end
end Go.Proofs.Ytgmnfdmlidhbcaa
