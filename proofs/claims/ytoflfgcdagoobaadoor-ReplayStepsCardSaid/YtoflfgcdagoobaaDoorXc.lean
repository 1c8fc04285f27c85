/- Part of a claim: lemmas on the way to its theorem; each states its own conditions. -/
import Derived.Test.YtoflfgcdagoobaaDoorXb
namespace Go.Proofs.YtoflfgcdagoobaaDoor
open Sym Go.RowKit
noncomputable section
set_option maxRecDepth 100000
set_option maxHeartbeats 4000000

namespace F
def enE (n t : Int) (kind text : List UInt8) : Int :=
  if (inb n 1 500 && inb t 0 200000) = false then 4 else if 120 < text.length ∨ 8 < kind.length then 2 else if kind = [] ∨ low kind = false then 6 else 0
def enS (n t : Int) (kind text : List UInt8) : List UInt8 := itoa n ++ [32] ++ itoa t ++ [32] ++ kind ++ [32] ++ itoa (text.length : Int) ++ [58] ++ text
def enB (n t : Int) (kind text : List UInt8) : List UInt8 := enS n t kind text ++ [59] ++ itoa (sum (enS n t kind text)) ++ [10]
def encR (n t : Int) (kind text : List UInt8) : List UInt8 := if enE n t kind text = 0 then enB n t kind text else []
end F


theorem itl_len : ∀ (f : Nat) (n : Int) (acc : List UInt8), (F.itl f n acc).length ≤ f + acc.length
  | 0, n, acc => by simp [F.itl]
  | f + 1, n, acc => by
    rw [F.itl]
    split
    · have := itl_len f (n / 10) (F.dig (n % 10) ++ acc)
      simp only [F.dig, List.length_append, List.length_cons, List.length_nil] at this ⊢
      omega
    · omega
theorem itoa_len (n : Int) : (F.itoa n).length ≤ 30 := by
  have := itl_len 30 n []
  simpa [F.itoa] using this
theorem itoaZ_pos {n : Int} (h : 0 ≤ n) : F.itoaZ n = F.itoa n := by unfold F.itoaZ; rw [if_neg (by omega)]
theorem sum_bd (s : List UInt8) : 0 ≤ F.sum s ∧ F.sum s ≤ 62000 := by
  unfold F.sum
  omega
theorem low_alph (c : UInt8) (h : F.lowB c = true) : F.alph.contains c = true := by
  simp only [F.lowB, Bool.and_eq_true, decide_eq_true_eq] at h
  have k : ∀ k : Nat, k < 26 → F.alph.contains (UInt8.ofNat (97 + k)) = true := by decide
  have e : c = UInt8.ofNat (97 + (c.toNat - 97)) := by
    rw [show 97 + (c.toNat - 97) = c.toNat by omega, UInt8.ofNat_toNat]
  rw [e]
  exact k _ (by omega)
theorem drop_all {p : UInt8 → Bool} : ∀ {l : List UInt8}, (∀ x ∈ l, p x = true) → l.dropWhile p = []
  | [], _ => rfl
  | a :: l, h => by
    rw [List.dropWhile_cons, if_pos (h a (List.mem_cons_self ..))]
    exact drop_all fun x hx => h x (List.mem_cons_of_mem _ hx)
theorem trm_low {s : List UInt8} (h : F.low s = true) : F.trm s = [] := by
  have ha : ∀ x ∈ s, F.alph.contains x = true := fun x hx => low_alph x (List.all_eq_true.1 h x hx)
  unfold F.trm Lib.trimS Lib.trimRightS
  rw [drop_all (l := s.reverse) (fun x hx => ha x (List.mem_reverse.1 hx))]
  rfl
theorem enE_ok {n t : Int} {kind text : List UInt8} (h : F.enE n t kind text = 0) : (1 ≤ n ∧ n ≤ 500 ∧ 0 ≤ t ∧ t ≤ 200000) ∧ text.length ≤ 120 ∧ kind.length ≤ 8 ∧ kind ≠ [] ∧ F.low kind = true := by
  unfold F.enE at h
  split at h
  · omega
  · rename_i h1
    split at h
    · omega
    · rename_i h2
      split at h
      · omega
      · rename_i h3
        simp only [F.inb, Bool.not_eq_false, Bool.and_eq_true, decide_eq_true_eq] at h1
        simp only [not_or, Bool.not_eq_false] at h2 h3
        exact ⟨⟨h1.1.1, h1.1.2, h1.2.1, h1.2.2⟩, by omega, by omega, h3.1, h3.2⟩


def cuts_rcheck : Cuts := []

theorem rcheck_t0 (n t : Int) (kind text : List UInt8) : symF C_itoaR cuts_rcheck Tryd.f22.results.toList 0 400 [.code (codeOf Tryd.f22)] ⟨argsS Tryd.f22 [.agg [.int .i64 n, .int .i64 t, .str kind, .str text]], ([] : Heap cod)⟩ =
 cond (decide (n < 1)) (
 .ret (.fin (.c (.int .i64 4)) [])) (
 cond (decide (500 < n)) (
  .ret (.fin (.c (.int .i64 4)) [])) (
  cond (decide (t < 0)) (
   .ret (.fin (.c (.int .i64 4)) [])) (
   cond (decide (200000 < t)) (
    .ret (.fin (.c (.int .i64 4)) [])) (
    cond (decide (120 < Int.ofNat (List.length text))) (
     .ret (.fin (.c (.int .i64 2)) [])) (
     cond (decide (8 < Int.ofNat (List.length kind))) (
      .ret (.fin (.c (.int .i64 2)) [])) (
      cond (decide (kind = [])) (
       .ret (.fin (.c (.int .i64 6)) [])) (
       .need ((([97, 98, 99, 100, 101, 102, 103, 104, 105, 106, 107, 108, 109, 110, 111, 112, 113, 114, 115, 116, 117, 118, 119, 120,   121, 122] : List UInt8) = F.alph ∧ List.length kind ≤ 9223372036854775807)) (
       cond (!decide (F.trm kind = [])) (
        .ret (.fin (.c (.int .i64 6)) [])) (
        .need (List.length kind ≤ 1000000000000000) (
        cond (!F.low kind) (
         .ret (.fin (.c (.int .i64 6)) [])) (
         .ret (.fin (.c (.int .i64 0)) [])))))))))))) := by kernel_rfl



theorem rcheck_run (n t : Int) (kind text : List UInt8) (b0 : Base) (hb : b0.n = 0) (h0 : kind.length ≤ 1000000000000000 ∧ text.length ≤ 1000000000000000) : Sym.Runs Tryd.prog b0 [.code (codeOf Tryd.f22)] ⟨argsS Tryd.f22 [.agg [.int .i64 n, .int .i64 t, .str kind, .str text]], ([] : Heap cod)⟩ (Sym.Ends Tryd.prog Tryd.f22 0 (.c (.int .i64 (F.enE n t kind text))) []) := by
  refine Runs.go (cfg := C_itoaR) L_itoaR_ok mixed cuts_rcheck 400 hb (rcheck_t0 n t kind text) ?_
  simp only [T.wp, T.wp_cond, Aft, Int.ofNat_eq_natCast, decide_eq_true_eq, and_true, true_and, Nat.zero_add, Bool.not_eq_true', decide_eq_false_iff_not, Bool.not_eq_true', decide_eq_false_iff_not]
  by_cases c1 : n < 1
  · exact ite_yes c1 (by unfold F.enE; rw [if_pos (by simp [F.inb, show ¬ 1 ≤ n by omega])])
  refine ite_no c1 ?_
  by_cases c2 : 500 < n
  · exact ite_yes c2 (by unfold F.enE; rw [if_pos (by simp [F.inb, show ¬ n ≤ 500 by omega])])
  refine ite_no c2 ?_
  by_cases c3 : t < 0
  · exact ite_yes c3 (by unfold F.enE; rw [if_pos (by simp [F.inb, show ¬ 0 ≤ t by omega])])
  refine ite_no c3 ?_
  by_cases c4 : 200000 < t
  · exact ite_yes c4 (by unfold F.enE; rw [if_pos (by simp [F.inb, show ¬ t ≤ 200000 by omega])])
  refine ite_no c4 ?_
  have hin : ¬ (F.inb n 1 500 && F.inb t 0 200000) = false := by simp [F.inb]; omega
  by_cases c5 : (120 : Int) < (text.length : Int)
  · exact ite_yes c5 (by unfold F.enE; rw [if_neg hin, if_pos (.inl (by omega))])
  refine ite_no c5 ?_
  by_cases c6 : (8 : Int) < (kind.length : Int)
  · exact ite_yes c6 (by unfold F.enE; rw [if_neg hin, if_pos (.inr (by omega))])
  refine ite_no c6 ?_
  have h2 : ¬ (120 < text.length ∨ 8 < kind.length) := by omega
  by_cases c7 : kind = []
  · exact ite_yes c7 (by unfold F.enE; rw [if_neg hin, if_neg h2, if_pos (.inl c7)])
  refine ite_no c7 ⟨⟨rfl, by omega⟩, ?_⟩
  by_cases c8 : F.low kind = true
  · refine ite_no (by rw [trm_low c8]; simp) ⟨h0.1, ite_no (by simp [c8]) ?_⟩
    unfold F.enE
    rw [if_neg hin, if_neg h2, if_neg (by simp [c7, c8])]
  · have e6 : F.enE n t kind text = 6 := by
      unfold F.enE
      rw [if_neg hin, if_neg h2, if_pos (.inr (by simpa using c8))]
    by_cases c9 : F.trm kind = []
    · exact ite_no (by simp [c9]) ⟨h0.1, ite_yes (by simpa using c8) (by rw [e6])⟩
    · exact ite_yes c9 (by rw [e6])



noncomputable def s_rcheck : Summ cod := fun args H => match args, H with
  | [.agg [.int .i64 n, .int .i64 t, .str kind, .str text]], [] => .need ((kind.length ≤ 1000000000000000 ∧ text.length ≤ 1000000000000000)) (.ret (.c (.int .i64 (F.enE n t kind text)), []))
  | _, _ => .fail


theorem rcheck_sound : Sound Tryd.prog cod 22 s_rcheck := sound_runs (cfg := C_itoaR) L_itoaR_ok mixed Tryd.func22 rfl rfl _ fun args H r news hg b0 hb => by
  unfold s_rcheck at hg
  split at hg
  · skip
    simp only [T.gives, T.wp, Prod.mk.injEq] at hg
    obtain ⟨q0, rfl, rfl⟩ := hg
    exact rcheck_run _ _ _ _ b0 hb (by assumption)
  · exact hg.elim

noncomputable def L_rcheck : Sums cod := (22, .p s_rcheck) :: L_itoaR
noncomputable def C_rcheck : Cfg cod := mkC L_rcheck

theorem L_rcheck_ok : Snd Tryd.prog cod L_rcheck := .cons rcheck_sound L_itoaR_ok



def cuts_enterr : Cuts := [(8, [1, 29, 30], 1)]

theorem enterr_t0 (n t : Int) (kind text : List UInt8) : symF C_rcheck cuts_enterr Tryd.f21.results.toList 0 400 [.code (codeOf Tryd.f21)] ⟨argsS Tryd.f21 [.agg [.int .i64 n, .int .i64 t, .str kind, .str text]], ([] : Heap cod)⟩ =
 cond (!F.inb n 1 500) (
 .ret (.fin (.c (.int .i64 4)) [])) (
 cond (!F.inb t 0 200000) (
  .ret (.fin (.c (.int .i64 4)) [])) (
  cond (decide (120 < Int.ofNat (List.length text))) (
   .ret (.fin (.c (.int .i64 2)) [])) (
   cond (decide (8 < Int.ofNat (List.length kind))) (
    .ret (.fin (.c (.int .i64 2)) [])) (
    cond (decide (kind = [])) (
     .ret (.fin (.c (.int .i64 6)) [])) (
     .ret (.cut (cutAt Tryd.f21 8) ⟨tmG 16 [(1, .c (.ptr 0 0 0)), (27, .c (.int .i64 (Int.ofNat (List.length kind)))), (0, .c (.int .i64 0))], [.blk [.int .i64 n, .int .i64 t, .str kind, .str text] 42]⟩)))))) := by kernel_rfl


noncomputable def st_enterr_8 (n t : Int) (kind text : List UInt8) (i : Int) : St cod := ⟨tmG 16 [(1, .c (.ptr 0 0 0)), (27, .c (.int .i64 (Int.ofNat (List.length kind)))), (0, .c (.int .i64 i))], [.blk [.int .i64 n, .int .i64 t, .str kind, .str text] 42]⟩


theorem enterr_t8 (n t : Int) (kind text : List UInt8) (i : Int) : symF C_rcheck cuts_enterr Tryd.f21.results.toList 0 400 (cutAt Tryd.f21 8) (st_enterr_8 n t kind text i) =
 cond (decide (i < Int.ofNat (List.length kind))) (
 .need (((0 : Int) ≤ i ∧ i < Int.ofNat (List.length kind))) (
 cond (decide (97 ≤ Int.ofNat (UInt8.toNat (List.getD kind (Int.toNat i) 0)))) (
  .need (((0 : Int) ≤ i ∧ i < Int.ofNat (List.length kind))) (
  cond (!decide (Int.ofNat (UInt8.toNat (List.getD kind (Int.toNat i) 0)) ≤ 122)) (
   .ret (.fin (.c (.int .i64 6)) [])) (
   .need (i64ok (i + 1)) (
   .ret (.cut (cutAt Tryd.f21 8) ⟨tmG 16 [(1, .c (.ptr 0 0 0)), (27, .c (.int .i64 (Int.ofNat (List.length kind)))), (0, .c (.int .i64 (i + 1)))], [.blk [.int .i64 n, .int .i64 t, .str kind, .str text] 42]⟩))))) (
  .ret (.fin (.c (.int .i64 6)) [])))) (
 .ret (.fin (.c (.int .i64 0)) [])) := by kernel_rfl



theorem enterr_run (n t : Int) (kind text : List UInt8) (b0 : Base) (hb : b0.n = 0) (h0 : kind.length ≤ 1000000000000000 ∧ text.length ≤ 1000000000000000) : Sym.Runs Tryd.prog b0 [.code (codeOf Tryd.f21)] ⟨argsS Tryd.f21 [.agg [.int .i64 n, .int .i64 t, .str kind, .str text]], ([] : Heap cod)⟩ (Sym.Ends Tryd.prog Tryd.f21 0 (.c (.int .i64 (F.enE n t kind text))) []) := by
  have key : F.enE n t kind text = 6 ∨ F.enE n t kind text = 0 → (F.enE n t kind text = 0 ↔ F.low kind = true) → ∀ (m : Nat) (i : Int), 0 ≤ i → i + m = kind.length → (F.low kind = F.low (kind.drop i.toNat)) →
      Sym.Runs Tryd.prog b0 (cutAt Tryd.f21 8) (st_enterr_8 n t kind text i) (Sym.Ends Tryd.prog Tryd.f21 0 (.c (.int .i64 (F.enE n t kind text))) []) := by
    intro h6 hlow m
    have no : F.low kind = false → SV.c (Cell.int .i64 6) = SV.c (Cell.int .i64 (F.enE n t kind text)) := fun h => by
      rcases h6 with e | e
      · rw [e]
      · rw [hlow.1 e] at h; cases h
    induction m with
    | zero =>
      intro i hi hm hl
      refine Runs.go (cfg := C_rcheck) L_rcheck_ok mixed cuts_enterr 400 hb (enterr_t8 n t kind text i) ?_
      have h1 : ¬ i < (kind.length : Int) := by omega
      rw [drop_end kind h1] at hl
      simp only [T.wp, T.wp_cond, Aft, Int.ofNat_eq_natCast, decide_eq_true_eq, and_true, true_and, Nat.zero_add, Bool.not_eq_true', decide_eq_false_iff_not]
      exact ite_no h1 (by rw [hlow.2 hl])
    | succ m ih =>
      intro i hi hm hl
      refine Runs.go (cfg := C_rcheck) L_rcheck_ok mixed cuts_enterr 400 hb (enterr_t8 n t kind text i) ?_
      have h1 : i < (kind.length : Int) := by omega
      rw [drop_at kind 0 hi h1] at hl
      have nx := ih (i + 1) (by omega) (by omega)
      have hi1 : i64ok (i + 1) := by unfold i64ok; omega
      simp only [T.wp, T.wp_cond, Aft, Int.ofNat_eq_natCast, decide_eq_true_eq, and_true, true_and, Nat.zero_add, Bool.not_eq_true', decide_eq_false_iff_not]
      generalize kind.getD i.toNat 0 = c at *
      refine ite_yes h1 ⟨⟨hi, h1⟩, ?_⟩
      by_cases c1 : 97 ≤ (c.toNat : Int)
      · refine ite_yes c1 ⟨⟨hi, h1⟩, ?_⟩
        by_cases c2 : (c.toNat : Int) ≤ 122
        · refine ite_no (by simp [c2]) ⟨hi1, nx ?_⟩
          rw [hl, F.low, List.all_cons, F.lowB, decide_eq_true (by omega), decide_eq_true (by omega)]
          rfl
        · refine ite_yes (by simpa using c2) (no ?_)
          rw [hl, F.low, List.all_cons, F.lowB, decide_eq_false (show ¬ (c.toNat : Int) ≤ 122 by omega), Bool.and_false]
          rfl
      · refine ite_no c1 (no ?_)
        rw [hl, F.low, List.all_cons, F.lowB, decide_eq_false (by omega)]
        rfl
  refine Runs.go (cfg := C_rcheck) L_rcheck_ok mixed cuts_enterr 400 hb (enterr_t0 n t kind text) ?_
  simp only [T.wp, T.wp_cond, Aft, Int.ofNat_eq_natCast, decide_eq_true_eq, and_true, true_and, Nat.zero_add, Bool.not_eq_true', decide_eq_false_iff_not, Bool.not_eq_true']
  by_cases c1 : F.inb n 1 500 = true
  rotate_left
  · have c1' : F.inb n 1 500 = false := by simpa using c1
    exact ite_yes c1' (by unfold F.enE; rw [if_pos (by simp [c1'])])
  refine ite_no (by simp [c1]) ?_
  by_cases c3 : F.inb t 0 200000 = true
  rotate_left
  · have c3' : F.inb t 0 200000 = false := by simpa using c3
    exact ite_yes c3' (by unfold F.enE; rw [if_pos (by simp [c3'])])
  refine ite_no (by simp [c3]) ?_
  have hin : ¬ (F.inb n 1 500 && F.inb t 0 200000) = false := by simp [c1, c3]
  by_cases c5 : (120 : Int) < (text.length : Int)
  · exact ite_yes c5 (by unfold F.enE; rw [if_neg hin, if_pos (.inl (by omega))])
  refine ite_no c5 ?_
  by_cases c6 : (8 : Int) < (kind.length : Int)
  · exact ite_yes c6 (by unfold F.enE; rw [if_neg hin, if_pos (.inr (by omega))])
  refine ite_no c6 ?_
  have h2 : ¬ (120 < text.length ∨ 8 < kind.length) := by omega
  by_cases c7 : kind = []
  · exact ite_yes c7 (by unfold F.enE; rw [if_neg hin, if_neg h2, if_pos (.inl c7)])
  refine ite_no c7 ?_
  have e6 : F.enE n t kind text = if F.low kind = false then 6 else 0 := by
    unfold F.enE
    rw [if_neg hin, if_neg h2]
    simp [c7]
  refine key (by rw [e6]; split <;> simp) (by rw [e6]; split <;> simp_all) kind.length 0 (by omega) (by omega) rfl



noncomputable def s_enterr : Summ cod := fun args H => match args, H with
  | [.agg [.int .i64 n, .int .i64 t, .str kind, .str text]], [] => .need ((kind.length ≤ 1000000000000000 ∧ text.length ≤ 1000000000000000)) (.ret (.c (.int .i64 (F.enE n t kind text)), []))
  | _, _ => .fail


theorem enterr_sound : Sound Tryd.prog cod 21 s_enterr := sound_runs (cfg := C_rcheck) L_rcheck_ok mixed Tryd.func21 rfl rfl _ fun args H r news hg b0 hb => by
  unfold s_enterr at hg
  split at hg
  · skip
    simp only [T.gives, T.wp, Prod.mk.injEq] at hg
    obtain ⟨q0, rfl, rfl⟩ := hg
    exact enterr_run _ _ _ _ b0 hb (by assumption)
  · exact hg.elim

noncomputable def L_enterr : Sums cod := (21, .p s_enterr) :: L_rcheck
noncomputable def C_enterr : Cfg cod := mkC L_enterr

theorem L_enterr_ok : Snd Tryd.prog cod L_enterr := .cons enterr_sound L_rcheck_ok



def cuts_enbytes : Cuts := []

theorem enbytes_t0 (n t : Int) (kind text : List UInt8) : symF C_enterr cuts_enbytes Tryd.f25.results.toList 0 400 [.code (codeOf Tryd.f25)] ⟨argsS Tryd.f25 [.agg [.int .i64 n, .int .i64 t, .str kind, .str text]], ([] : Heap cod)⟩ =
.need (((0 : Int) ≤ n ∧ n ≤ 9223372036854775807)) (
.need (List.length (F.itoa n) + 1 ≤ 9223372036854775807) (
.need (((0 : Int) ≤ t ∧ t ≤ 9223372036854775807)) (
.need (List.length (F.itoa n ++ [32]) + List.length (F.itoa t) ≤ 9223372036854775807) (
.need (List.length (F.itoa n ++ [32] ++ F.itoa t) + 1 ≤ 9223372036854775807) (
.need (List.length (F.itoa n ++ [32] ++ F.itoa t ++ [32]) + List.length kind ≤ 9223372036854775807) (
.need (List.length (F.itoa n ++ [32] ++ F.itoa t ++ [32] ++ kind) + 1 ≤ 9223372036854775807) (
.need (((0 : Int) ≤ Int.ofNat (List.length text) ∧ Int.ofNat (List.length text) ≤ 9223372036854775807)) (
.need (List.length (F.itoa n ++ [32] ++ F.itoa t ++ [32] ++ kind ++ [32]) +     List.length (F.itoa (Int.ofNat (List.length text))) ≤   9223372036854775807) (
.need (List.length (F.itoa n ++ [32] ++ F.itoa t ++ [32] ++ kind ++ [32] ++ F.itoa (Int.ofNat (List.length text))) + 1 ≤   9223372036854775807) (
.need (List.length (F.itoa n ++ [32] ++ F.itoa t ++ [32] ++ kind ++ [32] ++ F.itoa (Int.ofNat (List.length text)) ++ [58]) +     List.length text ≤   9223372036854775807) (
.need (List.length       (F.itoa n ++ [32] ++ F.itoa t ++ [32] ++ kind ++ [32] ++ F.itoa (Int.ofNat (List.length text)) ++ [58] ++ text) +     1 ≤   9223372036854775807) (
.need (List.length     (F.itoa n ++ [32] ++ F.itoa t ++ [32] ++ kind ++ [32] ++ F.itoa (Int.ofNat (List.length text)) ++ [58] ++ text) ≤   1000000000000000) (
.need (((0 : Int) ≤ F.sum (F.itoa n ++ [32] ++ F.itoa t ++ [32] ++ kind ++ [32] ++ F.itoa (Int.ofNat (List.length text)) ++ [58] ++ text) ∧ F.sum (F.itoa n ++ [32] ++ F.itoa t ++ [32] ++ kind ++ [32] ++ F.itoa (Int.ofNat (List.length text)) ++ [58] ++ text) ≤   9223372036854775807)) (
.need (List.length       (F.itoa n ++ [32] ++ F.itoa t ++ [32] ++ kind ++ [32] ++ F.itoa (Int.ofNat (List.length text)) ++ [58] ++ text ++         [59]) +     List.length       (F.itoa         (F.sum           (F.itoa n ++ [32] ++ F.itoa t ++ [32] ++ kind ++ [32] ++ F.itoa (Int.ofNat (List.length text)) ++ [58] ++             text))) ≤   9223372036854775807) (
.need (List.length       (F.itoa n ++ [32] ++ F.itoa t ++ [32] ++ kind ++ [32] ++ F.itoa (Int.ofNat (List.length text)) ++ [58] ++ text ++           [59] ++         F.itoa           (F.sum             (F.itoa n ++ [32] ++ F.itoa t ++ [32] ++ kind ++ [32] ++ F.itoa (Int.ofNat (List.length text)) ++ [58] ++               text))) +     1 ≤   9223372036854775807) (
.ret (.fin (.c (.str (F.itoa n ++ [32] ++ F.itoa t ++ [32] ++ kind ++ [32] ++ F.itoa (Int.ofNat (List.length text)) ++ [58] ++ text ++ [59] ++     F.itoa       (F.sum         (F.itoa n ++ [32] ++ F.itoa t ++ [32] ++ kind ++ [32] ++ F.itoa (Int.ofNat (List.length text)) ++ [58] ++           text)) ++   [10]))) []))))))))))))))))) := by kernel_rfl



theorem enbytes_run (n t : Int) (kind text : List UInt8) (b0 : Base) (hb : b0.n = 0) (h0 : F.enE n t kind text = 0) : Sym.Runs Tryd.prog b0 [.code (codeOf Tryd.f25)] ⟨argsS Tryd.f25 [.agg [.int .i64 n, .int .i64 t, .str kind, .str text]], ([] : Heap cod)⟩ (Sym.Ends Tryd.prog Tryd.f25 0 (.c (.str (F.enB n t kind text))) []) := by
  obtain ⟨⟨k1, k2, k3, k4⟩, k5, k6, k7, k8⟩ := enE_ok h0
  refine Runs.go (cfg := C_enterr) L_enterr_ok mixed cuts_enbytes 400 hb (enbytes_t0 n t kind text) ?_
  simp only [T.wp, T.wp_cond, Aft, Int.ofNat_eq_natCast, decide_eq_true_eq, and_true, true_and, Nat.zero_add, Bool.not_eq_true', decide_eq_false_iff_not]
  have es : F.itoa n ++ [32] ++ F.itoa t ++ [32] ++ kind ++ [32] ++ F.itoa (text.length : Int) ++ [58] ++ text = F.enS n t kind text := rfl
  rw [es]
  have l1 := itoa_len n
  have l2 := itoa_len t
  have l3 := itoa_len (text.length : Int)
  have l4 := itoa_len (F.sum (F.enS n t kind text))
  have ls : (F.enS n t kind text).length ≤ 300 := by
    simp only [F.enS, List.length_append, List.length_cons, List.length_nil]
    omega
  have sb := sum_bd (F.enS n t kind text)
  simp only [List.length_append, List.length_cons, List.length_nil]
  refine ⟨by omega, by omega, by omega, by omega, by omega, by omega, by omega, by omega, by omega, by omega, by omega, by omega, by omega, by omega, by omega, by omega, rfl⟩



noncomputable def s_enbytes : Summ cod := fun args H => match args, H with
  | [.agg [.int .i64 n, .int .i64 t, .str kind, .str text]], [] => .need ((F.enE n t kind text = 0)) (.ret (.c (.str (F.enB n t kind text)), []))
  | _, _ => .fail


theorem enbytes_sound : Sound Tryd.prog cod 25 s_enbytes := sound_runs (cfg := C_enterr) L_enterr_ok mixed Tryd.func25 rfl rfl _ fun args H r news hg b0 hb => by
  unfold s_enbytes at hg
  split at hg
  · skip
    simp only [T.gives, T.wp, Prod.mk.injEq] at hg
    obtain ⟨q0, rfl, rfl⟩ := hg
    exact enbytes_run _ _ _ _ b0 hb (by assumption)
  · exact hg.elim

noncomputable def L_enbytes : Sums cod := (25, .p s_enbytes) :: L_enterr
noncomputable def C_enbytes : Cfg cod := mkC L_enbytes

theorem L_enbytes_ok : Snd Tryd.prog cod L_enbytes := .cons enbytes_sound L_enterr_ok



def cuts_encode : Cuts := []

theorem encode_t0 (n t : Int) (kind text : List UInt8) : symF C_enbytes cuts_encode Tryd.f19.results.toList 0 400 [.code (codeOf Tryd.f19)] ⟨argsS Tryd.f19 [.agg [.int .i64 n, .int .i64 t, .str kind, .str text]], ([] : Heap cod)⟩ =
.need ((List.length kind ≤ 1000000000000000 ∧ List.length text ≤ 1000000000000000)) (
 cond (!decide (F.enE n t kind text = 0)) (
 .ret (.fin (.tup [.c (.str []), .c (.int .i64 (F.enE n t kind text))]) [])) (
 .need (i64ok n) (
 .need (List.length (F.itoaZ n) + 1 ≤ 9223372036854775807) (
 .need (i64ok t) (
 .need (List.length (F.itoaZ n ++ [32]) + List.length (F.itoaZ t) ≤ 9223372036854775807) (
 .need (List.length (F.itoaZ n ++ [32] ++ F.itoaZ t) + 1 ≤ 9223372036854775807) (
 .need (List.length (F.itoaZ n ++ [32] ++ F.itoaZ t ++ [32]) + List.length kind ≤ 9223372036854775807) (
 .need (List.length (F.itoaZ n ++ [32] ++ F.itoaZ t ++ [32] ++ kind) + 1 ≤ 9223372036854775807) (
 .need (i64ok (Int.ofNat (List.length text))) (
 .need (List.length (F.itoaZ n ++ [32] ++ F.itoaZ t ++ [32] ++ kind ++ [32]) +     List.length (F.itoaZ (Int.ofNat (List.length text))) ≤   9223372036854775807) (
 .need (List.length (F.itoaZ n ++ [32] ++ F.itoaZ t ++ [32] ++ kind ++ [32] ++ F.itoaZ (Int.ofNat (List.length text))) + 1 ≤   9223372036854775807) (
 .need (List.length (F.itoaZ n ++ [32] ++ F.itoaZ t ++ [32] ++ kind ++ [32] ++ F.itoaZ (Int.ofNat (List.length text)) ++ [58]) +     List.length text ≤   9223372036854775807) (
 .need (List.length       (F.itoaZ n ++ [32] ++ F.itoaZ t ++ [32] ++ kind ++ [32] ++ F.itoaZ (Int.ofNat (List.length text)) ++ [58] ++         text) +     1 ≤   9223372036854775807) (
 .need (List.length     (F.itoaZ n ++ [32] ++ F.itoaZ t ++ [32] ++ kind ++ [32] ++ F.itoaZ (Int.ofNat (List.length text)) ++ [58] ++ text) ≤   1000000000000000) (
 .need (i64ok   (F.sum     (F.itoaZ n ++ [32] ++ F.itoaZ t ++ [32] ++ kind ++ [32] ++ F.itoaZ (Int.ofNat (List.length text)) ++ [58] ++ text))) (
 .need (List.length       (F.itoaZ n ++ [32] ++ F.itoaZ t ++ [32] ++ kind ++ [32] ++ F.itoaZ (Int.ofNat (List.length text)) ++ [58] ++           text ++         [59]) +     List.length       (F.itoaZ         (F.sum           (F.itoaZ n ++ [32] ++ F.itoaZ t ++ [32] ++ kind ++ [32] ++ F.itoaZ (Int.ofNat (List.length text)) ++ [58] ++             text))) ≤   9223372036854775807) (
 .need (List.length       (F.itoaZ n ++ [32] ++ F.itoaZ t ++ [32] ++ kind ++ [32] ++ F.itoaZ (Int.ofNat (List.length text)) ++ [58] ++             text ++           [59] ++         F.itoaZ           (F.sum             (F.itoaZ n ++ [32] ++ F.itoaZ t ++ [32] ++ kind ++ [32] ++ F.itoaZ (Int.ofNat (List.length text)) ++ [58] ++               text))) +     1 ≤   9223372036854775807) (
 .ret (.fin (.tup [.c (.str (F.itoaZ n ++ [32] ++ F.itoaZ t ++ [32] ++ kind ++ [32] ++ F.itoaZ (Int.ofNat (List.length text)) ++ [58] ++ text ++       [59] ++     F.itoaZ       (F.sum         (F.itoaZ n ++ [32] ++ F.itoaZ t ++ [32] ++ kind ++ [32] ++ F.itoaZ (Int.ofNat (List.length text)) ++ [58] ++           text)) ++   [10])), .c (.int .i64 0)]) []))))))))))))))))))) := by kernel_rfl



theorem encode_run (n t : Int) (kind text : List UInt8) (b0 : Base) (hb : b0.n = 0) (h0 : kind.length ≤ 1000000000000000 ∧ text.length ≤ 1000000000000000) : Sym.Runs Tryd.prog b0 [.code (codeOf Tryd.f19)] ⟨argsS Tryd.f19 [.agg [.int .i64 n, .int .i64 t, .str kind, .str text]], ([] : Heap cod)⟩ (Sym.Ends Tryd.prog Tryd.f19 0 (.tup [.c (.str (F.encR n t kind text)), .c (.int .i64 (F.enE n t kind text))]) []) := by
  refine Runs.go (cfg := C_enbytes) L_enbytes_ok mixed cuts_encode 400 hb (encode_t0 n t kind text) ?_
  simp only [T.wp, T.wp_cond, Aft, Int.ofNat_eq_natCast, decide_eq_true_eq, and_true, true_and, Nat.zero_add, Bool.not_eq_true', decide_eq_false_iff_not, Bool.not_eq_true', decide_eq_false_iff_not]
  refine ⟨h0, ?_⟩
  by_cases c : F.enE n t kind text = 0
  rotate_left
  · have e : F.encR n t kind text = [] := if_neg c
    rw [e]
    exact ite_yes c rfl
  have e : F.encR n t kind text = F.enB n t kind text := if_pos c
  rw [e]
  refine ite_no (by simp [c]) ?_
  obtain ⟨⟨k1, k2, k3, k4⟩, k5, k6, k7, k8⟩ := enE_ok c
  rw [itoaZ_pos (show 0 ≤ n by omega), itoaZ_pos k3, itoaZ_pos (show 0 ≤ (text.length : Int) by omega)]
  have es : F.itoa n ++ [32] ++ F.itoa t ++ [32] ++ kind ++ [32] ++ F.itoa (text.length : Int) ++ [58] ++ text = F.enS n t kind text := rfl
  rw [es]
  have l1 := itoa_len n
  have l2 := itoa_len t
  have l3 := itoa_len (text.length : Int)
  have l4 := itoa_len (F.sum (F.enS n t kind text))
  have ls : (F.enS n t kind text).length ≤ 300 := by
    simp only [F.enS, List.length_append, List.length_cons, List.length_nil]
    omega
  have sb := sum_bd (F.enS n t kind text)
  rw [itoaZ_pos sb.1]
  simp only [List.length_append, List.length_cons, List.length_nil, i64ok]
  refine ⟨by omega, by omega, by omega, by omega, by omega, by omega, by omega, by omega, by omega, by omega, by omega, by omega, by omega, by omega, by omega, by omega, ?_⟩
  rw [c]
  rfl



noncomputable def s_encode : Summ cod := fun args H => match args, H with
  | [.agg [.int .i64 n, .int .i64 t, .str kind, .str text]], [] => .need ((kind.length ≤ 1000000000000000 ∧ text.length ≤ 1000000000000000)) (.ret (.tup [.c (.str (F.encR n t kind text)), .c (.int .i64 (F.enE n t kind text))], []))
  | _, _ => .fail


theorem encode_sound : Sound Tryd.prog cod 19 s_encode := sound_runs (cfg := C_enbytes) L_enbytes_ok mixed Tryd.func19 rfl rfl _ fun args H r news hg b0 hb => by
  unfold s_encode at hg
  split at hg
  · skip
    simp only [T.gives, T.wp, Prod.mk.injEq] at hg
    obtain ⟨q0, rfl, rfl⟩ := hg
    exact encode_run _ _ _ _ b0 hb (by assumption)
  · exact hg.elim

noncomputable def L_encode : Sums cod := (19, .p s_encode) :: L_enbytes
noncomputable def C_encode : Cfg cod := mkC L_encode

theorem L_encode_ok : Snd Tryd.prog cod L_encode := .cons encode_sound L_enbytes_ok


end
end Go.Proofs.YtoflfgcdagoobaaDoor
