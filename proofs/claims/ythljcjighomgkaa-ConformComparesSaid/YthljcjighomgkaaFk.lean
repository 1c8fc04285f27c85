/- Part of a claim: lemmas on the way to its theorem; each states its own conditions. -/
import Derived.Test.YthljcjighomgkaaFt
import Derived.Test.YthljcjighomgkaaSym22
namespace Go.Proofs.Ythljcjighomgkaa
open Sym Go.RowKit
noncomputable section
set_option maxRecDepth 100000
set_option maxHeartbeats 4000000

namespace F
abbrev Nd := Int × Int × Int × Int × Int × Int
def nd0 : Nd := (0, 0, 0, 0, 0, 0)
def rootF (n : Int) : Nat → Int → Int → Int
  | 0, lo, _ => lo
  | k + 1, lo, hi => if lo < hi then (if (lo + (hi - lo + 1) / 2) * (lo + (hi - lo + 1) / 2) ≤ n then rootF n k (lo + (hi - lo + 1) / 2) hi else rootF n k lo (lo + (hi - lo + 1) / 2 - 1)) else lo
def root (n : Int) : Int := if n ≤ 0 then 0 else rootF n 33 0 3037000499
def nt (l : List Nd) (k : Nat) : Int := (l.getD k nd0).1
def tubeG (l : List Nd) : Nat → Nat → Int
  | 0, _ => 0
  | m + 1, k => if nt l k < 0 then 12 else if 200000 < nt l k then 12 else if 0 < k ∧ nt l k ≤ nt l (k - 1) then 12 else
    if ¬ pt (l.getD k nd0).2.1 (l.getD k nd0).2.2.1 = 0 then pt (l.getD k nd0).2.1 (l.getD k nd0).2.2.1 else
    if (l.getD k nd0).2.2.2.1 < 0 then 4 else if 60000 < (l.getD k nd0).2.2.2.1 then 4 else if (l.getD k nd0).2.2.2.2.1 < 0 then 4 else if 1000000 < (l.getD k nd0).2.2.2.2.1 then 4 else
    if (l.getD k nd0).2.2.2.2.2 < 0 then 4 else if 60000 < (l.getD k nd0).2.2.2.2.2 then 4 else tubeG l m (k + 1)
def tubeE (l : List Nd) : Int := if 64 < l.length then 2 else if l.length = 0 then 3 else tubeG l l.length 0
def bsF (l : List Nd) (t : Int) : Nat → Nat → Nat → Nat
  | 0, lo, _ => lo
  | m + 1, lo, hi => if lo < hi then (if nt l ((lo + hi) / 2) < t then bsF l t m ((lo + hi) / 2 + 1) hi else bsF l t m lo ((lo + hi) / 2)) else lo
def bsI (l : List Nd) (t : Int) : Nat := bsF l t 7 0 l.length
def bsB (l : List Nd) (t : Int) : Bool := decide (bsI l t < l.length) && decide (nt l (bsI l t) - t = 0)
end F


theorem rootF_spec (n : Int) : ∀ (k : Nat) (lo hi : Int), 0 ≤ lo → lo ≤ hi → hi - lo < 2 ^ k → lo * lo ≤ n → n < (hi + 1) * (hi + 1) → 0 ≤ F.rootF n k lo hi ∧ F.rootF n k lo hi ≤ hi ∧ F.rootF n k lo hi * F.rootF n k lo hi ≤ n ∧ n < (F.rootF n k lo hi + 1) * (F.rootF n k lo hi + 1)
  | 0, lo, hi, h0, h1, h2, h3, h4 => by
    simp only [F.rootF]
    obtain rfl : hi = lo := by simp at h2; omega
    exact ⟨h0, by omega, h3, h4⟩
  | k + 1, lo, hi, h0, h1, h2, h3, h4 => by
    simp only [F.rootF]
    rw [Int.pow_succ] at h2
    generalize hp : (2 : Int) ^ k = p at h2
    split
    · rename_i hlt
      split
      · rename_i hm
        have := rootF_spec n k (lo + (hi - lo + 1) / 2) hi (by omega) (by omega) (by rw [hp]; omega) hm h4
        exact this
      · rename_i hm
        have := rootF_spec n k lo (lo + (hi - lo + 1) / 2 - 1) h0 (by omega) (by rw [hp]; omega) h3 (by rw [show lo + (hi - lo + 1) / 2 - 1 + 1 = lo + (hi - lo + 1) / 2 by omega]; omega)
        exact ⟨this.1, by omega, this.2.2.1, this.2.2.2⟩
    · obtain rfl : hi = lo := by omega
      exact ⟨h0, by omega, h3, h4⟩
theorem root_spec {n : Int} (h0 : 0 ≤ n) (h1 : n < 3037000500 * 3037000500) : 0 ≤ F.root n ∧ F.root n ≤ 3037000499 ∧ F.root n * F.root n ≤ n ∧ n < (F.root n + 1) * (F.root n + 1) := by
  unfold F.root
  split
  · obtain rfl : n = 0 := by omega
    simp
  · exact rootF_spec n 33 0 3037000499 (by omega) (by omega) (by decide) (by omega) h1
theorem tubeG_zero (l : List F.Nd) : ∀ (m k : Nat), F.tubeG l m k = 0 → ∀ j, k ≤ j → j < k + m → (0 ≤ F.nt l j ∧ F.nt l j ≤ 200000) ∧ (0 < j → F.nt l (j - 1) < F.nt l j) ∧ F.pt (l.getD j F.nd0).2.1 (l.getD j F.nd0).2.2.1 = 0 ∧ (0 ≤ (l.getD j F.nd0).2.2.2.1 ∧ (l.getD j F.nd0).2.2.2.1 ≤ 60000) ∧
    (0 ≤ (l.getD j F.nd0).2.2.2.2.1 ∧ (l.getD j F.nd0).2.2.2.2.1 ≤ 1000000) ∧ (0 ≤ (l.getD j F.nd0).2.2.2.2.2 ∧ (l.getD j F.nd0).2.2.2.2.2 ≤ 60000)
  | 0, k, _, j, h1, h2 => by omega
  | m + 1, k, h, j, h1, h2 => by
    unfold F.tubeG at h
    by_cases c1 : F.nt l k < 0
    · simp [c1] at h
    by_cases c2 : 200000 < F.nt l k
    · simp [c1, c2] at h
    by_cases c3 : 0 < k ∧ F.nt l k ≤ F.nt l (k - 1)
    · rw [if_neg c1, if_neg c2, if_pos c3] at h; omega
    rw [if_neg c1, if_neg c2, if_neg c3] at h
    by_cases c4 : F.pt (l.getD k F.nd0).2.1 (l.getD k F.nd0).2.2.1 = 0
    rotate_left
    · rw [if_pos c4] at h; exact absurd h c4
    rw [if_neg (by simpa using c4)] at h
    by_cases c5 : (l.getD k F.nd0).2.2.2.1 < 0
    · rw [if_pos c5] at h; omega
    rw [if_neg c5] at h
    by_cases c6 : 60000 < (l.getD k F.nd0).2.2.2.1
    · rw [if_pos c6] at h; omega
    rw [if_neg c6] at h
    by_cases c7 : (l.getD k F.nd0).2.2.2.2.1 < 0
    · rw [if_pos c7] at h; omega
    rw [if_neg c7] at h
    by_cases c8 : 1000000 < (l.getD k F.nd0).2.2.2.2.1
    · rw [if_pos c8] at h; omega
    rw [if_neg c8] at h
    by_cases c9 : (l.getD k F.nd0).2.2.2.2.2 < 0
    · rw [if_pos c9] at h; omega
    rw [if_neg c9] at h
    by_cases c10 : 60000 < (l.getD k F.nd0).2.2.2.2.2
    · rw [if_pos c10] at h; omega
    rw [if_neg c10] at h
    rcases Nat.eq_or_lt_of_le h1 with e | e
    · subst e
      refine ⟨by omega, fun hj => ?_, c4, by omega, by omega, by omega⟩
      have : ¬ F.nt l k ≤ F.nt l (k - 1) := fun hh => c3 ⟨hj, hh⟩
      omega
    · exact tubeG_zero l m (k + 1) h j (by omega) (by omega)


def cuts_root : Cuts := [(4, [0, 4, 3], 0)]

theorem root_t0 (n : Int) : symF C_fcheck cuts_root Try.f101.results.toList 0 400 [.code (codeOf Try.f101)] ⟨argsS Try.f101 [.c (.int .i64 n)], ([] : Heap cod)⟩ =
 cond (decide (n ≤ 0)) (
 .ret (.fin (.c (.int .i64 0)) [])) (
 .ret (.cut (cutAt Try.f101 4) ⟨tmG 22 [(0, .c (.int .i64 n)), (2, .c (.int .i64 0)), (0, .c (.int .i64 3037000499))], []⟩)) := by kernel_rfl


noncomputable def st_root_4 (n : Int) (lo hi : Int) : St cod := ⟨tmG 22 [(0, .c (.int .i64 n)), (2, .c (.int .i64 lo)), (0, .c (.int .i64 hi))], []⟩


theorem root_t4 (n : Int) (lo hi : Int) : symF C_fcheck cuts_root Try.f101.results.toList 0 400 (cutAt Try.f101 4) (st_root_4 n lo hi) =
 cond (decide (lo < hi)) (
 .need (i64ok (hi - lo)) (
 .need (i64ok (hi - lo + 1)) (
 .need ((2 : Int) ≠ 0) (
 .need (i64ok (Int.tdiv (hi - lo + 1) 2)) (
 .need (i64ok (lo + Int.tdiv (hi - lo + 1) 2)) (
 .need (i64ok ((lo + Int.tdiv (hi - lo + 1) 2) * (lo + Int.tdiv (hi - lo + 1) 2))) (
 cond (decide ((lo + Int.tdiv (hi - lo + 1) 2) * (lo + Int.tdiv (hi - lo + 1) 2) ≤ n)) (
  .ret (.cut (cutAt Try.f101 4) ⟨tmG 22 [(0, .c (.int .i64 n)), (2, .c (.int .i64 (lo + Int.tdiv (hi - lo + 1) 2))), (0, .c (.int .i64 hi))], []⟩)) (
  .need (i64ok (lo + Int.tdiv (hi - lo + 1) 2 - 1)) (
  .ret (.cut (cutAt Try.f101 4) ⟨tmG 22 [(0, .c (.int .i64 n)), (2, .c (.int .i64 lo)), (0, .c (.int .i64 (lo + Int.tdiv (hi - lo + 1) 2 - 1)))], []⟩)))))))))) (
 .ret (.fin (.c (.int .i64 lo)) [])) := by kernel_rfl



theorem root_loop (n : Int) (b0 : Base) (hb : b0.n = 0) (u : Int) : ∀ (m : Nat) (lo hi : Int), 0 ≤ lo → lo ≤ hi → hi ≤ 3037000499 → hi - lo < 2 ^ m → u = F.rootF n m lo hi →
    Sym.Runs Try.prog b0 (cutAt Try.f101 4) (st_root_4 n lo hi) (Sym.Ends Try.prog Try.f101 0 (.c (.int .i64 u)) []) := by
  intro m
  induction m with
  | zero =>
    intro lo hi h0 h1 h2 h3 hu
    refine Runs.go (cfg := C_fcheck) L_fcheck_ok mixed cuts_root 400 hb (root_t4 n lo hi) ?_
    have h4 : ¬ lo < hi := by simp at h3; omega
    simp only [F.rootF] at hu
    simp only [T.wp, T.wp_cond, Aft, Int.ofNat_eq_natCast, decide_eq_true_eq, and_true, true_and, Nat.zero_add, Bool.not_eq_true', decide_eq_false_iff_not, h4, if_false, hu]
  | succ m ih =>
    intro lo hi h0 h1 h2 h3 hu
    refine Runs.go (cfg := C_fcheck) L_fcheck_ok mixed cuts_root 400 hb (root_t4 n lo hi) ?_
    simp only [F.rootF] at hu
    rw [Int.pow_succ] at h3
    generalize hp : (2 : Int) ^ m = p at *
    by_cases h4 : lo < hi
    · rw [if_pos h4] at hu
      have e : (hi - lo + 1).tdiv 2 = (hi - lo + 1) / 2 := Int.tdiv_eq_ediv_of_nonneg (by omega)
      have hq := sq_bd (x := lo + (hi - lo + 1) / 2) (a := 3037000499) (by omega)
      simp only [T.wp, T.wp_cond, Aft, Int.ofNat_eq_natCast, decide_eq_true_eq, and_true, true_and, Nat.zero_add, Bool.not_eq_true', decide_eq_false_iff_not, h4, if_true, e]
      generalize hmid : (hi - lo + 1) / 2 = q at *
      (repeat (refine ⟨(by first | rfl | trivial | assumption | omega | (unfold i64ok; omega) | (simp only [List.length_cons, List.length_nil]; omega) | exact ⟨by omega, trivial⟩), ?_⟩))
      by_cases h5 : (lo + q) * (lo + q) ≤ n
      · rw [if_pos h5] at hu
        rw [if_pos h5]
        exact ih _ _ (by omega) (by omega) (by omega) (by omega) hu
      · rw [if_neg h5] at hu
        rw [if_neg h5]
        refine ⟨by unfold i64ok; omega, ?_⟩
        exact ih _ _ (by omega) (by omega) (by omega) (by omega) hu
    · rw [if_neg h4] at hu
      simp only [T.wp, T.wp_cond, Aft, Int.ofNat_eq_natCast, decide_eq_true_eq, and_true, true_and, Nat.zero_add, Bool.not_eq_true', decide_eq_false_iff_not, h4, if_false, hu]
theorem root_run (n : Int) (b0 : Base) (hb : b0.n = 0) (h0 : i64ok n) : Sym.Runs Try.prog b0 [.code (codeOf Try.f101)] ⟨argsS Try.f101 [.c (.int .i64 n)], ([] : Heap cod)⟩ (Sym.Ends Try.prog Try.f101 0 (.c (.int .i64 (F.root n))) []) := by
  refine Runs.go (cfg := C_fcheck) L_fcheck_ok mixed cuts_root 400 hb (root_t0 n) ?_
  unfold F.root
  by_cases h : n ≤ 0
  · simp only [T.wp, T.wp_cond, Aft, Int.ofNat_eq_natCast, decide_eq_true_eq, and_true, true_and, Nat.zero_add, Bool.not_eq_true', decide_eq_false_iff_not, h, if_true]
  · simp only [T.wp, T.wp_cond, Aft, Int.ofNat_eq_natCast, decide_eq_true_eq, and_true, true_and, Nat.zero_add, Bool.not_eq_true', decide_eq_false_iff_not, h, if_false]
    exact root_loop n b0 hb _ 33 0 3037000499 (by omega) (by omega) (by omega) (by decide) rfl



noncomputable def s_root : Summ cod := fun args H => match args, H with
  | [.c (.int .i64 n)], [] => .need ((i64ok n)) (.ret (.c (.int .i64 (F.root n)), []))
  | _, _ => .fail


theorem root_sound : Sound Try.prog cod 101 s_root := sound_runs (cfg := C_fcheck) L_fcheck_ok mixed Try.func101 rfl rfl _ fun args H r news hg b0 hb => by
  unfold s_root at hg
  split at hg
  · skip
    simp only [T.gives, T.wp, Prod.mk.injEq] at hg
    obtain ⟨q0, rfl, rfl⟩ := hg
    exact root_run _ b0 hb (by assumption)
  · exact hg.elim

noncomputable def L_root : Sums cod := (101, .p s_root) :: L_fcheck
noncomputable def C_root : Cfg cod := mkC L_root

theorem L_root_ok : Snd Try.prog cod L_root := .cons root_sound L_fcheck_ok



def cuts_tcheck : Cuts := [(6, [0, 14, 15, 16], 1)]

theorem tcheck_t0 (l : List (Int × Int × Int × Int × Int × Int)) (l_t : Bool) : symF C_root cuts_tcheck Try.f53.results.toList 1 400 [.code (codeOf Try.f53)] ⟨argsS Try.f53 [.c (.slc 0 0 (List.length l) l_t)], ([.inp 2 l] : Heap cod)⟩ =
 cond (decide (64 < Int.ofNat (List.length l))) (
 .ret (.fin (.c (.int .i64 2)) [])) (
 cond (decide (Int.ofNat (List.length l) = 0)) (
  .ret (.fin (.c (.int .i64 3)) [])) (
  .ret (.cut (cutAt Try.f53 6) ⟨tmG 69 [(0, .c (.slc 0 0 (List.length l) l_t)), (13, .c (.slc 0 0 (List.length l) l_t)), (0, .c (.int .i64 (Int.ofNat (List.length l)))), (0, .c (.int .i64 0))], [.inp 2 l]⟩))) := by kernel_rfl


noncomputable def st_tcheck_6 (l : List (Int × Int × Int × Int × Int × Int)) (l_t : Bool) (i : Int) : St cod := ⟨tmG 69 [(0, .c (.slc 0 0 (List.length l) l_t)), (13, .c (.slc 0 0 (List.length l) l_t)), (0, .c (.int .i64 (Int.ofNat (List.length l)))), (0, .c (.int .i64 i))], [.inp 2 l]⟩


theorem tcheck_t6 (l : List (Int × Int × Int × Int × Int × Int)) (l_t : Bool) (i : Int) : symF C_root cuts_tcheck Try.f53.results.toList 1 400 (cutAt Try.f53 6) (st_tcheck_6 l l_t i) =
 cond (decide (i < Int.ofNat (List.length l))) (
 .need (((0 : Int) ≤ i ∧ i < Int.ofNat (List.length l))) (
 .need (0 + Int.toNat i < List.length l) (
 cond (decide ((List.getD l (0 + Int.toNat i) (cod 2).d).1 < 0)) (
  .ret (.fin (.c (.int .i64 12)) [])) (
  cond (decide (200000 < (List.getD l (0 + Int.toNat i) (cod 2).d).1)) (
   .ret (.fin (.c (.int .i64 12)) [])) (
   cond (decide (0 < i)) (
    .need (i64ok (i - 1)) (
    .need (((0 : Int) ≤ i - 1 ∧ i - 1 < Int.ofNat (List.length l))) (
    .need (0 + Int.toNat (i - 1) < List.length l) (
    cond (decide ((List.getD l (0 + Int.toNat i) (cod 2).d).1 ≤ (List.getD l (0 + Int.toNat (i - 1)) (cod 2).d).1)) (
     .ret (.fin (.c (.int .i64 12)) [])) (
     cond (!decide (F.pt (List.getD l (0 + Int.toNat i) (cod 2).d).2.1 (List.getD l (0 + Int.toNat i) (cod 2).d).2.2.1 = 0)) (
      .ret (.fin (.c (.int .i64 (F.pt (List.getD l (0 + Int.toNat i) (cod 2).d).2.1 (List.getD l (0 + Int.toNat i) (cod 2).d).2.2.1))) [])) (
      cond (decide ((List.getD l (0 + Int.toNat i) (cod 2).d).2.2.2.1 < 0)) (
       .ret (.fin (.c (.int .i64 4)) [])) (
       cond (decide (60000 < (List.getD l (0 + Int.toNat i) (cod 2).d).2.2.2.1)) (
        .ret (.fin (.c (.int .i64 4)) [])) (
        cond (decide ((List.getD l (0 + Int.toNat i) (cod 2).d).2.2.2.2.1 < 0)) (
         .ret (.fin (.c (.int .i64 4)) [])) (
         cond (decide (1000000 < (List.getD l (0 + Int.toNat i) (cod 2).d).2.2.2.2.1)) (
          .ret (.fin (.c (.int .i64 4)) [])) (
          cond (decide ((List.getD l (0 + Int.toNat i) (cod 2).d).2.2.2.2.2 < 0)) (
           .ret (.fin (.c (.int .i64 4)) [])) (
           cond (decide (60000 < (List.getD l (0 + Int.toNat i) (cod 2).d).2.2.2.2.2)) (
            .ret (.fin (.c (.int .i64 4)) [])) (
            .need (i64ok (i + 1)) (
            .ret (.cut (cutAt Try.f53 6) ⟨tmG 69 [(0, .c (.slc 0 0 (List.length l) l_t)), (13, .c (.slc 0 0 (List.length l) l_t)), (0, .c (.int .i64 (Int.ofNat (List.length l)))), (0, .c (.int .i64 (i + 1)))], [.inp 2 l]⟩)))))))))))))) (
    cond (!decide (F.pt (List.getD l (0 + Int.toNat i) (cod 2).d).2.1 (List.getD l (0 + Int.toNat i) (cod 2).d).2.2.1 = 0)) (
     .ret (.fin (.c (.int .i64 (F.pt (List.getD l (0 + Int.toNat i) (cod 2).d).2.1 (List.getD l (0 + Int.toNat i) (cod 2).d).2.2.1))) [])) (
     cond (decide ((List.getD l (0 + Int.toNat i) (cod 2).d).2.2.2.1 < 0)) (
      .ret (.fin (.c (.int .i64 4)) [])) (
      cond (decide (60000 < (List.getD l (0 + Int.toNat i) (cod 2).d).2.2.2.1)) (
       .ret (.fin (.c (.int .i64 4)) [])) (
       cond (decide ((List.getD l (0 + Int.toNat i) (cod 2).d).2.2.2.2.1 < 0)) (
        .ret (.fin (.c (.int .i64 4)) [])) (
        cond (decide (1000000 < (List.getD l (0 + Int.toNat i) (cod 2).d).2.2.2.2.1)) (
         .ret (.fin (.c (.int .i64 4)) [])) (
         cond (decide ((List.getD l (0 + Int.toNat i) (cod 2).d).2.2.2.2.2 < 0)) (
          .ret (.fin (.c (.int .i64 4)) [])) (
          cond (decide (60000 < (List.getD l (0 + Int.toNat i) (cod 2).d).2.2.2.2.2)) (
           .ret (.fin (.c (.int .i64 4)) [])) (
           .need (i64ok (i + 1)) (
           .ret (.cut (cutAt Try.f53 6) ⟨tmG 69 [(0, .c (.slc 0 0 (List.length l) l_t)), (13, .c (.slc 0 0 (List.length l) l_t)), (0, .c (.int .i64 (Int.ofNat (List.length l)))), (0, .c (.int .i64 (i + 1)))], [.inp 2 l]⟩))))))))))))))) (
 .ret (.fin (.c (.int .i64 0)) [])) := by kernel_rfl



theorem tcheck_loop (l : List F.Nd) (hl : l.length ≤ 64) (l_t : Bool) (b0 : Base) (hb : b0.n = 1) (u : Int) : ∀ (m k : Nat), k + m = l.length → u = F.tubeG l m k →
    Sym.Runs Try.prog b0 (cutAt Try.f53 6) (st_tcheck_6 l l_t k) (Sym.Ends Try.prog Try.f53 1 (.c (.int .i64 u)) []) := by
  have hd : (cod 2).d = F.nd0 := rfl
  intro m
  induction m with
  | zero =>
    intro k hk hu
    refine Runs.go (cfg := C_root) L_root_ok mixed cuts_tcheck 400 hb (tcheck_t6 l l_t k) ?_
    have h1 : ¬ (k : Int) < l.length := by omega
    simp only [F.tubeG] at hu
    simp only [T.wp, T.wp_cond, Aft, Int.ofNat_eq_natCast, decide_eq_true_eq, and_true, true_and, Nat.zero_add, Bool.not_eq_true', decide_eq_false_iff_not, h1, if_false, hu]
  | succ m ih =>
    intro k hk hu
    refine Runs.go (cfg := C_root) L_root_ok mixed cuts_tcheck 400 hb (tcheck_t6 l l_t k) ?_
    have h1 : (k : Int) < l.length := by omega
    have nx := ih (k + 1) (by omega)
    unfold F.tubeG F.nt at hu
    have hp : ((k : Int) - 1).toNat = k - 1 := by omega
    simp only [T.wp, T.wp_cond, Aft, Int.ofNat_eq_natCast, decide_eq_true_eq, and_true, true_and, Nat.zero_add, Bool.not_eq_true', decide_eq_false_iff_not, h1, if_true, hd, Int.toNat_natCast, hp]
    have hk0 : ((0 : Int) < (k : Int)) = (0 < k) := by simp
    simp only [hk0]
    generalize l.getD (k - 1) F.nd0 = e' at *
    generalize l.getD k F.nd0 = e at *
    obtain ⟨e1, e2, e3, e4, e5, e6⟩ := e
    simp only at hu ⊢
    (repeat (refine ⟨(by first | rfl | trivial | assumption | omega | (unfold i64ok; omega) | (simp only [List.length_cons, List.length_nil]; omega) | exact ⟨by omega, trivial⟩), ?_⟩))
    by_cases c1 : e1 < 0
    · simp only [c1, if_true] at hu ⊢; simp [hu]
    by_cases c2 : 200000 < e1
    · simp only [c1, c2, if_true, if_false] at hu ⊢; simp [hu]
    simp only [c1, c2, if_false] at hu ⊢
    by_cases c3 : 0 < k
    all_goals
      simp only [c3, if_true, if_false, true_and, false_and] at hu ⊢
      (repeat (refine ⟨(by first | rfl | trivial | assumption | omega | (unfold i64ok; omega) | (simp only [List.length_cons, List.length_nil]; omega) | exact ⟨by omega, trivial⟩), ?_⟩))
      try (by_cases c3' : e1 ≤ e'.1
           · simp only [c3', if_true] at hu ⊢; simp [hu]
           simp only [c3', if_false] at hu ⊢)
      by_cases c4 : F.pt e2 e3 = 0
      rotate_left
      · simp only [c4, not_false_eq_true, if_true] at hu ⊢; simp [hu]
      simp only [c4, not_true_eq_false, if_false] at hu ⊢
      by_cases c5 : e4 < 0
      · simp only [c5, if_true] at hu ⊢; simp [hu]
      simp only [c5, if_false] at hu ⊢
      by_cases c6 : 60000 < e4
      · simp only [c6, if_true] at hu ⊢; simp [hu]
      simp only [c6, if_false] at hu ⊢
      by_cases c7 : e5 < 0
      · simp only [c7, if_true] at hu ⊢; simp [hu]
      simp only [c7, if_false] at hu ⊢
      by_cases c8 : 1000000 < e5
      · simp only [c8, if_true] at hu ⊢; simp [hu]
      simp only [c8, if_false] at hu ⊢
      by_cases c9 : e6 < 0
      · simp only [c9, if_true] at hu ⊢; simp [hu]
      simp only [c9, if_false] at hu ⊢
      by_cases c10 : 60000 < e6
      · simp only [c10, if_true] at hu ⊢; simp [hu]
      simp only [c10, if_false] at hu ⊢
      exact ⟨by unfold i64ok; omega, nx hu⟩
theorem tcheck_run (l : List (Int × Int × Int × Int × Int × Int)) (l_t : Bool) (b0 : Base) (hb : b0.n = 1)  : Sym.Runs Try.prog b0 [.code (codeOf Try.f53)] ⟨argsS Try.f53 [.c (.slc 0 0 (List.length l) l_t)], ([.inp 2 l] : Heap cod)⟩ (Sym.Ends Try.prog Try.f53 1 (.c (.int .i64 (F.tubeE l))) []) := by
  refine Runs.go (cfg := C_root) L_root_ok mixed cuts_tcheck 400 hb (tcheck_t0 l l_t) ?_
  unfold F.tubeE
  by_cases h1 : 64 < l.length
  · have : (64 : Int) < l.length := by omega
    simp only [T.wp, T.wp_cond, Aft, Int.ofNat_eq_natCast, decide_eq_true_eq, and_true, true_and, Nat.zero_add, Bool.not_eq_true', decide_eq_false_iff_not, h1, this, if_true]
  have h1' : ¬ (64 : Int) < l.length := by omega
  by_cases h2 : l.length = 0
  · simp [T.wp, T.wp_cond, Aft, Int.ofNat_eq_natCast, decide_eq_true_eq, and_true, true_and, Nat.zero_add, Bool.not_eq_true', decide_eq_false_iff_not, h2]
  have h2' : ¬ (l.length : Int) = 0 := by omega
  simp only [T.wp, T.wp_cond, Aft, Int.ofNat_eq_natCast, decide_eq_true_eq, and_true, true_and, Nat.zero_add, Bool.not_eq_true', decide_eq_false_iff_not, h1, h1', h2, h2', if_false]
  exact tcheck_loop l (by omega) l_t b0 hb _ l.length 0 (by omega) rfl



noncomputable def s_tcheck : Summ cod := fun args H => match args, H with
  | [.c (.slc 0 l_i l_n l_t)], [o0] => (match o0.asInp 2 with | some l => .need ((l_i = 0 ∧ l_n = List.length l)) (.ret (.c (.int .i64 (F.tubeE l)), [])) | none => .fail)
  | _, _ => .fail


theorem tcheck_sound : Sound Try.prog cod 53 s_tcheck := sound_runs (cfg := C_root) L_root_ok mixed Try.func53 rfl rfl _ fun args H r news hg b0 hb => by
  unfold s_tcheck at hg
  split at hg
  · skip
    split at hg
    · rename_i l hx0
      cases asInp_spec hx0
      simp only [T.gives, T.wp, Prod.mk.injEq] at hg
      obtain ⟨⟨rfl, rfl⟩, rfl, rfl⟩ := hg
      exact tcheck_run _ _ b0 hb 
    · exact hg.elim
  · exact hg.elim

noncomputable def L_tcheck : Sums cod := (53, .p s_tcheck) :: L_root
noncomputable def C_tcheck : Cfg cod := mkC L_tcheck

theorem L_tcheck_ok : Snd Try.prog cod L_tcheck := .cons tcheck_sound L_root_ok


noncomputable def s_cmpf : Summ cod := fun args H => match H with
  | [] => match rd args with
    | some [[_, a, b, c, d, e, f], [t]] => (.need (i64ok (a - t)) (.ret (.c (.int .i64 (a - t)), [])))
    | _ => .fail
  | _ => .fail

theorem cmpf_tree (a b c d e f t : Int) : symF C_tcheck [] Try.f98.results.toList (List.length ([] : Heap cod)) 400 [.code (codeOf Try.f98)] ⟨argsS Try.f98 [.agg [.int .i64 a, .int .i64 b, .int .i64 c, .int .i64 d, .int .i64 e, .int .i64 f], .c (.int .i64 t)], []⟩ =
.need (i64ok (a - t)) (
.ret (.fin (.c (.int .i64 (a - t))) [])) := by kernel_rfl

theorem cmpf_sound : Sound Try.prog cod 98 s_cmpf := sound_flat (cfg := C_tcheck) L_tcheck_ok mixed Try.func98 rfl rfl _ 400 fun args H r news hg => by
  unfold s_cmpf at hg
  split at hg
  · split at hg
    · rename_i _ a b c d e f t hrd
      have hargs := rd_spec hrd
      simp only [List.map, wr1, ints, List.tail] at hargs
      subst hargs
      clear hrd
      rw [cmpf_tree]
      simp only [T.gives, T.wp, Prod.mk.injEq] at hg
      obtain ⟨h1, rfl, rfl⟩ := hg
      simp only [T.wp, T.wp_cond, Fin.fin.injEq, SV.c.injEq, SV.tup.injEq, SV.agg.injEq, List.cons.injEq, Cell.bool.injEq, Cell.int.injEq, and_true, true_and, decide_eq_true_eq]
      simp_all
    · exact hg.elim
  · exact hg.elim

noncomputable def L_cmpf : Sums cod := (98, .p s_cmpf) :: L_tcheck
noncomputable def C_cmpf : Cfg cod := mkC L_cmpf

theorem L_cmpf_ok : Snd Try.prog cod L_cmpf := .cons cmpf_sound L_tcheck_ok


def cuts_bs : Cuts := [(3, [1, 0, 2, 10, 8, 9], 1)]

theorem bs_t0 (l : List (Int × Int × Int × Int × Int × Int)) (l_t : Bool) (t : Int) : symF C_cmpf cuts_bs Try.f97.results.toList 1 400 [.code (codeOf Try.f97)] ⟨argsS Try.f97 [.c (.slc 0 0 (List.length l) l_t), .c (.int .i64 t), .c (.fn 98 [])], ([.inp 2 l] : Heap cod)⟩ =
.ret (.cut (cutAt Try.f97 3) ⟨tmG 38 [(0, .c (.slc 0 0 (List.length l) l_t)), (0, .c (.int .i64 t)), (0, .c (.fn 98 [])), (5, .c (.int .i64 (Int.ofNat (List.length l)))), (0, .c (.int .i64 0)), (0, .c (.int .i64 (Int.ofNat (List.length l))))], [.inp 2 l]⟩) := by kernel_rfl


noncomputable def st_bs_3 (l : List (Int × Int × Int × Int × Int × Int)) (l_t : Bool) (t : Int) (lo hi : Int) : St cod := ⟨tmG 38 [(0, .c (.slc 0 0 (List.length l) l_t)), (0, .c (.int .i64 t)), (0, .c (.fn 98 [])), (5, .c (.int .i64 (Int.ofNat (List.length l)))), (0, .c (.int .i64 lo)), (0, .c (.int .i64 hi))], [.inp 2 l]⟩


theorem bs_t3 (l : List (Int × Int × Int × Int × Int × Int)) (l_t : Bool) (t : Int) (lo hi : Int) : symF C_cmpf cuts_bs Try.f97.results.toList 1 400 (cutAt Try.f97 3) (st_bs_3 l l_t t lo hi) =
 cond (decide (lo < hi)) (
 .need (i64ok (lo + hi)) (
 .need ((0 : Int) ≤ 1) (
 .need (i64ok (Int.fdiv (IntKind.wrap IntKind.u64 (lo + hi)) (2 ^ min (Int.toNat 1) 64))) (
 .need (((0 : Int) ≤ Int.fdiv (IntKind.wrap IntKind.u64 (lo + hi)) (2 ^ min (Int.toNat 1) 64) ∧ Int.fdiv (IntKind.wrap IntKind.u64 (lo + hi)) (2 ^ min (Int.toNat 1) 64) < Int.ofNat (List.length l))) (
 .need (0 + Int.toNat (Int.fdiv (IntKind.wrap IntKind.u64 (lo + hi)) (2 ^ min (Int.toNat 1) 64)) < List.length l) (
 .need (i64ok   ((List.getD l (0 + Int.toNat (Int.fdiv (IntKind.wrap IntKind.u64 (lo + hi)) (2 ^ min (Int.toNat 1) 64)))         (cod 2).d).1 -     t)) (
 cond (decide   ((List.getD l (0 + Int.toNat (Int.fdiv (IntKind.wrap IntKind.u64 (lo + hi)) (2 ^ min (Int.toNat 1) 64)))           (cod 2).d).1 -       t <     0)) (
  .need (i64ok (Int.fdiv (IntKind.wrap IntKind.u64 (lo + hi)) (2 ^ min (Int.toNat 1) 64) + 1)) (
  .ret (.cut (cutAt Try.f97 3) ⟨tmG 38 [(0, .c (.slc 0 0 (List.length l) l_t)), (0, .c (.int .i64 t)), (0, .c (.fn 98 [])), (5, .c (.int .i64 (Int.ofNat (List.length l)))), (0, .c (.int .i64 (Int.fdiv (IntKind.wrap IntKind.u64 (lo + hi)) (2 ^ min (Int.toNat 1) 64) + 1))), (0, .c (.int .i64 hi))], [.inp 2 l]⟩))) (
  .ret (.cut (cutAt Try.f97 3) ⟨tmG 38 [(0, .c (.slc 0 0 (List.length l) l_t)), (0, .c (.int .i64 t)), (0, .c (.fn 98 [])), (5, .c (.int .i64 (Int.ofNat (List.length l)))), (0, .c (.int .i64 lo)), (0, .c (.int .i64 (Int.fdiv (IntKind.wrap IntKind.u64 (lo + hi)) (2 ^ min (Int.toNat 1) 64))))], [.inp 2 l]⟩))))))))) (
 cond (decide (lo < Int.ofNat (List.length l))) (
  .need (((0 : Int) ≤ lo ∧ lo < Int.ofNat (List.length l))) (
  .need (0 + Int.toNat lo < List.length l) (
  .need (i64ok ((List.getD l (0 + Int.toNat lo) (cod 2).d).1 - t)) (
  .ret (.fin (.tup [.c (.int .i64 lo), .c (.bool (decide ((List.getD l (0 + Int.toNat lo) (cod 2).d).1 - t = 0)))]) []))))) (
  .ret (.fin (.tup [.c (.int .i64 lo), .c (.bool false)]) []))) := by kernel_rfl



theorem u64_id {x : Int} (h0 : 0 ≤ x) (h1 : x < 18446744073709551616) : IntKind.wrap .u64 x = x := by
  simp [IntKind.wrap, IntKind.bits, IntKind.signed]
  omega
theorem half_eq (lo hi : Nat) (h : lo + hi < 1000000) : Int.fdiv (IntKind.wrap IntKind.u64 ((lo : Int) + (hi : Int))) (2 ^ min (Int.toNat 1) 64) = (((lo + hi) / 2 : Nat) : Int) := by
  rw [u64_id (by omega) (by omega), show (2 : Int) ^ min (Int.toNat 1) 64 = 2 from rfl, Int.fdiv_eq_ediv_of_nonneg _ (by omega)]
  omega
theorem tubeE_zero {l : List F.Nd} (h : F.tubeE l = 0) : (0 < l.length ∧ l.length ≤ 64) ∧ ∀ j, j < l.length → (0 ≤ F.nt l j ∧ F.nt l j ≤ 200000) ∧ (0 < j → F.nt l (j - 1) < F.nt l j) ∧ F.pt (l.getD j F.nd0).2.1 (l.getD j F.nd0).2.2.1 = 0 ∧ (0 ≤ (l.getD j F.nd0).2.2.2.1 ∧ (l.getD j F.nd0).2.2.2.1 ≤ 60000) ∧
    (0 ≤ (l.getD j F.nd0).2.2.2.2.1 ∧ (l.getD j F.nd0).2.2.2.2.1 ≤ 1000000) ∧ (0 ≤ (l.getD j F.nd0).2.2.2.2.2 ∧ (l.getD j F.nd0).2.2.2.2.2 ≤ 60000) := by
  unfold F.tubeE at h
  by_cases h1 : 64 < l.length
  · rw [if_pos h1] at h; omega
  by_cases h2 : l.length = 0
  · rw [if_neg h1, if_pos h2] at h; omega
  rw [if_neg h1, if_neg h2] at h
  exact ⟨by omega, fun j hj => tubeG_zero l l.length 0 h j (by omega) (by omega)⟩
theorem bs_loop (l : List F.Nd) (hl : l.length ≤ 64) (hn : ∀ j, j < l.length → 0 ≤ F.nt l j ∧ F.nt l j ≤ 200000) (l_t : Bool) (t : Int) (ht : 0 ≤ t ∧ t ≤ 200000) (b0 : Base) (hb : b0.n = 1) (u : Nat) : ∀ (m lo hi : Nat), lo ≤ hi → hi ≤ l.length → hi - lo < 2 ^ m → u = F.bsF l t m lo hi →
    Sym.Runs Try.prog b0 (cutAt Try.f97 3) (st_bs_3 l l_t t lo hi) (Sym.Ends Try.prog Try.f97 1 (.tup [.c (.int .i64 u), .c (.bool (decide (u < l.length) && decide (F.nt l u - t = 0)))]) []) := by
  have hd : (cod 2).d = F.nd0 := rfl
  have fin : ∀ lo hi : Nat, lo ≤ hi → hi ≤ l.length → ¬ lo < hi → u = lo → Sym.Runs Try.prog b0 (cutAt Try.f97 3) (st_bs_3 l l_t t lo hi) (Sym.Ends Try.prog Try.f97 1 (.tup [.c (.int .i64 u), .c (.bool (decide (u < l.length) && decide (F.nt l u - t = 0)))]) []) := by
    intro lo hi h1 h2 h3 hu
    refine Runs.go (cfg := C_cmpf) L_cmpf_ok mixed cuts_bs 400 hb (bs_t3 l l_t t lo hi) ?_
    subst hu
    have h4 : ¬ (u : Int) < hi := by omega
    simp only [T.wp, T.wp_cond, Aft, Int.ofNat_eq_natCast, decide_eq_true_eq, and_true, true_and, Nat.zero_add, Bool.not_eq_true', decide_eq_false_iff_not, h4, if_false, hd, Int.toNat_natCast]
    by_cases h5 : u < l.length
    · have h6 : (u : Int) < l.length := by omega
      have := hn u h5
      unfold F.nt at *
      simp only [h5, h6, if_true, decide_true, Bool.true_and]
      (repeat (refine ⟨(by first | rfl | trivial | assumption | omega | (unfold i64ok; omega) | (simp only [List.length_cons, List.length_nil]; omega) | exact ⟨by omega, trivial⟩), ?_⟩))
      trivial
    · have h6 : ¬ (u : Int) < l.length := by omega
      simp only [h5, h6, if_false, decide_false, Bool.false_and, and_self]
  intro m
  induction m with
  | zero =>
    intro lo hi h1 h2 h3 hu
    exact fin lo hi h1 h2 (by simp at h3; omega) hu
  | succ m ih =>
    intro lo hi h1 h2 h3 hu
    simp only [F.bsF] at hu
    rw [Nat.pow_succ] at h3
    generalize hp : 2 ^ m = p at *
    by_cases h4 : lo < hi
    · rw [if_pos h4] at hu
      refine Runs.go (cfg := C_cmpf) L_cmpf_ok mixed cuts_bs 400 hb (bs_t3 l l_t t lo hi) ?_
      have h5 : (lo : Int) < hi := by omega
      have hm := hn ((lo + hi) / 2) (by omega)
      simp only [T.wp, T.wp_cond, Aft, Int.ofNat_eq_natCast, decide_eq_true_eq, and_true, true_and, Nat.zero_add, Bool.not_eq_true', decide_eq_false_iff_not, h5, if_true, hd, half_eq lo hi (by omega), Int.toNat_natCast]
      unfold F.nt at *
      (repeat (refine ⟨(by first | rfl | trivial | assumption | omega | (unfold i64ok; omega) | (simp only [List.length_cons, List.length_nil]; omega) | exact ⟨by omega, trivial⟩), ?_⟩))
      by_cases h6 : (l.getD ((lo + hi) / 2) F.nd0).1 < t
      · rw [if_pos h6] at hu
        rw [if_pos (by omega)]
        (repeat (refine ⟨(by first | rfl | trivial | assumption | omega | (unfold i64ok; omega) | (simp only [List.length_cons, List.length_nil]; omega) | exact ⟨by omega, trivial⟩), ?_⟩))
        exact ih ((lo + hi) / 2 + 1) hi (by omega) h2 (by omega) hu
      · rw [if_neg h6] at hu
        rw [if_neg (by omega)]
        exact ih lo ((lo + hi) / 2) (by omega) (by omega) (by omega) hu
    · rw [if_neg h4] at hu
      exact fin lo hi h1 h2 h4 hu
theorem bs_run (l : List (Int × Int × Int × Int × Int × Int)) (l_t : Bool) (t : Int) (b0 : Base) (hb : b0.n = 1) (h0 : F.tubeE l = 0 ∧ 0 ≤ t ∧ t ≤ 200000) : Sym.Runs Try.prog b0 [.code (codeOf Try.f97)] ⟨argsS Try.f97 [.c (.slc 0 0 (List.length l) l_t), .c (.int .i64 t), .c (.fn 98 [])], ([.inp 2 l] : Heap cod)⟩ (Sym.Ends Try.prog Try.f97 1 (.tup [.c (.int .i64 (F.bsI l t)), .c (.bool (F.bsB l t))]) []) := by
  obtain ⟨h1, h2⟩ := h0
  obtain ⟨h3, h4⟩ := tubeE_zero h1
  refine Runs.go (cfg := C_cmpf) L_cmpf_ok mixed cuts_bs 400 hb (bs_t0 l l_t t) ?_
  simp only [T.wp, T.wp_cond, Aft, Int.ofNat_eq_natCast, decide_eq_true_eq, and_true, true_and, Nat.zero_add, Bool.not_eq_true', decide_eq_false_iff_not]
  exact bs_loop l h3.2 (fun j hj => (h4 j hj).1) l_t t h2 b0 hb _ 7 0 l.length (by omega) (by omega) (by have : (2 : Nat) ^ 7 = 128 := rfl; omega) rfl



noncomputable def s_bs : Summ cod := fun args H => match args, H with
  | [.c (.slc 0 l_i l_n l_t), .c (.int .i64 t), .c (.fn 98 [])], [o0] => (match o0.asInp 2 with | some l => .need ((l_i = 0 ∧ l_n = List.length l) ∧ (F.tubeE l = 0 ∧ 0 ≤ t ∧ t ≤ 200000)) (.ret (.tup [.c (.int .i64 (F.bsI l t)), .c (.bool (F.bsB l t))], [])) | none => .fail)
  | _, _ => .fail


theorem bs_sound : Sound Try.prog cod 97 s_bs := sound_runs (cfg := C_cmpf) L_cmpf_ok mixed Try.func97 rfl rfl _ fun args H r news hg b0 hb => by
  unfold s_bs at hg
  split at hg
  · skip
    split at hg
    · rename_i l hx0
      cases asInp_spec hx0
      simp only [T.gives, T.wp, Prod.mk.injEq] at hg
      obtain ⟨⟨⟨rfl, rfl⟩, q1⟩, rfl, rfl⟩ := hg
      exact bs_run _ _ _ b0 hb (by assumption)
    · exact hg.elim
  · exact hg.elim

noncomputable def L_bs : Sums cod := (97, .p s_bs) :: L_cmpf
noncomputable def C_bs : Cfg cod := mkC L_bs

theorem L_bs_ok : Snd Try.prog cod L_bs := .cons bs_sound L_cmpf_ok


end
end Go.Proofs.Ythljcjighomgkaa
