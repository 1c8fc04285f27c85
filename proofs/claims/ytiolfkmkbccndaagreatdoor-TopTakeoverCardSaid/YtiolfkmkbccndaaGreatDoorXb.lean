/- Part of a claim: lemmas on the way to its theorem; each states its own conditions. -/
import Derived.Test.YtiolfkmkbccndaaGreatDoorBd24
namespace Go.Proofs.YtiolfkmkbccndaaGreatDoor
open Sym Go.RowKit
noncomputable section
set_option maxRecDepth 100000
set_option maxHeartbeats 4000000


noncomputable def L_trim : Sums cod := (37, .p s_trim) :: L_0
noncomputable def C_trim : Cfg cod := mkC L_trim

theorem L_trim_ok : Snd Tryz.prog cod L_trim := .cons trim_sound L_0_ok


noncomputable def L_itoa : Sums cod := (28, .p s_itoa) :: L_trim
noncomputable def C_itoa : Cfg cod := mkC L_itoa

theorem L_itoa_ok : Snd Tryz.prog cod L_itoa := .cons itoa_sound L_trim_ok



namespace F
def lowB (c : UInt8) : Bool := decide ((97 : Int) ≤ c.toNat) && decide ((c.toNat : Int) ≤ 122)
def low (s : List UInt8) : Bool := s.all lowB
def pa (s : List UInt8) : Nat → Int
  | 0 => 1
  | k + 1 => pa s k + ((s.getD k 0).toNat : Int)
def pb (s : List UInt8) : Nat → Int
  | 0 => 0
  | k + 1 => pb s k + pa s (k + 1) % 251
def sum (s : List UInt8) : Int := pb s s.length % 241 * 256 + pa s s.length % 251
end F


def cuts_small : Cuts := [(2, [0, 5, 6], 0)]

theorem small_t0 (s : List UInt8) : symF C_itoa cuts_small Tryz.f38.results.toList 0 400 [.code (codeOf Tryz.f38)] ⟨argsS Tryz.f38 [.c (.str s)], ([] : Heap cod)⟩ =
.ret (.cut (cutAt Tryz.f38 2) ⟨tmG 13 [(0, .c (.str s)), (4, .c (.int .i64 (Int.ofNat (List.length s)))), (0, .c (.int .i64 0))], []⟩) := by kernel_rfl


noncomputable def st_small_2 (s : List UInt8) (i : Int) : St cod := ⟨tmG 13 [(0, .c (.str s)), (4, .c (.int .i64 (Int.ofNat (List.length s)))), (0, .c (.int .i64 i))], []⟩


theorem small_t2 (s : List UInt8) (i : Int) : symF C_itoa cuts_small Tryz.f38.results.toList 0 400 (cutAt Tryz.f38 2) (st_small_2 s i) =
 cond (decide (i < Int.ofNat (List.length s))) (
 .need (((0 : Int) ≤ i ∧ i < Int.ofNat (List.length s))) (
 cond (decide (Int.ofNat (UInt8.toNat (List.getD s (Int.toNat i) 0)) < 97)) (
  .ret (.fin (.c (.bool false)) [])) (
  .need (((0 : Int) ≤ i ∧ i < Int.ofNat (List.length s))) (
  cond (decide (122 < Int.ofNat (UInt8.toNat (List.getD s (Int.toNat i) 0)))) (
   .ret (.fin (.c (.bool false)) [])) (
   .need (i64ok (i + 1)) (
   .ret (.cut (cutAt Tryz.f38 2) ⟨tmG 13 [(0, .c (.str s)), (4, .c (.int .i64 (Int.ofNat (List.length s)))), (0, .c (.int .i64 (i + 1)))], []⟩))))))) (
 .ret (.fin (.c (.bool true)) [])) := by kernel_rfl



theorem small_run (s : List UInt8) (b0 : Base) (hb : b0.n = 0) (h0 : s.length ≤ 1000000000000000) : Sym.Runs Tryz.prog b0 [.code (codeOf Tryz.f38)] ⟨argsS Tryz.f38 [.c (.str s)], ([] : Heap cod)⟩ (Sym.Ends Tryz.prog Tryz.f38 0 (.c (.bool (F.low s))) []) := by
  have key : ∀ (m : Nat) (i : Int), 0 ≤ i → i + m = s.length → (F.low s = F.low (s.drop i.toNat)) →
      Sym.Runs Tryz.prog b0 (cutAt Tryz.f38 2) (st_small_2 s i) (Sym.Ends Tryz.prog Tryz.f38 0 (.c (.bool (F.low s))) []) := by
    intro m
    induction m with
    | zero =>
      intro i hi hm hl
      refine Runs.go (cfg := C_itoa) L_itoa_ok mixed cuts_small 400 hb (small_t2 s i) ?_
      have h1 : ¬ i < (s.length : Int) := by omega
      rw [drop_end s h1] at hl
      rw [hl]
      simp [T.wp, Aft, Int.ofNat_eq_natCast, h1, F.low]
    | succ m ih =>
      intro i hi hm hl
      refine Runs.go (cfg := C_itoa) L_itoa_ok mixed cuts_small 400 hb (small_t2 s i) ?_
      have h1 : i < (s.length : Int) := by omega
      rw [drop_at s 0 hi h1] at hl
      have nx := ih (i + 1) (by omega) (by omega)
      have hi1 : i64ok (i + 1) := by unfold i64ok; omega
      simp only [T.wp, T.wp_cond, Aft, Int.ofNat_eq_natCast, decide_eq_true_eq, and_true]
      generalize s.getD i.toNat 0 = c at *
      refine ite_yes h1 ⟨⟨hi, h1⟩, ?_⟩
      by_cases c1 : (c.toNat : Int) < 97
      · refine ite_yes c1 ?_
        rw [hl, F.low, List.all_cons, F.lowB, decide_eq_false (by omega)]
        rfl
      · refine ite_no c1 ⟨⟨hi, h1⟩, ?_⟩
        by_cases c2 : 122 < (c.toNat : Int)
        · refine ite_yes c2 ?_
          rw [hl, F.low, List.all_cons, F.lowB, decide_eq_false (show ¬ (c.toNat : Int) ≤ 122 by omega), Bool.and_false]
          rfl
        · refine ite_no c2 ⟨hi1, nx ?_⟩
          rw [hl, F.low, List.all_cons, F.lowB, decide_eq_true (by omega), decide_eq_true (by omega)]
          rfl
  refine Runs.go (cfg := C_itoa) L_itoa_ok mixed cuts_small 400 hb (small_t0 s) ?_
  simp only [T.wp, Aft, Int.ofNat_eq_natCast]
  exact key s.length 0 (by omega) (by omega) rfl



noncomputable def s_small : Summ cod := fun args H => match args, H with
  | [.c (.str s)], [] => .need ((s.length ≤ 1000000000000000)) (.ret (.c (.bool (F.low s)), []))
  | _, _ => .fail


theorem small_sound : Sound Tryz.prog cod 38 s_small := sound_runs (cfg := C_itoa) L_itoa_ok mixed Tryz.func38 rfl rfl _ fun args H r news hg b0 hb => by
  unfold s_small at hg
  split at hg
  · skip
    simp only [T.gives, T.wp, Prod.mk.injEq] at hg
    obtain ⟨q0, rfl, rfl⟩ := hg
    exact small_run _ b0 hb (by assumption)
  · exact hg.elim

noncomputable def L_small : Sums cod := (38, .p s_small) :: L_itoa
noncomputable def C_small : Cfg cod := mkC L_small

theorem L_small_ok : Snd Tryz.prog cod L_small := .cons small_sound L_itoa_ok



def cuts_rsum : Cuts := [(3, [0, 7, 8, 4, 3], 0)]

theorem rsum_t0 (s : List UInt8) : symF C_small cuts_rsum Tryz.f29.results.toList 0 400 [.code (codeOf Tryz.f29)] ⟨argsS Tryz.f29 [.c (.str s)], ([] : Heap cod)⟩ =
.ret (.cut (cutAt Tryz.f29 3) ⟨tmG 18 [(0, .c (.str s)), (2, .c (.int .i64 1)), (0, .c (.int .i64 0)), (2, .c (.int .i64 (Int.ofNat (List.length s)))), (0, .c (.int .i64 0))], []⟩) := by kernel_rfl


noncomputable def st_rsum_3 (s : List UInt8) (i a b : Int) : St cod := ⟨tmG 18 [(0, .c (.str s)), (2, .c (.int .i64 a)), (0, .c (.int .i64 b)), (2, .c (.int .i64 (Int.ofNat (List.length s)))), (0, .c (.int .i64 i))], []⟩


theorem rsum_t3 (s : List UInt8) (i a b : Int) : symF C_small cuts_rsum Tryz.f29.results.toList 0 400 (cutAt Tryz.f29 3) (st_rsum_3 s i a b) =
 cond (decide (i < Int.ofNat (List.length s))) (
 .need (((0 : Int) ≤ i ∧ i < Int.ofNat (List.length s))) (
 .need (i64ok (Int.ofNat (UInt8.toNat (List.getD s (Int.toNat i) 0)))) (
 .need (i64ok (a + Int.ofNat (UInt8.toNat (List.getD s (Int.toNat i) 0)))) (
 .need ((251 : Int) ≠ 0) (
 .need (i64ok (b + Int.tmod (a + Int.ofNat (UInt8.toNat (List.getD s (Int.toNat i) 0))) 251)) (
 .need ((241 : Int) ≠ 0) (
 .need (i64ok (i + 1)) (
 .ret (.cut (cutAt Tryz.f29 3) ⟨tmG 18 [(0, .c (.str s)), (2, .c (.int .i64 (Int.tmod (a + Int.ofNat (UInt8.toNat (List.getD s (Int.toNat i) 0))) 251))), (0, .c (.int .i64 (Int.tmod (b + Int.tmod (a + Int.ofNat (UInt8.toNat (List.getD s (Int.toNat i) 0))) 251) 241))), (2, .c (.int .i64 (Int.ofNat (List.length s)))), (0, .c (.int .i64 (i + 1)))], []⟩))))))))) (
 .need (i64ok (256 * b)) (
 .need (i64ok (256 * b + a)) (
 .ret (.fin (.c (.int .i64 (256 * b + a))) [])))) := by kernel_rfl



theorem rsum_run (s : List UInt8) (b0 : Base) (hb : b0.n = 0) (h0 : s.length ≤ 1000000000000000) : Sym.Runs Tryz.prog b0 [.code (codeOf Tryz.f29)] ⟨argsS Tryz.f29 [.c (.str s)], ([] : Heap cod)⟩ (Sym.Ends Tryz.prog Tryz.f29 0 (.c (.int .i64 (F.sum s))) []) := by
  have key : ∀ (m k : Nat) (a b : Int), k + m = s.length → a = F.pa s k % 251 → b = F.pb s k % 241 →
      Sym.Runs Tryz.prog b0 (cutAt Tryz.f29 3) (st_rsum_3 s (k : Int) a b) (Sym.Ends Tryz.prog Tryz.f29 0 (.c (.int .i64 (F.sum s))) []) := by
    intro m
    induction m with
    | zero =>
      intro k a b hk ha hb'
      refine Runs.go (cfg := C_small) L_small_ok mixed cuts_rsum 400 hb (rsum_t3 s (k : Int) a b) ?_
      have h1 : ¬ (k : Int) < (s.length : Int) := by omega
      have ek : k = s.length := by omega
      have a0 := Int.emod_nonneg (F.pa s k) (show (251 : Int) ≠ 0 by decide)
      have a1 := Int.emod_lt_of_pos (F.pa s k) (show (0 : Int) < 251 by decide)
      have q0 := Int.emod_nonneg (F.pb s k) (show (241 : Int) ≠ 0 by decide)
      have q1 := Int.emod_lt_of_pos (F.pb s k) (show (0 : Int) < 241 by decide)
      simp only [T.wp, T.wp_cond, Aft, Int.ofNat_eq_natCast, decide_eq_true_eq, and_true]
      refine ite_no h1 ⟨by unfold i64ok; omega, by unfold i64ok; omega, ?_⟩
      rw [ha, hb', F.sum, ← ek, Int.mul_comm]
    | succ m ih =>
      intro k a b hk ha hb'
      refine Runs.go (cfg := C_small) L_small_ok mixed cuts_rsum 400 hb (rsum_t3 s (k : Int) a b) ?_
      have h1 : (k : Int) < (s.length : Int) := by omega
      have a0 := Int.emod_nonneg (F.pa s k) (show (251 : Int) ≠ 0 by decide)
      have a1 := Int.emod_lt_of_pos (F.pa s k) (show (0 : Int) < 251 by decide)
      have q0 := Int.emod_nonneg (F.pb s k) (show (241 : Int) ≠ 0 by decide)
      have q1 := Int.emod_lt_of_pos (F.pb s k) (show (0 : Int) < 241 by decide)
      have hp : F.pa s (k + 1) = F.pa s k + ((s.getD k 0).toNat : Int) := rfl
      have hq : F.pb s (k + 1) = F.pb s k + F.pa s (k + 1) % 251 := rfl
      have hc := (s.getD k 0).toNat_lt
      simp only [T.wp, T.wp_cond, Aft, Int.ofNat_eq_natCast, decide_eq_true_eq, and_true, Int.toNat_natCast]
      generalize (s.getD k 0).toNat = c at *
      have e1 : Int.tmod (a + (c : Int)) 251 = F.pa s (k + 1) % 251 := by
        rw [Int.tmod_eq_emod_of_nonneg (by omega), hp, ha]
        omega
      have r0 := Int.emod_nonneg (F.pa s (k + 1)) (show (251 : Int) ≠ 0 by decide)
      have r1 := Int.emod_lt_of_pos (F.pa s (k + 1)) (show (0 : Int) < 251 by decide)
      have e2 : Int.tmod (b + F.pa s (k + 1) % 251) 241 = F.pb s (k + 1) % 241 := by
        rw [Int.tmod_eq_emod_of_nonneg (by omega), hq, hb']
        omega
      have nx := ih (k + 1) _ _ (by omega) rfl rfl
      rw [e1, e2]
      exact ite_yes h1 ⟨⟨by omega, h1⟩, by unfold i64ok; omega, by unfold i64ok; omega, by decide, by unfold i64ok; omega, by decide, by unfold i64ok; omega, nx⟩
  refine Runs.go (cfg := C_small) L_small_ok mixed cuts_rsum 400 hb (rsum_t0 s) ?_
  simp only [T.wp, Aft, Int.ofNat_eq_natCast]
  exact key s.length 0 1 0 (by omega) rfl rfl



noncomputable def s_rsum : Summ cod := fun args H => match args, H with
  | [.c (.str s)], [] => .need ((s.length ≤ 1000000000000000)) (.ret (.c (.int .i64 (F.sum s)), []))
  | _, _ => .fail


theorem rsum_sound : Sound Tryz.prog cod 29 s_rsum := sound_runs (cfg := C_small) L_small_ok mixed Tryz.func29 rfl rfl _ fun args H r news hg b0 hb => by
  unfold s_rsum at hg
  split at hg
  · skip
    simp only [T.gives, T.wp, Prod.mk.injEq] at hg
    obtain ⟨q0, rfl, rfl⟩ := hg
    exact rsum_run _ b0 hb (by assumption)
  · exact hg.elim

noncomputable def L_rsum : Sums cod := (29, .p s_rsum) :: L_small
noncomputable def C_rsum : Cfg cod := mkC L_rsum

theorem L_rsum_ok : Snd Tryz.prog cod L_rsum := .cons rsum_sound L_small_ok



def cuts_itoaR : Cuts := [(2, [0, 3], 0)]

theorem itoaR_t0 (n : Int) : symF C_rsum cuts_itoaR Tryz.f12.results.toList 0 400 [.code (codeOf Tryz.f12)] ⟨argsS Tryz.f12 [.c (.int .i64 n)], ([] : Heap cod)⟩ =
.ret (.cut (cutAt Tryz.f12 2) ⟨tmG 17 [(0, .c (.int .i64 n)), (2, .c (.str []))], []⟩) := by kernel_rfl


noncomputable def st_itoaR_2 (n : Int) (m : Int) (acc : List UInt8) : St cod := ⟨tmG 17 [(0, .c (.int .i64 m)), (2, .c (.str acc))], []⟩


theorem itoaR_t2 (n : Int) (m : Int) (acc : List UInt8) : symF C_rsum cuts_itoaR Tryz.f12.results.toList 0 400 (cutAt Tryz.f12 2) (st_itoaR_2 n m acc) =
 cond (decide (0 < m)) (
 .need ((10 : Int) ≠ 0) (
 .need ((10 : Int) ≠ 0) (
 .need (i64ok (Int.tmod m 10 + 1)) (
 .need (((0 : Int) ≤ Int.tmod m 10 ∧ (Int.tmod m 10 ≤ Int.tmod m 10 + 1 ∧ Int.tmod m 10 + 1 ≤ Int.ofNat 10))) (
 .need (List.length       (List.take (Int.toNat (Int.tmod m 10 + 1) - Int.toNat (Int.tmod m 10))         (List.drop (Int.toNat (Int.tmod m 10)) ([48, 49, 50, 51, 52, 53, 54, 55, 56, 57] : List UInt8))) +     List.length acc ≤   9223372036854775807) (
 .need ((10 : Int) ≠ 0) (
 .need (i64ok (Int.tdiv m 10)) (
 .ret (.cut (cutAt Tryz.f12 2) ⟨tmG 17 [(0, .c (.int .i64 (Int.tdiv m 10))), (2, .c (.str (List.take (Int.toNat (Int.tmod m 10 + 1) - Int.toNat (Int.tmod m 10))     (List.drop (Int.toNat (Int.tmod m 10)) ([48, 49, 50, 51, 52, 53, 54, 55, 56, 57] : List UInt8)) ++   acc)))], []⟩))))))))) (
 cond (decide (acc = [])) (
  .need ((10 : Int) ≠ 0) (
  .need ((10 : Int) ≠ 0) (
  .need (i64ok (Int.tmod m 10 + 1)) (
  .need (((0 : Int) ≤ Int.tmod m 10 ∧ (Int.tmod m 10 ≤ Int.tmod m 10 + 1 ∧ Int.tmod m 10 + 1 ≤ Int.ofNat 10))) (
  .need (List.length       (List.take (Int.toNat (Int.tmod m 10 + 1) - Int.toNat (Int.tmod m 10))         (List.drop (Int.toNat (Int.tmod m 10)) ([48, 49, 50, 51, 52, 53, 54, 55, 56, 57] : List UInt8))) +     List.length acc ≤   9223372036854775807) (
  .need ((10 : Int) ≠ 0) (
  .need (i64ok (Int.tdiv m 10)) (
  .ret (.cut (cutAt Tryz.f12 2) ⟨tmG 17 [(0, .c (.int .i64 (Int.tdiv m 10))), (2, .c (.str (List.take (Int.toNat (Int.tmod m 10 + 1) - Int.toNat (Int.tmod m 10))     (List.drop (Int.toNat (Int.tmod m 10)) ([48, 49, 50, 51, 52, 53, 54, 55, 56, 57] : List UInt8)) ++   acc)))], []⟩))))))))) (
  .ret (.fin (.c (.str acc)) []))) := by kernel_rfl



theorem itoaR_run (n : Int) (b0 : Base) (hb : b0.n = 0) (h0 : 0 ≤ n ∧ n ≤ 9223372036854775807) : Sym.Runs Tryz.prog b0 [.code (codeOf Tryz.f12)] ⟨argsS Tryz.f12 [.c (.int .i64 n)], ([] : Heap cod)⟩ (Sym.Ends Tryz.prog Tryz.f12 0 (.c (.str (F.itoa n))) []) := by
  have dg : ∀ m : Int, 0 ≤ m → List.take ((m.tmod 10 + 1).toNat - (m.tmod 10).toNat) (List.drop (m.tmod 10).toNat ([48, 49, 50, 51, 52, 53, 54, 55, 56, 57] : List UInt8)) = F.dig (m % 10) := by
    intro m hm
    rw [Int.tmod_eq_emod_of_nonneg hm]
    have r0 := Int.emod_nonneg m (show (10 : Int) ≠ 0 by decide)
    have r1 := Int.emod_lt_of_pos m (show (0 : Int) < 10 by decide)
    generalize m % 10 = d at *
    obtain ⟨k, rfl⟩ : ∃ k : Nat, d = k := ⟨d.toNat, by omega⟩
    have : k < 10 := by omega
    match k, this with
    | 0, _ => rfl
    | 1, _ => rfl
    | 2, _ => rfl
    | 3, _ => rfl
    | 4, _ => rfl
    | 5, _ => rfl
    | 6, _ => rfl
    | 7, _ => rfl
    | 8, _ => rfl
    | 9, _ => rfl
  have key : ∀ (f : Nat) (m : Int) (acc : List UInt8), 0 ≤ m → m < 10 ^ f → (m = 0 → acc = [] → 0 < f) → acc.length ≤ 100 - f → f ≤ 30 → m ≤ 9223372036854775807 →
      Sym.Runs Tryz.prog b0 (cutAt Tryz.f12 2) (st_itoaR_2 n m acc) (Sym.Ends Tryz.prog Tryz.f12 0 (.c (.str (F.itl f m acc))) []) := by
    intro f
    induction f with
    | zero =>
      intro m acc hm hf hz _ _ _
      refine Runs.go (cfg := C_rsum) L_rsum_ok mixed cuts_itoaR 400 hb (itoaR_t2 n m acc) ?_
      have e : m = 0 := by simpa using (show m = 0 by have : (10 : Int) ^ 0 = 1 := rfl; omega)
      have e2 : ¬ acc = [] := fun c => absurd (hz e c) (by decide)
      simp only [T.wp, T.wp_cond, Aft, Int.ofNat_eq_natCast, decide_eq_true_eq, and_true]
      exact ite_no (by omega) (ite_no e2 rfl)
    | succ f ih =>
      intro m acc hm hf hz hl h30 hm64
      refine Runs.go (cfg := C_rsum) L_rsum_ok mixed cuts_itoaR 400 hb (itoaR_t2 n m acc) ?_
      have h10 : (10 : Int) ^ (f + 1) = 10 * 10 ^ f := by rw [Int.pow_succ, Int.mul_comm]
      have e1 : m.tdiv 10 = m / 10 := Int.tdiv_eq_ediv_of_nonneg hm
      have d0 : 0 ≤ m / 10 := by omega
      have nx := ih (m / 10) (F.dig (m % 10) ++ acc) d0 (by omega) (fun _ c => by simp [F.dig] at c) (by simp [F.dig]; omega) (by omega) (by omega)
      have t1 : m.tmod 10 = m % 10 := Int.tmod_eq_emod_of_nonneg hm
      have r0 := Int.emod_nonneg m (show (10 : Int) ≠ 0 by decide)
      have r1 := Int.emod_lt_of_pos m (show (0 : Int) < 10 by decide)
      simp only [T.wp, T.wp_cond, Aft, Int.ofNat_eq_natCast, decide_eq_true_eq, and_true, dg m hm, e1]
      have L : (F.dig (m % 10)).length + acc.length ≤ 9223372036854775807 := by simp [F.dig]; omega
      by_cases c : 0 < m
      · have eI : F.itl (f + 1) m acc = F.itl f (m / 10) (F.dig (m % 10) ++ acc) := by rw [F.itl, if_pos (.inl c)]
        rw [eI]
        exact ite_yes c ⟨by decide, by decide, by unfold i64ok; omega, ⟨by omega, by omega, by rw [t1]; show _ ≤ (10 : Int); omega⟩, L, by decide, by unfold i64ok; omega, nx⟩
      · by_cases c2 : acc = []
        · have eI : F.itl (f + 1) m acc = F.itl f (m / 10) (F.dig (m % 10) ++ acc) := by rw [F.itl, if_pos (.inr c2)]
          rw [eI]
          exact ite_no c (ite_yes c2 ⟨by decide, by decide, by unfold i64ok; omega, ⟨by omega, by omega, by rw [t1]; show _ ≤ (10 : Int); omega⟩, L, by decide, by unfold i64ok; omega, nx⟩)
        · have eI : F.itl (f + 1) m acc = acc := by rw [F.itl, if_neg (by simp [c, c2])]
          rw [eI]
          exact ite_no c (ite_no c2 rfl)
  refine Runs.go (cfg := C_rsum) L_rsum_ok mixed cuts_itoaR 400 hb (itoaR_t0 n) ?_
  simp only [T.wp, Aft]
  exact key 30 n [] h0.1 (by have : (10 : Int) ^ 30 = 1000000000000000000000000000000 := by decide
                             omega) (fun _ _ => by decide) (by simp) (by decide) h0.2



noncomputable def s_itoaR : Summ cod := fun args H => match args, H with
  | [.c (.int .i64 n)], [] => .need ((0 ≤ n ∧ n ≤ 9223372036854775807)) (.ret (.c (.str (F.itoa n)), []))
  | _, _ => .fail


theorem itoaR_sound : Sound Tryz.prog cod 12 s_itoaR := sound_runs (cfg := C_rsum) L_rsum_ok mixed Tryz.func12 rfl rfl _ fun args H r news hg b0 hb => by
  unfold s_itoaR at hg
  split at hg
  · skip
    simp only [T.gives, T.wp, Prod.mk.injEq] at hg
    obtain ⟨q0, rfl, rfl⟩ := hg
    exact itoaR_run _ b0 hb (by assumption)
  · exact hg.elim

noncomputable def L_itoaR : Sums cod := (12, .p s_itoaR) :: L_rsum
noncomputable def C_itoaR : Cfg cod := mkC L_itoaR

theorem L_itoaR_ok : Snd Tryz.prog cod L_itoaR := .cons itoaR_sound L_rsum_ok


end
end Go.Proofs.YtiolfkmkbccndaaGreatDoor
