/- Part of a claim: lemmas on the way to its theorem; each states its own conditions. -/
import Derived.Test.YtbkpgpkeecnjpaaWa
namespace Go.Proofs.Ytbkpgpkeecnjpaa
open Sym Go.RowKit
noncomputable section
set_option maxRecDepth 100000
set_option maxHeartbeats 4000000



namespace F
def ca (s : List UInt8) : Nat → Int
  | 0 => 0
  | k + 1 => ca s k + ((s.getD k 0).toNat : Int)
def cb (s : List UInt8) : Nat → Int
  | 0 => 0
  | k + 1 => cb s k + ca s (k + 1)
def wsum (s : List UInt8) : Int := 256 * (cb s s.length % 255) + ca s s.length % 255
end F


theorem ca_bd (s : List UInt8) : ∀ k : Nat, 0 ≤ F.ca s k ∧ F.ca s k ≤ 255 * (k : Int)
  | 0 => ⟨Int.le_refl 0, Int.le_refl 0⟩
  | k + 1 => by
    have := ca_bd s k
    have hp : F.ca s (k + 1) = F.ca s k + ((s.getD k 0).toNat : Int) := rfl
    have hc := (s.getD k 0).toNat_lt
    omega
theorem cb_bd (s : List UInt8) (h : s.length ≤ 1000000) : ∀ k : Nat, k ≤ s.length → 0 ≤ F.cb s k ∧ F.cb s k ≤ 255000000 * (k : Int)
  | 0, _ => ⟨Int.le_refl 0, Int.le_refl 0⟩
  | k + 1, hk => by
    have := cb_bd s h k (by omega)
    have hp : F.cb s (k + 1) = F.cb s k + F.ca s (k + 1) := rfl
    have hc := ca_bd s (k + 1)
    omega


def cuts_wsum : Cuts := [(3, [0, 7, 8, 4, 3], 0)]

theorem wsum_t0 (s : List UInt8) : symF C_fromF cuts_wsum Try.f11.results.toList 0 400 [.code (codeOf Try.f11)] ⟨argsS Try.f11 [.c (.str s)], ([] : Heap cod)⟩ =
.ret (.cut (cutAt Try.f11 3) ⟨tmG 18 [(0, .c (.str s)), (2, .c (.int .i64 0)), (0, .c (.int .i64 0)), (2, .c (.int .i64 (Int.ofNat (List.length s)))), (0, .c (.int .i64 0))], []⟩) := by kernel_rfl


noncomputable def st_wsum_3 (s : List UInt8) (i a b : Int) : St cod := ⟨tmG 18 [(0, .c (.str s)), (2, .c (.int .i64 a)), (0, .c (.int .i64 b)), (2, .c (.int .i64 (Int.ofNat (List.length s)))), (0, .c (.int .i64 i))], []⟩


theorem wsum_t3 (s : List UInt8) (i a b : Int) : symF C_fromF cuts_wsum Try.f11.results.toList 0 400 (cutAt Try.f11 3) (st_wsum_3 s i a b) =
 cond (decide (i < Int.ofNat (List.length s))) (
 .need (((0 : Int) ≤ i ∧ i < Int.ofNat (List.length s))) (
 .need (i64ok (Int.ofNat (UInt8.toNat (List.getD s (Int.toNat i) 0)))) (
 .need (i64ok (a + Int.ofNat (UInt8.toNat (List.getD s (Int.toNat i) 0)))) (
 .need ((255 : Int) ≠ 0) (
 .need (i64ok (Int.tmod (a + Int.ofNat (UInt8.toNat (List.getD s (Int.toNat i) 0))) 255 + b)) (
 .need ((255 : Int) ≠ 0) (
 .need (i64ok (i + 1)) (
 .ret (.cut (cutAt Try.f11 3) ⟨tmG 18 [(0, .c (.str s)), (2, .c (.int .i64 (Int.tmod (a + Int.ofNat (UInt8.toNat (List.getD s (Int.toNat i) 0))) 255))), (0, .c (.int .i64 (Int.tmod (Int.tmod (a + Int.ofNat (UInt8.toNat (List.getD s (Int.toNat i) 0))) 255 + b) 255))), (2, .c (.int .i64 (Int.ofNat (List.length s)))), (0, .c (.int .i64 (i + 1)))], []⟩))))))))) (
 .need (i64ok (256 * b)) (
 .need (i64ok (256 * b + a)) (
 .ret (.fin (.c (.int .i64 (256 * b + a))) [])))) := by kernel_rfl



theorem wsum_run (s : List UInt8) (b0 : Base) (hb : b0.n = 0) (h0 : s.length ≤ 1000000) : Sym.Runs Try.prog b0 [.code (codeOf Try.f11)] ⟨argsS Try.f11 [.c (.str s)], ([] : Heap cod)⟩ (Sym.Ends Try.prog Try.f11 0 (.c (.int .i64 (F.wsum s))) []) := by
  have key : ∀ (m k : Nat) (a b : Int), k + m = s.length → a = F.ca s k % 255 → b = F.cb s k % 255 →
      Sym.Runs Try.prog b0 (cutAt Try.f11 3) (st_wsum_3 s (k : Int) a b) (Sym.Ends Try.prog Try.f11 0 (.c (.int .i64 (F.wsum s))) []) := by
    intro m
    induction m with
    | zero =>
      intro k a b hk ha hb'
      refine Runs.go (cfg := C_fromF) L_fromF_ok mixed cuts_wsum 400 hb (wsum_t3 s (k : Int) a b) ?_
      have h1 : ¬ (k : Int) < (s.length : Int) := by omega
      have ek : k = s.length := by omega
      have a0 := Int.emod_nonneg (F.ca s k) (show (255 : Int) ≠ 0 by decide)
      have a1 := Int.emod_lt_of_pos (F.ca s k) (show (0 : Int) < 255 by decide)
      have q0 := Int.emod_nonneg (F.cb s k) (show (255 : Int) ≠ 0 by decide)
      have q1 := Int.emod_lt_of_pos (F.cb s k) (show (0 : Int) < 255 by decide)
      simp only [T.wp, T.wp_cond, Aft, Int.ofNat_eq_natCast, decide_eq_true_eq, and_true, true_and, Nat.zero_add, Bool.not_eq_true', decide_eq_false_iff_not]
      refine ite_no h1 ⟨by unfold i64ok; omega, by unfold i64ok; omega, ?_⟩
      rw [ha, hb', F.wsum, ← ek]
    | succ m ih =>
      intro k a b hk ha hb'
      refine Runs.go (cfg := C_fromF) L_fromF_ok mixed cuts_wsum 400 hb (wsum_t3 s (k : Int) a b) ?_
      have h1 : (k : Int) < (s.length : Int) := by omega
      have a0 := Int.emod_nonneg (F.ca s k) (show (255 : Int) ≠ 0 by decide)
      have a1 := Int.emod_lt_of_pos (F.ca s k) (show (0 : Int) < 255 by decide)
      have q0 := Int.emod_nonneg (F.cb s k) (show (255 : Int) ≠ 0 by decide)
      have q1 := Int.emod_lt_of_pos (F.cb s k) (show (0 : Int) < 255 by decide)
      have hp : F.ca s (k + 1) = F.ca s k + ((s.getD k 0).toNat : Int) := rfl
      have hq : F.cb s (k + 1) = F.cb s k + F.ca s (k + 1) := rfl
      have hc := (s.getD k 0).toNat_lt
      simp only [T.wp, T.wp_cond, Aft, Int.ofNat_eq_natCast, decide_eq_true_eq, and_true, true_and, Nat.zero_add, Bool.not_eq_true', decide_eq_false_iff_not, Int.toNat_natCast]
      generalize (s.getD k 0).toNat = c at *
      have e1 : Int.tmod (a + (c : Int)) 255 = F.ca s (k + 1) % 255 := by
        rw [Int.tmod_eq_emod_of_nonneg (by omega), hp, ha]
        omega
      have r0 := Int.emod_nonneg (F.ca s (k + 1)) (show (255 : Int) ≠ 0 by decide)
      have r1 := Int.emod_lt_of_pos (F.ca s (k + 1)) (show (0 : Int) < 255 by decide)
      have e2 : Int.tmod (F.ca s (k + 1) % 255 + b) 255 = F.cb s (k + 1) % 255 := by
        rw [Int.tmod_eq_emod_of_nonneg (by omega), hq, hb']
        omega
      have nx := ih (k + 1) _ _ (by omega) rfl rfl
      rw [e1, e2]
      exact ite_yes h1 ⟨⟨by omega, h1⟩, by unfold i64ok; omega, by unfold i64ok; omega, by decide, by unfold i64ok; omega, by decide, by unfold i64ok; omega, nx⟩
  refine Runs.go (cfg := C_fromF) L_fromF_ok mixed cuts_wsum 400 hb (wsum_t0 s) ?_
  simp only [T.wp, T.wp_cond, Aft, Int.ofNat_eq_natCast, decide_eq_true_eq, and_true, true_and, Nat.zero_add, Bool.not_eq_true', decide_eq_false_iff_not]
  exact key s.length 0 0 0 (by omega) rfl rfl



noncomputable def s_wsum : Summ cod := fun args H => match args, H with
  | [.c (.str s)], [] => .need ((s.length ≤ 1000000)) (.ret (.c (.int .i64 (F.wsum s)), []))
  | _, _ => .fail


theorem wsum_sound : Sound Try.prog cod 11 s_wsum := sound_runs (cfg := C_fromF) L_fromF_ok mixed Try.func11 rfl rfl _ fun args H r news hg b0 hb => by
  unfold s_wsum at hg
  split at hg
  · skip
    simp only [T.gives, T.wp, Prod.mk.injEq] at hg
    obtain ⟨q0, rfl, rfl⟩ := hg
    exact wsum_run _ b0 hb (by assumption)
  · exact hg.elim

noncomputable def L_wsum : Sums cod := (11, .p s_wsum) :: L_fromF
noncomputable def C_wsum : Cfg cod := mkC L_wsum

theorem L_wsum_ok : Snd Try.prog cod L_wsum := .cons wsum_sound L_fromF_ok



def cuts_csum : Cuts := [(3, [0, 7, 8, 4, 3], 0)]

theorem csum_t0 (s : List UInt8) : symF C_wsum cuts_csum Try.f14.results.toList 0 400 [.code (codeOf Try.f14)] ⟨argsS Try.f14 [.c (.str s)], ([] : Heap cod)⟩ =
.ret (.cut (cutAt Try.f14 3) ⟨tmG 26 [(0, .c (.str s)), (2, .c (.int .i64 0)), (0, .c (.int .i64 0)), (2, .c (.int .i64 (Int.ofNat (List.length s)))), (0, .c (.int .i64 0))], []⟩) := by kernel_rfl


noncomputable def st_csum_3 (s : List UInt8) (i a b : Int) : St cod := ⟨tmG 26 [(0, .c (.str s)), (2, .c (.int .i64 a)), (0, .c (.int .i64 b)), (2, .c (.int .i64 (Int.ofNat (List.length s)))), (0, .c (.int .i64 i))], []⟩


theorem csum_t3 (s : List UInt8) (i a b : Int) : symF C_wsum cuts_csum Try.f14.results.toList 0 400 (cutAt Try.f14 3) (st_csum_3 s i a b) =
 cond (decide (i < Int.ofNat (List.length s))) (
 .need (((0 : Int) ≤ i ∧ i < Int.ofNat (List.length s))) (
 .need (i64ok (Int.ofNat (UInt8.toNat (List.getD s (Int.toNat i) 0)))) (
 .need (i64ok (a + Int.ofNat (UInt8.toNat (List.getD s (Int.toNat i) 0)))) (
 .need (((0 : Int) ≤ i ∧ i < Int.ofNat (List.length s))) (
 .need (i64ok (Int.ofNat (UInt8.toNat (List.getD s (Int.toNat i) 0)))) (
 .need (i64ok (Int.ofNat (List.length s) - i)) (
 .need (i64ok (Int.ofNat (UInt8.toNat (List.getD s (Int.toNat i) 0)) * (Int.ofNat (List.length s) - i))) (
 .need (i64ok (b + Int.ofNat (UInt8.toNat (List.getD s (Int.toNat i) 0)) * (Int.ofNat (List.length s) - i))) (
 .need (i64ok (i + 1)) (
 .ret (.cut (cutAt Try.f14 3) ⟨tmG 26 [(0, .c (.str s)), (2, .c (.int .i64 (a + Int.ofNat (UInt8.toNat (List.getD s (Int.toNat i) 0))))), (0, .c (.int .i64 (b + Int.ofNat (UInt8.toNat (List.getD s (Int.toNat i) 0)) * (Int.ofNat (List.length s) - i)))), (2, .c (.int .i64 (Int.ofNat (List.length s)))), (0, .c (.int .i64 (i + 1)))], []⟩))))))))))) (
 .need ((255 : Int) ≠ 0) (
 .need (i64ok (Int.tmod b 255 * 256)) (
 .need ((255 : Int) ≠ 0) (
 .need (i64ok (Int.tmod b 255 * 256 + Int.tmod a 255)) (
 .ret (.fin (.c (.int .i64 (Int.tmod b 255 * 256 + Int.tmod a 255))) [])))))) := by kernel_rfl



theorem csum_run (s : List UInt8) (b0 : Base) (hb : b0.n = 0) (h0 : s.length ≤ 1000000) : Sym.Runs Try.prog b0 [.code (codeOf Try.f14)] ⟨argsS Try.f14 [.c (.str s)], ([] : Heap cod)⟩ (Sym.Ends Try.prog Try.f14 0 (.c (.int .i64 (F.wsum s))) []) := by
  have key : ∀ (m k : Nat) (a b : Int), k + m = s.length → a = F.ca s k → b = F.cb s k + (m : Int) * F.ca s k →
      Sym.Runs Try.prog b0 (cutAt Try.f14 3) (st_csum_3 s (k : Int) a b) (Sym.Ends Try.prog Try.f14 0 (.c (.int .i64 (F.wsum s))) []) := by
    intro m
    induction m with
    | zero =>
      intro k a b hk ha hb'
      refine Runs.go (cfg := C_wsum) L_wsum_ok mixed cuts_csum 400 hb (csum_t3 s (k : Int) a b) ?_
      have h1 : ¬ (k : Int) < (s.length : Int) := by omega
      have ek : k = s.length := by omega
      have b1 := ca_bd s k
      have b2 := cb_bd s h0 k (by omega)
      have eb : b = F.cb s k := by rw [hb']; simp
      have a0 := Int.emod_nonneg (F.ca s k) (show (255 : Int) ≠ 0 by decide)
      have a1 := Int.emod_lt_of_pos (F.ca s k) (show (0 : Int) < 255 by decide)
      have q0 := Int.emod_nonneg (F.cb s k) (show (255 : Int) ≠ 0 by decide)
      have q1 := Int.emod_lt_of_pos (F.cb s k) (show (0 : Int) < 255 by decide)
      have t1 : Int.tmod (F.ca s k) 255 = F.ca s k % 255 := Int.tmod_eq_emod_of_nonneg b1.1
      have t2 : Int.tmod (F.cb s k) 255 = F.cb s k % 255 := Int.tmod_eq_emod_of_nonneg b2.1
      subst ha
      subst eb
      simp only [T.wp, T.wp_cond, Aft, Int.ofNat_eq_natCast, decide_eq_true_eq, and_true, true_and, Nat.zero_add, Bool.not_eq_true', decide_eq_false_iff_not]
      rw [t1, t2]
      refine ite_no h1 ⟨by decide, by unfold i64ok; omega, by decide, by unfold i64ok; omega, ?_⟩
      rw [F.wsum, ← ek, Int.mul_comm]
    | succ m ih =>
      intro k a b hk ha hb'
      refine Runs.go (cfg := C_wsum) L_wsum_ok mixed cuts_csum 400 hb (csum_t3 s (k : Int) a b) ?_
      have h1 : (k : Int) < (s.length : Int) := by omega
      have b1 := ca_bd s k
      have b2 := cb_bd s h0 k (by omega)
      have hp : F.ca s (k + 1) = F.ca s k + ((s.getD k 0).toNat : Int) := rfl
      have hq : F.cb s (k + 1) = F.cb s k + F.ca s (k + 1) := rfl
      have hc := (s.getD k 0).toNat_lt
      have em : (s.length : Int) - (k : Int) = (m : Int) + 1 := by omega
      have p1 : (((m + 1 : Nat) : Int)) * F.ca s k ≤ 1000000 * F.ca s k := Int.mul_le_mul_of_nonneg_right (by omega) b1.1
      have p0 : 0 ≤ (((m + 1 : Nat) : Int)) * F.ca s k := Int.mul_nonneg (by omega) b1.1
      simp only [T.wp, T.wp_cond, Aft, Int.ofNat_eq_natCast, decide_eq_true_eq, and_true, true_and, Nat.zero_add, Bool.not_eq_true', decide_eq_false_iff_not, Int.toNat_natCast]
      rw [em]
      generalize (s.getD k 0).toNat = c at *
      have c1 : (c : Int) * ((m : Int) + 1) ≤ 255 * ((m : Int) + 1) := Int.mul_le_mul_of_nonneg_right (by omega) (by omega)
      have c0 : 0 ≤ (c : Int) * ((m : Int) + 1) := Int.mul_nonneg (by omega) (by omega)
      have nx := ih (k + 1) (a + (c : Int)) (b + (c : Int) * ((m : Int) + 1)) (by omega) (by rw [hp, ha]) (by
        rw [hb', hq, hp]
        have : (((m + 1 : Nat) : Int)) = (m : Int) + 1 := by omega
        rw [this, Int.add_mul, Int.mul_add, Int.mul_add, Int.mul_comm (c : Int) m]
        omega)
      exact ite_yes h1 ⟨⟨by omega, h1⟩, by unfold i64ok; omega, by unfold i64ok; omega, ⟨by omega, h1⟩, by unfold i64ok; omega, by unfold i64ok; omega, by unfold i64ok; omega, by unfold i64ok; omega, by unfold i64ok; omega, nx⟩
  refine Runs.go (cfg := C_wsum) L_wsum_ok mixed cuts_csum 400 hb (csum_t0 s) ?_
  simp only [T.wp, T.wp_cond, Aft, Int.ofNat_eq_natCast, decide_eq_true_eq, and_true, true_and, Nat.zero_add, Bool.not_eq_true', decide_eq_false_iff_not]
  exact key s.length 0 0 0 (by omega) rfl (by simp [F.ca, F.cb])



noncomputable def s_csum : Summ cod := fun args H => match args, H with
  | [.c (.str s)], [] => .need ((s.length ≤ 1000000)) (.ret (.c (.int .i64 (F.wsum s)), []))
  | _, _ => .fail


theorem csum_sound : Sound Try.prog cod 14 s_csum := sound_runs (cfg := C_wsum) L_wsum_ok mixed Try.func14 rfl rfl _ fun args H r news hg b0 hb => by
  unfold s_csum at hg
  split at hg
  · skip
    simp only [T.gives, T.wp, Prod.mk.injEq] at hg
    obtain ⟨q0, rfl, rfl⟩ := hg
    exact csum_run _ b0 hb (by assumption)
  · exact hg.elim

noncomputable def L_csum : Sums cod := (14, .p s_csum) :: L_wsum
noncomputable def C_csum : Cfg cod := mkC L_csum

theorem L_csum_ok : Snd Try.prog cod L_csum := .cons csum_sound L_wsum_ok


end
end Go.Proofs.Ytbkpgpkeecnjpaa
