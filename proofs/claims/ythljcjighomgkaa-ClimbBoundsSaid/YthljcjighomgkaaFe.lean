/- Part of a claim: lemmas on the way to its theorem; each states its own conditions. -/
import Derived.Test.YthljcjighomgkaaFd
import Derived.Test.YthljcjighomgkaaSym22
namespace Go.Proofs.Ythljcjighomgkaa
open Sym Go.RowKit
noncomputable section
set_option maxRecDepth 100000
set_option maxHeartbeats 4000000

namespace F
def z (e x : Int) : Int := if e = 0 then x else 0
def rateE (l : List (Int × Int)) : Int := if rep l = 0 then (if hi l 3200 < lo l (-3200) then 8 else 0) else rep l
def hlo (a b t : Int) : List (Int × Int) → Int → Int
  | [], acc => acc
  | r :: l, acc => hlo a b t l (max acc (100 * r.2 + min (a * (t - r.1)) (b * (t - r.1)) / 16))
def hhi (a b t : Int) : List (Int × Int) → Int → Int
  | [], acc => acc
  | r :: l, acc => hhi a b t l (min acc (100 * r.2 + 99 + -(-max (a * (t - r.1)) (b * (t - r.1)) / 16)))
def htE (l : List (Int × Int)) (t : Int) : Int := if rateE l = 0 then (if inb t 0 200000 then (if hhi (lo l (-3200)) (hi l 3200) t l 60000 < hlo (lo l (-3200)) (hi l 3200) t l 0 then 8 else 0) else 4) else rateE l
end F


theorem loIn_ge (a : Int × Int) : ∀ (bs : List (Int × Int)) (acc : Int), acc ≤ F.loIn a bs acc
  | [], _ => Int.le_refl _
  | b :: bs, acc => Int.le_trans (Int.le_max_left _ _) (loIn_ge a bs (max acc (F.pLo a b)))
theorem hiIn_le (a : Int × Int) : ∀ (bs : List (Int × Int)) (acc : Int), F.hiIn a bs acc ≤ acc
  | [], _ => Int.le_refl _
  | b :: bs, acc => Int.le_trans (hiIn_le a bs (min acc (F.pHi a b))) (Int.min_le_left _ _)
theorem lo_ge : ∀ (l : List (Int × Int)) (acc : Int), acc ≤ F.lo l acc
  | [], _ => Int.le_refl _
  | a :: l, acc => Int.le_trans (loIn_ge a l acc) (lo_ge l _)
theorem hi_le : ∀ (l : List (Int × Int)) (acc : Int), F.hi l acc ≤ acc
  | [], _ => Int.le_refl _
  | a :: l, acc => Int.le_trans (hi_le l _) (hiIn_le a l acc)
theorem rateE_zero {l : List (Int × Int)} (h : F.rateE l = 0) : F.rep l = 0 ∧ ¬ F.hi l 3200 < F.lo l (-3200) := by
  unfold F.rateE at h
  split at h
  · split at h
    · cases h
    · exact ⟨by assumption, by assumption⟩
  · exact absurd h (by assumption)


def cuts_crates : Cuts := [(6, [0, 23, 24, 25, 7, 6], 1)]

theorem crates_t0 (l : List (Int × Int)) (l_t : Bool) : symF C_ccheck cuts_crates Try.f18.results.toList 1 400 [.code (codeOf Try.f18)] ⟨argsS Try.f18 [.c (.slc 0 0 (List.length l) l_t)], ([.inp 1 l] : Heap cod)⟩ =
.need ((0 = 0 ∧ List.length l = List.length l)) (
 cond (!decide (F.rep l = 0)) (
 .ret (.fin (.tup [.c (.int .i64 0), .c (.int .i64 0), .c (.int .i64 (F.rep l))]) [])) (
 .ret (.cut (cutAt Try.f18 6) ⟨tmG 53 [(0, .c (.slc 0 0 (List.length l) l_t)), (5, .c (.int .i64 (-3200))), (0, .c (.int .i64 3200)), (15, .c (.slc 0 0 (List.length l) l_t)), (0, .c (.int .i64 (Int.ofNat (List.length l)))), (0, .c (.int .i64 0))], [.inp 1 l]⟩))) := by kernel_rfl


noncomputable def st_crates_6 (l : List (Int × Int)) (l_t : Bool) (i lo hi : Int) : St cod := ⟨tmG 53 [(0, .c (.slc 0 0 (List.length l) l_t)), (5, .c (.int .i64 lo)), (0, .c (.int .i64 hi)), (15, .c (.slc 0 0 (List.length l) l_t)), (0, .c (.int .i64 (Int.ofNat (List.length l)))), (0, .c (.int .i64 i))], [.inp 1 l]⟩


theorem crates_t6 (l : List (Int × Int)) (l_t : Bool) (i lo hi : Int) : symF C_ccheck cuts_crates Try.f18.results.toList 1 400 (cutAt Try.f18 6) (st_crates_6 l l_t i lo hi) =
 cond (decide (i < Int.ofNat (List.length l))) (
 .need ((0 ≤ i ∧ i < Int.ofNat (List.length l))) (
 .need (0 + Int.toNat i < List.length l) (
 .need (i64ok (i + 1)) (
 .need ((0 ≤ i + 1 ∧ i + 1 ≤ Int.ofNat (List.length l))) (
 .fail))))) (
 cond (decide (hi < lo)) (
  .ret (.fin (.tup [.c (.int .i64 0), .c (.int .i64 0), .c (.int .i64 8)]) [])) (
  .ret (.fin (.tup [.c (.int .i64 lo), .c (.int .i64 hi), .c (.int .i64 0)]) []))) := by kernel_rfl



theorem crates_run (l : List (Int × Int)) (l_t : Bool) (b0 : Base) (hb : b0.n = 1)  : Sym.Runs Try.prog b0 [.code (codeOf Try.f18)] ⟨argsS Try.f18 [.c (.slc 0 0 (List.length l) l_t)], ([.inp 1 l] : Heap cod)⟩ (Sym.Ends Try.prog Try.f18 1 (.tup [.c (.int .i64 (F.z (F.rateE l) (F.lo l (-3200)))), .c (.int .i64 (F.z (F.rateE l) (F.hi l 3200))), .c (.int .i64 (F.rateE l))]) []) := by
  refine Runs.go (cfg := C_ccheck) L_ccheck_ok mixed cutsRates 400 hb (rates_t0 l l_t) ?_
  simp only [T.wp, T.wp_cond, Aft, true_and]
  unfold F.rateE
  by_cases h : F.rep l = 0
  · simp only [h, decide_true, Bool.not_true, Bool.false_eq_true, if_false, if_true]
    have := rates_loop l (rep_zero h) l_t b0 hb (.tup [.c (.int .i64 (F.z (if F.hi l 3200 < F.lo l (-3200) then 8 else 0) (F.lo l (-3200)))), .c (.int .i64 (F.z (if F.hi l 3200 < F.lo l (-3200) then 8 else 0) (F.hi l 3200))), .c (.int .i64 (if F.hi l 3200 < F.lo l (-3200) then 8 else 0))]) l.length 0 (-3200) 3200 (by omega) (by omega) (by
      simp only [Int.toNat_zero, List.drop_zero, resR, F.z]
      split <;> simp)
    rw [hb] at this
    exact this
  · simp [h, F.z]



noncomputable def s_crates : Summ cod := fun args H => match args, H with
  | [.c (.slc 0 l_i l_n l_t)], [o0] => (match o0.asInp 1 with | some l => .need ((l_i = 0 ∧ l_n = List.length l)) (.ret (.tup [.c (.int .i64 (F.z (F.rateE l) (F.lo l (-3200)))), .c (.int .i64 (F.z (F.rateE l) (F.hi l 3200))), .c (.int .i64 (F.rateE l))], [])) | none => .fail)
  | _, _ => .fail


theorem crates_sound : Sound Try.prog cod 18 s_crates := sound_runs (cfg := C_ccheck) L_ccheck_ok mixed Try.func18 rfl rfl _ fun args H r news hg b0 hb => by
  unfold s_crates at hg
  split at hg
  · skip
    split at hg
    · rename_i l hx0
      cases asInp_spec hx0
      simp only [T.gives, T.wp, Prod.mk.injEq] at hg
      obtain ⟨⟨rfl, rfl⟩, rfl, rfl⟩ := hg
      exact crates_run _ _ b0 hb 
    · exact hg.elim
  · exact hg.elim

noncomputable def L_crates : Sums cod := (18, s_crates) :: L_ccheck
noncomputable def C_crates : Cfg cod := mkC L_crates

theorem L_crates_ok : Snd Try.prog cod L_crates := .cons crates_sound L_ccheck_ok



def cuts_heights : Cuts := [(8, [8, 7, 1, 34, 35, 36, 11, 10], 1)]

theorem heights_t0 (l : List (Int × Int)) (l_t : Bool) (t : Int) : symF C_crates cuts_heights Try.f19.results.toList 1 400 [.code (codeOf Try.f19)] ⟨argsS Try.f19 [.c (.slc 0 0 (List.length l) l_t), .c (.int .i64 t)], ([.inp 1 l] : Heap cod)⟩ =
.need ((0 = 0 ∧ List.length l = List.length l)) (
 cond (!decide (F.rateE l = 0)) (
 .ret (.fin (.tup [.c (.int .i64 0), .c (.int .i64 0), .c (.int .i64 (F.rateE l))]) [])) (
 cond (decide (t < 0)) (
  .ret (.fin (.tup [.c (.int .i64 0), .c (.int .i64 0), .c (.int .i64 4)]) [])) (
  cond (decide (200000 < t)) (
   .ret (.fin (.tup [.c (.int .i64 0), .c (.int .i64 0), .c (.int .i64 4)]) [])) (
   .ret (.cut (cutAt Try.f19 8) ⟨tmG 50 [(1, .c (.int .i64 t)), (5, .c (.int .i64 (F.z (F.rateE l) (F.lo l (-3200))))), (0, .c (.int .i64 (F.z (F.rateE l) (F.hi l 3200)))), (1, .c (.int .i64 0)), (0, .c (.int .i64 60000)), (22, .c (.slc 0 0 (List.length l) l_t)), (0, .c (.int .i64 (Int.ofNat (List.length l)))), (0, .c (.int .i64 0))], [.inp 1 l]⟩))))) := by kernel_rfl


noncomputable def st_heights_8 (l : List (Int × Int)) (l_t : Bool) (t : Int) (a b i lo hi : Int) : St cod := ⟨tmG 50 [(1, .c (.int .i64 t)), (5, .c (.int .i64 a)), (0, .c (.int .i64 b)), (1, .c (.int .i64 lo)), (0, .c (.int .i64 hi)), (22, .c (.slc 0 0 (List.length l) l_t)), (0, .c (.int .i64 (Int.ofNat (List.length l)))), (0, .c (.int .i64 i))], [.inp 1 l]⟩


theorem heights_t8 (l : List (Int × Int)) (l_t : Bool) (t : Int) (a b i lo hi : Int) : symF C_crates cuts_heights Try.f19.results.toList 1 400 (cutAt Try.f19 8) (st_heights_8 l l_t t a b i lo hi) =
 cond (decide (i < Int.ofNat (List.length l))) (
 .need ((0 ≤ i ∧ i < Int.ofNat (List.length l))) (
 .need (0 + Int.toNat i < List.length l) (
 .need (i64ok (t - (List.getD l (0 + Int.toNat i) (cod 1).d).1)) (
 .need (i64ok (a * (t - (List.getD l (0 + Int.toNat i) (cod 1).d).1))) (
 .need (i64ok (b * (t - (List.getD l (0 + Int.toNat i) (cod 1).d).1))) (
 .need (((0 : Int) < 16 ∧ i64ok   (min (a * (t - (List.getD l (0 + Int.toNat i) (cod 1).d).1)) (b * (t - (List.getD l (0 + Int.toNat i) (cod 1).d).1))))) (
 .need (i64ok (a * (t - (List.getD l (0 + Int.toNat i) (cod 1).d).1))) (
 .need (i64ok (b * (t - (List.getD l (0 + Int.toNat i) (cod 1).d).1))) (
 .need (((0 : Int) < 16 ∧ (i64ok   (max (a * (t - (List.getD l (0 + Int.toNat i) (cod 1).d).1)) (b * (t - (List.getD l (0 + Int.toNat i) (cod 1).d).1))) ∧ i64ok   (-max (a * (t - (List.getD l (0 + Int.toNat i) (cod 1).d).1)) (b * (t - (List.getD l (0 + Int.toNat i) (cod 1).d).1)))))) (
 .need (i64ok (100 * (List.getD l (0 + Int.toNat i) (cod 1).d).2)) (
 .need (i64ok   (100 * (List.getD l (0 + Int.toNat i) (cod 1).d).2 +     min (a * (t - (List.getD l (0 + Int.toNat i) (cod 1).d).1))         (b * (t - (List.getD l (0 + Int.toNat i) (cod 1).d).1)) /       16)) (
 .need (i64ok (100 * (List.getD l (0 + Int.toNat i) (cod 1).d).2)) (
 .need (i64ok (100 * (List.getD l (0 + Int.toNat i) (cod 1).d).2 + 99)) (
 .need (i64ok   (100 * (List.getD l (0 + Int.toNat i) (cod 1).d).2 + 99 +     -(-max (a * (t - (List.getD l (0 + Int.toNat i) (cod 1).d).1))             (b * (t - (List.getD l (0 + Int.toNat i) (cod 1).d).1)) /         16))) (
 .need (i64ok (i + 1)) (
 .ret (.cut (cutAt Try.f19 8) ⟨tmG 50 [(1, .c (.int .i64 t)), (5, .c (.int .i64 a)), (0, .c (.int .i64 b)), (1, .c (.int .i64 (max lo   (100 * (List.getD l (0 + Int.toNat i) (cod 1).d).2 +     min (a * (t - (List.getD l (0 + Int.toNat i) (cod 1).d).1))         (b * (t - (List.getD l (0 + Int.toNat i) (cod 1).d).1)) /       16)))), (0, .c (.int .i64 (min hi   (100 * (List.getD l (0 + Int.toNat i) (cod 1).d).2 + 99 +     -(-max (a * (t - (List.getD l (0 + Int.toNat i) (cod 1).d).1))             (b * (t - (List.getD l (0 + Int.toNat i) (cod 1).d).1)) /         16))))), (22, .c (.slc 0 0 (List.length l) l_t)), (0, .c (.int .i64 (Int.ofNat (List.length l)))), (0, .c (.int .i64 (i + 1)))], [.inp 1 l]⟩))))))))))))))))) (
 cond (decide (hi < lo)) (
  .ret (.fin (.tup [.c (.int .i64 0), .c (.int .i64 0), .c (.int .i64 8)]) [])) (
  .ret (.fin (.tup [.c (.int .i64 lo), .c (.int .i64 hi), .c (.int .i64 0)]) []))) := by kernel_rfl



theorem heights_loop (l : List (Int × Int)) (hl : Rok l) (l_t : Bool) (t : Int) (ht : 0 ≤ t ∧ t ≤ 200000) (a b : Int) (ha : -3200 ≤ a ∧ a ≤ 3200) (hb : -3200 ≤ b ∧ b ≤ 3200) (b0 : Base) (hb0 : b0.n = 1) (R : SV) : ∀ (m : Nat) (i lo hi : Int), 0 ≤ i → i + m = l.length → R = resR (F.hlo a b t (l.drop i.toNat) lo) (F.hhi a b t (l.drop i.toNat) hi) →
    Sym.Runs Try.prog b0 (cutAt Try.f19 8) (st_heights_8 l l_t t a b i lo hi) (Sym.Ends Try.prog Try.f19 1 R []) := by
  obtain ⟨hl0, hl1, hl2⟩ := hl
  intro m
  induction m with
  | zero =>
    intro i lo hi h0 hm hR
    refine Runs.go (cfg := C_crates) L_crates_ok mixed cuts_heights 400 hb0 (heights_t8 l l_t t a b i lo hi) ?_
    have h1 : ¬ i < (l.length : Int) := by omega
    rw [drop_end l h1] at hR
    simp only [F.hlo, F.hhi, resR] at hR
    simp only [T.wp, T.wp_cond, Aft, Int.ofNat_eq_natCast, decide_eq_true_eq, h1, if_false, and_true, hR]
    split <;> simp [*]
  | succ m ih =>
    intro i lo hi h0 hm hR
    refine Runs.go (cfg := C_crates) L_crates_ok mixed cuts_heights 400 hb0 (heights_t8 l l_t t a b i lo hi) ?_
    have h1 : i < (l.length : Int) := by omega
    have p1 := hl1 i.toNat (by omega)
    have hd : (cod 1).d = (0, 0) := rfl
    rw [drop_at l (0, 0) h0 h1] at hR
    simp only [F.hlo, F.hhi] at hR
    have nx := ih (i + 1) _ _ (by omega) (by omega) hR
    simp only [hd, Nat.zero_add] at *
    have k1 : i.toNat < l.length := by omega
    generalize l.getD i.toNat (0, 0) = e at *
    have q1 := mul_bd (x := a) (y := t - e.1) (a := 3200) (b := 200000) (by omega) (by omega)
    have q2 := mul_bd (x := b) (y := t - e.1) (a := 3200) (b := 200000) (by omega) (by omega)
    simp only [T.wp, T.wp_cond, Aft, Int.ofNat_eq_natCast, decide_eq_true_eq, and_true, true_and, Nat.zero_add, Bool.not_eq_true', decide_eq_false_iff_not, h1, if_true]
    generalize a * (t - e.1) = u at *
    generalize b * (t - e.1) = v at *
    unfold i64ok
    refine ⟨h0, k1, by omega, by omega, by omega, by omega, by omega, by omega, by omega, by omega, by omega, by omega, by omega, by omega, by omega, nx⟩
theorem heights_run (l : List (Int × Int)) (l_t : Bool) (t : Int) (b0 : Base) (hb : b0.n = 1)  : Sym.Runs Try.prog b0 [.code (codeOf Try.f19)] ⟨argsS Try.f19 [.c (.slc 0 0 (List.length l) l_t), .c (.int .i64 t)], ([.inp 1 l] : Heap cod)⟩ (Sym.Ends Try.prog Try.f19 1 (.tup [.c (.int .i64 (F.z (F.htE l t) (F.hlo (F.lo l (-3200)) (F.hi l 3200) t l 0))), .c (.int .i64 (F.z (F.htE l t) (F.hhi (F.lo l (-3200)) (F.hi l 3200) t l 60000))), .c (.int .i64 (F.htE l t))]) []) := by
  refine Runs.go (cfg := C_crates) L_crates_ok mixed cuts_heights 400 hb (heights_t0 l l_t t) ?_
  simp only [T.wp, T.wp_cond, Aft, true_and]
  unfold F.htE
  by_cases h : F.rateE l = 0
  · simp only [h, decide_true, Bool.not_true, Bool.false_eq_true, if_false, if_true, decide_eq_true_eq]
    by_cases h1 : t < 0
    · simp [h1, F.inb, F.z, show ¬ 0 ≤ t by omega]
    by_cases h2 : 200000 < t
    · simp [h1, h2, F.inb, F.z, show ¬ t ≤ 200000 by omega]
    obtain ⟨g1, g2⟩ := rateE_zero h
    have g3 := lo_ge l (-3200)
    have g4 := hi_le l 3200
    have h3 : F.inb t 0 200000 = true := by simp [F.inb]; omega
    simp only [h1, h2, h3, if_false, if_true, F.z]
    refine heights_loop l (rep_zero g1) l_t t (by omega) _ _ (by omega) (by omega) b0 hb _ l.length 0 0 60000 (by omega) (by omega) ?_
    simp only [Int.toNat_zero, List.drop_zero, resR]
    split <;> simp [F.z]
  · simp [h, F.z]



noncomputable def s_heights : Summ cod := fun args H => match args, H with
  | [.c (.slc 0 l_i l_n l_t), .c (.int .i64 t)], [o0] => (match o0.asInp 1 with | some l => .need ((l_i = 0 ∧ l_n = List.length l)) (.ret (.tup [.c (.int .i64 (F.z (F.htE l t) (F.hlo (F.lo l (-3200)) (F.hi l 3200) t l 0))), .c (.int .i64 (F.z (F.htE l t) (F.hhi (F.lo l (-3200)) (F.hi l 3200) t l 60000))), .c (.int .i64 (F.htE l t))], [])) | none => .fail)
  | _, _ => .fail


theorem heights_sound : Sound Try.prog cod 19 s_heights := sound_runs (cfg := C_crates) L_crates_ok mixed Try.func19 rfl rfl _ fun args H r news hg b0 hb => by
  unfold s_heights at hg
  split at hg
  · skip
    split at hg
    · rename_i l hx0
      cases asInp_spec hx0
      simp only [T.gives, T.wp, Prod.mk.injEq] at hg
      obtain ⟨⟨rfl, rfl⟩, rfl, rfl⟩ := hg
      exact heights_run _ _ _ b0 hb 
    · exact hg.elim
  · exact hg.elim

noncomputable def L_heights : Sums cod := (19, s_heights) :: L_crates
noncomputable def C_heights : Cfg cod := mkC L_heights

theorem L_heights_ok : Snd Try.prog cod L_heights := .cons heights_sound L_crates_ok


end
end Go.Proofs.Ythljcjighomgkaa
