/- Part of a claim: lemmas on the way to its theorem; each states its own conditions. -/
import Derived.Test.YthljcjighomgkaaFc
namespace Go.Proofs.Ythljcjighomgkaa
open Sym Go.RowKit
noncomputable section
set_option maxRecDepth 100000
set_option maxHeartbeats 4000000


noncomputable def L_ccheck : Sums cod := (21, s_ccheck) :: L_divup
noncomputable def C_ccheck : Cfg cod := mkC L_ccheck

theorem L_ccheck_ok : Snd Try.prog cod L_ccheck := .cons ccheck_sound L_divup_ok

namespace F
def pLo (a b : Int × Int) : Int := 16 * (100 * (b.2 - a.2) - 99) / (b.1 - a.1)
def pHi (a b : Int × Int) : Int := -(-(16 * (100 * (b.2 - a.2) + 99)) / (b.1 - a.1))
def loIn (a : Int × Int) (bs : List (Int × Int)) (acc : Int) : Int := bs.foldl (fun acc b => max acc (pLo a b)) acc
def hiIn (a : Int × Int) (bs : List (Int × Int)) (acc : Int) : Int := bs.foldl (fun acc b => min acc (pHi a b)) acc
def lo : List (Int × Int) → Int → Int
  | [], acc => acc
  | a :: r, acc => lo r (loIn a r acc)
def hi : List (Int × Int) → Int → Int
  | [], acc => acc
  | a :: r, acc => hi r (hiIn a r acc)
end F
def resR (lo hi : Int) : SV := if hi < lo then .tup [.c (.int .i64 0), .c (.int .i64 0), .c (.int .i64 8)] else .tup [.c (.int .i64 lo), .c (.int .i64 hi), .c (.int .i64 0)]
def cutsRep : Cuts := [(4, [0, 8, 9, 10], 1)]

noncomputable def stRep (l : List (Int × Int)) (tt : Bool) (i : Int) : St cod := ⟨tmG 28 [(0, .c (.slc 0 0 (List.length l) tt)), (7, .c (.slc 0 0 (List.length l) tt)), (0, .c (.int .i64 (Int.ofNat (List.length l)))), (0, .c (.int .i64 i))], [.inp 1 l]⟩


theorem rep_t0 (l : List (Int × Int)) (tt : Bool) : symF C_ccheck cutsRep Try.f20.results.toList 1 400 [.code (codeOf Try.f20)] ⟨argsS Try.f20 [.c (.slc 0 0 l.length tt)], [.inp 1 l]⟩ =
 cond (decide (64 < Int.ofNat (List.length l))) (
 .ret (.fin (.c (.int .i64 2)) [])) (
 .ret (.cut (cutAt Try.f20 4) ⟨tmG 28 [(0, .c (.slc 0 0 (List.length l) tt)), (7, .c (.slc 0 0 (List.length l) tt)), (0, .c (.int .i64 (Int.ofNat (List.length l)))), (0, .c (.int .i64 0))], [.inp 1 l]⟩)) := by kernel_rfl


theorem rep_t1 (l : List (Int × Int)) (tt : Bool) (i : Int) : symF C_ccheck cutsRep Try.f20.results.toList 1 400 (cutAt Try.f20 4) (stRep l tt i) =
 cond (decide (i < Int.ofNat (List.length l))) (
 .need ((0 ≤ i ∧ i < Int.ofNat (List.length l))) (
 .need (0 + Int.toNat i < List.length l) (
 cond (!F.inb (List.getD l (0 + Int.toNat i) (cod 1).d).1 0 200000) (
  .ret (.fin (.c (.int .i64 4)) [])) (
  cond (!F.inb (List.getD l (0 + Int.toNat i) (cod 1).d).2 0 600) (
   .ret (.fin (.c (.int .i64 4)) [])) (
   cond (decide (0 < i)) (
    .need (i64ok (i - 1)) (
    .need ((0 ≤ i - 1 ∧ i - 1 < Int.ofNat (List.length l))) (
    .need (0 + Int.toNat (i - 1) < List.length l) (
    cond (decide ((List.getD l (0 + Int.toNat i) (cod 1).d).1 ≤ (List.getD l (0 + Int.toNat (i - 1)) (cod 1).d).1)) (
     .ret (.fin (.c (.int .i64 12)) [])) (
     .need (i64ok (i + 1)) (
     .ret (.cut (cutAt Try.f20 4) ⟨tmG 28 [(0, .c (.slc 0 0 (List.length l) tt)), (7, .c (.slc 0 0 (List.length l) tt)), (0, .c (.int .i64 (Int.ofNat (List.length l)))), (0, .c (.int .i64 (i + 1)))], [.inp 1 l]⟩))))))) (
    .need (i64ok (i + 1)) (
    .ret (.cut (cutAt Try.f20 4) ⟨tmG 28 [(0, .c (.slc 0 0 (List.length l) tt)), (7, .c (.slc 0 0 (List.length l) tt)), (0, .c (.int .i64 (Int.ofNat (List.length l)))), (0, .c (.int .i64 (i + 1)))], [.inp 1 l]⟩)))))))) (
 .ret (.fin (.c (.int .i64 0)) [])) := by kernel_rfl

def cutsRates : Cuts := [(6, [0, 23, 24, 25, 7, 6], 1), (9, [9, 33, 0, 23, 24, 25, 34, 35, 7, 6], 2)]

noncomputable def stR6 (l : List (Int × Int)) (tt : Bool) (i lo hi : Int) : St cod := ⟨tmG 53 [(0, .c (.slc 0 0 (List.length l) tt)), (5, .c (.int .i64 lo)), (0, .c (.int .i64 hi)), (15, .c (.slc 0 0 (List.length l) tt)), (0, .c (.int .i64 (Int.ofNat (List.length l)))), (0, .c (.int .i64 i))], [.inp 1 l]⟩


noncomputable def stR9 (l : List (Int × Int)) (tt : Bool) (i lo hi : Int) (k n : Nat) (j : Int) (t v : Int) : St cod := ⟨tmG 43 [(0, .c (.slc 0 0 (List.length l) tt)), (5, .c (.int .i64 lo)), (0, .c (.int .i64 hi)), (1, .c (.ptr 1 0 0)), (13, .c (.slc 0 0 (List.length l) tt)), (0, .c (.int .i64 (Int.ofNat (List.length l)))), (0, .c (.int .i64 i)), (7, .c (.slc 0 k n tt)), (0, .c (.int .i64 (Int.ofNat n))), (0, .c (.int .i64 j))], [.inp 1 l, .blk [.int .i64 t, .int .i64 v] 43]⟩


theorem rates_t0 (l : List (Int × Int)) (tt : Bool) : symF C_ccheck cutsRates Try.f18.results.toList 1 400 [.code (codeOf Try.f18)] ⟨argsS Try.f18 [.c (.slc 0 0 l.length tt)], [.inp 1 l]⟩ =
.need ((0 = 0 ∧ List.length l = List.length l)) (
 cond (!decide (F.rep l = 0)) (
 .ret (.fin (.tup [.c (.int .i64 0), .c (.int .i64 0), .c (.int .i64 (F.rep l))]) [])) (
 .ret (.cut (cutAt Try.f18 6) ⟨tmG 53 [(0, .c (.slc 0 0 (List.length l) tt)), (5, .c (.int .i64 (-3200))), (0, .c (.int .i64 3200)), (15, .c (.slc 0 0 (List.length l) tt)), (0, .c (.int .i64 (Int.ofNat (List.length l)))), (0, .c (.int .i64 0))], [.inp 1 l]⟩))) := by kernel_rfl


theorem rates_t6 (l : List (Int × Int)) (tt : Bool) (i lo hi : Int) : symF C_ccheck cutsRates Try.f18.results.toList 1 400 (cutAt Try.f18 6) (stR6 l tt i lo hi) =
 cond (decide (i < Int.ofNat (List.length l))) (
 .need ((0 ≤ i ∧ i < Int.ofNat (List.length l))) (
 .need (0 + Int.toNat i < List.length l) (
 .need (i64ok (i + 1)) (
 .need ((0 ≤ i + 1 ∧ i + 1 ≤ Int.ofNat (List.length l))) (
 .ret (.cut (cutAt Try.f18 9) ⟨tmG 43 [(0, .c (.slc 0 0 (List.length l) tt)), (5, .c (.int .i64 lo)), (0, .c (.int .i64 hi)), (1, .c (.ptr 1 0 0)), (13, .c (.slc 0 0 (List.length l) tt)), (0, .c (.int .i64 (Int.ofNat (List.length l)))), (0, .c (.int .i64 i)), (7, .c (.slc 0 (0 + Int.toNat (i + 1)) (List.length l - Int.toNat (i + 1)) tt)), (0, .c (.int .i64 (Int.ofNat (List.length l - Int.toNat (i + 1))))), (0, .c (.int .i64 0))], [.inp 1 l, .blk [.int .i64 ((List.getD l (0 + Int.toNat i) (cod 1).d).1), .int .i64 ((List.getD l (0 + Int.toNat i) (cod 1).d).2)] 43]⟩)))))) (
 cond (decide (hi < lo)) (
  .ret (.fin (.tup [.c (.int .i64 0), .c (.int .i64 0), .c (.int .i64 8)]) [])) (
  .ret (.fin (.tup [.c (.int .i64 lo), .c (.int .i64 hi), .c (.int .i64 0)]) []))) := by kernel_rfl


theorem rates_t9 (l : List (Int × Int)) (tt : Bool) (i lo hi : Int) (k n : Nat) (j : Int) (t v : Int) : symF C_ccheck cutsRates Try.f18.results.toList 1 400 (cutAt Try.f18 9) (stR9 l tt i lo hi k n j t v) =
 cond (decide (j < Int.ofNat n)) (
 .need ((0 ≤ j ∧ j < Int.ofNat n)) (
 .need (k + Int.toNat j < List.length l) (
 .need (i64ok ((List.getD l (k + Int.toNat j) (cod 1).d).1 - t)) (
 .need (i64ok ((List.getD l (k + Int.toNat j) (cod 1).d).2 - v)) (
 .need (i64ok (100 * ((List.getD l (k + Int.toNat j) (cod 1).d).2 - v))) (
 .need (i64ok (100 * ((List.getD l (k + Int.toNat j) (cod 1).d).2 - v) - 99)) (
 .need (i64ok (16 * (100 * ((List.getD l (k + Int.toNat j) (cod 1).d).2 - v) - 99))) (
 .need ((0 < (List.getD l (k + Int.toNat j) (cod 1).d).1 - t ∧ i64ok (16 * (100 * ((List.getD l (k + Int.toNat j) (cod 1).d).2 - v) - 99)))) (
 .need (i64ok (100 * ((List.getD l (k + Int.toNat j) (cod 1).d).2 - v) + 99)) (
 .need (i64ok (16 * (100 * ((List.getD l (k + Int.toNat j) (cod 1).d).2 - v) + 99))) (
 .need ((0 < (List.getD l (k + Int.toNat j) (cod 1).d).1 - t ∧ (i64ok (16 * (100 * ((List.getD l (k + Int.toNat j) (cod 1).d).2 - v) + 99)) ∧ i64ok (-(16 * (100 * ((List.getD l (k + Int.toNat j) (cod 1).d).2 - v) + 99)))))) (
 .need (i64ok (j + 1)) (
 .ret (.cut (cutAt Try.f18 9) ⟨tmG 43 [(0, .c (.slc 0 0 (List.length l) tt)), (5, .c (.int .i64 (max lo   (16 * (100 * ((List.getD l (k + Int.toNat j) (cod 1).d).2 - v) - 99) /     ((List.getD l (k + Int.toNat j) (cod 1).d).1 - t))))), (0, .c (.int .i64 (min hi   (-(-(16 * (100 * ((List.getD l (k + Int.toNat j) (cod 1).d).2 - v) + 99)) /       ((List.getD l (k + Int.toNat j) (cod 1).d).1 - t)))))), (1, .c (.ptr 1 0 0)), (13, .c (.slc 0 0 (List.length l) tt)), (0, .c (.int .i64 (Int.ofNat (List.length l)))), (0, .c (.int .i64 i)), (7, .c (.slc 0 (k) (n) tt)), (0, .c (.int .i64 (Int.ofNat n))), (0, .c (.int .i64 (j + 1)))], [.inp 1 l, .blk [.int .i64 t, .int .i64 v] 43]⟩)))))))))))))) (
 .need (i64ok (i + 1)) (
 .ret (.cut (cutAt Try.f18 6) ⟨tmG 53 [(0, .c (.slc 0 0 (List.length l) tt)), (5, .c (.int .i64 lo)), (0, .c (.int .i64 hi)), (15, .c (.slc 0 0 (List.length l) tt)), (0, .c (.int .i64 (Int.ofNat (List.length l)))), (0, .c (.int .i64 (i + 1)))], [.inp 1 l]⟩))) := by kernel_rfl



/-- What the check says of reports. -/
def Rok (l : List (Int × Int)) : Prop := l.length ≤ 64 ∧ (∀ i, i < l.length → (0 ≤ (l.getD i (0, 0)).1 ∧ (l.getD i (0, 0)).1 ≤ 200000) ∧ (0 ≤ (l.getD i (0, 0)).2 ∧ (l.getD i (0, 0)).2 ≤ 600)) ∧ ∀ i j, i < j → j < l.length → (l.getD i (0, 0)).1 < (l.getD j (0, 0)).1
theorem repGo_zero : ∀ (l : List (Int × Int)) (first : Bool) (p : Int), F.repGo first p l = 0 → (∀ i, i < l.length → (0 ≤ (l.getD i (0, 0)).1 ∧ (l.getD i (0, 0)).1 ≤ 200000) ∧ (0 ≤ (l.getD i (0, 0)).2 ∧ (l.getD i (0, 0)).2 ≤ 600)) ∧ (∀ i j, i < j → j < l.length → (l.getD i (0, 0)).1 < (l.getD j (0, 0)).1) ∧ (first = false → ∀ i, i < l.length → p < (l.getD i (0, 0)).1)
  | [], _, _, _ => ⟨fun i h => absurd h (Nat.not_lt_zero _), fun i j _ h => absurd h (Nat.not_lt_zero _), fun _ i h => absurd h (Nat.not_lt_zero _)⟩
  | (t, v) :: r, first, p, h => by
    unfold F.repGo at h
    split at h
    · cases h
    split at h
    · cases h
    split at h
    · cases h
    split at h
    · cases h
    split at h
    · cases h
    rename_i g1 g2 g3 g4 g5
    obtain ⟨h1, h2, h3⟩ := repGo_zero r false t h
    have h3 := h3 rfl
    refine ⟨fun i hi => ?_, fun i j hij hj => ?_, fun hf i hi => ?_⟩
    · cases i with
      | zero => simp only [List.getD_cons_zero]; omega
      | succ i => simpa using h1 i (by simpa using hi)
    · cases j with
      | zero => omega
      | succ j =>
        cases i with
        | zero => simpa using h3 j (by simpa using hj)
        | succ i => simpa using h2 i j (by omega) (by simpa using hj)
    · have hp : p < t := by
        rcases Int.lt_or_le p t with hh | hh
        · exact hh
        · exact absurd ⟨hf, hh⟩ g5
      cases i with
      | zero => simpa using hp
      | succ i =>
        have := h3 i (by simpa using hi)
        simp only [List.getD_cons_succ]
        omega
theorem rep_zero {l : List (Int × Int)} (h : F.rep l = 0) : Rok l := by
  unfold F.rep at h
  split at h
  · cases h
  · obtain ⟨h1, h2, _⟩ := repGo_zero l true 0 h
    exact ⟨by omega, h1, h2⟩


theorem max_ok {a b : Int} (ha : i64ok a) (hb : i64ok b) : i64ok (max a b) := by
  unfold i64ok at *
  omega
theorem rates_loop (l : List (Int × Int)) (hl : Rok l) (tt : Bool) (b0 : Base) (hb : b0.n = 1) (R : SV) : ∀ (m : Nat) (i lo hi : Int), 0 ≤ i → i + m = l.length → R = resR (F.lo (l.drop i.toNat) lo) (F.hi (l.drop i.toNat) hi) →
    Sym.Runs Try.prog b0 (cutAt Try.f18 6) (stR6 l tt i lo hi) (Sym.Ends Try.prog Try.f18 b0.n R []) := by
  obtain ⟨hl0, hl1, hl2⟩ := hl
  have hd : (cod 1).d = (0, 0) := rfl
  intro m
  induction m with
  | zero =>
    intro i lo hi h0 hm hR
    refine Sym.Runs.of_symF (cfg := C_ccheck) L_ccheck_ok mixed 400 (cuts := cutsRates) rfl ?_
    rw [hb, rates_t6]
    have h1 : ¬ i < (l.length : Int) := by omega
    have h2 : l.drop i.toNat = [] := List.drop_of_length_le (by omega)
    rw [h2] at hR
    simp only [F.lo, F.hi, resR] at hR
    simp only [T.wp, T.wp_cond, Aft, Int.ofNat_eq_natCast, decide_eq_true_eq, h1, if_false, and_true, hR]
    by_cases h : hi < lo <;> simp [h]
  | succ m ih =>
    intro i lo hi h0 hm hR
    refine Sym.Runs.of_symF (cfg := C_ccheck) L_ccheck_ok mixed 400 (cuts := cutsRates) rfl ?_
    rw [hb, rates_t6]
    have h1 : i < (l.length : Int) := by omega
    have k1 : 0 + i.toNat < l.length := by omega
    have k2 : i64ok (i + 1) := by unfold i64ok; omega
    simp only [T.wp, T.wp_cond, Aft, Int.ofNat_eq_natCast, decide_eq_true_eq, h1, if_true]
    refine ⟨⟨h0, trivial⟩, k1, k2, ⟨by omega, by omega⟩, ?_⟩
    rw [drop_at l (0, 0) h0 h1] at hR
    simp only [hd, Nat.zero_add]
    have hin : ∀ (q : Nat) (j lo' hi' : Int), 0 ≤ j → j + q = l.length - (i + 1) →
        F.loIn (l.getD i.toNat (0, 0)) ((l.drop (i + 1).toNat).drop j.toNat) lo' = F.loIn (l.getD i.toNat (0, 0)) (l.drop (i + 1).toNat) lo →
        F.hiIn (l.getD i.toNat (0, 0)) ((l.drop (i + 1).toNat).drop j.toNat) hi' = F.hiIn (l.getD i.toNat (0, 0)) (l.drop (i + 1).toNat) hi →
        Sym.Runs Try.prog b0 (cutAt Try.f18 9) (stR9 l tt i lo' hi' (i + 1).toNat (l.length - (i + 1).toNat) j (l.getD i.toNat (0, 0)).1 (l.getD i.toNat (0, 0)).2) (Sym.Ends Try.prog Try.f18 b0.n R []) := by
      intro q
      induction q with
      | zero =>
        intro j lo' hi' hj hq e1 e2
        refine Sym.Runs.of_symF (cfg := C_ccheck) L_ccheck_ok mixed 400 (cuts := cutsRates) rfl ?_
        rw [hb, rates_t9]
        have g1 : ¬ j < ((l.length - (i + 1).toNat : Nat) : Int) := by omega
        have g2 : (l.drop (i + 1).toNat).drop j.toNat = [] := List.drop_of_length_le (by rw [List.length_drop]; omega)
        rw [g2] at e1 e2
        simp only [F.loIn, F.hiIn, List.foldl_nil] at e1 e2
        simp only [T.wp, T.wp_cond, Aft, Int.ofNat_eq_natCast, decide_eq_true_eq, g1, if_false]
        refine ⟨k2, ?_⟩
        have := ih (i + 1) lo' hi' (by omega) (by omega) (by
          rw [hR]
          simp only [F.lo, F.hi, F.loIn, F.hiIn, e1, e2])
        rw [hb] at this
        exact this
      | succ q ihq =>
        intro j lo' hi' hj hq e1 e2
        refine Sym.Runs.of_symF (cfg := C_ccheck) L_ccheck_ok mixed 400 (cuts := cutsRates) rfl ?_
        rw [hb, rates_t9]
        have g1 : j < ((l.length - (i + 1).toNat : Nat) : Int) := by omega
        have g3 : (i + 1).toNat + j.toNat < l.length := by omega
        have g4 : j < (((l.drop (i + 1).toNat).length : Nat) : Int) := by rw [List.length_drop]; omega
        rw [drop_at _ (0, 0) hj g4] at e1 e2
        have g5 : (l.drop (i + 1).toNat).getD j.toNat (0, 0) = l.getD ((i + 1).toNat + j.toNat) (0, 0) := by simp [List.getD]
        rw [g5] at e1 e2
        have p1 := hl1 _ g3
        have p2 := hl1 i.toNat (by omega)
        have p3 := hl2 i.toNat ((i + 1).toNat + j.toNat) (by omega) g3
        simp only [hd]
        have nx := ihq (j + 1) (max lo' (F.pLo (l.getD i.toNat (0, 0)) (l.getD ((i + 1).toNat + j.toNat) (0, 0)))) (min hi' (F.pHi (l.getD i.toNat (0, 0)) (l.getD ((i + 1).toNat + j.toNat) (0, 0)))) (by omega) (by omega) e1 e2
        rw [hb] at nx
        unfold F.pLo F.pHi at nx
        generalize l.getD ((i + 1).toNat + j.toNat) (0, 0) = eb at *
        generalize l.getD i.toNat (0, 0) = ea at *
        simp only [T.wp, T.wp_cond, Aft, Int.ofNat_eq_natCast, decide_eq_true_eq, g1, if_true]
        unfold i64ok
        refine ⟨⟨hj, trivial⟩, g3, by omega, by omega, by omega, by omega, by omega, ⟨by omega, by omega⟩, by omega, by omega, ⟨by omega, by omega, by omega⟩, by omega, nx⟩
    have := hin (l.length - (i + 1).toNat) 0 lo hi (by omega) (by omega) rfl rfl
    rw [hb] at this
    exact this


theorem rep_loop (l : List (Int × Int)) (tt : Bool) (hl : l.length ≤ 64) (b0 : Base) (hb : b0.n = 1) : ∀ (m : Nat) (i : Int), 0 ≤ i → i + m = l.length →
    Sym.Runs Try.prog b0 (cutAt Try.f20 4) (stRep l tt i) (Sym.Ends Try.prog Try.f20 b0.n (.c (.int .i64 (F.repGo (decide (i = 0)) (l.getD (i - 1).toNat (0, 0)).1 (l.drop i.toNat)))) []) := by
  intro m
  induction m with
  | zero =>
    intro i h0 hm
    refine Sym.Runs.of_symF (cfg := C_ccheck) L_ccheck_ok mixed 400 (cuts := cutsRep) rfl ?_
    rw [hb, rep_t1]
    have h1 : ¬ i < (l.length : Int) := by omega
    have h2 : l.drop i.toNat = [] := List.drop_of_length_le (by omega)
    simp only [T.wp, T.wp_cond, Aft, Int.ofNat_eq_natCast, decide_eq_true_eq, h1, h2, if_false, F.repGo, and_self]
  | succ m ih =>
    intro i h0 hm
    refine Sym.Runs.of_symF (cfg := C_ccheck) L_ccheck_ok mixed 400 (cuts := cutsRep) rfl ?_
    rw [hb, rep_t1]
    have h1 : i < (l.length : Int) := by omega
    have hn := ih (i + 1) (by omega) (by omega)
    rw [hb] at hn
    have e1 : decide (i + 1 = 0) = false := by simp; omega
    have e2 : (i + 1 - 1).toNat = i.toNat := by omega
    rw [e1, e2] at hn
    rw [drop_at l (0, 0) h0 h1]
    have hd : (cod 1).d = (0, 0) := rfl
    have k1 : 0 + i.toNat < l.length := by omega
    have k2 : i64ok (i + 1) := by unfold i64ok; omega
    simp only [hd, Nat.zero_add] at *
    generalize l.getD i.toNat (0, 0) = e at *
    obtain ⟨t, v⟩ := e
    simp only [T.wp, T.wp_cond, Aft, Int.ofNat_eq_natCast, decide_eq_true_eq, h1, if_true, F.repGo, and_true]
    refine ⟨h0, k1, ?_⟩
    have f1 : F.inb t 0 200000 = (!decide (t < 0) && !decide (200000 < t)) := by
      unfold F.inb
      by_cases g1 : t < 0 <;> by_cases g2 : 200000 < t <;> simp [g1, g2] <;> omega
    have f2 : F.inb v 0 600 = (!decide (v < 0) && !decide (600 < v)) := by
      unfold F.inb
      by_cases g1 : v < 0 <;> by_cases g2 : 600 < v <;> simp [g1, g2] <;> omega
    rw [f1, f2]
    by_cases g1 : t < 0
    · simp [g1]
    by_cases g2 : 200000 < t
    · simp [g1, g2]
    by_cases g3 : v < 0
    · simp [g1, g2, g3]
    by_cases g4 : 600 < v
    · simp [g1, g2, g3, g4]
    by_cases g5 : 0 < i
    · have k3 : i64ok (i - 1) := by unfold i64ok; omega
      have k4 : 0 ≤ i - 1 ∧ i - 1 < (l.length : Int) := by omega
      have k5 : (i - 1).toNat < l.length := by omega
      have k6 : decide (i = 0) = false := by simp; omega
      by_cases g6 : t ≤ (l.getD (i - 1).toNat (0, 0)).1
      · simp only [g1, g2, g3, g4, g5, g6, k3, k4, k5, k6, if_true, if_false, and_self, decide_false, Bool.not_false, Bool.and_self, Bool.not_true, Bool.false_eq_true]
      · simp only [g1, g2, g3, g4, g5, g6, k2, k3, k4, k5, k6, if_true, if_false, true_and, and_false, decide_false, Bool.not_false, Bool.and_self, Bool.not_true, Bool.false_eq_true]
        exact hn
    · have k6 : decide (i = 0) = true := by simp; omega
      simp only [g1, g2, g3, g4, g5, k2, k6, if_false, true_and, Bool.true_eq_false, false_and, decide_false, Bool.not_false, Bool.and_self, Bool.not_true, Bool.false_eq_true]
      exact hn
theorem rep_body (l : List (Int × Int)) (tt : Bool) (b0 : Base) (hb : b0.n = 1) : (symF C_ccheck cutsRep Try.f20.results.toList 1 400 [.code (codeOf Try.f20)] ⟨argsS Try.f20 [.c (.slc 0 0 l.length tt)], [.inp 1 l]⟩).wp
    (Aft Try.prog b0 (Sym.Ends Try.prog Try.f20 1 (.c (.int .i64 (F.rep l))) []) (.c (.int .i64 (F.rep l))) []) := by
  rw [rep_t0]
  unfold F.rep
  by_cases h : (64 : Int) < l.length
  · have h' : 64 < l.length := by omega
    simp [T.wp, T.wp_cond, Aft, h, h']
  · have h' : ¬ 64 < l.length := by omega
    simp only [T.wp, T.wp_cond, Aft, Int.ofNat_eq_natCast, decide_eq_true_eq, h, h', if_false]
    have := rep_loop l tt (by omega) b0 hb l.length 0 (by omega) (by omega)
    rw [hb] at this
    have e : F.repGo (decide ((0 : Int) = 0)) (l.getD ((0 : Int) - 1).toNat (0, 0)).1 (l.drop (0 : Int).toNat) = F.repGo true 0 l := rep_first _ l
    rw [e] at this
    exact this
theorem rep_sound : Sound Try.prog cod 20 s_ccheck := sound_loop (cfg := C_ccheck) L_ccheck_ok mixed Try.func20 rfl rfl cutsRep _ 400 fun args H r news hg b0 hb => by
  unfold s_ccheck at hg
  split at hg
  · rename_i u l
    split at hg
    · rename_i hu
      subst hu
      split at hg
      · rename_i i n tt
        simp only [T.gives, T.wp, Prod.mk.injEq] at hg
        obtain ⟨⟨rfl, rfl⟩, rfl, rfl⟩ := hg
        exact rep_body l tt b0 hb
      · exact hg.elim
    · exact hg.elim
  · exact hg.elim

end
end Go.Proofs.Ythljcjighomgkaa
