/- Part of a claim: lemmas on the way to its theorem; each states its own conditions. -/
import Derived.Test.YtffcfbamcaoidaaGu
namespace Go.Proofs.Ytffcfbamcaoidaa
open Sym Go.RowKit
noncomputable section
set_option maxRecDepth 100000
set_option maxHeartbeats 4000000

noncomputable def s_lsN : Summ cod := fun args H => match args, H with
  | [.c (.slc 0 li ln lt), .c .nil, .c .nil], [o0] => (match o0.asInp 4 with
    | some l => .need ((li = 0 ∧ ln = List.length l) ∧ 0 < ln ∧ ln ≤ 6 ∧ F.allok l)
          (.ite (F.srchB l ln [] []) (.ret (.c (.slc 1 0 (List.length (F.srchR l ln [] [])) false), [.own 0 (F.srchR l ln [] []) 3])) (.ret (.c (.own 1 0), [.own 0 [] 3])))
    | none => .fail)
  | _, _ => .fail
def cuts_lsn : Cuts := [(5, [7, 2, 1, 0, 18], 1)]

theorem lsn_t0 (l : List (Int × Int × Int × Int)) (l_t : Bool) : symF C_lfreeB cuts_lsn Try.f79.results.toList 1 400 [.code (codeOf Try.f79)] ⟨argsS Try.f79 [.c (.slc 0 0 (List.length l) l_t), .c .nil, .c .nil], ([.inp 4 l] : Heap cod)⟩ =
 cond (decide (0 = Int.ofNat (List.length l))) (
 .ret (.fin (.c (.nil)) [])) (
 .ret (.cut (cutAt Try.f79 5) ⟨tmG 32 [(0, .c (.slc 0 0 (List.length l) l_t)), (0, .c (.nil)), (0, .c (.nil)), (4, .c (.int .i64 0)), (10, .c (.int .i64 0))], [.inp 4 l]⟩)) := by kernel_rfl


noncomputable def st_lsn_5 (l : List (Int × Int × Int × Int)) (l_t : Bool) (k : Int) : St cod := ⟨tmG 32 [(0, .c (.slc 0 0 (List.length l) l_t)), (0, .c (.nil)), (0, .c (.nil)), (4, .c (.int .i64 0)), (10, .c (.int .i64 k))], [.inp 4 l]⟩


theorem lsn_t5z (l : List (Int × Int × Int × Int)) (l_t : Bool) (k : Int) : symF C_rec0 cuts_lsn Try.f79.results.toList 1 400 (cutAt Try.f79 5) (st_lsn_5 l l_t k) =
 cond (decide (k < 8)) (
 .need (((0 : Int) ≤ 0 ∧ (0 : Int) < Int.ofNat (List.length l))) (
 .need ((0 + Int.toNat 0 : Nat) < List.length l) (
 .need (F.lab (List.getD l (0 + Int.toNat 0) (cod 4).d).1 (List.getD l (0 + Int.toNat 0) (cod 4).d).2.1   (List.getD l (0 + Int.toNat 0) (cod 4).d).2.2.1 (List.getD l (0 + Int.toNat 0) (cod 4).d).2.2.2 k) (
 .need ((0 + List.length l ≤ List.length l ∧ (List.length l ≤ 1000000 ∧ (F.bq   (F.bX (List.getD l (0 + Int.toNat 0) (cod 4).d).1 (List.getD l (0 + Int.toNat 0) (cod 4).d).2.1       (List.getD l (0 + Int.toNat 0) (cod 4).d).2.2.1 (List.getD l (0 + Int.toNat 0) (cod 4).d).2.2.2 k,     F.bY (List.getD l (0 + Int.toNat 0) (cod 4).d).1 (List.getD l (0 + Int.toNat 0) (cod 4).d).2.1       (List.getD l (0 + Int.toNat 0) (cod 4).d).2.2.1 (List.getD l (0 + Int.toNat 0) (cod 4).d).2.2.2 k,     (List.getD l (0 + Int.toNat 0) (cod 4).d).2.2.1, (List.getD l (0 + Int.toNat 0) (cod 4).d).2.2.2) ∧ F.allB l)))) (
 cond (F.free l 0 (List.length l) [] 0 0   (F.bX (List.getD l (0 + Int.toNat 0) (cod 4).d).1 (List.getD l (0 + Int.toNat 0) (cod 4).d).2.1       (List.getD l (0 + Int.toNat 0) (cod 4).d).2.2.1 (List.getD l (0 + Int.toNat 0) (cod 4).d).2.2.2 k,     F.bY (List.getD l (0 + Int.toNat 0) (cod 4).d).1 (List.getD l (0 + Int.toNat 0) (cod 4).d).2.1       (List.getD l (0 + Int.toNat 0) (cod 4).d).2.2.1 (List.getD l (0 + Int.toNat 0) (cod 4).d).2.2.2 k,     (List.getD l (0 + Int.toNat 0) (cod 4).d).2.2.1, (List.getD l (0 + Int.toNat 0) (cod 4).d).2.2.2)) (
  .need (((0 : Int) = 0 ∧ (0 : Int) = 0)) (
  .need (1 = 1) (
  .need (((0 : Nat) < 1 ∧ (1 : Nat) ≤ 1000000)) (
  .need (((0 : Int) = 0 ∧ (0 : Int) = 0)) (
  .need (1 = 1) (
  .need (((0 : Nat) < 1 ∧ (1 : Nat) ≤ 1000000)) (
  .need ((((0 = 0 ∧ List.length l = List.length l) ∧ ((0 = 0 ∧ 1 = 1) ∧ (0 = 0 ∧ 1 = 1))) ∧ 1 = List.length l)) (
  .need ((0 : Nat) < 1) (
  .ret (.fin (.c (.slc 1 0 1 false)) [.own 0 [k] 3])))))))))) (
  .need (i64ok (k + 1)) (
  .ret (.cut (cutAt Try.f79 5) ⟨tmG 32 [(0, .c (.slc 0 0 (List.length l) l_t)), (0, .c (.nil)), (0, .c (.nil)), (4, .c (.int .i64 0)), (10, .c (.int .i64 (k + 1)))], [.inp 4 l]⟩)))))))) (
 .ret (.fin (.c (.own 1 0)) [.own 0 [] 3])) := by kernel_rfl


theorem lsn_t5s (d : Nat) (l : List (Int × Int × Int × Int)) (l_t : Bool) (k : Int) : symF (C_rec d) cuts_lsn Try.f79.results.toList 1 400 (cutAt Try.f79 5) (st_lsn_5 l l_t k) =
 cond (decide (k < 8)) (
 .need (((0 : Int) ≤ 0 ∧ (0 : Int) < Int.ofNat (List.length l))) (
 .need ((0 + Int.toNat 0 : Nat) < List.length l) (
 .need (F.lab (List.getD l (0 + Int.toNat 0) (cod 4).d).1 (List.getD l (0 + Int.toNat 0) (cod 4).d).2.1   (List.getD l (0 + Int.toNat 0) (cod 4).d).2.2.1 (List.getD l (0 + Int.toNat 0) (cod 4).d).2.2.2 k) (
 .need ((0 + List.length l ≤ List.length l ∧ (List.length l ≤ 1000000 ∧ (F.bq   (F.bX (List.getD l (0 + Int.toNat 0) (cod 4).d).1 (List.getD l (0 + Int.toNat 0) (cod 4).d).2.1       (List.getD l (0 + Int.toNat 0) (cod 4).d).2.2.1 (List.getD l (0 + Int.toNat 0) (cod 4).d).2.2.2 k,     F.bY (List.getD l (0 + Int.toNat 0) (cod 4).d).1 (List.getD l (0 + Int.toNat 0) (cod 4).d).2.1       (List.getD l (0 + Int.toNat 0) (cod 4).d).2.2.1 (List.getD l (0 + Int.toNat 0) (cod 4).d).2.2.2 k,     (List.getD l (0 + Int.toNat 0) (cod 4).d).2.2.1, (List.getD l (0 + Int.toNat 0) (cod 4).d).2.2.2) ∧ F.allB l)))) (
 cond (F.free l 0 (List.length l) [] 0 0   (F.bX (List.getD l (0 + Int.toNat 0) (cod 4).d).1 (List.getD l (0 + Int.toNat 0) (cod 4).d).2.1       (List.getD l (0 + Int.toNat 0) (cod 4).d).2.2.1 (List.getD l (0 + Int.toNat 0) (cod 4).d).2.2.2 k,     F.bY (List.getD l (0 + Int.toNat 0) (cod 4).d).1 (List.getD l (0 + Int.toNat 0) (cod 4).d).2.1       (List.getD l (0 + Int.toNat 0) (cod 4).d).2.2.1 (List.getD l (0 + Int.toNat 0) (cod 4).d).2.2.2 k,     (List.getD l (0 + Int.toNat 0) (cod 4).d).2.2.1, (List.getD l (0 + Int.toNat 0) (cod 4).d).2.2.2)) (
  .need (((0 : Int) = 0 ∧ (0 : Int) = 0)) (
  .need (1 = 1) (
  .need (((0 : Nat) < 1 ∧ (1 : Nat) ≤ 1000000)) (
  .need (((0 : Int) = 0 ∧ (0 : Int) = 0)) (
  .need (1 = 1) (
  .need (((0 : Nat) < 1 ∧ (1 : Nat) ≤ 1000000)) (
  .need ((((0 = 0 ∧ List.length l = List.length l) ∧ ((0 = 0 ∧ 1 = 1) ∧ (0 = 0 ∧ 1 = 1))) ∧ (1 = 1 ∧ (1 + (d + 1) = List.length l ∧ (List.length l ≤ 6 ∧ (F.allok l ∧ F.allB   [(F.bX (List.getD l (0 + Int.toNat 0) (cod 4).d).1 (List.getD l (0 + Int.toNat 0) (cod 4).d).2.1         (List.getD l (0 + Int.toNat 0) (cod 4).d).2.2.1 (List.getD l (0 + Int.toNat 0) (cod 4).d).2.2.2 k,       F.bY (List.getD l (0 + Int.toNat 0) (cod 4).d).1 (List.getD l (0 + Int.toNat 0) (cod 4).d).2.1         (List.getD l (0 + Int.toNat 0) (cod 4).d).2.2.1 (List.getD l (0 + Int.toNat 0) (cod 4).d).2.2.2 k,       (List.getD l (0 + Int.toNat 0) (cod 4).d).2.2.1, (List.getD l (0 + Int.toNat 0) (cod 4).d).2.2.2)])))))) (
  .ite (F.srchB l (d + 1) [k]   [(F.bX (List.getD l (0 + Int.toNat 0) (cod 4).d).1 (List.getD l (0 + Int.toNat 0) (cod 4).d).2.1         (List.getD l (0 + Int.toNat 0) (cod 4).d).2.2.1 (List.getD l (0 + Int.toNat 0) (cod 4).d).2.2.2 k,       F.bY (List.getD l (0 + Int.toNat 0) (cod 4).d).1 (List.getD l (0 + Int.toNat 0) (cod 4).d).2.1         (List.getD l (0 + Int.toNat 0) (cod 4).d).2.2.1 (List.getD l (0 + Int.toNat 0) (cod 4).d).2.2.2 k,       (List.getD l (0 + Int.toNat 0) (cod 4).d).2.2.1, (List.getD l (0 + Int.toNat 0) (cod 4).d).2.2.2)]) (
   .need ((0 : Nat) < List.length   (F.srchR l (d + 1) [k]     [(F.bX (List.getD l (0 + Int.toNat 0) (cod 4).d).1 (List.getD l (0 + Int.toNat 0) (cod 4).d).2.1           (List.getD l (0 + Int.toNat 0) (cod 4).d).2.2.1 (List.getD l (0 + Int.toNat 0) (cod 4).d).2.2.2 k,         F.bY (List.getD l (0 + Int.toNat 0) (cod 4).d).1 (List.getD l (0 + Int.toNat 0) (cod 4).d).2.1           (List.getD l (0 + Int.toNat 0) (cod 4).d).2.2.1 (List.getD l (0 + Int.toNat 0) (cod 4).d).2.2.2 k,         (List.getD l (0 + Int.toNat 0) (cod 4).d).2.2.1, (List.getD l (0 + Int.toNat 0) (cod 4).d).2.2.2)])) (
   .ret (.fin (.c (.slc 1 0 (List.length   (F.srchR l (d + 1) [k]     [(F.bX (List.getD l (0 + Int.toNat 0) (cod 4).d).1 (List.getD l (0 + Int.toNat 0) (cod 4).d).2.1           (List.getD l (0 + Int.toNat 0) (cod 4).d).2.2.1 (List.getD l (0 + Int.toNat 0) (cod 4).d).2.2.2 k,         F.bY (List.getD l (0 + Int.toNat 0) (cod 4).d).1 (List.getD l (0 + Int.toNat 0) (cod 4).d).2.1           (List.getD l (0 + Int.toNat 0) (cod 4).d).2.2.1 (List.getD l (0 + Int.toNat 0) (cod 4).d).2.2.2 k,         (List.getD l (0 + Int.toNat 0) (cod 4).d).2.2.1, (List.getD l (0 + Int.toNat 0) (cod 4).d).2.2.2)])) false)) [.own 0 (F.srchR l (d + 1) [k]   [(F.bX (List.getD l (0 + Int.toNat 0) (cod 4).d).1 (List.getD l (0 + Int.toNat 0) (cod 4).d).2.1         (List.getD l (0 + Int.toNat 0) (cod 4).d).2.2.1 (List.getD l (0 + Int.toNat 0) (cod 4).d).2.2.2 k,       F.bY (List.getD l (0 + Int.toNat 0) (cod 4).d).1 (List.getD l (0 + Int.toNat 0) (cod 4).d).2.1         (List.getD l (0 + Int.toNat 0) (cod 4).d).2.2.1 (List.getD l (0 + Int.toNat 0) (cod 4).d).2.2.2 k,       (List.getD l (0 + Int.toNat 0) (cod 4).d).2.2.1, (List.getD l (0 + Int.toNat 0) (cod 4).d).2.2.2)]) 3]))) (
   .need (True) (
   .need (i64ok (k + 1)) (
   .ret (.cut (cutAt Try.f79 5) ⟨tmG 32 [(0, .c (.slc 0 0 (List.length l) l_t)), (0, .c (.nil)), (0, .c (.nil)), (4, .c (.int .i64 0)), (10, .c (.int .i64 (k + 1)))], [.inp 4 l]⟩)))))))))))) (
  .need (i64ok (k + 1)) (
  .ret (.cut (cutAt Try.f79 5) ⟨tmG 32 [(0, .c (.slc 0 0 (List.length l) l_t)), (0, .c (.nil)), (0, .c (.nil)), (4, .c (.int .i64 0)), (10, .c (.int .i64 (k + 1)))], [.inp 4 l]⟩)))))))) (
 .ret (.fin (.c (.own 1 0)) [.own 0 [] 3])) := by kernel_rfl



namespace F
noncomputable def resN : Option (List Int) → SV × Heap cod
  | some r => (.c (.slc 1 0 (List.length r) false), [.own 0 r 3])
  | none => (.c (.own 1 0), [.own 0 [] 3])
theorem resN_of {l : List F.Q4} {d : Nat} {sp : List Int} {us : List F.Q4} {r : SV} {news : Heap cod} (h1 : F.srchB l d sp us = true → .c (.slc 1 0 (List.length (F.srchR l d sp us)) false) = r ∧ [.own 0 (F.srchR l d sp us) 3] = news) (h2 : F.srchB l d sp us = false → .c (.own 1 0) = r ∧ [.own 0 [] 3] = news) : (r, news) = F.resN (F.srch l d sp us) := by
  unfold F.srchB F.srchR at h1
  unfold F.srchB at h2
  cases hs : F.srch l d sp us with
  | none =>
    rw [hs] at h2
    obtain ⟨rfl, rfl⟩ := h2 rfl
    rfl
  | some q =>
    rw [hs] at h1
    obtain ⟨rfl, rfl⟩ := h1 rfl
    rfl
end F

theorem lnZ_loop (l : List F.Q4) (l_t : Bool) (b0 : Base) (hb0 : b0.n = 1) (hn : 0 + 1 = l.length) (h6 : l.length ≤ 6) (ha : F.allok l) (R : SV) (N : Heap cod) : ∀ (m : Nat) (k : Int), 0 ≤ k → k + m = 8 → (R, N) = F.resN (F.go l (F.srch l (0)) [] [] m k) →
    Sym.Runs Try.prog b0 (cutAt Try.f79 5) (st_lsn_5 l l_t k) (Sym.Ends Try.prog Try.f79 1 R N) := by
  intro m
  induction m with
  | zero =>
    intro k h0 hm hR
    refine Runs.go (cfg := C_rec0) (Snd.cons ls0_sound L_lfreeB_ok) mixed cuts_lsn 400 hb0 (lsn_t5z l l_t k) ?_
    have k1 : ¬ k < 8 := by omega
    simp only [F.go, F.resN, Prod.mk.injEq] at hR
    obtain ⟨rfl, rfl⟩ := hR
    simp only [T.wp, T.wp_cond, Aft, Int.ofNat_eq_natCast, decide_eq_true_eq, and_true, true_and, Nat.zero_add, Bool.not_eq_true', decide_eq_false_iff_not, k1, if_false]
  | succ m ih =>
    intro k h0 hm hR
    have k1 : k < 8 := by omega
    have k2 : 0 < l.length := by omega
    have k3 : i64ok (k + 1) := by unfold i64ok; omega
    have nx := ih (k + 1) (by omega) (by omega)
    have hx : F.ok4 (l.getD 0 F.q0) := F.ok_get ha k2
    have hl := F.lab_of hx h0 k1
    have hq := F.bq_box hx h0 k1
    have hal := F.allB_of ha
    have hd : (cod 4).d = F.q0 := rfl
    have ti : Int.toNat 0 = 0 := rfl
    have c2 : (0 : Int) < (l.length : Int) := by omega
    have c3 : l.length ≤ 1000000 := by omega
    rw [F.go] at hR
    refine Runs.go (cfg := C_rec0) (Snd.cons ls0_sound L_lfreeB_ok) mixed cuts_lsn 400 hb0 (lsn_t5z l l_t k) ?_
    simp only [T.wp, T.wp_cond, Aft, Int.ofNat_eq_natCast, decide_eq_true_eq, and_true, true_and, Nat.zero_add, Bool.not_eq_true', decide_eq_false_iff_not, hd, ti, Nat.add_zero]
    have e1 : (F.bX (l.getD 0 F.q0).1 (l.getD 0 F.q0).2.1 (l.getD 0 F.q0).2.2.1 (l.getD 0 F.q0).2.2.2 k, F.bY (l.getD 0 F.q0).1 (l.getD 0 F.q0).2.1 (l.getD 0 F.q0).2.2.1 (l.getD 0 F.q0).2.2.2 k, (l.getD 0 F.q0).2.2.1, (l.getD 0 F.q0).2.2.2) = F.boxQ (l.getD 0 F.q0) k := rfl
    simp only [e1]
    simp only [List.length_nil, List.nil_append] at hR
    generalize F.boxQ (l.getD 0 F.q0) k = B at *
    rw [if_pos k1]
    refine ⟨⟨Int.le_refl _, c2⟩, k2, hl, ⟨Nat.le_refl _, c3, hq, hal⟩, ?_⟩
    cases hf : F.free l 0 l.length [] 0 0 B
    · rw [hf, if_neg (by simp)] at hR
      simp only [Bool.false_eq_true, if_false]
      exact ⟨k3, nx hR⟩
    · rw [hf, if_pos rfl] at hR
      simp only [if_true]
      refine ⟨⟨by decide, by decide⟩, ⟨by decide, by decide⟩, ?_⟩
      simp only [F.srch, F.resN, Prod.mk.injEq] at hR
      obtain ⟨rfl, rfl⟩ := hR
      exact ⟨by omega, by decide, rfl, rfl⟩

theorem lnS_loop (d : Nat) (hd1 : Sound Try.prog cod 79 (s_lsS d)) (l : List F.Q4) (l_t : Bool) (b0 : Base) (hb0 : b0.n = 1) (hn : (d + 1) + 1 = l.length) (h6 : l.length ≤ 6) (ha : F.allok l) (R : SV) (N : Heap cod) : ∀ (m : Nat) (k : Int), 0 ≤ k → k + m = 8 → (R, N) = F.resN (F.go l (F.srch l ((d + 1))) [] [] m k) →
    Sym.Runs Try.prog b0 (cutAt Try.f79 5) (st_lsn_5 l l_t k) (Sym.Ends Try.prog Try.f79 1 R N) := by
  intro m
  induction m with
  | zero =>
    intro k h0 hm hR
    refine Runs.go (cfg := C_rec d) (Snd.cons hd1 L_lfreeB_ok) mixed cuts_lsn 400 hb0 (lsn_t5s d l l_t k) ?_
    have k1 : ¬ k < 8 := by omega
    simp only [F.go, F.resN, Prod.mk.injEq] at hR
    obtain ⟨rfl, rfl⟩ := hR
    simp only [T.wp, T.wp_cond, Aft, Int.ofNat_eq_natCast, decide_eq_true_eq, and_true, true_and, Nat.zero_add, Bool.not_eq_true', decide_eq_false_iff_not, k1, if_false]
  | succ m ih =>
    intro k h0 hm hR
    have k1 : k < 8 := by omega
    have k2 : 0 < l.length := by omega
    have k3 : i64ok (k + 1) := by unfold i64ok; omega
    have nx := ih (k + 1) (by omega) (by omega)
    have hx : F.ok4 (l.getD 0 F.q0) := F.ok_get ha k2
    have hl := F.lab_of hx h0 k1
    have hq := F.bq_box hx h0 k1
    have hal := F.allB_of ha
    have hd : (cod 4).d = F.q0 := rfl
    have ti : Int.toNat 0 = 0 := rfl
    have c2 : (0 : Int) < (l.length : Int) := by omega
    have c3 : l.length ≤ 1000000 := by omega
    rw [F.go] at hR
    refine Runs.go (cfg := C_rec d) (Snd.cons hd1 L_lfreeB_ok) mixed cuts_lsn 400 hb0 (lsn_t5s d l l_t k) ?_
    simp only [T.wp, T.wp_cond, Aft, Int.ofNat_eq_natCast, decide_eq_true_eq, and_true, true_and, Nat.zero_add, Bool.not_eq_true', decide_eq_false_iff_not, hd, ti, Nat.add_zero]
    have e1 : (F.bX (l.getD 0 F.q0).1 (l.getD 0 F.q0).2.1 (l.getD 0 F.q0).2.2.1 (l.getD 0 F.q0).2.2.2 k, F.bY (l.getD 0 F.q0).1 (l.getD 0 F.q0).2.1 (l.getD 0 F.q0).2.2.1 (l.getD 0 F.q0).2.2.2 k, (l.getD 0 F.q0).2.2.1, (l.getD 0 F.q0).2.2.2) = F.boxQ (l.getD 0 F.q0) k := rfl
    simp only [e1]
    simp only [List.length_nil, List.nil_append] at hR
    generalize F.boxQ (l.getD 0 F.q0) k = B at *
    rw [if_pos k1]
    refine ⟨⟨Int.le_refl _, c2⟩, k2, hl, ⟨Nat.le_refl _, c3, hq, hal⟩, ?_⟩
    cases hf : F.free l 0 l.length [] 0 0 B
    · rw [hf, if_neg (by simp)] at hR
      simp only [Bool.false_eq_true, if_false]
      exact ⟨k3, nx hR⟩
    · rw [hf, if_pos rfl] at hR
      simp only [if_true]
      refine ⟨⟨by decide, by decide⟩, ⟨by decide, by decide⟩, ?_⟩
      refine ⟨?_, ?_⟩
      · exact ⟨by omega, h6, ha, F.allB_snoc (l := []) (fun x hx => absurd hx (by simp)) hq⟩
      cases hs : F.srch l (d + 1) [k] [B] with
      | none =>
        rw [hs] at hR
        simp only at hR
        have : F.srchB l (d + 1) [k] [B] = false := by simp [F.srchB, hs]
        refine ⟨fun h => absurd h (by simp [this]), fun _ => ?_⟩
        exact ⟨k3, nx hR⟩
      | some r =>
        rw [hs] at hR
        simp only [F.resN, Prod.mk.injEq] at hR
        obtain ⟨rfl, rfl⟩ := hR
        have e2 : F.srchB l (d + 1) [k] [B] = true := by simp [F.srchB, hs]
        have e3 : F.srchR l (d + 1) [k] [B] = r := by simp [F.srchR, hs]
        have e4 : r.length = [k].length + (d + 1) := F.srch_len l (d + 1) _ _ _ hs
        refine ⟨fun _ => ?_, fun h => absurd h (by simp [e2])⟩
        rw [e3]
        exact ⟨by omega, rfl, rfl⟩

theorem lsN_run (d : Nat) (l : List F.Q4) (l_t : Bool) (b0 : Base) (hb0 : b0.n = 1) (hn : d + 1 = l.length) (h6 : l.length ≤ 6) (ha : F.allok l) (R : SV) (N : Heap cod) (hR : (R, N) = F.resN (F.srch l (d + 1) [] [])) : Sym.Runs Try.prog b0 [.code (codeOf Try.f79)] ⟨argsS Try.f79 [.c (.slc 0 0 (List.length l) l_t), .c .nil, .c .nil], ([.inp 4 l] : Heap cod)⟩ (Sym.Ends Try.prog Try.f79 1 R N) := by
  refine Runs.go (cfg := C_lfreeB) L_lfreeB_ok mixed cuts_lsn 400 hb0 (lsn_t0 l l_t) ?_
  have hne : ¬ 0 = (l.length : Int) := by omega
  simp only [T.wp, T.wp_cond, Aft, Int.ofNat_eq_natCast, decide_eq_true_eq, and_true, true_and, Nat.zero_add, Bool.not_eq_true', decide_eq_false_iff_not, hne, if_false]
  cases d with
  | zero => exact lnZ_loop l l_t b0 hb0 hn h6 ha R N 8 0 (by omega) (by omega) hR
  | succ d => exact lnS_loop d (lsS_sound d) l l_t b0 hb0 hn h6 ha R N 8 0 (by omega) (by omega) hR
theorem lsN_sound : Sound Try.prog cod 79 s_lsN := sound_runs (cfg := C_lfreeB) L_lfreeB_ok mixed Try.func79 rfl rfl _ fun args H r news hg b0 hb => by
  unfold s_lsN at hg
  split at hg
  · skip
    split at hg
    · rename_i l hx0
      cases asInp_spec hx0
      simp only [T.gives, T.wp, Prod.mk.injEq] at hg
      obtain ⟨⟨⟨rfl, rfl⟩, hn, h6, ha⟩, g1, g2⟩ := hg
      have e := F.resN_of g1 g2
      obtain ⟨d, hd⟩ : ∃ d, d + 1 = l.length := ⟨l.length - 1, Nat.succ_pred_eq_of_pos hn⟩
      rw [← hd] at e
      exact lsN_run d l _ b0 hb hd h6 ha r news e
    · exact hg.elim
  · exact hg.elim

noncomputable def L_lsN : Sums cod := (79, .p s_lsN) :: L_lfreeB
noncomputable def C_lsN : Cfg cod := mkC L_lsN

theorem L_lsN_ok : Snd Try.prog cod L_lsN := .cons lsN_sound L_lfreeB_ok



namespace F
def l64 (l : List Q4) : Prop := ∀ x ∈ l, i64ok x.1 ∧ i64ok x.2.1
end F


theorem F.max_neg {n : Int} (h : i64ok n) : (¬ (1000 < max n (IntKind.wrap .i64 (-n))) ∧ ¬ (n = -9223372036854775808)) ↔ (-1000 ≤ n ∧ n ≤ 1000) := by
  by_cases e : n = -9223372036854775808
  · subst e; simp
  · rw [wrap_ok (by unfold i64ok at *; omega)]
    omega
theorem F.lin_iff {x : F.Q4} (h1 : i64ok x.1) (h2 : i64ok x.2.1) : F.lin x = true ↔ ¬ (1000 < max x.1 (IntKind.wrap .i64 (-x.1))) ∧ ¬ (1000 < max x.2.1 (IntKind.wrap .i64 (-x.2.1))) ∧ ¬ (x.1 = -9223372036854775808) ∧ ¬ (x.2.1 = -9223372036854775808) ∧ ¬ (x.2.2.1 < 1) ∧ ¬ (40 < x.2.2.1) ∧ ¬ (x.2.2.2 < 1) ∧ ¬ (40 < x.2.2.2) := by
  have m1 := F.max_neg h1
  have m2 := F.max_neg h2
  unfold F.lin
  simp only [Bool.and_eq_true, decide_eq_true_eq]
  constructor
  · rintro ⟨⟨a1, a2⟩, ⟨a3, a4⟩, ⟨a5, a6⟩, a7, a8⟩
    have g1 := m1.mpr ⟨a1, a2⟩
    have g2 := m2.mpr ⟨a3, a4⟩
    exact ⟨g1.1, g2.1, g1.2, g2.2, by omega, by omega, by omega, by omega⟩
  · rintro ⟨a1, a2, a3, a4, a5, a6, a7, a8⟩
    have g1 := m1.mp ⟨a1, a3⟩
    have g2 := m2.mp ⟨a2, a4⟩
    exact ⟨⟨g1.1, g1.2⟩, ⟨g2.1, g2.2⟩, ⟨by omega, by omega⟩, by omega, by omega⟩


def cuts_lcheck : Cuts := [(4, [8, 9, 10], 1)]

theorem lcheck_t0 (l : List (Int × Int × Int × Int)) (l_t : Bool) : symF (mkW L_lsN) cuts_lcheck Try.f78.results.toList 1 400 [.code (codeOf Try.f78)] ⟨argsS Try.f78 [.c (.slc 0 0 (List.length l) l_t)], ([.inp 4 l] : Heap cod)⟩ =
 cond (decide (32 < Int.ofNat (List.length l))) (
 .ret (.fin (.c (.int .i64 2)) [])) (
 .ret (.cut (cutAt Try.f78 4) ⟨tmG 50 [(8, .c (.slc 0 0 (List.length l) l_t)), (0, .c (.int .i64 (Int.ofNat (List.length l)))), (0, .c (.int .i64 0))], [.inp 4 l]⟩)) := by kernel_rfl


noncomputable def st_lcheck_4 (l : List (Int × Int × Int × Int)) (l_t : Bool) (i : Int) : St cod := ⟨tmG 50 [(8, .c (.slc 0 0 (List.length l) l_t)), (0, .c (.int .i64 (Int.ofNat (List.length l)))), (0, .c (.int .i64 i))], [.inp 4 l]⟩


theorem lcheck_t4 (l : List (Int × Int × Int × Int)) (l_t : Bool) (i : Int) : symF (mkW L_lsN) cuts_lcheck Try.f78.results.toList 1 400 (cutAt Try.f78 4) (st_lcheck_4 l l_t i) =
 cond (decide (i < Int.ofNat (List.length l))) (
 .need (((0 : Int) ≤ i ∧ i < Int.ofNat (List.length l))) (
 .need (0 + Int.toNat i < List.length l) (
 cond (decide   (1000 <     max (List.getD l (0 + Int.toNat i) (cod 4).d).1       (IntKind.wrap IntKind.i64 (-(List.getD l (0 + Int.toNat i) (cod 4).d).1)))) (
  .ret (.fin (.c (.int .i64 4)) [])) (
  cond (decide   (1000 <     max (List.getD l (0 + Int.toNat i) (cod 4).d).2.1       (IntKind.wrap IntKind.i64 (-(List.getD l (0 + Int.toNat i) (cod 4).d).2.1)))) (
   .ret (.fin (.c (.int .i64 4)) [])) (
   cond (decide ((List.getD l (0 + Int.toNat i) (cod 4).d).1 = -9223372036854775808)) (
    .ret (.fin (.c (.int .i64 4)) [])) (
    cond (decide ((List.getD l (0 + Int.toNat i) (cod 4).d).2.1 = -9223372036854775808)) (
     .ret (.fin (.c (.int .i64 4)) [])) (
     cond (decide ((List.getD l (0 + Int.toNat i) (cod 4).d).2.2.1 < 1)) (
      .ret (.fin (.c (.int .i64 4)) [])) (
      cond (decide (40 < (List.getD l (0 + Int.toNat i) (cod 4).d).2.2.1)) (
       .ret (.fin (.c (.int .i64 4)) [])) (
       cond (decide ((List.getD l (0 + Int.toNat i) (cod 4).d).2.2.2 < 1)) (
        .ret (.fin (.c (.int .i64 4)) [])) (
        cond (decide (40 < (List.getD l (0 + Int.toNat i) (cod 4).d).2.2.2)) (
         .ret (.fin (.c (.int .i64 4)) [])) (
         .ret (.cut (cutAt Try.f78 4) ⟨tmG 50 [(8, .c (.slc 0 0 (List.length l) l_t)), (0, .c (.int .i64 (Int.ofNat (List.length l)))), (0, .c (.int .i64 (IntKind.wrap IntKind.i64 (i + 1))))], [.inp 4 l]⟩)))))))))))) (
 .ret (.fin (.c (.int .i64 0)) [])) := by kernel_rfl



theorem lcheck_loop (l : List F.Q4) (l_t : Bool) (h1 : F.l64 l) (h2 : l.length ≤ 32) (b0 : Base) (hb0 : b0.n = 1) (R : SV) : ∀ (m j : Nat), j + m = l.length → R = .c (.int .i64 (F.lck l m j)) →
    Sym.Runs Try.prog b0 (cutAt Try.f78 4) (st_lcheck_4 l l_t (j : Int)) (Sym.Ends Try.prog Try.f78 1 R []) := by
  intro m
  induction m with
  | zero =>
    intro j hm hR
    refine Runs.go (cfg := (mkW L_lsN)) L_lsN_ok mixed cuts_lcheck 400 hb0 (lcheck_t4 l l_t (j : Int)) ?_
    have k1 : ¬ (j : Int) < (l.length : Int) := by omega
    simp only [T.wp, T.wp_cond, Aft, Int.ofNat_eq_natCast, decide_eq_true_eq, and_true, true_and, Nat.zero_add, Bool.not_eq_true', decide_eq_false_iff_not, k1, if_false, hR]
    rfl
  | succ m ih =>
    intro j hm hR
    have k1 : (j : Int) < (l.length : Int) := by omega
    have k2 : j < l.length := by omega
    have k4 : IntKind.wrap .i64 ((j : Int) + 1) = ((j + 1 : Nat) : Int) := by rw [wrap_ok (by unfold i64ok; omega)]; omega
    have k0 : (0 : Int) ≤ (j : Int) := by omega
    have hd : (cod 4).d = F.q0 := rfl
    have hx : i64ok (l.getD j F.q0).1 ∧ i64ok (l.getD j F.q0).2.1 := h1 _ (by rw [List.getD, List.getElem?_eq_getElem k2]; exact List.getElem_mem k2)
    have nx := ih (j + 1) (by omega)
    refine Runs.go (cfg := (mkW L_lsN)) L_lsN_ok mixed cuts_lcheck 400 hb0 (lcheck_t4 l l_t (j : Int)) ?_
    simp only [T.wp, T.wp_cond, Aft, Int.ofNat_eq_natCast, decide_eq_true_eq, and_true, true_and, Nat.zero_add, Bool.not_eq_true', decide_eq_false_iff_not, Int.toNat_natCast, k0, k1, k2, k4, hd, if_true]
    simp only [F.lck] at hR
    generalize l.getD j F.q0 = x at *
    have hi := F.lin_iff hx.1 hx.2
    cases hl : F.lin x
    · rw [hl, if_neg (by simp)] at hR
      have e4 := hR
      split
      · exact e4.symm
      rename_i q1
      split
      · exact e4.symm
      rename_i q2
      split
      · exact e4.symm
      rename_i q3
      split
      · exact e4.symm
      rename_i q4
      split
      · exact e4.symm
      rename_i q5
      split
      · exact e4.symm
      rename_i q6
      split
      · exact e4.symm
      rename_i q7
      split
      · exact e4.symm
      rename_i q8
      rw [hi.mpr ⟨q1, q2, q3, q4, q5, q6, q7, q8⟩] at hl
      cases hl
    · rw [hl, if_pos rfl] at hR
      obtain ⟨q1, q2, q3, q4, q5, q6, q7, q8⟩ := hi.mp hl
      simp only [q1, q2, q3, q4, q5, q6, q7, q8, if_false]
      exact nx hR
theorem lcheck_run (l : List (Int × Int × Int × Int)) (l_t : Bool) (b0 : Base) (hb : b0.n = 1) (h0 : F.l64 l) : Sym.Runs Try.prog b0 [.code (codeOf Try.f78)] ⟨argsS Try.f78 [.c (.slc 0 0 (List.length l) l_t)], ([.inp 4 l] : Heap cod)⟩ (Sym.Ends Try.prog Try.f78 1 (.c (.int .i64 (F.lchk l))) []) := by
  refine Runs.go (cfg := (mkW L_lsN)) L_lsN_ok mixed cuts_lcheck 400 hb (lcheck_t0 l l_t) ?_
  by_cases c : 32 < l.length
  · have c' : (32 : Int) < (l.length : Int) := by omega
    simp only [T.wp, T.wp_cond, Aft, Int.ofNat_eq_natCast, decide_eq_true_eq, and_true, true_and, Nat.zero_add, Bool.not_eq_true', decide_eq_false_iff_not, c', if_true, F.lchk, if_pos c]
  · have c' : ¬ (32 : Int) < (l.length : Int) := by omega
    simp only [T.wp, T.wp_cond, Aft, Int.ofNat_eq_natCast, decide_eq_true_eq, and_true, true_and, Nat.zero_add, Bool.not_eq_true', decide_eq_false_iff_not, c', if_false]
    refine lcheck_loop l l_t h0 (by omega) b0 hb _ l.length 0 (by omega) ?_
    simp only [F.lchk, if_neg c]



noncomputable def s_lcheck : Summ cod := fun args H => match args, H with
  | [.c (.slc 0 l_i l_n l_t)], [o0] => (match o0.asInp 4 with | some l => .need ((l_i = 0 ∧ l_n = List.length l) ∧ (F.l64 l)) (.ret (.c (.int .i64 (F.lchk l)), [])) | none => .fail)
  | _, _ => .fail


theorem lcheck_sound : Sound Try.prog cod 78 s_lcheck := sound_runs (cfg := C_lsN) L_lsN_ok mixed Try.func78 rfl rfl _ fun args H r news hg b0 hb => by
  unfold s_lcheck at hg
  split at hg
  · skip
    split at hg
    · rename_i l hx0
      cases asInp_spec hx0
      simp only [T.gives, T.wp, Prod.mk.injEq] at hg
      obtain ⟨⟨⟨rfl, rfl⟩, q1⟩, rfl, rfl⟩ := hg
      exact lcheck_run _ _ b0 hb (by assumption)
    · exact hg.elim
  · exact hg.elim

noncomputable def L_lcheck : Sums cod := (78, .p s_lcheck) :: L_lsN
noncomputable def C_lcheck : Cfg cod := mkC L_lcheck

theorem L_lcheck_ok : Snd Try.prog cod L_lcheck := .cons lcheck_sound L_lsN_ok


end
end Go.Proofs.Ytffcfbamcaoidaa
