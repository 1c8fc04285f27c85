/- Part of a claim: lemmas on the way to its theorem; each states its own conditions. -/
import Derived.Test.YthljcjighomgkaaFi
namespace Go.Proofs.Ythljcjighomgkaa
open Sym Go.RowKit
noncomputable section
set_option maxRecDepth 100000
set_option maxHeartbeats 4000000



def cuts_brlaw : Cuts := [(10, [11, 13, 10, 12, 2, 1, 0], 1)]

theorem brlaw_t0 (l : List Bool) (l_t : Bool) (need : Int) (of : Int) : symF C_conf cuts_brlaw Try.f6.results.toList 1 400 [.code (codeOf Try.f6)] ⟨argsS Try.f6 [.c (.slc 0 0 (List.length l) l_t), .c (.int .i64 need), .c (.int .i64 of)], ([.inp 3 l] : Heap cod)⟩ =
.need ((0 + 3 ≤ List.length [true, false, true] ∧ (3 : Nat) ≤ 256)) (
 cond (decide (16 < Int.ofNat (List.length l))) (
 .need (((0 : Int) ≤ 16 ∧ 16 ≤ Int.ofNat (List.length l))) (
 .need ((0 + Int.toNat 16 ≤ List.length l ∧ Int.toNat 16 ≤ 256)) (
 cond (!F.inb of 1 16) (
  cond (decide (F.rule need of = 4)) (
   cond (decide (F.rule need of = 4)) (
    cond (decide ((F.run (List.take (Int.toNat 16) (List.drop 0 l)) need of).1 = 0)) (
     .ret (.fin (.c (.bool (decide ((F.run (List.take (Int.toNat 16) (List.drop 0 l)) need of).2 = 0)))) [])) (
     .ret (.fin (.c (.bool false)) []))) (
    .ret (.fin (.c (.bool false)) []))) (
   .ret (.fin (.c (.bool false)) []))) (
  cond (!F.inb need 1 of) (
   cond (decide (F.rule need of = 4)) (
    cond (decide (F.rule need of = 4)) (
     cond (decide ((F.run (List.take (Int.toNat 16) (List.drop 0 l)) need of).1 = 0)) (
      .ret (.fin (.c (.bool (decide ((F.run (List.take (Int.toNat 16) (List.drop 0 l)) need of).2 = 0)))) [])) (
      .ret (.fin (.c (.bool false)) []))) (
     .ret (.fin (.c (.bool false)) []))) (
    .ret (.fin (.c (.bool false)) []))) (
   .ret (.cut (cutAt Try.f6 10) ⟨tmG 91 [(0, .c (.slc 0 0 16 false)), (0, .c (.int .i64 need)), (0, .c (.int .i64 of)), (7, .c (.int .i64 ((F.run (List.take (Int.toNat 16) (List.drop 0 l)) need of).1))), (0, .c (.int .i64 ((F.run (List.take (Int.toNat 16) (List.drop 0 l)) need of).2))), (0, .c (.int .i64 (F.rule need of))), (0, .c (.int .i64 1))], [.inp 3 l]⟩)))))) (
 .need ((0 + List.length l ≤ List.length l ∧ List.length l ≤ 256)) (
 cond (!F.inb of 1 16) (
  cond (decide (F.rule need of = 4)) (
   cond (decide (F.rule need of = 4)) (
    cond (decide ((F.run (List.take (List.length l) (List.drop 0 l)) need of).1 = 0)) (
     .ret (.fin (.c (.bool (decide ((F.run (List.take (List.length l) (List.drop 0 l)) need of).2 = 0)))) [])) (
     .ret (.fin (.c (.bool false)) []))) (
    .ret (.fin (.c (.bool false)) []))) (
   .ret (.fin (.c (.bool false)) []))) (
  cond (!F.inb need 1 of) (
   cond (decide (F.rule need of = 4)) (
    cond (decide (F.rule need of = 4)) (
     cond (decide ((F.run (List.take (List.length l) (List.drop 0 l)) need of).1 = 0)) (
      .ret (.fin (.c (.bool (decide ((F.run (List.take (List.length l) (List.drop 0 l)) need of).2 = 0)))) [])) (
      .ret (.fin (.c (.bool false)) []))) (
     .ret (.fin (.c (.bool false)) []))) (
    .ret (.fin (.c (.bool false)) []))) (
   .ret (.cut (cutAt Try.f6 10) ⟨tmG 91 [(0, .c (.slc 0 0 (List.length l) l_t)), (0, .c (.int .i64 need)), (0, .c (.int .i64 of)), (7, .c (.int .i64 ((F.run (List.take (List.length l) (List.drop 0 l)) need of).1))), (0, .c (.int .i64 ((F.run (List.take (List.length l) (List.drop 0 l)) need of).2))), (0, .c (.int .i64 (F.rule need of))), (0, .c (.int .i64 1))], [.inp 3 l]⟩)))))) := by kernel_rfl


noncomputable def st_brlaw_10 (l : List Bool) (l_t : Bool) (need : Int) (of : Int) (n : Nat) (tt : Bool) (a b e k : Int) : St cod := ⟨tmG 91 [(0, .c (.slc 0 0 n tt)), (0, .c (.int .i64 need)), (0, .c (.int .i64 of)), (7, .c (.int .i64 a)), (0, .c (.int .i64 b)), (0, .c (.int .i64 e)), (0, .c (.int .i64 k))], [.inp 3 l]⟩


theorem brlaw_t10 (l : List Bool) (l_t : Bool) (need : Int) (of : Int) (n : Nat) (tt : Bool) (a b e k : Int) : symF C_conf cuts_brlaw Try.f6.results.toList 1 400 (cutAt Try.f6 10) (st_brlaw_10 l l_t need of n tt a b e k) =
 cond (decide (k ≤ Int.ofNat n)) (
 .need ((0 ≤ k ∧ k ≤ Int.ofNat n)) (
 .need ((0 + Int.toNat k ≤ List.length l ∧ (1 ≤ of ∧ (of ≤ 16 ∧ (Int.toNat k ≤ 16 ∧ 1 ≤ Int.toNat k))))) (
 cond (!decide (F.conf (List.take (Int.toNat k) (List.drop 0 l)) need of = 0)) (
  cond (decide (e = 0)) (
   cond (decide (a = k)) (
    .ret (.fin (.c (.bool (decide (b = F.conf (List.take (Int.toNat k) (List.drop 0 l)) need of)))) [])) (
    .ret (.fin (.c (.bool false)) []))) (
   .ret (.fin (.c (.bool false)) []))) (
  .need (i64ok (k + 1)) (
  .ret (.cut (cutAt Try.f6 10) ⟨tmG 91 [(0, .c (.slc 0 0 (n) tt)), (0, .c (.int .i64 need)), (0, .c (.int .i64 of)), (7, .c (.int .i64 a)), (0, .c (.int .i64 b)), (0, .c (.int .i64 e)), (0, .c (.int .i64 (k + 1)))], [.inp 3 l]⟩)))))) (
 cond (decide (e = 0)) (
  cond (decide (a = 0)) (
   .ret (.fin (.c (.bool (decide (b = 0)))) [])) (
   .ret (.fin (.c (.bool false)) []))) (
  .ret (.fin (.c (.bool false)) []))) := by kernel_rfl



theorem br_loop (l : List Bool) (l_t : Bool) (n : Nat) (tt : Bool) (hn : n ≤ l.length) (hn16 : n ≤ 16) (L : List Bool) (hL : L = l.take n) (need of : Int) (hr : 1 ≤ of ∧ of ≤ 16 ∧ 1 ≤ need ∧ need ≤ of) (b0 : Base) (hb : b0.n = 1) (u : Int × Int) : ∀ (m : Nat) (k : Int), 1 ≤ k → k + m = n + 1 → u = F.runGo need of (L.take (k - 1).toNat) (L.drop (k - 1).toNat) →
    Sym.Runs Try.prog b0 (cutAt Try.f6 10) (st_brlaw_10 l l_t need of n tt u.1 u.2 0 k) (Sym.Ends Try.prog Try.f6 1 (.c (.bool true)) []) := by
  have hlen : L.length = n := by rw [hL, List.length_take]; omega
  intro m
  induction m with
  | zero =>
    intro k h0 hm hu
    refine Runs.go (cfg := C_conf) L_conf_ok mixed cuts_brlaw 400 hb (brlaw_t10 l l_t need of n tt _ _ 0 k) ?_
    have h1 : ¬ k ≤ (n : Int) := by omega
    rw [drop_end L (by omega)] at hu
    simp [T.wp, T.wp_cond, Aft, Int.ofNat_eq_natCast, decide_eq_true_eq, and_true, true_and, Nat.zero_add, Bool.not_eq_true', decide_eq_false_iff_not, h1, if_false, hu, F.runGo]
  | succ m ih =>
    intro k h0 hm hu
    refine Runs.go (cfg := C_conf) L_conf_ok mixed cuts_brlaw 400 hb (brlaw_t10 l l_t need of n tt _ _ 0 k) ?_
    have h1 : k ≤ (n : Int) := by omega
    rw [drop_at L false (by omega) (by omega)] at hu
    simp only [F.runGo] at hu
    have e1 := take_at L false (show 0 ≤ k - 1 by omega) (by omega)
    rw [← e1, show k - 1 + 1 = k by omega] at hu
    have e2 : (List.take k.toNat (List.drop 0 l)) = L.take k.toNat := by
      rw [List.drop_zero, hL, List.take_take]
      congr 1
      omega
    simp only [T.wp, T.wp_cond, Aft, Int.ofNat_eq_natCast, decide_eq_true_eq, and_true, true_and, Nat.zero_add, Bool.not_eq_true', decide_eq_false_iff_not, h1, if_true, e2]
    refine ⟨by omega, ⟨by omega, hr.1, hr.2.1, by omega, by omega⟩, ?_⟩
    by_cases p : F.conf (L.take k.toNat) need of = 0
    · rw [if_pos p] at hu
      simp only [p, not_true_eq_false, if_false]
      exact ⟨by unfold i64ok; omega, ih (k + 1) (by omega) (by omega) (by rw [show k + 1 - 1 = k by omega]; exact hu)⟩
    · rw [if_neg p] at hu
      have e3 : (((L.take (k - 1).toNat).length : Nat) : Int) + 1 = k := by rw [List.length_take]; omega
      rw [e3] at hu
      simp [p, hu]
theorem brlaw_run (l : List Bool) (l_t : Bool) (need : Int) (of : Int) (b0 : Base) (hb : b0.n = 1)  : Sym.Runs Try.prog b0 [.code (codeOf Try.f6)] ⟨argsS Try.f6 [.c (.slc 0 0 (List.length l) l_t), .c (.int .i64 need), .c (.int .i64 of)], ([.inp 3 l] : Heap cod)⟩ (Sym.Ends Try.prog Try.f6 1 (.c (.bool true)) []) := by
  refine Runs.go (cfg := C_conf) L_conf_ok mixed cuts_brlaw 400 hb (brlaw_t0 l l_t need of) ?_
  have key : ∀ (n : Nat) (tt : Bool), n ≤ l.length → n ≤ 16 → 1 ≤ of ∧ of ≤ 16 ∧ 1 ≤ need ∧ need ≤ of → Sym.Runs Try.prog b0 (cutAt Try.f6 10) (st_brlaw_10 l l_t need of n tt (F.run ((l.drop 0).take n) need of).1 (F.run ((l.drop 0).take n) need of).2 (F.rule need of) 1) (Sym.Ends Try.prog Try.f6 1 (.c (.bool true)) []) := fun n tt h1 h2 hr => by
    have hz : F.rule need of = 0 := by unfold F.rule; rw [if_pos hr]
    rw [List.drop_zero, hz]
    refine br_loop l l_t n tt h1 h2 _ rfl need of hr b0 hb _ n 1 (by omega) (by omega) ?_
    unfold F.run
    rw [if_pos hz]
    rfl
  have hbad : ¬ (F.inb of 1 16 = true ∧ F.inb need 1 of = true) → F.rule need of = 4 ∧ ∀ L, F.run L need of = (0, 0) := fun h => by
    have h4 : F.rule need of = 4 := by
      unfold F.rule
      rw [if_neg (by simp [F.inb] at h; omega)]
    exact ⟨h4, fun L => by unfold F.run; rw [if_neg (by omega)]⟩
  simp only [T.wp, T.wp_cond, Aft, Int.ofNat_eq_natCast, decide_eq_true_eq, and_true, true_and, Nat.zero_add, Bool.not_eq_true', decide_eq_false_iff_not, List.length_cons, List.length_nil]
  refine ⟨by omega, ?_⟩
  by_cases h : (16 : Int) < l.length
  · simp only [h, if_true]
    refine ⟨by omega, by omega, ?_⟩
    by_cases g1 : F.inb of 1 16 = true
    · by_cases g2 : F.inb need 1 of = true
      · have hr : 1 ≤ of ∧ of ≤ 16 ∧ 1 ≤ need ∧ need ≤ of := by simp [F.inb] at g1 g2; omega
        simp only [g1, g2, Bool.true_eq_false, if_false]
        exact key 16 false (by omega) (by omega) hr
      · obtain ⟨q1, q2⟩ := hbad (fun h => g2 h.2)
        simp [g1, g2, q1, q2]
    · obtain ⟨q1, q2⟩ := hbad (fun h => g1 h.1)
      simp [g1, q1, q2]
  · simp only [h, if_false]
    refine ⟨by omega, ?_⟩
    by_cases g1 : F.inb of 1 16 = true
    · by_cases g2 : F.inb need 1 of = true
      · have hr : 1 ≤ of ∧ of ≤ 16 ∧ 1 ≤ need ∧ need ≤ of := by simp [F.inb] at g1 g2; omega
        simp only [g1, g2, Bool.true_eq_false, if_false]
        exact key l.length l_t (by omega) (by omega) hr
      · obtain ⟨q1, q2⟩ := hbad (fun h => g2 h.2)
        simp [g1, g2, q1, q2]
    · obtain ⟨q1, q2⟩ := hbad (fun h => g1 h.1)
      simp [g1, q1, q2]



noncomputable def s_brlaw : Summ cod := fun args H => match args, H with
  | [.c (.slc 0 l_i l_n l_t), .c (.int .i64 need), .c (.int .i64 of)], [o0] => (match o0.asInp 3 with | some l => .need ((l_i = 0 ∧ l_n = List.length l)) (.ret (.c (.bool true), [])) | none => .fail)
  | _, _ => .fail


theorem brlaw_sound : Sound Try.prog cod 6 s_brlaw := sound_runs (cfg := C_conf) L_conf_ok mixed Try.func6 rfl rfl _ fun args H r news hg b0 hb => by
  unfold s_brlaw at hg
  split at hg
  · skip
    split at hg
    · rename_i l hx0
      cases asInp_spec hx0
      simp only [T.gives, T.wp, Prod.mk.injEq] at hg
      obtain ⟨⟨rfl, rfl⟩, rfl, rfl⟩ := hg
      exact brlaw_run _ _ _ _ b0 hb 
    · exact hg.elim
  · exact hg.elim

noncomputable def L_brlaw : Sums cod := (6, s_brlaw) :: L_conf
noncomputable def C_brlaw : Cfg cod := mkC L_brlaw

theorem L_brlaw_ok : Snd Try.prog cod L_brlaw := .cons brlaw_sound L_conf_ok


end
end Go.Proofs.Ythljcjighomgkaa
