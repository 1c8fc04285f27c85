/- Part of a claim: lemmas on the way to its theorem; each states its own conditions. -/
import Derived.Test.YtffcfbamcaoidaaRb
import Derived.Test.YtffcfbamcaoidaaRk
namespace Go.Proofs.Ytffcfbamcaoidaa
open Sym Go.RowKit
noncomputable section
set_option maxRecDepth 100000
set_option maxHeartbeats 4000000



def cuts_cloneI : Cuts := []

theorem cloneI_t0 (l : List Int) (l_t : Bool) (l_i l_n : Nat) : symF C_fact cuts_cloneI Try.f48.results.toList 1 400 [.code (codeOf Try.f48)] ⟨argsS Try.f48 [.c (.slc 0 l_i l_n l_t)], ([.inp 0 l] : Heap cod)⟩ =
.need ((0 : Nat) < l_n) (
.need (List.length (List.take l_n (List.drop l_i l)) = l_n) (
.need (0 = 0) (
.need (((0 : Nat) < List.length (List.take l_n (List.drop l_i l)) ∧ 0 + List.length (List.take l_n (List.drop l_i l)) ≤ 1000000)) (
.ret (.fin (.c (.own 1 (0 + List.length (List.take l_n (List.drop l_i l))))) [.own 0 ([] ++ (List.take l_n (List.drop l_i l))) 3]))))) := by kernel_rfl



theorem cloneI_run (l : List Int) (l_t : Bool) (l_i l_n : Nat) (b0 : Base) (hb : b0.n = 1) (h0 : l_i + l_n ≤ List.length l) (h1 : 0 < l_n) (h2 : l_n ≤ 1000000) : Sym.Runs Try.prog b0 [.code (codeOf Try.f48)] ⟨argsS Try.f48 [.c (.slc 0 l_i l_n l_t)], ([.inp 0 l] : Heap cod)⟩ (Sym.Ends Try.prog Try.f48 1 (.c (.own 1 l_n)) [.own 0 ((l.drop l_i).take l_n) 3]) := by
  refine Runs.go (cfg := C_fact) L_fact_ok mixed cuts_cloneI 400 hb (cloneI_t0 l l_t l_i l_n) ?_
  have e : (List.take l_n (List.drop l_i l)).length = l_n := by rw [List.length_take, List.length_drop]; omega
  simp only [T.wp, T.wp_cond, Aft, Int.ofNat_eq_natCast, decide_eq_true_eq, and_true, true_and, Nat.zero_add, Bool.not_eq_true', decide_eq_false_iff_not, e, List.nil_append]
  refine ⟨h1, ⟨h1, h2⟩, ?_⟩
  simp [e]
  rfl



noncomputable def s_cloneI : Summ cod := fun args H => match args, H with
  | [.c (.slc 0 l_i l_n l_t)], [o0] => (match o0.asInp 0 with | some l => .need ((l_i + l_n ≤ List.length l) ∧ (0 < l_n) ∧ (l_n ≤ 1000000)) (.ret (.c (.own 1 l_n), [.own 0 ((l.drop l_i).take l_n) 3])) | none => .fail)
  | _, _ => .fail


theorem cloneI_sound : Sound Try.prog cod 48 s_cloneI := sound_runs (cfg := C_fact) L_fact_ok mixed Try.func48 rfl rfl _ fun args H r news hg b0 hb => by
  unfold s_cloneI at hg
  split at hg
  · skip
    split at hg
    · rename_i l hx0
      cases asInp_spec hx0
      simp only [T.gives, T.wp, Prod.mk.injEq] at hg
      obtain ⟨⟨q0, q1, q2⟩, rfl, rfl⟩ := hg
      exact cloneI_run _ _ _ _ b0 hb (by assumption) (by assumption) (by assumption)
    · exact hg.elim
  · exact hg.elim

noncomputable def L_cloneI : Sums cod := (48, .p s_cloneI) :: L_fact
noncomputable def C_cloneI : Cfg cod := mkC L_cloneI

theorem L_cloneI_ok : Snd Try.prog cod L_cloneI := .cons cloneI_sound L_fact_ok



noncomputable def s_cloneI0 : Summ cod := fun args _ => match args with
  | [.c (.slc h _ n _)] => .need (n = 0) (.ret (.c (.slc h 0 0 true), []))
  | _ => .fail
/-- By the number of elements: none, or some. -/
noncomputable def s_lenI (s1 s2 : Summ cod) : Summ cod := fun args H => match args with
  | [.c (.slc _ _ n _)] => .ite (decide (n = 0)) (s1 args H) (s2 args H)
  | _ => .fail
noncomputable def s_cloneIB : Summ cod := s_lenI s_cloneI0 s_cloneI


theorem Sound.lenI {g : FuncId} {s1 s2 : Summ cod} (h1 : Sound Try.prog cod g s1) (h2 : Sound Try.prog cod g s2) : Sound Try.prog cod g (s_lenI s1 s2) := by
  refine ⟨h1.enters, fun args H env w vs r news hro G ha hg => ?_⟩
  unfold s_lenI at hg
  split at hg
  · rename_i x i n t
    by_cases c : n = 0
    · exact h1.calls _ H env w vs r news hro G ha (hg.1 (by simp [c]))
    · exact h2.calls _ H env w vs r news hro G ha (hg.2 (by simp [c]))
  · exact hg.elim
theorem cloneI0_sound : Sound Try.prog cod 48 s_cloneI0 := by
  refine ⟨cloneI_sound.enters, fun args H env w vs r news hro G ha hg => ?_⟩
  unfold s_cloneI0 at hg
  split at hg
  · rename_i x i n t
    obtain ⟨hn, hr⟩ := hg
    subst hn
    cases hr
    cases ha with
    | @cons _ v0 _ vs hx hxs =>
      cases hxs
      obtain ⟨hN, A, c, rfl, h1, h2, h3, h4⟩ := hx
      cases A with
      | none =>
        refine (cloneI_none c w).mono ?_
        rintro e w' ⟨rfl, rfl⟩
        exact ⟨_, env, rfl, EnvEq.refl _ _, ⟨hN, none, 0, rfl, Nat.le_refl _, by decide, fun _ => rfl, fun h => absurd h (by decide)⟩, by simpa using G, ⟨Below.refl _ _, Nat.le_refl _⟩⟩
      | some a =>
        refine (cloneI_zero a c w).mono ?_
        rintro e w' ⟨A, rfl, hb, hd⟩
        exact ⟨_, env, rfl, EnvEq.refl _ _, ⟨hN, A, 0, rfl, Nat.le_refl _, by decide, fun _ => rfl, fun h => absurd h (by decide)⟩, by simpa using G.below hb (Nat.le_refl _), ⟨hb, hd⟩⟩
  · exact hg.elim
theorem cloneIB_sound : Sound Try.prog cod 48 s_cloneIB := Sound.lenI cloneI0_sound cloneI_sound

noncomputable def L_cloneIB : Sums cod := (48, .p s_cloneIB) :: L_cloneI
noncomputable def C_cloneIB : Cfg cod := mkC L_cloneIB

theorem L_cloneIB_ok : Snd Try.prog cod L_cloneIB := .cons cloneIB_sound L_cloneI_ok


noncomputable def L_srN : Sums cod := (85, .i s_srN) :: L_cloneIB
noncomputable def C_srN : Cfg cod := mkC L_srN

theorem L_srN_ok : Snd Try.prog cod L_srN := .consI srN_sound L_cloneIB_ok



def cuts_or : Cuts := []

theorem or_t0 (l : List (List UInt8 × Int × Int × Int)) (l_t : Bool) (g0 g1 g2 g3 g4 g5 g6 g7 g8 g9 g10 g11 g12 g13 g14 g15 : Int) : symF C_srN cuts_or Try.f45.results.toList 1 400 [.code (codeOf Try.f45)] ⟨argsS Try.f45 [.c (.slc 0 0 (List.length l) l_t), .agg [.int .i64 g0, .int .i64 g1, .int .i64 g2, .int .i64 g3, .int .i64 g4, .int .i64 g5, .int .i64 g6, .int .i64 g7, .int .i64 g8, .int .i64 g9, .int .i64 g10, .int .i64 g11, .int .i64 g12, .int .i64 g13, .int .i64 g14, .int .i64 g15]], ([.inp 7 l] : Heap cod)⟩ =
.need (16 * 1 = 16) (
.need ((0 = 0 ∧ List.length l = List.length l)) (
 cond (!decide (F.apE l [(g0, g1, g2, g3), (g4, g5, g6, g7), (g8, g9, g10, g11), (g12, g13, g14, g15)] = 0)) (
 .ret (.fin (.tup [.c (.own 1 0), .c (.int .i64 (F.apE l [(g0, g1, g2, g3), (g4, g5, g6, g7), (g8, g9, g10, g11), (g12, g13, g14, g15)]))]) [.own 0 [] 3])) (
 cond (decide (6 < Int.ofNat (List.length l))) (
  .ret (.fin (.tup [.c (.own 1 0), .c (.int .i64 2)]) [.own 0 [] 3])) (
  cond (decide (Int.ofNat (List.length l) = 0)) (
   .ret (.fin (.tup [.c (.own 1 0), .c (.int .i64 0)]) [.own 0 [] 3])) (
   .need (16 * 1 = 16) (
   .need (((0 : Int) ≤ Int.ofNat (List.length l) ∧ (Int.ofNat (List.length l) ≤ 1000000 ∧ Int.ofNat (List.length l) = Int.ofNat (List.length l)))) (
   .need ((((0 = 0 ∧ List.length l = List.length l) ∧ (0 = 0 ∧ (Int.toNat (Int.ofNat (List.length l)) = List.length l ∧ Int.toNat (Int.ofNat (List.length l)) = List.length (List.replicate (Int.toNat (Int.ofNat (List.length l))) false)))) ∧ (((0 : Nat) < List.length l ∧ List.length l ≤ 6) ∧ F.srOk l [g0, g1, g2, g3, g4, g5, g6, g7, g8, g9, g10, g11, g12, g13, g14, g15] [] []))) (
   .ite (F.srB l [g0, g1, g2, g3, g4, g5, g6, g7, g8, g9, g10, g11, g12, g13, g14, g15] (List.length l) [] []   (List.replicate (Int.toNat (Int.ofNat (List.length l))) false)) (
    .need ((0 : Nat) < List.length l) (
    .ret (.fin (.tup [.c (.slc 1 0 (List.length l) false), .c (.int .i64 0)]) [.own 0 (F.srR l [g0, g1, g2, g3, g4, g5, g6, g7, g8, g9, g10, g11, g12, g13, g14, g15] (List.length l) [] []   (List.replicate (Int.toNat (Int.ofNat (List.length l))) false)) 3]))) (
    .need (True) (
    .ret (.fin (.tup [.c (.own 1 0), .c (.int .i64 8)]) [.own 0 [] 3]))))))))))) := by kernel_rfl

noncomputable def s_order : Summ cod := fun args H => match args, H with
  | [.c (.slc 0 li ln _), .agg [.int .i64 g0, .int .i64 g1, .int .i64 g2, .int .i64 g3, .int .i64 g4, .int .i64 g5, .int .i64 g6, .int .i64 g7, .int .i64 g8, .int .i64 g9, .int .i64 g10, .int .i64 g11, .int .i64 g12, .int .i64 g13, .int .i64 g14, .int .i64 g15]], [o0] => (match o0.asInp 7 with
    | some l => .need ((li = 0 ∧ ln = List.length l) ∧ ln ≤ 6)
      (.ite (decide (F.apE l [(g0, g1, g2, g3), (g4, g5, g6, g7), (g8, g9, g10, g11), (g12, g13, g14, g15)] = 0)) (.ite (decide (ln = 0)) (.ret (.tup [.c (.own 1 0), .c (.int .i64 0)], [.own 0 [] 3]))
        (.ite (F.srB l [g0, g1, g2, g3, g4, g5, g6, g7, g8, g9, g10, g11, g12, g13, g14, g15] ln [] [] (List.replicate ln false)) (.ret (.tup [.c (.slc 1 0 ln false), .c (.int .i64 0)], [.own 0 (F.srR l [g0, g1, g2, g3, g4, g5, g6, g7, g8, g9, g10, g11, g12, g13, g14, g15] ln [] [] (List.replicate ln false)) 3]))
          (.ret (.tup [.c (.own 1 0), .c (.int .i64 8)], [.own 0 [] 3]))))
        (.ret (.tup [.c (.own 1 0), .c (.int .i64 (F.apE l [(g0, g1, g2, g3), (g4, g5, g6, g7), (g8, g9, g10, g11), (g12, g13, g14, g15)]))], [.own 0 [] 3])))
    | none => .fail)
  | _, _ => .fail


theorem order_run (l : List F.It) (l_t : Bool) (g0 g1 g2 g3 g4 g5 g6 g7 g8 g9 g10 g11 g12 g13 g14 g15 : Int) (r : SV) (news : Heap cod) (b0 : Base) (hb : b0.n = 1) (h6 : l.length ≤ 6) (hg : T.gives (.ite (decide (F.apE l [(g0, g1, g2, g3), (g4, g5, g6, g7), (g8, g9, g10, g11), (g12, g13, g14, g15)] = 0)) (.ite (decide (List.length l = 0)) (.ret (.tup [.c (.own 1 0), .c (.int .i64 0)], [.own 0 [] 3]))
        (.ite (F.srB l [g0, g1, g2, g3, g4, g5, g6, g7, g8, g9, g10, g11, g12, g13, g14, g15] (List.length l) [] [] (List.replicate (List.length l) false)) (.ret (.tup [.c (.slc 1 0 (List.length l) false), .c (.int .i64 0)], [.own 0 (F.srR l [g0, g1, g2, g3, g4, g5, g6, g7, g8, g9, g10, g11, g12, g13, g14, g15] (List.length l) [] [] (List.replicate (List.length l) false)) 3]))
          (.ret (.tup [.c (.own 1 0), .c (.int .i64 8)], [.own 0 [] 3]))))
        (.ret (.tup [.c (.own 1 0), .c (.int .i64 (F.apE l [(g0, g1, g2, g3), (g4, g5, g6, g7), (g8, g9, g10, g11), (g12, g13, g14, g15)]))], [.own 0 [] 3]))) (r, news)) : Sym.Runs Try.prog b0 [.code (codeOf Try.f45)] ⟨argsS Try.f45 [.c (.slc 0 0 (List.length l) l_t), .agg [.int .i64 g0, .int .i64 g1, .int .i64 g2, .int .i64 g3, .int .i64 g4, .int .i64 g5, .int .i64 g6, .int .i64 g7, .int .i64 g8, .int .i64 g9, .int .i64 g10, .int .i64 g11, .int .i64 g12, .int .i64 g13, .int .i64 g14, .int .i64 g15]], ([.inp 7 l] : Heap cod)⟩ (Sym.Ends Try.prog Try.f45 1 r news) := by
  refine Runs.go (cfg := C_srN) L_srN_ok mixed cuts_or 400 hb (or_t0 l l_t g0 g1 g2 g3 g4 g5 g6 g7 g8 g9 g10 g11 g12 g13 g14 g15) ?_
  by_cases h0 : F.apE l [(g0, g1, g2, g3), (g4, g5, g6, g7), (g8, g9, g10, g11), (g12, g13, g14, g15)] = 0
  · have hg := hg.1 (by simp [h0])
    obtain ⟨_, a1, a2, _⟩ := apE_zero h0
    have hok : F.srOk l [g0, g1, g2, g3, g4, g5, g6, g7, g8, g9, g10, g11, g12, g13, g14, g15] [] [] := ⟨fun _ h => (by cases h), fun _ h => (by cases h), a2, a1⟩
    by_cases hn : l.length = 0
    · have hg := hg.1 (by simp [hn])
      cases hg
      simp only [T.wp, T.wp_cond, Aft, Int.ofNat_eq_natCast, decide_eq_true_eq, and_true, true_and, Nat.zero_add, Bool.not_eq_true', decide_eq_false_iff_not]
      rw [if_neg (by simp [h0]), if_neg (by omega), if_pos (by omega)]
      trivial
    · have hg := hg.2 (by simp [hn])
      simp only [T.wp, T.wp_cond, Aft, Int.ofNat_eq_natCast, decide_eq_true_eq, and_true, true_and, Nat.zero_add, Bool.not_eq_true', decide_eq_false_iff_not]
      rw [if_neg (by simp [h0]), if_neg (by omega), if_neg (by omega)]
      simp only [Int.toNat_natCast, List.length_replicate]
      refine ⟨⟨by omega, by omega⟩, ⟨⟨trivial, trivial⟩, ⟨by omega, h6⟩, hok⟩, fun c => ?_, fun c => ?_⟩
      · have hg := hg.1 c
        cases hg
        exact ⟨by omega, rfl, rfl⟩
      · have hg := hg.2 c
        cases hg
        first | rfl | exact ⟨rfl, rfl⟩
  · have hg := hg.2 (by simp [h0])
    cases hg
    simp only [T.wp, T.wp_cond, Aft, Int.ofNat_eq_natCast, decide_eq_true_eq, and_true, true_and, Nat.zero_add, Bool.not_eq_true', decide_eq_false_iff_not]
    rw [if_pos (by simp [h0])]
    trivial
theorem order_sound : Sound Try.prog cod 45 s_order := sound_runs (cfg := C_srN) L_srN_ok mixed Try.func45 rfl rfl _ fun args H r news hg b0 hb => by
  unfold s_order at hg
  split at hg
  · rename_i li ln l_t g0 g1 g2 g3 g4 g5 g6 g7 g8 g9 g10 g11 g12 g13 g14 g15 o0
    split at hg
    · rename_i l hx0
      cases asInp_spec hx0
      obtain ⟨⟨⟨rfl, rfl⟩, h6⟩, hg⟩ := hg
      exact order_run l l_t g0 g1 g2 g3 g4 g5 g6 g7 g8 g9 g10 g11 g12 g13 g14 g15 r news b0 hb h6 hg
    · exact hg.elim
  · exact hg.elim

noncomputable def L_order : Sums cod := (45, .p s_order) :: L_srN
noncomputable def C_order : Cfg cod := mkC L_order

theorem L_order_ok : Snd Try.prog cod L_order := .cons order_sound L_srN_ok


end
end Go.Proofs.Ytffcfbamcaoidaa
