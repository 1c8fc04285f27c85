/- Part of a claim: lemmas on the way to its theorem; each states its own conditions. -/
import Derived.Test.YtffcfbamcaoidaaRa
import Derived.Test.YtffcfbamcaoidaaSym27
namespace Go.Proofs.Ytffcfbamcaoidaa
open Sym Go.RowKit
noncomputable section
set_option maxRecDepth 100000
set_option maxHeartbeats 4000000



def cuts_next0 : Cuts := []

theorem next0_t0 (l : List (List UInt8 × Int × Int × Int)) (l_t : Bool) (i : Int) (g0 g1 g2 g3 g4 g5 g6 g7 g8 g9 g10 g11 g12 g13 g14 g15 : Int) : symF C_fact cuts_next0 Try.f73.results.toList 1 400 [.code (codeOf Try.f73)] ⟨argsS Try.f73 [.c (.slc 0 0 (List.length l) l_t), .c .nil, .c .nil, .c (.int .i64 i), .agg [.int .i64 g0, .int .i64 g1, .int .i64 g2, .int .i64 g3, .int .i64 g4, .int .i64 g5, .int .i64 g6, .int .i64 g7, .int .i64 g8, .int .i64 g9, .int .i64 g10, .int .i64 g11, .int .i64 g12, .int .i64 g13, .int .i64 g14, .int .i64 g15]], ([.inp 7 l] : Heap cod)⟩ =
.need (((0 : Int) ≤ i ∧ i < Int.ofNat (List.length l))) (
.need (0 + Int.toNat i < List.length l) (
.ret (.fin (.c (.int .i64 ((List.getD l (0 + Int.toNat i) (cod 7).d).2.2.1))) []))) := by kernel_rfl



theorem next0_run (l : List (List UInt8 × Int × Int × Int)) (l_t : Bool) (i : Int) (g0 g1 g2 g3 g4 g5 g6 g7 g8 g9 g10 g11 g12 g13 g14 g15 : Int) (b0 : Base) (hb : b0.n = 1) (h0 : 0 ≤ i ∧ i < l.length) : Sym.Runs Try.prog b0 [.code (codeOf Try.f73)] ⟨argsS Try.f73 [.c (.slc 0 0 (List.length l) l_t), .c .nil, .c .nil, .c (.int .i64 i), .agg [.int .i64 g0, .int .i64 g1, .int .i64 g2, .int .i64 g3, .int .i64 g4, .int .i64 g5, .int .i64 g6, .int .i64 g7, .int .i64 g8, .int .i64 g9, .int .i64 g10, .int .i64 g11, .int .i64 g12, .int .i64 g13, .int .i64 g14, .int .i64 g15]], ([.inp 7 l] : Heap cod)⟩ (Sym.Ends Try.prog Try.f73 1 (.c (.int .i64 (F.rdy l i))) []) := by
  refine Runs.go (cfg := C_fact) L_fact_ok mixed cuts_next0 400 hb (next0_t0 l l_t i g0 g1 g2 g3 g4 g5 g6 g7 g8 g9 g10 g11 g12 g13 g14 g15) ?_
  have hi : i.toNat < l.length := by omega
  simp only [T.wp, T.wp_cond, Aft, Int.ofNat_eq_natCast, decide_eq_true_eq, and_true, true_and, Nat.zero_add, Bool.not_eq_true', decide_eq_false_iff_not]
  (repeat (refine ⟨(by first | rfl | trivial | assumption | omega | (unfold i64ok; omega) | (simp only [List.length_cons, List.length_nil]; omega) | exact ⟨by omega, trivial⟩), ?_⟩))
  rfl



noncomputable def s_next0 : Summ cod := fun args H => match args, H with
  | [.c (.slc 0 l_i l_n l_t), .c .nil, .c .nil, .c (.int .i64 i), .agg [.int .i64 g0, .int .i64 g1, .int .i64 g2, .int .i64 g3, .int .i64 g4, .int .i64 g5, .int .i64 g6, .int .i64 g7, .int .i64 g8, .int .i64 g9, .int .i64 g10, .int .i64 g11, .int .i64 g12, .int .i64 g13, .int .i64 g14, .int .i64 g15]], [o0] => (match o0.asInp 7 with | some l => .need ((l_i = 0 ∧ l_n = List.length l) ∧ (0 ≤ i ∧ i < l.length)) (.ret (.c (.int .i64 (F.rdy l i)), [])) | none => .fail)
  | _, _ => .fail


theorem next0_sound : Sound Try.prog cod 73 s_next0 := sound_runs (cfg := C_fact) L_fact_ok mixed Try.func73 rfl rfl _ fun args H r news hg b0 hb => by
  unfold s_next0 at hg
  split at hg
  · skip
    split at hg
    · rename_i l hx0
      cases asInp_spec hx0
      simp only [T.gives, T.wp, Prod.mk.injEq] at hg
      obtain ⟨⟨⟨rfl, rfl⟩, q1⟩, rfl, rfl⟩ := hg
      exact next0_run _ _ _ _ _ _ _ _ _ _ _ _ _ _ _ _ _ _ _ b0 hb (by assumption)
    · exact hg.elim
  · exact hg.elim

noncomputable def L_next0 : Sums cod := (73, .p s_next0) :: L_fact
noncomputable def C_next0 : Cfg cod := mkC L_next0

theorem L_next0_ok : Snd Try.prog cod L_next0 := .cons next0_sound L_fact_ok



noncomputable def s_nextB : Summ cod := s_or s_next0 s_next


theorem nextB_sound : Sound Try.prog cod 73 s_nextB := Sound.or next0_sound next_sound


noncomputable def L_nb : Sums cod := (73, .p s_nextB) :: L_fact
noncomputable def C_nb : Cfg cod := mkC L_nb
noncomputable def C_srn0 : Cfg cod := mkC ((85, .k (liftS [1, 2] s_sr0)) :: L_nb)
noncomputable def C_srnS (d : Nat) : Cfg cod := mkC ((85, .k (liftS [1, 2] (s_srS d))) :: L_nb)
noncomputable def s_srN : Summ cod := fun args H => match args, H with
  | [.c (.slc 0 li ln _), .agg [.int .i64 g0, .int .i64 g1, .int .i64 g2, .int .i64 g3, .int .i64 g4, .int .i64 g5, .int .i64 g6, .int .i64 g7, .int .i64 g8, .int .i64 g9, .int .i64 g10, .int .i64 g11, .int .i64 g12, .int .i64 g13, .int .i64 g14, .int .i64 g15], .c .nil, .c .nil, .c (.slc 1 ui un _)], [o0, o3] => (match o0.asInp 7 with
    | some l => (match asArr 3 4 o3 with
      | some us => .need (((li = 0 ∧ ln = List.length l) ∧ (ui = 0 ∧ (un = ln ∧ un = List.length us))) ∧ (0 < ln ∧ ln ≤ 6) ∧ F.srOk l [g0, g1, g2, g3, g4, g5, g6, g7, g8, g9, g10, g11, g12, g13, g14, g15] [] [])
            (.ite (F.srB l [g0, g1, g2, g3, g4, g5, g6, g7, g8, g9, g10, g11, g12, g13, g14, g15] ln [] [] us) (.ret (.c (.slc 2 0 ln false), [.dead, .arr 3 (F.srU l [g0, g1, g2, g3, g4, g5, g6, g7, g8, g9, g10, g11, g12, g13, g14, g15] ln [] [] us) 4, .own 0 (F.srR l [g0, g1, g2, g3, g4, g5, g6, g7, g8, g9, g10, g11, g12, g13, g14, g15] ln [] [] us) 3])) (.ret (.c (.own 2 0), [.dead, .arr 3 us 4, .own 0 [] 3])))
      | none => .fail)
    | none => .fail)
  | _, _ => .fail
def cuts_srn : Cuts := [(5, [4, 11, 3, 2, 6, 0, 23, 24], 40)]

theorem srn_t0 (l : List (List UInt8 × Int × Int × Int)) (l_t : Bool) (g0 g1 g2 g3 g4 g5 g6 g7 g8 g9 g10 g11 g12 g13 g14 g15 : Int) (us : List Bool) (us_t : Bool) (ln : Nat) : symI C_nb cuts_srn Try.f85.results.toList ([.inp 7 l, .arr 3 us 4] : Heap cod) 400 [.code (codeOf Try.f85)] ⟨argsS Try.f85 [.c (.slc 0 0 ln l_t), .agg [.int .i64 g0, .int .i64 g1, .int .i64 g2, .int .i64 g3, .int .i64 g4, .int .i64 g5, .int .i64 g6, .int .i64 g7, .int .i64 g8, .int .i64 g9, .int .i64 g10, .int .i64 g11, .int .i64 g12, .int .i64 g13, .int .i64 g14, .int .i64 g15], .c .nil, .c .nil, .c (.slc 1 0 ln us_t)], ([.inp 7 l, .arr 3 us 4] : Heap cod)⟩ =
 cond (decide (0 = Int.ofNat ln)) (
 .ret (.fin (.c (.nil)) [.dead, .arr 3 us 4])) (
 .ret (.cut (cutAt Try.f85 5) ⟨tmG 49 [(0, .c (.slc 0 0 (ln) l_t)), (1, .c (.nil)), (0, .c (.nil)), (0, .c (.slc 1 0 (ln) us_t)), (1, .c (.ptr 2 0 0)), (4, .c (.int .i64 0)), (11, .c (.int .i64 (Int.ofNat ln))), (0, .c (.int .i64 0))], [.inp 7 l, .arr 3 us 4, .arr 0 ([g0, g1, g2, g3, g4, g5, g6, g7, g8, g9, g10, g11, g12, g13, g14, g15]) 43, .own 0 [] 3]⟩)) := by kernel_rfl


noncomputable def st_srn_5 (l : List (List UInt8 × Int × Int × Int)) (l_t : Bool) (g0 g1 g2 g3 g4 g5 g6 g7 g8 g9 g10 g11 g12 g13 g14 g15 : Int) (us : List Bool) (us_t : Bool) (ln : Nat) (k : Int) : St cod := ⟨tmG 49 [(0, .c (.slc 0 0 (ln) l_t)), (1, .c (.nil)), (0, .c (.nil)), (0, .c (.slc 1 0 (ln) us_t)), (1, .c (.ptr 2 0 0)), (4, .c (.int .i64 0)), (11, .c (.int .i64 (Int.ofNat ln))), (0, .c (.int .i64 k))], [.inp 7 l, .arr 3 us 4, .arr 0 ([g0, g1, g2, g3, g4, g5, g6, g7, g8, g9, g10, g11, g12, g13, g14, g15]) 43, .own 0 [] 3]⟩


theorem srn_t5z (l : List (List UInt8 × Int × Int × Int)) (l_t : Bool) (g0 g1 g2 g3 g4 g5 g6 g7 g8 g9 g10 g11 g12 g13 g14 g15 : Int) (us : List Bool) (us_t : Bool) (ln : Nat) (k : Int) : symI C_srn0 cuts_srn Try.f85.results.toList ([.inp 7 l, .arr 3 us 4] : Heap cod) 400 (cutAt Try.f85 5) (st_srn_5 l l_t g0 g1 g2 g3 g4 g5 g6 g7 g8 g9 g10 g11 g12 g13 g14 g15 us us_t ln k) =
 cond (decide (k < Int.ofNat ln)) (
 .need (16 * 1 = 16) (
 .need (((0 = 0 ∧ ln = List.length l) ∧ ((0 : Int) ≤ k ∧ k < Int.ofNat (List.length l)))) (
 .need (((0 : Int) ≤ k ∧ k < Int.ofNat ln)) (
 .need (0 + Int.toNat k < List.length us) (
 cond (List.getD us (0 + Int.toNat k) (cod 3).d) (
  .need (i64ok (k + 1)) (
  .ret (.cut (cutAt Try.f85 5) ⟨tmG 49 [(0, .c (.slc 0 0 (ln) l_t)), (1, .c (.nil)), (0, .c (.nil)), (0, .c (.slc 1 0 (ln) us_t)), (1, .c (.ptr 2 0 0)), (4, .c (.int .i64 0)), (11, .c (.int .i64 (Int.ofNat ln))), (0, .c (.int .i64 (k + 1)))], [.inp 7 l, .arr 3 us 4, .arr 0 [g0, g1, g2, g3, g4, g5, g6, g7, g8, g9, g10, g11, g12, g13, g14, g15] 43, .own 0 [] 3]⟩))) (
  .need (((0 : Int) ≤ k ∧ k < Int.ofNat ln)) (
  .need (0 + Int.toNat k < List.length l) (
  cond (decide ((List.getD l (0 + Int.toNat k) (cod 7).d).2.2.2 < F.rdy l k)) (
   .need (i64ok (k + 1)) (
   .ret (.cut (cutAt Try.f85 5) ⟨tmG 49 [(0, .c (.slc 0 0 (ln) l_t)), (1, .c (.nil)), (0, .c (.nil)), (0, .c (.slc 1 0 (ln) us_t)), (1, .c (.ptr 2 0 0)), (4, .c (.int .i64 0)), (11, .c (.int .i64 (Int.ofNat ln))), (0, .c (.int .i64 (k + 1)))], [.inp 7 l, .arr 3 us 4, .arr 0 [g0, g1, g2, g3, g4, g5, g6, g7, g8, g9, g10, g11, g12, g13, g14, g15] 43, .own 0 [] 3]⟩))) (
   .need (((0 : Int) ≤ k ∧ k < Int.ofNat ln)) (
   .need (0 + Int.toNat k < List.length us) (
   .need (16 * 1 = 16) (
   .need (((0 : Int) = 0 ∧ (0 : Int) = 0)) (
   .need (1 = 1) (
   .need (((0 : Nat) < 1 ∧ (1 : Nat) ≤ 1000000)) (
   .need (((0 : Int) = 0 ∧ (0 : Int) = 0)) (
   .need (1 = 1) (
   .need (((0 : Nat) < 1 ∧ (1 : Nat) ≤ 1000000)) (
   .need ((((0 = 0 ∧ ln = List.length l) ∧ ((0 = 0 ∧ 1 = 1) ∧ ((0 = 0 ∧ 1 = 1) ∧ (0 = 0 ∧ ln = ln)))) ∧ 1 = ln)) (
   .need ((0 : Nat) < 1) (
   .ret (.fin (.c (.slc 2 0 1 false)) [.dead, .arr 3 (List.set us (0 + Int.toNat k) true) 4, .own 0 [k] 3]))))))))))))))))))))) (
 .ret (.fin (.c (.own 2 0)) [.dead, .arr 3 us 4, .own 0 [] 3])) := by kernel_rfl


theorem srn_t5s (d : Nat) (l : List (List UInt8 × Int × Int × Int)) (l_t : Bool) (g0 g1 g2 g3 g4 g5 g6 g7 g8 g9 g10 g11 g12 g13 g14 g15 : Int) (us : List Bool) (us_t : Bool) (ln : Nat) (k : Int) : symI (C_srnS d) cuts_srn Try.f85.results.toList ([.inp 7 l, .arr 3 us 4] : Heap cod) 400 (cutAt Try.f85 5) (st_srn_5 l l_t g0 g1 g2 g3 g4 g5 g6 g7 g8 g9 g10 g11 g12 g13 g14 g15 us us_t ln k) =
 cond (decide (k < Int.ofNat ln)) (
 .need (16 * 1 = 16) (
 .need (((0 = 0 ∧ ln = List.length l) ∧ ((0 : Int) ≤ k ∧ k < Int.ofNat (List.length l)))) (
 .need (((0 : Int) ≤ k ∧ k < Int.ofNat ln)) (
 .need (0 + Int.toNat k < List.length us) (
 cond (List.getD us (0 + Int.toNat k) (cod 3).d) (
  .need (i64ok (k + 1)) (
  .ret (.cut (cutAt Try.f85 5) ⟨tmG 49 [(0, .c (.slc 0 0 (ln) l_t)), (1, .c (.nil)), (0, .c (.nil)), (0, .c (.slc 1 0 (ln) us_t)), (1, .c (.ptr 2 0 0)), (4, .c (.int .i64 0)), (11, .c (.int .i64 (Int.ofNat ln))), (0, .c (.int .i64 (k + 1)))], [.inp 7 l, .arr 3 us 4, .arr 0 [g0, g1, g2, g3, g4, g5, g6, g7, g8, g9, g10, g11, g12, g13, g14, g15] 43, .own 0 [] 3]⟩))) (
  .need (((0 : Int) ≤ k ∧ k < Int.ofNat ln)) (
  .need (0 + Int.toNat k < List.length l) (
  cond (decide ((List.getD l (0 + Int.toNat k) (cod 7).d).2.2.2 < F.rdy l k)) (
   .need (i64ok (k + 1)) (
   .ret (.cut (cutAt Try.f85 5) ⟨tmG 49 [(0, .c (.slc 0 0 (ln) l_t)), (1, .c (.nil)), (0, .c (.nil)), (0, .c (.slc 1 0 (ln) us_t)), (1, .c (.ptr 2 0 0)), (4, .c (.int .i64 0)), (11, .c (.int .i64 (Int.ofNat ln))), (0, .c (.int .i64 (k + 1)))], [.inp 7 l, .arr 3 us 4, .arr 0 [g0, g1, g2, g3, g4, g5, g6, g7, g8, g9, g10, g11, g12, g13, g14, g15] 43, .own 0 [] 3]⟩))) (
   .need (((0 : Int) ≤ k ∧ k < Int.ofNat ln)) (
   .need (0 + Int.toNat k < List.length us) (
   .need (16 * 1 = 16) (
   .need (((0 : Int) = 0 ∧ (0 : Int) = 0)) (
   .need (1 = 1) (
   .need (((0 : Nat) < 1 ∧ (1 : Nat) ≤ 1000000)) (
   .need (((0 : Int) = 0 ∧ (0 : Int) = 0)) (
   .need (1 = 1) (
   .need (((0 : Nat) < 1 ∧ (1 : Nat) ≤ 1000000)) (
   .need ((((0 = 0 ∧ ln = List.length l) ∧ ((0 = 0 ∧ 1 = 1) ∧ ((0 = 0 ∧ (1 = 1 ∧ 1 = 1)) ∧ (0 = 0 ∧ (ln = ln ∧ ln = List.length (List.set us (0 + Int.toNat k) true)))))) ∧ (1 + (d + 1) = ln ∧ (ln ≤ 6 ∧ F.srOk l [g0, g1, g2, g3, g4, g5, g6, g7, g8, g9, g10, g11, g12, g13, g14, g15] [k] [F.rdy l k])))) (
   .ite (F.srB l [g0, g1, g2, g3, g4, g5, g6, g7, g8, g9, g10, g11, g12, g13, g14, g15] (d + 1) [k] [F.rdy l k]   (List.set us (0 + Int.toNat k) true)) (
    .need ((0 : Nat) < ln) (
    .ret (.fin (.c (.slc 2 0 (ln) false)) [.dead, .arr 3 (F.srU l [g0, g1, g2, g3, g4, g5, g6, g7, g8, g9, g10, g11, g12, g13, g14, g15] (d + 1) [k] [F.rdy l k]   (List.set us (0 + Int.toNat k) true)) 4, .own 0 (F.srR l [g0, g1, g2, g3, g4, g5, g6, g7, g8, g9, g10, g11, g12, g13, g14, g15] (d + 1) [k] [F.rdy l k]   (List.set us (0 + Int.toNat k) true)) 3]))) (
    .need (True) (
    .need (((0 : Int) ≤ k ∧ k < Int.ofNat ln)) (
    .need (0 + Int.toNat k < List.length (List.set us (0 + Int.toNat k) true)) (
    .need (i64ok (k + 1)) (
    .ret (.cut (cutAt Try.f85 5) ⟨tmG 49 [(0, .c (.slc 0 0 (ln) l_t)), (1, .c (.nil)), (0, .c (.nil)), (0, .c (.slc 1 0 (ln) us_t)), (1, .c (.ptr 2 0 0)), (4, .c (.int .i64 0)), (11, .c (.int .i64 (Int.ofNat ln))), (0, .c (.int .i64 (k + 1)))], [.inp 7 l, .arr 3 (List.set (List.set us (0 + Int.toNat k) true) (0 + Int.toNat k) false) 4, .arr 0 [g0, g1, g2, g3, g4, g5, g6, g7, g8, g9, g10, g11, g12, g13, g14, g15] 43, .own 0 [] 3, .arr 0 [k] 3, .own 0 [k] 3, .arr 0 ([F.rdy l k]) 3, .own 0 ([F.rdy l k]) 3, .own 0 [] 3]⟩))))))))))))))))))))))))) (
 .ret (.fin (.c (.own 2 0)) [.dead, .arr 3 us 4, .own 0 [] 3])) := by kernel_rfl



theorem L_nb_ok : Snd Try.prog cod L_nb := Snd.cons nextB_sound L_fact_ok
theorem L_srn0_ok : Snd Try.prog cod ((85, .k (liftS [1, 2] s_sr0)) :: L_nb) := Snd.consK (lift_soundI [1, 2] (SoundIK.stay sr0_sound fun _ _ _ _ h => sr0_no h)) L_nb_ok
theorem L_srnS_ok {d : Nat} : Snd Try.prog cod ((85, .k (liftS [1, 2] (s_srS d))) :: L_nb) := Snd.consK (lift_soundI [1, 2] (SoundIK.stay (srS_sound d) fun _ _ _ _ h => srS_no h)) L_nb_ok
def F.resN (us : List Bool) (ln : Nat) : Option (List Int × List Bool) → SV × Heap cod
  | some x => (.c (.slc 2 0 ln false), [.dead, .arr 3 x.2 4, .own 0 x.1 3])
  | none => (.c (.own 2 0), [.dead, .arr 3 us 4, .own 0 [] 3])
theorem srnZ_loop (l : List F.It) (l_t : Bool) (g0 g1 g2 g3 g4 g5 g6 g7 g8 g9 g10 g11 g12 g13 g14 g15 : Int) (us : List Bool) (us_t : Bool) (ln : Nat) (hln : ln = l.length) (hus : ln = us.length) (hd : 0 + 1 = ln) (h6 : ln ≤ 6) (hok : F.srOk l [g0, g1, g2, g3, g4, g5, g6, g7, g8, g9, g10, g11, g12, g13, g14, g15] [] []) (b0 : Base) (hb : b0.n = 2) (R : SV) (N : Heap cod) :
    ∀ (m : Nat) (k : Int), 0 ≤ k → k + m = ln → (R, N) = F.resN us ln (F.sgo l [g0, g1, g2, g3, g4, g5, g6, g7, g8, g9, g10, g11, g12, g13, g14, g15] (F.sr l [g0, g1, g2, g3, g4, g5, g6, g7, g8, g9, g10, g11, g12, g13, g14, g15] (0)) [] [] us m k) →
    Sym.Runs Try.prog b0 (cutAt Try.f85 5) (st_srn_5 l l_t g0 g1 g2 g3 g4 g5 g6 g7 g8 g9 g10 g11 g12 g13 g14 g15 us us_t ln k) (Sym.EndsI Try.prog Try.f85 ([.inp 7 l, .arr 3 us 4] : Heap cod) R N) := by
  intro m
  induction m with
  | zero =>
    intro k h0 hm hR
    simp only [F.sgo, F.resN, Prod.mk.injEq] at hR
    obtain ⟨rfl, rfl⟩ := hR
    refine Runs.goI (cfg := C_srn0) (L_srn0_ok) mixed cuts_srn 400 (H := ([.inp 7 l, .arr 3 us 4] : Heap cod)) hb (srn_t5z l l_t g0 g1 g2 g3 g4 g5 g6 g7 g8 g9 g10 g11 g12 g13 g14 g15 us us_t ln k) ?_
    simp only [T.wp, T.wp_cond, Aft, decide_eq_true_eq]
    exact ite_no (by simp only [Int.ofNat_eq_natCast]; omega) ⟨trivial, trivial⟩
  | succ m ih =>
    intro k h0 hm hR
    have kl : k.toNat < l.length := by omega
    have ku : k.toNat < us.length := by omega
    have k64 : i64ok (k + 1) := by unfold i64ok; omega
    have k1 : (0 : Int) ≤ k ∧ k < (ln : Int) := by omega
    have sok := srOk_snoc hok (k := k) (by omega)
    have nx := ih (k + 1) (by omega) (by omega)
    rw [F.sgo] at hR
    have en : F.nextF l [g0, g1, g2, g3, g4, g5, g6, g7, g8, g9, g10, g11, g12, g13, g14, g15] k [] [] (F.rdy l k) = F.rdy l k := rfl
    rw [en] at hR sok
    refine Runs.goI (cfg := C_srn0) (L_srn0_ok) mixed cuts_srn 400 (H := ([.inp 7 l, .arr 3 us 4] : Heap cod)) hb (srn_t5z l l_t g0 g1 g2 g3 g4 g5 g6 g7 g8 g9 g10 g11 g12 g13 g14 g15 us us_t ln k) ?_
    simp only [T.wp, T.wp_cond, Aft, decide_eq_true_eq, Nat.zero_add, Int.ofNat_eq_natCast]
    refine ite_yes k1.2 ⟨trivial, ⟨⟨trivial, hln⟩, by omega, by omega⟩, k1, ku, ?_⟩
    cases hu : us.getD k.toNat false with
    | true =>
      rw [hu, Bool.true_or, if_pos rfl] at hR
      exact ite_yes hu ⟨k64, nx hR⟩
    | false =>
      rw [hu, Bool.false_or] at hR
      refine ite_no (by
        change ¬ us.getD k.toNat false = true
        rw [hu]; decide) ⟨k1, kl, ?_⟩
      by_cases hl : F.slot l k < F.rdy l k
      · rw [if_pos (by simpa using hl)] at hR
        exact ite_yes hl ⟨k64, nx hR⟩
      · rw [if_neg (by simpa using hl)] at hR
        refine ite_no hl ⟨k1, ku, trivial, ⟨trivial, trivial⟩, trivial, ⟨by decide, by decide⟩, ⟨trivial, trivial⟩, trivial, ⟨by decide, by decide⟩, ?_⟩
        have e0 : F.sr l [g0, g1, g2, g3, g4, g5, g6, g7, g8, g9, g10, g11, g12, g13, g14, g15] 0 ([] ++ [k]) ([] ++ [F.rdy l k]) (us.set k.toNat true) = some ([k], us.set k.toNat true) := rfl
        rw [e0] at hR
        simp only [F.resN, Prod.mk.injEq] at hR
        obtain ⟨rfl, rfl⟩ := hR
        refine ⟨⟨⟨⟨trivial, hln⟩, ⟨trivial, trivial⟩, ⟨trivial, trivial⟩, trivial, trivial⟩, by omega⟩, by decide, ?_⟩
        have e1 : ln = 1 := by omega
        rw [e1]
        exact ⟨rfl, rfl⟩

theorem srnS_loop (d : Nat) (l : List F.It) (l_t : Bool) (g0 g1 g2 g3 g4 g5 g6 g7 g8 g9 g10 g11 g12 g13 g14 g15 : Int) (us : List Bool) (us_t : Bool) (ln : Nat) (hln : ln = l.length) (hus : ln = us.length) (hd : d + 1 + 1 = ln) (h6 : ln ≤ 6) (hok : F.srOk l [g0, g1, g2, g3, g4, g5, g6, g7, g8, g9, g10, g11, g12, g13, g14, g15] [] []) (b0 : Base) (hb : b0.n = 2) (R : SV) (N : Heap cod) :
    ∀ (m : Nat) (k : Int), 0 ≤ k → k + m = ln → (R, N) = F.resN us ln (F.sgo l [g0, g1, g2, g3, g4, g5, g6, g7, g8, g9, g10, g11, g12, g13, g14, g15] (F.sr l [g0, g1, g2, g3, g4, g5, g6, g7, g8, g9, g10, g11, g12, g13, g14, g15] (d + 1)) [] [] us m k) →
    Sym.Runs Try.prog b0 (cutAt Try.f85 5) (st_srn_5 l l_t g0 g1 g2 g3 g4 g5 g6 g7 g8 g9 g10 g11 g12 g13 g14 g15 us us_t ln k) (Sym.EndsI Try.prog Try.f85 ([.inp 7 l, .arr 3 us 4] : Heap cod) R N) := by
  intro m
  induction m with
  | zero =>
    intro k h0 hm hR
    simp only [F.sgo, F.resN, Prod.mk.injEq] at hR
    obtain ⟨rfl, rfl⟩ := hR
    refine Runs.goI (cfg := C_srnS d) (L_srnS_ok) mixed cuts_srn 400 (H := ([.inp 7 l, .arr 3 us 4] : Heap cod)) hb (srn_t5s d l l_t g0 g1 g2 g3 g4 g5 g6 g7 g8 g9 g10 g11 g12 g13 g14 g15 us us_t ln k) ?_
    simp only [T.wp, T.wp_cond, Aft, decide_eq_true_eq]
    exact ite_no (by simp only [Int.ofNat_eq_natCast]; omega) ⟨trivial, trivial⟩
  | succ m ih =>
    intro k h0 hm hR
    have kl : k.toNat < l.length := by omega
    have ku : k.toNat < us.length := by omega
    have k64 : i64ok (k + 1) := by unfold i64ok; omega
    have k1 : (0 : Int) ≤ k ∧ k < (ln : Int) := by omega
    have sok := srOk_snoc hok (k := k) (by omega)
    have nx := ih (k + 1) (by omega) (by omega)
    rw [F.sgo] at hR
    have en : F.nextF l [g0, g1, g2, g3, g4, g5, g6, g7, g8, g9, g10, g11, g12, g13, g14, g15] k [] [] (F.rdy l k) = F.rdy l k := rfl
    rw [en] at hR sok
    refine Runs.goI (cfg := C_srnS d) (L_srnS_ok) mixed cuts_srn 400 (H := ([.inp 7 l, .arr 3 us 4] : Heap cod)) hb (srn_t5s d l l_t g0 g1 g2 g3 g4 g5 g6 g7 g8 g9 g10 g11 g12 g13 g14 g15 us us_t ln k) ?_
    simp only [T.wp, T.wp_cond, Aft, decide_eq_true_eq, Nat.zero_add, Int.ofNat_eq_natCast]
    refine ite_yes k1.2 ⟨trivial, ⟨⟨trivial, hln⟩, by omega, by omega⟩, k1, ku, ?_⟩
    cases hu : us.getD k.toNat false with
    | true =>
      rw [hu, Bool.true_or, if_pos rfl] at hR
      exact ite_yes hu ⟨k64, nx hR⟩
    | false =>
      rw [hu, Bool.false_or] at hR
      refine ite_no (by
        change ¬ us.getD k.toNat false = true
        rw [hu]; decide) ⟨k1, kl, ?_⟩
      by_cases hl : F.slot l k < F.rdy l k
      · rw [if_pos (by simpa using hl)] at hR
        exact ite_yes hl ⟨k64, nx hR⟩
      · rw [if_neg (by simpa using hl)] at hR
        refine ite_no hl ⟨k1, ku, trivial, ⟨trivial, trivial⟩, trivial, ⟨by decide, by decide⟩, ⟨trivial, trivial⟩, trivial, ⟨by decide, by decide⟩, ?_⟩
        have e9 : ([] : List Int) ++ [k] = [k] := rfl
        have e8 : ([] : List Int) ++ [F.rdy l k] = [F.rdy l k] := rfl
        rw [e9, e8] at hR sok
        refine ⟨⟨⟨⟨trivial, hln⟩, ⟨trivial, trivial⟩, ⟨trivial, trivial, trivial⟩, trivial, trivial, by rw [List.length_set]; omega⟩, by omega, h6, sok⟩, ?_⟩
        cases hs : F.sr l [g0, g1, g2, g3, g4, g5, g6, g7, g8, g9, g10, g11, g12, g13, g14, g15] (d + 1) [k] [F.rdy l k] (us.set k.toNat true) with
        | some x =>
          rw [hs] at hR
          simp only [F.resN, Prod.mk.injEq] at hR
          obtain ⟨rfl, rfl⟩ := hR
          have eB : F.srB l [g0, g1, g2, g3, g4, g5, g6, g7, g8, g9, g10, g11, g12, g13, g14, g15] (d + 1) [k] [F.rdy l k] (us.set k.toNat true) = true := by unfold F.srB; rw [hs]; rfl
          have eR : F.srR l [g0, g1, g2, g3, g4, g5, g6, g7, g8, g9, g10, g11, g12, g13, g14, g15] (d + 1) [k] [F.rdy l k] (us.set k.toNat true) = x.1 := by unfold F.srR; rw [hs]; rfl
          have eU : F.srU l [g0, g1, g2, g3, g4, g5, g6, g7, g8, g9, g10, g11, g12, g13, g14, g15] (d + 1) [k] [F.rdy l k] (us.set k.toNat true) = x.2 := by unfold F.srU; rw [hs]; rfl
          refine ⟨fun _ => ⟨by omega, rfl, ?_⟩, fun h => by (rw [eB] at h; cases h)⟩
          rw [eR, eU]
        | none =>
          rw [hs] at hR
          have eB : F.srB l [g0, g1, g2, g3, g4, g5, g6, g7, g8, g9, g10, g11, g12, g13, g14, g15] (d + 1) [k] [F.rdy l k] (us.set k.toNat true) = false := by unfold F.srB; rw [hs]; rfl
          refine ⟨fun h => by (rw [eB] at h; cases h), fun _ => ⟨trivial, k1, by rw [List.length_set]; exact ku, k64, ?_⟩⟩
          have nx2 : ∀ us', us' = us → Sym.Runs Try.prog b0 (cutAt Try.f85 5) (st_srn_5 l l_t g0 g1 g2 g3 g4 g5 g6 g7 g8 g9 g10 g11 g12 g13 g14 g15 us' us_t ln (k + 1)) (Sym.EndsI Try.prog Try.f85 ([.inp 7 l, .arr 3 us 4] : Heap cod) R N) := fun us' e => by rw [e]; exact nx hR
          exact Runs.turn [0, 1, 2, 3] 24 hb (by decide) rfl rfl rfl (nx2 _ (set_back ku hu))

theorem srN_sound : SoundI Try.prog cod 85 s_srN := tree_soundI (cfg := C_nb) Try.func85 rfl rfl _ fun args H r H' hg b0 hb => by
  unfold s_srN at hg
  split at hg
  · rename_i li ln l_t g0 g1 g2 g3 g4 g5 g6 g7 g8 g9 g10 g11 g12 g13 g14 g15 ui un us_t o0 o3
    split at hg
    · rename_i l hx0
      split at hg
      · rename_i us hx3
        cases asInp_spec hx0
        cases asArr_spec hx3
        simp only [T.gives, T.wp, Prod.mk.injEq] at hg
        obtain ⟨⟨⟨⟨rfl, hln⟩, rfl, rfl, hus⟩, ⟨h0, h6⟩, hok⟩, q1, q2⟩ := hg
        refine Runs.goI (cfg := C_nb) L_nb_ok mixed cuts_srn 400 (H := ([.inp 7 l, .arr 3 us 4] : Heap cod)) hb (srn_t0 l l_t g0 g1 g2 g3 g4 g5 g6 g7 g8 g9 g10 g11 g12 g13 g14 g15 us us_t un) ?_
        simp only [T.wp, T.wp_cond, Aft, decide_eq_true_eq]
        refine ite_no (by simp only [Int.ofNat_eq_natCast]; omega) ?_
        obtain ⟨d, rfl⟩ : ∃ d, un = d + 1 := ⟨un - 1, by omega⟩
        have e : F.sr l [g0, g1, g2, g3, g4, g5, g6, g7, g8, g9, g10, g11, g12, g13, g14, g15] (d + 1) [] [] us = F.sgo l [g0, g1, g2, g3, g4, g5, g6, g7, g8, g9, g10, g11, g12, g13, g14, g15] (F.sr l [g0, g1, g2, g3, g4, g5, g6, g7, g8, g9, g10, g11, g12, g13, g14, g15] d) [] [] us l.length 0 := rfl
        have hR : (r, H') = F.resN us (d + 1) (F.sgo l [g0, g1, g2, g3, g4, g5, g6, g7, g8, g9, g10, g11, g12, g13, g14, g15] (F.sr l [g0, g1, g2, g3, g4, g5, g6, g7, g8, g9, g10, g11, g12, g13, g14, g15] d) [] [] us (d + 1) 0) := by
          simp only [F.srB, F.srR, F.srU] at q1 q2
          rw [e, ← hln] at q1 q2
          cases hs : F.sgo l [g0, g1, g2, g3, g4, g5, g6, g7, g8, g9, g10, g11, g12, g13, g14, g15] (F.sr l [g0, g1, g2, g3, g4, g5, g6, g7, g8, g9, g10, g11, g12, g13, g14, g15] d) [] [] us (d + 1) 0 with
          | some x =>
            rw [hs] at q1
            obtain ⟨rfl, rfl⟩ := q1 rfl
            rfl
          | none =>
            rw [hs] at q2
            obtain ⟨rfl, rfl⟩ := q2 rfl
            rfl
        cases d with
        | zero => exact srnZ_loop l l_t g0 g1 g2 g3 g4 g5 g6 g7 g8 g9 g10 g11 g12 g13 g14 g15 us us_t _ hln hus rfl h6 hok b0 hb r H' _ 0 (by omega) (Int.zero_add _) hR
        | succ d => exact srnS_loop d l l_t g0 g1 g2 g3 g4 g5 g6 g7 g8 g9 g10 g11 g12 g13 g14 g15 us us_t _ hln hus rfl h6 hok b0 hb r H' _ 0 (by omega) (Int.zero_add _) hR
      · exact hg.elim
    · exact hg.elim
  · exact hg.elim

end
end Go.Proofs.Ytffcfbamcaoidaa
