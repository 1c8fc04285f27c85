/- Part of a claim: lemmas on the way to its theorem; each states its own conditions. -/
import Derived.Test.YtffcfbamcaoidaaGq
import Derived.Test.YtffcfbamcaoidaaSym27
namespace Go.Proofs.Ytffcfbamcaoidaa
open Sym Go.RowKit
noncomputable section
set_option maxRecDepth 100000
set_option maxHeartbeats 4000000



def cuts_ix2N : Cuts := []

theorem ix2N_t0 (a b c d : Int) : symF C_lfree cuts_ix2N Try.f127.results.toList 1 400 [.code (codeOf Try.f127)] ⟨argsS Try.f127 [.c .nil, .c (.fn 112 [(0, 0, 0)])], ([.rblk [.int .i64 a, .int .i64 b, .int .i64 c, .int .i64 d]] : Heap cod)⟩ =
.ret (.fin (.c (.int .i64 (-1))) []) := by kernel_rfl



theorem ix2N_run (a b c d : Int) (b0 : Base) (hb : b0.n = 1)  : Sym.Runs Try.prog b0 [.code (codeOf Try.f127)] ⟨argsS Try.f127 [.c .nil, .c (.fn 112 [(0, 0, 0)])], ([.rblk [.int .i64 a, .int .i64 b, .int .i64 c, .int .i64 d]] : Heap cod)⟩ (Sym.Ends Try.prog Try.f127 1 (.c (.int .i64 (-1))) []) := by
  refine Runs.go (cfg := C_lfree) L_lfree_ok mixed cuts_ix2N 400 hb (ix2N_t0 a b c d) ?_
  simp only [T.wp, T.wp_cond, Aft, Int.ofNat_eq_natCast, decide_eq_true_eq, and_true, true_and, Nat.zero_add, Bool.not_eq_true', decide_eq_false_iff_not]



noncomputable def s_ix2N : Summ cod := fun args H => match args, H with
  | [.c .nil, .c (.fn 112 [(0, 0, 0)])], [.rblk [.int .i64 a, .int .i64 b, .int .i64 c, .int .i64 d]] => .ret (.c (.int .i64 (-1)), [])
  | _, _ => .fail


theorem ix2N_sound : Sound Try.prog cod 127 s_ix2N := sound_runs (cfg := C_lfree) L_lfree_ok mixed Try.func127 rfl rfl _ fun args H r news hg b0 hb => by
  unfold s_ix2N at hg
  split at hg
  · skip
    cases hg
    exact ix2N_run _ _ _ _ b0 hb 
  · exact hg.elim

noncomputable def L_ix2N : Sums cod := (127, .p s_ix2N) :: L_lfree
noncomputable def C_ix2N : Cfg cod := mkC L_ix2N

theorem L_ix2N_ok : Snd Try.prog cod L_ix2N := .cons ix2N_sound L_lfree_ok



def cuts_con2N : Cuts := []

theorem con2N_t0 (a b c d : Int) : symF C_ix2N cuts_con2N Try.f111.results.toList 1 400 [.code (codeOf Try.f111)] ⟨argsS Try.f111 [.c .nil, .c (.fn 112 [(0, 0, 0)])], ([.rblk [.int .i64 a, .int .i64 b, .int .i64 c, .int .i64 d]] : Heap cod)⟩ =
.ret (.fin (.c (.bool (decide (0 ≤ -1)))) []) := by kernel_rfl



theorem con2N_run (a b c d : Int) (b0 : Base) (hb : b0.n = 1)  : Sym.Runs Try.prog b0 [.code (codeOf Try.f111)] ⟨argsS Try.f111 [.c .nil, .c (.fn 112 [(0, 0, 0)])], ([.rblk [.int .i64 a, .int .i64 b, .int .i64 c, .int .i64 d]] : Heap cod)⟩ (Sym.Ends Try.prog Try.f111 1 (.c (.bool false)) []) := by
  refine Runs.go (cfg := C_ix2N) L_ix2N_ok mixed cuts_con2N 400 hb (con2N_t0 a b c d) ?_
  simp only [T.wp, T.wp_cond, Aft, Int.ofNat_eq_natCast, decide_eq_true_eq, and_true, true_and, Nat.zero_add, Bool.not_eq_true', decide_eq_false_iff_not]
  rfl



noncomputable def s_con2N : Summ cod := fun args H => match args, H with
  | [.c .nil, .c (.fn 112 [(0, 0, 0)])], [.rblk [.int .i64 a, .int .i64 b, .int .i64 c, .int .i64 d]] => .ret (.c (.bool false), [])
  | _, _ => .fail


theorem con2N_sound : Sound Try.prog cod 111 s_con2N := sound_runs (cfg := C_ix2N) L_ix2N_ok mixed Try.func111 rfl rfl _ fun args H r news hg b0 hb => by
  unfold s_con2N at hg
  split at hg
  · skip
    cases hg
    exact con2N_run _ _ _ _ b0 hb 
  · exact hg.elim

noncomputable def L_con2N : Sums cod := (111, .p s_con2N) :: L_ix2N
noncomputable def C_con2N : Cfg cod := mkC L_con2N

theorem L_con2N_ok : Snd Try.prog cod L_con2N := .cons con2N_sound L_ix2N_ok



def cuts_lfreeN : Cuts := []

theorem lfreeN_t0 (l : List (Int × Int × Int × Int)) (l_t : Bool) (l_i l_n : Nat) (a b c d : Int) : symF C_con2N cuts_lfreeN Try.f99.results.toList 1 400 [.code (codeOf Try.f99)] ⟨argsS Try.f99 [.c (.slc 0 l_i l_n l_t), .c .nil, .agg [.int .i64 a, .int .i64 b, .int .i64 c, .int .i64 d]], ([.inp 4 l] : Heap cod)⟩ =
.need ((l_i + l_n ≤ List.length l ∧ (List.length l ≤ 1000000 ∧ (F.bq (a, b, c, d) ∧ F.allB l)))) (
 cond (!F.anyQ (F.mp (a, b, c, d)) l l_n l_i) (
 .ret (.fin (.c (.bool !false)) [])) (
 .ret (.fin (.c (.bool false)) []))) := by kernel_rfl



theorem lfreeN_run (l : List (Int × Int × Int × Int)) (l_t : Bool) (l_i l_n : Nat) (a b c d : Int) (b0 : Base) (hb : b0.n = 1) (h0 : l_i + l_n ≤ List.length l) (h1 : List.length l ≤ 1000000) (h2 : F.bq (a, b, c, d)) (h3 : F.allB l) : Sym.Runs Try.prog b0 [.code (codeOf Try.f99)] ⟨argsS Try.f99 [.c (.slc 0 l_i l_n l_t), .c .nil, .agg [.int .i64 a, .int .i64 b, .int .i64 c, .int .i64 d]], ([.inp 4 l] : Heap cod)⟩ (Sym.Ends Try.prog Try.f99 1 (.c (.bool (F.free l l_i l_n [] 0 0 (a, b, c, d)))) []) := by
  refine Runs.go (cfg := C_con2N) L_con2N_ok mixed cuts_lfreeN 400 hb (lfreeN_t0 l l_t l_i l_n a b c d) ?_
  simp only [T.wp, T.wp_cond, Aft, Int.ofNat_eq_natCast, decide_eq_true_eq, and_true, true_and, Nat.zero_add, Bool.not_eq_true', decide_eq_false_iff_not, F.free, F.anyQ]
  cases hq : F.anyQ (F.mp (a, b, c, d)) l l_n l_i
  · simp [h0, h1, h2, h3]
  · simp [h0, h1, h2, h3]



noncomputable def s_lfreeN : Summ cod := fun args H => match args, H with
  | [.c (.slc 0 l_i l_n l_t), .c .nil, .agg [.int .i64 a, .int .i64 b, .int .i64 c, .int .i64 d]], [o0] => (match o0.asInp 4 with | some l => .need ((l_i + l_n ≤ List.length l) ∧ (List.length l ≤ 1000000) ∧ (F.bq (a, b, c, d)) ∧ (F.allB l)) (.ret (.c (.bool (F.free l l_i l_n [] 0 0 (a, b, c, d))), [])) | none => .fail)
  | _, _ => .fail


theorem lfreeN_sound : Sound Try.prog cod 99 s_lfreeN := sound_runs (cfg := C_con2N) L_con2N_ok mixed Try.func99 rfl rfl _ fun args H r news hg b0 hb => by
  unfold s_lfreeN at hg
  split at hg
  · skip
    split at hg
    · rename_i l hx0
      cases asInp_spec hx0
      simp only [T.gives, T.wp, Prod.mk.injEq] at hg
      obtain ⟨⟨q0, q1, q2, q3⟩, rfl, rfl⟩ := hg
      exact lfreeN_run _ _ _ _ _ _ _ _ b0 hb (by assumption) (by assumption) (by assumption) (by assumption)
    · exact hg.elim
  · exact hg.elim

noncomputable def L_lfreeN : Sums cod := (99, .p s_lfreeN) :: L_con2N
noncomputable def C_lfreeN : Cfg cod := mkC L_lfreeN

theorem L_lfreeN_ok : Snd Try.prog cod L_lfreeN := .cons lfreeN_sound L_con2N_ok



noncomputable def s_lfreeB : Summ cod := s_or s_lfreeN s_lfree


theorem lfreeB_sound : Sound Try.prog cod 99 s_lfreeB := Sound.or lfreeN_sound lfree_sound

noncomputable def L_lfreeB : Sums cod := (99, .p s_lfreeB) :: L_lfreeN
noncomputable def C_lfreeB : Cfg cod := mkC L_lfreeB

theorem L_lfreeB_ok : Snd Try.prog cod L_lfreeB := .cons lfreeB_sound L_lfreeN_ok


end
end Go.Proofs.Ytffcfbamcaoidaa
