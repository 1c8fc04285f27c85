/- Part of a claim: lemmas on the way to its theorem; each states its own conditions. -/
import Derived.Test.YtoflfgcdagoobaaDoorXc
namespace Go.Proofs.YtoflfgcdagoobaaDoor
open Sym Go.RowKit
noncomputable section
set_option maxRecDepth 100000
set_option maxHeartbeats 4000000



noncomputable def s_xhp0 : Summ cod := autoS C_encode Tryd.f38 400


theorem xhp0_sound : Sound Tryd.prog cod 38 s_xhp0 := auto_sound (cfg := C_encode) L_encode_ok mixed Tryd.func38 rfl rfl 400

noncomputable def L_xhp0 : Sums cod := (38, .p s_xhp0) :: L_encode
noncomputable def C_xhp0 : Cfg cod := mkC L_xhp0

theorem L_xhp0_ok : Snd Tryd.prog cod L_xhp0 := .cons xhp0_sound L_encode_ok



noncomputable def s_xhp : Summ cod := autoS C_xhp0 Tryd.f20 400


theorem xhp_sound : Sound Tryd.prog cod 20 s_xhp := auto_sound (cfg := C_xhp0) L_xhp0_ok mixed Tryd.func20 rfl rfl 400

noncomputable def L_xhp : Sums cod := (20, .p s_xhp) :: L_xhp0
noncomputable def C_xhp : Cfg cod := mkC L_xhp

theorem L_xhp_ok : Snd Tryd.prog cod L_xhp := .cons xhp_sound L_xhp0_ok



def cuts_rblaw : Cuts := []

theorem rblaw_t0 (n t : Int) (kind text : List UInt8) : symF C_xhp cuts_rblaw Tryd.f4.results.toList 0 400 [.code (codeOf Tryd.f4)] ⟨argsS Tryd.f4 [.agg [.int .i64 n, .int .i64 t, .str kind, .str text]], ([] : Heap cod)⟩ =
.need (((3 : Nat) ≤ 1000000000000000 ∧ (3 : Nat) ≤ 1000000000000000)) (
.need (((0 : Int) ≤ Int.ofNat 14 ∧ (Int.ofNat 14 : Int) ≤ Int.ofNat 19)) (
.need ((List.length kind ≤ 1000000000000000 ∧ List.length text ≤ 1000000000000000)) (
.need ((List.length kind ≤ 1000000000000000 ∧ List.length text ≤ 1000000000000000)) (
.need ((List.length kind ≤ 1000000000000000 ∧ List.length text ≤ 1000000000000000)) (
 cond (!decide (F.enE n t kind text = F.enE n t kind text)) (
 .ret (.fin (.c (.bool false)) [])) (
 cond (!decide (F.enE n t kind text = F.enE n t kind text)) (
  .ret (.fin (.c (.bool false)) [])) (
  .need (List.length text ≤ 1000000000000000) (
  .need (List.length text ≤ 1000000000000000) (
  cond (!decide (F.sum text = F.sum text)) (
   .ret (.fin (.c (.bool false)) [])) (
   cond (!decide (F.enE n t kind text = 0)) (
    cond (decide (F.encR n t kind text = [])) (
     .ret (.fin (.c (.bool true)) [])) (
     cond (decide (F.enE n t kind text = 0)) (
      .need (F.enE n t kind text = 0) (
      .ret (.fin (.c (.bool (decide (F.encR n t kind text = F.enB n t kind text)))) []))) (
      .ret (.fin (.c (.bool false)) [])))) (
    cond (decide (F.enE n t kind text = 0)) (
     .need (F.enE n t kind text = 0) (
     .ret (.fin (.c (.bool (decide (F.encR n t kind text = F.enB n t kind text)))) []))) (
     .ret (.fin (.c (.bool false)) []))))))))))))) := by kernel_rfl



theorem rblaw_run (n t : Int) (kind text : List UInt8) (b0 : Base) (hb : b0.n = 0) (h0 : kind.length ≤ 1000000000000000 ∧ text.length ≤ 1000000000000000) : Sym.Runs Tryd.prog b0 [.code (codeOf Tryd.f4)] ⟨argsS Tryd.f4 [.agg [.int .i64 n, .int .i64 t, .str kind, .str text]], ([] : Heap cod)⟩ (Sym.Ends Tryd.prog Tryd.f4 0 (.c (.bool true)) []) := by
  refine Runs.go (cfg := C_xhp) L_xhp_ok mixed cuts_rblaw 400 hb (rblaw_t0 n t kind text) ?_
  simp only [T.wp, T.wp_cond, Aft, Int.ofNat_eq_natCast, decide_eq_true_eq, and_true, true_and, Nat.zero_add, Bool.not_eq_true', decide_eq_false_iff_not, Bool.not_eq_true', decide_eq_false_iff_not]
  refine ⟨by decide, by decide, h0, h0, h0, ite_no (by simp) (ite_no (by simp) ⟨h0.2, h0.2, ite_no (by simp) ?_⟩)⟩
  by_cases c : F.enE n t kind text = 0
  · have e : F.encR n t kind text = F.enB n t kind text := if_pos c
    rw [e]
    refine ite_no (by simp [c]) (ite_yes c ⟨c, ?_⟩)
    simp
  · have e : F.encR n t kind text = [] := if_neg c
    rw [e]
    exact ite_yes c (ite_yes rfl trivial)



noncomputable def s_rblaw : Summ cod := fun args H => match args, H with
  | [.agg [.int .i64 n, .int .i64 t, .str kind, .str text]], [] => .need ((kind.length ≤ 1000000000000000 ∧ text.length ≤ 1000000000000000)) (.ret (.c (.bool true), []))
  | _, _ => .fail


theorem rblaw_sound : Sound Tryd.prog cod 4 s_rblaw := sound_runs (cfg := C_xhp) L_xhp_ok mixed Tryd.func4 rfl rfl _ fun args H r news hg b0 hb => by
  unfold s_rblaw at hg
  split at hg
  · skip
    simp only [T.gives, T.wp, Prod.mk.injEq] at hg
    obtain ⟨q0, rfl, rfl⟩ := hg
    exact rblaw_run _ _ _ _ b0 hb (by assumption)
  · exact hg.elim

noncomputable def L_rblaw : Sums cod := (4, .p s_rblaw) :: L_xhp
noncomputable def C_rblaw : Cfg cod := mkC L_rblaw

theorem L_rblaw_ok : Snd Tryd.prog cod L_rblaw := .cons rblaw_sound L_xhp_ok


end
end Go.Proofs.YtoflfgcdagoobaaDoor
