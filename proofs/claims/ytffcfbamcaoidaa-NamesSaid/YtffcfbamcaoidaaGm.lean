/- Part of a claim: lemmas on the way to its theorem; each states its own conditions. -/
import Derived.Test.YtffcfbamcaoidaaGs
namespace Go.Proofs.Ytffcfbamcaoidaa
open Sym Go.RowKit
noncomputable section
set_option maxRecDepth 100000
set_option maxHeartbeats 4000000


noncomputable def L_msort : Sums cod := (97, .k s_msort) :: L_0
noncomputable def C_msort : Cfg cod := mkC L_msort

theorem L_msort_ok : Snd Try.prog cod L_msort := .consK msort_sound L_0_ok



noncomputable def s_mhp0 : Summ cod := autoS C_msort Try.f106 400


theorem mhp0_sound : Sound Try.prog cod 106 s_mhp0 := auto_sound (cfg := C_msort) L_msort_ok mixed Try.func106 rfl rfl 400

noncomputable def L_mhp0 : Sums cod := (106, .p s_mhp0) :: L_msort
noncomputable def C_mhp0 : Cfg cod := mkC L_mhp0

theorem L_mhp0_ok : Snd Try.prog cod L_mhp0 := .cons mhp0_sound L_msort_ok



noncomputable def s_mhp : Summ cod := autoS C_mhp0 Try.f96 400


theorem mhp_sound : Sound Try.prog cod 96 s_mhp := auto_sound (cfg := C_mhp0) L_mhp0_ok mixed Try.func96 rfl rfl 400

noncomputable def L_mhp : Sums cod := (96, .p s_mhp) :: L_mhp0
noncomputable def C_mhp : Cfg cod := mkC L_mhp

theorem L_mhp_ok : Snd Try.prog cod L_mhp := .cons mhp_sound L_mhp0_ok



noncomputable def s_mverbs : Summ cod := autoS C_mhp Try.f95 400


theorem mverbs_sound : Sound Try.prog cod 95 s_mverbs := auto_sound (cfg := C_mhp) L_mhp_ok mixed Try.func95 rfl rfl 400

noncomputable def L_mverbs : Sums cod := (95, .p s_mverbs) :: L_mhp
noncomputable def C_mverbs : Cfg cod := mkC L_mverbs

theorem L_mverbs_ok : Snd Try.prog cod L_mverbs := .cons mverbs_sound L_mhp_ok



noncomputable def s_mcomp : Summ cod := autoS C_mverbs Try.f65 1000


theorem mcomp_sound : Sound Try.prog cod 65 s_mcomp := auto_sound (cfg := C_mverbs) L_mverbs_ok mixed Try.func65 rfl rfl 1000

noncomputable def L_mcomp : Sums cod := (65, .p s_mcomp) :: L_mverbs
noncomputable def C_mcomp : Cfg cod := mkC L_mcomp

theorem L_mcomp_ok : Snd Try.prog cod L_mcomp := .cons mcomp_sound L_mverbs_ok



def cuts_mnames : Cuts := []

theorem mnames_t0  : symF C_mcomp cuts_mnames Try.f13.results.toList 0 400 [.code (codeOf Try.f13)] ⟨argsS Try.f13 [], ([] : Heap cod)⟩ =
.need (((0 : Int) ≤ 0 ∧ (0 : Int) < Int.ofNat 10)) (
.need ((0 + Int.toNat 0 : Nat) < 10) (
.need (((0 : Int) ≤ Int.ofNat 0 ∧ (Int.ofNat 0 : Int) ≤ Int.ofNat (List.length [104, 101, 105, 103, 104, 116]))) (
.need (1 = 1) (
.need ((0 + 1 : Nat) ≤ 1000000) (
.need (i64ok (0 + 1)) (
.need (((0 : Int) ≤ 0 + 1 ∧ (0 + 1 : Int) < Int.ofNat 10)) (
.need ((0 + Int.toNat (0 + 1) : Nat) < 10) (
.need (((0 : Int) ≤ Int.ofNat 0 ∧ (Int.ofNat 0 : Int) ≤ Int.ofNat (List.length [104, 101, 97, 100, 105, 110, 103]))) (
.need (1 = 1) (
.need ((0 + 1 + 1 : Nat) ≤ 1000000) (
.need (i64ok (0 + 1 + 1)) (
.need (((0 : Int) ≤ 0 + 1 + 1 ∧ (0 + 1 + 1 : Int) < Int.ofNat 10)) (
.need ((0 + Int.toNat (0 + 1 + 1) : Nat) < 10) (
.need (((0 : Int) ≤ Int.ofNat 0 ∧ (Int.ofNat 0 : Int) ≤ Int.ofNat (List.length [115, 112, 101, 101, 100]))) (
.need (1 = 1) (
.need ((0 + 1 + 1 + 1 : Nat) ≤ 1000000) (
.need (i64ok (0 + 1 + 1 + 1)) (
.need (((0 : Int) ≤ 0 + 1 + 1 + 1 ∧ (0 + 1 + 1 + 1 : Int) < Int.ofNat 10)) (
.need ((0 + Int.toNat (0 + 1 + 1 + 1) : Nat) < 10) (
.need (((0 : Int) ≤ Int.ofNat 0 ∧ (Int.ofNat 0 : Int) ≤ Int.ofNat (List.length [100, 105, 114, 101, 99, 116]))) (
.need (1 = 1) (
.need ((0 + 1 + 1 + 1 + 1 : Nat) ≤ 1000000) (
.need (i64ok (0 + 1 + 1 + 1 + 1)) (
.need (((0 : Int) ≤ 0 + 1 + 1 + 1 + 1 ∧ (0 + 1 + 1 + 1 + 1 : Int) < Int.ofNat 10)) (
.need ((0 + Int.toNat (0 + 1 + 1 + 1 + 1) : Nat) < 10) (
.need (((0 : Int) ≤ Int.ofNat 0 ∧ (Int.ofNat 0 : Int) ≤ Int.ofNat (List.length [104, 111, 108, 100]))) (
.need (1 = 1) (
.need ((0 + 1 + 1 + 1 + 1 + 1 : Nat) ≤ 1000000) (
.need (i64ok (0 + 1 + 1 + 1 + 1 + 1)) (
.need (((0 : Int) ≤ 0 + 1 + 1 + 1 + 1 + 1 ∧ (0 + 1 + 1 + 1 + 1 + 1 : Int) < Int.ofNat 10)) (
.need ((0 + Int.toNat (0 + 1 + 1 + 1 + 1 + 1) : Nat) < 10) (
.need (((0 : Int) ≤ Int.ofNat 0 ∧ (Int.ofNat 0 : Int) ≤ Int.ofNat (List.length [99, 111, 110, 116, 97, 99, 116]))) (
.need (1 = 1) (
.need ((0 + 1 + 1 + 1 + 1 + 1 + 1 : Nat) ≤ 1000000) (
.need (i64ok (0 + 1 + 1 + 1 + 1 + 1 + 1)) (
.need (((0 : Int) ≤ 0 + 1 + 1 + 1 + 1 + 1 + 1 ∧ (0 + 1 + 1 + 1 + 1 + 1 + 1 : Int) < Int.ofNat 10)) (
.need ((0 + Int.toNat (0 + 1 + 1 + 1 + 1 + 1 + 1) : Nat) < 10) (
.need (((0 : Int) ≤ Int.ofNat 0 ∧ (Int.ofNat 0 : Int) ≤ Int.ofNat (List.length [108, 97, 110, 100]))) (
.need (1 = 1) (
.need ((0 + 1 + 1 + 1 + 1 + 1 + 1 + 1 : Nat) ≤ 1000000) (
.need (i64ok (0 + 1 + 1 + 1 + 1 + 1 + 1 + 1)) (
.need (((0 : Int) ≤ 0 + 1 + 1 + 1 + 1 + 1 + 1 + 1 ∧ (0 + 1 + 1 + 1 + 1 + 1 + 1 + 1 : Int) < Int.ofNat 10)) (
.need ((0 + Int.toNat (0 + 1 + 1 + 1 + 1 + 1 + 1 + 1) : Nat) < 10) (
.need (((0 : Int) ≤ Int.ofNat 0 ∧ (Int.ofNat 0 : Int) ≤ Int.ofNat (List.length [111, 102, 102, 101, 114]))) (
.need (1 = 1) (
.need ((0 + 1 + 1 + 1 + 1 + 1 + 1 + 1 + 1 : Nat) ≤ 1000000) (
.need (i64ok (0 + 1 + 1 + 1 + 1 + 1 + 1 + 1 + 1)) (
.need (((0 : Int) ≤ 0 + 1 + 1 + 1 + 1 + 1 + 1 + 1 + 1 ∧ (0 + 1 + 1 + 1 + 1 + 1 + 1 + 1 + 1 : Int) < Int.ofNat 10)) (
.need ((0 + Int.toNat (0 + 1 + 1 + 1 + 1 + 1 + 1 + 1 + 1) : Nat) < 10) (
.need (((0 : Int) ≤ Int.ofNat 0 ∧ (Int.ofNat 0 : Int) ≤ Int.ofNat (List.length [97, 99, 99, 101, 112, 116]))) (
.need (1 = 1) (
.need ((0 + 1 + 1 + 1 + 1 + 1 + 1 + 1 + 1 + 1 : Nat) ≤ 1000000) (
.need (i64ok (0 + 1 + 1 + 1 + 1 + 1 + 1 + 1 + 1 + 1)) (
.need (((0 : Int) ≤ 0 + 1 + 1 + 1 + 1 + 1 + 1 + 1 + 1 + 1 ∧ (0 + 1 + 1 + 1 + 1 + 1 + 1 + 1 + 1 + 1 : Int) < Int.ofNat 10)) (
.need ((0 + Int.toNat (0 + 1 + 1 + 1 + 1 + 1 + 1 + 1 + 1 + 1) : Nat) < 10) (
.need (((0 : Int) ≤ Int.ofNat 0 ∧ (Int.ofNat 0 : Int) ≤ Int.ofNat (List.length [100, 114, 111, 112]))) (
.need (1 = 1) (
.need ((0 + 1 + 1 + 1 + 1 + 1 + 1 + 1 + 1 + 1 + 1 : Nat) ≤ 1000000) (
.need (i64ok (0 + 1 + 1 + 1 + 1 + 1 + 1 + 1 + 1 + 1 + 1)) (
.need ((10 : Nat) ≤ 1000000) (
.ret (.fin (.c (.bool true)) [])))))))))))))))))))))))))))))))))))))))))))))))))))))))))))))) := by kernel_rfl



theorem mnames_run  (b0 : Base) (hb : b0.n = 0)  : Sym.Runs Try.prog b0 [.code (codeOf Try.f13)] ⟨argsS Try.f13 [], ([] : Heap cod)⟩ (Sym.Ends Try.prog Try.f13 0 (.c (.bool true)) []) := by
  refine Runs.go (cfg := C_mcomp) L_mcomp_ok mixed cuts_mnames 400 hb mnames_t0 ?_
  simp [T.wp, T.wp_cond, Aft, Int.ofNat_eq_natCast, decide_eq_true_eq, and_true, true_and, Nat.zero_add, Bool.not_eq_true', decide_eq_false_iff_not, i64ok]



noncomputable def s_mnames : Summ cod := fun args H => match args, H with
  | [], [] => .ret (.c (.bool true), [])
  | _, _ => .fail


theorem mnames_sound : Sound Try.prog cod 13 s_mnames := sound_runs (cfg := C_mcomp) L_mcomp_ok mixed Try.func13 rfl rfl _ fun args H r news hg b0 hb => by
  unfold s_mnames at hg
  split at hg
  · skip
    cases hg
    exact mnames_run  b0 hb 
  · exact hg.elim

noncomputable def L_mnames : Sums cod := (13, .p s_mnames) :: L_mcomp
noncomputable def C_mnames : Cfg cod := mkC L_mnames

theorem L_mnames_ok : Snd Try.prog cod L_mnames := .cons mnames_sound L_mcomp_ok


end
end Go.Proofs.Ytffcfbamcaoidaa
