/- Part of a claim: lemmas on the way to its theorem; each states its own conditions. -/
import Derived.Test.YtbkpgpkeecnjpaaFa
import Derived.Test.YtbkpgpkeecnjpaaBd25
import Derived.Test.YtbkpgpkeecnjpaaBd26
namespace Go.Proofs.Ytbkpgpkeecnjpaa
open Sym Go.RowKit
noncomputable section
set_option maxRecDepth 100000
set_option maxHeartbeats 4000000



namespace F
def okF (b : Nat) : Prop := ∃ n : Nat, n ≠ 0 ∧ n < 9007199254740992 ∧ b = dbl n
def okZ (b : Nat) : Prop := ∃ n : Nat, n < 9007199254740992 ∧ b = dbl n
end F


def cuts_fabs : Cuts := []

theorem fabs_t0 (b : Nat) : symF C_checkSp cuts_fabs Try.f139.results.toList 0 400 [.code (codeOf Try.f139)] ⟨argsS Try.f139 [.c (.raw (.float .f64 b))], ([] : Heap cod)⟩ =
.ret (.fin (.c (.raw (Value.float FloatKind.f64 (Int.toNat (bits BinOp.andNot IntKind.u64 (Int.ofNat b) 9223372036854775808))))) []) := by kernel_rfl



theorem fabs_run (b : Nat) (b0 : Base) (hb : b0.n = 0) (h0 : F.okF b) : Sym.Runs Try.prog b0 [.code (codeOf Try.f139)] ⟨argsS Try.f139 [.c (.raw (.float .f64 b))], ([] : Heap cod)⟩ (Sym.Ends Try.prog Try.f139 0 (.c (.raw (.float .f64 b))) []) := by
  obtain ⟨n, h1, h2, rfl⟩ := h0
  refine Runs.go (cfg := C_checkSp) L_checkSp_ok mixed cuts_fabs 400 hb (fabs_t0 _) ?_
  simp only [T.wp, T.wp_cond, Aft, Int.ofNat_eq_natCast, decide_eq_true_eq, and_true, true_and, Nat.zero_add, Bool.not_eq_true', decide_eq_false_iff_not, Int.ofNat_eq_natCast, dbl_abs h2, Int.toNat_natCast]



noncomputable def s_fabs : Summ cod := fun args H => match args, H with
  | [.c (.raw (.float .f64 b))], [] => .need ((F.okF b)) (.ret (.c (.raw (.float .f64 b)), []))
  | _, _ => .fail


theorem fabs_sound : Sound Try.prog cod 139 s_fabs := sound_runs (cfg := C_checkSp) L_checkSp_ok mixed Try.func139 rfl rfl _ fun args H r news hg b0 hb => by
  unfold s_fabs at hg
  split at hg
  · skip
    simp only [T.gives, T.wp, Prod.mk.injEq] at hg
    obtain ⟨q0, rfl, rfl⟩ := hg
    exact fabs_run _ b0 hb (by assumption)
  · exact hg.elim

noncomputable def L_fabs : Sums cod := (139, .p s_fabs) :: L_checkSp
noncomputable def C_fabs : Cfg cod := mkC L_fabs

theorem L_fabs_ok : Snd Try.prog cod L_fabs := .cons fabs_sound L_checkSp_ok



def cuts_isnan : Cuts := []

theorem isnan_t0 (b : Nat) : symF C_fabs cuts_isnan Try.f122.results.toList 0 400 [.code (codeOf Try.f122)] ⟨argsS Try.f122 [.c (.raw (.float .f64 b))], ([] : Heap cod)⟩ =
.ret (.fin (.c (.bool (!F.feq FloatKind.f64 b b))) []) := by kernel_rfl



theorem isnan_run (b : Nat) (b0 : Base) (hb : b0.n = 0) (h0 : F.okF b) : Sym.Runs Try.prog b0 [.code (codeOf Try.f122)] ⟨argsS Try.f122 [.c (.raw (.float .f64 b))], ([] : Heap cod)⟩ (Sym.Ends Try.prog Try.f122 0 (.c (.bool false)) []) := by
  obtain ⟨n, h1, h2, rfl⟩ := h0
  refine Runs.go (cfg := C_fabs) L_fabs_ok mixed cuts_isnan 400 hb (isnan_t0 _) ?_
  simp only [T.wp, T.wp_cond, Aft, Int.ofNat_eq_natCast, decide_eq_true_eq, and_true, true_and, Nat.zero_add, Bool.not_eq_true', decide_eq_false_iff_not, feq_self h1 h2]
  rfl



noncomputable def s_isnan : Summ cod := fun args H => match args, H with
  | [.c (.raw (.float .f64 b))], [] => .need ((F.okF b)) (.ret (.c (.bool false), []))
  | _, _ => .fail


theorem isnan_sound : Sound Try.prog cod 122 s_isnan := sound_runs (cfg := C_fabs) L_fabs_ok mixed Try.func122 rfl rfl _ fun args H r news hg b0 hb => by
  unfold s_isnan at hg
  split at hg
  · skip
    simp only [T.gives, T.wp, Prod.mk.injEq] at hg
    obtain ⟨q0, rfl, rfl⟩ := hg
    exact isnan_run _ b0 hb (by assumption)
  · exact hg.elim

noncomputable def L_isnan : Sums cod := (122, .p s_isnan) :: L_fabs
noncomputable def C_isnan : Cfg cod := mkC L_isnan

theorem L_isnan_ok : Snd Try.prog cod L_isnan := .cons isnan_sound L_fabs_ok



def cuts_isinf : Cuts := []

theorem isinf_t0 (b : Nat) : symF C_isnan cuts_isinf Try.f121.results.toList 0 400 [.code (codeOf Try.f121)] ⟨argsS Try.f121 [.c (.raw (.float .f64 b)), .c (.int .i64 0)], ([] : Heap cod)⟩ =
.need (F.okF b) (
.ret (.fin (.c (.bool (F.fgt FloatKind.f64 b 9218868437227405311))) [])) := by kernel_rfl



theorem isinf_run (b : Nat) (b0 : Base) (hb : b0.n = 0) (h0 : F.okF b) : Sym.Runs Try.prog b0 [.code (codeOf Try.f121)] ⟨argsS Try.f121 [.c (.raw (.float .f64 b)), .c (.int .i64 0)], ([] : Heap cod)⟩ (Sym.Ends Try.prog Try.f121 0 (.c (.bool false)) []) := by
  refine Runs.go (cfg := C_isnan) L_isnan_ok mixed cuts_isinf 400 hb (isinf_t0 b) ?_
  have h := h0
  obtain ⟨n, h1, h2, rfl⟩ := h
  simp only [T.wp, T.wp_cond, Aft, Int.ofNat_eq_natCast, decide_eq_true_eq, and_true, true_and, Nat.zero_add, Bool.not_eq_true', decide_eq_false_iff_not, fgt_max h1 h2]
  exact h0



noncomputable def s_isinf : Summ cod := fun args H => match args, H with
  | [.c (.raw (.float .f64 b)), .c (.int .i64 0)], [] => .need ((F.okF b)) (.ret (.c (.bool false), []))
  | _, _ => .fail


theorem isinf_sound : Sound Try.prog cod 121 s_isinf := sound_runs (cfg := C_isnan) L_isnan_ok mixed Try.func121 rfl rfl _ fun args H r news hg b0 hb => by
  unfold s_isinf at hg
  split at hg
  · skip
    simp only [T.gives, T.wp, Prod.mk.injEq] at hg
    obtain ⟨q0, rfl, rfl⟩ := hg
    exact isinf_run _ b0 hb (by assumption)
  · exact hg.elim

noncomputable def L_isinf : Sums cod := (121, .p s_isinf) :: L_isnan
noncomputable def C_isinf : Cfg cod := mkC L_isinf

theorem L_isinf_ok : Snd Try.prog cod L_isinf := .cons isinf_sound L_isnan_ok



def cuts_fnorm : Cuts := []

theorem fnorm_t0 (b : Nat) : symF C_isinf cuts_fnorm Try.f123.results.toList 0 400 [.code (codeOf Try.f123)] ⟨argsS Try.f123 [.c (.raw (.float .f64 b))], ([] : Heap cod)⟩ =
.need (F.okF b) (
 cond (F.flt FloatKind.f64 b 4503599627370496) (
 .need (F.fmulOk FloatKind.f64 b 4841369599423283200) (
 .ret (.fin (.tup [.c (.raw (Value.float FloatKind.f64 (F.fmul FloatKind.f64 b 4841369599423283200))), .c (.int .i64 (-52))]) []))) (
 .ret (.fin (.tup [.c (.raw (Value.float FloatKind.f64 b)), .c (.int .i64 0)]) []))) := by kernel_rfl



theorem fnorm_run (b : Nat) (b0 : Base) (hb : b0.n = 0) (h0 : F.okF b) : Sym.Runs Try.prog b0 [.code (codeOf Try.f123)] ⟨argsS Try.f123 [.c (.raw (.float .f64 b))], ([] : Heap cod)⟩ (Sym.Ends Try.prog Try.f123 0 (.tup [.c (.raw (.float .f64 b)), .c (.int .i64 0)]) []) := by
  refine Runs.go (cfg := C_isinf) L_isinf_ok mixed cuts_fnorm 400 hb (fnorm_t0 b) ?_
  have h := h0
  obtain ⟨n, h1, h2, rfl⟩ := h
  simp only [T.wp, T.wp_cond, Aft, Int.ofNat_eq_natCast, decide_eq_true_eq, and_true, true_and, Nat.zero_add, Bool.not_eq_true', decide_eq_false_iff_not, flt_least h1 h2]
  exact (And.intro h0 (ite_no (by decide) trivial))



noncomputable def s_fnorm : Summ cod := fun args H => match args, H with
  | [.c (.raw (.float .f64 b))], [] => .need ((F.okF b)) (.ret (.tup [.c (.raw (.float .f64 b)), .c (.int .i64 0)], []))
  | _, _ => .fail


theorem fnorm_sound : Sound Try.prog cod 123 s_fnorm := sound_runs (cfg := C_isinf) L_isinf_ok mixed Try.func123 rfl rfl _ fun args H r news hg b0 hb => by
  unfold s_fnorm at hg
  split at hg
  · skip
    simp only [T.gives, T.wp, Prod.mk.injEq] at hg
    obtain ⟨q0, rfl, rfl⟩ := hg
    exact fnorm_run _ b0 hb (by assumption)
  · exact hg.elim

noncomputable def L_fnorm : Sums cod := (123, .p s_fnorm) :: L_isinf
noncomputable def C_fnorm : Cfg cod := mkC L_fnorm

theorem L_fnorm_ok : Snd Try.prog cod L_fnorm := .cons fnorm_sound L_isinf_ok



def cuts_fld : Cuts := []

theorem fld_t0 (k : Int) (b : Nat) : symF C_fnorm cuts_fld Try.f92.results.toList 0 400 [.code (codeOf Try.f92)] ⟨argsS Try.f92 [.c (.raw (.float .f64 b)), .c (.int .i64 k)], ([] : Heap cod)⟩ =
 cond (F.feq FloatKind.f64 b 0) (
 .ret (.fin (.c (.raw (Value.float FloatKind.f64 b))) [])) (
 .need (F.okF b) (
 .need (F.okF b) (
 .need (F.okF b) (
 .need (i64ok (k + 0)) (
 .need ((0 : Int) ≤ 52) (
 .need (i64ok (Int.fdiv (Int.ofNat b) (2 ^ min (Int.toNat 52) 64))) (
 .need (i64ok (bits BinOp.and IntKind.i64 (Int.fdiv (Int.ofNat b) (2 ^ min (Int.toNat 52) 64)) 2047 - 1023)) (
 .need (i64ok (k + 0 + (bits BinOp.and IntKind.i64 (Int.fdiv (Int.ofNat b) (2 ^ min (Int.toNat 52) 64)) 2047 - 1023))) (
 cond (decide (k + 0 + (bits BinOp.and IntKind.i64 (Int.fdiv (Int.ofNat b) (2 ^ min (Int.toNat 52) 64)) 2047 - 1023) < -1075)) (
  .fail) (
  cond (decide (1023 < k + 0 + (bits BinOp.and IntKind.i64 (Int.fdiv (Int.ofNat b) (2 ^ min (Int.toNat 52) 64)) 2047 - 1023))) (
   cond (F.flt FloatKind.f64 b 0) (
    .fail) (
    .fail)) (
   cond (decide (k + 0 + (bits BinOp.and IntKind.i64 (Int.fdiv (Int.ofNat b) (2 ^ min (Int.toNat 52) 64)) 2047 - 1023) < -1022)) (
    .need (i64ok (k + 0 + (bits BinOp.and IntKind.i64 (Int.fdiv (Int.ofNat b) (2 ^ min (Int.toNat 52) 64)) 2047 - 1023) + 53)) (
    .need (i64ok   (k + 0 + (bits BinOp.and IntKind.i64 (Int.fdiv (Int.ofNat b) (2 ^ min (Int.toNat 52) 64)) 2047 - 1023) + 53 + 1023)) (
    .need ((0 : Int) ≤ 52) (
    .need (F.fmulOk FloatKind.f64 4368491638549381120   (Int.toNat     (bits BinOp.or IntKind.u64 (bits BinOp.andNot IntKind.u64 (Int.ofNat b) 9218868437227405312)       (IntKind.wrap IntKind.u64         (IntKind.wrap IntKind.u64             (k + 0 + (bits BinOp.and IntKind.i64 (Int.fdiv (Int.ofNat b) (2 ^ min (Int.toNat 52) 64)) 2047 - 1023) +                 53 +               1023) *           2 ^ min (Int.toNat 52) 64))))) (
    .ret (.fin (.c (.raw (Value.float FloatKind.f64   (F.fmul FloatKind.f64 4368491638549381120     (Int.toNat       (bits BinOp.or IntKind.u64 (bits BinOp.andNot IntKind.u64 (Int.ofNat b) 9218868437227405312)         (IntKind.wrap IntKind.u64           (IntKind.wrap IntKind.u64               (k + 0 + (bits BinOp.and IntKind.i64 (Int.fdiv (Int.ofNat b) (2 ^ min (Int.toNat 52) 64)) 2047 - 1023) +                   53 +                 1023) *             2 ^ min (Int.toNat 52) 64)))))))) [])))))) (
    .need (i64ok (k + 0 + (bits BinOp.and IntKind.i64 (Int.fdiv (Int.ofNat b) (2 ^ min (Int.toNat 52) 64)) 2047 - 1023) + 1023)) (
    .need ((0 : Int) ≤ 52) (
    .need (F.fmulOk FloatKind.f64 4607182418800017408   (Int.toNat     (bits BinOp.or IntKind.u64 (bits BinOp.andNot IntKind.u64 (Int.ofNat b) 9218868437227405312)       (IntKind.wrap IntKind.u64         (IntKind.wrap IntKind.u64             (k + 0 + (bits BinOp.and IntKind.i64 (Int.fdiv (Int.ofNat b) (2 ^ min (Int.toNat 52) 64)) 2047 - 1023) +               1023) *           2 ^ min (Int.toNat 52) 64))))) (
    .ret (.fin (.c (.raw (Value.float FloatKind.f64   (F.fmul FloatKind.f64 4607182418800017408     (Int.toNat       (bits BinOp.or IntKind.u64 (bits BinOp.andNot IntKind.u64 (Int.ofNat b) 9218868437227405312)         (IntKind.wrap IntKind.u64           (IntKind.wrap IntKind.u64               (k + 0 + (bits BinOp.and IntKind.i64 (Int.fdiv (Int.ofNat b) (2 ^ min (Int.toNat 52) 64)) 2047 - 1023) +                 1023) *             2 ^ min (Int.toNat 52) 64)))))))) [])))))))))))))))) := by kernel_rfl



theorem fld_run (k : Int) (b : Nat) (b0 : Base) (hb : b0.n = 0) (h0 : F.okZ b) (h1 : k = 0) : Sym.Runs Try.prog b0 [.code (codeOf Try.f92)] ⟨argsS Try.f92 [.c (.raw (.float .f64 b)), .c (.int .i64 k)], ([] : Heap cod)⟩ (Sym.Ends Try.prog Try.f92 0 (.c (.raw (.float .f64 b))) []) := by
  refine Runs.go (cfg := C_fnorm) L_fnorm_ok mixed cuts_fld 400 hb (fld_t0 k b) ?_
  obtain ⟨n, h2, rfl⟩ := h0
  subst h1
  by_cases hn : n = 0
  · subst hn
    simp only [T.wp, T.wp_cond, Aft, Int.ofNat_eq_natCast, decide_eq_true_eq, and_true, true_and, Nat.zero_add, Bool.not_eq_true', decide_eq_false_iff_not]
    exact ite_yes feq_zz trivial
  · obtain ⟨e, he, hx, hy⟩ := dbl_parts hn h2
    have hx' : ((F.dbl n : Nat) : Int).fdiv (2 ^ min (Int.toNat 52) 64) = (e : Int) + 1023 := hx
    have hm : bits .and .i64 ((e : Int) + 1023) 2047 = (e : Int) + 1023 := exp_mask ⟨e, by omega⟩
    have hk : (0 : Int) + 0 + ((e : Int) + 1023 - 1023) = e := by omega
    have hw : IntKind.u64.wrap ((e : Int) + 1023) = (e : Int) + 1023 := by
      rw [IntKind.wrap_u64]
      omega
    have hy' : bits .or .u64 (bits .andNot .u64 ((F.dbl n : Nat) : Int) 9218868437227405312) (IntKind.u64.wrap (((e : Int) + 1023) * 2 ^ min (Int.toNat 52) 64)) = ((F.dbl n : Nat) : Int) := hy
    have ok : F.okF (F.dbl n) := ⟨n, hn, h2, rfl⟩
    obtain ⟨m1, m2⟩ := fmul_one hn h2
    simp only [T.wp, T.wp_cond, Aft, Int.ofNat_eq_natCast, decide_eq_true_eq, and_true, true_and, Nat.zero_add, Bool.not_eq_true', decide_eq_false_iff_not, Int.ofNat_eq_natCast, feq_zero hn h2, hx', hm, hk, hw, hy', Int.toNat_natCast, m2]
    have z1 : ¬ (e : Int) < -1075 := by omega
    have z2 : ¬ 1023 < (e : Int) := by omega
    have z3 : ¬ (e : Int) < -1022 := by omega
    have z : i64ok (0 + 0) := by unfold i64ok; omega
    refine ite_no (by decide) (And.intro ok (And.intro ok (And.intro ok (And.intro z (And.intro (by decide) (And.intro (by unfold i64ok; omega) (And.intro (by unfold i64ok; omega) (And.intro (by unfold i64ok; omega) ?_))))))))
    exact ite_no z1 (ite_no z2 (ite_no z3 (And.intro (by unfold i64ok; omega) (And.intro (by decide) m1))))



noncomputable def s_fld : Summ cod := fun args H => match args, H with
  | [.c (.raw (.float .f64 b)), .c (.int .i64 k)], [] => .need ((F.okZ b) ∧ (k = 0)) (.ret (.c (.raw (.float .f64 b)), []))
  | _, _ => .fail


theorem fld_sound : Sound Try.prog cod 92 s_fld := sound_runs (cfg := C_fnorm) L_fnorm_ok mixed Try.func92 rfl rfl _ fun args H r news hg b0 hb => by
  unfold s_fld at hg
  split at hg
  · skip
    simp only [T.gives, T.wp, Prod.mk.injEq] at hg
    obtain ⟨⟨q0, q1⟩, rfl, rfl⟩ := hg
    exact fld_run _ _ b0 hb (by assumption) (by assumption)
  · exact hg.elim

noncomputable def L_fld : Sums cod := (92, .p s_fld) :: L_fnorm
noncomputable def C_fld : Cfg cod := mkC L_fld

theorem L_fld_ok : Snd Try.prog cod L_fld := .cons fld_sound L_fnorm_ok



def cuts_fLd : Cuts := []

theorem fLd_t0 (k : Int) (b : Nat) : symF C_fld cuts_fLd Try.f72.results.toList 0 400 [.code (codeOf Try.f72)] ⟨argsS Try.f72 [.c (.raw (.float .f64 b)), .c (.int .i64 k)], ([] : Heap cod)⟩ =
.need ((F.okZ b ∧ k = 0)) (
.ret (.fin (.c (.raw (Value.float FloatKind.f64 b))) [])) := by kernel_rfl



theorem fLd_run (k : Int) (b : Nat) (b0 : Base) (hb : b0.n = 0) (h0 : F.okZ b) (h1 : k = 0) : Sym.Runs Try.prog b0 [.code (codeOf Try.f72)] ⟨argsS Try.f72 [.c (.raw (.float .f64 b)), .c (.int .i64 k)], ([] : Heap cod)⟩ (Sym.Ends Try.prog Try.f72 0 (.c (.raw (.float .f64 b))) []) := by
  refine Runs.go (cfg := C_fld) L_fld_ok mixed cuts_fLd 400 hb (fLd_t0 k b) ?_
  simp only [T.wp, T.wp_cond, Aft, Int.ofNat_eq_natCast, decide_eq_true_eq, and_true, true_and, Nat.zero_add, Bool.not_eq_true', decide_eq_false_iff_not]
  exact And.intro h0 h1



noncomputable def s_fLd : Summ cod := fun args H => match args, H with
  | [.c (.raw (.float .f64 b)), .c (.int .i64 k)], [] => .need ((F.okZ b) ∧ (k = 0)) (.ret (.c (.raw (.float .f64 b)), []))
  | _, _ => .fail


theorem fLd_sound : Sound Try.prog cod 72 s_fLd := sound_runs (cfg := C_fld) L_fld_ok mixed Try.func72 rfl rfl _ fun args H r news hg b0 hb => by
  unfold s_fLd at hg
  split at hg
  · skip
    simp only [T.gives, T.wp, Prod.mk.injEq] at hg
    obtain ⟨⟨q0, q1⟩, rfl, rfl⟩ := hg
    exact fLd_run _ _ b0 hb (by assumption) (by assumption)
  · exact hg.elim

noncomputable def L_fLd : Sums cod := (72, .p s_fLd) :: L_fld
noncomputable def C_fLd : Cfg cod := mkC L_fLd

theorem L_fLd_ok : Snd Try.prog cod L_fLd := .cons fLd_sound L_fld_ok



def cuts_fromF : Cuts := []

theorem fromF_t0 (n : Int) (k : Int) : symF C_fLd cuts_fromF Try.f44.results.toList 0 400 [.code (codeOf Try.f44)] ⟨argsS Try.f44 [.c (.int .i64 n), .c (.int .i64 k)], ([] : Heap cod)⟩ =
 cond (decide (k < 0)) (
 .ret (.fin (.tup [.c (.int .u64 0), .c (.int .i64 4)]) [])) (
 cond (decide (60 < k)) (
  .ret (.fin (.tup [.c (.int .u64 0), .c (.int .i64 4)]) [])) (
  .need (i64ok (-k)) (
  .need ((F.okZ (F.i2f FloatKind.f64 n) ∧ -k = 0)) (
  .ret (.fin (.tup [.c (.int .u64 (Int.ofNat (F.i2f FloatKind.f64 n))), .c (.int .i64 0)]) []))))) := by kernel_rfl



theorem fromF_run (n : Int) (k : Int) (b0 : Base) (hb : b0.n = 0) (h0 : 0 ≤ n ∧ n ≤ 2000000) (h1 : k = 0) : Sym.Runs Try.prog b0 [.code (codeOf Try.f44)] ⟨argsS Try.f44 [.c (.int .i64 n), .c (.int .i64 k)], ([] : Heap cod)⟩ (Sym.Ends Try.prog Try.f44 0 (.tup [.c (.int .u64 (F.i2f .f64 n : Nat)), .c (.int .i64 0)]) []) := by
  refine Runs.go (cfg := C_fLd) L_fLd_ok mixed cuts_fromF 400 hb (fromF_t0 n k) ?_
  subst h1
  have ok : F.okZ (F.i2f .f64 n) := by
    refine ⟨n.toNat, by omega, ?_⟩
    rw [← i2f_nat (n := n.toNat) (by omega), show ((n.toNat : Nat) : Int) = n by omega]
  simp only [T.wp, T.wp_cond, Aft, Int.ofNat_eq_natCast, decide_eq_true_eq, and_true, true_and, Nat.zero_add, Bool.not_eq_true', decide_eq_false_iff_not]
  exact ite_no (by decide) (ite_no (by decide) (And.intro (by unfold i64ok; omega) (And.intro ok (by decide))))



noncomputable def s_fromF : Summ cod := fun args H => match args, H with
  | [.c (.int .i64 n), .c (.int .i64 k)], [] => .need ((0 ≤ n ∧ n ≤ 2000000) ∧ (k = 0)) (.ret (.tup [.c (.int .u64 (F.i2f .f64 n : Nat)), .c (.int .i64 0)], []))
  | _, _ => .fail


theorem fromF_sound : Sound Try.prog cod 44 s_fromF := sound_runs (cfg := C_fLd) L_fLd_ok mixed Try.func44 rfl rfl _ fun args H r news hg b0 hb => by
  unfold s_fromF at hg
  split at hg
  · skip
    simp only [T.gives, T.wp, Prod.mk.injEq] at hg
    obtain ⟨⟨q0, q1⟩, rfl, rfl⟩ := hg
    exact fromF_run _ _ b0 hb (by assumption) (by assumption)
  · exact hg.elim

noncomputable def L_fromF : Sums cod := (44, .p s_fromF) :: L_fLd
noncomputable def C_fromF : Cfg cod := mkC L_fromF

theorem L_fromF_ok : Snd Try.prog cod L_fromF := .cons fromF_sound L_fLd_ok


end
end Go.Proofs.Ytbkpgpkeecnjpaa
