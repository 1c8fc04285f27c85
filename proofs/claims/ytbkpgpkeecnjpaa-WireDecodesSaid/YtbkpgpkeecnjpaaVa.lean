/- Part of a claim: lemmas on the way to its theorem; each states its own conditions. -/
import Derived.Test.YtbkpgpkeecnjpaaBd36
import Derived.Test.YtbkpgpkeecnjpaaBd38
namespace Go.Proofs.Ytbkpgpkeecnjpaa
open Sym Go.RowKit
noncomputable section
set_option maxRecDepth 100000
set_option maxHeartbeats 4000000



namespace F
def numA (s : List UInt8) : Nat → Int
  | 0 => 0
  | k + 1 => numA s k * 256 + ((s.getD k 0).toNat : Int)
def num (s : List UInt8) : Int := numA s s.length
def tfE (b : Int) : Int := b / 4503599627370496 % 2048
def tfF (b : Int) : Int := b % 4503599627370496
end F


theorem numA_bd (s : List UInt8) : ∀ k : Nat, 0 ≤ F.numA s k ∧ F.numA s k < 256 ^ k
  | 0 => ⟨Int.le_refl 0, by show (0 : Int) < 256 ^ 0; decide⟩
  | k + 1 => by
    have := numA_bd s k
    have hp : F.numA s (k + 1) = F.numA s k * 256 + ((s.getD k 0).toNat : Int) := rfl
    have hc := (s.getD k 0).toNat_lt
    rw [hp, Int.pow_succ]
    omega
theorem pow256 {k : Nat} (h : k ≤ 8) : (256 : Int) ^ k ≤ 18446744073709551616 := by
  have : ∀ j : Fin 9, (256 : Int) ^ j.val ≤ 18446744073709551616 := by decide
  exact this ⟨k, by omega⟩
theorem pow256' {k : Nat} (h : k ≤ 7) : (256 : Int) ^ k ≤ 72057594037927936 := by
  have : ∀ j : Fin 8, (256 : Int) ^ j.val ≤ 72057594037927936 := by decide
  exact this ⟨k, by omega⟩
theorem pow6 {k : Nat} (h : k ≤ 6) : (256 : Int) ^ k ≤ 281474976710656 := by
  have : ∀ j : Fin 7, (256 : Int) ^ j.val ≤ 281474976710656 := by decide
  exact this ⟨k, by omega⟩
theorem shl_or {n : Int} {c : Nat} (h0 : 0 ≤ n) (h1 : n < 72057594037927936) (hc : c < 256) : bits .or .u64 (IntKind.wrap .u64 (n * 2 ^ min (Int.toNat 8) 64)) (IntKind.wrap .u64 (c : Int)) = n * 256 + c := by
  obtain ⟨m, rfl⟩ := Int.eq_ofNat_of_zero_le h0
  have e : (2 : Int) ^ min (Int.toNat 8) 64 = 256 := by decide
  rw [e, IntKind.wrap_u64, IntKind.wrap_u64, show ((m : Int) * 256) % 18446744073709551616 = ((m * 256 : Nat) : Int) by omega, show (c : Int) % 18446744073709551616 = ((c : Nat) : Int) by omega, u64_or_nat _ _ (by omega) (by omega), nat_join 8 _ _ (by omega) hc]
  omega
theorem and_exp {b : Int} (h0 : 0 ≤ b) (h1 : b < 18446744073709551616) : bits .and .u64 (Int.fdiv b (2 ^ min (Int.toNat 52) 64)) 2047 = F.tfE b := by
  obtain ⟨m, rfl⟩ := Int.eq_ofNat_of_zero_le h0
  have e : (2 : Int) ^ min (Int.toNat 52) 64 = 4503599627370496 := by decide
  have a := u64_and_nat (m / 4503599627370496) 2047 (by omega) (by decide)
  rw [show ((2047 : Nat) : Int) = 2047 from rfl] at a
  rw [e, Int.fdiv_eq_ediv_of_nonneg _ (by decide), show ((m : Int) / 4503599627370496) = ((m / 4503599627370496 : Nat) : Int) by omega, a, nat_mask11]
  unfold F.tfE
  omega
theorem and_fra {b : Int} (h0 : 0 ≤ b) (h1 : b < 18446744073709551616) : bits .and .u64 b 4503599627370495 = F.tfF b := by
  obtain ⟨m, rfl⟩ := Int.eq_ofNat_of_zero_le h0
  have a := u64_and_nat m 4503599627370495 (by omega) (by decide)
  rw [show ((4503599627370495 : Nat) : Int) = 4503599627370495 from rfl] at a
  rw [a, show 4503599627370495 = 2 ^ 52 - 1 by decide, Nat.and_two_pow_sub_one_eq_mod]
  unfold F.tfF
  omega


def cuts_wget : Cuts := [(3, [0, 6, 7, 3], 0)]

theorem wget_t0 (s : List UInt8) : symF C_welaw cuts_wget Try.f49.results.toList 0 400 [.code (codeOf Try.f49)] ⟨argsS Try.f49 [.c (.str s)], ([] : Heap cod)⟩ =
.ret (.cut (cutAt Try.f49 3) ⟨tmG 11 [(0, .c (.str s)), (2, .c (.int .u64 0)), (2, .c (.int .i64 (Int.ofNat (List.length s)))), (0, .c (.int .i64 0))], []⟩) := by kernel_rfl


noncomputable def st_wget_3 (s : List UInt8) (i n : Int) : St cod := ⟨tmG 11 [(0, .c (.str s)), (2, .c (.int .u64 n)), (2, .c (.int .i64 (Int.ofNat (List.length s)))), (0, .c (.int .i64 i))], []⟩


theorem wget_t3 (s : List UInt8) (i n : Int) : symF C_welaw cuts_wget Try.f49.results.toList 0 400 (cutAt Try.f49 3) (st_wget_3 s i n) =
 cond (decide (i < Int.ofNat (List.length s))) (
 .need ((0 : Int) ≤ 8) (
 .need (((0 : Int) ≤ i ∧ i < Int.ofNat (List.length s))) (
 .need (Sym.i64ok (i + 1)) (
 .ret (.cut (cutAt Try.f49 3) ⟨tmG 11 [(0, .c (.str s)), (2, .c (.int .u64 (bits BinOp.or IntKind.u64 (IntKind.wrap IntKind.u64 (n * 2 ^ min (Int.toNat 8) 64))   (IntKind.wrap IntKind.u64 (Int.ofNat (UInt8.toNat (List.getD s (Int.toNat i) 0))))))), (2, .c (.int .i64 (Int.ofNat (List.length s)))), (0, .c (.int .i64 (i + 1)))], []⟩))))) (
 .ret (.fin (.c (.int .u64 n)) [])) := by kernel_rfl



theorem wget_run (s : List UInt8) (b0 : Base) (hb : b0.n = 0) (h0 : s.length ≤ 8) : Sym.Runs Try.prog b0 [.code (codeOf Try.f49)] ⟨argsS Try.f49 [.c (.str s)], ([] : Heap cod)⟩ (Sym.Ends Try.prog Try.f49 0 (.c (.int .u64 (F.num s))) []) := by
  have key : ∀ (m k : Nat), k + m = s.length →
      Sym.Runs Try.prog b0 (cutAt Try.f49 3) (st_wget_3 s (k : Int) (F.numA s k)) (Sym.Ends Try.prog Try.f49 0 (.c (.int .u64 (F.num s))) []) := by
    intro m
    induction m with
    | zero =>
      intro k hk
      refine Runs.go (cfg := C_welaw) L_welaw_ok mixed cuts_wget 400 hb (wget_t3 s (k : Int) _) ?_
      have h1 : ¬ (k : Int) < (s.length : Int) := by omega
      have ek : k = s.length := by omega
      simp only [T.wp, T.wp_cond, Aft, Int.ofNat_eq_natCast, decide_eq_true_eq, and_true, true_and, Nat.zero_add, Bool.not_eq_true', decide_eq_false_iff_not]
      refine ite_no h1 ?_
      rw [F.num, ← ek]
    | succ m ih =>
      intro k hk
      refine Runs.go (cfg := C_welaw) L_welaw_ok mixed cuts_wget 400 hb (wget_t3 s (k : Int) _) ?_
      have h1 : (k : Int) < (s.length : Int) := by omega
      have nb := numA_bd s k
      have p7 := pow256' (k := k) (by omega)
      have hc := (s.getD k 0).toNat_lt
      have hp : F.numA s (k + 1) = F.numA s k * 256 + ((s.getD k 0).toNat : Int) := rfl
      have nx := ih (k + 1) (by omega)
      rw [hp] at nx
      simp only [T.wp, T.wp_cond, Aft, Int.ofNat_eq_natCast, decide_eq_true_eq, and_true, true_and, Nat.zero_add, Bool.not_eq_true', decide_eq_false_iff_not, Int.toNat_natCast]
      rw [shl_or nb.1 (by omega) hc]
      exact ite_yes h1 ⟨by decide, ⟨by omega, h1⟩, by unfold Sym.i64ok; omega, nx⟩
  refine Runs.go (cfg := C_welaw) L_welaw_ok mixed cuts_wget 400 hb (wget_t0 s) ?_
  simp only [T.wp, T.wp_cond, Aft, Int.ofNat_eq_natCast, decide_eq_true_eq, and_true, true_and, Nat.zero_add, Bool.not_eq_true', decide_eq_false_iff_not]
  exact key s.length 0 (by omega)



noncomputable def s_wget : Summ cod := fun args H => match args, H with
  | [.c (.str s)], [] => .need ((s.length ≤ 8)) (.ret (.c (.int .u64 (F.num s)), []))
  | _, _ => .fail


theorem wget_sound : Sound Try.prog cod 49 s_wget := sound_runs (cfg := C_welaw) L_welaw_ok mixed Try.func49 rfl rfl _ fun args H r news hg b0 hb => by
  unfold s_wget at hg
  split at hg
  · skip
    simp only [T.gives, T.wp, Prod.mk.injEq] at hg
    obtain ⟨q0, rfl, rfl⟩ := hg
    exact wget_run _ b0 hb (by assumption)
  · exact hg.elim

noncomputable def L_wget : Sums cod := (49, .p s_wget) :: L_welaw
noncomputable def C_wget : Cfg cod := mkC L_wget

theorem L_wget_ok : Snd Try.prog cod L_wget := .cons wget_sound L_welaw_ok



def cuts_wnum : Cuts := [(3, [0, 6, 7, 3], 0)]

theorem wnum_t0 (s : List UInt8) : symF C_wget cuts_wnum Try.f51.results.toList 0 400 [.code (codeOf Try.f51)] ⟨argsS Try.f51 [.c (.str s)], ([] : Heap cod)⟩ =
.ret (.cut (cutAt Try.f51 3) ⟨tmG 11 [(0, .c (.str s)), (2, .c (.int .i64 0)), (2, .c (.int .i64 (Int.ofNat (List.length s)))), (0, .c (.int .i64 0))], []⟩) := by kernel_rfl


noncomputable def st_wnum_3 (s : List UInt8) (i n : Int) : St cod := ⟨tmG 11 [(0, .c (.str s)), (2, .c (.int .i64 n)), (2, .c (.int .i64 (Int.ofNat (List.length s)))), (0, .c (.int .i64 i))], []⟩


theorem wnum_t3 (s : List UInt8) (i n : Int) : symF C_wget cuts_wnum Try.f51.results.toList 0 400 (cutAt Try.f51 3) (st_wnum_3 s i n) =
 cond (decide (i < Int.ofNat (List.length s))) (
 .need (Sym.i64ok (n * 256)) (
 .need (((0 : Int) ≤ i ∧ i < Int.ofNat (List.length s))) (
 .need (Sym.i64ok (Int.ofNat (UInt8.toNat (List.getD s (Int.toNat i) 0)))) (
 .need (Sym.i64ok (n * 256 + Int.ofNat (UInt8.toNat (List.getD s (Int.toNat i) 0)))) (
 .need (Sym.i64ok (i + 1)) (
 .ret (.cut (cutAt Try.f51 3) ⟨tmG 11 [(0, .c (.str s)), (2, .c (.int .i64 (n * 256 + Int.ofNat (UInt8.toNat (List.getD s (Int.toNat i) 0))))), (2, .c (.int .i64 (Int.ofNat (List.length s)))), (0, .c (.int .i64 (i + 1)))], []⟩))))))) (
 .ret (.fin (.c (.int .i64 n)) [])) := by kernel_rfl



theorem wnum_run (s : List UInt8) (b0 : Base) (hb : b0.n = 0) (h0 : s.length ≤ 7) : Sym.Runs Try.prog b0 [.code (codeOf Try.f51)] ⟨argsS Try.f51 [.c (.str s)], ([] : Heap cod)⟩ (Sym.Ends Try.prog Try.f51 0 (.c (.int .i64 (F.num s))) []) := by
  have key : ∀ (m k : Nat), k + m = s.length →
      Sym.Runs Try.prog b0 (cutAt Try.f51 3) (st_wnum_3 s (k : Int) (F.numA s k)) (Sym.Ends Try.prog Try.f51 0 (.c (.int .i64 (F.num s))) []) := by
    intro m
    induction m with
    | zero =>
      intro k hk
      refine Runs.go (cfg := C_wget) L_wget_ok mixed cuts_wnum 400 hb (wnum_t3 s (k : Int) _) ?_
      have h1 : ¬ (k : Int) < (s.length : Int) := by omega
      have ek : k = s.length := by omega
      simp only [T.wp, T.wp_cond, Aft, Int.ofNat_eq_natCast, decide_eq_true_eq, and_true, true_and, Nat.zero_add, Bool.not_eq_true', decide_eq_false_iff_not]
      refine ite_no h1 ?_
      rw [F.num, ← ek]
    | succ m ih =>
      intro k hk
      refine Runs.go (cfg := C_wget) L_wget_ok mixed cuts_wnum 400 hb (wnum_t3 s (k : Int) _) ?_
      have h1 : (k : Int) < (s.length : Int) := by omega
      have nb := numA_bd s k
      have p7 := pow6 (k := k) (by omega)
      have hc := (s.getD k 0).toNat_lt
      have hp : F.numA s (k + 1) = F.numA s k * 256 + ((s.getD k 0).toNat : Int) := rfl
      have nx := ih (k + 1) (by omega)
      rw [hp] at nx
      simp only [T.wp, T.wp_cond, Aft, Int.ofNat_eq_natCast, decide_eq_true_eq, and_true, true_and, Nat.zero_add, Bool.not_eq_true', decide_eq_false_iff_not, Int.toNat_natCast]
      exact ite_yes h1 ⟨by unfold Sym.i64ok; omega, ⟨by omega, h1⟩, by unfold Sym.i64ok; omega, by unfold Sym.i64ok; omega, by unfold Sym.i64ok; omega, nx⟩
  refine Runs.go (cfg := C_wget) L_wget_ok mixed cuts_wnum 400 hb (wnum_t0 s) ?_
  simp only [T.wp, T.wp_cond, Aft, Int.ofNat_eq_natCast, decide_eq_true_eq, and_true, true_and, Nat.zero_add, Bool.not_eq_true', decide_eq_false_iff_not]
  exact key s.length 0 (by omega)



noncomputable def s_wnum : Summ cod := fun args H => match args, H with
  | [.c (.str s)], [] => .need ((s.length ≤ 7)) (.ret (.c (.int .i64 (F.num s)), []))
  | _, _ => .fail


theorem wnum_sound : Sound Try.prog cod 51 s_wnum := sound_runs (cfg := C_wget) L_wget_ok mixed Try.func51 rfl rfl _ fun args H r news hg b0 hb => by
  unfold s_wnum at hg
  split at hg
  · skip
    simp only [T.gives, T.wp, Prod.mk.injEq] at hg
    obtain ⟨q0, rfl, rfl⟩ := hg
    exact wnum_run _ b0 hb (by assumption)
  · exact hg.elim

noncomputable def L_wnum : Sums cod := (51, .p s_wnum) :: L_wget
noncomputable def C_wnum : Cfg cod := mkC L_wnum

theorem L_wnum_ok : Snd Try.prog cod L_wnum := .cons wnum_sound L_wget_ok



def cuts_texp : Cuts := []

theorem texp_t0 (b : Int) : symF C_wnum cuts_texp Try.f74.results.toList 0 400 [.code (codeOf Try.f74)] ⟨argsS Try.f74 [.c (.int .u64 b)], ([] : Heap cod)⟩ =
.need ((0 : Int) ≤ 52) (
.need (Sym.i64ok (bits BinOp.and IntKind.u64 (Int.fdiv b (2 ^ min (Int.toNat 52) 64)) 2047)) (
.ret (.fin (.c (.int .i64 (bits BinOp.and IntKind.u64 (Int.fdiv b (2 ^ min (Int.toNat 52) 64)) 2047))) []))) := by kernel_rfl



theorem texp_run (b : Int) (b0 : Base) (hb : b0.n = 0) (h0 : 0 ≤ b ∧ b < 18446744073709551616) : Sym.Runs Try.prog b0 [.code (codeOf Try.f74)] ⟨argsS Try.f74 [.c (.int .u64 b)], ([] : Heap cod)⟩ (Sym.Ends Try.prog Try.f74 0 (.c (.int .i64 (F.tfE b))) []) := by
  refine Runs.go (cfg := C_wnum) L_wnum_ok mixed cuts_texp 400 hb (texp_t0 b) ?_
  simp only [T.wp, T.wp_cond, Aft, Int.ofNat_eq_natCast, decide_eq_true_eq, and_true, true_and, Nat.zero_add, Bool.not_eq_true', decide_eq_false_iff_not]
  rw [and_exp h0.1 h0.2]
  have : 0 ≤ F.tfE b ∧ F.tfE b < 2048 := by unfold F.tfE; omega
  exact ⟨by decide, by unfold Sym.i64ok; omega, rfl⟩



noncomputable def s_texp : Summ cod := fun args H => match args, H with
  | [.c (.int .u64 b)], [] => .need ((0 ≤ b ∧ b < 18446744073709551616)) (.ret (.c (.int .i64 (F.tfE b)), []))
  | _, _ => .fail


theorem texp_sound : Sound Try.prog cod 74 s_texp := sound_runs (cfg := C_wnum) L_wnum_ok mixed Try.func74 rfl rfl _ fun args H r news hg b0 hb => by
  unfold s_texp at hg
  split at hg
  · skip
    simp only [T.gives, T.wp, Prod.mk.injEq] at hg
    obtain ⟨q0, rfl, rfl⟩ := hg
    exact texp_run _ b0 hb (by assumption)
  · exact hg.elim

noncomputable def L_texp : Sums cod := (74, .p s_texp) :: L_wnum
noncomputable def C_texp : Cfg cod := mkC L_texp

theorem L_texp_ok : Snd Try.prog cod L_texp := .cons texp_sound L_wnum_ok



def cuts_tfra : Cuts := []

theorem tfra_t0 (b : Int) : symF C_texp cuts_tfra Try.f75.results.toList 0 400 [.code (codeOf Try.f75)] ⟨argsS Try.f75 [.c (.int .u64 b)], ([] : Heap cod)⟩ =
.ret (.fin (.c (.int .u64 (bits BinOp.and IntKind.u64 b 4503599627370495))) []) := by kernel_rfl



theorem tfra_run (b : Int) (b0 : Base) (hb : b0.n = 0) (h0 : 0 ≤ b ∧ b < 18446744073709551616) : Sym.Runs Try.prog b0 [.code (codeOf Try.f75)] ⟨argsS Try.f75 [.c (.int .u64 b)], ([] : Heap cod)⟩ (Sym.Ends Try.prog Try.f75 0 (.c (.int .u64 (F.tfF b))) []) := by
  refine Runs.go (cfg := C_texp) L_texp_ok mixed cuts_tfra 400 hb (tfra_t0 b) ?_
  simp only [T.wp, T.wp_cond, Aft, Int.ofNat_eq_natCast, decide_eq_true_eq, and_true, true_and, Nat.zero_add, Bool.not_eq_true', decide_eq_false_iff_not]
  rw [and_fra h0.1 h0.2]



noncomputable def s_tfra : Summ cod := fun args H => match args, H with
  | [.c (.int .u64 b)], [] => .need ((0 ≤ b ∧ b < 18446744073709551616)) (.ret (.c (.int .u64 (F.tfF b)), []))
  | _, _ => .fail


theorem tfra_sound : Sound Try.prog cod 75 s_tfra := sound_runs (cfg := C_texp) L_texp_ok mixed Try.func75 rfl rfl _ fun args H r news hg b0 hb => by
  unfold s_tfra at hg
  split at hg
  · skip
    simp only [T.gives, T.wp, Prod.mk.injEq] at hg
    obtain ⟨q0, rfl, rfl⟩ := hg
    exact tfra_run _ b0 hb (by assumption)
  · exact hg.elim

noncomputable def L_tfra : Sums cod := (75, .p s_tfra) :: L_texp
noncomputable def C_tfra : Cfg cod := mkC L_tfra

theorem L_tfra_ok : Snd Try.prog cod L_tfra := .cons tfra_sound L_texp_ok



def cuts_tlen : Cuts := []

theorem tlen_t0 (b : Int) : symF C_tfra cuts_tlen Try.f76.results.toList 0 400 [.code (codeOf Try.f76)] ⟨argsS Try.f76 [.c (.int .u64 b)], ([] : Heap cod)⟩ =
 cond (decide (4294967296 ≤ b)) (
 .need ((0 : Int) ≤ 32) (
 cond (decide (65536 ≤ Int.fdiv b (2 ^ min (Int.toNat 32) 64))) (
  .need ((0 : Int) ≤ 16) (
  .need (Sym.i64ok (32 + 16)) (
  cond (decide (256 ≤ Int.fdiv (Int.fdiv b (2 ^ min (Int.toNat 32) 64)) (2 ^ min (Int.toNat 16) 64))) (
   .need ((0 : Int) ≤ 8) (
   .need (Sym.i64ok (32 + 16 + 8)) (
   .need (((0 : Int) ≤ IntKind.wrap IntKind.u8   (Int.fdiv (Int.fdiv (Int.fdiv b (2 ^ min (Int.toNat 32) 64)) (2 ^ min (Int.toNat 16) 64)) (2 ^ min (Int.toNat 8) 64)) ∧ IntKind.wrap IntKind.u8     (Int.fdiv (Int.fdiv (Int.fdiv b (2 ^ min (Int.toNat 32) 64)) (2 ^ min (Int.toNat 16) 64))       (2 ^ min (Int.toNat 8) 64)) <   Int.ofNat 256)) (
   .need (Sym.i64ok   (Int.ofNat     (UInt8.toNat       (List.getD         [0, 1, 2, 2, 3, 3, 3, 3, 4, 4, 4, 4, 4, 4, 4, 4, 5, 5, 5, 5, 5, 5, 5, 5, 5, 5, 5, 5, 5, 5, 5, 5, 6, 6, 6, 6, 6,           6, 6, 6, 6, 6, 6, 6, 6, 6, 6, 6, 6, 6, 6, 6, 6, 6, 6, 6, 6, 6, 6, 6, 6, 6, 6, 6, 7, 7, 7, 7, 7, 7, 7, 7, 7, 7,           7, 7, 7, 7, 7, 7, 7, 7, 7, 7, 7, 7, 7, 7, 7, 7, 7, 7, 7, 7, 7, 7, 7, 7, 7, 7, 7, 7, 7, 7, 7, 7, 7, 7, 7, 7, 7,           7, 7, 7, 7, 7, 7, 7, 7, 7, 7, 7, 7, 7, 7, 7, 7, 7, 8, 8, 8, 8, 8, 8, 8, 8, 8, 8, 8, 8, 8, 8, 8, 8, 8, 8, 8, 8,           8, 8, 8, 8, 8, 8, 8, 8, 8, 8, 8, 8, 8, 8, 8, 8, 8, 8, 8, 8, 8, 8, 8, 8, 8, 8, 8, 8, 8, 8, 8, 8, 8, 8, 8, 8, 8,           8, 8, 8, 8, 8, 8, 8, 8, 8, 8, 8, 8, 8, 8, 8, 8, 8, 8, 8, 8, 8, 8, 8, 8, 8, 8, 8, 8, 8, 8, 8, 8, 8, 8, 8, 8, 8,           8, 8, 8, 8, 8, 8, 8, 8, 8, 8, 8, 8, 8, 8, 8, 8, 8, 8, 8, 8, 8, 8, 8, 8, 8, 8, 8, 8, 8, 8, 8, 8, 8, 8]         (Int.toNat           (IntKind.wrap IntKind.u8             (Int.fdiv (Int.fdiv (Int.fdiv b (2 ^ min (Int.toNat 32) 64)) (2 ^ min (Int.toNat 16) 64))               (2 ^ min (Int.toNat 8) 64))))         0)))) (
   .need (Sym.i64ok   (32 + 16 + 8 +     Int.ofNat       (UInt8.toNat         (List.getD           [0, 1, 2, 2, 3, 3, 3, 3, 4, 4, 4, 4, 4, 4, 4, 4, 5, 5, 5, 5, 5, 5, 5, 5, 5, 5, 5, 5, 5, 5, 5, 5, 6, 6, 6, 6,             6, 6, 6, 6, 6, 6, 6, 6, 6, 6, 6, 6, 6, 6, 6, 6, 6, 6, 6, 6, 6, 6, 6, 6, 6, 6, 6, 6, 7, 7, 7, 7, 7, 7, 7, 7,             7, 7, 7, 7, 7, 7, 7, 7, 7, 7, 7, 7, 7, 7, 7, 7, 7, 7, 7, 7, 7, 7, 7, 7, 7, 7, 7, 7, 7, 7, 7, 7, 7, 7, 7, 7,             7, 7, 7, 7, 7, 7, 7, 7, 7, 7, 7, 7, 7, 7, 7, 7, 7, 7, 7, 7, 8, 8, 8, 8, 8, 8, 8, 8, 8, 8, 8, 8, 8, 8, 8, 8,             8, 8, 8, 8, 8, 8, 8, 8, 8, 8, 8, 8, 8, 8, 8, 8, 8, 8, 8, 8, 8, 8, 8, 8, 8, 8, 8, 8, 8, 8, 8, 8, 8, 8, 8, 8,             8, 8, 8, 8, 8, 8, 8, 8, 8, 8, 8, 8, 8, 8, 8, 8, 8, 8, 8, 8, 8, 8, 8, 8, 8, 8, 8, 8, 8, 8, 8, 8, 8, 8, 8, 8,             8, 8, 8, 8, 8, 8, 8, 8, 8, 8, 8, 8, 8, 8, 8, 8, 8, 8, 8, 8, 8, 8, 8, 8, 8, 8, 8, 8, 8, 8, 8, 8, 8, 8, 8, 8,             8, 8, 8, 8]           (Int.toNat             (IntKind.wrap IntKind.u8               (Int.fdiv (Int.fdiv (Int.fdiv b (2 ^ min (Int.toNat 32) 64)) (2 ^ min (Int.toNat 16) 64))                 (2 ^ min (Int.toNat 8) 64))))           0)))) (
   .ret (.fin (.c (.int .i64 (32 + 16 + 8 +   Int.ofNat     (UInt8.toNat       (List.getD         [0, 1, 2, 2, 3, 3, 3, 3, 4, 4, 4, 4, 4, 4, 4, 4, 5, 5, 5, 5, 5, 5, 5, 5, 5, 5, 5, 5, 5, 5, 5, 5, 6, 6, 6, 6, 6,           6, 6, 6, 6, 6, 6, 6, 6, 6, 6, 6, 6, 6, 6, 6, 6, 6, 6, 6, 6, 6, 6, 6, 6, 6, 6, 6, 7, 7, 7, 7, 7, 7, 7, 7, 7, 7,           7, 7, 7, 7, 7, 7, 7, 7, 7, 7, 7, 7, 7, 7, 7, 7, 7, 7, 7, 7, 7, 7, 7, 7, 7, 7, 7, 7, 7, 7, 7, 7, 7, 7, 7, 7, 7,           7, 7, 7, 7, 7, 7, 7, 7, 7, 7, 7, 7, 7, 7, 7, 7, 7, 8, 8, 8, 8, 8, 8, 8, 8, 8, 8, 8, 8, 8, 8, 8, 8, 8, 8, 8, 8,           8, 8, 8, 8, 8, 8, 8, 8, 8, 8, 8, 8, 8, 8, 8, 8, 8, 8, 8, 8, 8, 8, 8, 8, 8, 8, 8, 8, 8, 8, 8, 8, 8, 8, 8, 8, 8,           8, 8, 8, 8, 8, 8, 8, 8, 8, 8, 8, 8, 8, 8, 8, 8, 8, 8, 8, 8, 8, 8, 8, 8, 8, 8, 8, 8, 8, 8, 8, 8, 8, 8, 8, 8, 8,           8, 8, 8, 8, 8, 8, 8, 8, 8, 8, 8, 8, 8, 8, 8, 8, 8, 8, 8, 8, 8, 8, 8, 8, 8, 8, 8, 8, 8, 8, 8, 8, 8, 8]         (Int.toNat           (IntKind.wrap IntKind.u8             (Int.fdiv (Int.fdiv (Int.fdiv b (2 ^ min (Int.toNat 32) 64)) (2 ^ min (Int.toNat 16) 64))               (2 ^ min (Int.toNat 8) 64))))         0))))) []))))))) (
   .need (((0 : Int) ≤ IntKind.wrap IntKind.u8 (Int.fdiv (Int.fdiv b (2 ^ min (Int.toNat 32) 64)) (2 ^ min (Int.toNat 16) 64)) ∧ IntKind.wrap IntKind.u8 (Int.fdiv (Int.fdiv b (2 ^ min (Int.toNat 32) 64)) (2 ^ min (Int.toNat 16) 64)) < Int.ofNat 256)) (
   .need (Sym.i64ok   (Int.ofNat     (UInt8.toNat       (List.getD         [0, 1, 2, 2, 3, 3, 3, 3, 4, 4, 4, 4, 4, 4, 4, 4, 5, 5, 5, 5, 5, 5, 5, 5, 5, 5, 5, 5, 5, 5, 5, 5, 6, 6, 6, 6, 6,           6, 6, 6, 6, 6, 6, 6, 6, 6, 6, 6, 6, 6, 6, 6, 6, 6, 6, 6, 6, 6, 6, 6, 6, 6, 6, 6, 7, 7, 7, 7, 7, 7, 7, 7, 7, 7,           7, 7, 7, 7, 7, 7, 7, 7, 7, 7, 7, 7, 7, 7, 7, 7, 7, 7, 7, 7, 7, 7, 7, 7, 7, 7, 7, 7, 7, 7, 7, 7, 7, 7, 7, 7, 7,           7, 7, 7, 7, 7, 7, 7, 7, 7, 7, 7, 7, 7, 7, 7, 7, 7, 8, 8, 8, 8, 8, 8, 8, 8, 8, 8, 8, 8, 8, 8, 8, 8, 8, 8, 8, 8,           8, 8, 8, 8, 8, 8, 8, 8, 8, 8, 8, 8, 8, 8, 8, 8, 8, 8, 8, 8, 8, 8, 8, 8, 8, 8, 8, 8, 8, 8, 8, 8, 8, 8, 8, 8, 8,           8, 8, 8, 8, 8, 8, 8, 8, 8, 8, 8, 8, 8, 8, 8, 8, 8, 8, 8, 8, 8, 8, 8, 8, 8, 8, 8, 8, 8, 8, 8, 8, 8, 8, 8, 8, 8,           8, 8, 8, 8, 8, 8, 8, 8, 8, 8, 8, 8, 8, 8, 8, 8, 8, 8, 8, 8, 8, 8, 8, 8, 8, 8, 8, 8, 8, 8, 8, 8, 8, 8]         (Int.toNat           (IntKind.wrap IntKind.u8 (Int.fdiv (Int.fdiv b (2 ^ min (Int.toNat 32) 64)) (2 ^ min (Int.toNat 16) 64))))         0)))) (
   .need (Sym.i64ok   (32 + 16 +     Int.ofNat       (UInt8.toNat         (List.getD           [0, 1, 2, 2, 3, 3, 3, 3, 4, 4, 4, 4, 4, 4, 4, 4, 5, 5, 5, 5, 5, 5, 5, 5, 5, 5, 5, 5, 5, 5, 5, 5, 6, 6, 6, 6,             6, 6, 6, 6, 6, 6, 6, 6, 6, 6, 6, 6, 6, 6, 6, 6, 6, 6, 6, 6, 6, 6, 6, 6, 6, 6, 6, 6, 7, 7, 7, 7, 7, 7, 7, 7,             7, 7, 7, 7, 7, 7, 7, 7, 7, 7, 7, 7, 7, 7, 7, 7, 7, 7, 7, 7, 7, 7, 7, 7, 7, 7, 7, 7, 7, 7, 7, 7, 7, 7, 7, 7,             7, 7, 7, 7, 7, 7, 7, 7, 7, 7, 7, 7, 7, 7, 7, 7, 7, 7, 7, 7, 8, 8, 8, 8, 8, 8, 8, 8, 8, 8, 8, 8, 8, 8, 8, 8,             8, 8, 8, 8, 8, 8, 8, 8, 8, 8, 8, 8, 8, 8, 8, 8, 8, 8, 8, 8, 8, 8, 8, 8, 8, 8, 8, 8, 8, 8, 8, 8, 8, 8, 8, 8,             8, 8, 8, 8, 8, 8, 8, 8, 8, 8, 8, 8, 8, 8, 8, 8, 8, 8, 8, 8, 8, 8, 8, 8, 8, 8, 8, 8, 8, 8, 8, 8, 8, 8, 8, 8,             8, 8, 8, 8, 8, 8, 8, 8, 8, 8, 8, 8, 8, 8, 8, 8, 8, 8, 8, 8, 8, 8, 8, 8, 8, 8, 8, 8, 8, 8, 8, 8, 8, 8, 8, 8,             8, 8, 8, 8]           (Int.toNat             (IntKind.wrap IntKind.u8 (Int.fdiv (Int.fdiv b (2 ^ min (Int.toNat 32) 64)) (2 ^ min (Int.toNat 16) 64))))           0)))) (
   .ret (.fin (.c (.int .i64 (32 + 16 +   Int.ofNat     (UInt8.toNat       (List.getD         [0, 1, 2, 2, 3, 3, 3, 3, 4, 4, 4, 4, 4, 4, 4, 4, 5, 5, 5, 5, 5, 5, 5, 5, 5, 5, 5, 5, 5, 5, 5, 5, 6, 6, 6, 6, 6,           6, 6, 6, 6, 6, 6, 6, 6, 6, 6, 6, 6, 6, 6, 6, 6, 6, 6, 6, 6, 6, 6, 6, 6, 6, 6, 6, 7, 7, 7, 7, 7, 7, 7, 7, 7, 7,           7, 7, 7, 7, 7, 7, 7, 7, 7, 7, 7, 7, 7, 7, 7, 7, 7, 7, 7, 7, 7, 7, 7, 7, 7, 7, 7, 7, 7, 7, 7, 7, 7, 7, 7, 7, 7,           7, 7, 7, 7, 7, 7, 7, 7, 7, 7, 7, 7, 7, 7, 7, 7, 7, 8, 8, 8, 8, 8, 8, 8, 8, 8, 8, 8, 8, 8, 8, 8, 8, 8, 8, 8, 8,           8, 8, 8, 8, 8, 8, 8, 8, 8, 8, 8, 8, 8, 8, 8, 8, 8, 8, 8, 8, 8, 8, 8, 8, 8, 8, 8, 8, 8, 8, 8, 8, 8, 8, 8, 8, 8,           8, 8, 8, 8, 8, 8, 8, 8, 8, 8, 8, 8, 8, 8, 8, 8, 8, 8, 8, 8, 8, 8, 8, 8, 8, 8, 8, 8, 8, 8, 8, 8, 8, 8, 8, 8, 8,           8, 8, 8, 8, 8, 8, 8, 8, 8, 8, 8, 8, 8, 8, 8, 8, 8, 8, 8, 8, 8, 8, 8, 8, 8, 8, 8, 8, 8, 8, 8, 8, 8, 8]         (Int.toNat           (IntKind.wrap IntKind.u8 (Int.fdiv (Int.fdiv b (2 ^ min (Int.toNat 32) 64)) (2 ^ min (Int.toNat 16) 64))))         0))))) [])))))))) (
  cond (decide (256 ≤ Int.fdiv b (2 ^ min (Int.toNat 32) 64))) (
   .need ((0 : Int) ≤ 8) (
   .need (Sym.i64ok (32 + 8)) (
   .need (((0 : Int) ≤ IntKind.wrap IntKind.u8 (Int.fdiv (Int.fdiv b (2 ^ min (Int.toNat 32) 64)) (2 ^ min (Int.toNat 8) 64)) ∧ IntKind.wrap IntKind.u8 (Int.fdiv (Int.fdiv b (2 ^ min (Int.toNat 32) 64)) (2 ^ min (Int.toNat 8) 64)) < Int.ofNat 256)) (
   .need (Sym.i64ok   (Int.ofNat     (UInt8.toNat       (List.getD         [0, 1, 2, 2, 3, 3, 3, 3, 4, 4, 4, 4, 4, 4, 4, 4, 5, 5, 5, 5, 5, 5, 5, 5, 5, 5, 5, 5, 5, 5, 5, 5, 6, 6, 6, 6, 6,           6, 6, 6, 6, 6, 6, 6, 6, 6, 6, 6, 6, 6, 6, 6, 6, 6, 6, 6, 6, 6, 6, 6, 6, 6, 6, 6, 7, 7, 7, 7, 7, 7, 7, 7, 7, 7,           7, 7, 7, 7, 7, 7, 7, 7, 7, 7, 7, 7, 7, 7, 7, 7, 7, 7, 7, 7, 7, 7, 7, 7, 7, 7, 7, 7, 7, 7, 7, 7, 7, 7, 7, 7, 7,           7, 7, 7, 7, 7, 7, 7, 7, 7, 7, 7, 7, 7, 7, 7, 7, 7, 8, 8, 8, 8, 8, 8, 8, 8, 8, 8, 8, 8, 8, 8, 8, 8, 8, 8, 8, 8,           8, 8, 8, 8, 8, 8, 8, 8, 8, 8, 8, 8, 8, 8, 8, 8, 8, 8, 8, 8, 8, 8, 8, 8, 8, 8, 8, 8, 8, 8, 8, 8, 8, 8, 8, 8, 8,           8, 8, 8, 8, 8, 8, 8, 8, 8, 8, 8, 8, 8, 8, 8, 8, 8, 8, 8, 8, 8, 8, 8, 8, 8, 8, 8, 8, 8, 8, 8, 8, 8, 8, 8, 8, 8,           8, 8, 8, 8, 8, 8, 8, 8, 8, 8, 8, 8, 8, 8, 8, 8, 8, 8, 8, 8, 8, 8, 8, 8, 8, 8, 8, 8, 8, 8, 8, 8, 8, 8]         (Int.toNat           (IntKind.wrap IntKind.u8 (Int.fdiv (Int.fdiv b (2 ^ min (Int.toNat 32) 64)) (2 ^ min (Int.toNat 8) 64))))         0)))) (
   .need (Sym.i64ok   (32 + 8 +     Int.ofNat       (UInt8.toNat         (List.getD           [0, 1, 2, 2, 3, 3, 3, 3, 4, 4, 4, 4, 4, 4, 4, 4, 5, 5, 5, 5, 5, 5, 5, 5, 5, 5, 5, 5, 5, 5, 5, 5, 6, 6, 6, 6,             6, 6, 6, 6, 6, 6, 6, 6, 6, 6, 6, 6, 6, 6, 6, 6, 6, 6, 6, 6, 6, 6, 6, 6, 6, 6, 6, 6, 7, 7, 7, 7, 7, 7, 7, 7,             7, 7, 7, 7, 7, 7, 7, 7, 7, 7, 7, 7, 7, 7, 7, 7, 7, 7, 7, 7, 7, 7, 7, 7, 7, 7, 7, 7, 7, 7, 7, 7, 7, 7, 7, 7,             7, 7, 7, 7, 7, 7, 7, 7, 7, 7, 7, 7, 7, 7, 7, 7, 7, 7, 7, 7, 8, 8, 8, 8, 8, 8, 8, 8, 8, 8, 8, 8, 8, 8, 8, 8,             8, 8, 8, 8, 8, 8, 8, 8, 8, 8, 8, 8, 8, 8, 8, 8, 8, 8, 8, 8, 8, 8, 8, 8, 8, 8, 8, 8, 8, 8, 8, 8, 8, 8, 8, 8,             8, 8, 8, 8, 8, 8, 8, 8, 8, 8, 8, 8, 8, 8, 8, 8, 8, 8, 8, 8, 8, 8, 8, 8, 8, 8, 8, 8, 8, 8, 8, 8, 8, 8, 8, 8,             8, 8, 8, 8, 8, 8, 8, 8, 8, 8, 8, 8, 8, 8, 8, 8, 8, 8, 8, 8, 8, 8, 8, 8, 8, 8, 8, 8, 8, 8, 8, 8, 8, 8, 8, 8,             8, 8, 8, 8]           (Int.toNat             (IntKind.wrap IntKind.u8 (Int.fdiv (Int.fdiv b (2 ^ min (Int.toNat 32) 64)) (2 ^ min (Int.toNat 8) 64))))           0)))) (
   .ret (.fin (.c (.int .i64 (32 + 8 +   Int.ofNat     (UInt8.toNat       (List.getD         [0, 1, 2, 2, 3, 3, 3, 3, 4, 4, 4, 4, 4, 4, 4, 4, 5, 5, 5, 5, 5, 5, 5, 5, 5, 5, 5, 5, 5, 5, 5, 5, 6, 6, 6, 6, 6,           6, 6, 6, 6, 6, 6, 6, 6, 6, 6, 6, 6, 6, 6, 6, 6, 6, 6, 6, 6, 6, 6, 6, 6, 6, 6, 6, 7, 7, 7, 7, 7, 7, 7, 7, 7, 7,           7, 7, 7, 7, 7, 7, 7, 7, 7, 7, 7, 7, 7, 7, 7, 7, 7, 7, 7, 7, 7, 7, 7, 7, 7, 7, 7, 7, 7, 7, 7, 7, 7, 7, 7, 7, 7,           7, 7, 7, 7, 7, 7, 7, 7, 7, 7, 7, 7, 7, 7, 7, 7, 7, 8, 8, 8, 8, 8, 8, 8, 8, 8, 8, 8, 8, 8, 8, 8, 8, 8, 8, 8, 8,           8, 8, 8, 8, 8, 8, 8, 8, 8, 8, 8, 8, 8, 8, 8, 8, 8, 8, 8, 8, 8, 8, 8, 8, 8, 8, 8, 8, 8, 8, 8, 8, 8, 8, 8, 8, 8,           8, 8, 8, 8, 8, 8, 8, 8, 8, 8, 8, 8, 8, 8, 8, 8, 8, 8, 8, 8, 8, 8, 8, 8, 8, 8, 8, 8, 8, 8, 8, 8, 8, 8, 8, 8, 8,           8, 8, 8, 8, 8, 8, 8, 8, 8, 8, 8, 8, 8, 8, 8, 8, 8, 8, 8, 8, 8, 8, 8, 8, 8, 8, 8, 8, 8, 8, 8, 8, 8, 8]         (Int.toNat           (IntKind.wrap IntKind.u8 (Int.fdiv (Int.fdiv b (2 ^ min (Int.toNat 32) 64)) (2 ^ min (Int.toNat 8) 64))))         0))))) []))))))) (
   .need (((0 : Int) ≤ IntKind.wrap IntKind.u8 (Int.fdiv b (2 ^ min (Int.toNat 32) 64)) ∧ IntKind.wrap IntKind.u8 (Int.fdiv b (2 ^ min (Int.toNat 32) 64)) < Int.ofNat 256)) (
   .need (Sym.i64ok   (Int.ofNat     (UInt8.toNat       (List.getD         [0, 1, 2, 2, 3, 3, 3, 3, 4, 4, 4, 4, 4, 4, 4, 4, 5, 5, 5, 5, 5, 5, 5, 5, 5, 5, 5, 5, 5, 5, 5, 5, 6, 6, 6, 6, 6,           6, 6, 6, 6, 6, 6, 6, 6, 6, 6, 6, 6, 6, 6, 6, 6, 6, 6, 6, 6, 6, 6, 6, 6, 6, 6, 6, 7, 7, 7, 7, 7, 7, 7, 7, 7, 7,           7, 7, 7, 7, 7, 7, 7, 7, 7, 7, 7, 7, 7, 7, 7, 7, 7, 7, 7, 7, 7, 7, 7, 7, 7, 7, 7, 7, 7, 7, 7, 7, 7, 7, 7, 7, 7,           7, 7, 7, 7, 7, 7, 7, 7, 7, 7, 7, 7, 7, 7, 7, 7, 7, 8, 8, 8, 8, 8, 8, 8, 8, 8, 8, 8, 8, 8, 8, 8, 8, 8, 8, 8, 8,           8, 8, 8, 8, 8, 8, 8, 8, 8, 8, 8, 8, 8, 8, 8, 8, 8, 8, 8, 8, 8, 8, 8, 8, 8, 8, 8, 8, 8, 8, 8, 8, 8, 8, 8, 8, 8,           8, 8, 8, 8, 8, 8, 8, 8, 8, 8, 8, 8, 8, 8, 8, 8, 8, 8, 8, 8, 8, 8, 8, 8, 8, 8, 8, 8, 8, 8, 8, 8, 8, 8, 8, 8, 8,           8, 8, 8, 8, 8, 8, 8, 8, 8, 8, 8, 8, 8, 8, 8, 8, 8, 8, 8, 8, 8, 8, 8, 8, 8, 8, 8, 8, 8, 8, 8, 8, 8, 8]         (Int.toNat (IntKind.wrap IntKind.u8 (Int.fdiv b (2 ^ min (Int.toNat 32) 64)))) 0)))) (
   .need (Sym.i64ok   (32 +     Int.ofNat       (UInt8.toNat         (List.getD           [0, 1, 2, 2, 3, 3, 3, 3, 4, 4, 4, 4, 4, 4, 4, 4, 5, 5, 5, 5, 5, 5, 5, 5, 5, 5, 5, 5, 5, 5, 5, 5, 6, 6, 6, 6,             6, 6, 6, 6, 6, 6, 6, 6, 6, 6, 6, 6, 6, 6, 6, 6, 6, 6, 6, 6, 6, 6, 6, 6, 6, 6, 6, 6, 7, 7, 7, 7, 7, 7, 7, 7,             7, 7, 7, 7, 7, 7, 7, 7, 7, 7, 7, 7, 7, 7, 7, 7, 7, 7, 7, 7, 7, 7, 7, 7, 7, 7, 7, 7, 7, 7, 7, 7, 7, 7, 7, 7,             7, 7, 7, 7, 7, 7, 7, 7, 7, 7, 7, 7, 7, 7, 7, 7, 7, 7, 7, 7, 8, 8, 8, 8, 8, 8, 8, 8, 8, 8, 8, 8, 8, 8, 8, 8,             8, 8, 8, 8, 8, 8, 8, 8, 8, 8, 8, 8, 8, 8, 8, 8, 8, 8, 8, 8, 8, 8, 8, 8, 8, 8, 8, 8, 8, 8, 8, 8, 8, 8, 8, 8,             8, 8, 8, 8, 8, 8, 8, 8, 8, 8, 8, 8, 8, 8, 8, 8, 8, 8, 8, 8, 8, 8, 8, 8, 8, 8, 8, 8, 8, 8, 8, 8, 8, 8, 8, 8,             8, 8, 8, 8, 8, 8, 8, 8, 8, 8, 8, 8, 8, 8, 8, 8, 8, 8, 8, 8, 8, 8, 8, 8, 8, 8, 8, 8, 8, 8, 8, 8, 8, 8, 8, 8,             8, 8, 8, 8]           (Int.toNat (IntKind.wrap IntKind.u8 (Int.fdiv b (2 ^ min (Int.toNat 32) 64)))) 0)))) (
   .ret (.fin (.c (.int .i64 (32 +   Int.ofNat     (UInt8.toNat       (List.getD         [0, 1, 2, 2, 3, 3, 3, 3, 4, 4, 4, 4, 4, 4, 4, 4, 5, 5, 5, 5, 5, 5, 5, 5, 5, 5, 5, 5, 5, 5, 5, 5, 6, 6, 6, 6, 6,           6, 6, 6, 6, 6, 6, 6, 6, 6, 6, 6, 6, 6, 6, 6, 6, 6, 6, 6, 6, 6, 6, 6, 6, 6, 6, 6, 7, 7, 7, 7, 7, 7, 7, 7, 7, 7,           7, 7, 7, 7, 7, 7, 7, 7, 7, 7, 7, 7, 7, 7, 7, 7, 7, 7, 7, 7, 7, 7, 7, 7, 7, 7, 7, 7, 7, 7, 7, 7, 7, 7, 7, 7, 7,           7, 7, 7, 7, 7, 7, 7, 7, 7, 7, 7, 7, 7, 7, 7, 7, 7, 8, 8, 8, 8, 8, 8, 8, 8, 8, 8, 8, 8, 8, 8, 8, 8, 8, 8, 8, 8,           8, 8, 8, 8, 8, 8, 8, 8, 8, 8, 8, 8, 8, 8, 8, 8, 8, 8, 8, 8, 8, 8, 8, 8, 8, 8, 8, 8, 8, 8, 8, 8, 8, 8, 8, 8, 8,           8, 8, 8, 8, 8, 8, 8, 8, 8, 8, 8, 8, 8, 8, 8, 8, 8, 8, 8, 8, 8, 8, 8, 8, 8, 8, 8, 8, 8, 8, 8, 8, 8, 8, 8, 8, 8,           8, 8, 8, 8, 8, 8, 8, 8, 8, 8, 8, 8, 8, 8, 8, 8, 8, 8, 8, 8, 8, 8, 8, 8, 8, 8, 8, 8, 8, 8, 8, 8, 8, 8]         (Int.toNat (IntKind.wrap IntKind.u8 (Int.fdiv b (2 ^ min (Int.toNat 32) 64)))) 0))))) [])))))))) (
 cond (decide (65536 ≤ b)) (
  .need ((0 : Int) ≤ 16) (
  .need (Sym.i64ok (0 + 16)) (
  cond (decide (256 ≤ Int.fdiv b (2 ^ min (Int.toNat 16) 64))) (
   .need ((0 : Int) ≤ 8) (
   .need (Sym.i64ok (0 + 16 + 8)) (
   .need (((0 : Int) ≤ IntKind.wrap IntKind.u8 (Int.fdiv (Int.fdiv b (2 ^ min (Int.toNat 16) 64)) (2 ^ min (Int.toNat 8) 64)) ∧ IntKind.wrap IntKind.u8 (Int.fdiv (Int.fdiv b (2 ^ min (Int.toNat 16) 64)) (2 ^ min (Int.toNat 8) 64)) < Int.ofNat 256)) (
   .need (Sym.i64ok   (Int.ofNat     (UInt8.toNat       (List.getD         [0, 1, 2, 2, 3, 3, 3, 3, 4, 4, 4, 4, 4, 4, 4, 4, 5, 5, 5, 5, 5, 5, 5, 5, 5, 5, 5, 5, 5, 5, 5, 5, 6, 6, 6, 6, 6,           6, 6, 6, 6, 6, 6, 6, 6, 6, 6, 6, 6, 6, 6, 6, 6, 6, 6, 6, 6, 6, 6, 6, 6, 6, 6, 6, 7, 7, 7, 7, 7, 7, 7, 7, 7, 7,           7, 7, 7, 7, 7, 7, 7, 7, 7, 7, 7, 7, 7, 7, 7, 7, 7, 7, 7, 7, 7, 7, 7, 7, 7, 7, 7, 7, 7, 7, 7, 7, 7, 7, 7, 7, 7,           7, 7, 7, 7, 7, 7, 7, 7, 7, 7, 7, 7, 7, 7, 7, 7, 7, 8, 8, 8, 8, 8, 8, 8, 8, 8, 8, 8, 8, 8, 8, 8, 8, 8, 8, 8, 8,           8, 8, 8, 8, 8, 8, 8, 8, 8, 8, 8, 8, 8, 8, 8, 8, 8, 8, 8, 8, 8, 8, 8, 8, 8, 8, 8, 8, 8, 8, 8, 8, 8, 8, 8, 8, 8,           8, 8, 8, 8, 8, 8, 8, 8, 8, 8, 8, 8, 8, 8, 8, 8, 8, 8, 8, 8, 8, 8, 8, 8, 8, 8, 8, 8, 8, 8, 8, 8, 8, 8, 8, 8, 8,           8, 8, 8, 8, 8, 8, 8, 8, 8, 8, 8, 8, 8, 8, 8, 8, 8, 8, 8, 8, 8, 8, 8, 8, 8, 8, 8, 8, 8, 8, 8, 8, 8, 8]         (Int.toNat           (IntKind.wrap IntKind.u8 (Int.fdiv (Int.fdiv b (2 ^ min (Int.toNat 16) 64)) (2 ^ min (Int.toNat 8) 64))))         0)))) (
   .need (Sym.i64ok   (0 + 16 + 8 +     Int.ofNat       (UInt8.toNat         (List.getD           [0, 1, 2, 2, 3, 3, 3, 3, 4, 4, 4, 4, 4, 4, 4, 4, 5, 5, 5, 5, 5, 5, 5, 5, 5, 5, 5, 5, 5, 5, 5, 5, 6, 6, 6, 6,             6, 6, 6, 6, 6, 6, 6, 6, 6, 6, 6, 6, 6, 6, 6, 6, 6, 6, 6, 6, 6, 6, 6, 6, 6, 6, 6, 6, 7, 7, 7, 7, 7, 7, 7, 7,             7, 7, 7, 7, 7, 7, 7, 7, 7, 7, 7, 7, 7, 7, 7, 7, 7, 7, 7, 7, 7, 7, 7, 7, 7, 7, 7, 7, 7, 7, 7, 7, 7, 7, 7, 7,             7, 7, 7, 7, 7, 7, 7, 7, 7, 7, 7, 7, 7, 7, 7, 7, 7, 7, 7, 7, 8, 8, 8, 8, 8, 8, 8, 8, 8, 8, 8, 8, 8, 8, 8, 8,             8, 8, 8, 8, 8, 8, 8, 8, 8, 8, 8, 8, 8, 8, 8, 8, 8, 8, 8, 8, 8, 8, 8, 8, 8, 8, 8, 8, 8, 8, 8, 8, 8, 8, 8, 8,             8, 8, 8, 8, 8, 8, 8, 8, 8, 8, 8, 8, 8, 8, 8, 8, 8, 8, 8, 8, 8, 8, 8, 8, 8, 8, 8, 8, 8, 8, 8, 8, 8, 8, 8, 8,             8, 8, 8, 8, 8, 8, 8, 8, 8, 8, 8, 8, 8, 8, 8, 8, 8, 8, 8, 8, 8, 8, 8, 8, 8, 8, 8, 8, 8, 8, 8, 8, 8, 8, 8, 8,             8, 8, 8, 8]           (Int.toNat             (IntKind.wrap IntKind.u8 (Int.fdiv (Int.fdiv b (2 ^ min (Int.toNat 16) 64)) (2 ^ min (Int.toNat 8) 64))))           0)))) (
   .ret (.fin (.c (.int .i64 (0 + 16 + 8 +   Int.ofNat     (UInt8.toNat       (List.getD         [0, 1, 2, 2, 3, 3, 3, 3, 4, 4, 4, 4, 4, 4, 4, 4, 5, 5, 5, 5, 5, 5, 5, 5, 5, 5, 5, 5, 5, 5, 5, 5, 6, 6, 6, 6, 6,           6, 6, 6, 6, 6, 6, 6, 6, 6, 6, 6, 6, 6, 6, 6, 6, 6, 6, 6, 6, 6, 6, 6, 6, 6, 6, 6, 7, 7, 7, 7, 7, 7, 7, 7, 7, 7,           7, 7, 7, 7, 7, 7, 7, 7, 7, 7, 7, 7, 7, 7, 7, 7, 7, 7, 7, 7, 7, 7, 7, 7, 7, 7, 7, 7, 7, 7, 7, 7, 7, 7, 7, 7, 7,           7, 7, 7, 7, 7, 7, 7, 7, 7, 7, 7, 7, 7, 7, 7, 7, 7, 8, 8, 8, 8, 8, 8, 8, 8, 8, 8, 8, 8, 8, 8, 8, 8, 8, 8, 8, 8,           8, 8, 8, 8, 8, 8, 8, 8, 8, 8, 8, 8, 8, 8, 8, 8, 8, 8, 8, 8, 8, 8, 8, 8, 8, 8, 8, 8, 8, 8, 8, 8, 8, 8, 8, 8, 8,           8, 8, 8, 8, 8, 8, 8, 8, 8, 8, 8, 8, 8, 8, 8, 8, 8, 8, 8, 8, 8, 8, 8, 8, 8, 8, 8, 8, 8, 8, 8, 8, 8, 8, 8, 8, 8,           8, 8, 8, 8, 8, 8, 8, 8, 8, 8, 8, 8, 8, 8, 8, 8, 8, 8, 8, 8, 8, 8, 8, 8, 8, 8, 8, 8, 8, 8, 8, 8, 8, 8]         (Int.toNat           (IntKind.wrap IntKind.u8 (Int.fdiv (Int.fdiv b (2 ^ min (Int.toNat 16) 64)) (2 ^ min (Int.toNat 8) 64))))         0))))) []))))))) (
   .need (((0 : Int) ≤ IntKind.wrap IntKind.u8 (Int.fdiv b (2 ^ min (Int.toNat 16) 64)) ∧ IntKind.wrap IntKind.u8 (Int.fdiv b (2 ^ min (Int.toNat 16) 64)) < Int.ofNat 256)) (
   .need (Sym.i64ok   (Int.ofNat     (UInt8.toNat       (List.getD         [0, 1, 2, 2, 3, 3, 3, 3, 4, 4, 4, 4, 4, 4, 4, 4, 5, 5, 5, 5, 5, 5, 5, 5, 5, 5, 5, 5, 5, 5, 5, 5, 6, 6, 6, 6, 6,           6, 6, 6, 6, 6, 6, 6, 6, 6, 6, 6, 6, 6, 6, 6, 6, 6, 6, 6, 6, 6, 6, 6, 6, 6, 6, 6, 7, 7, 7, 7, 7, 7, 7, 7, 7, 7,           7, 7, 7, 7, 7, 7, 7, 7, 7, 7, 7, 7, 7, 7, 7, 7, 7, 7, 7, 7, 7, 7, 7, 7, 7, 7, 7, 7, 7, 7, 7, 7, 7, 7, 7, 7, 7,           7, 7, 7, 7, 7, 7, 7, 7, 7, 7, 7, 7, 7, 7, 7, 7, 7, 8, 8, 8, 8, 8, 8, 8, 8, 8, 8, 8, 8, 8, 8, 8, 8, 8, 8, 8, 8,           8, 8, 8, 8, 8, 8, 8, 8, 8, 8, 8, 8, 8, 8, 8, 8, 8, 8, 8, 8, 8, 8, 8, 8, 8, 8, 8, 8, 8, 8, 8, 8, 8, 8, 8, 8, 8,           8, 8, 8, 8, 8, 8, 8, 8, 8, 8, 8, 8, 8, 8, 8, 8, 8, 8, 8, 8, 8, 8, 8, 8, 8, 8, 8, 8, 8, 8, 8, 8, 8, 8, 8, 8, 8,           8, 8, 8, 8, 8, 8, 8, 8, 8, 8, 8, 8, 8, 8, 8, 8, 8, 8, 8, 8, 8, 8, 8, 8, 8, 8, 8, 8, 8, 8, 8, 8, 8, 8]         (Int.toNat (IntKind.wrap IntKind.u8 (Int.fdiv b (2 ^ min (Int.toNat 16) 64)))) 0)))) (
   .need (Sym.i64ok   (0 + 16 +     Int.ofNat       (UInt8.toNat         (List.getD           [0, 1, 2, 2, 3, 3, 3, 3, 4, 4, 4, 4, 4, 4, 4, 4, 5, 5, 5, 5, 5, 5, 5, 5, 5, 5, 5, 5, 5, 5, 5, 5, 6, 6, 6, 6,             6, 6, 6, 6, 6, 6, 6, 6, 6, 6, 6, 6, 6, 6, 6, 6, 6, 6, 6, 6, 6, 6, 6, 6, 6, 6, 6, 6, 7, 7, 7, 7, 7, 7, 7, 7,             7, 7, 7, 7, 7, 7, 7, 7, 7, 7, 7, 7, 7, 7, 7, 7, 7, 7, 7, 7, 7, 7, 7, 7, 7, 7, 7, 7, 7, 7, 7, 7, 7, 7, 7, 7,             7, 7, 7, 7, 7, 7, 7, 7, 7, 7, 7, 7, 7, 7, 7, 7, 7, 7, 7, 7, 8, 8, 8, 8, 8, 8, 8, 8, 8, 8, 8, 8, 8, 8, 8, 8,             8, 8, 8, 8, 8, 8, 8, 8, 8, 8, 8, 8, 8, 8, 8, 8, 8, 8, 8, 8, 8, 8, 8, 8, 8, 8, 8, 8, 8, 8, 8, 8, 8, 8, 8, 8,             8, 8, 8, 8, 8, 8, 8, 8, 8, 8, 8, 8, 8, 8, 8, 8, 8, 8, 8, 8, 8, 8, 8, 8, 8, 8, 8, 8, 8, 8, 8, 8, 8, 8, 8, 8,             8, 8, 8, 8, 8, 8, 8, 8, 8, 8, 8, 8, 8, 8, 8, 8, 8, 8, 8, 8, 8, 8, 8, 8, 8, 8, 8, 8, 8, 8, 8, 8, 8, 8, 8, 8,             8, 8, 8, 8]           (Int.toNat (IntKind.wrap IntKind.u8 (Int.fdiv b (2 ^ min (Int.toNat 16) 64)))) 0)))) (
   .ret (.fin (.c (.int .i64 (0 + 16 +   Int.ofNat     (UInt8.toNat       (List.getD         [0, 1, 2, 2, 3, 3, 3, 3, 4, 4, 4, 4, 4, 4, 4, 4, 5, 5, 5, 5, 5, 5, 5, 5, 5, 5, 5, 5, 5, 5, 5, 5, 6, 6, 6, 6, 6,           6, 6, 6, 6, 6, 6, 6, 6, 6, 6, 6, 6, 6, 6, 6, 6, 6, 6, 6, 6, 6, 6, 6, 6, 6, 6, 6, 7, 7, 7, 7, 7, 7, 7, 7, 7, 7,           7, 7, 7, 7, 7, 7, 7, 7, 7, 7, 7, 7, 7, 7, 7, 7, 7, 7, 7, 7, 7, 7, 7, 7, 7, 7, 7, 7, 7, 7, 7, 7, 7, 7, 7, 7, 7,           7, 7, 7, 7, 7, 7, 7, 7, 7, 7, 7, 7, 7, 7, 7, 7, 7, 8, 8, 8, 8, 8, 8, 8, 8, 8, 8, 8, 8, 8, 8, 8, 8, 8, 8, 8, 8,           8, 8, 8, 8, 8, 8, 8, 8, 8, 8, 8, 8, 8, 8, 8, 8, 8, 8, 8, 8, 8, 8, 8, 8, 8, 8, 8, 8, 8, 8, 8, 8, 8, 8, 8, 8, 8,           8, 8, 8, 8, 8, 8, 8, 8, 8, 8, 8, 8, 8, 8, 8, 8, 8, 8, 8, 8, 8, 8, 8, 8, 8, 8, 8, 8, 8, 8, 8, 8, 8, 8, 8, 8, 8,           8, 8, 8, 8, 8, 8, 8, 8, 8, 8, 8, 8, 8, 8, 8, 8, 8, 8, 8, 8, 8, 8, 8, 8, 8, 8, 8, 8, 8, 8, 8, 8, 8, 8]         (Int.toNat (IntKind.wrap IntKind.u8 (Int.fdiv b (2 ^ min (Int.toNat 16) 64)))) 0))))) [])))))))) (
  cond (decide (256 ≤ b)) (
   .need ((0 : Int) ≤ 8) (
   .need (Sym.i64ok (0 + 8)) (
   .need (((0 : Int) ≤ IntKind.wrap IntKind.u8 (Int.fdiv b (2 ^ min (Int.toNat 8) 64)) ∧ IntKind.wrap IntKind.u8 (Int.fdiv b (2 ^ min (Int.toNat 8) 64)) < Int.ofNat 256)) (
   .need (Sym.i64ok   (Int.ofNat     (UInt8.toNat       (List.getD         [0, 1, 2, 2, 3, 3, 3, 3, 4, 4, 4, 4, 4, 4, 4, 4, 5, 5, 5, 5, 5, 5, 5, 5, 5, 5, 5, 5, 5, 5, 5, 5, 6, 6, 6, 6, 6,           6, 6, 6, 6, 6, 6, 6, 6, 6, 6, 6, 6, 6, 6, 6, 6, 6, 6, 6, 6, 6, 6, 6, 6, 6, 6, 6, 7, 7, 7, 7, 7, 7, 7, 7, 7, 7,           7, 7, 7, 7, 7, 7, 7, 7, 7, 7, 7, 7, 7, 7, 7, 7, 7, 7, 7, 7, 7, 7, 7, 7, 7, 7, 7, 7, 7, 7, 7, 7, 7, 7, 7, 7, 7,           7, 7, 7, 7, 7, 7, 7, 7, 7, 7, 7, 7, 7, 7, 7, 7, 7, 8, 8, 8, 8, 8, 8, 8, 8, 8, 8, 8, 8, 8, 8, 8, 8, 8, 8, 8, 8,           8, 8, 8, 8, 8, 8, 8, 8, 8, 8, 8, 8, 8, 8, 8, 8, 8, 8, 8, 8, 8, 8, 8, 8, 8, 8, 8, 8, 8, 8, 8, 8, 8, 8, 8, 8, 8,           8, 8, 8, 8, 8, 8, 8, 8, 8, 8, 8, 8, 8, 8, 8, 8, 8, 8, 8, 8, 8, 8, 8, 8, 8, 8, 8, 8, 8, 8, 8, 8, 8, 8, 8, 8, 8,           8, 8, 8, 8, 8, 8, 8, 8, 8, 8, 8, 8, 8, 8, 8, 8, 8, 8, 8, 8, 8, 8, 8, 8, 8, 8, 8, 8, 8, 8, 8, 8, 8, 8]         (Int.toNat (IntKind.wrap IntKind.u8 (Int.fdiv b (2 ^ min (Int.toNat 8) 64)))) 0)))) (
   .need (Sym.i64ok   (0 + 8 +     Int.ofNat       (UInt8.toNat         (List.getD           [0, 1, 2, 2, 3, 3, 3, 3, 4, 4, 4, 4, 4, 4, 4, 4, 5, 5, 5, 5, 5, 5, 5, 5, 5, 5, 5, 5, 5, 5, 5, 5, 6, 6, 6, 6,             6, 6, 6, 6, 6, 6, 6, 6, 6, 6, 6, 6, 6, 6, 6, 6, 6, 6, 6, 6, 6, 6, 6, 6, 6, 6, 6, 6, 7, 7, 7, 7, 7, 7, 7, 7,             7, 7, 7, 7, 7, 7, 7, 7, 7, 7, 7, 7, 7, 7, 7, 7, 7, 7, 7, 7, 7, 7, 7, 7, 7, 7, 7, 7, 7, 7, 7, 7, 7, 7, 7, 7,             7, 7, 7, 7, 7, 7, 7, 7, 7, 7, 7, 7, 7, 7, 7, 7, 7, 7, 7, 7, 8, 8, 8, 8, 8, 8, 8, 8, 8, 8, 8, 8, 8, 8, 8, 8,             8, 8, 8, 8, 8, 8, 8, 8, 8, 8, 8, 8, 8, 8, 8, 8, 8, 8, 8, 8, 8, 8, 8, 8, 8, 8, 8, 8, 8, 8, 8, 8, 8, 8, 8, 8,             8, 8, 8, 8, 8, 8, 8, 8, 8, 8, 8, 8, 8, 8, 8, 8, 8, 8, 8, 8, 8, 8, 8, 8, 8, 8, 8, 8, 8, 8, 8, 8, 8, 8, 8, 8,             8, 8, 8, 8, 8, 8, 8, 8, 8, 8, 8, 8, 8, 8, 8, 8, 8, 8, 8, 8, 8, 8, 8, 8, 8, 8, 8, 8, 8, 8, 8, 8, 8, 8, 8, 8,             8, 8, 8, 8]           (Int.toNat (IntKind.wrap IntKind.u8 (Int.fdiv b (2 ^ min (Int.toNat 8) 64)))) 0)))) (
   .ret (.fin (.c (.int .i64 (0 + 8 +   Int.ofNat     (UInt8.toNat       (List.getD         [0, 1, 2, 2, 3, 3, 3, 3, 4, 4, 4, 4, 4, 4, 4, 4, 5, 5, 5, 5, 5, 5, 5, 5, 5, 5, 5, 5, 5, 5, 5, 5, 6, 6, 6, 6, 6,           6, 6, 6, 6, 6, 6, 6, 6, 6, 6, 6, 6, 6, 6, 6, 6, 6, 6, 6, 6, 6, 6, 6, 6, 6, 6, 6, 7, 7, 7, 7, 7, 7, 7, 7, 7, 7,           7, 7, 7, 7, 7, 7, 7, 7, 7, 7, 7, 7, 7, 7, 7, 7, 7, 7, 7, 7, 7, 7, 7, 7, 7, 7, 7, 7, 7, 7, 7, 7, 7, 7, 7, 7, 7,           7, 7, 7, 7, 7, 7, 7, 7, 7, 7, 7, 7, 7, 7, 7, 7, 7, 8, 8, 8, 8, 8, 8, 8, 8, 8, 8, 8, 8, 8, 8, 8, 8, 8, 8, 8, 8,           8, 8, 8, 8, 8, 8, 8, 8, 8, 8, 8, 8, 8, 8, 8, 8, 8, 8, 8, 8, 8, 8, 8, 8, 8, 8, 8, 8, 8, 8, 8, 8, 8, 8, 8, 8, 8,           8, 8, 8, 8, 8, 8, 8, 8, 8, 8, 8, 8, 8, 8, 8, 8, 8, 8, 8, 8, 8, 8, 8, 8, 8, 8, 8, 8, 8, 8, 8, 8, 8, 8, 8, 8, 8,           8, 8, 8, 8, 8, 8, 8, 8, 8, 8, 8, 8, 8, 8, 8, 8, 8, 8, 8, 8, 8, 8, 8, 8, 8, 8, 8, 8, 8, 8, 8, 8, 8, 8]         (Int.toNat (IntKind.wrap IntKind.u8 (Int.fdiv b (2 ^ min (Int.toNat 8) 64)))) 0))))) []))))))) (
   .need (((0 : Int) ≤ IntKind.wrap IntKind.u8 b ∧ IntKind.wrap IntKind.u8 b < Int.ofNat 256)) (
   .need (Sym.i64ok   (Int.ofNat     (UInt8.toNat       (List.getD         [0, 1, 2, 2, 3, 3, 3, 3, 4, 4, 4, 4, 4, 4, 4, 4, 5, 5, 5, 5, 5, 5, 5, 5, 5, 5, 5, 5, 5, 5, 5, 5, 6, 6, 6, 6, 6,           6, 6, 6, 6, 6, 6, 6, 6, 6, 6, 6, 6, 6, 6, 6, 6, 6, 6, 6, 6, 6, 6, 6, 6, 6, 6, 6, 7, 7, 7, 7, 7, 7, 7, 7, 7, 7,           7, 7, 7, 7, 7, 7, 7, 7, 7, 7, 7, 7, 7, 7, 7, 7, 7, 7, 7, 7, 7, 7, 7, 7, 7, 7, 7, 7, 7, 7, 7, 7, 7, 7, 7, 7, 7,           7, 7, 7, 7, 7, 7, 7, 7, 7, 7, 7, 7, 7, 7, 7, 7, 7, 8, 8, 8, 8, 8, 8, 8, 8, 8, 8, 8, 8, 8, 8, 8, 8, 8, 8, 8, 8,           8, 8, 8, 8, 8, 8, 8, 8, 8, 8, 8, 8, 8, 8, 8, 8, 8, 8, 8, 8, 8, 8, 8, 8, 8, 8, 8, 8, 8, 8, 8, 8, 8, 8, 8, 8, 8,           8, 8, 8, 8, 8, 8, 8, 8, 8, 8, 8, 8, 8, 8, 8, 8, 8, 8, 8, 8, 8, 8, 8, 8, 8, 8, 8, 8, 8, 8, 8, 8, 8, 8, 8, 8, 8,           8, 8, 8, 8, 8, 8, 8, 8, 8, 8, 8, 8, 8, 8, 8, 8, 8, 8, 8, 8, 8, 8, 8, 8, 8, 8, 8, 8, 8, 8, 8, 8, 8, 8]         (Int.toNat (IntKind.wrap IntKind.u8 b)) 0)))) (
   .need (Sym.i64ok   (0 +     Int.ofNat       (UInt8.toNat         (List.getD           [0, 1, 2, 2, 3, 3, 3, 3, 4, 4, 4, 4, 4, 4, 4, 4, 5, 5, 5, 5, 5, 5, 5, 5, 5, 5, 5, 5, 5, 5, 5, 5, 6, 6, 6, 6,             6, 6, 6, 6, 6, 6, 6, 6, 6, 6, 6, 6, 6, 6, 6, 6, 6, 6, 6, 6, 6, 6, 6, 6, 6, 6, 6, 6, 7, 7, 7, 7, 7, 7, 7, 7,             7, 7, 7, 7, 7, 7, 7, 7, 7, 7, 7, 7, 7, 7, 7, 7, 7, 7, 7, 7, 7, 7, 7, 7, 7, 7, 7, 7, 7, 7, 7, 7, 7, 7, 7, 7,             7, 7, 7, 7, 7, 7, 7, 7, 7, 7, 7, 7, 7, 7, 7, 7, 7, 7, 7, 7, 8, 8, 8, 8, 8, 8, 8, 8, 8, 8, 8, 8, 8, 8, 8, 8,             8, 8, 8, 8, 8, 8, 8, 8, 8, 8, 8, 8, 8, 8, 8, 8, 8, 8, 8, 8, 8, 8, 8, 8, 8, 8, 8, 8, 8, 8, 8, 8, 8, 8, 8, 8,             8, 8, 8, 8, 8, 8, 8, 8, 8, 8, 8, 8, 8, 8, 8, 8, 8, 8, 8, 8, 8, 8, 8, 8, 8, 8, 8, 8, 8, 8, 8, 8, 8, 8, 8, 8,             8, 8, 8, 8, 8, 8, 8, 8, 8, 8, 8, 8, 8, 8, 8, 8, 8, 8, 8, 8, 8, 8, 8, 8, 8, 8, 8, 8, 8, 8, 8, 8, 8, 8, 8, 8,             8, 8, 8, 8]           (Int.toNat (IntKind.wrap IntKind.u8 b)) 0)))) (
   .ret (.fin (.c (.int .i64 (0 +   Int.ofNat     (UInt8.toNat       (List.getD         [0, 1, 2, 2, 3, 3, 3, 3, 4, 4, 4, 4, 4, 4, 4, 4, 5, 5, 5, 5, 5, 5, 5, 5, 5, 5, 5, 5, 5, 5, 5, 5, 6, 6, 6, 6, 6,           6, 6, 6, 6, 6, 6, 6, 6, 6, 6, 6, 6, 6, 6, 6, 6, 6, 6, 6, 6, 6, 6, 6, 6, 6, 6, 6, 7, 7, 7, 7, 7, 7, 7, 7, 7, 7,           7, 7, 7, 7, 7, 7, 7, 7, 7, 7, 7, 7, 7, 7, 7, 7, 7, 7, 7, 7, 7, 7, 7, 7, 7, 7, 7, 7, 7, 7, 7, 7, 7, 7, 7, 7, 7,           7, 7, 7, 7, 7, 7, 7, 7, 7, 7, 7, 7, 7, 7, 7, 7, 7, 8, 8, 8, 8, 8, 8, 8, 8, 8, 8, 8, 8, 8, 8, 8, 8, 8, 8, 8, 8,           8, 8, 8, 8, 8, 8, 8, 8, 8, 8, 8, 8, 8, 8, 8, 8, 8, 8, 8, 8, 8, 8, 8, 8, 8, 8, 8, 8, 8, 8, 8, 8, 8, 8, 8, 8, 8,           8, 8, 8, 8, 8, 8, 8, 8, 8, 8, 8, 8, 8, 8, 8, 8, 8, 8, 8, 8, 8, 8, 8, 8, 8, 8, 8, 8, 8, 8, 8, 8, 8, 8, 8, 8, 8,           8, 8, 8, 8, 8, 8, 8, 8, 8, 8, 8, 8, 8, 8, 8, 8, 8, 8, 8, 8, 8, 8, 8, 8, 8, 8, 8, 8, 8, 8, 8, 8, 8, 8]         (Int.toNat (IntKind.wrap IntKind.u8 b)) 0))))) []))))))) := by kernel_rfl



theorem tlen_run (b : Int) (b0 : Base) (hb : b0.n = 0) (h0 : 4503599627370496 ≤ b ∧ b < 9007199254740992) : Sym.Runs Try.prog b0 [.code (codeOf Try.f76)] ⟨argsS Try.f76 [.c (.int .u64 b)], ([] : Heap cod)⟩ (Sym.Ends Try.prog Try.f76 0 (.c (.int .i64 53)) []) := by
  refine Runs.go (cfg := C_tfra) L_tfra_ok mixed cuts_tlen 400 hb (tlen_t0 b) ?_
  simp only [T.wp, T.wp_cond, Aft, Int.ofNat_eq_natCast, decide_eq_true_eq, and_true, true_and, Nat.zero_add, Bool.not_eq_true', decide_eq_false_iff_not]
  refine ite_yes (by omega) ⟨by decide, ?_⟩
  have e1 : (2 : Int) ^ min (Int.toNat 32) 64 = 4294967296 := by decide
  have e2 : (2 : Int) ^ min (Int.toNat 16) 64 = 65536 := by decide
  rw [e1, e2, Int.fdiv_eq_ediv_of_nonneg b (by decide), Int.fdiv_eq_ediv_of_nonneg (b / 4294967296) (by decide)]
  refine ite_yes (by omega) ⟨by decide, (by decide : (-9223372036854775808 : Int) ≤ 32 + 16 ∧ (32 + 16 : Int) ≤ 9223372036854775807), ite_no (by omega) ?_⟩
  have hx : 16 ≤ b / 4294967296 / 65536 ∧ b / 4294967296 / 65536 < 32 := by omega
  generalize b / 4294967296 / 65536 = x at *
  rcases (show x = 16 ∨ x = 17 ∨ x = 18 ∨ x = 19 ∨ x = 20 ∨ x = 21 ∨ x = 22 ∨ x = 23 ∨ x = 24 ∨ x = 25 ∨ x = 26 ∨ x = 27 ∨ x = 28 ∨ x = 29 ∨ x = 30 ∨ x = 31 by omega) with rfl | rfl | rfl | rfl | rfl | rfl | rfl | rfl | rfl | rfl | rfl | rfl | rfl | rfl | rfl | rfl <;> exact ⟨by decide, by unfold Sym.i64ok; decide, by unfold Sym.i64ok; decide, rfl⟩



noncomputable def s_tlen : Summ cod := fun args H => match args, H with
  | [.c (.int .u64 b)], [] => .need ((4503599627370496 ≤ b ∧ b < 9007199254740992)) (.ret (.c (.int .i64 53), []))
  | _, _ => .fail


theorem tlen_sound : Sound Try.prog cod 76 s_tlen := sound_runs (cfg := C_tfra) L_tfra_ok mixed Try.func76 rfl rfl _ fun args H r news hg b0 hb => by
  unfold s_tlen at hg
  split at hg
  · skip
    simp only [T.gives, T.wp, Prod.mk.injEq] at hg
    obtain ⟨q0, rfl, rfl⟩ := hg
    exact tlen_run _ b0 hb (by assumption)
  · exact hg.elim

noncomputable def L_tlen : Sums cod := (76, .p s_tlen) :: L_tfra
noncomputable def C_tlen : Cfg cod := mkC L_tlen

theorem L_tlen_ok : Snd Try.prog cod L_tlen := .cons tlen_sound L_tfra_ok


end
end Go.Proofs.Ytbkpgpkeecnjpaa
