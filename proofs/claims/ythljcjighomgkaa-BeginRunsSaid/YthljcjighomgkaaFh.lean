/- Part of a claim: lemmas on the way to its theorem; each states its own conditions. -/
import Derived.Test.YthljcjighomgkaaFa
import Derived.Test.YthljcjighomgkaaSym22
import Derived.Test.YthljcjighomgkaaAr
import Derived.Test.YthljcjighomgkaaPop
namespace Go.Proofs.Ythljcjighomgkaa
open Sym Go.RowKit
noncomputable section
set_option maxRecDepth 100000
set_option maxHeartbeats 4000000

namespace F
def rule (need of : Int) : Int := if 1 ≤ of ∧ of ≤ 16 ∧ 1 ≤ need ∧ need ≤ of then 0 else 4
end F

noncomputable def s_crule : Summ cod := fun args H => match H with
  | [] => match rd args with
    | some [[need], [of]] => (.ret (.c (.int .i64 (F.rule need of)), []))
    | _ => .fail
  | _ => .fail

theorem crule_tree (need of : Int) : symF C_checkSp [] Try.f36.results.toList (List.length ([] : Heap cod)) 400 [.code (codeOf Try.f36)] ⟨argsS Try.f36 [.c (.int .i64 need), .c (.int .i64 of)], []⟩ =
 cond (decide (of < 1)) (
 .ret (.fin (.c (.int .i64 4)) [])) (
 cond (decide (16 < of)) (
  .ret (.fin (.c (.int .i64 4)) [])) (
  cond (decide (need < 1)) (
   .ret (.fin (.c (.int .i64 4)) [])) (
   cond (decide (of < need)) (
    .ret (.fin (.c (.int .i64 4)) [])) (
    .ret (.fin (.c (.int .i64 0)) []))))) := by kernel_rfl

theorem crule_sound : Sound Try.prog cod 36 s_crule := sound_flat (cfg := C_checkSp) L_checkSp_ok mixed Try.func36 rfl rfl _ 400 fun args H r news hg => by
  unfold s_crule at hg
  split at hg
  · split at hg
    · rename_i need of hrd
      have hargs := rd_spec hrd
      simp only [List.map, wr1, ints, List.tail] at hargs
      subst hargs
      clear hrd
      rw [crule_tree]
      try simp only [T.gives, T.wp, Prod.mk.injEq] at hg
      obtain ⟨rfl, rfl⟩ := hg
      simp only [T.wp, T.wp_cond, Fin.fin.injEq, SV.c.injEq, Cell.bool.injEq, Cell.int.injEq, and_true, true_and, decide_eq_true_eq, F.rule]
      (repeat' split) <;> simp_all <;> omega
    · exact hg.elim
  · exact hg.elim

noncomputable def L_crule : Sums cod := (36, s_crule) :: L_checkSp
noncomputable def C_crule : Cfg cod := mkC L_crule

theorem L_crule_ok : Snd Try.prog cod L_crule := .cons crule_sound L_checkSp_ok


namespace F
def s1 (x : Int) : Int := IntKind.wrap .u64 (bits .and .u64 (x.fdiv (2 ^ min (Int.toNat 1) 64)) 6148914691236517205 + bits .and .u64 x 6148914691236517205)
def s2 (x : Int) : Int := IntKind.wrap .u64 (bits .and .u64 (x.fdiv (2 ^ min (Int.toNat 2) 64)) 3689348814741910323 + bits .and .u64 x 3689348814741910323)
def s3 (x : Int) : Int := bits .and .u64 (IntKind.wrap .u64 (x.fdiv (2 ^ min (Int.toNat 4) 64) + x)) 1085102592571150095
def s4 (x : Int) (k : Int) : Int := IntKind.wrap .u64 (x + x.fdiv (2 ^ min (Int.toNat k) 64))
def swar (x : Int) : Int := s4 (s4 (s4 (s3 (s2 (s1 x))) 8) 16) 32
end F


theorem u64_and_nat (a b : Nat) (ha : a < 18446744073709551616) (hb : b < 18446744073709551616) : bits .and .u64 (a : Int) (b : Int) = ((a &&& b : Nat) : Int) := by
  have hx : a &&& b < 2 ^ 64 := Nat.and_lt_two_pow _ (by omega)
  have h1 : (BitVec.ofInt 64 (a : Int)).toNat = a := by rw [BitVec.ofInt_natCast, BitVec.toNat_ofNat]; exact Nat.mod_eq_of_lt (by omega)
  have h2 : (BitVec.ofInt 64 (b : Int)).toNat = b := by rw [BitVec.ofInt_natCast, BitVec.toNat_ofNat]; exact Nat.mod_eq_of_lt (by omega)
  show IntKind.u64.wrap ((BitVec.ofInt 64 (a : Int) &&& BitVec.ofInt 64 (b : Int)).toNat : Int) = _
  rw [BitVec.toNat_and, h1, h2]
  show ((a &&& b : Nat) : Int) % 18446744073709551616 = _
  omega
theorem i64_and_nat' (a b : Nat) (ha : a < 9223372036854775808) (hb : b < 9223372036854775808) : bits .and .i64 (a : Int) (b : Int) = ((a &&& b : Nat) : Int) := by
  have hx : a &&& b < 2 ^ 63 := Nat.and_lt_two_pow _ (by omega)
  have h1 : (BitVec.ofInt 64 (a : Int)).toNat = a := by rw [BitVec.ofInt_natCast, BitVec.toNat_ofNat]; exact Nat.mod_eq_of_lt (by omega)
  have h2 : (BitVec.ofInt 64 (b : Int)).toNat = b := by rw [BitVec.ofInt_natCast, BitVec.toNat_ofNat]; exact Nat.mod_eq_of_lt (by omega)
  show IntKind.i64.wrap ((BitVec.ofInt 64 (a : Int) &&& BitVec.ofInt 64 (b : Int)).toNat : Int) = _
  rw [BitVec.toNat_and, h1, h2, IntKind.wrap_i64]
  omega
theorem i64_or_nat' (a b : Nat) (ha : a < 9223372036854775808) (hb : b < 9223372036854775808) : bits .or .i64 (a : Int) (b : Int) = ((a ||| b : Nat) : Int) := by
  have hx : a ||| b < 2 ^ 63 := Nat.or_lt_two_pow (by omega) (by omega)
  have h1 : (BitVec.ofInt 64 (a : Int)).toNat = a := by rw [BitVec.ofInt_natCast, BitVec.toNat_ofNat]; exact Nat.mod_eq_of_lt (by omega)
  have h2 : (BitVec.ofInt 64 (b : Int)).toNat = b := by rw [BitVec.ofInt_natCast, BitVec.toNat_ofNat]; exact Nat.mod_eq_of_lt (by omega)
  show IntKind.i64.wrap ((BitVec.ofInt 64 (a : Int) ||| BitVec.ofInt 64 (b : Int)).toNat : Int) = _
  rw [BitVec.toNat_or, h1, h2, IntKind.wrap_i64]
  omega
theorem wrap_u64 (n : Nat) (h : n < 18446744073709551616) : IntKind.wrap .u64 (n : Int) = n := by
  show (n : Int) % 18446744073709551616 = n
  omega
theorem fdiv_shift (n k : Nat) (j : Int) (hj : Int.toNat j = k) (h : k ≤ 64) : Int.fdiv (n : Int) (2 ^ min (Int.toNat j) 64) = ((n >>> k : Nat) : Int) := by
  rw [hj, Nat.min_eq_left h, Nat.shiftRight_eq_div_pow, Int.fdiv_eq_ediv_of_nonneg _ (by exact Int.pow_nonneg (by omega))]
  norm_cast
theorem swar_nat (n : Nat) (h : n < 65536) : F.swar (n : Int) = (F.swn n : Int) := by
  unfold F.swar F.swn
  have hs : ∀ m k, m < 18446744073709551616 → m >>> k < 18446744073709551616 := fun m k hm => Nat.lt_of_le_of_lt (Nat.shiftRight_le ..) hm
  have hl : ∀ a b : Nat, a &&& b ≤ b := fun a b => Nat.and_le_right
  have e1 : F.s1 (n : Int) = (((n >>> 1) &&& 6148914691236517205) + (n &&& 6148914691236517205) : Nat) := by
    unfold F.s1
    rw [fdiv_shift n 1 1 rfl (by omega)]
    have h1 := u64_and_nat (n >>> 1) 6148914691236517205 (hs _ _ (by omega)) (by omega)
    have h2 := u64_and_nat n 6148914691236517205 (by omega) (by omega)
    have h3 := hl (n >>> 1) 6148914691236517205
    have h4 := hl n 6148914691236517205
    rw [show (6148914691236517205 : Int) = ((6148914691236517205 : Nat) : Int) from rfl, h1, h2, ← Int.natCast_add, wrap_u64 _ (by omega)]
  rw [e1]
  generalize hA : ((n >>> 1) &&& 6148914691236517205) + (n &&& 6148914691236517205) = A
  have hA' : A < 18446744073709551616 := by
    have h3 := hl (n >>> 1) 6148914691236517205
    have h4 := hl n 6148914691236517205
    omega
  have e2 : F.s2 (A : Int) = (((A >>> 2) &&& 3689348814741910323) + (A &&& 3689348814741910323) : Nat) := by
    unfold F.s2
    rw [fdiv_shift A 2 2 rfl (by omega)]
    have h1 := u64_and_nat (A >>> 2) 3689348814741910323 (hs _ _ hA') (by omega)
    have h2 := u64_and_nat A 3689348814741910323 hA' (by omega)
    have h3 := hl (A >>> 2) 3689348814741910323
    have h4 := hl A 3689348814741910323
    rw [show (3689348814741910323 : Int) = ((3689348814741910323 : Nat) : Int) from rfl, h1, h2, ← Int.natCast_add, wrap_u64 _ (by omega)]
  rw [e2]
  generalize hB : ((A >>> 2) &&& 3689348814741910323) + (A &&& 3689348814741910323) = B
  have hB' : B ≤ 7378697629483820646 := by
    have h3 := hl (A >>> 2) 3689348814741910323
    have h4 := hl A 3689348814741910323
    omega
  have e3 : F.s3 (B : Int) = ((((B >>> 4) + B) &&& 1085102592571150095 : Nat) : Int) := by
    unfold F.s3
    have h5 : B >>> 4 ≤ B := Nat.shiftRight_le ..
    rw [fdiv_shift B 4 4 rfl (by omega), ← Int.natCast_add, wrap_u64 _ (by omega)]
    exact u64_and_nat _ 1085102592571150095 (by omega) (by omega)
  rw [e3]
  generalize hC : ((B >>> 4) + B) &&& 1085102592571150095 = C
  have hC' : C ≤ 1085102592571150095 := by
    have h3 := hl ((B >>> 4) + B) 1085102592571150095
    omega
  have e4 : ∀ (m k : Nat) (j : Int), Int.toNat j = k → k ≤ 64 → m + (m >>> k) < 18446744073709551616 → F.s4 (m : Int) j = ((m + (m >>> k) : Nat) : Int) := fun m k j hj hk hm => by
    unfold F.s4
    rw [fdiv_shift m k j hj hk, ← Int.natCast_add, wrap_u64 _ hm]
  have g1 : C >>> 8 ≤ C := Nat.shiftRight_le ..
  rw [e4 C 8 8 rfl (by omega) (by omega)]
  generalize hD : C + C >>> 8 = D
  have g2 : D >>> 16 ≤ D := Nat.shiftRight_le ..
  rw [e4 D 16 16 rfl (by omega) (by omega)]
  generalize hE : D + D >>> 16 = E
  have g3 : E >>> 32 ≤ E := Nat.shiftRight_le ..
  rw [e4 E 32 32 rfl (by omega) (by omega)]
  subst hE hD hC hB
  rfl


noncomputable def s_pop64 : Summ cod := fun args H => match args, H with
  | [.c (.int .u64 x)], [] => .need (0 ≤ x ∧ x < 65536) (.ret (.c (.int .i64 (F.pop 16 x.toNat)), []))
  | _, _ => .fail


theorem pop64_tree (x : Int) : symF C_crule [] Try.f104.results.toList 0 400 [.code (codeOf Try.f104)] ⟨argsS Try.f104 [.c (.int .u64 x)], []⟩ =
  .need ((0 : Int) ≤ 1) (.need ((0 : Int) ≤ 2) (.need ((0 : Int) ≤ 4) (.need ((0 : Int) ≤ 8) (.need ((0 : Int) ≤ 16) (.need ((0 : Int) ≤ 32) (.need (i64ok (F.swar x)) (.ret (.fin (.c (.int .i64 (bits .and .i64 (F.swar x) 127))) [])))))))) := by kernel_rfl
theorem pop64_sound : Sound Try.prog cod 104 s_pop64 := sound_flat (cfg := C_crule) L_crule_ok mixed Try.func104 rfl rfl _ 400 fun args H r news hg => by
  unfold s_pop64 at hg
  split at hg
  · rename_i x
    simp only [T.gives, T.wp, Prod.mk.injEq] at hg
    obtain ⟨⟨h0, h1⟩, rfl, rfl⟩ := hg
    obtain ⟨n, rfl⟩ := Int.eq_ofNat_of_zero_le h0
    rw [show ([] : Heap cod).length = 0 from rfl, pop64_tree]
    obtain ⟨p1, p2⟩ := swn_pop n (by omega)
    have h127 := i64_and_nat' (F.swn n) 127 (by omega) (by omega)
    have hm := Nat.and_two_pow_sub_one_eq_mod (F.swn n) 7
    simp at hm
    rw [swar_nat n (by omega)]
    simp only [T.wp, Int.toNat_natCast, Fin.fin.injEq, SV.c.injEq, Cell.int.injEq, true_and, and_true]
    refine ⟨by omega, by omega, by omega, by omega, by omega, by omega, by unfold i64ok; omega, ?_⟩
    rw [show (127 : Int) = ((127 : Nat) : Int) from rfl, h127, hm, p2]
  · exact hg.elim

noncomputable def L_pop64 : Sums cod := (104, s_pop64) :: L_crule
noncomputable def C_pop64 : Cfg cod := mkC L_pop64

theorem L_pop64_ok : Snd Try.prog cod L_pop64 := .cons pop64_sound L_crule_ok


theorem pop_t (x : Int) : symF C_pop64 [] Try.f102.results.toList 0 400 [.code (codeOf Try.f102)] ⟨argsS Try.f102 [.c (.int .u64 x)], []⟩ =
.need ((0 ≤ x ∧ x < 65536)) (
.ret (.fin (.c (.int .i64 (Int.ofNat (F.pop 16 (Int.toNat x))))) [])) := by kernel_rfl



theorem pop_sound : Sound Try.prog cod 102 s_pop64 := sound_flat (cfg := C_pop64) L_pop64_ok mixed Try.func102 rfl rfl _ 400 fun args H r news hg => by
  unfold s_pop64 at hg
  split at hg
  · rename_i x
    simp only [T.gives, T.wp, Prod.mk.injEq] at hg
    rw [show ([] : Heap cod).length = 0 from rfl, pop_t, ← hg.2.1, ← hg.2.2]
    simp only [T.wp, Int.ofNat_eq_natCast, and_true]
    exact hg.1
  · exact hg.elim


noncomputable def s_pop : Summ cod := s_pop64
namespace F
def cb (h m : Int) : Int := pop 16 (h.toNat % 2 ^ m.toNat)
def nh (h : Int) (hit : Bool) : Int := 2 * h % 65536 + (if hit then 1 else 0)
end F

noncomputable def L_pop : Sums cod := (102, s_pop) :: L_pop64
noncomputable def C_pop : Cfg cod := mkC L_pop

theorem L_pop_ok : Snd Try.prog cod L_pop := .cons pop_sound L_pop64_ok



theorem i64_wrap {n : Int} (h : i64ok n) : IntKind.wrap .i64 n = n := by
  unfold i64ok at h
  rw [IntKind.wrap_i64]
  omega
theorem u64_wrap {n : Int} (h : 0 ≤ n ∧ n < 18446744073709551616) : IntKind.wrap .u64 n = n := by
  obtain ⟨m, rfl⟩ := Int.eq_ofNat_of_zero_le h.1
  exact wrap_u64 m (by omega)
theorem mask_mod {h m : Int} (hh : 0 ≤ h ∧ h < 65536) (hm : 0 ≤ m ∧ m ≤ 16) : i64ok (IntKind.wrap .i64 (1 * 2 ^ min (Int.toNat m) 64) - 1) ∧ bits .and .i64 h (IntKind.wrap .i64 (1 * 2 ^ min (Int.toNat m) 64) - 1) = ((h.toNat % 2 ^ m.toNat : Nat) : Int) := by
  obtain ⟨a, rfl⟩ := Int.eq_ofNat_of_zero_le hh.1
  obtain ⟨k, rfl⟩ := Int.eq_ofNat_of_zero_le hm.1
  have hk : k ≤ 16 := by omega
  have h1 : 2 ^ k ≤ 2 ^ 16 := Nat.pow_le_pow_right (by omega) hk
  have h2 : 0 < 2 ^ k := Nat.two_pow_pos k
  rw [Int.toNat_natCast, Nat.min_eq_left (by omega), Int.one_mul, show ((2 : Int) ^ k) = ((2 ^ k : Nat) : Int) by norm_cast]
  have h3 : i64ok ((2 ^ k : Nat) : Int) := by unfold i64ok; omega
  rw [i64_wrap h3]
  have h4 : ((2 ^ k : Nat) : Int) - 1 = ((2 ^ k - 1 : Nat) : Int) := by omega
  rw [h4]
  refine ⟨by unfold i64ok; omega, ?_⟩
  rw [i64_and_nat' _ _ (by omega) (by omega), Nat.and_two_pow_sub_one_eq_mod, Int.toNat_natCast]
theorem shl_mod {h : Int} (hh : 0 ≤ h ∧ h < 65536) : bits .and .i64 (IntKind.wrap .i64 (h * 2 ^ min (Int.toNat 1) 64)) 65535 = 2 * h % 65536 := by
  obtain ⟨a, rfl⟩ := Int.eq_ofNat_of_zero_le hh.1
  rw [show min (Int.toNat 1) 64 = 1 from rfl, show ((2 : Int) ^ 1) = 2 from rfl, i64_wrap (by unfold i64ok; omega)]
  have := Nat.and_two_pow_sub_one_eq_mod (a * 2) 16
  rw [show ((a : Int) * 2) = ((a * 2 : Nat) : Int) by omega, show (65535 : Int) = ((65535 : Nat) : Int) from rfl, i64_and_nat' _ _ (by omega) (by omega), show 65535 = 2 ^ 16 - 1 from rfl, this]
  omega
theorem or_one {h : Int} (hh : 0 ≤ h ∧ h < 65536) : bits .or .i64 (2 * h % 65536) 1 = 2 * h % 65536 + 1 := by
  obtain ⟨a, rfl⟩ := Int.eq_ofNat_of_zero_le hh.1
  have e : 2 * (a : Int) % 65536 = ((2 ^ 1 * (a % 32768) : Nat) : Int) := by omega
  rw [e, show (1 : Int) = ((1 : Nat) : Int) from rfl, i64_or_nat' _ _ (by omega) (by omega), ← Nat.two_pow_add_eq_or_of_lt (by omega)]
  omega
theorem pop_le : ∀ (k n : Nat), F.pop k n ≤ k
  | 0, _ => Nat.le_refl _
  | k + 1, n => by
    have := pop_le k (n / 2)
    simp only [F.pop]
    omega
theorem cb_bd (h m : Int) : 0 ≤ F.cb h m ∧ F.cb h m ≤ 16 := by
  have := pop_le 16 (h.toNat % 2 ^ m.toNat)
  unfold F.cb
  omega


def cuts_hits : Cuts := []

theorem hits_t0 (h s : Int) (m : Int) : symF C_pop cuts_hits Try.f93.results.toList 0 400 [.code (codeOf Try.f93)] ⟨argsS Try.f93 [.agg [.int .i64 h, .int .i64 s], .c (.int .i64 m)], ([] : Heap cod)⟩ =
.need (0 ≤ m) (
.need (i64ok (IntKind.wrap IntKind.i64 (1 * 2 ^ min (Int.toNat m) 64) - 1)) (
.need ((0 ≤   IntKind.wrap IntKind.u64 (bits BinOp.and IntKind.i64 h (IntKind.wrap IntKind.i64 (1 * 2 ^ min (Int.toNat m) 64) - 1)) ∧ IntKind.wrap IntKind.u64 (bits BinOp.and IntKind.i64 h (IntKind.wrap IntKind.i64 (1 * 2 ^ min (Int.toNat m) 64) - 1)) <   65536)) (
.ret (.fin (.c (.int .i64 (Int.ofNat   (F.pop 16     (Int.toNat       (IntKind.wrap IntKind.u64         (bits BinOp.and IntKind.i64 h (IntKind.wrap IntKind.i64 (1 * 2 ^ min (Int.toNat m) 64) - 1)))))))) [])))) := by kernel_rfl



theorem hits_run (h s : Int) (m : Int) (b0 : Base) (hb : b0.n = 0) (h0 : 0 ≤ h ∧ h < 65536 ∧ 0 ≤ m ∧ m ≤ 16) : Sym.Runs Try.prog b0 [.code (codeOf Try.f93)] ⟨argsS Try.f93 [.agg [.int .i64 h, .int .i64 s], .c (.int .i64 m)], ([] : Heap cod)⟩ (Sym.Ends Try.prog Try.f93 0 (.c (.int .i64 (F.cb h m))) []) := by
  obtain ⟨a1, a2, a3, a4⟩ := h0
  refine Runs.go (cfg := C_pop) L_pop_ok mixed cuts_hits 400 hb (hits_t0 h s m) ?_
  obtain ⟨g1, g2⟩ := mask_mod ⟨a1, a2⟩ ⟨a3, a4⟩
  have g3 : h.toNat % 2 ^ m.toNat ≤ h.toNat := Nat.mod_le _ _
  rw [g2, u64_wrap (by omega)]
  simp only [T.wp, T.wp_cond, Aft, Int.ofNat_eq_natCast, decide_eq_true_eq, and_true, true_and, Nat.zero_add, Bool.not_eq_true', decide_eq_false_iff_not, Int.toNat_natCast]
  refine ⟨a3, g1, by omega, ?_⟩
  unfold F.cb
  trivial



noncomputable def s_hits : Summ cod := fun args H => match args, H with
  | [.agg [.int .i64 h, .int .i64 s], .c (.int .i64 m)], [] => .need ((0 ≤ h ∧ h < 65536 ∧ 0 ≤ m ∧ m ≤ 16)) (.ret (.c (.int .i64 (F.cb h m)), []))
  | _, _ => .fail


theorem hits_sound : Sound Try.prog cod 93 s_hits := sound_runs (cfg := C_pop) L_pop_ok mixed Try.func93 rfl rfl _ fun args H r news hg b0 hb => by
  unfold s_hits at hg
  split at hg
  · skip
    simp only [T.gives, T.wp, Prod.mk.injEq] at hg
    obtain ⟨q0, rfl, rfl⟩ := hg
    exact hits_run _ _ _ b0 hb (by assumption)
  · exact hg.elim

noncomputable def L_hits : Sums cod := (93, s_hits) :: L_pop
noncomputable def C_hits : Cfg cod := mkC L_hits

theorem L_hits_ok : Snd Try.prog cod L_hits := .cons hits_sound L_pop_ok



namespace F
open Classical in
noncomputable def wh (h s need of : Int) : Int := if need ≤ cb h of then 1 else if s < of then 0 else if (∃ j, 1 ≤ j ∧ j < of ∧ 0 < cb h (of - j) ∧ need ≤ cb h (of - j) + j) then 0 else 2
end F


def cuts_step : Cuts := [(10, [8, 4, 2, 3, 10], 2)]

theorem step_t0 (h s : Int) (hit : Bool) (need : Int) (of : Int) : symF C_hits cuts_step Try.f67.results.toList 0 400 [.code (codeOf Try.f67)] ⟨argsS Try.f67 [.agg [.int .i64 h, .int .i64 s], .c (.bool hit), .c (.int .i64 need), .c (.int .i64 of)], ([] : Heap cod)⟩ =
.need ((0 : Int) ≤ 1) (
 cond (hit) (
 .need (i64ok (s + 1)) (
 .need ((0 ≤   bits BinOp.or IntKind.i64 (bits BinOp.and IntKind.i64 (IntKind.wrap IntKind.i64 (h * 2 ^ min (Int.toNat 1) 64)) 65535)     1 ∧ (bits BinOp.or IntKind.i64 (bits BinOp.and IntKind.i64 (IntKind.wrap IntKind.i64 (h * 2 ^ min (Int.toNat 1) 64)) 65535)     1 <   65536 ∧ (0 ≤ of ∧ of ≤ 16)))) (
 cond (decide   (need ≤     F.cb       (bits BinOp.or IntKind.i64         (bits BinOp.and IntKind.i64 (IntKind.wrap IntKind.i64 (h * 2 ^ min (Int.toNat 1) 64)) 65535) 1)       of)) (
  .ret (.fin (.tup [.agg [.int .i64 (bits BinOp.or IntKind.i64 (bits BinOp.and IntKind.i64 (IntKind.wrap IntKind.i64 (h * 2 ^ min (Int.toNat 1) 64)) 65535) 1), .int .i64 (min 16 (s + 1))], .c (.int .i64 1)]) [])) (
  cond (decide (min 16 (s + 1) < of)) (
   .ret (.fin (.tup [.agg [.int .i64 (bits BinOp.or IntKind.i64 (bits BinOp.and IntKind.i64 (IntKind.wrap IntKind.i64 (h * 2 ^ min (Int.toNat 1) 64)) 65535) 1), .int .i64 (min 16 (s + 1))], .c (.int .i64 0)]) [])) (
   .ret (.cut (cutAt Try.f67 10) ⟨tmG 48 [(2, .c (.int .i64 need)), (0, .c (.int .i64 of)), (0, .c (.ptr 0 0 0)), (3, .c (.ptr 1 0 0)), (1, .c (.int .i64 1))], [.blk [.int .i64 (bits BinOp.or IntKind.i64 (bits BinOp.and IntKind.i64 (IntKind.wrap IntKind.i64 (h * 2 ^ min (Int.toNat 1) 64)) 65535) 1), .int .i64 (min 16 (s + 1))] 113, .blk [.int .i64 0, .int .i64 0] 113]⟩)))))) (
 .need (i64ok (s + 1)) (
 .need ((0 ≤ bits BinOp.and IntKind.i64 (IntKind.wrap IntKind.i64 (h * 2 ^ min (Int.toNat 1) 64)) 65535 ∧ (bits BinOp.and IntKind.i64 (IntKind.wrap IntKind.i64 (h * 2 ^ min (Int.toNat 1) 64)) 65535 < 65536 ∧ (0 ≤ of ∧ of ≤ 16)))) (
 cond (decide (need ≤ F.cb (bits BinOp.and IntKind.i64 (IntKind.wrap IntKind.i64 (h * 2 ^ min (Int.toNat 1) 64)) 65535) of)) (
  .ret (.fin (.tup [.agg [.int .i64 (bits BinOp.and IntKind.i64 (IntKind.wrap IntKind.i64 (h * 2 ^ min (Int.toNat 1) 64)) 65535), .int .i64 (min 16 (s + 1))], .c (.int .i64 1)]) [])) (
  cond (decide (min 16 (s + 1) < of)) (
   .ret (.fin (.tup [.agg [.int .i64 (bits BinOp.and IntKind.i64 (IntKind.wrap IntKind.i64 (h * 2 ^ min (Int.toNat 1) 64)) 65535), .int .i64 (min 16 (s + 1))], .c (.int .i64 0)]) [])) (
   .ret (.cut (cutAt Try.f67 10) ⟨tmG 48 [(2, .c (.int .i64 need)), (0, .c (.int .i64 of)), (0, .c (.ptr 0 0 0)), (3, .c (.ptr 1 0 0)), (1, .c (.int .i64 1))], [.blk [.int .i64 (bits BinOp.and IntKind.i64 (IntKind.wrap IntKind.i64 (h * 2 ^ min (Int.toNat 1) 64)) 65535), .int .i64 (min 16 (s + 1))] 113, .blk [.int .i64 0, .int .i64 0] 113]⟩))))))) := by kernel_rfl


noncomputable def st_step_10 (h s : Int) (hit : Bool) (need : Int) (of : Int) (h2 s2 k : Int) : St cod := ⟨tmG 48 [(2, .c (.int .i64 need)), (0, .c (.int .i64 of)), (0, .c (.ptr 0 0 0)), (3, .c (.ptr 1 0 0)), (1, .c (.int .i64 k))], [.blk [.int .i64 h2, .int .i64 s2] 113, .blk [.int .i64 0, .int .i64 0] 113]⟩


theorem step_t10 (h s : Int) (hit : Bool) (need : Int) (of : Int) (h2 s2 k : Int) : symF C_hits cuts_step Try.f67.results.toList 0 400 (cutAt Try.f67 10) (st_step_10 h s hit need of h2 s2 k) =
 cond (decide (k < of)) (
 .need (i64ok (of - k)) (
 .need ((0 ≤ h2 ∧ (h2 < 65536 ∧ (0 ≤ of - k ∧ of - k ≤ 16)))) (
 cond (decide (0 < F.cb h2 (of - k))) (
  .need (i64ok (F.cb h2 (of - k) + k)) (
  cond (decide (need ≤ F.cb h2 (of - k) + k)) (
   .ret (.fin (.tup [.agg [.int .i64 h2, .int .i64 s2], .c (.int .i64 0)]) [])) (
   .need (i64ok (k + 1)) (
   .ret (.cut (cutAt Try.f67 10) ⟨tmG 48 [(2, .c (.int .i64 need)), (0, .c (.int .i64 of)), (0, .c (.ptr 0 0 0)), (3, .c (.ptr 1 0 0)), (1, .c (.int .i64 (k + 1)))], [.blk [.int .i64 h2, .int .i64 s2] 113, .blk [.int .i64 0, .int .i64 0] 113]⟩))))) (
  .need (i64ok (k + 1)) (
  .ret (.cut (cutAt Try.f67 10) ⟨tmG 48 [(2, .c (.int .i64 need)), (0, .c (.int .i64 of)), (0, .c (.ptr 0 0 0)), (3, .c (.ptr 1 0 0)), (1, .c (.int .i64 (k + 1)))], [.blk [.int .i64 h2, .int .i64 s2] 113, .blk [.int .i64 0, .int .i64 0] 113]⟩)))))) (
 .ret (.fin (.tup [.agg [.int .i64 h2, .int .i64 s2], .c (.int .i64 2)]) [])) := by kernel_rfl



open Classical in
theorem step_loop (h s : Int) (hit : Bool) (need of : Int) (ho : 1 ≤ of ∧ of ≤ 16) (h2 s2 : Int) (hh : 0 ≤ h2 ∧ h2 < 65536) (b0 : Base) (hb : b0.n = 0) (w : Int) : ∀ (m : Nat) (k : Int), 1 ≤ k → k + m = of → w = (if (∃ j, k ≤ j ∧ j < of ∧ 0 < F.cb h2 (of - j) ∧ need ≤ F.cb h2 (of - j) + j) then 0 else 2) →
    Sym.Runs Try.prog b0 (cutAt Try.f67 10) (st_step_10 h s hit need of h2 s2 k) (Sym.Ends Try.prog Try.f67 0 (.tup [.agg [.int .i64 h2, .int .i64 s2], .c (.int .i64 w)]) []) := by
  intro m
  induction m with
  | zero =>
    intro k k1 hm hw
    refine Runs.go (cfg := C_hits) L_hits_ok mixed cuts_step 400 hb (step_t10 h s hit need of h2 s2 k) ?_
    have g1 : ¬ k < of := by omega
    rw [if_neg (by rintro ⟨j, g2, g3, _⟩; omega)] at hw
    simp only [T.wp, T.wp_cond, Aft, Int.ofNat_eq_natCast, decide_eq_true_eq, and_true, true_and, Nat.zero_add, Bool.not_eq_true', decide_eq_false_iff_not, g1, if_false, hw]
  | succ m ih =>
    intro k k1 hm hw
    refine Runs.go (cfg := C_hits) L_hits_ok mixed cuts_step 400 hb (step_t10 h s hit need of h2 s2 k) ?_
    have g1 : k < of := by omega
    have g2 := cb_bd h2 (of - k)
    have split : (∃ j, k ≤ j ∧ j < of ∧ 0 < F.cb h2 (of - j) ∧ need ≤ F.cb h2 (of - j) + j) ↔ (0 < F.cb h2 (of - k) ∧ need ≤ F.cb h2 (of - k) + k) ∨ (∃ j, k + 1 ≤ j ∧ j < of ∧ 0 < F.cb h2 (of - j) ∧ need ≤ F.cb h2 (of - j) + j) := by
      constructor
      · rintro ⟨j, p1, p2, p3⟩
        by_cases p : j = k
        · subst p; exact .inl p3
        · exact .inr ⟨j, by omega, p2, p3⟩
      · rintro (p | ⟨j, p1, p2, p3⟩)
        · exact ⟨k, by omega, g1, p⟩
        · exact ⟨j, by omega, p2, p3⟩
    simp only [split] at hw
    simp only [T.wp, T.wp_cond, Aft, Int.ofNat_eq_natCast, decide_eq_true_eq, and_true, true_and, Nat.zero_add, Bool.not_eq_true', decide_eq_false_iff_not, g1, if_true]
    refine ⟨by unfold i64ok; omega, by omega, ?_⟩
    by_cases p1 : 0 < F.cb h2 (of - k)
    · by_cases p2 : need ≤ F.cb h2 (of - k) + k
      · rw [if_pos (.inl ⟨p1, p2⟩)] at hw
        simp only [p1, p2, if_true, hw, and_true]
        unfold i64ok; omega
      · simp only [p1, p2, if_true, if_false, and_false, false_or] at hw ⊢
        exact ⟨by unfold i64ok; omega, by unfold i64ok; omega, ih (k + 1) (by omega) (by omega) hw⟩
    · simp only [p1, if_false, false_and, false_or] at hw ⊢
      exact ⟨by unfold i64ok; omega, ih (k + 1) (by omega) (by omega) hw⟩
theorem step_run (h s : Int) (hit : Bool) (need : Int) (of : Int) (b0 : Base) (hb : b0.n = 0) (h0 : 0 ≤ h ∧ h < 65536 ∧ 1 ≤ of ∧ of ≤ 16 ∧ 1 ≤ need ∧ need ≤ of ∧ 0 ≤ s ∧ s ≤ 16) : Sym.Runs Try.prog b0 [.code (codeOf Try.f67)] ⟨argsS Try.f67 [.agg [.int .i64 h, .int .i64 s], .c (.bool hit), .c (.int .i64 need), .c (.int .i64 of)], ([] : Heap cod)⟩ (Sym.Ends Try.prog Try.f67 0 (.tup [.agg [.int .i64 (F.nh h hit), .int .i64 (min 16 (s + 1))], .c (.int .i64 (F.wh (F.nh h hit) (min 16 (s + 1)) need of))]) []) := by
  classical
  obtain ⟨a1, a2, a3, a4, a5, a6, a7, a8⟩ := h0
  refine Runs.go (cfg := C_hits) L_hits_ok mixed cuts_step 400 hb (step_t0 h s hit need of) ?_
  rw [shl_mod ⟨a1, a2⟩, or_one ⟨a1, a2⟩]
  have e1 : F.nh h true = 2 * h % 65536 + 1 := rfl
  have e0 : F.nh h false = 2 * h % 65536 := by simp [F.nh]
  have key : ∀ h2, 0 ≤ h2 ∧ h2 < 65536 → Sym.Runs Try.prog b0 (cutAt Try.f67 10) (st_step_10 h s hit need of h2 (min 16 (s + 1)) 1) (Sym.Ends Try.prog Try.f67 0 (.tup [.agg [.int .i64 h2, .int .i64 (min 16 (s + 1))], .c (.int .i64 (if (∃ j, 1 ≤ j ∧ j < of ∧ 0 < F.cb h2 (of - j) ∧ need ≤ F.cb h2 (of - j) + j) then 0 else 2))]) []) := fun h2 hh =>
    step_loop h s hit need of ⟨a3, a4⟩ h2 (min 16 (s + 1)) hh b0 hb _ (of - 1).toNat 1 (by omega) (by omega) rfl
  simp only [T.wp, T.wp_cond, Aft, Int.ofNat_eq_natCast, decide_eq_true_eq, and_true, true_and, Nat.zero_add, Bool.not_eq_true', decide_eq_false_iff_not]
  refine ⟨by omega, ?_⟩
  cases hit
  · rw [e0]
    simp only [Bool.false_eq_true, if_false]
    refine ⟨by unfold i64ok; omega, by omega, ?_⟩
    unfold F.wh
    by_cases p1 : need ≤ F.cb (2 * h % 65536) of
    · simp only [p1, if_true]
    by_cases p2 : min 16 (s + 1) < of
    · simp only [p1, p2, if_true, if_false]
    simp only [p1, p2, if_false]
    exact key _ (by omega)
  · rw [e1]
    simp only [if_true]
    refine ⟨by unfold i64ok; omega, by omega, ?_⟩
    unfold F.wh
    by_cases p1 : need ≤ F.cb (2 * h % 65536 + 1) of
    · simp only [p1, if_true]
    by_cases p2 : min 16 (s + 1) < of
    · simp only [p1, p2, if_true, if_false]
    simp only [p1, p2, if_false]
    exact key _ (by omega)



noncomputable def s_step : Summ cod := fun args H => match args, H with
  | [.agg [.int .i64 h, .int .i64 s], .c (.bool hit), .c (.int .i64 need), .c (.int .i64 of)], [] => .need ((0 ≤ h ∧ h < 65536 ∧ 1 ≤ of ∧ of ≤ 16 ∧ 1 ≤ need ∧ need ≤ of ∧ 0 ≤ s ∧ s ≤ 16)) (.ret (.tup [.agg [.int .i64 (F.nh h hit), .int .i64 (min 16 (s + 1))], .c (.int .i64 (F.wh (F.nh h hit) (min 16 (s + 1)) need of))], []))
  | _, _ => .fail


theorem step_sound : Sound Try.prog cod 67 s_step := sound_runs (cfg := C_hits) L_hits_ok mixed Try.func67 rfl rfl _ fun args H r news hg b0 hb => by
  unfold s_step at hg
  split at hg
  · skip
    simp only [T.gives, T.wp, Prod.mk.injEq] at hg
    obtain ⟨q0, rfl, rfl⟩ := hg
    exact step_run _ _ _ _ _ b0 hb (by assumption)
  · exact hg.elim

noncomputable def L_step : Sums cod := (67, s_step) :: L_hits
noncomputable def C_step : Cfg cod := mkC L_step

theorem L_step_ok : Snd Try.prog cod L_step := .cons step_sound L_hits_ok


end
end Go.Proofs.Ythljcjighomgkaa
