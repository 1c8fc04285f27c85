/- Parts of the proof, one behind the other: FlP, FlQ. -/
import Derived.Test.YtbkpgpkeecnjpaaSym2
import Derived.Laws.BitsAllLaws
import Derived.Laws.Bits64b
section
/- Whole numbers as doubles: their words, how they compare, one times them. -/
namespace Go.Proofs.Ytbkpgpkeecnjpaa
open Sym Ieee
set_option maxRecDepth 100000
/-- The word of a whole number below 2^53. -/
def F.dbl (n : Nat) : Nat := if n = 0 then 0 else (n.log2 + 1022) * 4503599627370496 + n * 2 ^ (52 - n.log2)
theorem log_le {n : Nat} (h : n ≠ 0) (h1 : n < 9007199254740992) : n.log2 ≤ 52 := by
  have : n.log2 < 53 := (Nat.log2_lt h).2 h1
  omega
/-- The significand: between 2^52 and 2^53. -/
theorem sig_bd {n : Nat} (h : n ≠ 0) (h1 : n < 9007199254740992) : 4503599627370496 ≤ n * 2 ^ (52 - n.log2) ∧ n * 2 ^ (52 - n.log2) < 9007199254740992 := by
  have hl := log_le h h1
  have h2 := Nat.log2_self_le h
  have h3 := Nat.lt_log2_self (n := n)
  have e1 : 2 ^ n.log2 * 2 ^ (52 - n.log2) = 4503599627370496 := by rw [← Nat.pow_add, show n.log2 + (52 - n.log2) = 52 by omega]
  have e2 : 2 ^ (n.log2 + 1) * 2 ^ (52 - n.log2) = 9007199254740992 := by rw [← Nat.pow_add, show n.log2 + 1 + (52 - n.log2) = 53 by omega]
  have hp : 0 < 2 ^ (52 - n.log2) := Nat.pow_pos (by decide)
  constructor
  · rw [← e1]; exact Nat.mul_le_mul_right _ h2
  · rw [← e2]; exact Nat.mul_lt_mul_of_pos_right h3 hp
theorem log_sig {m : Nat} (h1 : 4503599627370496 ≤ m) (h2 : m < 9007199254740992) : m.log2 = 52 := by
  have h0 : m ≠ 0 := by omega
  have a := (Nat.log2_lt h0 (k := 53)).2 h2
  have b : ¬ m.log2 < 52 := fun h => by
    have := (Nat.log2_lt h0 (k := 52)).1 h
    omega
  omega
theorem cut0 (m : Nat) (way : Toward) (neg : Bool) (hw : way = .even) : way.cut neg m 0 = m := by
  subst hw
  unfold Toward.cut
  simp [Nat.mod_one]
theorem cut52 (m : Nat) (h1 : 4503599627370496 ≤ m) : Toward.even.cut false (4503599627370496 * m) 52 = m := by
  unfold Toward.cut
  have hlog : 52 ≤ (4503599627370496 * m).log2 + 2 := by
    have : ¬ (4503599627370496 * m).log2 < 50 := fun h => by
      have := (Nat.log2_lt (by omega) (k := 50)).1 h
      omega
    omega
  rw [Nat.min_eq_left hlog]
  have e : (1 : Nat) <<< 52 = 4503599627370496 := by decide
  simp [e, Nat.mul_div_cancel_left]
theorem rung_le {k m : Nat} (h : k ≤ 1974) (h2 : m < 9007199254740992) : k * 4503599627370496 + m ≤ 9218868437227405312 := by omega
theorem nearest_sig (m : Nat) (p : Int) (h1 : 4503599627370496 ≤ m) (h2 : m < 9007199254740992) (hp1 : -1074 ≤ p) (hp2 : p ≤ 900) : double.nearest false m p = (p + 1074).toNat * 4503599627370496 + m := by
  unfold Format.nearest
  rw [if_neg (by omega), log_sig h1 h2]
  have hlast : max (p + ((52 : Nat) : Int) - (double.fractionBits : Int)) double.leastPlace = p := by
    have a : (double.fractionBits : Int) = 52 := rfl
    have b : double.leastPlace = -1074 := by decide
    rw [a, b]
    omega
  simp only [hlast]
  have a : p - double.leastPlace = p + 1074 := by
    have b : double.leastPlace = -1074 := by decide
    rw [b]; omega
  rw [a, show (p - p).toNat = 0 by omega, cut0 _ _ _ rfl]
  have hb : double.binade = 4503599627370496 := by decide
  have hi : double.infRung = 9218868437227405312 := by decide
  rw [hb, hi]
  clear hb hi a hlast
  unfold Format.word
  have hz : (p + 1074).toNat * 4503599627370496 + m ≤ 9218868437227405312 := rung_le (by omega) h2
  have hs : m <<< 0 = m := rfl
  rw [hs, Nat.min_eq_left hz]
  rfl
theorem nearest_nat {n : Nat} (h1 : n < 9007199254740992) : double.nearest false n 0 = F.dbl n := by
  unfold F.dbl
  by_cases h : n = 0
  · subst h
    rfl
  · rw [if_neg h]
    have hl := log_le h h1
    obtain ⟨s1, s2⟩ := sig_bd h h1
    unfold Format.nearest
    rw [if_neg h]
    have a : (double.fractionBits : Int) = 52 := rfl
    have b : double.leastPlace = -1074 := by decide
    have hlast : max (0 + (n.log2 : Int) - (double.fractionBits : Int)) double.leastPlace = (n.log2 : Int) - 52 := by
      rw [a, b]
      omega
    simp only [hlast]
    rw [show ((0 : Int) - ((n.log2 : Int) - 52)).toNat = 52 - n.log2 by omega, show ((n.log2 : Int) - 52 - 0).toNat = 0 by omega, cut0 _ _ _ rfl, b, show ((n.log2 : Int) - 52 - -1074).toNat = n.log2 + 1022 by omega]
    have hb : double.binade = 4503599627370496 := by decide
    have hi : double.infRung = 9218868437227405312 := by decide
    rw [hb, hi, Nat.shiftLeft_eq]
    clear hb hi a b hlast
    unfold Format.word
    have hz : (n.log2 + 1022) * 4503599627370496 + n * 2 ^ (52 - n.log2) ≤ 9218868437227405312 := rung_le (by omega) s2
    rw [Nat.min_eq_left hz]
    rfl
theorem i2f_nat {n : Nat} (h1 : n < 9007199254740992) : F.i2f .f64 (n : Int) = F.dbl n := by
  unfold F.i2f FloatKind.nearest FloatKind.encode
  have e1 : decide ((n : Int) < 0) = false := decide_eq_false (by omega)
  rw [e1, Int.natAbs_natCast]
  exact nearest_nat h1
theorem dbl_lt {n : Nat} (h1 : n < 9007199254740992) : F.dbl n < 9223372036854775808 := by
  unfold F.dbl
  split
  · decide
  · rename_i h
    have hl := log_le h h1
    obtain ⟨s1, s2⟩ := sig_bd h h1
    have := Nat.mul_le_mul_right 4503599627370496 (show n.log2 + 1022 ≤ 1074 by omega)
    omega
/-- What the word stands for. -/
theorem read_dbl {n : Nat} (h : n ≠ 0) (h1 : n < 9007199254740992) : double.read (F.dbl n) = .number false (n * 2 ^ (52 - n.log2)) ((n.log2 : Int) - 52) := by
  have hlt := dbl_lt h1
  have hl := log_le h h1
  obtain ⟨s1, s2⟩ := sig_bd h h1
  have hd : F.dbl n = (n.log2 + 1023) * 4503599627370496 + (n * 2 ^ (52 - n.log2) - 4503599627370496) := by
    unfold F.dbl
    rw [if_neg h, show n.log2 + 1023 = (n.log2 + 1022) + 1 by omega, Nat.add_mul (n.log2 + 1022) 1]
    omega
  have hw : double.signWeight = 9223372036854775808 := by decide
  have hb : double.binade = 4503599627370496 := by decide
  have hi : double.infRung = 9218868437227405312 := by decide
  have hp : double.leastPlace = -1074 := by decide
  unfold Format.read
  simp only [hw, hb, hi, hp]
  rw [Nat.div_eq_of_lt hlt, Nat.mod_eq_of_lt hlt]
  generalize n * 2 ^ (52 - n.log2) = m at *
  generalize n.log2 = e at *
  rw [hd]
  have hq : ((e + 1023) * 4503599627370496 + (m - 4503599627370496)) / 4503599627370496 = e + 1023 := by omega
  have hr : ((e + 1023) * 4503599627370496 + (m - 4503599627370496)) % 4503599627370496 = m - 4503599627370496 := by omega
  rw [if_neg (by omega), if_pos (by omega), hq, hr]
  simp only [Datum.number.injEq]
  refine ⟨rfl, by omega, by omega⟩
theorem order_num (m n : Nat) (i j : Int) : (Datum.number false m i).order (.number false n j) = some (compare ((m <<< (i - min i j).toNat : Nat) : Int) ((n <<< (j - min i j).toNat : Nat) : Int)) := rfl
theorem cmp_lt' {a b : Int} (h : a < b) : compare a b = .lt := by
  rw [compare, instOrdInt]
  simp [compareOfLessAndEq, h]
theorem cmp_gt' {a b : Int} (h : b < a) : compare a b = .gt := by
  rw [compare, instOrdInt]
  simp [compareOfLessAndEq, show ¬ a < b by omega, show ¬ a = b by omega]
theorem cmp_eq' (a : Int) : compare a a = .eq := by
  rw [compare, instOrdInt]
  simp [compareOfLessAndEq]
/-- Two whole numbers compare as they are. -/
theorem order_dbl {n m : Nat} (hn : n ≠ 0) (hn1 : n < 9007199254740992) (hm : m ≠ 0) (hm1 : m < 9007199254740992) : double.order (F.dbl n) (F.dbl m) = some (compare (n : Int) (m : Int)) := by
  unfold Format.order
  rw [read_dbl hn hn1, read_dbl hm hm1, order_num]
  have hl := log_le hn hn1
  have hk := log_le hm hm1
  obtain ⟨c, hc⟩ : ∃ c, c = min n.log2 m.log2 := ⟨_, rfl⟩
  have e1 : (((n.log2 : Int) - 52) - min ((n.log2 : Int) - 52) ((m.log2 : Int) - 52)).toNat = n.log2 - c := by omega
  have e2 : (((m.log2 : Int) - 52) - min ((n.log2 : Int) - 52) ((m.log2 : Int) - 52)).toNat = m.log2 - c := by omega
  rw [e1, e2, Nat.shiftLeft_eq, Nat.shiftLeft_eq, Nat.mul_assoc, Nat.mul_assoc, ← Nat.pow_add, ← Nat.pow_add, show 52 - n.log2 + (n.log2 - c) = 52 - c by omega, show 52 - m.log2 + (m.log2 - c) = 52 - c by omega]
  have hp : 0 < 2 ^ (52 - c) := Nat.pow_pos (by decide)
  rcases Nat.lt_trichotomy n m with h | h | h
  · rw [cmp_lt' (show (n : Int) < m by omega), cmp_lt' (Int.ofNat_lt.2 (Nat.mul_lt_mul_of_pos_right h hp))]
  · subst h
    rw [cmp_eq', cmp_eq']
  · rw [cmp_gt' (show (m : Int) < n by omega), cmp_gt' (Int.ofNat_lt.2 (Nat.mul_lt_mul_of_pos_right h hp))]
theorem order_pos0 {n : Nat} (hn : n ≠ 0) (hn1 : n < 9007199254740992) : double.order (F.dbl n) 0 = some .gt := by
  have e : double.read 0 = .number false 0 (-1074) := by decide
  unfold Format.order
  rw [read_dbl hn hn1, e, order_num, Nat.zero_shiftLeft, cmp_gt']
  obtain ⟨s1, _⟩ := sig_bd hn hn1
  rw [Nat.shiftLeft_eq]
  have hp : 0 < 2 ^ (((n.log2 : Int) - 52) - min ((n.log2 : Int) - 52) (-1074)).toNat := Nat.pow_pos (by decide)
  have := Nat.mul_pos (show 0 < n * 2 ^ (52 - n.log2) by omega) hp
  omega
end Go.Proofs.Ytbkpgpkeecnjpaa
end
section
/- Whole numbers as doubles: one times them, and what math.Ldexp asks of them. -/
namespace Go.Proofs.Ytbkpgpkeecnjpaa
open Sym Ieee
set_option maxRecDepth 100000
theorem dbl_split {n : Nat} (h : n ≠ 0) (h1 : n < 9007199254740992) : ∃ e f : Nat, e ≤ 52 ∧ f < 4503599627370496 ∧ F.dbl n = (e + 1023) * 4503599627370496 + f := by
  have hl := log_le h h1
  obtain ⟨s1, s2⟩ := sig_bd h h1
  refine ⟨n.log2, n * 2 ^ (52 - n.log2) - 4503599627370496, hl, by omega, ?_⟩
  unfold F.dbl
  rw [if_neg h, show n.log2 + 1023 = (n.log2 + 1022) + 1 by omega, Nat.add_mul (n.log2 + 1022) 1]
  omega
theorem log_two {m : Nat} (h1 : 4503599627370496 ≤ m) (h2 : m < 9007199254740992) : (4503599627370496 * m).log2 = 104 := by
  have h0 : 4503599627370496 * m ≠ 0 := by omega
  have a := (Nat.log2_lt h0 (k := 105)).2 (by omega)
  have b : ¬ (4503599627370496 * m).log2 < 104 := fun h => by
    have := (Nat.log2_lt h0 (k := 104)).1 h
    omega
  omega
theorem nearest_two {n : Nat} (h : n ≠ 0) (h1 : n < 9007199254740992) : double.nearest false (4503599627370496 * (n * 2 ^ (52 - n.log2))) ((n.log2 : Int) - 104) = F.dbl n := by
  unfold F.dbl
  rw [if_neg h]
  have hl := log_le h h1
  obtain ⟨s1, s2⟩ := sig_bd h h1
  generalize n * 2 ^ (52 - n.log2) = m at *
  unfold Format.nearest
  rw [if_neg (by omega), log_two s1 s2]
  have a : (double.fractionBits : Int) = 52 := rfl
  have b : double.leastPlace = -1074 := by decide
  have hlast : max ((n.log2 : Int) - 104 + ((104 : Nat) : Int) - (double.fractionBits : Int)) double.leastPlace = (n.log2 : Int) - 52 := by
    rw [a, b]
    omega
  simp only [hlast]
  rw [show ((n.log2 : Int) - 104 - ((n.log2 : Int) - 52)).toNat = 0 by omega, show ((n.log2 : Int) - 52 - ((n.log2 : Int) - 104)).toNat = 52 by omega, Nat.shiftLeft_zero, cut52 _ s1, b, show ((n.log2 : Int) - 52 - -1074).toNat = n.log2 + 1022 by omega]
  have hb : double.binade = 4503599627370496 := by decide
  have hi : double.infRung = 9218868437227405312 := by decide
  rw [hb, hi]
  clear hb hi a b hlast
  unfold Format.word
  have hz : (n.log2 + 1022) * 4503599627370496 + m ≤ 9218868437227405312 := rung_le (by omega) s2
  rw [Nat.min_eq_left hz]
  rfl
theorem mul_one {n : Nat} (h : n ≠ 0) (h1 : n < 9007199254740992) : double.mul 4607182418800017408 (F.dbl n) = some (F.dbl n) := by
  have e : double.read 4607182418800017408 = .number false 4503599627370496 (-52) := by decide
  have r := nearest_two h h1
  unfold Format.mul
  rw [e, read_dbl h h1]
  show some (double.nearest false _ _) = _
  rw [show (-52 : Int) + ((n.log2 : Int) - 52) = (n.log2 : Int) - 104 by omega, r]
theorem fmul_one {n : Nat} (h : n ≠ 0) (h1 : n < 9007199254740992) : F.fmulOk .f64 4607182418800017408 (F.dbl n) ∧ F.fmul .f64 4607182418800017408 (F.dbl n) = F.dbl n := by
  unfold F.fmulOk F.fmul
  have e : FloatKind.format .f64 = double := rfl
  rw [e, mul_one h h1]
  exact ⟨rfl, rfl⟩
theorem feq_self {n : Nat} (h : n ≠ 0) (h1 : n < 9007199254740992) : F.feq .f64 (F.dbl n) (F.dbl n) = true := by
  unfold F.feq
  have e : FloatKind.format .f64 = double := rfl
  rw [e, order_dbl h h1 h h1, cmp_eq']
  rfl
theorem feq_zero {n : Nat} (h : n ≠ 0) (h1 : n < 9007199254740992) : F.feq .f64 (F.dbl n) 0 = false := by
  unfold F.feq
  have e : FloatKind.format .f64 = double := rfl
  rw [e, order_pos0 h h1]
  rfl
theorem feq_zz : F.feq .f64 0 0 = true := by decide
theorem fgt_max {n : Nat} (h : n ≠ 0) (h1 : n < 9007199254740992) : F.fgt .f64 (F.dbl n) 9218868437227405311 = false := by
  have e0 : double.read 9218868437227405311 = .number false 9007199254740991 971 := by decide
  unfold F.fgt
  have e : FloatKind.format .f64 = double := rfl
  rw [e]
  unfold Format.order
  rw [read_dbl h h1, e0, order_num]
  have hl := log_le h h1
  obtain ⟨s1, s2⟩ := sig_bd h h1
  generalize n * 2 ^ (52 - n.log2) = m at *
  rw [show ((n.log2 : Int) - 52 - min ((n.log2 : Int) - 52) 971).toNat = 0 by omega, Nat.shiftLeft_eq, Nat.shiftLeft_eq]
  have hp : 2 ^ 1 ≤ 2 ^ ((971 : Int) - min ((n.log2 : Int) - 52) 971).toNat := Nat.pow_le_pow_right (by decide) (by omega)
  have := Nat.mul_le_mul_left 9007199254740991 hp
  rw [cmp_lt' (by omega)]
  rfl
theorem flt_least {n : Nat} (h : n ≠ 0) (h1 : n < 9007199254740992) : F.flt .f64 (F.dbl n) 4503599627370496 = false := by
  have e0 : double.read 4503599627370496 = .number false 4503599627370496 (-1074) := by decide
  unfold F.flt
  have e : FloatKind.format .f64 = double := rfl
  rw [e]
  unfold Format.order
  rw [read_dbl h h1, e0, order_num]
  have hl := log_le h h1
  obtain ⟨s1, s2⟩ := sig_bd h h1
  generalize n * 2 ^ (52 - n.log2) = m at *
  rw [show ((-1074 : Int) - min ((n.log2 : Int) - 52) (-1074)).toNat = 0 by omega, Nat.shiftLeft_eq, Nat.shiftLeft_eq]
  have hp : 2 ^ 1 ≤ 2 ^ ((n.log2 : Int) - 52 - min ((n.log2 : Int) - 52) (-1074)).toNat := Nat.pow_le_pow_right (by decide) (by omega)
  have := Nat.mul_le_mul_left m hp
  rw [cmp_gt' (by omega)]
  rfl
/-- The bits that math.ldexp takes apart and puts together again. -/
theorem dbl_abs {n : Nat} (h1 : n < 9007199254740992) : bits .andNot .u64 (F.dbl n : Int) 9223372036854775808 = (F.dbl n : Int) := by
  have hd := dbl_lt h1
  have := u64_andNot_nat (F.dbl n) 9223372036854775808 (by omega) (by decide)
  rw [show ((9223372036854775808 : Nat) : Int) = 9223372036854775808 from rfl] at this
  rw [this, show 18446744073709551615 - 9223372036854775808 = 2 ^ 63 - 1 by decide, Nat.and_two_pow_sub_one_eq_mod, Nat.mod_eq_of_lt hd]
theorem nat_hi (x : Nat) (h : x < 9223372036854775808) : x &&& 9227875636482146303 = x % 4503599627370496 := by
  have e : 9227875636482146303 = 9223372036854775808 ||| 4503599627370495 := by decide
  rw [e, Nat.and_or_distrib_left, show 4503599627370495 = 2 ^ 52 - 1 by decide, Nat.and_two_pow_sub_one_eq_mod, show 9223372036854775808 = 2 ^ 63 by decide, nat_bit, Nat.div_eq_of_lt (by simpa using h)]
  simp
theorem dbl_parts {n : Nat} (h : n ≠ 0) (h1 : n < 9007199254740992) : ∃ e : Nat, e ≤ 52 ∧ (F.dbl n : Int).fdiv 4503599627370496 = (e : Int) + 1023 ∧
    bits .or .u64 (bits .andNot .u64 (F.dbl n : Int) 9218868437227405312) (IntKind.u64.wrap (((e : Int) + 1023) * 4503599627370496)) = (F.dbl n : Int) := by
  obtain ⟨e, f, he, hf, hd⟩ := dbl_split h h1
  have hlt := dbl_lt h1
  refine ⟨e, he, ?_, ?_⟩
  · rw [hd, Int.fdiv_eq_ediv_of_nonneg _ (by decide)]
    omega
  · have a := u64_andNot_nat (F.dbl n) 9218868437227405312 (by omega) (by decide)
    rw [show ((9218868437227405312 : Nat) : Int) = 9218868437227405312 from rfl] at a
    rw [a, show 18446744073709551615 - 9218868437227405312 = 9227875636482146303 by decide, nat_hi _ hlt]
    have em : F.dbl n % 4503599627370496 = f := by rw [hd]; omega
    have ew : IntKind.u64.wrap (((e : Int) + 1023) * 4503599627370496) = (((e + 1023) * 4503599627370496 : Nat) : Int) := by
      rw [IntKind.wrap_u64]
      omega
    rw [em, ew, u64_or_nat _ _ (by omega) (by omega), Nat.or_comm, show 4503599627370496 = 2 ^ 52 by decide, nat_join 52 _ _ (by simp) (by omega), hd]
theorem exp_mask : ∀ e : Fin 53, bits .and .i64 (((e.val : Nat) : Int) + 1023) 2047 = ((e.val : Nat) : Int) + 1023 := by decide
end Go.Proofs.Ytbkpgpkeecnjpaa
end
