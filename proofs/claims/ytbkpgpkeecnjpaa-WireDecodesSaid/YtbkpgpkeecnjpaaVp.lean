/- What a frame's bytes read as: the plain law under WireDecodes. -/
import Derived.Test.YtbkpgpkeecnjpaaVb
namespace Go.Proofs.Ytbkpgpkeecnjpaa
open Sym Go.RowKit
noncomputable section
set_option maxRecDepth 100000
set_option maxHeartbeats 4000000
namespace F
def p0 : Int × Int × Int × Int × Int × Int := (0, 0, 0, 0, 0, 0)
def numF (s : List UInt8) : Int := s.foldl (fun n c => n * 256 + (c.toNat : Int)) 0
def sl (s : List UInt8) (a n : Nat) : List UInt8 := (s.drop a).take n
def bt (s : List UInt8) (k : Nat) : Int := num (sl s (9 + 16 * k) 8)
def pl (s : List UInt8) (r t x : Int) (k : Nat) : Int × Int × Int × Int × Int × Int := (r, t, x, num (sl s (17 + 16 * k) 2), num (sl s (19 + 16 * k) 4), num (sl s (23 + 16 * k) 2) - 1)
def gA (b : Int) : Int := tofA b
def gB (b : Int) : Int := Sym.F.f2i .f64 b.toNat .i64
def gL (g : Int → Int) (s : List UInt8) (r t : Int) : Nat → List (Int × Int × Int × Int × Int × Int)
  | 0 => []
  | k + 1 => gL g s r t k ++ [pl s r t (g (bt s k)) k]
def rR (s : List UInt8) : Int := num (sl s 2 1)
def rT (s : List UInt8) : Int := num (sl s 3 4)
def rN (s : List UInt8) : Int := num (sl s 7 2)
def rZ (s : List UInt8) : Int := 11 + 16 * rN s
def fine (g : Int → Int) (s : List UInt8) : Prop := chk (rR s) (rT s) (gL g s (rR s) (rT s) (rN s).toNat) = 0 ∧ frame (rR s) (rT s) (gL g s (rR s) (rT s) (rN s).toNat) = s.take (rZ s).toNat
def hd (s : List UInt8) : Prop := (0 < s.length ∧ (s.getD 0 0).toNat ≠ 83) ∨ (1 < s.length ∧ (s.getD 1 0).toNat ≠ 87)
open Classical in
def rE (s : List UInt8) : Int := if hd s then 3 else if s.length < 9 then 8 else if 200000 < rT s ∨ 32 < rN s then 3 else if (s.length : Int) < rZ s then 8
  else if wsum (s.take (rZ s - 2).toNat) ≠ num (sl s (rZ s - 2).toNat 2) then 13 else if fine gB s then 0 else 3
def oR (s : List UInt8) : Int := if rE s = 0 then rR s else 0
def oT (s : List UInt8) : Int := if rE s = 0 then rT s else 0
def oZ (s : List UInt8) : Int := if rE s = 0 then rZ s else 0
def oL (s : List UInt8) : List (Int × Int × Int × Int × Int × Int) := if rE s = 0 then gL gB s (rR s) (rT s) (rN s).toNat else []
end F
theorem numF_go (b : List UInt8) : ∀ n : Int, b.foldl (fun n c => n * 256 + (c.toNat : Int)) n = n * 256 ^ b.length + F.numF b := by
  unfold F.numF
  induction b with
  | nil => intro n; simp
  | cons c b ih =>
    intro n
    rw [List.foldl_cons, List.foldl_cons, ih, ih (0 * 256 + (c.toNat : Int)), List.length_cons, Int.pow_succ, Int.add_mul, Int.mul_assoc, Int.mul_comm 256, Int.zero_mul, Int.zero_add]
    omega
theorem numF_append (a b : List UInt8) : F.numF (a ++ b) = F.numF a * 256 ^ b.length + F.numF b := by
  rw [F.numF, List.foldl_append, numF_go]
  rfl
theorem numF_one (c : UInt8) : F.numF [c] = (c.toNat : Int) := by simp [F.numF]
theorem numA_take (s : List UInt8) : ∀ k : Nat, k ≤ s.length → F.numA s k = F.numF (s.take k)
  | 0, _ => rfl
  | k + 1, h => by
    have e : s.take (k + 1) = s.take k ++ [s.getD k 0] := by
      rw [List.take_succ_eq_append_getElem (by omega), List.getD_eq_getElem?_getD, List.getElem?_eq_getElem (by omega)]
      rfl
    rw [e, numF_append, numF_one, ← numA_take s k (by omega)]
    show F.numA s k * 256 + _ = _
    simp
theorem num_eq (s : List UInt8) : F.num s = F.numF s := by rw [F.num, numA_take s _ (Nat.le_refl _), List.take_length]
theorem num_append (a b : List UInt8) : F.num (a ++ b) = F.num a * 256 ^ b.length + F.num b := by
  rw [num_eq, num_eq, num_eq, numF_append]
theorem num_byt (n : Int) : ∀ k : Nat, F.num (F.byt n k) = n % 256 ^ k := by
  intro k
  induction k generalizing n with
  | zero => simp [F.byt, F.num, F.numA]
  | succ k ih =>
    have h0 := Int.emod_nonneg n (show (256 : Int) ≠ 0 by decide)
    have h1 := Int.emod_lt_of_pos n (show (0 : Int) < 256 by decide)
    have e : ((UInt8.ofNat (n % 256).toNat).toNat : Int) = n % 256 := by
      rw [UInt8.toNat_ofNat']
      omega
    rw [F.byt, num_append, ih, num_eq, numF_one, e]
    have hp : (0 : Int) < 256 ^ k := Int.pow_pos (by decide)
    simp only [List.length_cons, List.length_nil, Nat.zero_add, Int.pow_one]
    rw [Int.pow_succ]
    generalize (256 : Int) ^ k = P at *
    have e2 : n = (n / 256 % P * 256 + n % 256) + (P * 256) * (n / 256 / P) := by
      have q1 := Int.emod_add_mul_ediv n 256
      have q2 := Int.emod_add_mul_ediv (n / 256) P
      rw [Int.mul_right_comm]
      generalize P * (n / 256 / P) = w at *
      omega
    have b0 := Int.emod_nonneg (n / 256) (show P ≠ 0 by omega)
    have b1 := Int.emod_lt_of_pos (n / 256) hp
    have e3 : n % (P * 256) = ((n / 256 % P * 256 + n % 256) + (P * 256) * (n / 256 / P)) % (P * 256) := congrArg (fun x => x % (P * 256)) e2
    rw [Int.add_mul_emod_self_left, Int.emod_eq_of_lt (a := n / 256 % P * 256 + n % 256) (by omega) (by omega)] at e3
    exact e3.symm
theorem num_bd (s : List UInt8) : 0 ≤ F.num s ∧ F.num s < 256 ^ s.length := numA_bd s s.length
theorem frL_drop : ∀ (l : List (Int × Int × Int × Int × Int × Int)) (k : Nat), (F.frL l).drop (16 * k) = F.frL (l.drop k)
  | l, 0 => by simp
  | [], k + 1 => by simp [F.frL]
  | p :: l, k + 1 => by
    have e : F.frL (p :: l) = F.frP p ++ F.frL l := rfl
    rw [e, List.drop_append, List.drop_of_length_le (by rw [frP_len]; omega), frP_len, List.nil_append, show 16 * (k + 1) - 16 = 16 * k by omega, frL_drop l k]
    rfl
theorem sl_take (s : List UInt8) {a n z : Nat} (h : a + n ≤ z) : F.sl (s.take z) a n = F.sl s a n := by
  unfold F.sl
  rw [List.drop_take, List.take_take, Nat.min_eq_left (by omega)]
/-- The bytes of a frame's plot begin with the range's word. -/
theorem frame_bt (r t : Int) (l : List (Int × Int × Int × Int × Int × Int)) {k : Nat} (h : k < l.length) : F.sl (F.frame r t l) (9 + 16 * k) 8 = F.byt (Sym.F.i2f .f64 (l.getD k F.p0).2.2.1 : Nat) 8 := by
  have hl : ∀ l : List (Int × Int × Int × Int × Int × Int), (F.frL l).length = 16 * l.length := by
    intro l
    unfold F.frL
    induction l with
    | nil => rfl
    | cons p l ih => rw [List.flatMap_cons, List.length_append, frP_len, ih, List.length_cons]; omega
  have e0 : F.frame r t l = F.frH r t l.length ++ (F.frL l ++ F.byt (F.u64 (F.wsum (F.frB r t l))) 2) := by
    rw [F.frame, F.frB, List.append_assoc]
  have e1 : (F.frame r t l).drop (9 + 16 * k) = (F.frL l ++ F.byt (F.u64 (F.wsum (F.frB r t l))) 2).drop (16 * k) := by
    rw [e0, ← List.drop_drop, List.drop_left' (frH_len ..)]
  have e : l.drop k = l.getD k F.p0 :: l.drop (k + 1) := by
    rw [List.drop_eq_getElem_cons h, List.getD_eq_getElem?_getD, List.getElem?_eq_getElem h]
    rfl
  have e2 : F.frL (l.getD k F.p0 :: l.drop (k + 1)) = F.frP (l.getD k F.p0) ++ F.frL (l.drop (k + 1)) := rfl
  unfold F.sl
  rw [e1, List.drop_append_of_le_length (by rw [hl]; omega), frL_drop, e, e2]
  generalize l.getD k F.p0 = p
  rw [F.frP, List.append_assoc, List.append_assoc, List.append_assoc, List.append_assoc, List.take_append_of_le_length (by rw [byt_len]; omega), List.take_of_length_le (by rw [byt_len]; omega)]
theorem gL_len (g : Int → Int) (s : List UInt8) (r t : Int) : ∀ n : Nat, (F.gL g s r t n).length = n
  | 0 => rfl
  | n + 1 => by rw [F.gL, List.length_append, gL_len g s r t n]; rfl
theorem gL_get (g : Int → Int) (s : List UInt8) (r t : Int) : ∀ (n k : Nat), k < n → (F.gL g s r t n).getD k F.p0 = F.pl s r t (g (F.bt s k)) k
  | n + 1, k, h => by
    have hl := gL_len g s r t n
    rw [F.gL, List.getD_eq_getElem?_getD]
    by_cases e : k = n
    · subst e
      rw [List.getElem?_append_right (by omega), hl, Nat.sub_self]
      rfl
    · rw [List.getElem?_append_left (by omega), ← List.getD_eq_getElem?_getD, gL_get g s r t n k (by omega)]
theorem gL_congr {g g' : Int → Int} {s : List UInt8} {r t : Int} : ∀ {n : Nat}, (∀ k, k < n → g (F.bt s k) = g' (F.bt s k)) → F.gL g s r t n = F.gL g' s r t n
  | 0, _ => rfl
  | n + 1, h => by rw [F.gL, F.gL, gL_congr (fun k hk => h k (by omega)), h n (by omega)]
/-- In a frame that is right each word is a whole number's. -/
theorem fine_word {g : Int → Int} {s : List UInt8} (hz : F.rZ s ≤ s.length) (h : F.fine g s) {k : Nat} (hk : k < (F.rN s).toNat) : ∃ n : Nat, n ≤ 2000000 ∧ F.bt s k = (F.dbl n : Int) := by
  obtain ⟨h1, h2⟩ := h
  have hl := gL_len g s (F.rR s) (F.rT s) (F.rN s).toNat
  have hg := gL_get g s (F.rR s) (F.rT s) (F.rN s).toNat k hk
  generalize F.gL g s (F.rR s) (F.rT s) (F.rN s).toNat = l at *
  have hb := frame_bt (F.rR s) (F.rT s) l (k := k) (by omega)
  have hzz : F.rZ s = 11 + 16 * F.rN s := rfl
  rw [h2, sl_take s (by omega)] at hb
  obtain ⟨_, _, hc⟩ := chk_0 h1
  have hp := (chkL_0 hc (l.getD k F.p0) (getD_mem _ (by omega))).2.1
  generalize (l.getD k F.p0).2.2.1 = x at *
  refine ⟨x.toNat, by omega, ?_⟩
  have ex : x = ((x.toNat : Nat) : Int) := by omega
  have hlt := dbl_lt (n := x.toNat) (by omega)
  unfold F.bt
  rw [hb, num_byt, ex, i2f_nat (by omega), show (256 : Int) ^ 8 = 18446744073709551616 by decide]
  simp only [Int.toNat_natCast]
  omega
theorem gA_dbl {n : Nat} (h : n ≤ 2000000) : F.gA (F.dbl n : Int) = n ∧ F.tofC (F.dbl n : Int) = 0 := by
  unfold F.gA F.tofA F.tofC
  rw [tof_dbl h]
  exact ⟨rfl, rfl⟩
theorem gB_dbl {n : Nat} (h : n ≤ 2000000) : F.gB (F.dbl n : Int) = n := by
  unfold F.gB
  rw [Int.toNat_natCast, f2i_dbl (by omega)]
theorem fine_AB {s : List UInt8} (hz : F.rZ s ≤ s.length) (h : F.fine F.gA s) : F.fine F.gB s ∧ F.gL F.gA s (F.rR s) (F.rT s) (F.rN s).toNat = F.gL F.gB s (F.rR s) (F.rT s) (F.rN s).toNat := by
  have e : F.gL F.gA s (F.rR s) (F.rT s) (F.rN s).toNat = F.gL F.gB s (F.rR s) (F.rT s) (F.rN s).toNat := gL_congr fun k hk => by
    obtain ⟨n, hn, he⟩ := fine_word hz h hk
    rw [he, (gA_dbl hn).1, gB_dbl hn]
  refine ⟨?_, e⟩
  unfold F.fine at h ⊢
  rw [← e]
  exact h
theorem fine_BA {s : List UInt8} (hz : F.rZ s ≤ s.length) (h : F.fine F.gB s) : F.fine F.gA s := by
  have e : F.gL F.gA s (F.rR s) (F.rT s) (F.rN s).toNat = F.gL F.gB s (F.rR s) (F.rT s) (F.rN s).toNat := gL_congr fun k hk => by
    obtain ⟨n, hn, he⟩ := fine_word hz h hk
    rw [he, (gA_dbl hn).1, gB_dbl hn]
  unfold F.fine at h ⊢
  rw [e]
  exact h
/-- The answers. -/
theorem rE_hd {s : List UInt8} (h : F.hd s) : F.rE s = 3 := by rw [F.rE, if_pos h]
theorem rE_short {s : List UInt8} (h : ¬ F.hd s) (h1 : s.length < 9) : F.rE s = 8 := by rw [F.rE, if_neg h, if_pos h1]
theorem rE_big {s : List UInt8} (h : ¬ F.hd s) (h1 : ¬ s.length < 9) (h2 : 200000 < F.rT s ∨ 32 < F.rN s) : F.rE s = 3 := by rw [F.rE, if_neg h, if_neg h1, if_pos h2]
theorem rE_part {s : List UInt8} (h : ¬ F.hd s) (h1 : ¬ s.length < 9) (h2 : ¬ (200000 < F.rT s ∨ 32 < F.rN s)) (h3 : (s.length : Int) < F.rZ s) : F.rE s = 8 := by rw [F.rE, if_neg h, if_neg h1, if_neg h2, if_pos h3]
theorem rE_sum {s : List UInt8} (h : ¬ F.hd s) (h1 : ¬ s.length < 9) (h2 : ¬ (200000 < F.rT s ∨ 32 < F.rN s)) (h3 : ¬ (s.length : Int) < F.rZ s) (h4 : F.wsum (s.take (F.rZ s - 2).toNat) ≠ F.num (F.sl s (F.rZ s - 2).toNat 2)) : F.rE s = 13 := by rw [F.rE, if_neg h, if_neg h1, if_neg h2, if_neg h3, if_pos h4]
theorem rE_no {s : List UInt8} (h : ¬ F.hd s) (h1 : ¬ s.length < 9) (h2 : ¬ (200000 < F.rT s ∨ 32 < F.rN s)) (h3 : ¬ (s.length : Int) < F.rZ s) (h4 : ¬ F.wsum (s.take (F.rZ s - 2).toNat) ≠ F.num (F.sl s (F.rZ s - 2).toNat 2)) (h5 : ¬ F.fine F.gB s) : F.rE s = 3 := by rw [F.rE, if_neg h, if_neg h1, if_neg h2, if_neg h3, if_neg h4, if_neg h5]
theorem rE_ok {s : List UInt8} (h : ¬ F.hd s) (h1 : ¬ s.length < 9) (h2 : ¬ (200000 < F.rT s ∨ 32 < F.rN s)) (h3 : ¬ (s.length : Int) < F.rZ s) (h4 : ¬ F.wsum (s.take (F.rZ s - 2).toNat) ≠ F.num (F.sl s (F.rZ s - 2).toNat 2)) (h5 : F.fine F.gB s) : F.rE s = 0 := by rw [F.rE, if_neg h, if_neg h1, if_neg h2, if_neg h3, if_neg h4, if_pos h5]
end
end Go.Proofs.Ytbkpgpkeecnjpaa
