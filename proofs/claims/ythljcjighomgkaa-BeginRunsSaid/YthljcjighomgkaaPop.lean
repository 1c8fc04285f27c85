/- The number of ones of a number below 65536, as math/bits counts it. Plain. -/
namespace Go.Proofs.Ythljcjighomgkaa
namespace F
def pop : Nat → Nat → Nat
  | 0, _ => 0
  | k + 1, n => n % 2 + pop k (n / 2)
def swn (x : Nat) : Nat :=
  let a := ((x >>> 1) &&& 6148914691236517205) + (x &&& 6148914691236517205)
  let b := ((a >>> 2) &&& 3689348814741910323) + (a &&& 3689348814741910323)
  let c := ((b >>> 4) + b) &&& 1085102592571150095
  let d := c + (c >>> 8)
  let e := d + (d >>> 16)
  e + (e >>> 32)
end F
theorem land_base (k a b x y : Nat) (hx : x < 2 ^ k) (hy : y < 2 ^ k) : (2 ^ k * a + x) &&& (2 ^ k * b + y) = 2 ^ k * (a &&& b) + (x &&& y) := by
  apply Nat.eq_of_testBit_eq
  intro i
  rw [Nat.testBit_and, Nat.testBit_two_pow_mul_add _ hx, Nat.testBit_two_pow_mul_add _ hy, Nat.testBit_two_pow_mul_add _ (Nat.lt_of_le_of_lt Nat.and_le_left hx)]
  split <;> simp
theorem landk (k x a m : Nat) (hx : x < 2 ^ k) : (x + 2 ^ k * a) &&& m = (x &&& (m % 2 ^ k)) + 2 ^ k * (a &&& (m / 2 ^ k)) := by
  have h := land_base k a (m / 2 ^ k) x (m % 2 ^ k) hx (Nat.mod_lt _ (Nat.two_pow_pos k))
  rw [Nat.div_add_mod, Nat.add_comm] at h
  rw [h, Nat.add_comm]
theorem land16 (x a m : Nat) (hx : x < 16) : (x + 16 * a) &&& m = (x &&& (m % 16)) + 16 * (a &&& (m / 16)) := landk 4 x a m hx
def f1 (h : Nat) : Nat := ((h / 2) &&& 5) + (h &&& 5)
theorem f1_spec : ∀ h, h < 16 → ∀ c, c < 2 → (h / 2 + 8 * c) &&& 5 = (h / 2) &&& 5 := by decide
theorem f1_lt : ∀ h, h < 16 → f1 h < 16 := by decide
theorem f2_spec : ∀ h, h < 16 → ∀ c, c < 4 → ((f1 h / 4 + 4 * c) &&& 3) + (f1 h &&& 3) = F.pop 4 h := by decide
theorem p4_le : ∀ h, h < 16 → F.pop 4 h ≤ 4 := by decide
theorem pop_nib (k x r : Nat) (hx : x < 16) : F.pop (k + 4) (x + 16 * r) = F.pop 4 x + F.pop k r := by
  have h1 : (x + 16 * r) % 2 = x % 2 := by omega
  have h2 : (x + 16 * r) / 2 % 2 = x / 2 % 2 := by omega
  have h3 : (x + 16 * r) / 2 / 2 % 2 = x / 2 / 2 % 2 := by omega
  have h4 : (x + 16 * r) / 2 / 2 / 2 % 2 = x / 2 / 2 / 2 % 2 := by omega
  have h5 : (x + 16 * r) / 2 / 2 / 2 / 2 = r := by omega
  simp only [F.pop, h1, h2, h3, h4, h5]
  omega
theorem pop16 (a b c d : Nat) (ha : a < 16) (hb : b < 16) (hc : c < 16) : F.pop 16 (a + 16 * (b + 16 * (c + 16 * d))) = F.pop 4 a + F.pop 4 b + F.pop 4 c + F.pop 4 d := by
  rw [show 16 = 12 + 4 from rfl, pop_nib 12 a _ ha, show 12 = 8 + 4 from rfl, pop_nib 8 b _ hb, show 8 = 4 + 4 from rfl, pop_nib 4 c _ hc]
  omega
theorem f2_sum (h c : Nat) (hh : h < 16) (hc : c < 4) : ((f1 h / 4 + 4 * c) &&& 3) + (f1 h &&& 3) = F.pop 4 h := f2_spec h hh c hc
theorem swn_pop (n : Nat) (h : n < 65536) : F.swn n < 65536 ∧ F.swn n % 128 = F.pop 16 n := by
  obtain ⟨a, n, ha, rfl⟩ : ∃ b r, b < 16 ∧ n = b + 16 * r := ⟨n % 16, n / 16, by omega, by omega⟩
  obtain ⟨b, n, hb, rfl⟩ : ∃ b r, b < 16 ∧ n = b + 16 * r := ⟨n % 16, n / 16, by omega, by omega⟩
  obtain ⟨c, n, hc, rfl⟩ : ∃ b r, b < 16 ∧ n = b + 16 * r := ⟨n % 16, n / 16, by omega, by omega⟩
  obtain ⟨d, n, hd, rfl⟩ : ∃ b r, b < 16 ∧ n = b + 16 * r := ⟨n % 16, n / 16, by omega, by omega⟩
  obtain rfl : n = 0 := by omega
  simp only [Nat.mul_zero, Nat.add_zero]
  rw [pop16 a b c d ha hb hc]
  unfold F.swn
  have e1 : (a + 16 * (b + 16 * (c + 16 * d))) >>> 1 = (a / 2 + 8 * (b % 2)) + 16 * ((b / 2 + 8 * (c % 2)) + 16 * ((c / 2 + 8 * (d % 2)) + 16 * ((d / 2 + 8 * 0) + 16 * 0))) := by rw [Nat.shiftRight_eq_div_pow]; omega
  have e2 : a + 16 * (b + 16 * (c + 16 * d)) = a + 16 * (b + 16 * (c + 16 * (d + 16 * 0))) := by omega
  rw [e1, e2]
  rw [land16 (a / 2 + 8 * (b % 2)) _ _ (by omega), land16 (b / 2 + 8 * (c % 2)) _ _ (by omega), land16 (c / 2 + 8 * (d % 2)) _ _ (by omega), land16 (d / 2 + 8 * 0) _ _ (by omega), land16 a _ _ ha, land16 b _ _ hb, land16 c _ _ hc, land16 d _ _ hd]
  simp only [Nat.reduceMod, Nat.reduceDiv, Nat.zero_and]
  rw [f1_spec a ha _ (by omega), f1_spec b hb _ (by omega), f1_spec c hc _ (by omega), f1_spec d hd 0 (by omega)]
  have e3 : ((a / 2) &&& 5) + 16 * (((b / 2) &&& 5) + 16 * (((c / 2) &&& 5) + 16 * (((d / 2) &&& 5) + 16 * 0))) + ((a &&& 5) + 16 * ((b &&& 5) + 16 * ((c &&& 5) + 16 * ((d &&& 5) + 16 * 0)))) = f1 a + 16 * (f1 b + 16 * (f1 c + 16 * (f1 d + 16 * 0))) := by unfold f1; omega
  rw [e3]
  have q1 := f1_lt a ha
  have q2 := f1_lt b hb
  have q3 := f1_lt c hc
  have q4 := f1_lt d hd
  have s1 := f2_sum a (f1 b % 4) ha (by omega)
  have s2 := f2_sum b (f1 c % 4) hb (by omega)
  have s3 := f2_sum c (f1 d % 4) hc (by omega)
  have s4 := f2_sum d 0 hd (by omega)
  generalize f1 a = A at *
  generalize f1 b = B at *
  generalize f1 c = C at *
  generalize f1 d = D at *
  have e4 : (A + 16 * (B + 16 * (C + 16 * (D + 16 * 0)))) >>> 2 = (A / 4 + 4 * (B % 4)) + 16 * ((B / 4 + 4 * (C % 4)) + 16 * ((C / 4 + 4 * (D % 4)) + 16 * ((D / 4 + 4 * 0) + 16 * 0))) := by rw [Nat.shiftRight_eq_div_pow]; omega
  rw [e4]
  rw [land16 (A / 4 + 4 * (B % 4)) _ _ (by omega), land16 (B / 4 + 4 * (C % 4)) _ _ (by omega), land16 (C / 4 + 4 * (D % 4)) _ _ (by omega), land16 (D / 4 + 4 * 0) _ _ (by omega), land16 A _ _ q1, land16 B _ _ q2, land16 C _ _ q3, land16 D _ _ q4]
  simp only [Nat.reduceMod, Nat.reduceDiv, Nat.zero_and]
  have r1 := p4_le a ha
  have r2 := p4_le b hb
  have r3 := p4_le c hc
  have r4 := p4_le d hd
  generalize hX : ((A / 4 + 4 * (B % 4)) &&& 3) + 16 * (((B / 4 + 4 * (C % 4)) &&& 3) + 16 * (((C / 4 + 4 * (D % 4)) &&& 3) + 16 * (((D / 4 + 4 * 0) &&& 3) + 16 * 0))) + ((A &&& 3) + 16 * ((B &&& 3) + 16 * ((C &&& 3) + 16 * ((D &&& 3) + 16 * 0)))) = X
  have e5 : X = F.pop 4 a + 16 * (F.pop 4 b + 16 * (F.pop 4 c + 16 * (F.pop 4 d + 16 * 0))) := by
    rw [← hX]
    generalize (A / 4 + 4 * (B % 4)) &&& 3 = u1 at *
    generalize (B / 4 + 4 * (C % 4)) &&& 3 = u2 at *
    generalize (C / 4 + 4 * (D % 4)) &&& 3 = u3 at *
    generalize (D / 4 + 4 * 0) &&& 3 = u4 at *
    omega
  rw [e5]
  clear e5 hX X s1 s2 s3 s4 e4 q1 q2 q3 q4 e3 e1 e2 h
  generalize F.pop 4 a = A' at *
  generalize F.pop 4 b = B' at *
  generalize F.pop 4 c = C' at *
  generalize F.pop 4 d = D' at *
  have e6 : (A' + 16 * (B' + 16 * (C' + 16 * (D' + 16 * 0)))) >>> 4 + (A' + 16 * (B' + 16 * (C' + 16 * (D' + 16 * 0)))) = (A' + B') + 16 * ((B' + C') + 16 * ((C' + D') + 16 * (D' + 16 * 0))) := by rw [Nat.shiftRight_eq_div_pow]; omega
  rw [e6, land16 (A' + B') _ _ (by omega), land16 (B' + C') _ _ (by omega), land16 (C' + D') _ _ (by omega), land16 D' _ _ (by omega)]
  simp only [Nat.reduceMod, Nat.reduceDiv, Nat.zero_and, Nat.and_zero]
  have m15 : ∀ x, x < 16 → x &&& 15 = x := by decide
  rw [m15 (A' + B') (by omega), m15 (C' + D') (by omega)]
  clear e6 m15
  generalize hX : A' + B' + 16 * (0 + 16 * (C' + D' + 16 * (0 + 16 * 0))) = X
  have x1 : X >>> 8 = C' + D' := by rw [Nat.shiftRight_eq_div_pow]; omega
  have x2 : (X + (C' + D')) >>> 16 = 0 := by rw [Nat.shiftRight_eq_div_pow]; omega
  have x3 : (X + (C' + D') + 0) >>> 32 = 0 := by rw [Nat.shiftRight_eq_div_pow]; omega
  simp only [x1, x2, x3]
  omega
end Go.Proofs.Ythljcjighomgkaa
