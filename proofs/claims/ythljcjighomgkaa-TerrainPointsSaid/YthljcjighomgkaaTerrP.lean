/- The plain law of TerrainPoints: the greatest height over cells is the greatest height over points. No program in sight. -/
import Derived.Test.YthljcjighomgkaaAr
namespace Go.Proofs.Ythljcjighomgkaa.TP
open Sym

def clamp (n lo hi : Int) : Int := if n < lo then lo else if hi < n then hi else n
def far (x y u v : Int) : Int := (x - u) * (x - u) + (y - v) * (y - v)
def foldX (hit : Int → Bool) (val : Int → Int) : Nat → Int → Int → Int
  | 0, _, b => b
  | m + 1, x, b => foldX hit val m (x + 1) (if hit x then max b (val x) else b)
def fold2 (hit : Int → Int → Bool) (val : Int → Int → Int) (n : Nat) (x0 : Int) : Nat → Int → Int → Int
  | 0, _, b => b
  | m + 1, y, b => fold2 hit val n x0 m (y + 1) (foldX (hit y) (val y) n x0 b)
theorem foldX_ge {hit : Int → Bool} {val : Int → Int} : ∀ (m : Nat) (x b : Int), b ≤ foldX hit val m x b
  | 0, _, b => Int.le_refl b
  | m + 1, x, b => by
    unfold foldX
    have := foldX_ge (hit := hit) (val := val) m (x + 1) (if hit x then max b (val x) else b)
    split at this <;> split <;> first | omega | contradiction
theorem foldX_hit {hit : Int → Bool} {val : Int → Int} : ∀ (m : Nat) (x b k : Int), x ≤ k → k < x + m → hit k = true → val k ≤ foldX hit val m x b
  | 0, _, _, _, h1, h2, _ => by omega
  | m + 1, x, b, k, h1, h2, h3 => by
    unfold foldX
    by_cases h : k = x
    · subst h
      rw [h3, if_pos rfl]
      have := foldX_ge (hit := hit) (val := val) m (k + 1) (max b (val k))
      omega
    · exact foldX_hit m (x + 1) _ k (by omega) (by omega) h3
theorem foldX_is {hit : Int → Bool} {val : Int → Int} : ∀ (m : Nat) (x b : Int), foldX hit val m x b = b ∨ ∃ k, x ≤ k ∧ k < x + m ∧ hit k = true ∧ foldX hit val m x b = val k
  | 0, _, _ => .inl rfl
  | m + 1, x, b => by
    unfold foldX
    rcases foldX_is (hit := hit) (val := val) m (x + 1) (if hit x then max b (val x) else b) with h | ⟨k, h1, h2, h3, h4⟩
    · rw [h]
      cases hx : hit x
      · exact .inl rfl
      · rw [if_pos rfl]
        rcases Int.le_total b (val x) with hb | hb
        · exact .inr ⟨x, by omega, by omega, hx, by omega⟩
        · exact .inl (by omega)
    · exact .inr ⟨k, by omega, by omega, h3, h4⟩
theorem fold2_ge {hit : Int → Int → Bool} {val : Int → Int → Int} {n : Nat} {x0 : Int} : ∀ (m : Nat) (y b : Int), b ≤ fold2 hit val n x0 m y b
  | 0, _, b => Int.le_refl b
  | m + 1, y, b => by
    unfold fold2
    have h1 := foldX_ge (hit := hit y) (val := val y) n x0 b
    have h2 := fold2_ge (hit := hit) (val := val) (n := n) (x0 := x0) m (y + 1) (foldX (hit y) (val y) n x0 b)
    omega
theorem fold2_hit {hit : Int → Int → Bool} {val : Int → Int → Int} {n : Nat} {x0 : Int} : ∀ (m : Nat) (y b j k : Int), y ≤ j → j < y + m → x0 ≤ k → k < x0 + n → hit j k = true → val j k ≤ fold2 hit val n x0 m y b
  | 0, _, _, _, _, h1, h2, _, _, _ => by omega
  | m + 1, y, b, j, k, h1, h2, h3, h4, h5 => by
    unfold fold2
    by_cases h : j = y
    · subst h
      have a1 := foldX_hit (val := val j) n x0 b k h3 h4 h5
      have a2 := fold2_ge (hit := hit) (val := val) (n := n) (x0 := x0) m (j + 1) (foldX (hit j) (val j) n x0 b)
      omega
    · exact fold2_hit m (y + 1) _ j k (by omega) (by omega) h3 h4 h5
theorem fold2_is {hit : Int → Int → Bool} {val : Int → Int → Int} {n : Nat} {x0 : Int} : ∀ (m : Nat) (y b : Int), fold2 hit val n x0 m y b = b ∨ ∃ j k, y ≤ j ∧ j < y + m ∧ x0 ≤ k ∧ k < x0 + n ∧ hit j k = true ∧ fold2 hit val n x0 m y b = val j k
  | 0, _, _ => .inl rfl
  | m + 1, y, b => by
    unfold fold2
    rcases fold2_is (hit := hit) (val := val) (n := n) (x0 := x0) m (y + 1) (foldX (hit y) (val y) n x0 b) with h | ⟨j, k, h1, h2, h3, h4, h5, h6⟩
    · rw [h]
      rcases foldX_is (hit := hit y) (val := val y) n x0 b with g | ⟨k, g1, g2, g3, g4⟩
      · exact .inl g
      · exact .inr ⟨y, k, by omega, by omega, g1, g2, g3, g4⟩
    · exact .inr ⟨j, k, by omega, by omega, h3, h4, h5, h6⟩
/-- One fold is at most another if each of its hits is. -/
theorem fold2_le {hit hit' : Int → Int → Bool} {val val' : Int → Int → Int} {n n' : Nat} {x0 x0' : Int} (m m' : Nat) (y y' b : Int)
    (h : ∀ j k, y ≤ j → j < y + m → x0 ≤ k → k < x0 + n → hit j k = true → val j k ≤ b ∨ ∃ j' k', y' ≤ j' ∧ j' < y' + m' ∧ x0' ≤ k' ∧ k' < x0' + n' ∧ hit' j' k' = true ∧ val j k ≤ val' j' k') :
    fold2 hit val n x0 m y b ≤ fold2 hit' val' n' x0' m' y' b := by
  have g := fold2_ge (hit := hit') (val := val') (n := n') (x0 := x0') m' y' b
  rcases fold2_is (hit := hit) (val := val) (n := n) (x0 := x0) m y b with e | ⟨j, k, h1, h2, h3, h4, h5, e⟩
  · rw [e]; exact g
  · rw [e]
    rcases h j k h1 h2 h3 h4 h5 with q | ⟨j', k', q1, q2, q3, q4, q5, q6⟩
    · omega
    · have := fold2_hit (hit := hit') (val := val') (n := n') (x0 := x0') m' y' b j' k' q1 q2 q3 q4 q5
      omega

theorem sq_le {a r : Int} (hr : 0 ≤ r) (h : a * a ≤ r * r) : -r ≤ a ∧ a ≤ r := by
  have key : ∀ b : Int, 0 ≤ b → b * b ≤ r * r → b ≤ r := by
    intro b hb hh
    rcases Int.lt_or_le r b with h1 | h1
    · have h2 : r * r ≤ r * b := Int.mul_le_mul_of_nonneg_left (by omega) hr
      have h3 : (r + 1) * b ≤ b * b := Int.mul_le_mul_of_nonneg_right (by omega) hb
      rw [Int.add_mul, Int.one_mul] at h3
      omega
    · exact h1
  rcases Int.le_total 0 a with h1 | h1
  · have := key a h1 h
    omega
  · have := key (-a) (by omega) (by rw [Int.neg_mul_neg]; exact h)
    omega
theorem sq_mono {a b : Int} (h : (0 ≤ a ∧ a ≤ b) ∨ (b ≤ a ∧ a ≤ 0)) : a * a ≤ b * b := by
  rcases h with ⟨h1, h2⟩ | ⟨h1, h2⟩
  · exact Int.mul_le_mul h2 h2 h1 (by omega)
  · have := Int.mul_le_mul (show -a ≤ -b by omega) (show -a ≤ -b by omega) (by omega) (by omega)
    rwa [Int.neg_mul_neg, Int.neg_mul_neg] at this
/-- The cell of a coordinate. -/
theorem cell_iff {p a s k : Int} (hs : 0 < s) : (0 ≤ p - a - k * s ∧ p - a - k * s ≤ s - 1) ↔ (p - a) / s = k := by
  constructor
  · rintro ⟨h1, h2⟩
    have e : p - a = k * s + (p - a - k * s) := by omega
    rw [e, Int.add_comm, Int.add_mul_ediv_right _ _ (by omega), Int.ediv_eq_zero_of_lt h1 (by omega)]
    omega
  · intro h
    have h1 := Int.emod_add_mul_ediv (p - a) s
    have h2 := Int.emod_nonneg (p - a) (show s ≠ 0 by omega)
    have h3 := Int.emod_lt_of_pos (p - a) hs
    rw [h, Int.mul_comm] at h1
    omega
def near (p lo s : Int) : Int := clamp p lo (lo + s - 1)
theorem near_in {p a s k : Int} (hs : 0 < s) : (near p (a + k * s) s - a) / s = k := by
  rw [← cell_iff hs]
  unfold near clamp
  (repeat' split) <;> omega
theorem near_le {p q a s k : Int} (hs : 0 < s) (h : (q - a) / s = k) : (near p (a + k * s) s - p) * (near p (a + k * s) s - p) ≤ (q - p) * (q - p) := by
  have h1 := (cell_iff hs).2 h
  apply sq_mono
  unfold near clamp
  (repeat' split) <;> omega
def gnd (ax ay s nx ny : Int) (l : List Int) (px py : Int) : Int :=
  if (0 ≤ (px - ax) / s ∧ (px - ax) / s < nx) ∧ 0 ≤ (py - ay) / s ∧ (py - ay) / s < ny then l.getD ((py - ay) / s * nx + (px - ax) / s).toNat 0 else 0
theorem top_eq {ax ay s px py r : Int} {nx ny : Nat} {l : List Int} (hs : 0 < s) (hr : 0 ≤ r) :
    fold2 (fun y x => decide (far (near px (ax + x * s) s) (near py (ay + y * s) s) px py ≤ r * r)) (fun y x => l.getD (y * nx + x).toNat 0) nx 0 ny 0 0 =
    fold2 (fun x y => decide (far x y px py ≤ r * r)) (fun x y => gnd ax ay s nx ny l x y) (2 * r + 1).toNat (py - r) (2 * r + 1).toNat (px - r) 0 := by
  apply Int.le_antisymm
  · apply fold2_le
    intro j k h1 h2 h3 h4 h5
    refine .inr ⟨near px (ax + k * s) s, near py (ay + j * s) s, ?_⟩
    have h6 : far (near px (ax + k * s) s) (near py (ay + j * s) s) px py ≤ r * r := by simpa using h5
    have e1 := near_in (p := px) (a := ax) (k := k) hs
    have e2 := near_in (p := py) (a := ay) (k := j) hs
    generalize near px (ax + k * s) s = u at *
    generalize near py (ay + j * s) s = v at *
    have g1 := h6
    unfold far at g1
    have n1 := mul_self_nn (u - px)
    have n2 := mul_self_nn (v - py)
    have b1 := sq_le (a := u - px) hr (by omega)
    have b2 := sq_le (a := v - py) hr (by omega)
    refine ⟨by omega, by omega, by omega, by omega, by simpa using h6, ?_⟩
    unfold gnd
    rw [e1, e2, if_pos ⟨⟨by omega, by omega⟩, by omega, by omega⟩]
    exact Int.le_refl _
  · apply fold2_le
    intro j k h1 h2 h3 h4 h5
    have h6 : far j k px py ≤ r * r := by simpa using h5
    by_cases hg : (0 ≤ (j - ax) / s ∧ (j - ax) / s < nx) ∧ 0 ≤ (k - ay) / s ∧ (k - ay) / s < ny
    · refine .inr ⟨(k - ay) / s, (j - ax) / s, by omega, by omega, by omega, by omega, ?_, ?_⟩
      · have q1 := near_le (p := px) (q := j) (a := ax) hs rfl
        have q2 := near_le (p := py) (q := k) (a := ay) hs rfl
        unfold far at h6 ⊢
        simp only [decide_eq_true_eq]
        omega
      · simp only [gnd]
        rw [if_pos hg]
        exact Int.le_refl _
    · left
      simp only [gnd]
      rw [if_neg hg]
      exact Int.le_refl _
end Go.Proofs.Ythljcjighomgkaa.TP
