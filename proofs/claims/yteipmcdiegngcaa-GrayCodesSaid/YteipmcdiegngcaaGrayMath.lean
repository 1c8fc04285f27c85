/-
  The plain part of GrayCodes: the table of Gray codes by mirror images is n xor n/2; Decode finds the place.
-/
import Derived.Lib.Hide
namespace Go.Proofs.Yteipmcdiegngcaa
def gray (n : Nat) : Nat := n ^^^ (n / 2)
/-- The table as the reference makes it: each half the mirror image of the other with one bit more. -/
def tab : Nat → List Nat
  | 0 => [0]
  | b + 1 => tab b ++ (tab b).reverse.map (· + 2 ^ b)
theorem tab_length (b : Nat) : (tab b).length = 2 ^ b := by
  induction b with
  | zero => rfl
  | succ b ih => simp [tab, ih, Nat.pow_succ]; omega
/-- The inner loop: m mirror images are there. -/
def tabM (b m : Nat) : List Nat := tab b ++ ((tab b).reverse.take m).map (· + 2 ^ b)
theorem tabM_zero (b : Nat) : tabM b 0 = tab b := by simp [tabM]
theorem tabM_full (b : Nat) : tabM b (2 ^ b) = tab (b + 1) := by
  simp only [tabM, tab]
  rw [List.take_of_length_le (by simp [tab_length])]
theorem tabM_length (b m : Nat) (h : m ≤ 2 ^ b) : (tabM b m).length = 2 ^ b + m := by
  simp [tabM, tab_length]; omega
theorem tabM_old (b m i : Nat) (h : i < 2 ^ b) : (tabM b m)[i]? = (tab b)[i]? := by
  rw [tabM, List.getElem?_append_left (by rw [tab_length]; exact h)]
theorem tabM_snoc (b m : Nat) (h : m < 2 ^ b) : tabM b (m + 1) = tabM b m ++ [(tab b).getD (2 ^ b - 1 - m) 0 + 2 ^ b] := by
  have hl : m < (tab b).reverse.length := by simp [tab_length]; exact h
  simp only [tabM, List.append_assoc]
  have hk : 2 ^ b - 1 - m < (tab b).length := by rw [tab_length]; omega
  rw [List.take_succ_eq_append_getElem hl, List.map_append]
  simp [tab_length, List.getD, List.getElem?_eq_getElem hk]
theorem tab_lt (b : Nat) : ∀ x ∈ tab b, x < 2 ^ b := by
  induction b with
  | zero => simp [tab]
  | succ b ih =>
    intro x hx
    have e : 2 ^ (b + 1) = 2 ^ b * 2 := Nat.pow_succ 2 b
    simp only [tab, List.mem_append, List.mem_map, List.mem_reverse] at hx
    rcases hx with hx | ⟨y, hy, rfl⟩
    · have := ih x hx; omega
    · have := ih y hy; omega

def decTo : Nat → Nat → Nat
  | 0, c => c
  | j + 1, c => decTo j c ^^^ (c / 2 ^ (j + 1))
def dec (c : Nat) : Nat := decTo 12 c
theorem decTo_done (c : Nat) : ∀ (d j : Nat), c / 2 ^ (j + 1) = 0 → decTo (j + d) c = decTo j c
  | 0, _, _ => rfl
  | d + 1, j, h => by
    have hz : c / 2 ^ (j + d + 1) = 0 := by
      have h1 : c < 2 ^ (j + 1) := by
        rcases Nat.lt_or_ge c (2 ^ (j + 1)) with h1 | h1
        · exact h1
        · have := Nat.div_pos h1 (Nat.two_pow_pos _); omega
      exact Nat.div_eq_of_lt (Nat.lt_of_lt_of_le h1 (Nat.pow_le_pow_right (by omega) (by omega)))
    show decTo (j + d) c ^^^ (c / 2 ^ (j + d + 1)) = _
    rw [hz, Nat.xor_zero, decTo_done c d j h]

theorem tab_gray_all : (tab 12 == (List.range 4096).map gray) = true := by decide +kernel
theorem dec_all : ((List.range 4096).all fun k => dec (gray k) == k && decide (gray k < 4096) && gray (dec k) == k && decide (dec k < 4096)) = true := by decide +kernel
theorem tab12 : tab 12 = (List.range 4096).map gray := by simpa using tab_gray_all
theorem tab12_get (k : Nat) (h : k < 4096) : (tab 12)[k]? = some (gray k) := by
  rw [tab12, List.getElem?_map, List.getElem?_range h]; rfl
theorem dec_facts (k : Nat) (h : k < 4096) : dec (gray k) = k ∧ gray k < 4096 ∧ gray (dec k) = k ∧ dec k < 4096 := by
  have := List.all_eq_true.1 dec_all k (List.mem_range.2 h)
  simp only [Bool.and_eq_true, beq_iff_eq, decide_eq_true_eq] at this
  exact ⟨this.1.1.1, this.1.1.2, this.1.2, this.2⟩
theorem decTo_lt (c : Nat) (h : c < 4096) : ∀ j, decTo j c < 4096
  | 0 => h
  | j + 1 => by
    have h1 := decTo_lt c h j
    have h2 : c / 2 ^ (j + 1) < 2 ^ 12 := Nat.lt_of_le_of_lt (Nat.div_le_self _ _) h
    exact Nat.xor_lt_two_pow (n := 12) h1 h2
end Go.Proofs.Yteipmcdiegngcaa
