/- The median of a list: the middle of the sorted list is the element with as many smaller ones. No program in sight. -/
import Derived.Test.YtbkpgpkeecnjpaaHr
namespace Go.Proofs.Ytbkpgpkeecnjpaa
def nLess (x : Int) (l : List Int) : Nat := l.countP fun y => decide (y < x)
def nSame (x : Int) (l : List Int) : Nat := l.countP fun y => decide (y = x)
/-- In a sorted list the k-th element is the one with at most k smaller ones and more than k that are not greater. -/
theorem sorted_kth : ∀ (s : List Int) (k : Nat) (x : Int), s.Pairwise (· ≤ ·) → k < s.length → nLess x s ≤ k → k < nLess x s + nSame x s → s.getD k 0 = x
  | [], k, x, _, hk, _, _ => by simp at hk
  | y :: r, k, x, hs, hk, h1, h2 => by
    rw [List.pairwise_cons] at hs
    have e1 : nLess x (y :: r) = nLess x r + (if y < x then 1 else 0) := by
      unfold nLess
      rw [List.countP_cons]
      simp
    have e2 : nSame x (y :: r) = nSame x r + (if y = x then 1 else 0) := by
      unfold nSame
      rw [List.countP_cons]
      simp
    rw [e1] at h1 h2
    rw [e2] at h2
    have none : ¬ y < x → nLess x r = 0 := fun h => by
      unfold nLess
      rw [List.countP_eq_zero]
      intro z hz
      have := hs.1 z hz
      simp only [decide_eq_true_eq]
      omega
    have none2 : x < y → nSame x r = 0 := fun h => by
      unfold nSame
      rw [List.countP_eq_zero]
      intro z hz
      have := hs.1 z hz
      simp only [decide_eq_true_eq]
      omega
    cases k with
    | zero =>
      rw [List.getD_cons_zero]
      by_cases q : y < x
      · rw [if_pos q] at h1
        omega
      · by_cases q2 : y = x
        · exact q2
        · have := none q
          have := none2 (by omega)
          rw [if_neg q, if_neg q2] at h2
          omega
    | succ k =>
      rw [List.getD_cons_succ]
      by_cases q : y < x
      · rw [if_pos q] at h1 h2
        rw [if_neg (by omega)] at h2
        exact sorted_kth r k x hs.2 (by simpa using hk) (by omega) (by omega)
      · have q0 := none q
        by_cases q2 : y = x
        · rw [if_neg q] at h1 h2
          rw [if_pos q2] at h2
          exact sorted_kth r k x hs.2 (by simpa using hk) (by omega) (by omega)
        · have := none2 (by omega)
          rw [if_neg q, if_neg q2] at h2
          omega
theorem nLess_perm {x : Int} {l m : List Int} (h : l.Perm m) : nLess x l = nLess x m := h.countP_eq _
theorem nSame_perm {x : Int} {l m : List Int} (h : l.Perm m) : nSame x l = nSame x m := h.countP_eq _
/-- There is such an element: the k-th of the sorted list. -/
theorem kth_has : ∀ (s : List Int) (k : Nat), s.Pairwise (· ≤ ·) → k < s.length → nLess (s.getD k 0) s ≤ k ∧ k < nLess (s.getD k 0) s + nSame (s.getD k 0) s
  | [], k, _, hk => by simp at hk
  | y :: r, 0, hs, _ => by
    rw [List.pairwise_cons] at hs
    rw [List.getD_cons_zero]
    have e1 : nLess y (y :: r) = 0 := by
      unfold nLess
      rw [List.countP_eq_zero]
      intro z hz
      simp only [decide_eq_true_eq]
      rcases List.mem_cons.1 hz with rfl | hz
      · omega
      · have := hs.1 z hz; omega
    have e2 : 0 < nSame y (y :: r) := by
      unfold nSame
      rw [List.countP_pos_iff]
      exact ⟨y, by simp, by simp⟩
    omega
  | y :: r, k + 1, hs, hk => by
    rw [List.pairwise_cons] at hs
    rw [List.getD_cons_succ]
    have hk' : k < r.length := by simpa using hk
    obtain ⟨h1, h2⟩ := kth_has r k hs.2 hk'
    have hy : y ≤ r.getD k 0 := hs.1 _ (by rw [List.getD, List.getElem?_eq_getElem hk']; exact List.getElem_mem hk')
    generalize r.getD k 0 = x at *
    have e1 : nLess x (y :: r) = nLess x r + (if y < x then 1 else 0) := by
      unfold nLess
      rw [List.countP_cons]
      simp
    have e2 : nSame x (y :: r) = nSame x r + (if y = x then 1 else 0) := by
      unfold nSame
      rw [List.countP_cons]
      simp
    rw [e1, e2]
    split <;> split <;> omega
end Go.Proofs.Ytbkpgpkeecnjpaa
