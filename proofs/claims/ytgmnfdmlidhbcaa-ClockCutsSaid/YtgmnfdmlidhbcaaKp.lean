/- Part of a claim: lemmas on the way to its theorem; each states its own conditions. -/
import Derived.Test.YtgmnfdmlidhbcaaKf
/- Plain law: events and what leads to what. -/
namespace Go.Proofs.Ytgmnfdmlidhbcaa
open Sym Go.RowKit
set_option maxRecDepth 100000
set_option maxHeartbeats 4000000
namespace F
/-! ### the relation: an event leads to another one -/
def R (l : List Ev) (m i k : Nat) : Bool := ((wM l m).getD i []).getD k false
def E (l : List Ev) (i k : Nat) : Bool := decide (i < k) && edg (l.getD i ev0) (l.getD k ev0)
theorem rG_get (l : List Ev) (i : Nat) : ∀ (j k : Nat), k < l.length → i + 1 + j ≤ l.length → (rG l i j).getD k false = (decide (i < k ∧ k < i + 1 + j) && edg (l.getD i ev0) (l.getD k ev0))
  | 0, k, _, _ => by
      have : ¬ (i < k ∧ k < i + 1 + 0) := by omega
      rw [decide_eq_false this]
      show (List.replicate l.length false).getD k false = _
      rw [List.getD_eq_getElem?_getD, List.getElem?_replicate]
      split <;> rfl
  | j + 1, k, hk, hj => by
      unfold rG
      rw [gset, rG_len]
      by_cases e : i + 1 + j = k
      · subst e
        rw [if_pos ⟨rfl, by omega⟩, decide_eq_true (by omega)]
        rfl
      · rw [if_neg (by omega), rG_get l i j k hk (by omega)]
        have : (i < k ∧ k < i + 1 + (j + 1)) ↔ (i < k ∧ k < i + 1 + j) := by omega
        simp only [this]
theorem eG_get (l : List Ev) : ∀ (n i k : Nat), i < n → n ≤ l.length → k < l.length → ((eG l n).getD i []).getD k false = E l i k
  | 0, i, k, h, _, _ => by omega
  | n + 1, i, k, h, hn, hk => by
      unfold eG
      rw [gset, eG_len]
      by_cases e : n = i
      · subst e
        rw [if_pos ⟨rfl, by omega⟩, rG_get l n _ k hk (by omega)]
        unfold E
        have : (n < k ∧ k < n + 1 + (l.length - (n + 1))) ↔ n < k := by omega
        simp only [this]
      · rw [if_neg (by omega)]
        exact eG_get l n i k (by omega) (by omega) hk
theorem wRow_get (m : Nat) (ri rm : List Bool) : ∀ (K k : Nat), K ≤ ri.length → (wRow m ri rm K).getD k false = (ri.getD k false || (decide (k < K) && (ri.getD m false && rm.getD k false)))
  | 0, k, _ => by simp [wRow]
  | K + 1, k, h => by
      have hm := wRow_get m ri rm K m (by omega)
      have hK := wRow_get m ri rm K K (by omega)
      have hk := wRow_get m ri rm K k (by omega)
      have hm' : (wRow m ri rm K).getD m false = ri.getD m false := by
        rw [hm]
        cases ri.getD m false <;> simp
      have hK' : (wRow m ri rm K).getD K false = ri.getD K false := by
        rw [hK]
        simp
      unfold wRow
      rw [gset, wRow_len, hm', hK']
      by_cases e : K = k
      · subst e
        rw [if_pos ⟨rfl, by omega⟩]
        cases ri.getD K false <;> cases ri.getD m false <;> simp
      · rw [if_neg (by omega), hk]
        have : k < K + 1 ↔ k < K := by omega
        simp only [this]
theorem wI_get {n m : Nat} {LL : List (List Bool)} (h : Mat n LL) (hm : m < n) : ∀ (i j : Nat), i ≤ n → (wI n m LL i).getD j [] = if j < i ∧ j ≠ m then wRow m (LL.getD j []) (LL.getD m []) n else LL.getD j []
  | 0, j, _ => by rw [if_neg (by omega)]; rfl
  | i + 1, j, hi => by
      have h1 := wI_get h hm i i (by omega)
      have h2 := wI_get h hm i m (by omega)
      have h3 := wI_get h hm i j (by omega)
      rw [if_neg (by omega)] at h1
      rw [if_neg (by omega)] at h2
      unfold wI
      by_cases e : i = m
      · rw [if_pos e, h3]
        by_cases q : j < i ∧ j ≠ m
        · rw [if_pos q, if_pos (by omega)]
        · rw [if_neg q, if_neg (by omega)]
      · rw [if_neg e, gset, (wI_mat h i).1, h1, h2]
        by_cases q : i = j
        · subst q
          rw [if_pos ⟨rfl, by omega⟩, if_pos ⟨by omega, e⟩]
        · rw [if_neg (by omega), h3]
          by_cases q2 : j < i ∧ j ≠ m
          · rw [if_pos q2, if_pos (by omega)]
          · rw [if_neg q2, if_neg (by omega)]
theorem R_zero (l : List Ev) {i k : Nat} (hi : i < l.length) (hk : k < l.length) : R l 0 i k = E l i k := eG_get l _ i k hi (Nat.le_refl _) hk
theorem R_succ (l : List Ev) {m i k : Nat} (hm : m < l.length) (hi : i < l.length) (hk : k < l.length) : R l (m + 1) i k = (R l m i k || (R l m i m && R l m m k)) := by
  have hM := wM_mat l m
  unfold R
  have e : wM l (m + 1) = wI l.length m (wM l m) l.length := rfl
  rw [e, wI_get hM hm _ _ (Nat.le_refl _)]
  by_cases q : i = m
  · subst q
    rw [if_neg (by omega)]
    cases ((wM l i).getD i []).getD k false <;> simp
  · rw [if_pos ⟨hi, q⟩, wRow_get _ _ _ _ _ (by rw [hM.2 i hi]; exact Nat.le_refl _), decide_eq_true hk]
    rfl
theorem R_lt (l : List Ev) : ∀ (m i k : Nat), m ≤ l.length → i < l.length → k < l.length → R l m i k = true → i < k
  | 0, i, k, _, hi, hk, h => by
      rw [R_zero l hi hk] at h
      unfold E at h
      simp only [Bool.and_eq_true, decide_eq_true_iff] at h
      exact h.1
  | m + 1, i, k, hm, hi, hk, h => by
      rw [R_succ l (by omega) hi hk, Bool.or_eq_true, Bool.and_eq_true] at h
      rcases h with h | ⟨h1, h2⟩
      · exact R_lt l m i k (by omega) hi hk h
      · have a := R_lt l m i m (by omega) hi (by omega) h1
        have b := R_lt l m m k (by omega) (by omega) hk h2
        omega
theorem R_base (l : List Ev) {i k : Nat} (hi : i < l.length) (hk : k < l.length) (h : E l i k = true) : ∀ m, m ≤ l.length → R l m i k = true
  | 0, _ => by rw [R_zero l hi hk]; exact h
  | m + 1, hm => by
      rw [R_succ l (by omega) hi hk, R_base l hi hk h m (by omega)]
      rfl
theorem R_trans (l : List Ev) : ∀ (m i j k : Nat), m ≤ l.length → i < l.length → j < m → k < l.length → R l m i j = true → R l m j k = true → R l m i k = true
  | 0, i, j, k, _, _, hj, _, _, _ => by omega
  | m + 1, i, j, k, hm, hi, hj, hk, h1, h2 => by
      have hml : m < l.length := by omega
      rw [R_succ l hml hi (by omega), Bool.or_eq_true, Bool.and_eq_true] at h1
      rw [R_succ l hml (by omega) hk, Bool.or_eq_true, Bool.and_eq_true] at h2
      rw [R_succ l hml hi hk, Bool.or_eq_true, Bool.and_eq_true]
      by_cases e : j = m
      · subst e
        have a : R l j i j = true := h1.elim id (·.1)
        have b : R l j j k = true := h2.elim id (·.2)
        exact .inr ⟨a, b⟩
      · rcases h1 with h1 | ⟨h1, h1'⟩
        · rcases h2 with h2 | ⟨h2, h2'⟩
          · exact .inl (R_trans l m i j k (by omega) hi (by omega) hk h1 h2)
          · exact .inr ⟨R_trans l m i j m (by omega) hi (by omega) hml h1 h2, h2'⟩
        · rcases h2 with h2 | ⟨h2, h2'⟩
          · exact .inr ⟨h1, R_trans l m m j k (by omega) hml (by omega) hk h1' h2⟩
          · exact .inr ⟨h1, h2'⟩
theorem R_mono (l : List Ev) {m i k : Nat} (hm : m < l.length) (hi : i < l.length) (hk : k < l.length) (h : R l m i k = true) : R l (m + 1) i k = true := by
  rw [R_succ l hm hi hk, h]
  rfl
theorem R_last (l : List Ev) : ∀ (m i k : Nat), m ≤ l.length → i < l.length → k < l.length → R l m i k = true → ∃ j, j < l.length ∧ E l j k = true ∧ (i = j ∨ R l m i j = true)
  | 0, i, k, _, hi, hk, h => by
      rw [R_zero l hi hk] at h
      exact ⟨i, hi, h, .inl rfl⟩
  | m + 1, i, k, hm, hi, hk, h => by
      have hml : m < l.length := by omega
      rw [R_succ l hml hi hk, Bool.or_eq_true, Bool.and_eq_true] at h
      rcases h with h | ⟨h1, h2⟩
      · obtain ⟨j, a, b, c⟩ := R_last l m i k (by omega) hi hk h
        refine ⟨j, a, b, ?_⟩
        rcases c with c | c
        · exact .inl c
        · exact .inr (R_mono l hml hi a c)
      · obtain ⟨j, a, b, c⟩ := R_last l m m k (by omega) hml hk h2
        refine ⟨j, a, b, .inr ?_⟩
        rcases c with c | c
        · subst c
          exact R_mono l hml hi a h1
        · rw [R_succ l hml hi a, h1, c]
          simp
/-- Leads, and is. -/
def Q (l : List Ev) (i k : Nat) : Prop := i = k ∨ R l l.length i k = true
theorem Q_le {l : List Ev} {i k : Nat} (hi : i < l.length) (hk : k < l.length) (h : Q l i k) : i ≤ k := by
  rcases h with h | h
  · omega
  · exact Nat.le_of_lt (R_lt l _ i k (Nat.le_refl _) hi hk h)
theorem Q_trans {l : List Ev} {i j k : Nat} (hi : i < l.length) (hj : j < l.length) (hk : k < l.length) (h1 : Q l i j) (h2 : Q l j k) : Q l i k := by
  rcases h1 with h1 | h1
  · subst h1; exact h2
  · rcases h2 with h2 | h2
    · subst h2; exact .inr h1
    · exact .inr (R_trans l _ i j k (Nat.le_refl _) hi hj hk h1 h2)
theorem Q_edge {l : List Ev} {i k : Nat} (hi : i < l.length) (hk : k < l.length) (h : E l i k = true) : Q l i k := .inr (R_base l hi hk h _ (Nat.le_refl _))
theorem Q_last {l : List Ev} {i k : Nat} (hi : i < l.length) (hk : k < l.length) (h : Q l i k) : i = k ∨ ∃ j, j < k ∧ E l j k = true ∧ Q l i j := by
  rcases h with h | h
  · exact .inl h
  · obtain ⟨j, a, b, c⟩ := R_last l _ i k (Nat.le_refl _) hi hk h
    have : j < k := by
      unfold E at b
      simp only [Bool.and_eq_true, decide_eq_true_iff] at b
      exact b.1
    exact .inr ⟨j, this, b, c⟩
/-! ### what Check says -/
theorem sntG_spec (m : Int) : ∀ (l : List Ev) (i : Int), 0 ≤ i → 0 ≤ sntG m l i → ∃ q : Nat, sntG m l i = i + q ∧ q < l.length ∧ isS m (l.getD q ev0) = true ∧ ∀ j, j < q → isS m (l.getD j ev0) = false
  | [], i, h0, h => by simp [sntG] at h
  | x :: r, i, h0, h => by
      unfold sntG at h ⊢
      by_cases e : isS m x = true
      · rw [if_pos e]
        exact ⟨0, by simp, by simp, e, fun j hj => by omega⟩
      · rw [if_neg e] at h ⊢
        obtain ⟨q, h1, h2, h3, h4⟩ := sntG_spec m r (i + 1) (by omega) h
        refine ⟨q + 1, by rw [h1]; omega, by simp; exact h2, h3, fun j hj => ?_⟩
        cases j with
        | zero => simpa using e
        | succ j => exact h4 j (by omega)
theorem snt_spec {m : Int} {l : List Ev} {k : Nat} (hk : k ≤ l.length) (h : 0 ≤ snt (l.take k) m) : (snt (l.take k) m).toNat < k ∧ isS m (l.getD (snt (l.take k) m).toNat ev0) = true ∧ ∀ j, j < (snt (l.take k) m).toNat → isS m (l.getD j ev0) = false := by
  obtain ⟨q, h1, h2, h3, h4⟩ := sntG_spec m (l.take k) 0 (Int.le_refl _) h
  have e : (snt (l.take k) m).toNat = q := by unfold snt; omega
  have hg : ∀ j, j < k → (l.take k).getD j ev0 = l.getD j ev0 := fun j hj => by
    have := getD_part l ev0 0 k j hj
    simpa using this
  rw [e]
  rw [List.length_take] at h2
  rw [hg q (by omega)] at h3
  exact ⟨by omega, h3, fun j hj => by rw [← hg j (by omega)]; exact h4 j hj⟩
theorem snt_some {m : Int} {l : List Ev} {k j : Nat} (hk : k ≤ l.length) (hj : j < k) (h : isS m (l.getD j ev0) = true) : 0 ≤ snt (l.take k) m := by
  have a := snt_any m (l.take k)
  have b : (l.take k).any (isS m) = true := by
    rw [List.any_eq_true]
    refine ⟨l.getD j ev0, ?_, h⟩
    rw [List.getD_eq_getElem?_getD, List.getElem?_eq_getElem (by omega)]
    exact List.mem_take_iff_getElem.2 ⟨j, by omega, rfl⟩
  rw [b] at a
  simpa using a
/-- The edges that end in an event: from its site, or from the send of its message. -/
theorem edge_iff {l : List Ev} (hc : chk l = 0) {j k : Nat} (hk : k < l.length) : E l j k = true ↔ j < k ∧ ((l.getD j ev0).1 = (l.getD k ev0).1 ∨ ((l.getD k ev0).2.1 = 2 ∧ j = (snt (l.take k) (l.getD k ev0).2.2).toNat)) := by
  have hE := (chk_ok hc).2
  unfold E edg
  rw [Bool.and_eq_true, decide_eq_true_iff]
  constructor
  · rintro ⟨h1, h2⟩
    refine ⟨h1, ?_⟩
    by_cases a : (l.getD j ev0).1 = (l.getD k ev0).1
    · exact .inl a
    · rw [if_neg a] at h2
      split at h2
      · rename_i b
        split at h2
        · rename_i c
          refine .inr ⟨c, ?_⟩
          have d : (l.getD j ev0).2.2 = (l.getD k ev0).2.2 := by simpa using h2
          have s : isS (l.getD k ev0).2.2 (l.getD j ev0) = true := by unfold isS; rw [b, d]; simp
          obtain ⟨p1, p2, p3⟩ := snt_spec (Nat.le_of_lt hk) (snt_some (Nat.le_of_lt hk) h1 s)
          generalize hq : (snt (l.take k) (l.getD k ev0).2.2).toNat = q at *
          by_cases e : j = q
          · exact e
          · by_cases f : j < q
            · rw [p3 j f] at s
              cases s
            · have g := (chkE_ok (hE j (by omega))).2.2.1 b
              have s2 : isS (l.getD j ev0).2.2 (l.getD q ev0) = true := by rw [d]; exact p2
              have := snt_some (l := l) (k := j) (by omega) (by omega) s2
              omega
        · cases h2
      · cases h2
  · rintro ⟨h1, h2⟩
    refine ⟨h1, ?_⟩
    rcases h2 with h2 | ⟨h2, h3⟩
    · rw [if_pos h2]
    · by_cases a : (l.getD j ev0).1 = (l.getD k ev0).1
      · rw [if_pos a]
      · rw [if_neg a]
        obtain ⟨p1, p2, p3⟩ := snt_spec (Nat.le_of_lt hk) ((chkE_ok (hE k hk)).2.2.2 h2)
        rw [← h3] at p2
        unfold isS at p2
        simp only [Bool.and_eq_true, decide_eq_true_iff] at p2
        rw [if_pos p2.1, if_pos h2]
        simpa using p2.2
/-! ### counts -/
def st (l : List Ev) (k : Nat) : Nat := (l.getD k ev0).1.toNat
def cnt (l : List Ev) (t : Nat) : Nat → Int
  | 0 => 0
  | k + 1 => cnt l t k + (if st l k = t then 1 else 0)
theorem cnt_succ (l : List Ev) (t k : Nat) : cnt l t (k + 1) = cnt l t k + (if st l k = t then 1 else 0) := rfl
def ord (l : List Ev) (k : Nat) : Int := cnt l (st l k) (k + 1)
theorem cnt_mono (l : List Ev) (t : Nat) {a b : Nat} (h : a ≤ b) : cnt l t a ≤ cnt l t b := by
  induction h with
  | refl => exact Int.le_refl _
  | step _ ih =>
    rw [cnt_succ]
    split <;> omega
theorem cnt_nn (l : List Ev) (t : Nat) (a : Nat) : 0 ≤ cnt l t a := cnt_mono l t (Nat.zero_le a)
theorem ord_eq (l : List Ev) (k : Nat) : ord l k = cnt l (st l k) k + 1 := by
  unfold ord
  rw [cnt_succ, if_pos rfl]
theorem ord_le {l : List Ev} {i k : Nat} (h : st l i = st l k) : ord l i ≤ ord l k ↔ i ≤ k := by
  constructor
  · intro g
    by_cases e : i ≤ k
    · exact e
    · have a := cnt_mono l (st l i) (show k + 1 ≤ i by omega)
      rw [ord_eq l i] at g
      unfold ord at g
      rw [← h] at g
      omega
  · intro g
    unfold ord
    rw [h]
    exact cnt_mono l _ (by omega)
theorem cnt_hit (l : List Ev) (t : Nat) : ∀ (m : Nat) (v : Int), 1 ≤ v → v ≤ cnt l t m → ∃ i, i < m ∧ st l i = t ∧ ord l i = v
  | 0, v, h1, h2 => by
      have : cnt l t 0 = 0 := rfl
      omega
  | m + 1, v, h1, h2 => by
      by_cases q : v ≤ cnt l t m
      · obtain ⟨i, a, b⟩ := cnt_hit l t m v h1 q
        exact ⟨i, by omega, b⟩
      · rw [cnt_succ] at h2
        by_cases e : st l m = t
        · rw [if_pos e] at h2
          exact ⟨m, by omega, e, by rw [ord_eq, e]; omega⟩
        · rw [if_neg e] at h2
          omega
end F
end Go.Proofs.Ytgmnfdmlidhbcaa
