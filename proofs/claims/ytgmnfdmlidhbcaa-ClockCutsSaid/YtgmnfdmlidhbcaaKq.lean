/- Part of a claim: lemmas on the way to its theorem; each states its own conditions. -/
import Derived.Test.YtgmnfdmlidhbcaaKp
import Derived.Test.YtgmnfdmlidhbcaaKg
/- Plain law: what the vectors and the numbers of the events say. -/
namespace Go.Proofs.Ytgmnfdmlidhbcaa
open Sym Go.RowKit
set_option maxRecDepth 100000
set_option maxHeartbeats 4000000
namespace F
/-! ### the vectors, one place at a time -/
theorem maxG_get (b : Nat) (row la : List Int) : ∀ (J k : Nat), b + J ≤ la.length → (maxG b row la J).getD k 0 = if b ≤ k ∧ k < b + J then max (la.getD k 0) (row.getD (k - b) 0) else la.getD k 0
  | 0, k, _ => by rw [if_neg (by omega)]; rfl
  | J + 1, k, h => by
      have h1 := maxG_get b row la J (b + J) (by omega)
      have h2 := maxG_get b row la J k (by omega)
      rw [if_neg (by omega)] at h1
      unfold maxG
      rw [gset, maxG_len, h1, h2]
      by_cases e : b + J = k
      · subst e
        rw [if_pos ⟨rfl, by omega⟩, if_pos (by omega), Nat.add_sub_cancel_left]
      · rw [if_neg (by omega)]
        by_cases q : b ≤ k ∧ k < b + J
        · rw [if_pos q, if_pos (by omega)]
        · rw [if_neg q, if_neg (by omega)]
theorem vecG_len (l : List Ev) : ∀ n, (vecG l n).1.length = 64 ∧ (vecG l n).2.length = n
  | 0 => ⟨rfl, rfl⟩
  | n + 1 => by
      obtain ⟨h1, h2⟩ := vecG_len l n
      refine ⟨?_, ?_⟩
      · show (vecT (vecS l (vecG l n).1 (vecG l n).2 n) (l.getD n ev0).1.toNat).length = 64
        unfold vecT
        rw [List.length_set, vecS_len, h1]
      · show ((vecG l n).2 ++ [_]).length = n + 1
        rw [List.length_append, h2]
        rfl
def V (l : List Ev) (k t : Nat) : Int := ((vecG l (k + 1)).2.getD k []).getD t 0
def va (l : List Ev) (k s t : Nat) : Int := (vecG l k).1.getD (s * 8 + t) 0
theorem vec_row (l : List Ev) {k : Nat} : ∀ n, k < n → (vecG l n).2.getD k [] = (vecG l (k + 1)).2.getD k []
  | 0, h => by omega
  | n + 1, h => by
      by_cases e : k = n
      · rw [e]
      · have e2 : (vecG l (n + 1)).2 = (vecG l n).2 ++ [((vecT (vecS l (vecG l n).1 (vecG l n).2 n) (l.getD n ev0).1.toNat).drop ((l.getD n ev0).1.toNat * 8)).take 8] := rfl
        rw [e2, gapp, (vecG_len l n).2, if_neg e]
        exact vec_row l n (by omega)
/-- The message's send. -/
def sq (l : List Ev) (k : Nat) : Nat := (snt (l.take k) (l.getD k ev0).2.2).toNat
theorem sq_lt {l : List Ev} (hc : chk l = 0) {k : Nat} (hk : k < l.length) (h2 : (l.getD k ev0).2.1 = 2) : sq l k < k :=
  (snt_spec (Nat.le_of_lt hk) ((chkE_ok ((chk_ok hc).2 k hk)).2.2.2 h2)).1
theorem st_lt {l : List Ev} (hc : chk l = 0) {k : Nat} (hk : k < l.length) : st l k < 8 := by
  have := (chkE_ok ((chk_ok hc).2 k hk)).1
  unfold st
  omega
theorem st_eq {l : List Ev} (hc : chk l = 0) {j k : Nat} (hj : j < l.length) (hk : k < l.length) : st l j = st l k ↔ (l.getD j ev0).1 = (l.getD k ev0).1 := by
  have a := (chkE_ok ((chk_ok hc).2 k hk)).1
  have b := (chkE_ok ((chk_ok hc).2 j hj)).1
  unfold st
  omega
theorem vecS_get {l : List Ev} (hc : chk l = 0) {n : Nat} (hn : n < l.length) (k : Nat) : (vecS l (vecG l n).1 (vecG l n).2 n).getD k 0 =
    if (l.getD n ev0).2.1 = 2 ∧ st l n * 8 ≤ k ∧ k < st l n * 8 + 8 then max ((vecG l n).1.getD k 0) (V l (sq l n) (k - st l n * 8)) else (vecG l n).1.getD k 0 := by
  have hs := st_lt hc hn
  have hl := (vecG_len l n).1
  unfold vecS
  by_cases h2 : (l.getD n ev0).2.1 = 2
  · rw [if_pos h2]
    have hb : (l.getD n ev0).1.toNat * 8 + 8 ≤ (vecG l n).1.length := by
      have : (l.getD n ev0).1.toNat = st l n := rfl
      omega
    have e3 : (snt (l.take n) (l.getD n ev0).2.2).toNat = sq l n := rfl
    rw [maxG_get _ _ _ _ _ hb, e3, vec_row l n (sq_lt hc hn h2)]
    have e : (l.getD n ev0).1.toNat = st l n := rfl
    rw [e]
    by_cases q : st l n * 8 ≤ k ∧ k < st l n * 8 + 8
    · rw [if_pos q, if_pos ⟨h2, q⟩]
      rfl
    · rw [if_neg q, if_neg (fun h => q h.2)]
  · rw [if_neg h2, if_neg (fun h => h2 h.1)]
theorem vecT_get (S : List Int) {s : Nat} (h : s * 8 + s < S.length) (k : Nat) : (vecT S s).getD k 0 = S.getD k 0 + (if k = s * 8 + s then 1 else 0) := by
  unfold vecT
  rw [gset]
  by_cases e : s * 8 + s = k
  · subst e
    rw [if_pos ⟨rfl, h⟩, if_pos rfl]
  · rw [if_neg (by omega), if_neg (by omega)]
    omega
theorem va_step {l : List Ev} (hc : chk l = 0) {n : Nat} (hn : n < l.length) {s t : Nat} (ht : t < 8) : va l (n + 1) s t =
    (if s = st l n ∧ (l.getD n ev0).2.1 = 2 then max (va l n s t) (V l (sq l n) t) else va l n s t) + (if s = st l n ∧ t = st l n then 1 else 0) := by
  have hs := st_lt hc hn
  have hl := (vecG_len l n).1
  have e : va l (n + 1) s t = (vecT (vecS l (vecG l n).1 (vecG l n).2 n) (st l n)).getD (s * 8 + t) 0 := rfl
  rw [e, vecT_get _ (by rw [vecS_len, hl]; omega), vecS_get hc hn]
  have q1 : ((l.getD n ev0).2.1 = 2 ∧ st l n * 8 ≤ s * 8 + t ∧ s * 8 + t < st l n * 8 + 8) ↔ (s = st l n ∧ (l.getD n ev0).2.1 = 2) := by
    constructor
    · rintro ⟨a, b, c⟩; exact ⟨by omega, a⟩
    · rintro ⟨a, b⟩; exact ⟨b, by omega, by omega⟩
  have q2 : s * 8 + t = st l n * 8 + st l n ↔ (s = st l n ∧ t = st l n) := by
    constructor
    · intro a; exact ⟨by omega, by omega⟩
    · rintro ⟨a, b⟩; rw [a, b]
  simp only [q1, q2]
  by_cases h : s = st l n ∧ (l.getD n ev0).2.1 = 2
  · rw [if_pos h, if_pos h]
    have : s * 8 + t - st l n * 8 = t := by rw [h.1]; omega
    rw [this]
    rfl
  · rw [if_neg h, if_neg h]
    rfl
theorem V_va {l : List Ev} (n : Nat) {t : Nat} (ht : t < 8) : V l n t = va l (n + 1) (st l n) t := by
  unfold V va
  have e2 : (vecG l (n + 1)).2 = (vecG l n).2 ++ [((vecG l (n + 1)).1.drop (st l n * 8)).take 8] := rfl
  rw [e2, gapp, if_pos (vecG_len l n).2.symm, gpart, if_pos ht]
theorem va_other {l : List Ev} (hc : chk l = 0) {n : Nat} (hn : n < l.length) {s t : Nat} (ht : t < 8) (h : s ≠ st l n) : va l (n + 1) s t = va l n s t := by
  rw [va_step hc hn ht, if_neg (fun q => h q.1), if_neg (fun q => h q.1)]
  omega
structure Inv (l : List Ev) (k : Nat) : Prop where
  b : ∀ s i, s < 8 → i < l.length → (ord l i ≤ va l k s (st l i) ↔ ∃ j, j < k ∧ st l j = s ∧ Q l i j)
  c : ∀ s, s < 8 → va l k s s = cnt l s k
  d : ∀ s t, s < 8 → t < 8 → 0 ≤ va l k s t ∧ va l k s t ≤ cnt l t k
  a : ∀ j i, j < k → i < l.length → (ord l i ≤ V l j (st l i) ↔ Q l i j)
  o : ∀ j, j < k → V l j (st l j) = ord l j
  v : ∀ j t, j < k → t < 8 → 0 ≤ V l j t ∧ V l j t ≤ cnt l t (j + 1)
theorem inv_zero (l : List Ev) : Inv l 0 := by
  have z : ∀ s t, va l 0 s t = 0 := fun s t => by
    show (List.replicate 64 (0 : Int)).getD (s * 8 + t) 0 = 0
    rw [List.getD_eq_getElem?_getD, List.getElem?_replicate]
    split <;> rfl
  refine ⟨fun s i _ _ => ?_, fun s _ => z s s, fun s t _ _ => ?_, fun j _ h => by omega, fun j h => by omega, fun j _ h => by omega⟩
  · rw [z, ord_eq]
    have := cnt_nn l (st l i) i
    exact ⟨fun h => by omega, fun ⟨j, h, _⟩ => by omega⟩
  · rw [z]
    exact ⟨Int.le_refl _, Int.le_refl _⟩
theorem inv_step {l : List Ev} (hc : chk l = 0) {k : Nat} (hk : k < l.length) (I : Inv l k) : Inv l (k + 1) := by
  have hs := st_lt hc hk
  have hsq := fun h2 => sq_lt hc hk h2
  have hedge := fun (j : Nat) => edge_iff hc (j := j) hk
  have eV : ∀ t, t < 8 → V l k t = (if (l.getD k ev0).2.1 = 2 then max (va l k (st l k) t) (V l (sq l k) t) else va l k (st l k) t) + (if t = st l k then 1 else 0) := fun t ht => by
    rw [V_va k ht, va_step hc hk ht]
    simp only [true_and]
  have eO : V l k (st l k) = ord l k := by
    rw [eV _ hs, if_pos rfl, ord_eq, I.c _ hs]
    split
    · rename_i h2
      have a := (I.v (sq l k) (st l k) (hsq h2) hs).2
      have b := cnt_mono l (st l k) (show sq l k + 1 ≤ k from hsq h2)
      omega
    · rfl
  have eA : ∀ i, i < l.length → (ord l i ≤ V l k (st l i) ↔ Q l i k) := fun i hi => by
    have ht := st_lt hc hi
    by_cases e : st l i = st l k
    · rw [e, eO, ord_le e]
      constructor
      · intro h
        by_cases q : i = k
        · exact .inl q
        · exact Q_edge hi hk ((hedge i).2 ⟨by omega, .inl ((st_eq hc hi hk).1 e)⟩)
      · exact Q_le hi hk
    · rw [eV _ ht, if_neg e]
      have hb := I.b (st l k) i hs hi
      constructor
      · intro h
        have : ord l i ≤ va l k (st l k) (st l i) ∨ ((l.getD k ev0).2.1 = 2 ∧ ord l i ≤ V l (sq l k) (st l i)) := by
          split at h
          · rename_i h2
            by_cases q : ord l i ≤ va l k (st l k) (st l i)
            · exact .inl q
            · exact .inr ⟨h2, by omega⟩
          · exact .inl (by omega)
        rcases this with h | ⟨h2, h⟩
        · obtain ⟨j, h1, h3, h4⟩ := hb.1 h
          exact Q_trans hi (by omega) hk h4 (Q_edge (by omega) hk ((hedge j).2 ⟨h1, .inl ((st_eq hc (by omega) hk).1 h3)⟩))
        · have hq := hsq h2
          exact Q_trans hi (by omega) hk ((I.a _ i hq hi).1 h) (Q_edge (by omega) hk ((hedge _).2 ⟨hq, .inr ⟨h2, rfl⟩⟩))
      · intro h
        rcases Q_last hi hk h with h | ⟨j, h1, h3, h4⟩
        · exact absurd (by rw [h]) e
        · rcases ((hedge j).1 h3).2 with h5 | ⟨h2, h5⟩
          · have := hb.2 ⟨j, h1, (st_eq hc (by omega) hk).2 h5, h4⟩
            split <;> omega
          · have h5 : j = sq l k := h5
            subst h5
            have := (I.a _ i h1 hi).2 h4
            rw [if_pos h2]
            omega
  have eD : ∀ t, t < 8 → 0 ≤ V l k t ∧ V l k t ≤ cnt l t (k + 1) := fun t ht => by
    have a := I.d (st l k) t hs ht
    rw [eV t ht, cnt_succ]
    have e1 : (st l k = t) ↔ (t = st l k) := ⟨Eq.symm, Eq.symm⟩
    simp only [e1]
    split
    · rename_i h2
      have hq := hsq h2
      have b := I.v _ t hq ht
      have c := cnt_mono l t (show sq l k + 1 ≤ k from hq)
      split <;> omega
    · split <;> omega
  have eN : ∀ t, cnt l t k ≤ cnt l t (k + 1) := fun t => cnt_mono l t (Nat.le_succ k)
  refine ⟨fun s i h8 hi => ?_, fun s h8 => ?_, fun s t h8 ht => ?_, fun j i hj hi => ?_, fun j hj => ?_, fun j t hj ht => ?_⟩
  · have ht := st_lt hc hi
    by_cases e : s = st l k
    · subst e
      rw [← V_va k ht, eA i hi]
      constructor
      · intro h
        exact ⟨k, by omega, rfl, h⟩
      · rintro ⟨j, h1, h2, h3⟩
        by_cases q : j = k
        · rw [← q]; exact h3
        · exact Q_trans hi (by omega) hk h3 (Q_edge (by omega) hk ((hedge j).2 ⟨by omega, .inl ((st_eq hc (by omega) hk).1 h2)⟩))
    · rw [va_other hc hk ht e, I.b s i h8 hi]
      constructor
      · rintro ⟨j, h1, h2⟩
        exact ⟨j, by omega, h2⟩
      · rintro ⟨j, h1, h2, h3⟩
        have : j ≠ k := fun q => e (by rw [← h2, q])
        exact ⟨j, by omega, h2, h3⟩
  · by_cases e : s = st l k
    · subst e
      rw [← V_va k h8, eO]
      rfl
    · rw [va_other hc hk h8 e, I.c s h8, cnt_succ, if_neg (fun q => e q.symm)]
      omega
  · by_cases e : s = st l k
    · subst e
      rw [← V_va k ht]
      exact eD t ht
    · rw [va_other hc hk ht e]
      have a := I.d s t h8 ht
      have b := eN t
      omega
  · by_cases e : j = k
    · rw [e]; exact eA i hi
    · exact I.a j i (by omega) hi
  · by_cases e : j = k
    · rw [e]; exact eO
    · exact I.o j (by omega)
  · by_cases e : j = k
    · rw [e]; exact eD t ht
    · exact I.v j t (by omega) ht
theorem inv {l : List Ev} (hc : chk l = 0) : ∀ k, k ≤ l.length → Inv l k
  | 0, _ => inv_zero l
  | k + 1, h => inv_step hc (by omega) (inv hc k (by omega))
/-! ### what the law says -/
theorem vec_get (l : List Ev) {k : Nat} (hk : k < l.length) (t : Nat) : ((vec l).getD k []).getD t 0 = V l k t := by
  unfold vec V
  rw [vec_row l _ hk]
theorem bef_eq {l : List Ev} (hc : chk l = 0) {i k : Nat} (hi : i < l.length) (hk : k < l.length) : bef l (i : Int) (k : Int) = ((lea l).getD i []).getD k false := by
  have I := inv hc l.length (Nat.le_refl _)
  have e0 : befE l (i : Int) (k : Int) = 0 := if_neg (by omega)
  have eR : ((lea l).getD i []).getD k false = R l l.length i k := rfl
  have es : (l.getD i ev0).1.toNat = st l i := rfl
  unfold bef
  rw [if_pos e0, Int.toNat_natCast, Int.toNat_natCast, es, vec_get l hi, vec_get l hk, I.o i hi, eR, Bool.eq_iff_iff, Bool.and_eq_true, decide_eq_true_iff, decide_eq_true_iff, I.a k i hk hi]
  constructor
  · rintro ⟨h1, h2 | h2⟩
    · exact absurd (by rw [h2]) h1
    · exact h2
  · intro h
    have := R_lt l _ i k (Nat.le_refl _) hi hk h
    exact ⟨by omega, .inr h⟩
/-- The counts that the law makes. -/
def wG (l : List Ev) (k : Nat) : Nat → List Int
  | 0 => List.replicate 8 0
  | i + 1 => if (i = k ∨ ((lea l).getD i []).getD k false = true) then (wG l k i).set (st l i) ((wG l k i).getD (st l i) 0 + 1) else wG l k i
theorem wG_len (l : List Ev) (k : Nat) : ∀ i, (wG l k i).length = 8
  | 0 => rfl
  | i + 1 => by
      unfold wG
      split
      · rw [List.length_set]; exact wG_len l k i
      · exact wG_len l k i
theorem wG_get {l : List Ev} (hc : chk l = 0) {k t : Nat} (hk : k < l.length) (ht : t < 8) : ∀ m, m ≤ l.length → (wG l k m).getD t 0 = min (V l k t) (cnt l t m)
  | 0, _ => by
      have I := inv hc l.length (Nat.le_refl _)
      have a := (I.v k t hk ht).1
      have e : (wG l k 0).getD t 0 = 0 := by
        show (List.replicate 8 (0 : Int)).getD t 0 = 0
        rw [List.getD_eq_getElem?_getD, List.getElem?_replicate]
        split <;> rfl
      have : cnt l t 0 = 0 := rfl
      rw [e, this]
      omega
  | m + 1, hm => by
      have I := inv hc l.length (Nat.le_refl _)
      have ih := wG_get hc hk ht m (by omega)
      have hs := st_lt hc (show m < l.length by omega)
      have hA := I.a k m hk (by omega)
      have hO := ord_eq l m
      unfold wG
      rw [cnt_succ]
      by_cases q : Q l m k
      · rw [if_pos (show m = k ∨ ((lea l).getD m []).getD k false = true from q), gset, wG_len]
        have g := hA.2 q
        by_cases e : st l m = t
        · subst e
          rw [if_pos ⟨rfl, hs⟩, if_pos rfl, ih]
          omega
        · rw [if_neg (fun h => e h.1), if_neg e, ih]
          omega
      · rw [if_neg (show ¬ (m = k ∨ ((lea l).getD m []).getD k false = true) from q), ih]
        have g : ¬ ord l m ≤ V l k (st l m) := fun h => q (hA.1 h)
        by_cases e : st l m = t
        · subst e
          rw [if_pos rfl]
          omega
        · rw [if_neg e]
          omega
theorem list_ext (a b : List Int) (h : a.length = b.length) (hg : ∀ t, t < a.length → a.getD t 0 = b.getD t 0) : a = b := by
  apply List.ext_getElem h
  intro i h1 h2
  have := hg i h1
  rw [List.getD_eq_getElem?_getD, List.getD_eq_getElem?_getD, List.getElem?_eq_getElem h1, List.getElem?_eq_getElem h2] at this
  exact this
theorem want_eq {l : List Ev} (hc : chk l = 0) {k : Nat} (hk : k < l.length) : (vec l).getD k [] = wG l k l.length := by
  have I := inv hc l.length (Nat.le_refl _)
  have h8 : ((vec l).getD k []).length = 8 := (vec_bound hc l.length (Nat.le_refl _)).2.2.1 k hk
  refine list_ext _ _ (by rw [h8, wG_len]) fun t ht => ?_
  rw [h8] at ht
  rw [vec_get l hk, wG_get hc hk ht _ (Nat.le_refl _)]
  have a := (I.v k t hk ht).2
  have b := cnt_mono l t (show k + 1 ≤ l.length from hk)
  omega
/-! ### the cut -/
theorem conRG_iff (row cut : List Int) : ∀ (m s : Nat), conRG row cut m s = true ↔ ∀ t, s ≤ t → t < s + m → row.getD t 0 ≤ max 0 (cut.getD t 0)
  | 0, s => by
      constructor
      · intro _ t h1 h2; omega
      · intro _; rfl
  | m + 1, s => by
      have e : conRG row cut (m + 1) s = (if max 0 (cut.getD s 0) < row.getD s 0 then false else conRG row cut m (s + 1)) := rfl
      rw [e]
      by_cases q : max 0 (cut.getD s 0) < row.getD s 0
      · rw [if_pos q]
        constructor
        · intro h; cases h
        · intro h
          have := h s (Nat.le_refl _) (by omega)
          omega
      · rw [if_neg q, conRG_iff row cut m (s + 1)]
        constructor
        · intro h t h1 h2
          by_cases e : t = s
          · subst e; omega
          · exact h t (by omega) (by omega)
        · intro h t h1 h2
          exact h t (by omega) (by omega)
theorem conG_iff {l : List Ev} (cut : List Int) : ∀ (m i : Nat), i + m ≤ l.length → (conG l cut m i = true ↔ ∀ k, i ≤ k → k < i + m → V l k (st l k) ≤ cut.getD (st l k) 0 → ∀ t, t < 8 → V l k t ≤ max 0 (cut.getD t 0))
  | 0, i, _ => by
      constructor
      · intro _ k h1 h2; omega
      · intro _; rfl
  | m + 1, i, hm => by
      have hi : i < l.length := by omega
      have ih := conG_iff (l := l) cut m (i + 1) (by omega)
      have es : (l.getD i ev0).1.toNat = st l i := rfl
      have e : conG l cut (m + 1) i = (if cut.getD (st l i) 0 < ((vec l).getD i []).getD (st l i) 0 then conG l cut m (i + 1) else if conRG ((vec l).getD i []) cut 8 0 then conG l cut m (i + 1) else false) := rfl
      rw [e, vec_get l hi]
      have hr := conRG_iff ((vec l).getD i []) cut 8 0
      have step : (∀ k, i ≤ k → k < i + (m + 1) → V l k (st l k) ≤ cut.getD (st l k) 0 → ∀ t, t < 8 → V l k t ≤ max 0 (cut.getD t 0)) ↔ ((V l i (st l i) ≤ cut.getD (st l i) 0 → ∀ t, t < 8 → V l i t ≤ max 0 (cut.getD t 0)) ∧ (∀ k, i + 1 ≤ k → k < i + 1 + m → V l k (st l k) ≤ cut.getD (st l k) 0 → ∀ t, t < 8 → V l k t ≤ max 0 (cut.getD t 0))) := by
        constructor
        · intro h
          exact ⟨h i (Nat.le_refl _) (by omega), fun k h1 h2 => h k (by omega) (by omega)⟩
        · rintro ⟨h1, h2⟩ k h3 h4
          by_cases q : k = i
          · subst q; exact h1
          · exact h2 k (by omega) (by omega)
      rw [step]
      by_cases q : cut.getD (st l i) 0 < V l i (st l i)
      · rw [if_pos q, ih]
        exact ⟨fun h => ⟨fun g => by omega, h⟩, fun h => h.2⟩
      · rw [if_neg q]
        by_cases r : conRG ((vec l).getD i []) cut 8 0 = true
        · rw [if_pos r, ih]
          refine ⟨fun h => ⟨fun _ t ht => ?_, h⟩, fun h => h.2⟩
          have := hr.1 r t (Nat.zero_le _) (by omega)
          rw [vec_get l hi] at this
          exact this
        · rw [if_neg r]
          constructor
          · intro h; cases h
          · rintro ⟨h, _⟩
            refine absurd (hr.2 fun t _ ht => ?_) r
            rw [vec_get l hi]
            exact h (by omega) t (by omega)
/-- The cut holds all that leads to what it holds. -/
def inC (l : List Ev) (cut : List Int) (k : Nat) : Bool := decide (ord l k ≤ cut.getD (st l k) 0)
theorem con_iff {l : List Ev} (hc : chk l = 0) (cut : List Int) : conG l cut l.length 0 = true ↔ ∀ i k, i < l.length → k < l.length → ((lea l).getD i []).getD k false = true → inC l cut k = true → inC l cut i = true := by
  have I := inv hc l.length (Nat.le_refl _)
  rw [conG_iff cut l.length 0 (by omega)]
  unfold inC
  simp only [decide_eq_true_iff]
  constructor
  · intro h i k hi hk hR hin
    have a := h k (Nat.zero_le _) (by omega) (by rw [I.o k hk]; exact hin) (st l i) (st_lt hc hi)
    have b := (I.a k i hk hi).2 (.inr hR)
    have c := ord_eq l i
    have d := cnt_nn l (st l i) i
    omega
  · intro h k _ hk hin t ht
    have hk : k < l.length := by omega
    rw [I.o k hk] at hin
    by_cases q : V l k t ≤ 0
    · omega
    · have b := (I.v k t hk ht).2
      have c := cnt_mono l t (show k + 1 ≤ l.length from hk)
      obtain ⟨i, g1, g2, g3⟩ := cnt_hit l t l.length (V l k t) (by omega) (by omega)
      have g4 : Q l i k := (I.a k i hk g1).1 (by rw [g2, g3]; exact Int.le_refl _)
      rcases g4 with g4 | g4
      · subst g4
        rw [← g3, ← g2]
        omega
      · have := h i k g1 hk g4 hin
        rw [g2, g3] at this
        omega
/-! ### Lamport's numbers -/
def L (l : List Ev) (k : Nat) : Int := (lamG l (k + 1)).2.getD k 0
def ll (l : List Ev) (k s : Nat) : Int := (lamG l k).1.getD s 0
theorem lam_row (l : List Ev) {k : Nat} : ∀ n, k < n → (lamG l n).2.getD k 0 = L l k
  | 0, h => by omega
  | n + 1, h => by
      by_cases e : k = n
      · rw [e]; rfl
      · have e2 : (lamG l (n + 1)).2 = (lamG l n).2 ++ [lamV l (lamG l n).1 (lamG l n).2 n] := rfl
        rw [e2, gapp, (lam_bound l n).2.1, if_neg e]
        exact lam_row l n (by omega)
theorem L_eq {l : List Ev} (hc : chk l = 0) {k : Nat} (hk : k < l.length) : L l k = (if (l.getD k ev0).2.1 = 2 then max (ll l k (st l k)) (L l (sq l k)) else ll l k (st l k)) + 1 := by
  have e2 : (lamG l (k + 1)).2 = (lamG l k).2 ++ [lamV l (lamG l k).1 (lamG l k).2 k] := rfl
  unfold L
  rw [e2, gapp, if_pos (lam_bound l k).2.1.symm]
  unfold lamV
  by_cases h : (l.getD k ev0).2.1 = 2
  · have e3 : (snt (l.take k) (l.getD k ev0).2.2).toNat = sq l k := rfl
    rw [if_pos h, if_pos h, e3, lam_row l k (sq_lt hc hk h)]
    rfl
  · rw [if_neg h, if_neg h]
    rfl
theorem ll_step {l : List Ev} (hc : chk l = 0) {k : Nat} (hk : k < l.length) (s : Nat) : ll l (k + 1) s = if st l k = s then L l k else ll l k s := by
  have e1 : (lamG l (k + 1)).1 = (lamG l k).1.set (st l k) (lamV l (lamG l k).1 (lamG l k).2 k) := rfl
  have e2 : (lamG l (k + 1)).2 = (lamG l k).2 ++ [lamV l (lamG l k).1 (lamG l k).2 k] := rfl
  have h8 := (lam_bound l k).1
  have hs := st_lt hc hk
  unfold ll L
  rw [e1, e2, gset, gapp, if_pos (lam_bound l k).2.1.symm]
  by_cases e : st l k = s
  · rw [if_pos ⟨e, by omega⟩, if_pos e]
  · rw [if_neg (fun h => e h.1), if_neg e]
theorem ll_inv {l : List Ev} (hc : chk l = 0) (s : Nat) : ∀ k, k ≤ l.length → (∀ j, j < k → st l j = s → L l j ≤ ll l k s) ∧ (ll l k s = 0 ∨ ∃ j, j < k ∧ st l j = s ∧ ll l k s = L l j)
  | 0, _ => by
      refine ⟨fun j h => by omega, .inl ?_⟩
      show (List.replicate 8 (0 : Int)).getD s 0 = 0
      rw [List.getD_eq_getElem?_getD, List.getElem?_replicate]
      split <;> rfl
  | k + 1, hk => by
      obtain ⟨h1, h2⟩ := ll_inv hc s k (by omega)
      rw [ll_step hc (by omega)]
      by_cases e : st l k = s
      · rw [if_pos e]
        refine ⟨fun j hj hs => ?_, .inr ⟨k, by omega, e, rfl⟩⟩
        by_cases q : j = k
        · rw [q]; exact Int.le_refl _
        · have a := h1 j (by omega) hs
          have b := L_eq hc (show k < l.length by omega)
          rw [e] at b
          split at b <;> omega
      · rw [if_neg e]
        refine ⟨fun j hj hs => ?_, ?_⟩
        · have : j ≠ k := fun q => e (by rw [← q]; exact hs)
          exact h1 j (by omega) hs
        · rcases h2 with h2 | ⟨j, a, b⟩
          · exact .inl h2
          · exact .inr ⟨j, by omega, b⟩
theorem L_edge {l : List Ev} (hc : chk l = 0) {j k : Nat} (hk : k < l.length) (h : E l j k = true) : L l j + 1 ≤ L l k := by
  obtain ⟨h1, h2⟩ := (edge_iff hc hk).1 h
  have b := L_eq hc hk
  rcases h2 with h2 | ⟨h2, h3⟩
  · have a := (ll_inv hc (st l k) k (Nat.le_of_lt hk)).1 j h1 ((st_eq hc (by omega) hk).2 h2)
    split at b <;> omega
  · have h3 : j = sq l k := h3
    rw [if_pos h2, ← h3] at b
    omega
theorem L_lead {l : List Ev} (hc : chk l = 0) : ∀ (n k h : Nat), k < n → k < l.length → h < l.length → R l l.length h k = true → L l h + 1 ≤ L l k
  | 0, k, h, hn, _, _, _ => by omega
  | n + 1, k, h, hn, hk, hh, hR => by
      have hlt := R_lt l _ h k (Nat.le_refl _) hh hk hR
      rcases Q_last hh hk (.inr hR) with e | ⟨j, h1, h2, h3⟩
      · omega
      · have a := L_edge hc hk h2
        rcases h3 with h3 | h3
        · rw [h3]; exact a
        · have b := L_lead hc n j h (by omega) (by omega) hh h3
          omega
theorem ll_nn (l : List Ev) (k s : Nat) : 0 ≤ ll l k s := ((lam_bound l k).2.2.1 s).1
theorem L_some {l : List Ev} (hc : chk l = 0) {k : Nat} (hk : k < l.length) : L l k = 1 ∨ ∃ h, h < k ∧ R l l.length h k = true ∧ L l k = L l h + 1 := by
  have b := L_eq hc hk
  have a := (ll_inv hc (st l k) k (Nat.le_of_lt hk)).2
  have base : ∀ j, j < k → E l j k = true → R l l.length j k = true := fun j hj h => R_base l (by omega) hk h _ (Nat.le_refl _)
  have left : L l k = ll l k (st l k) + 1 → L l k = 1 ∨ ∃ h, h < k ∧ R l l.length h k = true ∧ L l k = L l h + 1 := fun e => by
    rcases a with a | ⟨j, a1, a2, a3⟩
    · exact .inl (by omega)
    · exact .inr ⟨j, a1, base j a1 ((edge_iff hc hk).2 ⟨a1, .inl ((st_eq hc (by omega) hk).1 a2)⟩), by omega⟩
  by_cases h2 : (l.getD k ev0).2.1 = 2
  · rw [if_pos h2] at b
    have hq := sq_lt hc hk h2
    by_cases e : L l (sq l k) ≤ ll l k (st l k)
    · have f : L l k = ll l k (st l k) + 1 := by
        clear left base a
        omega
      exact left f
    · have f : L l k = L l (sq l k) + 1 := by
        clear left base a
        omega
      exact .inr ⟨sq l k, hq, base _ hq ((edge_iff hc hk).2 ⟨hq, .inr ⟨h2, rfl⟩⟩), f⟩
  · rw [if_neg h2] at b
    exact left b
theorem bH_get {l : List Ev} (hc : chk l = 0) {i : Nat} (hi : i < l.length) (b : List Int) (hbl : i < b.length) (hb : ∀ j, j < i → b.getD j 0 = L l j) (h1 : b.getD i 0 = 1) (hL : 1 ≤ L l i) : ∀ h, h ≤ i →
    (∀ j, j ≠ i → (bH (lea l) i b h).getD j 0 = b.getD j 0) ∧ 1 ≤ (bH (lea l) i b h).getD i 0 ∧ (bH (lea l) i b h).getD i 0 ≤ L l i ∧ ∀ g, g < h → R l l.length g i = true → L l g + 1 ≤ (bH (lea l) i b h).getD i 0
  | 0, _ => ⟨fun j _ => rfl, by show 1 ≤ b.getD i 0; omega, by show b.getD i 0 ≤ _; omega, fun g hg => by omega⟩
  | h + 1, hh => by
      obtain ⟨p1, p2, p3, p4⟩ := bH_get hc hi b hbl hb h1 hL h (by omega)
      have e2 : bH (lea l) i b (h + 1) = (if ((lea l).getD h []).getD i false then (if (bH (lea l) i b h).getD i 0 < (bH (lea l) i b h).getD h 0 + 1 then (bH (lea l) i b h).set i ((bH (lea l) i b h).getD h 0 + 1) else bH (lea l) i b h) else bH (lea l) i b h) := rfl
      have eh : (bH (lea l) i b h).getD h 0 = L l h := by rw [p1 h (by omega), hb h (by omega)]
      have hl : (bH (lea l) i b h).length = b.length := bH_len _ _ _ _
      rw [e2, eh]
      generalize bH (lea l) i b h = B at *
      have eR : ((lea l).getD h []).getD i false = R l l.length h i := rfl
      rw [eR]
      cases c : R l l.length h i with
      | false =>
        rw [if_neg (by decide)]
        refine ⟨p1, p2, p3, fun g hg hR => ?_⟩
        by_cases e : g = h
        · rw [e, c] at hR; cases hR
        · exact p4 g (by omega) hR
      | true =>
        rw [if_pos rfl]
        have up := L_lead hc (i + 1) i h (by omega) hi (by omega) c
        by_cases q : B.getD i 0 < L l h + 1
        · rw [if_pos q]
          have es : (B.set i (L l h + 1)).getD i 0 = L l h + 1 := by rw [gset, if_pos ⟨rfl, by omega⟩]
          rw [es]
          refine ⟨fun j hj => ?_, by omega, up, fun g hg hR => ?_⟩
          · rw [gset, if_neg (fun h => hj h.1.symm)]
            exact p1 j hj
          · by_cases e : g = h
            · rw [e]; exact Int.le_refl _
            · have := p4 g (by omega) hR
              omega
        · rw [if_neg q]
          refine ⟨p1, p2, p3, fun g hg hR => ?_⟩
          by_cases e : g = h
          · rw [e]; omega
          · exact p4 g (by omega) hR
theorem L_pos {l : List Ev} (hc : chk l = 0) {k : Nat} (hk : k < l.length) : 1 ≤ L l k := by
  have b := L_eq hc hk
  have a := ll_nn l k (st l k)
  split at b <;> omega
theorem bO_get {l : List Ev} (hc : chk l = 0) {K : Nat} (hK : K < l.length) : ∀ i, i ≤ K + 1 → ∀ j, j < i → (bO (lea l) K i).getD j 0 = L l j
  | 0, _, j, h => by omega
  | i + 1, hi, j, hj => by
      have ih := bO_get hc hK i (by omega)
      have hl := bO_len (lea l) K i
      have hiL : i < l.length := by omega
      have hb : ∀ j, j < i → ((bO (lea l) K i).set i 1).getD j 0 = L l j := fun j hj => by
        rw [gset, if_neg (fun h => by omega)]
        exact ih j hj
      have h1 : ((bO (lea l) K i).set i 1).getD i 0 = 1 := by rw [gset, if_pos ⟨rfl, by omega⟩]
      obtain ⟨p1, p2, p3, p4⟩ := bH_get hc hiL _ (by rw [List.length_set]; omega) hb h1 (L_pos hc hiL) i (Nat.le_refl _)
      have e1 : bO (lea l) K (i + 1) = bH (lea l) i ((bO (lea l) K i).set i 1) i := rfl
      rw [e1]
      by_cases e : j = i
      · subst e
        rcases L_some hc hiL with h | ⟨g, g1, g2, g3⟩
        · omega
        · have := p4 g g1 g2
          omega
      · rw [p1 j e]
        exact hb j (by omega)
theorem rlam_eq {l : List Ev} (hc : chk l = 0) {k : Nat} (hk : k < l.length) : (lam l).getD k 0 = rlam (lea l) k := by
  unfold lam rlam
  rw [if_pos hc, lam_row l _ hk, bO_get hc hk (k + 1) (Nat.le_refl _) k (by omega)]
end F
end Go.Proofs.Ytgmnfdmlidhbcaa
