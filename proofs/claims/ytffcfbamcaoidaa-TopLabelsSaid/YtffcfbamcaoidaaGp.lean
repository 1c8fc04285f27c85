/- Plain law of the places of labels: the depth-first search gives the first word, in the order of the numbers, whose rectangles fit. No condition. -/
import Derived.Test.YtffcfbamcaoidaaGy
namespace Go.Proofs.Ytffcfbamcaoidaa
open Sym Go.RowKit
set_option maxRecDepth 100000
set_option maxHeartbeats 4000000
namespace F
/-- The t lowest digits of n, to the base 8, the highest first. -/
def wd : Nat → Nat → List Int
  | 0, _ => []
  | t + 1, n => ((n / 8 ^ t % 8 : Nat) : Int) :: wd t n
def idx : List Int → Nat
  | [] => 0
  | k :: w => k.toNat * 8 ^ w.length + idx w
theorem wd_len : ∀ t n, (wd t n).length = t
  | 0, _ => rfl
  | t + 1, n => by rw [wd, List.length_cons, wd_len t n]
theorem wd_spots : ∀ t n, spots (wd t n)
  | 0, _ => fun x hx => absurd hx (by simp [wd])
  | t + 1, n => fun x hx => by
    rw [wd] at hx
    rcases List.mem_cons.mp hx with rfl | h
    · have := Nat.mod_lt (n / 8 ^ t) (show 0 < 8 by decide)
      omega
    · exact wd_spots t n x h
theorem wd_add : ∀ (t a b : Nat), wd t (a * 8 ^ t + b) = wd t b
  | 0, _, _ => rfl
  | t + 1, a, b => by
    have e : a * 8 ^ (t + 1) + b = (8 * a) * 8 ^ t + b := by rw [Nat.pow_succ]; congr 1; rw [Nat.mul_comm (8 ^ t) 8, ← Nat.mul_assoc, Nat.mul_comm a 8]
    rw [wd, wd, e, wd_add t (8 * a) b]
    congr 2
    rw [Nat.add_comm, Nat.add_mul_div_right _ _ (Nat.pow_pos (by decide))]
    omega
theorem spots_cons {k : Int} {w : List Int} : spots (k :: w) ↔ (0 ≤ k ∧ k < 8) ∧ spots w := by
  unfold spots
  simp
theorem idx_lt : ∀ {w : List Int}, spots w → idx w < 8 ^ w.length
  | [], _ => by decide
  | k :: w, h => by
    obtain ⟨⟨h0, h1⟩, h2⟩ := spots_cons.mp h
    have := idx_lt h2
    rw [idx, List.length_cons, Nat.pow_succ]
    have : k.toNat * 8 ^ w.length ≤ 7 * 8 ^ w.length := Nat.mul_le_mul_right _ (by omega)
    omega
theorem wd_idx : ∀ {w : List Int}, spots w → wd w.length (idx w) = w
  | [], _ => rfl
  | k :: w, h => by
    obtain ⟨⟨h0, h1⟩, h2⟩ := spots_cons.mp h
    have hl := idx_lt h2
    rw [List.length_cons, wd, idx, wd_add, wd_idx h2]
    congr 1
    rw [Nat.add_comm, Nat.add_mul_div_right _ _ (Nat.pow_pos (by decide)), Nat.div_eq_of_lt hl]
    omega
theorem idx_wd : ∀ (t n : Nat), idx (wd t n) = n % 8 ^ t
  | 0, n => by simp [wd, idx, Nat.mod_one]
  | t + 1, n => by
    rw [wd, idx, wd_len, idx_wd t n, Nat.pow_succ, Nat.mod_mul, Int.toNat_natCast, Nat.mul_comm, Nat.add_comm]
/-- A word fits behind the labels that are placed. -/
def fitW (l : List Q4) : List Int → List Q4 → List Int → Bool
  | _, _, [] => true
  | sp, us, k :: w => free l 0 l.length us 0 us.length (boxQ (l.getD sp.length q0) k) && fitW l (sp ++ [k]) (us ++ [boxQ (l.getD sp.length q0) k]) w
/-- What the search answers: the first word that fits. -/
def First (P : List Int → Prop) (sp : List Int) (d : Nat) (f : List Int → Bool) : Option (List Int) → Prop
  | some r => ∃ w, w.length = d ∧ spots w ∧ P w ∧ r = sp ++ w ∧ f w = true ∧ ∀ w', w'.length = d → spots w' → P w' → f w' = true → idx w ≤ idx w'
  | none => ∀ w', w'.length = d → spots w' → P w' → f w' = false
theorem go_first {l : List Q4} {d : Nat} {sp : List Int} {us : List Q4} {rec : List Int → List Q4 → Option (List Int)}
    (hr : ∀ sp us, First (fun _ => True) sp d (fitW l sp us) (rec sp us)) : ∀ (m : Nat) (k : Int), 0 ≤ k → k + m = 8 → First (fun w => ∃ k' w', w = k' :: w' ∧ k ≤ k') sp (d + 1) (fitW l sp us) (go l rec sp us m k)
  | 0, k, h0, hm => by
    rw [go]
    rintro w hl hs ⟨k', w', rfl, hk⟩
    have := (spots_cons.mp hs).1
    omega
  | m + 1, k, h0, hm => by
    have nx := go_first hr m (k + 1) (by omega) (by omega) (sp := sp) (us := us)
    -- what the later heads give, when no word with this head fits
    have step : (∀ w', w'.length = d → spots w' → fitW l sp us (k :: w') = false) → First (fun w => ∃ k' w', w = k' :: w' ∧ k ≤ k') sp (d + 1) (fitW l sp us) (go l rec sp us m (k + 1)) := by
      intro hno
      have up : ∀ w, w.length = d + 1 → spots w → (∃ k' w', w = k' :: w' ∧ k ≤ k') → fitW l sp us w = true → ∃ k' w', w = k' :: w' ∧ k + 1 ≤ k' := by
        rintro w hl hs ⟨k', w', rfl, hk⟩ hf
        refine ⟨k', w', rfl, ?_⟩
        by_cases e : k' = k
        · subst e
          rw [hno w' (by simpa using hl) (spots_cons.mp hs).2] at hf
          cases hf
        · omega
      cases hg : go l rec sp us m (k + 1) with
      | none =>
        rw [hg] at nx
        intro w hl hs hP
        cases hf : fitW l sp us w with
        | false => rfl
        | true => rw [nx w hl hs (up w hl hs hP hf)] at hf; cases hf
      | some r =>
        rw [hg] at nx
        obtain ⟨w, hl, hs, ⟨k', w', rfl, hk⟩, hw, hf, hmin⟩ := nx
        exact ⟨_, hl, hs, ⟨k', w', rfl, by omega⟩, hw, hf, fun w'' hl' hs' hP' hf' => hmin w'' hl' hs' (up w'' hl' hs' hP' hf') hf'⟩
    rw [go]
    have ef : ∀ w, fitW l sp us (k :: w) = (free l 0 l.length us 0 us.length (boxQ (l.getD sp.length q0) k) && fitW l (sp ++ [k]) (us ++ [boxQ (l.getD sp.length q0) k]) w) := fun w => rfl
    split
    · rename_i hfree
      have h1 := hr (sp ++ [k]) (us ++ [boxQ (l.getD sp.length q0) k])
      split
      · rename_i r hrec
        rw [hrec] at h1
        obtain ⟨w, hl, hs, _, hw, hf, hmin⟩ := h1
        refine ⟨k :: w, by simp [hl], spots_cons.mpr ⟨⟨h0, by omega⟩, hs⟩, ⟨k, w, rfl, Int.le_refl _⟩, by rw [hw]; simp, by rw [ef, hfree, hf]; rfl, ?_⟩
        rintro w'' hl' hs' ⟨k', w', rfl, hk⟩ hf'
        obtain ⟨⟨g0, g1⟩, g2⟩ := spots_cons.mp hs'
        have hl2 : w'.length = d := by simpa using hl'
        rw [idx, idx, hl, hl2]
        by_cases e : k' = k
        · subst e
          rw [ef, hfree, Bool.true_and] at hf'
          have := hmin w' hl2 g2 trivial hf'
          omega
        · have hi := idx_lt hs
          rw [hl] at hi
          have : (k.toNat + 1) * 8 ^ d ≤ k'.toNat * 8 ^ d := Nat.mul_le_mul_right _ (by omega)
          rw [Nat.add_mul, Nat.one_mul] at this
          omega
      · rename_i hrec
        rw [hrec] at h1
        exact step fun w' hl hs => by rw [ef, h1 w' hl hs trivial, Bool.and_false]
    · rename_i hfree
      exact step fun w' hl hs => by rw [ef, Bool.eq_false_iff.mpr hfree]; rfl
theorem srch_first (l : List Q4) : ∀ (d : Nat) (sp : List Int) (us : List Q4), First (fun _ => True) sp d (fitW l sp us) (srch l d sp us)
  | 0, sp, us => by
    rw [srch]
    refine ⟨[], rfl, fun x hx => absurd hx (by simp), trivial, by simp, rfl, fun w' hl _ _ _ => ?_⟩
    exact Nat.zero_le _
  | d + 1, sp, us => by
    have h := go_first (l := l) (d := d) (us := us) (sp := sp) (rec := srch l d) (fun sp us => srch_first l d sp us) 8 0 (Int.le_refl _) rfl
    have all : ∀ w, w.length = d + 1 → spots w → ∃ k' w', w = k' :: w' ∧ (0 : Int) ≤ k' := by
      intro w hl hs
      cases w with
      | nil => simp at hl
      | cons k w => exact ⟨k, w, rfl, (spots_cons.mp hs).1.1⟩
    rw [srch]
    cases hg : go l (srch l d) sp us 8 0 with
    | none =>
      rw [hg] at h
      exact fun w hl hs _ => h w hl hs (all w hl hs)
    | some r =>
      rw [hg] at h
      obtain ⟨w, hl, hs, _, hw, hf, hmin⟩ := h
      exact ⟨w, hl, hs, trivial, hw, hf, fun w' hl' hs' _ hf' => hmin w' hl' hs' (all w' hl' hs') hf'⟩
/-! the reference's test is the search's -/
theorem anyQ_anyI (p : Q4 → Bool) (l : List Q4) : ∀ (m j : Nat), anyQ p l m j = anyI (fun i => p (at4 l i)) m (j : Int)
  | 0, _ => rfl
  | m + 1, j => by
    rw [anyQ, anyI, anyQ_anyI p l m (j + 1)]
    have : at4 l (j : Int) = l.getD j q0 := by unfold at4; rw [Int.toNat_natCast, Nat.zero_add]
    rw [this]
    rfl
theorem anyI_congr {p q : Int → Bool} : ∀ (m : Nat) (i : Int), (∀ j, i ≤ j → j < i + m → p j = q j) → anyI p m i = anyI q m i
  | 0, _, _ => rfl
  | m + 1, i, h => by rw [anyI, anyI, h i (by omega) (by omega), anyI_congr m (i + 1) fun j h1 h2 => h j (by omega) (by omega)]
def boxes (l : List Q4) (sp : List Int) (i : Nat) : List Q4 := (List.range i).map fun (k : Nat) => boxAt l sp (k : Int)
theorem fitR_fitW (l : List Q4) (sp : List Int) (hl : sp.length = l.length) : ∀ (m i : Nat), i + m = l.length → fitR l sp m (i : Int) = fitW l (sp.take i) (boxes l sp i) (sp.drop i)
  | 0, i, h => by rw [List.drop_of_length_le (by omega)]; rfl
  | m + 1, i, h => by
    have nx := fitR_fitW l sp hl m (i + 1) (by omega)
    have hi : i < sp.length := by omega
    have ed : sp.drop i = sp[i] :: sp.drop (i + 1) := List.drop_eq_getElem_cons hi
    have et : (sp.take i).length = i := by rw [List.length_take]; omega
    have e4 : at4 l (i : Int) = l.getD i q0 := by unfold at4; rw [Int.toNat_natCast, Nat.zero_add]
    have e0 : at0 sp (i : Int) = sp[i] := by unfold at0; rw [Int.toNat_natCast, Nat.zero_add, List.getD, List.getElem?_eq_getElem hi]; rfl
    have eb : boxAt l sp (i : Int) = boxQ (l.getD i q0) sp[i] := by unfold boxAt; rw [e4, e0]
    have el : (boxes l sp i).length = i := by simp [boxes]
    have eg : ∀ j : Int, 0 ≤ j → j < 0 + (i : Int) → meet (boxAt l sp (i : Int)) (boxAt l sp j) = meet (boxAt l sp (i : Int)) (at4 (boxes l sp i) j) := by
      intro j h1 h2
      have hj : 0 + j.toNat < i := by omega
      congr 1
      unfold at4 boxes
      rw [List.getD, List.getElem?_map, List.getElem?_range hj]
      simp only [Option.map_some, Option.getD_some]
      congr 1
      omega
    rw [fitR, ed, fitW, et, ← eb, el]
    unfold free
    rw [anyQ_anyI, anyQ_anyI]
    have a2 := anyI_congr i 0 eg
    rw [Int.toNat_natCast, a2]
    rw [Bool.and_assoc]
    congr 1
    congr 1
    have es : sp.take (i + 1) = sp.take i ++ [sp[i]] := by rw [List.take_add_one, List.getElem?_eq_getElem hi]; rfl
    have eB : boxes l sp (i + 1) = boxes l sp i ++ [boxAt l sp (i : Int)] := by unfold boxes; rw [List.range_succ, List.map_append]; rfl
    rw [← es, ← eB]
    exact nx
theorem fitL_fitW {l : List Q4} {sp : List Int} (hl : sp.length = l.length) : fitL l sp = fitW l [] [] sp := by
  have := fitR_fitW l sp hl l.length 0 (by omega)
  exact this
/-- A place is given: it is the first word that fits. -/
theorem place_yes {l : List Q4} (h : placeB l = true) : (placeR l).length = l.length ∧ spots (placeR l) ∧ fitL l (placeR l) = true ∧ ∀ n, n < 8 ^ l.length → fitL l (wd l.length n) = true → idx (placeR l) ≤ n := by
  unfold placeB at h
  simp only [Bool.and_eq_true, decide_eq_true_eq] at h
  obtain ⟨_, _, _, h⟩ := h
  unfold srchB at h
  unfold placeR srchR
  have f := srch_first l l.length [] []
  cases hs : srch l l.length [] [] with
  | none => rw [hs] at h; cases h
  | some r =>
    rw [hs] at f
    obtain ⟨w, hl, hsp, _, hw, hf, hmin⟩ := f
    rw [List.nil_append] at hw
    subst hw
    rw [Option.getD_some]
    refine ⟨hl, hsp, by rw [fitL_fitW hl]; exact hf, fun n hn hfit => ?_⟩
    rw [fitL_fitW (wd_len _ _)] at hfit
    have := hmin _ (wd_len _ _) (wd_spots _ _) trivial hfit
    rwa [idx_wd, Nat.mod_eq_of_lt hn] at this
/-- No place is given: no word fits. -/
theorem place_no {l : List Q4} (h : placeB l = false) (h1 : lchk l = 0) (h2 : l.length ≤ 6) (h3 : l.length ≠ 0) : placeE l = 8 ∧ ∀ n, fitL l (wd l.length n) = false := by
  unfold placeB at h
  simp only [h1, h2, h3, decide_true, Bool.true_and, ne_eq, not_false_eq_true] at h
  refine ⟨by unfold placeE; rw [if_pos h1, if_neg (by omega), if_neg h3], fun n => ?_⟩
  unfold srchB at h
  have f := srch_first l l.length [] []
  cases hs : srch l l.length [] [] with
  | some r => rw [hs] at h; cases h
  | none =>
    rw [hs] at f
    rw [fitL_fitW (wd_len _ _)]
    exact f _ (wd_len _ _) (wd_spots _ _) trivial
end F
end Go.Proofs.Ytffcfbamcaoidaa
