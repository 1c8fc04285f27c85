/- Parts of the proof, one behind the other: Ar, StP. -/
import Derived.Test.YtkfkfihjdohjfaaBd23
import Derived.Sort.Walk0
section
/- Plain arithmetic. -/
namespace Go.Proofs.Ytkfkfihjdohjfaa
open Sym
theorem tdiv_floor (a b : Int) (hb : 0 < b) : (a.tmod b ≠ 0 ∧ a < 0 → a.tdiv b - 1 = a / b) ∧ (a.tmod b = 0 ∨ 0 ≤ a → a.tdiv b = a / b) := by
  have h1 := Int.tmod_add_mul_tdiv a b
  have h2 := Int.emod_add_mul_ediv a b
  have h3 := Int.emod_nonneg a (show b ≠ 0 by omega)
  have h4 := Int.emod_lt_of_pos a hb
  constructor
  · rintro ⟨hm, ha⟩
    have h5 : a.tmod b < 0 := by
      have h9 : a.tmod b = -((-a).tmod b) := by rw [Int.neg_tmod]; omega
      have h10 : 0 ≤ (-a).tmod b := Int.tmod_nonneg b (by omega)
      omega
    have h6 : -b < a.tmod b := Int.lt_tmod_of_pos a hb
    have h7 : (a / b - (a.tdiv b - 1)) * b = a.tmod b + b - a % b := by
      rw [Int.sub_mul, Int.sub_mul, Int.mul_comm (a / b), Int.mul_comm (a.tdiv b)]; omega
    have h8 : a / b - (a.tdiv b - 1) = 0 := by
      rcases Int.lt_trichotomy (a / b - (a.tdiv b - 1)) 0 with h | h | h
      · have : (a / b - (a.tdiv b - 1)) * b ≤ -1 * b := Int.mul_le_mul_of_nonneg_right (by omega) (by omega)
        omega
      · exact h
      · have : 1 * b ≤ (a / b - (a.tdiv b - 1)) * b := Int.mul_le_mul_of_nonneg_right (by omega) (by omega)
        omega
    omega
  · rintro (hm | ha)
    · rw [hm, Int.zero_add] at h1
      rw [← h1, Int.mul_tdiv_cancel_left _ (by omega), Int.mul_ediv_cancel_left _ (by omega)]
    · exact Int.tdiv_eq_ediv_of_nonneg ha

theorem tdiv_bd (a b : Int) (hb : 0 < b) (ha : i64ok a) : i64ok (a.tdiv b) := by
  obtain ⟨h0, h1⟩ := ha
  rcases Int.le_total 0 a with h | h
  · have h2 := Int.tdiv_eq_ediv_of_nonneg (b := b) h
    have h3 := Int.ediv_le_self b h
    have h4 : 0 ≤ a / b := Int.ediv_nonneg h (by omega)
    unfold i64ok
    omega
  · have h2 : a.tdiv b = -((-a).tdiv b) := by rw [Int.neg_tdiv]; omega
    have h5 := Int.tdiv_eq_ediv_of_nonneg (a := -a) (b := b) (by omega)
    have h3 := Int.ediv_le_self (a := -a) b (by omega)
    have h4 : 0 ≤ (-a) / b := Int.ediv_nonneg (by omega) (by omega)
    unfold i64ok
    omega

theorem mul_bd {x y a b : Int} (hx : -a ≤ x ∧ x ≤ a) (hy : -b ≤ y ∧ y ≤ b) : -(a * b) ≤ x * y ∧ x * y ≤ a * b := by
  have h : (x * y).natAbs ≤ a.natAbs * b.natAbs := by
    rw [Int.natAbs_mul]
    exact Nat.mul_le_mul (by omega) (by omega)
  have h2 : ((a.natAbs * b.natAbs : Nat) : Int) = a * b := by
    rw [Int.natCast_mul, Int.natAbs_of_nonneg (by omega), Int.natAbs_of_nonneg (by omega)]
  omega
theorem mul_self_nn (x : Int) : 0 ≤ x * x := by
  rcases Int.le_total 0 x with h | h
  · exact Int.mul_nonneg h h
  · have := Int.mul_nonneg (show 0 ≤ -x by omega) (show 0 ≤ -x by omega)
    rwa [Int.neg_mul_neg] at this
theorem sq_bd {x a : Int} (hx : -a ≤ x ∧ x ≤ a) : 0 ≤ x * x ∧ x * x ≤ a * a := ⟨mul_self_nn x, (mul_bd hx hx).2⟩
/-- The quotient rounded down, by the truncated one. -/
theorem floor_tdiv (a b : Int) (hb : 0 < b) (ha : i64ok a) : i64ok (a.tdiv b) ∧ i64ok (a.tdiv b * b) ∧ (a < a.tdiv b * b → a.tdiv b - 1 = a / b ∧ i64ok (a.tdiv b - 1)) ∧ (¬ a < a.tdiv b * b → a.tdiv b = a / b) := by
  have h0 := tdiv_bd a b hb ha
  have h1 := Int.tmod_add_mul_tdiv a b
  obtain ⟨h2, h3⟩ := tdiv_floor a b hb
  have h4 : b * a.tdiv b = a.tdiv b * b := Int.mul_comm _ _
  have h5 : -b < a.tmod b := Int.lt_tmod_of_pos a hb
  have h6 := Int.tmod_lt_of_pos a hb
  have h7 : 0 ≤ a → 0 ≤ a.tmod b := fun h => Int.tmod_nonneg b h
  have h8 : a ≤ 0 → a.tmod b ≤ 0 := fun h => by
    have h9 : a.tmod b = -((-a).tmod b) := by rw [Int.neg_tmod]; omega
    have h10 : 0 ≤ (-a).tmod b := Int.tmod_nonneg b (by omega)
    omega
  refine ⟨h0, ?_, fun h => ?_, fun h => ?_⟩
  · unfold i64ok at *
    rcases Int.le_total 0 a with h | h
    · have := h7 h
      have : 0 ≤ a.tdiv b * b := Int.mul_nonneg (Int.tdiv_nonneg h (by omega)) (by omega)
      omega
    · have := h8 h
      have h9 : a.tdiv b = -((-a).tdiv b) := by rw [Int.neg_tdiv]; omega
      have h10 : 0 ≤ (-a).tdiv b * b := Int.mul_nonneg (Int.tdiv_nonneg (by omega) (by omega)) (by omega)
      have h11 : a.tdiv b * b = -((-a).tdiv b * b) := by rw [h9, Int.neg_mul]
      omega
  · have ha0 : a < 0 := by
      rcases Int.le_total 0 a with h' | h'
      · have := h7 h'
        omega
      · rcases Int.lt_or_eq_of_le h' with h'' | h''
        · exact h''
        · have := h7 (by omega)
          omega
    have e := h2 ⟨by omega, ha0⟩
    refine ⟨e, ?_⟩
    have h9 := Int.emod_add_mul_ediv a b
    have h10 := Int.emod_nonneg a (show b ≠ 0 by omega)
    rw [e]
    unfold i64ok at *
    have h11 : a.tdiv b * b ≤ 0 := by
      rcases Int.lt_or_le 0 (a.tdiv b * b) with h' | h'
      · have := h8 (by omega)
        have h9 : a.tdiv b = -((-a).tdiv b) := by rw [Int.neg_tdiv]; omega
        have h10 : 0 ≤ (-a).tdiv b * b := Int.mul_nonneg (Int.tdiv_nonneg (by omega) (by omega)) (by omega)
        have h11 : a.tdiv b * b = -((-a).tdiv b * b) := by rw [h9, Int.neg_mul]
        omega
      · exact h'
    have h12 : a ≤ a / b := by
      have := Int.ediv_le_self (a := -a) b (by omega)
      have h13 := Int.le_ediv_of_mul_le hb (a := a) (b := a) (by
        have : a * b ≤ a * 1 := Int.mul_le_mul_of_nonpos_left (by omega) (by omega)
        omega)
      exact h13
    omega
  · refine h3 ?_
    by_cases hm : a.tmod b = 0
    · exact .inl hm
    · refine .inr ?_
      rcases Int.le_total 0 a with h' | h'
      · exact h'
      · have := h8 h'
        omega
theorem tmod_zero_iff (a b : Int) (hb : 0 < b) : a.tmod b = 0 ↔ a % b = 0 := by
  rw [← Int.dvd_iff_tmod_eq_zero, ← Int.dvd_iff_emod_eq_zero]
theorem ceil_eq (a b : Int) (hb : 0 < b) : (a % b = 0 → a / b = -(-a / b)) ∧ (a % b ≠ 0 → a / b + 1 = -(-a / b)) := by
  have h1 := Int.emod_add_mul_ediv a b
  have h2 := Int.emod_nonneg a (show b ≠ 0 by omega)
  have h3 := Int.emod_lt_of_pos a hb
  have e1 : b * (a / b) = a / b * b := Int.mul_comm _ _
  constructor
  · intro h
    have : -a / b = -(a / b) := by
      rw [show -a = -(a / b) * b by rw [Int.neg_mul]; omega]
      exact Int.mul_ediv_cancel _ (by omega)
    omega
  · intro h
    have : -a / b = -(a / b) - 1 := by
      rw [show -a = (b - a % b) + (-(a / b) - 1) * b by rw [Int.sub_mul, Int.neg_mul]; omega]
      rw [Int.add_mul_ediv_right _ _ (by omega), Int.ediv_eq_zero_of_lt (by omega) (by omega)]
      omega
    omega
theorem ediv_bd (a b : Int) (hb : 0 < b) : (0 ≤ a → 0 ≤ a / b ∧ a / b ≤ a) ∧ (a < 0 → a ≤ a / b ∧ a / b < 0) := by
  refine ⟨fun h => ⟨Int.ediv_nonneg h (by omega), Int.ediv_le_self b h⟩, fun h => ⟨?_, Int.ediv_neg_of_neg_of_pos h hb⟩⟩
  exact Int.le_ediv_of_mul_le hb (by
    have : a * b ≤ a * 1 := Int.mul_le_mul_of_nonpos_left (by omega) (by omega)
    omega)
theorem up_ok {a b : Int} (hb : 0 < b) (h2 : i64ok a) (h : i64ok (-a)) : i64ok (-(-a / b)) := by
  obtain ⟨h3, h4⟩ := ediv_bd (-a) b hb
  unfold i64ok at *
  rcases Int.lt_or_le (-a) 0 with h5 | h5
  · have := h4 h5
    omega
  · have := h3 h5
    omega
theorem down_ok {a b : Int} (hb : 0 < b) (h : i64ok a) : i64ok (a / b) := by
  obtain ⟨h3, h4⟩ := ediv_bd a b hb
  unfold i64ok at *
  rcases Int.lt_or_le a 0 with h5 | h5
  · have := h4 h5
    omega
  · have := h3 h5
    omega
theorem floor_tmod (a b : Int) (hb : 0 < b) (ha : i64ok a) : (a.tmod b ≠ 0 → a < 0 → a.tdiv b - 1 = a / b ∧ i64ok (a.tdiv b - 1)) ∧ (a.tmod b = 0 ∨ 0 ≤ a → a.tdiv b = a / b) := by
  obtain ⟨h2, h3⟩ := tdiv_floor a b hb
  refine ⟨fun h h' => ?_, h3⟩
  have := h2 ⟨h, h'⟩
  rw [this]
  exact ⟨rfl, down_ok hb ha⟩
theorem wrap_ok {n : Int} (h : i64ok n) : IntKind.wrap .i64 n = n := by
  unfold i64ok at h
  unfold IntKind.wrap
  simp [IntKind.bits, IntKind.signed]
  omega
end Go.Proofs.Ytkfkfihjdohjfaa
end
section
/- Strips in a list: the first one of a flight, those of a bay, a bay's strips in order. -/
namespace Go.Proofs.Ytkfkfihjdohjfaa
namespace F
abbrev St := List UInt8 × List UInt8 × Int × Int × Int
def st0 : St := ([], [], 0, 0, 0)
def lt (a b : List UInt8) : Bool := Op.bytesLess a b
def scmp (a b : List UInt8) : Int := if lt a b then -1 else (if lt b a then 1 else 0)
def orF : List Int → Int
  | [] => 0
  | x :: l => if x = 0 then orF l else x
def cmpB (x y : St) : Int := orF [x.2.2.1 - y.2.2.1, scmp x.1 y.1]
def idxG (c : List UInt8) : List St → Int → Int
  | [], _ => -1
  | x :: r, i => if x.1 = c then i else idxG c r (i + 1)
def idx (l : List St) (c : List UInt8) : Int := idxG c l 0
def dst (l : List St) : Prop := (l.map Prod.fst).Nodup
def tmO (l : List St) : Prop := ∀ x ∈ l, 0 ≤ x.2.2.1 ∧ x.2.2.1 ≤ 200000
def ltB (x y : St) : Bool := decide (x.2.2.1 < y.2.2.1) || (decide (x.2.2.1 = y.2.2.1) && lt x.1 y.1)
def insB (s : St) : List St → List St
  | [] => [s]
  | y :: r => if ltB y s = true then y :: insB s r else s :: y :: r
def sortB : List St → List St
  | [] => []
  | x :: r => insB x (sortB r)
def inB (b : Int) (x : St) : Bool := decide (x.2.2.2.2 = b)
def bay (l : List St) (b : Int) : List St := sortB (l.filter (inB b))
def cnt (l : List St) (b : Int) : Nat := (l.filter (inB b)).length
def srt (out : List St) (b : Int) : List St → List St
  | [] => out
  | s :: r => if inB b s = true then srt (insB s out) b r else srt out b r
end F
theorem lt_iff {a b : List UInt8} : F.lt a b = true ↔ a < b := by
  unfold F.lt
  rw [Go.Proofs.bytesLess_eq, decide_eq_true_eq]
theorem lt_irr (a : List UInt8) : F.lt a a = false := by
  rw [Bool.eq_false_iff]
  intro h
  exact List.lt_irrefl a (lt_iff.1 h)
theorem lt_trans' {a b c : List UInt8} (h : F.lt a b = true) (k : F.lt b c = true) : F.lt a c = true := lt_iff.2 (List.lt_trans (lt_iff.1 h) (lt_iff.1 k))
theorem lt_asymm' {a b : List UInt8} (h : F.lt a b = true) : F.lt b a = false := by
  rw [Bool.eq_false_iff]
  intro k
  have := lt_trans' h k
  rw [lt_irr] at this
  cases this
theorem lt_tri (a b : List UInt8) : F.lt a b = true ∨ a = b ∨ F.lt b a = true := by
  by_cases h : a < b
  · exact .inl (lt_iff.2 h)
  · by_cases k : b < a
    · exact .inr (.inr (lt_iff.2 k))
    · exact .inr (.inl (List.le_antisymm (List.not_lt.1 k) (List.not_lt.1 h)))
theorem lt_not {a b : List UInt8} : (F.lt a b || decide (a = b)) = !F.lt b a := by
  rcases lt_tri a b with h | h | h
  · rw [h, lt_asymm' h]; rfl
  · subst h; rw [lt_irr]; simp
  · have hne : ¬ a = b := fun e => by subst e; rw [lt_irr] at h; cases h
    rw [lt_asymm' h, h, decide_eq_false hne]; rfl
theorem scmp_lt {a b : List UInt8} : F.scmp a b < 0 ↔ F.lt a b = true := by
  unfold F.scmp
  cases h : F.lt a b
  · cases k : F.lt b a <;> simp
  · simp
theorem ltB_iff {x y : F.St} : F.ltB x y = true ↔ x.2.2.1 < y.2.2.1 ∨ (x.2.2.1 = y.2.2.1 ∧ F.lt x.1 y.1 = true) := by
  unfold F.ltB
  simp
theorem cmpB_lt {x y : F.St} : F.cmpB x y < 0 ↔ F.ltB x y = true := by
  rw [ltB_iff]
  unfold F.cmpB
  rw [F.orF, F.orF, F.orF]
  by_cases h : x.2.2.1 - y.2.2.1 = 0
  · rw [if_pos h]
    by_cases k : F.scmp x.1 y.1 = 0
    · rw [if_pos k]
      constructor
      · intro q; omega
      · rintro (q | ⟨_, q⟩)
        · omega
        · have := scmp_lt.2 q
          omega
    · rw [if_neg k, scmp_lt]
      constructor
      · intro q; exact .inr ⟨by omega, q⟩
      · rintro (q | ⟨_, q⟩)
        · omega
        · exact q
  · rw [if_neg h]
    constructor
    · intro q; exact .inl (by omega)
    · rintro (q | ⟨q, _⟩) <;> omega
theorem ltB_irr (x : F.St) : ¬ F.ltB x x = true := by
  rw [ltB_iff, lt_irr]
  simp
theorem ltB_trans {x y z : F.St} (h : F.ltB x y = true) (k : F.ltB y z = true) : F.ltB x z = true := by
  rw [ltB_iff] at *
  rcases h with h | ⟨h, h'⟩ <;> rcases k with k | ⟨k, k'⟩
  · exact .inl (by omega)
  · exact .inl (by omega)
  · exact .inl (by omega)
  · exact .inr ⟨by omega, lt_trans' h' k'⟩
/-- Neither before the other: one time, one flight. -/
theorem ltB_tri {x y : F.St} (h : ¬ F.ltB x y = true) (k : ¬ F.ltB y x = true) : x.2.2.1 = y.2.2.1 ∧ x.1 = y.1 := by
  rw [ltB_iff] at h k
  have ht : x.2.2.1 = y.2.2.1 := by omega
  refine ⟨ht, ?_⟩
  rcases lt_tri x.1 y.1 with q | q | q
  · exact absurd (.inr ⟨ht, q⟩) h
  · exact q
  · exact absurd (.inr ⟨ht.symm, q⟩) k
theorem dst_one {l : List F.St} (h : F.dst l) {x y : F.St} (hx : x ∈ l) (hy : y ∈ l) (e : x.1 = y.1) : x = y := by
  induction l with
  | nil => cases hx
  | cons a l ih =>
    unfold F.dst at h ih
    rw [List.map_cons, List.nodup_cons] at h
    rcases List.mem_cons.1 hx with rfl | hx' <;> rcases List.mem_cons.1 hy with rfl | hy'
    · rfl
    · exact absurd (List.mem_map.2 ⟨y, hy', e.symm⟩) h.1
    · exact absurd (List.mem_map.2 ⟨x, hx', e⟩) h.1
    · exact ih h.2 hx' hy'
theorem dst_filter {l : List F.St} (h : F.dst l) (p : F.St → Bool) : F.dst (l.filter p) := by
  unfold F.dst at *
  exact h.sublist (List.filter_sublist.map _)
theorem insB_perm (x : F.St) : ∀ l : List F.St, (F.insB x l).Perm (x :: l)
  | [] => .refl _
  | y :: r => by
    unfold F.insB
    split
    · exact ((insB_perm x r).cons y).trans (.swap x y r)
    · exact .refl _
theorem sortB_perm : ∀ l : List F.St, (F.sortB l).Perm l
  | [] => .refl _
  | x :: r => (insB_perm x (F.sortB r)).trans ((sortB_perm r).cons x)
theorem sortB_len (l : List F.St) : (F.sortB l).length = l.length := (sortB_perm l).length_eq
theorem bay_len (l : List F.St) (b : Int) : (F.bay l b).length = F.cnt l b := sortB_len _
def leB (a b : F.St) : Prop := ¬ F.ltB b a = true
theorem leB_trans {a b c : F.St} (h1 : leB a b) (h2 : leB b c) : leB a c := by
  intro h
  by_cases e : F.ltB b a = true
  · exact h1 e
  · by_cases e2 : F.ltB a b = true
    · exact h2 (ltB_trans h e2)
    · obtain ⟨t1, t2⟩ := ltB_tri e e2
      refine h2 ?_
      rw [ltB_iff] at h ⊢
      rw [t1, t2]
      exact h
theorem insB_sorted (x : F.St) : ∀ l : List F.St, l.Pairwise leB → (F.insB x l).Pairwise leB
  | [], _ => by simp [F.insB]
  | y :: r, h => by
    rw [List.pairwise_cons] at h
    unfold F.insB
    split
    · rename_i hxy
      rw [List.pairwise_cons]
      refine ⟨fun z hz => ?_, insB_sorted x r h.2⟩
      have := (insB_perm x r).mem_iff.1 hz
      rcases List.mem_cons.1 this with rfl | hz
      · exact fun h => ltB_irr _ (ltB_trans hxy h)
      · exact h.1 z hz
    · rename_i hxy
      rw [List.pairwise_cons, List.pairwise_cons]
      refine ⟨fun z hz => ?_, h⟩
      rcases List.mem_cons.1 hz with rfl | hz
      · exact hxy
      · exact leB_trans hxy (h.1 z hz)
theorem sortB_sorted : ∀ l : List F.St, (F.sortB l).Pairwise leB
  | [] => .nil
  | x :: r => insB_sorted x _ (sortB_sorted r)
theorem sortedB_one {l m : List F.St} (hd : F.dst l) (hl : l.Pairwise leB) (hm : m.Pairwise leB) (h : l.Perm m) : l = m :=
  List.Perm.eq_of_pairwise (le := leB) (fun a b ha hb h1 h2 => dst_one hd ha (h.mem_iff.2 hb) (ltB_tri h2 h1).2) hl hm h
theorem dst_perm {l m : List F.St} (h : l.Perm m) (hd : F.dst m) : F.dst l := by
  unfold F.dst at *
  exact (h.map _).nodup_iff.2 hd
theorem srt_perm (b : Int) : ∀ (l out : List F.St), (F.srt out b l).Perm (out ++ l.filter (F.inB b))
  | [], out => by simp [F.srt]
  | s :: r, out => by
    rw [F.srt]
    split
    · rename_i h
      rw [List.filter_cons_of_pos h]
      refine (srt_perm b r _).trans ?_
      refine ((insB_perm s out).append_right _).trans ?_
      exact List.perm_middle.symm
    · rename_i h
      rw [List.filter_cons_of_neg h]
      exact srt_perm b r out
theorem srt_sorted (b : Int) : ∀ (l out : List F.St), out.Pairwise leB → (F.srt out b l).Pairwise leB
  | [], out, h => h
  | s :: r, out, h => by
    rw [F.srt]
    split
    · exact srt_sorted b r _ (insB_sorted s out h)
    · exact srt_sorted b r out h
/-- Both ways to a bay's strips in order. -/
theorem srt_eq {l : List F.St} (h : F.dst l) (b : Int) : F.srt [] b l = F.bay l b := by
  have hp := srt_perm b l []
  rw [List.nil_append] at hp
  exact sortedB_one (dst_perm hp (dst_filter h _)) (srt_sorted b l [] .nil) (sortB_sorted _) (hp.trans (sortB_perm _).symm)
theorem idxG_bd (c : List UInt8) : ∀ (l : List F.St) (i : Int), (F.idxG c l i = -1 ∧ ∀ x ∈ l, x.1 ≠ c) ∨ ∃ k : Nat, k < l.length ∧ F.idxG c l i = i + k ∧ (l.getD k F.st0).1 = c
  | [], i => .inl ⟨rfl, fun x hx => by cases hx⟩
  | x :: r, i => by
    rw [F.idxG]
    by_cases e : x.1 = c
    · rw [if_pos e]
      exact .inr ⟨0, by simp, by omega, e⟩
    · rw [if_neg e]
      rcases idxG_bd c r (i + 1) with ⟨h1, h2⟩ | ⟨k, h1, h2, h3⟩
      · refine .inl ⟨h1, fun y hy => ?_⟩
        rcases List.mem_cons.1 hy with rfl | hy
        · exact e
        · exact h2 y hy
      · exact .inr ⟨k + 1, by simp; omega, by rw [h2]; omega, by simpa using h3⟩
theorem idx_bd (l : List F.St) (c : List UInt8) : (F.idx l c = -1 ∧ ∀ x ∈ l, x.1 ≠ c) ∨ ∃ k : Nat, k < l.length ∧ F.idx l c = k ∧ (l.getD k F.st0).1 = c := by
  rcases idxG_bd c l 0 with h | ⟨k, h1, h2, h3⟩
  · exact .inl h
  · exact .inr ⟨k, h1, by unfold F.idx; omega, h3⟩
theorem idx_lt (l : List F.St) (c : List UInt8) : F.idx l c < l.length := by
  rcases idx_bd l c with ⟨h, _⟩ | ⟨k, h1, h2, _⟩ <;> omega
end Go.Proofs.Ytkfkfihjdohjfaa
end
