/- Parts of the proof, one behind the other: CoR, Cy. -/
import Derived.Test.YtkfkfihjdohjfaaCw
import Derived.Test.YtkfkfihjdohjfaaCb
import Derived.Test.YtkfkfihjdohjfaaBd23
import Derived.Lib.Bytealg
import Derived.WalkSpells
import Derived.WalkLawsBesides
import Derived.Handy
import Derived.Lib.Walk
import Derived.Test.YtkfkfihjdohjfaaProg
section
/- What the list of the law and the radio's own have in common: the same contacts. The lost ones by buckets of time. -/
namespace Go.Proofs.Ytkfkfihjdohjfaa
set_option maxRecDepth 100000
namespace F
def ltN (x y : Co) : Bool := lt x.1 y.1
def insN (s : Co) : List Co → List Co
  | [] => [s]
  | y :: r => if ltN y s = true then y :: insN s r else s :: y :: r
/-- By flight. -/
def sortN : List Co → List Co
  | [] => []
  | x :: r => insN x (sortN r)
def kdxN (l : List Co) (c : List UInt8) : Nat := (kdx l c).toNat
/-- The contacts of the first so many times. -/
def upTo (l : List Co) : Nat → List Co
  | 0 => []
  | t + 1 => upTo l t ++ l.filter fun x => decide (x.2.2 = (t : Int))
structure IC (P L : List Co) : Prop where
  a : asc P = true
  p : P.Perm L
  t : ∀ x ∈ L, 0 ≤ x.2.2 ∧ x.2.2 ≤ 200000
end F
/-! ### in order of flights -/
def leN (a b : F.Co) : Prop := ¬ F.ltN b a = true
theorem ltN_irr (x : F.Co) : ¬ F.ltN x x = true := by unfold F.ltN; rw [lt_irr]; decide
theorem ltN_trans {x y z : F.Co} (h : F.ltN x y = true) (k : F.ltN y z = true) : F.ltN x z = true := lt_trans' h k
theorem ltN_tri {x y : F.Co} (h : ¬ F.ltN x y = true) (k : ¬ F.ltN y x = true) : x.1 = y.1 := by
  rcases lt_tri x.1 y.1 with q | q | q
  · exact absurd q h
  · exact q
  · exact absurd q k
theorem leN_trans {a b c : F.Co} (h1 : leN a b) (h2 : leN b c) : leN a c := by
  intro h
  by_cases e : F.ltN b a = true
  · exact h1 e
  · by_cases e2 : F.ltN a b = true
    · exact h2 (ltN_trans h e2)
    · have := ltN_tri e e2
      refine h2 ?_
      unfold F.ltN at h ⊢
      rw [this]
      exact h
theorem insN_perm (x : F.Co) : ∀ l : List F.Co, (F.insN x l).Perm (x :: l)
  | [] => .refl _
  | y :: r => by
    unfold F.insN
    split
    · exact ((insN_perm x r).cons y).trans (.swap x y r)
    · exact .refl _
theorem sortN_perm : ∀ l : List F.Co, (F.sortN l).Perm l
  | [] => .refl _
  | x :: r => (insN_perm x (F.sortN r)).trans ((sortN_perm r).cons x)
theorem sortN_len (l : List F.Co) : (F.sortN l).length = l.length := (sortN_perm l).length_eq
theorem insN_sorted (x : F.Co) : ∀ l : List F.Co, l.Pairwise leN → (F.insN x l).Pairwise leN
  | [], _ => by simp [F.insN]
  | y :: r, h => by
    rw [List.pairwise_cons] at h
    unfold F.insN
    split
    · rename_i hxy
      rw [List.pairwise_cons]
      refine ⟨fun z hz => ?_, insN_sorted x r h.2⟩
      have := (insN_perm x r).mem_iff.1 hz
      rcases List.mem_cons.1 this with rfl | hz
      · exact fun h => ltN_irr _ (ltN_trans hxy h)
      · exact h.1 z hz
    · rename_i hxy
      rw [List.pairwise_cons, List.pairwise_cons]
      refine ⟨fun z hz => ?_, h⟩
      rcases List.mem_cons.1 hz with rfl | hz
      · exact hxy
      · exact leN_trans hxy (h.1 z hz)
theorem sortN_sorted : ∀ l : List F.Co, (F.sortN l).Pairwise leN
  | [] => .nil
  | x :: r => insN_sorted x _ (sortN_sorted r)
theorem sortedN_one {l m : List F.Co} (hd : F.dstC l) (hl : l.Pairwise leN) (hm : m.Pairwise leN) (h : l.Perm m) : l = m :=
  List.Perm.eq_of_pairwise (le := leN) (fun a b ha hb h1 h2 => dstC_one hd ha (h.mem_iff.2 hb) (ltN_tri h2 h1)) hl hm h
theorem asc_iff : ∀ {l : List F.Co}, F.asc l = true ↔ (l.map Prod.fst).Pairwise fun x y => F.lt x y = true
  | [] => by simp [F.asc]
  | a :: l => by rw [asc_cons, List.map_cons, List.pairwise_cons, asc_iff]; simp
theorem asc_le {l : List F.Co} (h : F.asc l = true) : l.Pairwise leN := by
  rw [asc_iff, List.pairwise_map] at h
  refine h.imp fun {a b} hab => ?_
  unfold leN F.ltN
  rw [lt_asymm' hab]
  decide
theorem IC_dst {P L : List F.Co} (h : F.IC P L) : F.dstC L := dstC_perm h.p.symm (asc_dst h.a)
theorem IC_sort {P L : List F.Co} (h : F.IC P L) : F.sortN L = P :=
  (sortedN_one (asc_dst h.a) (asc_le h.a) (sortN_sorted L) (h.p.trans (sortN_perm L).symm)).symm
theorem IC_nil : F.IC [] [] := ⟨rfl, .refl _, fun _ h => absurd h List.not_mem_nil⟩
theorem IC_len {P L : List F.Co} (h : F.IC P L) : P.length = L.length := h.p.length_eq
theorem IC_t {P L : List F.Co} (h : F.IC P L) : ∀ x ∈ P, 0 ≤ x.2.2 ∧ x.2.2 ≤ 200000 := fun x hx => h.t x (h.p.mem_iff.1 hx)
/-! ### where a flight is -/
theorem kdxG_bd (c : List UInt8) : ∀ (l : List F.Co) (i : Int), (F.kdxG c l i = -1 ∧ ∀ x ∈ l, x.1 ≠ c) ∨ ∃ k : Nat, k < l.length ∧ F.kdxG c l i = i + k ∧ (l.getD k F.co0).1 = c
  | [], i => .inl ⟨rfl, fun _ h => absurd h List.not_mem_nil⟩
  | p :: r, i => by
    unfold F.kdxG
    by_cases e : p.1 = c
    · rw [if_pos e]
      exact .inr ⟨0, by simp, by simp, e⟩
    · rw [if_neg e]
      rcases kdxG_bd c r (i + 1) with ⟨h1, h2⟩ | ⟨k, h1, h2, h3⟩
      · refine .inl ⟨h1, fun x hx => ?_⟩
        rcases List.mem_cons.1 hx with rfl | hx
        · exact e
        · exact h2 x hx
      · exact .inr ⟨k + 1, by simp; omega, by omega, h3⟩
theorem kdx_bd (l : List F.Co) (c : List UInt8) : (F.kdx l c = -1 ∧ ∀ x ∈ l, x.1 ≠ c) ∨ ∃ k : Nat, k < l.length ∧ F.kdx l c = k ∧ (l.getD k F.co0).1 = c := by
  rcases kdxG_bd c l 0 with h | ⟨k, h1, h2, h3⟩
  · exact .inl h
  · exact .inr ⟨k, h1, by unfold F.kdx; omega, h3⟩
theorem kdx_lt (l : List F.Co) (c : List UInt8) : F.kdx l c < l.length := by
  rcases kdx_bd l c with ⟨h, _⟩ | ⟨k, h1, h2, _⟩ <;> omega
theorem hasC_perm {P L : List F.Co} (h : P.Perm L) (c : List UInt8) : F.hasC P c = F.hasC L c := by
  unfold F.hasC
  rw [Bool.eq_iff_iff, List.any_eq_true, List.any_eq_true]
  constructor
  · rintro ⟨x, hx, e⟩; exact ⟨x, h.mem_iff.1 hx, e⟩
  · rintro ⟨x, hx, e⟩; exact ⟨x, h.mem_iff.2 hx, e⟩
theorem kdx_no {P L : List F.Co} (h : F.IC P L) {c : List UInt8} (k : F.kdx L c < 0) : F.hasC P c = false := by
  rcases kdx_bd L c with ⟨_, q⟩ | ⟨j, h1, h2, _⟩
  · rw [hasC_perm h.p]
    unfold F.hasC
    rw [List.any_eq_false]
    intro x hx e
    exact q x hx (of_decide_eq_true e)
  · omega
theorem getD_memC {l : List F.Co} {n : Nat} (h : n < l.length) : l.getD n F.co0 ∈ l := by
  rw [List.getD_eq_getElem?_getD, List.getElem?_eq_getElem h]
  exact List.getElem_mem h
theorem splitC {l : List F.Co} {n : Nat} (h : n < l.length) : l = l.take n ++ l.getD n F.co0 :: l.drop (n + 1) := by
  have e : l.getD n F.co0 = l[n] := by rw [List.getD_eq_getElem?_getD, List.getElem?_eq_getElem h]; rfl
  rw [e, List.getElem_cons_drop, List.take_append_drop]
theorem setC {l : List F.Co} {n : Nat} (h : n < l.length) (y : F.Co) : l.set n y = l.take n ++ y :: l.drop (n + 1) := List.set_eq_take_append_cons_drop.trans (if_pos h)
theorem eraseC {l : List F.Co} {n : Nat} : l.eraseIdx n = l.take n ++ l.drop (n + 1) := List.eraseIdx_eq_take_drop_succ ..
/-- A flight that is there: where, and the same contact in both. -/
theorem kdx_yes {P L : List F.Co} (h : F.IC P L) {c : List UInt8} (k : ¬ F.kdx L c < 0) :
    F.hasC P c = true ∧ F.posC P c < P.length ∧ F.kdxN L c < L.length ∧ F.kdx L c = (F.kdxN L c : Int) ∧ F.atC P c = L.getD (F.kdxN L c) F.co0 ∧ (F.atC P c).1 = c ∧ (P.take (F.posC P c) ++ P.drop (F.posC P c + 1)).Perm (L.take (F.kdxN L c) ++ L.drop (F.kdxN L c + 1)) := by
  unfold F.kdxN
  rcases kdx_bd L c with ⟨q, _⟩ | ⟨j, h1, h2, h3⟩
  · omega
  · have ej : (F.kdx L c).toNat = j := by omega
    rw [ej]
    have hm := getD_memC h1
    have hh : F.hasC P c = true := by
      rw [hasC_perm h.p]
      unfold F.hasC
      rw [List.any_eq_true]
      exact ⟨_, hm, decide_eq_true h3⟩
    have hp := hasC_pos (k := c) h.a
    rw [hh] at hp
    obtain ⟨p1, p2⟩ := Bool.and_eq_true_iff.1 hp.symm
    have p1 := of_decide_eq_true p1
    have p2 := of_decide_eq_true p2
    have ee : F.atC P c = L.getD j F.co0 := dstC_one (asc_dst h.a) (getD_memC p1) (h.p.mem_iff.2 hm) (p2.trans h3.symm)
    refine ⟨hh, p1, h1, h2, ee, p2, ?_⟩
    have hP := splitC p1
    have hL := splitC h1
    have := h.p
    rw [hP, hL] at this
    have q := (List.perm_middle.symm.trans this).trans List.perm_middle
    rw [show P.getD (F.posC P c) F.co0 = L.getD j F.co0 from ee] at q
    exact q.cons_inv
/-! ### what the operations keep -/
theorem IC_set {P L : List F.Co} (h : F.IC P L) {c : List UInt8} (k : ¬ F.kdx L c < 0) {y : F.Co} (hy : y.1 = c) (ht : 0 ≤ y.2.2 ∧ y.2.2 ≤ 200000) : F.IC (P.set (F.posC P c) y) (L.set (F.kdxN L c) y) := by
  obtain ⟨q1, q2, q3, q4, q5, q6, q7⟩ := kdx_yes h k
  refine ⟨?_, ?_, fun x hx => ?_⟩
  · have e : (P.set (F.posC P c) y).map Prod.fst = P.map Prod.fst := by
      conv => rhs; rw [splitC q2]
      rw [setC q2]
      have : (P.getD (F.posC P c) F.co0).1 = c := q6
      simp only [List.map_append, List.map_cons, hy, this]
    rw [asc_iff, e, ← asc_iff]
    exact h.a
  · rw [setC q2, setC q3]
    exact List.perm_middle.trans ((q7.cons y).trans List.perm_middle.symm)
  · rcases List.mem_or_eq_of_mem_set hx with hx | rfl
    · exact h.t x hx
    · exact ht
theorem IC_erase {P L : List F.Co} (h : F.IC P L) {c : List UInt8} (k : ¬ F.kdx L c < 0) : F.IC (P.eraseIdx (F.posC P c)) (L.eraseIdx (F.kdxN L c)) := by
  obtain ⟨q1, q2, q3, q4, q5, q6, q7⟩ := kdx_yes h k
  refine ⟨?_, ?_, fun x hx => h.t x ((List.eraseIdx_sublist L _).subset hx)⟩
  · have := h.a
    rw [asc_iff] at this ⊢
    exact this.sublist ((List.eraseIdx_sublist P _).map _)
  · rw [eraseC, eraseC]
    exact q7
theorem take_lt {l : List F.Co} {c : List UInt8} : ∀ x ∈ l.take (F.posC l c), F.lt x.1 c = true := by
  intro x hx
  induction l with
  | nil => simp at hx
  | cons a l ih =>
    by_cases e : F.lt a.1 c = true
    · rw [posC_succ e, List.take_succ_cons] at hx
      rcases List.mem_cons.1 hx with rfl | hx
      · exact e
      · exact ih hx
    · have hp : F.posC (a :: l) c = 0 := by
        unfold F.posC
        rw [List.takeWhile_cons_of_neg (p := fun r : F.Co => F.lt r.1 c) e]; rfl
      rw [hp] at hx
      simp at hx
theorem drop_gt {l : List F.Co} {c : List UInt8} (h : F.asc l = true) (n : F.hasC l c = false) : ∀ x ∈ l.drop (F.posC l c), F.lt c x.1 = true := by
  induction l with
  | nil => intro x hx; simp [F.posC] at hx
  | cons a l ih =>
    intro x hx
    obtain ⟨h1, h2⟩ := asc_cons.1 h
    rw [hasC_cons, Bool.or_eq_false_iff] at n
    by_cases e : F.lt a.1 c = true
    · rw [posC_succ e, List.drop_succ_cons] at hx
      exact ih h2 n.2 x hx
    · have ca : F.lt c a.1 = true := by
        rcases lt_tri a.1 c with q | q | q
        · exact absurd q e
        · exact absurd q (of_decide_eq_false n.1)
        · exact q
      have hp : F.posC (a :: l) c = 0 := by
        unfold F.posC
        rw [List.takeWhile_cons_of_neg (p := fun r : F.Co => F.lt r.1 c) e]; rfl
      rw [hp, List.drop_zero] at hx
      rcases List.mem_cons.1 hx with rfl | hx
      · exact ca
      · exact lt_trans' ca (h1 x hx)
theorem IC_ins {P L : List F.Co} (h : F.IC P L) {c : List UInt8} (k : F.kdx L c < 0) {y : F.Co} (hy : y.1 = c) (ht : 0 ≤ y.2.2 ∧ y.2.2 ≤ 200000) : F.IC (P.take (F.posC P c) ++ [y] ++ P.drop (F.posC P c)) (L ++ [y]) := by
  have n := kdx_no h k
  refine ⟨?_, ?_, fun x hx => ?_⟩
  · rw [asc_iff, List.append_assoc, List.map_append, List.pairwise_append]
    have ha := h.a
    rw [asc_iff] at ha
    refine ⟨ha.sublist ((List.take_sublist _ _).map _), ?_, fun a ha b hb => ?_⟩
    · rw [List.singleton_append, List.map_cons, List.pairwise_cons]
      refine ⟨fun b hb => ?_, ha.sublist ((List.drop_sublist _ _).map _)⟩
      obtain ⟨x, hx, rfl⟩ := List.mem_map.1 hb
      rw [hy]
      exact drop_gt h.a n x hx
    · obtain ⟨x, hx, rfl⟩ := List.mem_map.1 ha
      obtain ⟨z, hz, rfl⟩ := List.mem_map.1 hb
      have hl := take_lt x hx
      rw [List.singleton_append] at hz
      rcases List.mem_cons.1 hz with rfl | hz
      · rw [hy]; exact hl
      · exact lt_trans' hl (drop_gt h.a n z hz)
  · have e : (P.take (F.posC P c) ++ [y] ++ P.drop (F.posC P c)).Perm (y :: P) := by
      rw [List.append_assoc, List.singleton_append]
      have := List.perm_middle (a := y) (l₁ := P.take (F.posC P c)) (l₂ := P.drop (F.posC P c))
      rwa [List.take_append_drop] at this
    refine e.trans ((h.p.cons y).trans ?_)
    exact (List.perm_append_comm (l₁ := [y]) (l₂ := L))
  · rcases List.mem_append.1 hx with hx | hx
    · exact h.t x hx
    · rw [List.mem_singleton.1 hx]; exact ht
/-! ### the lost ones -/
theorem upTo_mem {l : List F.Co} : ∀ {n : Nat} {x : F.Co}, x ∈ F.upTo l n → x ∈ l ∧ 0 ≤ x.2.2 ∧ x.2.2 < n
  | 0, x, h => by cases h
  | n + 1, x, h => by
    unfold F.upTo at h
    rcases List.mem_append.1 h with h | h
    · obtain ⟨a, b, c⟩ := upTo_mem h
      exact ⟨a, b, by omega⟩
    · obtain ⟨a, b⟩ := List.mem_filter.1 h
      have b := of_decide_eq_true b
      exact ⟨a, by omega, by omega⟩
theorem upTo_perm {l : List F.Co} (ht : ∀ x ∈ l, 0 ≤ x.2.2) : ∀ n : Nat, (F.upTo l n).Perm (l.filter fun x => decide (x.2.2 < (n : Int)))
  | 0 => by
    have : (l.filter fun x => decide (x.2.2 < ((0 : Nat) : Int))) = [] := by
      rw [List.filter_eq_nil_iff]
      intro x hx e
      have := ht x hx
      have := of_decide_eq_true e
      omega
    rw [this]
    exact .refl _
  | n + 1 => by
    have s := List.filter_append_perm (fun x : F.Co => decide (x.2.2 < (n : Int))) (l.filter fun x => decide (x.2.2 < ((n + 1 : Nat) : Int)))
    rw [List.filter_filter, List.filter_filter] at s
    have e1 : (l.filter fun x => decide (x.2.2 < (n : Int)) && decide (x.2.2 < ((n + 1 : Nat) : Int))) = l.filter fun x => decide (x.2.2 < (n : Int)) := by
      refine List.filter_congr fun x _ => ?_
      by_cases q : x.2.2 < (n : Int)
      · have : x.2.2 < ((n + 1 : Nat) : Int) := by omega
        simp [q]; omega
      · simp [q]
    have e2 : (l.filter fun x => (!decide (x.2.2 < (n : Int))) && decide (x.2.2 < ((n + 1 : Nat) : Int))) = l.filter fun x => decide (x.2.2 = (n : Int)) := by
      refine List.filter_congr fun x _ => ?_
      rw [Bool.eq_iff_iff]
      simp only [Bool.and_eq_true, Bool.not_eq_true', decide_eq_false_iff_not, decide_eq_true_eq]
      omega
    rw [e1, e2] at s
    unfold F.upTo
    exact ((upTo_perm ht n).append_right _).trans s
theorem upTo_sorted {l : List F.Co} (ha : F.asc l = true) : ∀ n : Nat, (F.upTo l n).Pairwise leL
  | 0 => .nil
  | n + 1 => by
    unfold F.upTo
    rw [List.pairwise_append]
    refine ⟨upTo_sorted ha n, ?_, fun a h1 b h2 => ?_⟩
    · have h := ha
      rw [asc_iff, List.pairwise_map] at h
      refine (h.filter _).imp_of_mem fun {a b} h1 h2 hab => ?_
      have e1 := of_decide_eq_true (List.mem_filter.1 h1).2
      have e2 := of_decide_eq_true (List.mem_filter.1 h2).2
      unfold leL
      rw [ltL_iff]
      rintro (q | ⟨_, q⟩)
      · omega
      · rw [lt_asymm' hab] at q; cases q
    · obtain ⟨_, _, q1⟩ := upTo_mem h1
      have e2 := of_decide_eq_true (List.mem_filter.1 h2).2
      unfold leL
      rw [ltL_iff]
      rintro (q | ⟨q, _⟩) <;> omega
theorem asc_filterC {l : List F.Co} (h : F.asc l = true) (p : F.Co → Bool) : F.asc (l.filter p) = true := by
  rw [asc_iff] at h ⊢
  exact h.sublist ((List.filter_sublist (l := l)).map _)
theorem upTo_eq {l : List F.Co} (ha : F.asc l = true) (ht : ∀ x ∈ l, 0 ≤ x.2.2) (n : Nat) : F.upTo l n = F.sortL (l.filter fun x => decide (x.2.2 < (n : Int))) := by
  have p := upTo_perm ht n
  exact sortedL_one (dstC_perm p (asc_dst (asc_filterC ha _))) (upTo_sorted ha n) (sortL_sorted _) (p.trans (sortL_perm _).symm)
/-- Where the buckets end. -/
theorem lost_end {l : List F.Co} (ha : F.asc l = true) (ht : ∀ x ∈ l, 0 ≤ x.2.2) {T g : Int} {n : Nat} (h1 : ∀ m : Nat, m < n → g < T - m) (h2 : T - n ≤ g ∨ (F.upTo l n).length = l.length) : F.upTo l n = F.sortL (l.filter (F.old T g)) := by
  rw [upTo_eq ha ht]
  congr 1
  have up : ∀ x ∈ l, x.2.2 < (n : Int) → g < T - x.2.2 := fun x hx q => by
    have h0 := ht x hx
    have := h1 x.2.2.toNat (by omega)
    omega
  refine List.filter_congr fun x hx => ?_
  unfold F.old
  rw [Bool.eq_iff_iff, decide_eq_true_eq, decide_eq_true_eq]
  constructor
  · exact up x hx
  · intro q
    rcases h2 with h2 | h2
    · omega
    · have := (upTo_perm ht n).length_eq
      rw [h2] at this
      have := List.length_filter_eq_length_iff.1 this.symm x hx
      exact of_decide_eq_true this
theorem upTo_len {l : List F.Co} (ht : ∀ x ∈ l, 0 ≤ x.2.2) (n : Nat) : (F.upTo l n).length ≤ l.length := by
  rw [(upTo_perm ht n).length_eq]
  exact List.length_filter_le ..
end Go.Proofs.Ytkfkfihjdohjfaa
end
section
/- Strings compared: the library's entry, and what strings.Compare comes to. -/
namespace Go.Proofs.Ytkfkfihjdohjfaa
open Go.ChangeShapes Go.WideShapes Go.ChangeAt Go.RowKit Sym
set_option maxRecDepth 100000
noncomputable section
theorem cmp_bytes : ∀ a b : List UInt8, Lib.compareBytes a b = F.scmp a b
  | [], [] => by
    unfold F.scmp
    rw [lt_irr]
    rfl
  | [], x :: y => by
    have h : F.lt [] (x :: y) = true := lt_iff.2 (List.nil_lt_cons x y)
    unfold F.scmp
    rw [h]
    rfl
  | x :: y, [] => by
    have h : F.lt [] (x :: y) = true := lt_iff.2 (List.nil_lt_cons x y)
    unfold F.scmp
    rw [h, lt_asymm' h]
    rfl
  | a :: xs, b :: bs => by
    rw [Lib.compareBytes]
    by_cases h : a < b
    · have e : F.lt (a :: xs) (b :: bs) = true := lt_iff.2 (List.cons_lt_cons_iff.2 (.inl h))
      unfold F.scmp
      rw [e]
      simp [h]
    · by_cases k : b < a
      · have e : F.lt (b :: bs) (a :: xs) = true := lt_iff.2 (List.cons_lt_cons_iff.2 (.inl k))
        unfold F.scmp
        rw [e, lt_asymm' e]
        simp [h, k]
      · have : a = b := UInt8.le_antisymm (UInt8.not_lt.1 k) (UInt8.not_lt.1 h)
        subst this
        have e : ∀ u v : List UInt8, F.lt (a :: u) (a :: v) = F.lt u v := fun u v => by
          rw [Bool.eq_iff_iff, lt_iff, lt_iff, List.cons_lt_cons_iff]
          constructor
          · rintro (q | ⟨_, q⟩)
            · exact absurd q h
            · exact q
          · exact fun q => .inr ⟨rfl, q⟩
        rw [cmp_bytes xs bs, if_neg h, if_neg h]
        unfold F.scmp
        rw [e, e]
set_option maxHeartbeats 1000000 in
theorem compareString (a b : ByteArray) (w : World) :
    Calls Try.prog 54 #[.string a, .string b] w fun e w' => e = .returned (.int .i64 (Lib.compareBytes a.data.toList b.data.toList)) ∧ w' = w := by
  go_enter Try.func54, Try.ntmps54
  go_wp2
  rw [run_callFunc_extern Try.func77 (by kernel_rfl) (by kernel_rfl) (by kernel_rfl) (e := Extern.BytealgCompare.compare) (by kernel_rfl), Lib.run_compareString]
  simp only [Result.andThen]
  rw [Oper.upon_value]
  go_wp2
  go_ret
  exact ⟨rfl, rfl⟩
def s_cstr : Summ cod := fun args _ => match args with
  | [.c (.str a), .c (.str b)] => .ret (.c (.int .i64 (F.scmp a b)), [])
  | _ => .fail
theorem cstr_sound : Sound Try.prog cod 54 s_cstr := by
  refine Sound.scal (fun args w => enters_fn Try.func54 rfl rfl args w) fun args H r news w ht hg => ?_
  unfold s_cstr at hg
  split at hg
  · rename_i a b
    cases hg
    refine ⟨rfl, rfl, .int .i64 (F.scmp a b), fun _ _ => rfl, ?_⟩
    refine (compareString ⟨a.toArray⟩ ⟨b.toArray⟩ w).mono ?_
    rintro e w' ⟨rfl, rfl⟩
    exact ⟨by rw [cmp_bytes], ⟨Below.refl _ _, Nat.le_refl _⟩⟩
  · exact hg.elim
end
end Go.Proofs.Ytkfkfihjdohjfaa
end
