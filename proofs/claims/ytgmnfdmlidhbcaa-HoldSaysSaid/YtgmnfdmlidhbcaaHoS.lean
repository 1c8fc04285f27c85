/- The stack and the model of levels do the same: what the operations keep. -/
import Derived.Test.YtgmnfdmlidhbcaaHoR
namespace Go.Proofs.Ytgmnfdmlidhbcaa
set_option maxRecDepth 100000
namespace F
def lowP (M : Nat → HL) (i : Nat) : List HL := ((lv M).take i).filter occ
def higP (M : Nat → HL) (i : Nat) : List HL := ((lv M).drop i).filter occ
end F
theorem low_hig (M : Nat → F.HL) (i : Nat) : F.mlst M = F.lowP M i ++ F.higP M i := by
  unfold F.mlst F.lowP F.higP
  rw [← List.filter_append, List.take_append_drop]
theorem take_lv (M : Nat → F.HL) {i : Nat} (h : i ≤ 32) : (F.lv M).take i = (List.range i).map M := by
  apply List.ext_getElem?
  intro k
  rw [List.getElem?_take, lv_at, List.getElem?_map]
  by_cases q : k < i
  · rw [if_pos q, if_pos (by omega), List.getElem?_range q]
    rfl
  · rw [if_neg q, List.getElem?_eq_none (by rw [List.length_range]; omega)]
    rfl
theorem low_succ (M : Nat → F.HL) {i : Nat} (h : i < 32) : F.lowP M (i + 1) = F.lowP M i ++ (if F.occ (M i) then [M i] else []) := by
  unfold F.lowP
  rw [take_lv M (by omega), take_lv M (by omega), List.range_succ, List.map_append, List.filter_append]
  congr 1
  simp only [List.map_cons, List.map_nil, List.filter_cons, List.filter_nil]
theorem hig_succ (M : Nat → F.HL) {i : Nat} (h : i < 32) : F.higP M i = (if F.occ (M i) then [M i] else []) ++ F.higP M (i + 1) := by
  unfold F.higP
  rw [drop_lv M h, List.filter_cons]
  split <;> rfl
theorem low_congr {M K : Nat → F.HL} {i : Nat} (h : i ≤ 32) (e : ∀ j, j < i → M j = K j) : F.lowP M i = F.lowP K i := by
  unfold F.lowP
  rw [take_lv M h, take_lv K h]
  congr 1
  exact List.map_congr_left fun j hj => e j (List.mem_range.1 hj)
theorem hig_congr {M K : Nat → F.HL} {i : Nat} (e : ∀ j, i ≤ j → M j = K j) : F.higP M i = F.higP K i := by
  unfold F.higP
  congr 1
  apply List.ext_getElem?
  intro k
  rw [List.getElem?_drop, List.getElem?_drop, lv_at, lv_at, e (i + k) (by omega)]
theorem low_mem {M : Nat → F.HL} {i : Nat} (h : i ≤ 32) {x : F.HL} (hx : x ∈ F.lowP M i) : ∃ j, j < i ∧ x = M j ∧ F.occ (M j) = true := by
  unfold F.lowP at hx
  rw [take_lv M h] at hx
  obtain ⟨h1, h2⟩ := List.mem_filter.1 hx
  obtain ⟨j, hj, rfl⟩ := List.mem_map.1 h1
  exact ⟨j, List.mem_range.1 hj, rfl, h2⟩
theorem hig_end (M : Nat → F.HL) : F.higP M 32 = [] := by
  unfold F.higP
  rw [List.drop_of_length_le (by rw [lv_len]; omega)]
  rfl
theorem low_zero (M : Nat → F.HL) : F.lowP M 0 = [] := rfl
/-! ### Enter -/
theorem ent_keep {lo hi st : Int} (o : F.okS lo hi st) {P : List F.HL} {now : Int} {L : Nat → F.HL} (r : F.HR lo hi st P now L) (c : List UInt8) (t : Int) :
    F.entV lo hi st P now c t = F.mentV lo hi st L now c t ∧ F.entT lo hi st P now c t = F.mentT lo hi st L now c t ∧ F.HR lo hi st (F.entL lo hi st P now c t) (F.entT lo hi st P now c t) (F.mentL lo hi st L now c t) := by
  have eE := ent_E o r c t
  unfold F.entV F.mentV F.entT F.mentT F.entL F.mentL
  rw [eE, nxt_top r]
  by_cases h : F.mentE lo hi st L now c t = 0
  · rw [if_pos h, if_pos h, if_pos h, if_pos h]
    refine ⟨rfl, rfl, ?_⟩
    unfold F.mentE at h
    have hn : F.named c = true := by
      by_cases q : F.named c = true
      · exact q
      · rw [if_neg q] at h; cases h
    rw [if_pos hn] at h
    have hf : ¬ 0 ≤ F.find L c := fun q => by rw [if_pos q] at h; cases h
    rw [if_neg hf] at h
    have hi' : F.inb t now 200000 = true := by
      by_cases q : F.inb t now 200000 = true
      · exact q
      · rw [if_neg q] at h; cases h
    rw [if_pos hi'] at h
    have hl : ¬ F.lvls lo hi st ≤ F.top L := fun q => by rw [if_pos q] at h; cases h
    have htt : now ≤ t ∧ t ≤ 200000 := by
      unfold F.inb at hi'
      simpa using hi'
    have hc := named_ne hn
    have ht := top_le L
    have hf32 := o.f
    have hr := r.t
    obtain ⟨s1, s2⟩ := top_spec L
    have hk : (F.top L).toNat < 32 := by omega
    have hx : F.occ (F.hlk c (lo + F.top L * st) t) = true := occ_iff.2 hc
    refine ⟨?_, fun i ho => ?_, fun i ho => ?_, fun i hi => ?_, by omega⟩
    · rw [r.p, low_hig L (F.top L).toNat, low_hig (F.upd L (F.top L).toNat (F.hlk c (lo + F.top L * st) t)) (F.top L).toNat]
      have e1 : F.higP L (F.top L).toNat = [] := drop_free fun i h1 h2 => s1 i (by omega) h2
      have e2 : F.higP L ((F.top L).toNat + 1) = [] := drop_free fun i h1 h2 => s1 i (by omega) h2
      rw [e1, List.append_nil, hig_succ _ hk, upd_same, if_pos hx, hig_congr (K := L) (fun j hj => upd_other L _ (by omega)), e2, low_congr (K := L) (by omega) (fun j hj => upd_other L _ (by omega))]
      rfl
    · by_cases e : i = (F.top L).toNat
      · subst e
        rw [upd_same]
        have : (((F.top L).toNat : Nat) : Int) = F.top L := by omega
        refine ⟨?_, by omega, ?_, ?_⟩
        · show lo + F.top L * st = lo + ((F.top L).toNat : Int) * st
          rw [this]
        · show 0 ≤ t; omega
        · show t ≤ 200000; omega
      · rw [upd_other L _ e] at ho ⊢
        exact r.h i ho
    · by_cases e : i = (F.top L).toNat
      · subst e
        rw [upd_same, hx] at ho
        cases ho
      · rw [upd_other L _ e] at ho ⊢
        exact r.e i ho
    · rw [upd_other L _ (by omega)]
      exact r.b i hi
  · rw [if_neg h, if_neg h, if_neg h, if_neg h]
    exact ⟨rfl, rfl, r⟩
/-! ### Down -/
theorem dn_move {lo hi st : Int} (o : F.okS lo hi st) {now : Int} {M : Nat → F.HL} (r : F.HR lo hi st (F.mlst M) now M) {i : Nat} (h1 : 1 ≤ i) (h2 : i < 32) (ho : F.occ (M i) = true) (hf : F.occ (M (i - 1)) = false) :
    F.mlst (F.mdnU st M i) = (F.mlst M).set (F.lowP M i).length (F.lower st (M i)) ∧ F.lowP (F.mdnU st M i) (i + 1) = F.lowP M i ++ [F.lower st (M i)] ∧ F.higP (F.mdnU st M i) (i + 1) = F.higP M (i + 1) ∧ F.HR lo hi st (F.mlst (F.mdnU st M i)) now (F.mdnU st M i) := by
  have hx : F.occ (F.lower st (M i)) = true := by
    rw [occ_iff] at ho ⊢
    exact ho
  have hz : F.occ F.hl0 = false := rfl
  have u0 : F.mdnU st M i i = F.hl0 := upd_same _ _ _
  have u1 : F.mdnU st M i (i - 1) = F.lower st (M i) := by
    unfold F.mdnU
    rw [upd_other _ _ (by omega), upd_same]
  have u2 : ∀ j, j ≠ i → j ≠ i - 1 → F.mdnU st M i j = M j := fun j q1 q2 => by
    unfold F.mdnU
    rw [upd_other _ _ q1, upd_other _ _ q2]
  have el : F.lowP (F.mdnU st M i) (i + 1) = F.lowP M i ++ [F.lower st (M i)] := by
    rw [low_succ _ h2, u0, hz, if_neg (by decide), List.append_nil]
    have e1 : i = (i - 1) + 1 := by omega
    conv => lhs; rw [e1, low_succ _ (show i - 1 < 32 by omega)]
    conv => rhs; rw [e1, low_succ _ (show i - 1 < 32 by omega)]
    rw [← e1, u1, hx, hf, if_pos rfl, if_neg (by decide), List.append_nil, low_congr (K := M) (by omega) (fun j hj => u2 j (by omega) (by omega))]
  have eh : F.higP (F.mdnU st M i) (i + 1) = F.higP M (i + 1) := hig_congr fun j hj => u2 j (by omega) (by omega)
  have em : F.mlst (F.mdnU st M i) = (F.mlst M).set (F.lowP M i).length (F.lower st (M i)) := by
    rw [low_hig _ (i + 1), el, eh, low_hig M i, hig_succ M h2, ho, if_pos rfl, List.set_append_right _ _ (Nat.le_refl _), Nat.sub_self]
    simp
  refine ⟨em, el, eh, rfl, fun j hj => ?_, fun j hj => ?_, fun j hj => ?_, r.t⟩
  · by_cases q1 : j = i
    · subst q1
      rw [u0, hz] at hj
      cases hj
    · by_cases q2 : j = i - 1
      · subst q2
        rw [u1]
        obtain ⟨g1, g2, g3, g4⟩ := r.h i ho
        refine ⟨?_, by omega, g3, g4⟩
        show (M i).2.1 - st = _
        have : ((i - 1 : Nat) : Int) = (i : Int) - 1 := by omega
        rw [g1, this, Int.sub_mul]
        omega
      · rw [u2 j q1 q2] at hj ⊢
        exact r.h j hj
  · by_cases q1 : j = i
    · subst q1
      exact u0
    · by_cases q2 : j = i - 1
      · subst q2
        rw [u1, hx] at hj
        cases hj
      · rw [u2 j q1 q2] at hj ⊢
        exact r.e j hj
  · rw [u2 j (by omega) (by omega)]
    exact r.b j hj
theorem getD_mid {A B : List F.HL} {x : F.HL} : (A ++ x :: B).getD A.length F.hl0 = x := by
  rw [List.getD_eq_getElem?_getD, List.getElem?_append_right (Nat.le_refl _), Nat.sub_self]
  rfl
theorem getD_last {A B : List F.HL} (h : A ≠ []) : (A ++ B).getD (A.length - 1) F.hl0 ∈ A := by
  have : 0 < A.length := List.length_pos_iff.2 h
  rw [List.getD_eq_getElem?_getD, List.getElem?_append_left (by omega), List.getElem?_eq_getElem (by omega)]
  exact List.getElem_mem _
theorem dn_test {lo hi st : Int} (o : F.okS lo hi st) {now : Int} {M : Nat → F.HL} (r : F.HR lo hi st (F.mlst M) now M) {i : Nat} (h1 : 1 ≤ i) (h2 : i < 32) (ho : F.occ (M i) = true) : F.dnS lo st (F.mlst M) (F.lowP M i).length = !F.occ (M (i - 1)) := by
  have hs := o.d
  have hmi := (r.h i ho).1
  have em : F.mlst M = F.lowP M i ++ M i :: F.higP M (i + 1) := by
    rw [low_hig M i, hig_succ M h2, ho, if_pos rfl]
    rfl
  have hmul : (0 : Int) ≤ ((i : Int) - 1) * st := Int.mul_nonneg (by omega) (by omega)
  have hmul' : (i : Int) * st - st = ((i : Int) - 1) * st := by rw [Int.sub_mul]; omega
  unfold F.dnS
  rw [em, getD_mid, decide_eq_true (by omega), Bool.true_and]
  cases hf : F.occ (M (i - 1)) with
  | true =>
    have el : F.lowP M i = F.lowP M (i - 1) ++ [M (i - 1)] := by
      have := low_succ M (show i - 1 < 32 by omega)
      rw [show i - 1 + 1 = i by omega, hf, if_pos rfl] at this
      exact this
    have hg := (r.h (i - 1) hf).1
    have e1 : ((i - 1 : Nat) : Int) = (i : Int) - 1 := by omega
    rw [e1] at hg
    have hlast : (F.lowP M i ++ M i :: F.higP M (i + 1)).getD ((F.lowP M i).length - 1) F.hl0 = M (i - 1) := by
      rw [el, List.length_append, List.length_singleton, Nat.add_sub_cancel, List.append_assoc]
      exact getD_mid
    rw [hlast, decide_eq_false (by rw [el]; simp), decide_eq_false (by omega)]
    rfl
  | false =>
    have el : F.lowP M i = F.lowP M (i - 1) := by
      have := low_succ M (show i - 1 < 32 by omega)
      rw [show i - 1 + 1 = i by omega, hf, if_neg (by decide), List.append_nil] at this
      exact this
    by_cases hz : F.lowP M i = []
    · rw [hz]
      rfl
    · have hmem := getD_last (B := M i :: F.higP M (i + 1)) hz
      rw [el] at hmem
      obtain ⟨j, hj, hjx, hjo⟩ := low_mem (by omega) hmem
      rw [← el] at hjx
      rw [hjx]
      have hg := (r.h j hjo).1
      have hjm : (j : Int) * st + st ≤ ((i : Int) - 1) * st := by
        have : ((j : Int) + 1) * st ≤ ((i : Int) - 1) * st := Int.mul_le_mul_of_nonneg_right (by omega) (by omega)
        rw [Int.add_mul, Int.one_mul] at this
        exact this
      have hlt : (M j).2.1 < (M i).2.1 - st := by omega
      rw [decide_eq_true hlt]
      simp
theorem dn_go {lo hi st : Int} (o : F.okS lo hi st) {now : Int} : ∀ (k i : Nat) (M : Nat → F.HL) (n : Int), i + k = 32 → 1 ≤ i → F.HR lo hi st (F.mlst M) now M →
    F.dnG lo st (F.higP M i).length (F.lowP M i).length (F.mlst M) n = (F.mlst (F.mdnG st k i M n).1, (F.mdnG st k i M n).2) ∧ F.HR lo hi st (F.mlst (F.mdnG st k i M n).1) now (F.mdnG st k i M n).1
  | 0, i, M, n, hi', h1, r => by
    have : i = 32 := by omega
    subst this
    rw [hig_end]
    exact ⟨rfl, r⟩
  | k + 1, i, M, n, hi', h1, r => by
    have hu : F.mdnG st (k + 1) i M n = if F.mdnS M i then F.mdnG st k (i + 1) (F.mdnU st M i) (n + 1) else F.mdnG st k (i + 1) M n := rfl
    rw [hu]
    have h2 : i < 32 := by omega
    cases ho : F.occ (M i) with
    | false =>
      have hs : F.mdnS M i = false := by unfold F.mdnS; rw [ho]; rfl
      rw [hs, if_neg (by decide)]
      have := dn_go o k (i + 1) M n (by omega) (by omega) r
      rw [low_succ M h2, ho, if_neg (by decide), List.append_nil] at this
      rw [hig_succ M h2, ho, if_neg (by decide), List.nil_append]
      exact this
    | true =>
      have hs : F.mdnS M i = !F.occ (M (i - 1)) := by unfold F.mdnS; rw [ho]; rfl
      rw [hs]
      have ht := dn_test o r h1 h2 ho
      have em : F.mlst M = F.lowP M i ++ M i :: F.higP M (i + 1) := by
        rw [low_hig M i, hig_succ M h2, ho, if_pos rfl]
        rfl
      have eg : (F.mlst M).getD (F.lowP M i).length F.hl0 = M i := by rw [em]; exact getD_mid
      have eh : (F.higP M i).length = (F.higP M (i + 1)).length + 1 := by
        rw [hig_succ M h2, ho, if_pos rfl]
        simp
      have hd : ∀ (m j : Nat) (l : List F.HL) (n : Int), F.dnG lo st (m + 1) j l n = if F.dnS lo st l j then F.dnG lo st m (j + 1) (l.set j (F.lower st (l.getD j F.hl0))) (n + 1) else F.dnG lo st m (j + 1) l n := fun _ _ _ _ => rfl
      rw [eh, hd, ht, eg]
      cases hf : F.occ (M (i - 1)) with
      | true =>
        have := dn_go o k (i + 1) M n (by omega) (by omega) r
        rw [low_succ M h2, ho, if_pos rfl, List.length_append, List.length_singleton] at this
        exact this
      | false =>
        obtain ⟨g1, g2, g3, g4⟩ := dn_move o r h1 h2 ho hf
        have := dn_go o k (i + 1) (F.mdnU st M i) (n + 1) (by omega) (by omega) g4
        rw [g2, g3, List.length_append, List.length_singleton, g1] at this
        refine ⟨this.1, ?_⟩
        have h3 := dn_go o k (i + 1) (F.mdnU st M i) (n + 1) (by omega) (by omega) g4
        exact h3.2
theorem hr_now {lo hi st : Int} {P : List F.HL} {now t : Int} {L : Nat → F.HL} (r : F.HR lo hi st P now L) (h : 0 ≤ t ∧ t ≤ 200000) : F.HR lo hi st P t L := ⟨r.p, r.h, r.e, r.b, h⟩
theorem down_keep {lo hi st : Int} (o : F.okS lo hi st) {P : List F.HL} {now : Int} {L : Nat → F.HL} (r : F.HR lo hi st P now L) (t : Int) :
    F.downE now t = F.mdnE now t ∧ F.downN lo st P now t = F.mdnN st L now t ∧ F.downT now t = F.mdnT now t ∧ F.HR lo hi st (F.downL lo st P now t) (F.downT now t) (F.mdnL st L now t) := by
  unfold F.downE F.mdnE F.downN F.mdnN F.downT F.mdnT F.downL F.mdnL
  rw [wrn_inb]
  cases h : F.inb t now 200000 with
  | false => exact ⟨rfl, rfl, rfl, r⟩
  | true =>
    have htt : now ≤ t ∧ t ≤ 200000 := by
      unfold F.inb at h
      simpa using h
    have hr := r.t
    have r' : F.HR lo hi st (F.mlst L) t L := by
      have := hr_now r (t := t) (by omega)
      rwa [r.p] at this
    have hs := o.d
    have key : F.dnG lo st P.length 0 P 0 = F.dnG lo st (F.higP L 1).length (F.lowP L 1).length (F.mlst L) 0 := by
      rw [r.p]
      have e0 : F.mlst L = F.higP L 0 := by rw [low_hig L 0, low_zero]; rfl
      rw [e0, hig_succ L (by decide), low_succ L (by decide), low_zero]
      cases ho : F.occ (L 0) with
      | false =>
        rw [if_neg (by decide)]
        rfl
      | true =>
        rw [if_pos rfl]
        have hh := (r.h 0 ho).1
        have hd : F.dnS lo st (L 0 :: F.higP L 1) 0 = false := by
          unfold F.dnS
          have : ¬ lo ≤ (L 0).2.1 - st := by simp at hh; omega
          simp only [List.getD_cons_zero, decide_eq_false this, Bool.false_and]
        show (if F.dnS lo st (L 0 :: F.higP L 1) 0 then _ else _) = _
        rw [hd, if_neg (by decide)]
        rfl
    have := dn_go o 31 1 L 0 (by omega) (by omega) r'
    simp only [Bool.not_true, Bool.false_eq_true, if_false, if_true]
    rw [key, this.1]
    refine ⟨?_, ?_, ?_, this.2⟩ <;> first | rfl | trivial
/-! ### Leave -/
theorem any_range (L : Nat → F.HL) : ∀ (m i : Nat), i + m ≤ 32 → F.anyG L m i = decide (0 < (((F.lv L).drop i).take m |>.filter F.occ).length)
  | 0, i, h => by simp [F.anyG]
  | m + 1, i, h => by
    unfold F.anyG
    rw [any_range L m (i + 1) (by omega), drop_lv L (i := i) (by omega), List.take_succ_cons, List.filter_cons]
    cases F.occ (L i) <;> simp
theorem lea_keep {lo hi st : Int} {P : List F.HL} {now : Int} {L : Nat → F.HL} (r : F.HR lo hi st P now L) (c : List UInt8) (t : Int) :
    F.leaE P now c t = F.mleaE L now c t ∧ F.leaV P now c t = F.mleaV L now c t ∧ F.leaT P now c t = F.mleaT L now c t ∧ F.HR lo hi st (F.leaL P now c t) (F.leaT P now c t) (F.mleaL L now c t) := by
  have none : F.find L c = -1 → F.ixc P c = -1 → F.leaE P now c t = F.mleaE L now c t ∧ F.leaV P now c t = F.mleaV L now c t ∧ F.leaT P now c t = F.mleaT L now c t ∧ F.HR lo hi st (F.leaL P now c t) (F.leaT P now c t) (F.mleaL L now c t) := by
    intro e1 e2
    have g1 : F.leaE P now c t = 8 := by unfold F.leaE; rw [e2]; rfl
    have g2 : F.mleaE L now c t = 8 := by unfold F.mleaE; rw [e1]; rfl
    unfold F.leaV F.mleaV F.leaT F.mleaT F.leaL F.mleaL
    rw [g1, g2]
    exact ⟨rfl, rfl, rfl, r⟩
  by_cases hc : c = []
  · subst hc
    exact none (find_nil L) (by rw [r.p]; exact ixc_nil L)
  rcases both (L := L) hc with ⟨h1, h2⟩ | ⟨A, x, B, hA, hx, h1, h2⟩
  · exact none h1 (by rw [r.p]; exact h2)
  rw [← r.p] at h2
  have hlen : A.length + B.length + 1 = 32 := by
    have := lv_len L
    rw [hA] at this
    simp at this
    omega
  have hxL : L A.length = x := by
    have := lv_at L A.length
    rw [if_pos (by omega), hA, List.getElem?_append_right (Nat.le_refl _), Nat.sub_self] at this
    exact (Option.some.inj this).symm
  have hto : (F.find L c).toNat = A.length := by omega
  have hox : F.occ x = true := by rw [occ_iff, hx]; exact hc
  have htake : (F.lv L).take A.length = A := by rw [hA, List.take_left]
  have hany : F.anyG L A.length 0 = decide (0 < (A.filter F.occ).length) := by rw [any_range L _ _ (by omega), List.drop_zero, htake]
  have hP : P = A.filter F.occ ++ x :: B.filter F.occ := by
    rw [r.p]
    unfold F.mlst
    rw [hA, List.filter_append, List.filter_cons_of_pos hox]
  have eE : F.leaE P now c t = F.mleaE L now c t := by
    unfold F.leaE F.mleaE
    rw [h1, h2, if_neg (show ¬ ((A.filter F.occ).length : Int) < 0 by omega), if_neg (show ¬ ((A.length : Nat) : Int) < 0 by omega), wrn_inb, Int.toNat_natCast, hany]
    cases F.inb t now 200000 with
    | false => rfl
    | true =>
      rw [if_neg (by decide), if_pos rfl]
      by_cases q : 0 < (A.filter F.occ).length
      · rw [if_pos (by omega), if_pos (by simp only [decide_eq_true_eq]; exact q)]
      · rw [if_neg (by omega), if_neg (by simp only [decide_eq_true_eq]; exact q)]
  unfold F.leaV F.mleaV F.leaT F.mleaT F.leaL F.mleaL
  rw [← eE]
  by_cases z : F.leaE P now c t = 0
  · rw [if_pos z, if_pos z, if_pos z, if_pos z, if_pos z, hto]
    unfold F.leaE at z
    rw [h2, if_neg (by omega)] at z
    have hw : F.wrn now t = false := by
      cases q : F.wrn now t with
      | false => rfl
      | true => rw [q] at z; cases z
    rw [hw, if_neg (by decide)] at z
    have hz : (A.filter F.occ).length = 0 := by
      by_cases q : (0 : Int) < (A.filter F.occ).length
      · rw [if_pos q] at z; cases z
      · omega
    have hA0 := List.eq_nil_of_length_eq_zero hz
    rw [hA0, List.nil_append] at hP
    rw [wrn_inb] at hw
    have htt : now ≤ t ∧ t ≤ 200000 := by
      have : F.inb t now 200000 = true := by
        cases q : F.inb t now 200000 with
        | true => rfl
        | false => rw [q] at hw; cases hw
      unfold F.inb at this
      simpa using this
    have hr := r.t
    have hz0 : F.occ F.hl0 = false := rfl
    have hk : A.length < 32 := by omega
    refine ⟨rfl, ?_, rfl, ?_, fun i ho => ?_, fun i ho => ?_, fun i hi => ?_, by omega⟩
    · rw [hP, hxL]
      rfl
    · have eB : F.higP L (A.length + 1) = B.filter F.occ := by
        unfold F.higP
        rw [hA, List.drop_length_add_append]
        rfl
      have eA : F.lowP L A.length = [] := by
        unfold F.lowP
        rw [htake, hA0]
      rw [low_hig _ A.length, hig_succ _ hk, upd_same, hz0, if_neg (by decide), List.nil_append, hig_congr (K := L) (fun j hj => upd_other L _ (by omega)), low_congr (K := L) (by omega) (fun j hj => upd_other L _ (by omega)), eB, eA, hP]
      rfl
    · by_cases e : i = A.length
      · subst e
        rw [upd_same, hz0] at ho
        cases ho
      · rw [upd_other L _ e] at ho ⊢
        exact r.h i ho
    · by_cases e : i = A.length
      · subst e
        exact upd_same _ _ _
      · rw [upd_other L _ e] at ho ⊢
        exact r.e i ho
    · rw [upd_other L _ (by omega)]
      exact r.b i hi
  · rw [if_neg z, if_neg z, if_neg z, if_neg z, if_neg z]
    exact ⟨rfl, rfl, rfl, r⟩
end Go.Proofs.Ytgmnfdmlidhbcaa
