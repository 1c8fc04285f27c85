/- Inserting plots one by one, and sorting them and leaving out doubles: the same. No program in sight. -/
import Derived.Test.YtbkpgpkeecnjpaaJd
namespace Go.Proofs.Ytbkpgpkeecnjpaa
theorem ltP_or (a b : F.Sp) (h : leP a b) (hne : a ≠ b) : F.ltP a b := by
  by_cases e : F.ltP a b
  · exact e
  · exact absurd (ltP_tri a b e h) hne
def F.strict (l : List F.Sp) : Prop := l.Pairwise F.ltP
theorem strict_le {l : List F.Sp} (h : F.strict l) : l.Pairwise leP := h.imp fun hab hba => ltP_irr _ (ltP_trans hab hba)
theorem strict_nodup {l : List F.Sp} (h : F.strict l) : l.Nodup := List.Pairwise.imp (R := F.ltP) (fun {a b} hab (e : a = b) => by
  rw [e] at hab
  exact ltP_irr _ hab) h
theorem strict_one {l m : List F.Sp} (hl : F.strict l) (hm : F.strict m) (h : ∀ x, x ∈ l ↔ x ∈ m) : l = m :=
  sortedP_one (strict_le hl) (strict_le hm) ((List.perm_ext_iff_of_nodup (strict_nodup hl) (strict_nodup hm)).2 h)
theorem uq_spec : ∀ (l acc : List F.Sp), F.strict acc → l.Pairwise leP → (∀ a ∈ acc, ∀ x ∈ l, leP a x) → F.strict (F.uq acc l) ∧ ∀ x, x ∈ F.uq acc l ↔ x ∈ acc ∨ x ∈ l
  | [], acc, h1, _, _ => by
    rw [F.uq]
    exact ⟨h1, fun x => by simp⟩
  | y :: r, acc, h1, h2, h3 => by
    rw [List.pairwise_cons] at h2
    rw [F.uq]
    split
    · rename_i hc
      have hy : y ∈ acc := List.mem_of_getLast? hc
      obtain ⟨g1, g2⟩ := uq_spec r acc h1 h2.2 (fun a ha x hx => h3 a ha x (List.mem_cons_of_mem _ hx))
      refine ⟨g1, fun x => ?_⟩
      rw [g2, List.mem_cons]
      constructor
      · rintro (h | h)
        · exact .inl h
        · exact .inr (.inr h)
      · rintro (h | rfl | h)
        · exact .inl h
        · exact .inl hy
        · exact .inr h
    · rename_i hc
      have hlt : ∀ a ∈ acc, F.ltP a y := fun a ha => by
        refine ltP_or a y (h3 a ha y (List.mem_cons_self ..)) fun e => ?_
        subst e
        -- the last one is not before it, nor behind it
        cases hl : acc.getLast? with
        | none =>
          rw [List.getLast?_eq_none_iff] at hl
          subst hl
          cases ha
        | some z =>
          have hz : z ∈ acc := List.mem_of_getLast? hl
          have hza : z = a := by
            obtain ⟨b, hb⟩ : ∃ b, acc = b ++ [z] := by
              obtain ⟨b, hb⟩ := List.getLast?_eq_some_iff.1 hl
              exact ⟨b, hb⟩
            rw [hb] at ha h1
            rcases List.mem_append.1 ha with ha | ha
            · have h4 : F.ltP a z := (List.pairwise_append.1 h1).2.2 a ha z (List.mem_singleton.2 rfl)
              exact absurd h4 (h3 z hz a (List.mem_cons_self ..))
            · exact (List.mem_singleton.1 ha).symm
          rw [hl, hza] at hc
          exact hc rfl
      obtain ⟨g1, g2⟩ := uq_spec r (acc ++ [y]) (List.pairwise_append.2 ⟨h1, by simp, fun a ha b hb => by rw [List.mem_singleton.1 hb]; exact hlt a ha⟩) h2.2 (fun a ha x hx => by
        rcases List.mem_append.1 ha with ha | ha
        · exact h3 a ha x (List.mem_cons_of_mem _ hx)
        · rw [List.mem_singleton.1 ha]
          exact h2.1 x hx)
      refine ⟨g1, fun x => ?_⟩
      rw [g2, List.mem_append, List.mem_singleton, List.mem_cons]
      constructor
      · rintro ((h | h) | h)
        · exact .inl h
        · exact .inr (.inl h)
        · exact .inr (.inr h)
      · rintro (h | h | h)
        · exact .inl (.inl h)
        · exact .inl (.inr h)
        · exact .inr h
def F.insW (W : List F.Sp) (p : F.Sp) : List F.Sp := if F.hasP W p then W else F.insL W p
theorem getD_mem2 {l : List F.Sp} {i : Nat} (h : i < l.length) : l.getD i F.sp0 ∈ l := by
  rw [List.getD, List.getElem?_eq_getElem h]
  exact List.getElem_mem h
theorem insW_spec {W : List F.Sp} {p : F.Sp} (h : F.strict W) : F.strict (F.insW W p) ∧ ∀ x, x ∈ F.insW W p ↔ x ∈ W ∨ x = p := by
  obtain ⟨_, b2, b3, b4⟩ := bk_spec p W W.length 0 (by omega)
  change F.bkN W p ≤ _ at b2
  change ∀ i, 0 ≤ i → i < F.bkN W p → _ at b3
  change F.bkN W p < _ → ¬ F.cmpP (W.getD (F.bkN W p) F.sp0) p < 0 at b4
  unfold F.insW
  cases hp : F.hasP W p with
  | true =>
    unfold F.hasP at hp
    simp only [Bool.and_eq_true, decide_eq_true_eq] at hp
    have hm : p ∈ W := by
      rw [← hp.2]
      exact getD_mem2 hp.1
    refine ⟨h, fun x => ?_⟩
    rw [if_pos rfl]
    constructor
    · exact .inl
    · rintro (h | rfl)
      · exact h
      · exact hm
  | false =>
    have hp' : ¬ (F.bkN W p < W.length ∧ W.getD (F.bkN W p) F.sp0 = p) := fun e => by
      have : F.hasP W p = true := by
        unfold F.hasP
        simp only [Bool.and_eq_true, decide_eq_true_eq]
        exact e
      rw [this] at hp
      cases hp
    rw [if_neg Bool.false_ne_true]
    unfold F.insL
    generalize F.bkN W p = k at *
    have hW : F.strict (W.take k ++ W.drop k) := by rw [List.take_append_drop]; exact h
    obtain ⟨s1, s2, s3⟩ := List.pairwise_append.1 hW
    have hbef : ∀ a ∈ W.take k, F.ltP a p := fun a ha => by
      obtain ⟨i, hi, rfl⟩ := List.getElem_of_mem ha
      rw [List.length_take] at hi
      rw [← cmpP_lt]
      have := b3 i (by omega) (by omega)
      rw [List.getD, List.getElem?_eq_getElem (by omega)] at this
      rw [List.getElem_take]
      exact this
    have haft : ∀ y ∈ W.drop k, F.ltP p y := fun y hy => by
      by_cases hk : k < W.length
      · have hd : W.drop k = W.getD k F.sp0 :: W.drop (k + 1) := by
          rw [List.drop_eq_getElem_cons hk, List.getD, List.getElem?_eq_getElem hk]
          rfl
        have hz : F.ltP p (W.getD k F.sp0) := ltP_or _ _ (fun e => b4 hk ((cmpP_lt _ _).2 e)) (fun e => hp' ⟨hk, e.symm⟩)
        rw [hd] at hy s2
        rcases List.mem_cons.1 hy with rfl | hy
        · exact hz
        · exact ltP_trans hz ((List.pairwise_cons.1 s2).1 y hy)
      · rw [List.drop_eq_nil_of_le (by omega)] at hy
        cases hy
    refine ⟨List.pairwise_append.2 ⟨s1, List.pairwise_cons.2 ⟨haft, s2⟩, fun a ha b hb => ?_⟩, fun x => ?_⟩
    · rcases List.mem_cons.1 hb with rfl | hb
      · exact hbef a ha
      · exact s3 a ha b hb
    · have hx : x ∈ W ↔ x ∈ W.take k ∨ x ∈ W.drop k := by rw [← List.mem_append, List.take_append_drop]
      rw [hx, List.mem_append, List.singleton_append, List.mem_cons]
      constructor
      · rintro (h | h | h)
        · exact .inl (.inl h)
        · exact .inr h
        · exact .inl (.inr h)
      · rintro ((h | h) | h)
        · exact .inl h
        · exact .inr (.inr h)
        · exact .inr (.inl h)
theorem insAll_spec : ∀ (P acc : List F.Sp), F.strict acc → F.strict (P.foldl F.insW acc) ∧ ∀ x, x ∈ P.foldl F.insW acc ↔ x ∈ acc ∨ x ∈ P
  | [], acc, h => ⟨h, fun x => by simp⟩
  | p :: r, acc, h => by
    obtain ⟨g1, g2⟩ := insW_spec (p := p) h
    obtain ⟨h1, h2⟩ := insAll_spec r (F.insW acc p) g1
    refine ⟨h1, fun x => ?_⟩
    rw [List.foldl_cons, h2, g2, List.mem_cons]
    constructor
    · rintro ((h | h) | h)
      · exact .inl h
      · exact .inr (.inl h)
      · exact .inr (.inr h)
    · rintro (h | h | h)
      · exact .inl (.inl h)
      · exact .inl (.inr h)
      · exact .inr h
theorem merge_insert (P : List F.Sp) : F.uniq (F.sortP P) = P.foldl F.insW [] := by
  obtain ⟨a1, a2⟩ := uq_spec (F.sortP P) [] .nil (sortP_sorted P) (fun a ha => by cases ha)
  obtain ⟨b1, b2⟩ := insAll_spec P [] .nil
  refine strict_one a1 b1 fun x => ?_
  unfold F.uniq
  rw [a2, b2, (sortP_perm P).mem_iff]
end Go.Proofs.Ytbkpgpkeecnjpaa
