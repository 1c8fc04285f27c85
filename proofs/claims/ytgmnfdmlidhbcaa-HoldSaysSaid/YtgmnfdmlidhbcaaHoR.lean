/- The stack and the model of levels do the same. -/
import Derived.Test.YtgmnfdmlidhbcaaHe
namespace Go.Proofs.Ytgmnfdmlidhbcaa
set_option maxRecDepth 100000
namespace F
structure okS (lo hi st : Int) : Prop where
  a : 0 ≤ lo
  b : lo ≤ hi
  c : hi ≤ 60000
  d : 100 ≤ st
  e : st ≤ 10000
  f : lvls lo hi st ≤ 32
structure HR (lo hi st : Int) (P : List HL) (now : Int) (L : Nat → HL) : Prop where
  p : P = mlst L
  h : ∀ i, occ (L i) = true → (L i).2.1 = lo + i * st ∧ (i : Int) < lvls lo hi st ∧ 0 ≤ (L i).2.2 ∧ (L i).2.2 ≤ 200000
  e : ∀ i, occ (L i) = false → L i = hl0
  b : big L
  t : 0 ≤ now ∧ now ≤ 200000
end F
theorem lvls_iff {lo hi st : Int} (h : F.okS lo hi st) (i : Int) (h0 : 0 ≤ i) : i < F.lvls lo hi st ↔ lo + i * st ≤ hi := by
  have hs := h.d
  have hb := h.b
  unfold F.lvls
  rw [Int.tdiv_eq_ediv_of_nonneg (by omega)]
  have := Int.le_ediv_iff_mul_le (a := i) (b := hi - lo) (c := st) (by omega)
  constructor
  · intro q
    have := this.1 (by omega)
    omega
  · intro q
    have := this.2 (by omega)
    omega
theorem hr_hi {lo hi st : Int} (o : F.okS lo hi st) {P : List F.HL} {now : Int} {L : Nat → F.HL} (r : F.HR lo hi st P now L) {i : Nat} (h : F.occ (L i) = true) : lo ≤ (L i).2.1 ∧ (L i).2.1 ≤ hi := by
  obtain ⟨h1, h2, _⟩ := r.h i h
  have := (lvls_iff o i (by omega)).1 h2
  have hs := o.d
  have : (0 : Int) ≤ i * st := Int.mul_nonneg (by omega) (by omega)
  omega
theorem mlst_mem {L : Nat → F.HL} {x : F.HL} (h : x ∈ F.mlst L) : ∃ i, i < 32 ∧ x = L i ∧ F.occ (L i) = true := by
  unfold F.mlst at h
  obtain ⟨h1, h2⟩ := List.mem_filter.1 h
  obtain ⟨i, hi, rfl⟩ := List.getElem_of_mem h1
  rw [lv_len] at hi
  have e : (F.lv L)[i]'(by rw [lv_len]; exact hi) = L i := by
    have := lv_at L i
    rw [if_pos hi, List.getElem?_eq_getElem (by rw [lv_len]; exact hi)] at this
    exact Option.some.inj this
  rw [e] at h2
  exact ⟨i, hi, e, h2⟩
theorem hr_hok {lo hi st : Int} (o : F.okS lo hi st) {P : List F.HL} {now : Int} {L : Nat → F.HL} (r : F.HR lo hi st P now L) : F.hok P := by
  refine ⟨?_, fun x hx => ?_⟩
  · rw [r.p]
    have := List.length_filter_le F.occ (F.lv L)
    rw [lv_len] at this
    unfold F.mlst
    omega
  · rw [r.p] at hx
    obtain ⟨i, hi, rfl, ho⟩ := mlst_mem hx
    have h1 := hr_hi o r ho
    obtain ⟨_, _, h2, h3⟩ := r.h i ho
    have := o.a
    have := o.c
    exact ⟨⟨by omega, by omega⟩, h2, h3⟩
theorem hr_mok {lo hi st : Int} (o : F.okS lo hi st) {P : List F.HL} {now : Int} {L : Nat → F.HL} (r : F.HR lo hi st P now L) : F.mok L := by
  intro i
  cases ho : F.occ (L i) with
  | true =>
    have h1 := hr_hi o r ho
    obtain ⟨_, _, h2, h3⟩ := r.h i ho
    have := o.a
    have := o.c
    omega
  | false =>
    rw [r.e i ho]
    show (-1000000 ≤ (0 : Int) ∧ (0 : Int) ≤ 1000000) ∧ (-200000 ≤ (0 : Int) ∧ (0 : Int) ≤ 200000)
    omega
/-! ### where a flight is -/
theorem ix_none {c : List UInt8} : ∀ {X : List F.HL} (i : Int), (∀ x ∈ X, x.1 ≠ c) → F.ixG c X i = -1
  | [], _, _ => rfl
  | x :: X, i, h => by
    unfold F.ixG
    rw [if_neg (h x (List.mem_cons_self ..))]
    exact ix_none _ fun y hy => h y (List.mem_cons_of_mem _ hy)
theorem ix_at {c : List UInt8} {x : F.HL} {B : List F.HL} (hx : x.1 = c) : ∀ {A : List F.HL} (i : Int), (∀ y ∈ A, y.1 ≠ c) → F.ixG c (A ++ x :: B) i = i + A.length
  | [], i, _ => by
    rw [List.nil_append]
    unfold F.ixG
    rw [if_pos hx]
    simp
  | a :: A, i, h => by
    rw [List.cons_append]
    unfold F.ixG
    rw [if_neg (h a (List.mem_cons_self ..)), ix_at hx _ fun y hy => h y (List.mem_cons_of_mem _ hy)]
    simp
    omega
theorem ix_split (c : List UInt8) : ∀ X : List F.HL, (∀ x ∈ X, x.1 ≠ c) ∨ ∃ A x B, X = A ++ x :: B ∧ x.1 = c ∧ ∀ y ∈ A, y.1 ≠ c
  | [] => .inl fun _ h => absurd h List.not_mem_nil
  | a :: X => by
    by_cases e : a.1 = c
    · exact .inr ⟨[], a, X, rfl, e, fun _ h => absurd h List.not_mem_nil⟩
    · rcases ix_split c X with h | ⟨A, x, B, h1, h2, h3⟩
      · refine .inl fun x hx => ?_
        rcases List.mem_cons.1 hx with rfl | hx
        · exact e
        · exact h x hx
      · refine .inr ⟨a :: A, x, B, by rw [h1]; rfl, h2, fun y hy => ?_⟩
        rcases List.mem_cons.1 hy with rfl | hy
        · exact e
        · exact h3 y hy
theorem drop_lv (L : Nat → F.HL) {i : Nat} (h : i < 32) : (F.lv L).drop i = L i :: (F.lv L).drop (i + 1) := by
  rw [List.drop_eq_getElem_cons (by rw [lv_len]; omega)]
  congr 1
  have := lv_at L i
  rw [if_pos h, List.getElem?_eq_getElem (by rw [lv_len]; exact h)] at this
  exact Option.some.inj this
theorem find_ix {L : Nat → F.HL} {c : List UInt8} (hc : c ≠ []) : F.find L c = F.ixG c (F.lv L) 0 := by
  have key : ∀ (m i : Nat), i + m = 32 → F.findG L c m i = F.ixG c ((F.lv L).drop i) i := by
    intro m
    induction m with
    | zero =>
      intro i hi
      rw [List.drop_of_length_le (by rw [lv_len]; omega)]
      rfl
    | succ m ih =>
      intro i hi
      rw [drop_lv L (by omega)]
      unfold F.findG F.ixG
      rw [ih (i + 1) (by omega), if_neg hc]
      rfl
  have := key 32 0 (by omega)
  rwa [List.drop_zero] at this
/-- A flight is in neither, or it is there with those ahead of it. -/
theorem both {L : Nat → F.HL} {c : List UInt8} (hc : c ≠ []) : (F.find L c = -1 ∧ F.ixc (F.mlst L) c = -1) ∨ ∃ A x B, F.lv L = A ++ x :: B ∧ x.1 = c ∧ F.find L c = A.length ∧ F.ixc (F.mlst L) c = (A.filter F.occ).length := by
  unfold F.ixc F.mlst
  rw [find_ix hc]
  rcases ix_split c (F.lv L) with h | ⟨A, x, B, h1, h2, h3⟩
  · exact .inl ⟨ix_none _ h, ix_none _ fun x hx => h x (List.mem_filter.1 hx).1⟩
  · refine .inr ⟨A, x, B, h1, h2, by rw [h1, ix_at h2 _ h3]; simp, ?_⟩
    rw [h1, List.filter_append, List.filter_cons_of_pos (by rw [occ_iff, h2]; exact hc), ix_at h2 _ fun y hy => h3 y (List.mem_filter.1 hy).1]
    simp
theorem find_nil (L : Nat → F.HL) : F.find L [] = -1 := by
  rcases find_lt L [] with h | h
  · exact h
  · exact absurd rfl h.2.2.2
theorem ixc_nil (L : Nat → F.HL) : F.ixc (F.mlst L) [] = -1 := ix_none _ fun x hx => by
  unfold F.mlst at hx
  exact occ_iff.1 (List.mem_filter.1 hx).2
theorem wrn_inb {now t : Int} : F.wrn now t = !F.inb t now 200000 := by
  unfold F.wrn F.inb
  by_cases q1 : t < now <;> by_cases q2 : 200000 < t <;> simp [q1, q2] <;> omega
/-! ### the highest one -/
/-- Those from a level on are free. -/
theorem top_free {L : Nat → F.HL} : ∀ (m i : Nat) (a : Int), i + m = 32 → 0 ≤ a → a ≤ i → (∀ k : Nat, a ≤ k → k < i → F.occ (L k) = false) → (0 < a → F.occ (L (a.toNat - 1)) = true) →
    (∀ k : Nat, F.topG L m i a ≤ k → k < 32 → F.occ (L k) = false) ∧ (0 < F.topG L m i a → F.occ (L ((F.topG L m i a).toNat - 1)) = true)
  | 0, i, a, hi, h0, h1, h2, h3 => ⟨fun k hk hk' => h2 k hk (by omega), h3⟩
  | m + 1, i, a, hi, h0, h1, h2, h3 => by
    have hu : F.topG L (m + 1) i a = F.topG L m (i + 1) (if F.occ (L i) then (i : Int) + 1 else a) := rfl
    rw [hu]
    cases ho : F.occ (L i) with
    | true =>
      rw [if_pos rfl]
      refine top_free m (i + 1) _ (by omega) (by omega) (by omega) (fun k hk hk' => by omega) (fun _ => ?_)
      rw [show ((i : Int) + 1).toNat - 1 = i by omega]
      exact ho
    | false =>
      rw [if_neg (by decide)]
      refine top_free m (i + 1) _ (by omega) h0 (by omega) (fun k hk hk' => ?_) h3
      by_cases e : k = i
      · rw [e]; exact ho
      · exact h2 k hk (by omega)
theorem top_spec (L : Nat → F.HL) : (∀ k : Nat, F.top L ≤ k → k < 32 → F.occ (L k) = false) ∧ (0 < F.top L → F.occ (L ((F.top L).toNat - 1)) = true) :=
  top_free 32 0 0 (by omega) (by omega) (by omega) (fun k h1 h2 => by omega) (fun h => by omega)
theorem lv_split (L : Nat → F.HL) {k : Nat} (h : k ≤ 32) : F.lv L = (List.range k).map L ++ (F.lv L).drop k := by
  have e : (F.lv L).take k = (List.range k).map L := by
    apply List.ext_getElem?
    intro i
    rw [List.getElem?_take, lv_at, List.getElem?_map]
    by_cases q : i < k
    · rw [if_pos q, if_pos (by omega), List.getElem?_range q]
      rfl
    · rw [if_neg q, List.getElem?_eq_none (by rw [List.length_range]; omega)]
      rfl
  rw [← e, List.take_append_drop]
theorem drop_free {L : Nat → F.HL} {k : Nat} (h : ∀ i, k ≤ i → i < 32 → F.occ (L i) = false) : ((F.lv L).drop k).filter F.occ = [] := by
  rw [List.filter_eq_nil_iff]
  intro x hx ho
  obtain ⟨j, hj, rfl⟩ := List.getElem_of_mem hx
  have hj' : k + j < 32 := by
    rw [List.length_drop, lv_len] at hj
    omega
  have e : ((F.lv L).drop k)[j] = L (k + j) := by
    have := lv_at L (k + j)
    rw [if_pos hj', ← List.getElem?_drop, List.getElem?_eq_getElem hj] at this
    exact Option.some.inj this
  rw [e, h _ (by omega) hj'] at ho
  cases ho
/-- The stack's next level is the model's. -/
theorem nxt_top {lo hi st : Int} {P : List F.HL} {now : Int} {L : Nat → F.HL} (r : F.HR lo hi st P now L) : F.nxt lo st P = lo + F.top L * st := by
  obtain ⟨h1, h2⟩ := top_spec L
  have hb := top_le L
  have hm : P = ((List.range (F.top L).toNat).map L).filter F.occ := by
    rw [r.p]
    unfold F.mlst
    rw [lv_split L (k := (F.top L).toNat) (by omega), List.filter_append, drop_free (fun i hi' hi2 => h1 i (by omega) hi2), List.append_nil]
  by_cases e : F.top L = 0
  · rw [e] at hm
    have : P = [] := hm
    subst this
    rw [e]
    simp [F.nxt]
  · have ho := h2 (by omega)
    have ek : (F.top L).toNat = ((F.top L).toNat - 1) + 1 := by omega
    rw [ek, List.range_succ, List.map_append, List.filter_append] at hm
    simp only [List.map_cons, List.map_nil] at hm
    rw [List.filter_cons_of_pos ho, List.filter_nil] at hm
    have hlast : P.getD (P.length - 1) F.hl0 = L ((F.top L).toNat - 1) := by
      rw [hm, List.length_append, List.length_singleton, Nat.add_sub_cancel, List.getD_eq_getElem?_getD, List.getElem?_append_right (Nat.le_refl _), Nat.sub_self]
      rfl
    unfold F.nxt
    rw [if_pos (by rw [hm]; simp), hlast, (r.h _ ho).1]
    have : (((F.top L).toNat - 1 : Nat) : Int) = F.top L - 1 := by omega
    rw [this, Int.sub_mul]
    omega
/-! ### Enter -/
theorem named_ne {c : List UInt8} (h : F.named c = true) : c ≠ [] := by
  rintro rfl
  revert h
  decide
theorem ent_E {lo hi st : Int} (o : F.okS lo hi st) {P : List F.HL} {now : Int} {L : Nat → F.HL} (r : F.HR lo hi st P now L) (c : List UInt8) (t : Int) : F.entE lo hi st P now c t = F.mentE lo hi st L now c t := by
  unfold F.entE F.mentE
  cases hn : F.named c with
  | false => rfl
  | true =>
    have hc := named_ne hn
    have e1 : (0 ≤ F.ixc P c) ↔ (0 ≤ F.find L c) := by
      rw [r.p]
      rcases both (L := L) hc with ⟨h1, h2⟩ | ⟨A, x, B, _, _, h1, h2⟩ <;> rw [h1, h2] <;> omega
    have e2 : (hi < F.nxt lo st P) ↔ (F.lvls lo hi st ≤ F.top L) := by
      rw [nxt_top r]
      have := lvls_iff o (F.top L) (top_le L).1
      constructor
      · intro q
        by_cases z : F.top L < F.lvls lo hi st
        · have := this.1 z; omega
        · omega
      · intro q
        by_cases z : lo + F.top L * st ≤ hi
        · have := this.2 z; omega
        · omega
    rw [if_pos rfl, if_pos rfl, wrn_inb]
    by_cases q1 : 0 ≤ F.ixc P c
    · rw [if_pos q1, if_pos (e1.1 q1)]
    · rw [if_neg q1, if_neg (fun z => q1 (e1.2 z))]
      cases F.inb t now 200000 with
      | false => rfl
      | true =>
        rw [if_pos rfl, if_neg (by decide)]
        by_cases q2 : hi < F.nxt lo st P
        · rw [if_pos q2, if_pos (e2.1 q2)]
        · rw [if_neg q2, if_neg (fun z => q2 (e2.2 z))]
end Go.Proofs.Ytgmnfdmlidhbcaa
