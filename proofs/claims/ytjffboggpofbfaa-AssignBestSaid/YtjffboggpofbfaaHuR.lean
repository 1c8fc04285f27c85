/- Plain law: the choices row by row are the first assignment of least total; the reference's list of all. -/
import Derived.Test.YtjffboggpofbfaaHuQ
namespace Go.Proofs.Ytjffboggpofbfaa
namespace F
/-! the first assignment of least total -/
def pick : List (Int × List Int) → Int × List Int
  | [] => (0, [])
  | p :: t => t.foldl (fun b a => if a.1 < b.1 then a else b) p
/-- p is the first of the least. -/
def isFst (l : List (Int × List Int)) (p : Int × List Int) : Prop := ∃ l1 l2, l = l1 ++ p :: l2 ∧ (∀ q ∈ l1, p.1 < q.1) ∧ ∀ q ∈ l2, p.1 ≤ q.1
theorem fst_fold : ∀ (t l1 : List (Int × List Int)) (p : Int × List Int) (l2 : List (Int × List Int)), (∀ q ∈ l1, p.1 < q.1) → (∀ q ∈ l2, p.1 ≤ q.1) → isFst (l1 ++ p :: (l2 ++ t)) (t.foldl (fun b a => if a.1 < b.1 then a else b) p)
  | [], l1, p, l2, h1, h2 => ⟨l1, l2, by rw [List.append_nil]; rfl, h1, h2⟩
  | a :: t, l1, p, l2, h1, h2 => by
    show isFst _ (t.foldl _ (if a.1 < p.1 then a else p))
    by_cases c : a.1 < p.1
    · rw [if_pos c]
      have := fst_fold t (l1 ++ p :: l2) a [] (fun q hq => by
        rcases List.mem_append.1 hq with h | h
        · have := h1 q h; omega
        · rcases List.mem_cons.1 h with h | h
          · rw [h]; exact c
          · have := h2 q h; omega) (fun q hq => by cases hq)
      simpa using this
    · rw [if_neg c]
      have := fst_fold t l1 p (l2 ++ [a]) h1 (fun q hq => by
        rcases List.mem_append.1 hq with h | h
        · exact h2 q h
        · rw [List.mem_singleton.1 h]; omega)
      simpa using this
theorem pick_fst (p : Int × List Int) (t : List (Int × List Int)) : isFst (p :: t) (pick (p :: t)) := fst_fold t [] p [] (fun q hq => by cases hq) (fun q hq => by cases hq)
theorem isFst_mem {l : List (Int × List Int)} {p : Int × List Int} (h : isFst l p) : p ∈ l ∧ ∀ q ∈ l, p.1 ≤ q.1 := by
  obtain ⟨l1, l2, rfl, h1, h2⟩ := h
  refine ⟨by simp, fun q hq => ?_⟩
  rcases List.mem_append.1 hq with h | h
  · have := h1 q h; omega
  · rcases List.mem_cons.1 h with h | h
    · rw [h]; exact Int.le_refl _
    · exact h2 q h
theorem isFst_uniq : ∀ {l : List (Int × List Int)} {p q : Int × List Int}, isFst l p → isFst l q → p = q
  | l, p, q, ⟨a1, a2, e, h1, h2⟩, ⟨b1, b2, e', g1, g2⟩ => by
    induction a1 generalizing l b1 with
    | nil =>
      cases b1 with
      | nil =>
        rw [e] at e'
        simp only [List.nil_append, List.cons.injEq] at e'
        exact e'.1
      | cons c b1 =>
        rw [e] at e'
        simp only [List.nil_append, List.cons_append, List.cons.injEq] at e'
        obtain ⟨rfl, rfl⟩ := e'
        have x1 := g1 p (List.mem_cons_self ..)
        have x2 := h2 q (by simp)
        omega
    | cons d a1 ih =>
      cases b1 with
      | nil =>
        rw [e] at e'
        simp only [List.nil_append, List.cons_append, List.cons.injEq] at e'
        obtain ⟨rfl, rfl⟩ := e'
        have x1 := h1 d (List.mem_cons_self ..)
        have x2 := g2 p (by simp)
        omega
      | cons c b1 =>
        rw [e] at e'
        simp only [List.cons_append, List.cons.injEq] at e'
        exact ih (l := a1 ++ p :: a2) rfl (fun x hx => h1 x (List.mem_cons_of_mem _ hx)) b1 e'.2 (fun x hx => g1 x (List.mem_cons_of_mem _ hx))
theorem isFst_map {l : List (Int × List Int)} {p : Int × List Int} (c : Int) (k : Int) (h : isFst l p) : isFst (l.map fun q => (c + q.1, k :: q.2)) (c + p.1, k :: p.2) := by
  obtain ⟨l1, l2, rfl, h1, h2⟩ := h
  refine ⟨l1.map fun q => (c + q.1, k :: q.2), l2.map fun q => (c + q.1, k :: q.2), by simp, fun q hq => ?_, fun q hq => ?_⟩
  · obtain ⟨x, hx, rfl⟩ := List.mem_map.1 hq
    have := h1 x hx
    simp only
    omega
  · obtain ⟨x, hx, rfl⟩ := List.mem_map.1 hq
    have := h2 x hx
    simp only
    omega
theorem isFst_left {A B : List (Int × List Int)} {p : Int × List Int} (h : isFst A p) (hB : ∀ q ∈ B, p.1 ≤ q.1) : isFst (A ++ B) p := by
  obtain ⟨l1, l2, rfl, h1, h2⟩ := h
  refine ⟨l1, l2 ++ B, by simp, h1, fun q hq => ?_⟩
  rcases List.mem_append.1 hq with h | h
  · exact h2 q h
  · exact hB q h
theorem isFst_right {A B : List (Int × List Int)} {p : Int × List Int} (h : isFst B p) (hA : ∀ q ∈ A, p.1 < q.1) : isFst (A ++ B) p := by
  obtain ⟨l1, l2, rfl, h1, h2⟩ := h
  refine ⟨A ++ l1, l2, by simp, fun q hq => ?_, h2⟩
  rcases List.mem_append.1 hq with h | h
  · exact hA q h
  · exact h1 q h
theorem asg_ne (miss : Int) : ∀ (rs : List (List Int)) (tk : List Bool), asg miss rs tk ≠ []
  | [], _ => by simp [asg]
  | r :: rs, tk => by
    have := asg_ne miss rs tk
    unfold asg
    intro h
    have h := (List.append_eq_nil_iff.1 h).1
    exact this (List.map_eq_nil_iff.1 h)
/-- The least total. -/
def lst (miss : Int) (rs : List (List Int)) (tk : List Bool) : Int := (pick (asg miss rs tk)).1
theorem asg_fst (miss : Int) (rs : List (List Int)) (tk : List Bool) : isFst (asg miss rs tk) (pick (asg miss rs tk)) := by
  cases h : asg miss rs tk with
  | nil => exact absurd h (asg_ne miss rs tk)
  | cons p t => exact pick_fst p t
theorem lst_le (miss : Int) (rs : List (List Int)) (tk : List Bool) : ∀ q ∈ asg miss rs tk, lst miss rs tk ≤ q.1 := (isFst_mem (asg_fst miss rs tk)).2
theorem lst_uniq {miss : Int} {rs : List (List Int)} {tk : List Bool} {W : Int} (h1 : ∃ a, (W, a) ∈ asg miss rs tk) (h2 : ∀ p ∈ asg miss rs tk, W ≤ p.1) : W = lst miss rs tk := by
  obtain ⟨a, ha⟩ := h1
  have e1 := lst_le miss rs tk _ ha
  have e2 := h2 _ (isFst_mem (asg_fst miss rs tk)).1
  unfold lst at *
  simp only at e1
  omega
/-- The first column, from k on, that leads to what is left; -1 if none does. -/
def chs (miss : Int) (r : List Int) (rs : List (List Int)) (tk : List Bool) (left : Int) : Nat → Nat → Int
  | 0, _ => -1
  | q + 1, k => if r.getD k 0 < 0 ∨ tk.getD k false = true then chs miss r rs tk left q (k + 1)
    else if r.getD k 0 + lst miss rs (tk.set k true) = left then (k : Int) else chs miss r rs tk left q (k + 1)
/-- The choices, row by row. -/
def gre (miss : Int) : List (List Int) → List Bool → Int → List Int
  | [], _, _ => []
  | r :: rs, tk, left =>
    if miss + lst miss rs tk = left then -1 :: gre miss rs tk (left - miss)
    else
      let c := chs miss r rs tk left r.length 0
      if c = -1 then -1 :: gre miss rs tk left else c :: gre miss rs (tk.set c.toNat true) (left - r.getD c.toNat 0)
theorem chs_spec (miss : Int) (r : List Int) (rs : List (List Int)) (tk : List Bool) (left : Int) : ∀ (q k : Nat), (chs miss r rs tk left q k = -1 ∧ ∀ j, k ≤ j → j < k + q → ¬ (r.getD j 0 < 0 ∨ tk.getD j false = true) → r.getD j 0 + lst miss rs (tk.set j true) ≠ left) ∨
    ∃ j : Nat, chs miss r rs tk left q k = j ∧ k ≤ j ∧ j < k + q ∧ ¬ (r.getD j 0 < 0 ∨ tk.getD j false = true) ∧ r.getD j 0 + lst miss rs (tk.set j true) = left ∧ ∀ i, k ≤ i → i < j → ¬ (r.getD i 0 < 0 ∨ tk.getD i false = true) → r.getD i 0 + lst miss rs (tk.set i true) ≠ left
  | 0, k => .inl ⟨rfl, fun j h1 h2 => by omega⟩
  | q + 1, k => by
    unfold chs
    have ih := chs_spec miss r rs tk left q (k + 1)
    by_cases c : r.getD k 0 < 0 ∨ tk.getD k false = true
    · rw [if_pos c]
      rcases ih with ⟨h1, h2⟩ | ⟨j, h1, h2, h3, h4, h5, h6⟩
      · refine .inl ⟨h1, fun j j1 j2 hj => ?_⟩
        by_cases e : j = k
        · rw [e] at hj; exact absurd c hj
        · exact h2 j (by omega) (by omega) hj
      · refine .inr ⟨j, h1, by omega, by omega, h4, h5, fun i i1 i2 hi => ?_⟩
        by_cases e : i = k
        · rw [e] at hi; exact absurd c hi
        · exact h6 i (by omega) i2 hi
    · rw [if_neg c]
      by_cases c2 : r.getD k 0 + lst miss rs (tk.set k true) = left
      · rw [if_pos c2]
        exact .inr ⟨k, rfl, by omega, by omega, c, c2, fun i i1 i2 => by omega⟩
      · rw [if_neg c2]
        rcases ih with ⟨h1, h2⟩ | ⟨j, h1, h2, h3, h4, h5, h6⟩
        · refine .inl ⟨h1, fun j j1 j2 hj => ?_⟩
          by_cases e : j = k
          · rw [e]; exact c2
          · exact h2 j (by omega) (by omega) hj
        · refine .inr ⟨j, h1, by omega, by omega, h4, h5, fun i i1 i2 hi => ?_⟩
          by_cases e : i = k
          · rw [e]; exact c2
          · exact h6 i (by omega) i2 hi
/-- The choices are the first assignment of least total. -/
theorem gre_fst (miss : Int) : ∀ (rs : List (List Int)) (tk : List Bool), isFst (asg miss rs tk) (lst miss rs tk, gre miss rs tk (lst miss rs tk))
  | [], tk => ⟨[], [], rfl, (fun q hq => by cases hq), (fun q hq => by cases hq)⟩
  | r :: rs, tk => by
    have hle := lst_le miss (r :: rs) tk
    have hmem := (isFst_mem (asg_fst miss (r :: rs) tk)).1
    have hW : (pick (asg miss (r :: rs) tk)).1 = lst miss (r :: rs) tk := rfl
    generalize lst miss (r :: rs) tk = W at *
    have e : asg miss (r :: rs) tk = (asg miss rs tk).map (fun p => (miss + p.1, -1 :: p.2)) ++
      (List.range r.length).flatMap fun k => if r.getD k 0 < 0 ∨ tk.getD k false = true then [] else (asg miss rs (tk.set k true)).map fun p => (r.getD k 0 + p.1, (k : Int) :: p.2) := rfl
    have ih := gre_fst miss rs
    have hA : ∀ q ∈ (asg miss rs tk).map (fun p => (miss + p.1, (-1 : Int) :: p.2)), W ≤ q.1 := fun q hq => hle q (by rw [e]; exact List.mem_append_left _ hq)
    have hAm := (isFst_mem (isFst_map miss (-1) (ih tk))).1
    unfold gre
    by_cases c : miss + lst miss rs tk = W
    · rw [if_pos c, e]
      have h1 := isFst_map miss (-1) (ih tk)
      simp only [c] at h1
      rw [show W - miss = lst miss rs tk by omega]
      exact isFst_left h1 fun q hq => hle q (by rw [e]; exact List.mem_append_right _ hq)
    · rw [if_neg c]
      -- the misses all cost more
      have hA2 : ∀ q ∈ (asg miss rs tk).map (fun p => (miss + p.1, (-1 : Int) :: p.2)), W < q.1 := fun q hq => by
        obtain ⟨p, hp, rfl⟩ := List.mem_map.1 hq
        have h1 := lst_le miss rs tk p hp
        have h2 := hA _ hAm
        simp only at h2 ⊢
        omega
      -- a column that does not lead there costs more
      have hK : ∀ j, j < r.length → ¬ (r.getD j 0 < 0 ∨ tk.getD j false = true) → (∀ q ∈ (asg miss rs (tk.set j true)).map (fun p => (r.getD j 0 + p.1, (j : Int) :: p.2)), W ≤ q.1) := fun j hj hn q hq => hle q (by
        rw [e]
        refine List.mem_append_right _ (List.mem_flatMap.2 ⟨j, List.mem_range.2 hj, ?_⟩)
        rw [if_neg hn]
        exact hq)
      have hK2 : ∀ j, j < r.length → ¬ (r.getD j 0 < 0 ∨ tk.getD j false = true) → r.getD j 0 + lst miss rs (tk.set j true) ≠ W → (∀ q ∈ (asg miss rs (tk.set j true)).map (fun p => (r.getD j 0 + p.1, (j : Int) :: p.2)), W < q.1) := fun j hj hn hne q hq => by
        obtain ⟨p, hp, rfl⟩ := List.mem_map.1 hq
        have h1 := lst_le miss rs (tk.set j true) p hp
        have h2 := hK j hj hn _ (isFst_mem (isFst_map (r.getD j 0) (j : Int) (ih (tk.set j true)))).1
        simp only at h2 ⊢
        omega
      have hs := chs_spec miss r rs tk W r.length 0
      simp only
      rcases hs with ⟨h1, h2⟩ | ⟨j, h1, _, h3, h4, h5, h6⟩
      · -- none leads there: impossible
        exfalso
        rw [e] at hmem
        rcases List.mem_append.1 hmem with h | h
        · have := hA2 _ h
          rw [← e, hW] at this
          omega
        · obtain ⟨k, hk, h⟩ := List.mem_flatMap.1 h
          rw [List.mem_range] at hk
          split at h
          · cases h
          · rename_i hn
            have := hK2 k hk hn (h2 k (by omega) (by omega) hn) _ h
            rw [← e, hW] at this
            omega
      · rw [h1, if_neg (by omega), Int.toNat_natCast, show W - r.getD j 0 = lst miss rs (tk.set j true) by omega]
        have hj : isFst ((asg miss rs (tk.set j true)).map fun p => (r.getD j 0 + p.1, (j : Int) :: p.2)) (W, (j : Int) :: gre miss rs (tk.set j true) (lst miss rs (tk.set j true))) := by
          have := isFst_map (r.getD j 0) (j : Int) (ih (tk.set j true))
          simp only [h5] at this
          exact this
        rw [e]
        refine isFst_right ?_ hA2
        have hsplit : List.range r.length = List.range j ++ j :: (List.range (r.length - (j + 1))).map (j + 1 + ·) := by
          have e1 : r.length = j + (1 + (r.length - (j + 1))) := by omega
          conv => lhs; rw [e1, List.range_add, List.range_add]
          simp [Nat.add_assoc]
        rw [hsplit, List.flatMap_append, List.flatMap_cons]
        refine isFst_right (isFst_left ?_ fun q hq => ?_) fun q hq => ?_
        · rw [if_neg h4]
          exact hj
        · obtain ⟨k, hk, h⟩ := List.mem_flatMap.1 hq
          obtain ⟨d, hd, rfl⟩ := List.mem_map.1 hk
          rw [List.mem_range] at hd
          split at h
          · cases h
          · rename_i hn
            exact hK _ (by omega) hn q h
        · obtain ⟨k, hk, h⟩ := List.mem_flatMap.1 hq
          rw [List.mem_range] at hk
          split at h
          · cases h
          · rename_i hn
            exact hK2 k (by omega) hn (h6 k (by omega) hk hn) q h
theorem gre_pick (miss : Int) (rs : List (List Int)) (tk : List Bool) : pick (asg miss rs tk) = (lst miss rs tk, gre miss rs tk (lst miss rs tk)) := isFst_uniq (asg_fst miss rs tk) (gre_fst miss rs tk)
end F
namespace F
/-! the reference's list of all assignments -/
def ext1 (miss : Int) (r : List Int) (a : List Int) : List (List Int) :=
  ((a.getD 0 0 + miss) :: (a.drop 1 ++ [-1])) :: (List.range r.length).flatMap fun k => if r.getD k 0 < 0 ∨ (k : Int) ∈ a.drop 1 then [] else [(a.getD 0 0 + r.getD k 0) :: (a.drop 1 ++ [(k : Int)])]
def allG (miss : Int) : List (List Int) → List (List Int) → List (List Int)
  | [], out => out
  | r :: rs, out => allG miss rs (out.flatMap (ext1 miss r))
def tkA (n : Nat) (l : List Int) : List Bool := (List.range n).map fun k : Nat => decide ((k : Int) ∈ l)
theorem tkA_len (n : Nat) (l : List Int) : (tkA n l).length = n := by simp [tkA]
theorem tkA_get {n : Nat} (l : List Int) {k : Nat} (hk : k < n) : (tkA n l).getD k false = decide ((k : Int) ∈ l) := by
  unfold tkA
  rw [List.getD_eq_getElem?_getD, List.getElem?_map, List.getElem?_range hk]
  rfl
theorem tkA_miss (n : Nat) (l : List Int) : tkA n (l ++ [-1]) = tkA n l := by
  unfold tkA
  refine List.map_congr_left fun k _ => ?_
  have : ((k : Int) ∈ l ++ [-1]) ↔ (k : Int) ∈ l := by
    rw [List.mem_append, List.mem_singleton]
    constructor
    · rintro (h | h)
      · exact h
      · omega
    · exact .inl
  rw [decide_eq_decide]
  exact this
theorem tkA_set {n : Nat} (l : List Int) {k : Nat} (hk : k < n) : (tkA n l).set k true = tkA n (l ++ [(k : Int)]) := by
  apply List.ext_getElem
  · rw [List.length_set, tkA_len, tkA_len]
  · intro j h1 h2
    rw [List.length_set, tkA_len] at h1
    have e1 : ((tkA n l).set k true)[j]'(by rw [List.length_set, tkA_len]; exact h1) = ((tkA n l).set k true).getD j false := by
      rw [List.getD_eq_getElem?_getD, List.getElem?_eq_getElem (by rw [List.length_set, tkA_len]; exact h1)]
      rfl
    have e2 : (tkA n (l ++ [(k : Int)]))[j]'h2 = (tkA n (l ++ [(k : Int)])).getD j false := by
      rw [List.getD_eq_getElem?_getD, List.getElem?_eq_getElem h2]
      rfl
    rw [e1, e2, setB, tkA_get _ h1, tkA_get _ h1, tkA_len]
    by_cases e : k = j
    · subst e
      rw [if_pos ⟨rfl, hk⟩]
      simp
    · rw [if_neg (fun q => e q.1), decide_eq_decide, List.mem_append, List.mem_singleton]
      constructor
      · exact .inl
      · rintro (h | h)
        · exact h
        · omega
theorem allG_asg (miss : Int) (n : Nat) : ∀ (rs out : List (List Int)), (∀ r ∈ rs, r.length = n) → allG miss rs out = out.flatMap fun a => match a with
    | [] => (allG miss rs [[]])
    | a0 :: l => (asg miss rs (tkA n l)).map fun p => (a0 + p.1) :: (l ++ p.2)
  | [], out, _ => by
    show out = _
    induction out with
    | nil => rfl
    | cons a out ih =>
      rw [List.flatMap_cons, ← ih]
      cases a with
      | nil => rfl
      | cons a0 l => simp [asg]
  | r :: rs, out, hl => by
    have hr : r.length = n := hl r (List.mem_cons_self ..)
    have ih := fun o => allG_asg miss n rs o fun q hq => hl q (List.mem_cons_of_mem _ hq)
    show allG miss rs (out.flatMap (ext1 miss r)) = _
    rw [ih, List.flatMap_assoc]
    congr 1
    funext a
    cases a with
    | nil =>
      show _ = allG miss rs ([[]].flatMap (ext1 miss r))
      rw [List.flatMap_cons, List.flatMap_nil, List.append_nil]
      exact (ih _).symm
    | cons a0 l =>
      have e1 : ext1 miss r (a0 :: l) = ((a0 + miss) :: (l ++ [-1])) :: (List.range r.length).flatMap fun k => if r.getD k 0 < 0 ∨ (k : Int) ∈ l then [] else [(a0 + r.getD k 0) :: (l ++ [(k : Int)])] := rfl
      have e2 : asg miss (r :: rs) (tkA n l) = (asg miss rs (tkA n l)).map (fun p => (miss + p.1, -1 :: p.2)) ++
        (List.range r.length).flatMap fun k => if r.getD k 0 < 0 ∨ (tkA n l).getD k false = true then [] else (asg miss rs ((tkA n l).set k true)).map fun p => (r.getD k 0 + p.1, (k : Int) :: p.2) := rfl
      rw [e1, List.flatMap_cons]
      simp only
      rw [e2, List.map_append, List.map_map, tkA_miss, List.map_flatMap, List.flatMap_assoc]
      congr 1
      · refine List.map_congr_left fun p _ => ?_
        simp only [Function.comp, List.append_assoc, List.singleton_append, Int.add_assoc]
      · have : ∀ k ∈ List.range r.length, (if r.getD k 0 < 0 ∨ (k : Int) ∈ l then ([] : List (List Int)) else [(a0 + r.getD k 0) :: (l ++ [(k : Int)])]).flatMap (fun a => match a with
            | [] => (allG miss rs [[]])
            | a0 :: l => (asg miss rs (tkA n l)).map fun p => (a0 + p.1) :: (l ++ p.2)) =
            (if r.getD k 0 < 0 ∨ (tkA n l).getD k false = true then ([] : List (Int × List Int)) else (asg miss rs ((tkA n l).set k true)).map fun p => (r.getD k 0 + p.1, (k : Int) :: p.2)).map fun p => (a0 + p.1) :: (l ++ p.2) := fun k hk => by
          rw [List.mem_range, hr] at hk
          have ec : ((tkA n l).getD k false = true) = ((k : Int) ∈ l) := by rw [tkA_get l hk, decide_eq_true_eq]
          rw [tkA_set l hk]
          simp only [ec]
          by_cases c : r.getD k 0 < 0 ∨ (k : Int) ∈ l
          · rw [if_pos c, if_pos c]
            rfl
          · rw [if_neg c, if_neg c, List.map_map]
            simp only [List.flatMap_cons, List.flatMap_nil, List.append_nil]
            refine List.map_congr_left fun p _ => ?_
            simp only [Function.comp, List.append_assoc, List.singleton_append, Int.add_assoc]
        generalize List.range r.length = K at this
        induction K with
        | nil => rfl
        | cons k K ih2 =>
          rw [List.flatMap_cons, List.flatMap_cons, this k (List.mem_cons_self ..), ih2 fun j hj => this j (List.mem_cons_of_mem _ hj)]
/-- All of them, from the start. -/
theorem all_asg (miss : Int) (n : Nat) (rs : List (List Int)) (hl : ∀ r ∈ rs, r.length = n) : allG miss rs [[0]] = (asg miss rs (List.replicate n false)).map fun p => p.1 :: p.2 := by
  rw [allG_asg miss n rs _ hl]
  have e : tkA n [] = List.replicate n false := by
    unfold tkA
    apply List.ext_getElem
    · simp
    · intro j h1 h2
      simp
  simp [e]
/-- The law's choice among them. -/
def pickL (b : List Int) : List (List Int) → List Int
  | [] => b
  | a :: t => pickL (if a.getD 0 0 < b.getD 0 0 then a else b) t
theorem pickL_map : ∀ (t : List (Int × List Int)) (b : Int × List Int), pickL (b.1 :: b.2) (t.map fun p => p.1 :: p.2) = (t.foldl (fun b a => if a.1 < b.1 then a else b) b).1 :: (t.foldl (fun b a => if a.1 < b.1 then a else b) b).2
  | [], b => rfl
  | a :: t, b => by
    have ih := pickL_map t (if a.1 < b.1 then a else b)
    show pickL (if a.1 < b.1 then a.1 :: a.2 else b.1 :: b.2) (t.map fun p => p.1 :: p.2) = _
    by_cases c : a.1 < b.1
    · rw [if_pos c] at ih ⊢
      rw [ih, List.foldl_cons, if_pos c]
    · rw [if_neg c] at ih ⊢
      rw [ih, List.foldl_cons, if_neg c]
/-- What the law finds: the choices of the least total. -/
theorem law_pick (miss : Int) (n : Nat) (rs : List (List Int)) (hl : ∀ r ∈ rs, r.length = n) : allG miss rs [[0]] ≠ [] ∧ pickL ((allG miss rs [[0]]).getD 0 []) (allG miss rs [[0]]) = lst miss rs (List.replicate n false) :: gre miss rs (List.replicate n false) (lst miss rs (List.replicate n false)) := by
  have hp := gre_pick miss rs (List.replicate n false)
  rw [all_asg miss n rs hl]
  cases h : asg miss rs (List.replicate n false) with
  | nil => exact absurd h (asg_ne miss rs _)
  | cons p t =>
    rw [h] at hp
    refine ⟨by simp, ?_⟩
    show pickL (p.1 :: p.2) ((p.1 :: p.2) :: t.map fun p => p.1 :: p.2) = _
    have e : pickL (p.1 :: p.2) ((p.1 :: p.2) :: t.map fun p => p.1 :: p.2) = pickL (p.1 :: p.2) (t.map fun p => p.1 :: p.2) := by
      show pickL (if p.1 < p.1 then p.1 :: p.2 else p.1 :: p.2) _ = _
      rw [if_neg (Int.lt_irrefl _)]
    rw [e, pickL_map]
    have hp : t.foldl (fun b a => if a.1 < b.1 then a else b) p = _ := hp
    rw [hp]
end F
end Go.Proofs.Ytjffboggpofbfaa
