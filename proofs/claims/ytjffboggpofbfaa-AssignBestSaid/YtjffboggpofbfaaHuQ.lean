/- Plain law: the method's sum is the least total of all assignments. -/
import Derived.Test.YtjffboggpofbfaaHuP
namespace Go.Proofs.Ytjffboggpofbfaa
namespace F
/-! assignments of rows to columns, listed in order -/
def asg (miss : Int) : List (List Int) → List Bool → List (Int × List Int)
  | [], _ => [(0, [])]
  | r :: rs, tk => (asg miss rs tk).map (fun p => (miss + p.1, -1 :: p.2)) ++
      (List.range r.length).flatMap fun k => if r.getD k 0 < 0 ∨ tk.getD k false = true then [] else (asg miss rs (tk.set k true)).map fun p => (r.getD k 0 + p.1, (k : Int) :: p.2)
/-- An assignment, row by row. -/
def okA : List (List Int) → List Bool → List Int → Prop
  | [], _, a => a = []
  | r :: rs, tk, a => match a with
    | [] => False
    | x :: xs => (x = -1 ∧ okA rs tk xs) ∨ ∃ k : Nat, x = k ∧ k < r.length ∧ 0 ≤ r.getD k 0 ∧ tk.getD k false = false ∧ okA rs (tk.set k true) xs
def val (miss : Int) : List (List Int) → List Int → Int
  | r :: rs, x :: xs => (if x = -1 then miss else r.getD x.toNat 0) + val miss rs xs
  | _, _ => 0
theorem mem_asg (miss : Int) : ∀ (rs : List (List Int)) (tk : List Bool) (s : Int) (a : List Int), (s, a) ∈ asg miss rs tk ↔ okA rs tk a ∧ s = val miss rs a
  | [], tk, s, a => by
    simp only [asg, okA, List.mem_singleton, Prod.mk.injEq]
    constructor
    · rintro ⟨rfl, rfl⟩
      exact ⟨rfl, rfl⟩
    · rintro ⟨rfl, h⟩
      exact ⟨h, rfl⟩
  | r :: rs, tk, s, a => by
    simp only [asg, List.mem_append, List.mem_map, List.mem_flatMap, List.mem_range]
    constructor
    · rintro (⟨⟨s', a'⟩, h, e⟩ | ⟨k, hk, h⟩)
      · simp only [Prod.mk.injEq] at e
        obtain ⟨rfl, rfl⟩ := e
        obtain ⟨h1, rfl⟩ := (mem_asg miss rs tk s' a').1 h
        exact ⟨.inl ⟨rfl, h1⟩, rfl⟩
      · split at h
        · cases h
        · rename_i c
          rw [List.mem_map] at h
          obtain ⟨⟨s', a'⟩, h, e⟩ := h
          simp only [Prod.mk.injEq] at e
          obtain ⟨rfl, rfl⟩ := e
          obtain ⟨h1, rfl⟩ := (mem_asg miss rs _ s' a').1 h
          have c1 : ¬ r.getD k 0 < 0 := fun q => c (.inl q)
          have c2 : tk.getD k false = false := by
            cases q : tk.getD k false with
            | false => rfl
            | true => exact absurd (.inr q) c
          refine ⟨.inr ⟨k, rfl, hk, by omega, c2, h1⟩, ?_⟩
          show _ = (if (k : Int) = -1 then miss else r.getD (k : Int).toNat 0) + val miss rs a'
          rw [if_neg (by omega), Int.toNat_natCast]
    · rintro ⟨h, rfl⟩
      cases a with
      | nil => exact h.elim
      | cons x xs =>
        rcases h with ⟨rfl, h⟩ | ⟨k, rfl, hk, h1, h2, h3⟩
        · exact .inl ⟨(val miss rs xs, xs), (mem_asg miss rs tk _ _).2 ⟨h, rfl⟩, rfl⟩
        · refine .inr ⟨k, hk, ?_⟩
          rw [if_neg (by rintro (q | q); omega; rw [h2] at q; cases q), List.mem_map]
          refine ⟨(val miss rs xs, xs), (mem_asg miss rs _ _ _).2 ⟨h3, rfl⟩, ?_⟩
          show (_, _) = ((if (k : Int) = -1 then miss else r.getD (k : Int).toNat 0) + val miss rs xs, _)
          rw [if_neg (by omega), Int.toNat_natCast]
theorem setB (l : List Bool) (k j : Nat) : (l.set k true).getD j false = if k = j ∧ k < l.length then true else l.getD j false := by
  rw [List.getD_eq_getElem?_getD, List.getElem?_set, List.getD_eq_getElem?_getD]
  by_cases e : k = j
  · subst e
    by_cases h : k < l.length
    · simp [h]
    · simp [h]
  · simp [e]
/-- The same, by the rows' numbers. -/
theorem okA_iff : ∀ (rs : List (List Int)) (tk : List Bool) (a : List Int), (∀ r ∈ rs, r.length = tk.length) → (okA rs tk a ↔ a.length = rs.length ∧
    (∀ i, i < rs.length → a.getD i 0 = -1 ∨ ∃ k : Nat, a.getD i 0 = k ∧ k < tk.length ∧ 0 ≤ (rs.getD i []).getD k 0 ∧ tk.getD k false = false) ∧
    ∀ i j, i < j → j < rs.length → a.getD i 0 = a.getD j 0 → a.getD i 0 = -1)
  | [], tk, a, _ => by
    simp only [okA]
    constructor
    · rintro rfl
      exact ⟨rfl, fun i h => absurd h (Nat.not_lt_zero i), fun i j _ h => absurd h (Nat.not_lt_zero j)⟩
    · rintro ⟨h, _⟩
      exact List.eq_nil_of_length_eq_zero h
  | r :: rs, tk, a, hl => by
    have hl2 : ∀ q ∈ rs, q.length = tk.length := fun q hq => hl q (List.mem_cons_of_mem _ hq)
    have hr : r.length = tk.length := hl r (List.mem_cons_self ..)
    cases a with
    | nil => simp [okA]
    | cons x xs =>
      have ih1 := okA_iff rs tk xs hl2
      have ih2 := fun k => okA_iff rs (tk.set k true) xs (fun q hq => by rw [List.length_set]; exact hl2 q hq)
      constructor
      · rintro (⟨rfl, h⟩ | ⟨k, rfl, hk, h1, h2, h3⟩)
        · obtain ⟨g1, g2, g3⟩ := ih1.1 h
          refine ⟨by simp [g1], fun i hi => ?_, fun i j hij hj => ?_⟩
          · cases i with
            | zero => exact .inl rfl
            | succ i => exact g2 i (by simpa using hi)
          · cases i with
            | zero => intro _; rfl
            | succ i => cases j with
              | zero => omega
              | succ j => exact g3 i j (by omega) (by simpa using hj)
        · obtain ⟨g1, g2, g3⟩ := (ih2 k).1 h3
          have g2' : ∀ i, i < rs.length → xs.getD i 0 = -1 ∨ ∃ k' : Nat, xs.getD i 0 = k' ∧ k' ≠ k ∧ k' < tk.length ∧ 0 ≤ (rs.getD i []).getD k' 0 ∧ tk.getD k' false = false := fun i hi => by
            rcases g2 i hi with h | ⟨k', e1, e2, e3, e4⟩
            · exact .inl h
            · right
              rw [List.length_set] at e2
              rw [setB] at e4
              have hne : k' ≠ k := fun q => by
                rw [q, if_pos ⟨rfl, by omega⟩] at e4
                cases e4
              rw [if_neg (fun q => hne q.1.symm)] at e4
              exact ⟨k', e1, hne, e2, e3, e4⟩
          refine ⟨by simp [g1], fun i hi => ?_, fun i j hij hj => ?_⟩
          · cases i with
            | zero => exact .inr ⟨k, rfl, by omega, h1, h2⟩
            | succ i =>
              rcases g2' i (by simpa using hi) with h | ⟨k', e1, _, e2, e3, e4⟩
              · exact .inl h
              · exact .inr ⟨k', e1, e2, e3, e4⟩
          · cases j with
            | zero => omega
            | succ j =>
              cases i with
              | zero =>
                intro e
                have e : (k : Int) = xs.getD j 0 := e
                rcases g2' j (by simpa using hj) with h | ⟨k', e1, hne, _⟩
                · omega
                · exact absurd (by omega) hne
              | succ i => exact g3 i j (by omega) (by simpa using hj)
      · rintro ⟨g1, g2, g3⟩
        have g1' : xs.length = rs.length := by simpa using g1
        have t2 : ∀ i, i < rs.length → xs.getD i 0 = -1 ∨ ∃ k : Nat, xs.getD i 0 = k ∧ k < tk.length ∧ 0 ≤ (rs.getD i []).getD k 0 ∧ tk.getD k false = false := fun i hi => g2 (i + 1) (by simpa using hi)
        have t3 : ∀ i j, i < j → j < rs.length → xs.getD i 0 = xs.getD j 0 → xs.getD i 0 = -1 := fun i j hij hj => g3 (i + 1) (j + 1) (by omega) (by simpa using hj)
        rcases g2 0 (by simp) with h | ⟨k, e1, e2, e3, e4⟩
        · exact .inl ⟨h, ih1.2 ⟨g1', t2, t3⟩⟩
        · have e1 : x = (k : Int) := e1
          refine .inr ⟨k, e1, by omega, e3, e4, (ih2 k).2 ⟨g1', fun i hi => ?_, t3⟩⟩
          rcases t2 i hi with h | ⟨k', f1, f2, f3, f4⟩
          · exact .inl h
          · right
            have hne : k ≠ k' := fun q => by
              have := g3 0 (i + 1) (by omega) (by simpa using hi) (by show x = xs.getD i 0; rw [e1, f1, q])
              have this : x = -1 := this
              omega
            refine ⟨k', f1, by rw [List.length_set]; exact f2, f3, ?_⟩
            rw [setB, if_neg (fun q => hne q.1)]
            exact f4
/-- The value by the rows' numbers. -/
theorem val_sum (miss : Int) : ∀ (rs : List (List Int)) (a : List Int), a.length = rs.length → val miss rs a = sumN (fun x => if a.getD (x - 1) 0 = -1 then miss else (rs.getD (x - 1) []).getD (a.getD (x - 1) 0).toNat 0) rs.length
  | [], a, h => by
    rw [List.eq_nil_of_length_eq_zero h]
    rfl
  | r :: rs, [], h => by simp at h
  | r :: rs, x :: xs, h => by
    have ih := val_sum miss rs xs (by simpa using h)
    have shift : ∀ (f : Nat → Int) (n : Nat), sumN f (n + 1) = f 1 + sumN (fun k => f (k + 1)) n := fun f n => by
      induction n with
      | zero => show 0 + f 1 = f 1 + 0; omega
      | succ n ih => unfold sumN; rw [ih]; unfold sumN; omega
    show (if x = -1 then miss else r.getD x.toNat 0) + val miss rs xs = sumN _ (rs.length + 1)
    rw [shift, ih]
    congr 1
    refine sumN_congr _ fun k k1 k2 => ?_
    obtain ⟨j, rfl⟩ : ∃ j, k = j + 1 := ⟨k - 1, by omega⟩
    rfl
/-- The costs that the method sees: a column of its own for each row's miss. -/
def cst (rs : List (List Int)) (cols : Nat) (miss : Int) (tk : List Bool) (i k : Nat) : Int :=
  if cols ≤ k then (if k - cols = i then miss else 36028797018963968)
  else if tk.getD k false = true ∨ (rs.getD i []).getD k 0 < 0 then 36028797018963968 else (rs.getD i []).getD k 0
def cstC (rs : List (List Int)) (cols : Nat) (miss : Int) (tk : List Bool) (x k : Nat) : Int := cst rs cols miss tk (x - 1) (k - 1)
/-- What bounds the costs. -/
def okC (rs : List (List Int)) (miss : Int) (tk : List Bool) : Prop := (∀ r ∈ rs, r.length = tk.length ∧ ∀ k, r.getD k 0 ≤ 1099511627776) ∧ 0 ≤ miss ∧ miss ≤ 1099511627776 ∧ rs.length ≤ 5
theorem getD_mem {α : Type} {l : List α} {d : α} {i : Nat} (h : i < l.length) : l.getD i d ∈ l := by
  rw [List.getD_eq_getElem?_getD, List.getElem?_eq_getElem h]
  exact List.getElem_mem h
theorem cst_bd {rs : List (List Int)} {miss : Int} {tk : List Bool} (h : okC rs miss tk) {i : Nat} (hi : i < rs.length) (k : Nat) : 0 ≤ cst rs tk.length miss tk i k ∧ cst rs tk.length miss tk i k ≤ 36028797018963968 := by
  obtain ⟨h1, h2, h3, h4⟩ := h
  have := (h1 _ (getD_mem (d := []) hi)).2 k
  unfold cst
  split
  · split <;> omega
  · split
    · omega
    · rename_i c
      have c1 : ¬ (rs.getD i []).getD k 0 < 0 := fun q => c (.inr q)
      omega
/-- The method's sum is the least total of all assignments. -/
theorem least_asg {rs : List (List Int)} {miss : Int} {tk : List Bool} (h : okC rs miss tk) {u v : Nat → Int} {row : Nat → Nat} (I : Inv rs.length (tk.length + rs.length) (cstC rs tk.length miss tk) rs.length u v row) :
    (∃ a, (sumN (fun k => if row k = 0 then 0 else cstC rs tk.length miss tk (row k) k) (tk.length + rs.length), a) ∈ asg miss rs tk) ∧ ∀ p ∈ asg miss rs tk, sumN (fun k => if row k = 0 then 0 else cstC rs tk.length miss tk (row k) k) (tk.length + rs.length) ≤ p.1 := by
  have hlen : ∀ r ∈ rs, r.length = tk.length := fun r hr => (h.1 r hr).1
  have lower : ∀ p ∈ asg miss rs tk, sumN (fun k => if row k = 0 then 0 else cstC rs tk.length miss tk (row k) k) (tk.length + rs.length) ≤ p.1 := by
    rintro ⟨s, a⟩ hp
    obtain ⟨h1, rfl⟩ := (mem_asg miss rs tk s a).1 hp
    obtain ⟨g1, g2, g3⟩ := (okA_iff rs tk a hlen).1 h1
    have key := inv_least I (fun x => if a.getD (x - 1) 0 = -1 then tk.length + x else (a.getD (x - 1) 0).toNat + 1) (fun x x1 x2 => ?_) (fun x y x1 x2 y1 y2 e => ?_)
    · refine Int.le_trans key (Int.le_of_eq ?_)
      rw [val_sum miss rs a g1]
      refine sumN_congr _ fun x x1 x2 => ?_
      have hx := g2 (x - 1) (by omega)
      unfold cstC cst
      by_cases c : a.getD (x - 1) 0 = -1
      · rw [if_pos c, if_pos c, if_pos (by omega), if_pos (by omega)]
      · rw [if_neg c, if_neg c]
        rcases hx with h | ⟨k, e1, e2, e3, e4⟩
        · exact absurd h c
        · rw [e1, Int.toNat_natCast, Nat.add_sub_cancel, if_neg (by omega), if_neg]
          rintro (q | q)
          · rw [e4] at q; cases q
          · omega
    · show 1 ≤ (if a.getD (x - 1) 0 = -1 then tk.length + x else (a.getD (x - 1) 0).toNat + 1) ∧ (if a.getD (x - 1) 0 = -1 then tk.length + x else (a.getD (x - 1) 0).toNat + 1) ≤ tk.length + rs.length
      rcases g2 (x - 1) (by omega) with h | ⟨k, e1, e2, _⟩
      · rw [if_pos h]; omega
      · rw [if_neg (by omega), e1, Int.toNat_natCast]; omega
    · have e : (if a.getD (x - 1) 0 = -1 then tk.length + x else (a.getD (x - 1) 0).toNat + 1) = (if a.getD (y - 1) 0 = -1 then tk.length + y else (a.getD (y - 1) 0).toNat + 1) := e
      rcases g2 (x - 1) (by omega) with hx | ⟨k, e1, e2, _⟩ <;> rcases g2 (y - 1) (by omega) with hy | ⟨j, f1, f2, _⟩
      · rw [if_pos hx, if_pos hy] at e; omega
      · rw [if_pos hx, if_neg (by omega), f1, Int.toNat_natCast] at e; omega
      · rw [if_neg (by omega), if_pos hy, e1, Int.toNat_natCast] at e; omega
      · rw [if_neg (by omega), if_neg (by omega), e1, f1, Int.toNat_natCast, Int.toNat_natCast] at e
        by_cases c : x = y
        · exact c
        · exfalso
          rcases Nat.lt_or_gt_of_ne c with c | c
          · have := g3 (x - 1) (y - 1) (by omega) (by omega) (by rw [e1, f1]; omega)
            omega
          · have := g3 (y - 1) (x - 1) (by omega) (by omega) (by rw [e1, f1]; omega)
            omega
  refine ⟨?_, lower⟩
  -- the method's own assignment
  obtain ⟨s, s1, s2, s3⟩ := inv_some I
  have hbd := h
  obtain ⟨h1, h2, h3, h4⟩ := h
  -- all missed
  have allm : (val miss rs (List.replicate rs.length (-1)), List.replicate rs.length (-1)) ∈ asg miss rs tk := by
    rw [mem_asg]
    refine ⟨(okA_iff rs tk _ hlen).2 ⟨List.length_replicate, fun i hi => .inl ?_, fun i j hij hj _ => ?_⟩, rfl⟩
    · rw [List.getD_eq_getElem?_getD, List.getElem?_replicate, if_pos hi]; rfl
    · rw [List.getD_eq_getElem?_getD, List.getElem?_replicate, if_pos (by omega)]; rfl
  have hm := lower _ allm
  have hmv : val miss rs (List.replicate rs.length (-1)) ≤ 5 * 1099511627776 := by
    rw [val_sum miss rs _ List.length_replicate]
    have e : sumN (fun x => if (List.replicate rs.length (-1 : Int)).getD (x - 1) 0 = -1 then miss else (rs.getD (x - 1) []).getD ((List.replicate rs.length (-1 : Int)).getD (x - 1) 0).toNat 0) rs.length = sumN (fun _ => (1 : Int) * miss) rs.length := by
      refine sumN_congr _ fun x x1 x2 => ?_
      rw [if_pos, Int.one_mul]
      rw [List.getD_eq_getElem?_getD, List.getElem?_replicate, if_pos (by omega)]
      rfl
    rw [e, sumN_mul (c := miss) (f := fun _ => 1)]
    have ones : ∀ N : Nat, sumN (fun _ => (1 : Int)) N = N := fun N => by
      induction N with
      | zero => rfl
      | succ N ih => unfold sumN; rw [ih]; omega
    rw [ones]
    have : (rs.length : Int) * miss ≤ 5 * miss := Int.mul_le_mul_of_nonneg_right (by omega) h2
    omega
  have hm : sumN (fun x => cstC rs tk.length miss tk x (s x)) rs.length ≤ 5 * 1099511627776 := by rw [← s3]; exact Int.le_trans hm hmv
  have one_le : ∀ (f : Nat → Int) (n x : Nat), (∀ k, 1 ≤ k → k ≤ n → 0 ≤ f k) → 1 ≤ x → x ≤ n → f x ≤ sumN f n := fun f n => by
    induction n with
    | zero => intro x _ h1 h2; omega
    | succ n ih =>
      intro x hf x1 x2
      unfold sumN
      have hn : 0 ≤ f (n + 1) := hf (n + 1) (by omega) (by omega)
      by_cases e : x = n + 1
      · subst e
        have : 0 ≤ sumN f n := by
          have := sumN_le (f := fun _ => 0) (g := f) n (fun k k1 k2 => hf k k1 (by omega))
          rwa [sumN_zero] at this
        omega
      · have := ih x (fun k k1 k2 => hf k k1 (by omega)) x1 (by omega)
        omega
  have small : ∀ x, 1 ≤ x → x ≤ rs.length → cstC rs tk.length miss tk x (s x) < 36028797018963968 := fun x x1 x2 => by
    have h9 : cstC rs tk.length miss tk x (s x) ≤ _ := one_le (fun x => cstC rs tk.length miss tk x (s x)) rs.length x (fun k k1 k2 => (cst_bd hbd (by omega) _).1) x1 x2
    omega
  have shape : ∀ x, 1 ≤ x → x ≤ rs.length → (s x = tk.length + x ∧ cstC rs tk.length miss tk x (s x) = miss) ∨ (s x ≤ tk.length ∧ 0 ≤ (rs.getD (x - 1) []).getD (s x - 1) 0 ∧ tk.getD (s x - 1) false = false ∧ cstC rs tk.length miss tk x (s x) = (rs.getD (x - 1) []).getD (s x - 1) 0) := fun x x1 x2 => by
    have hs := small x x1 x2
    have hs1 := s1 x x1 x2
    unfold cstC cst at hs ⊢
    by_cases c : tk.length ≤ s x - 1
    · rw [if_pos c] at hs ⊢
      by_cases c2 : s x - 1 - tk.length = x - 1
      · rw [if_pos c2]
        exact .inl ⟨by omega, rfl⟩
      · rw [if_neg c2] at hs
        omega
    · rw [if_neg c] at hs ⊢
      by_cases c2 : tk.getD (s x - 1) false = true ∨ (rs.getD (x - 1) []).getD (s x - 1) 0 < 0
      · rw [if_pos c2] at hs
        omega
      · rw [if_neg c2]
        refine .inr ⟨by omega, ?_, ?_, rfl⟩
        · have : ¬ (rs.getD (x - 1) []).getD (s x - 1) 0 < 0 := fun q => c2 (.inr q)
          omega
        · cases q : tk.getD (s x - 1) false with
          | false => rfl
          | true => exact absurd (.inl q) c2
  have ag : ∀ i, i < rs.length → ((List.range rs.length).map fun i => if s (i + 1) = tk.length + (i + 1) then (-1 : Int) else ((s (i + 1) - 1 : Nat) : Int)).getD i 0 = if s (i + 1) = tk.length + (i + 1) then (-1 : Int) else ((s (i + 1) - 1 : Nat) : Int) := fun i hi => by
    rw [List.getD_eq_getElem?_getD, List.getElem?_map, List.getElem?_range hi]
    rfl
  have al : ((List.range rs.length).map fun i => if s (i + 1) = tk.length + (i + 1) then (-1 : Int) else ((s (i + 1) - 1 : Nat) : Int)).length = rs.length := by simp
  refine ⟨(List.range rs.length).map fun i => if s (i + 1) = tk.length + (i + 1) then (-1 : Int) else ((s (i + 1) - 1 : Nat) : Int), ?_⟩
  generalize (List.range rs.length).map (fun i => if s (i + 1) = tk.length + (i + 1) then (-1 : Int) else ((s (i + 1) - 1 : Nat) : Int)) = a at *
  rw [mem_asg]
  refine ⟨(okA_iff rs tk a hlen).2 ⟨al, fun i hi => ?_, fun i j hij hj e => ?_⟩, ?_⟩
  · rw [ag i hi]
    rcases shape (i + 1) (by omega) (by omega) with ⟨g, _⟩ | ⟨g1, g2, g3, _⟩
    · rw [if_pos g]; exact .inl rfl
    · rw [if_neg (by omega)]
      have := s1 (i + 1) (by omega) (by omega)
      exact .inr ⟨s (i + 1) - 1, rfl, by omega, g2, g3⟩
  · rw [ag i (by omega)] at e ⊢
    rw [ag j hj] at e
    by_cases c : s (i + 1) = tk.length + (i + 1)
    · rw [if_pos c]
    · exfalso
      rw [if_neg c] at e
      have i1 := s1 (i + 1) (by omega) (by omega)
      have j1 := s1 (j + 1) (by omega) (by omega)
      by_cases c2 : s (j + 1) = tk.length + (j + 1)
      · rw [if_pos c2] at e; omega
      · rw [if_neg c2] at e
        have := s2 (i + 1) (j + 1) (by omega) (by omega) (by omega) (by omega) (by omega)
        omega
  · rw [s3, val_sum miss rs a al]
    refine sumN_congr _ fun x x1 x2 => ?_
    have hx := ag (x - 1) (by omega)
    rw [show x - 1 + 1 = x by omega] at hx
    rw [hx]
    rcases shape x x1 x2 with ⟨g, g2⟩ | ⟨g1, _, _, g2⟩
    · rw [if_pos g, if_pos rfl, g2]
    · rw [if_neg (by omega), if_neg (by omega), Int.toNat_natCast, g2]
end F
end Go.Proofs.Ytjffboggpofbfaa
