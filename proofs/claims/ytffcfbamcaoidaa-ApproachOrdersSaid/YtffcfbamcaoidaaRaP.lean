/- The search with pruning finds the first order that is good, in the order of all orders. No program in sight. -/
import Derived.Test.YtffcfbamcaoidaaGl
namespace Go.Proofs.Ytffcfbamcaoidaa
namespace F
/-- The times of the arrivals in this order. -/
def tmS (l : List It) (g : List Int) (s : List Int × List Int) (i : Int) : List Int × List Int := (s.1 ++ [i], s.2 ++ [nextF l g i s.1 s.2 (rdy l i)])
def tmO (l : List It) (g : List Int) (o : List Int) : List Int := (o.foldl (tmS l g) ([], [])).2
def gdB (l : List It) (g : List Int) (o : List Int) : Bool := ((tmO l g o).zip o).all fun p => decide (p.1 ≤ slot l p.2)
/-- One level of the search, from arrival i on. -/
def sgo (l : List It) (g : List Int) (rec : List Int → List Int → List Bool → Option (List Int × List Bool)) (o ts : List Int) (us : List Bool) : Nat → Int → Option (List Int × List Bool)
  | 0, _ => none
  | m + 1, i => if us.getD i.toNat false || decide (slot l i < nextF l g i o ts (rdy l i)) then sgo l g rec o ts us m (i + 1)
      else (match rec (o ++ [i]) (ts ++ [nextF l g i o ts (rdy l i)]) (us.set i.toNat true) with
        | some r => some r
        | none => sgo l g rec o ts us m (i + 1))
def sr (l : List It) (g : List Int) : Nat → List Int → List Int → List Bool → Option (List Int × List Bool)
  | 0, o, _, us => some (o, us)
  | d + 1, o, ts, us => sgo l g (sr l g d) o ts us l.length 0
/-- All orders of n that begin so, in their order. -/
def perms (n : Nat) : Nat → List Int → List (List Int)
  | 0, o => [o]
  | d + 1, o => (List.range n).flatMap fun i : Nat => if o.contains (i : Int) then [] else perms n d (o ++ [(i : Int)])
end F
theorem tmO_fst (l : List F.It) (g : List Int) : ∀ (o : List Int) (s : List Int × List Int), (o.foldl (F.tmS l g) s).1 = s.1 ++ o
  | [], s => by simp
  | i :: o, s => by
    rw [List.foldl_cons, tmO_fst l g o]
    simp [F.tmS]
theorem tmO_snoc (l : List F.It) (g : List Int) (o : List Int) (i : Int) : F.tmO l g (o ++ [i]) = F.tmO l g o ++ [F.nextF l g i o (F.tmO l g o) (F.rdy l i)] := by
  unfold F.tmO
  rw [List.foldl_append, List.foldl_cons, List.foldl_nil, F.tmS, tmO_fst]
  simp
theorem tmO_len (l : List F.It) (g : List Int) (o : List Int) : (F.tmO l g o).length = o.length := by
  have key : ∀ (o : List Int) (s : List Int × List Int), ((o.foldl (F.tmS l g) s).2).length = s.2.length + o.length := by
    intro o
    induction o with
    | nil => intro s; simp
    | cons i o ih =>
      intro s
      rw [List.foldl_cons, ih]
      simp [F.tmS]
      omega
  have := key o ([], [])
  simpa [F.tmO] using this
theorem gdB_snoc (l : List F.It) (g : List Int) (o : List Int) (i : Int) : F.gdB l g (o ++ [i]) = (F.gdB l g o && decide (F.nextF l g i o (F.tmO l g o) (F.rdy l i) ≤ F.slot l i)) := by
  unfold F.gdB
  rw [tmO_snoc, List.zip_append (tmO_len l g o), List.all_append]
  simp
theorem gdB_pre (l : List F.It) (g : List Int) (o : List Int) : ∀ r : List Int, F.gdB l g (o ++ r) = true → F.gdB l g o = true := by
  intro r
  induction r generalizing o with
  | nil => intro h; simpa using h
  | cons i r ih =>
    intro h
    have := ih (o ++ [i]) (by simpa using h)
    rw [gdB_snoc, Bool.and_eq_true] at this
    exact this.1
theorem perms_pre (n : Nat) : ∀ (d : Nat) (o x : List Int), x ∈ F.perms n d o → ∃ r, x = o ++ r
  | 0, o, x, h => by
    rw [F.perms, List.mem_singleton] at h
    exact ⟨[], by simp [h]⟩
  | d + 1, o, x, h => by
    rw [F.perms] at h
    obtain ⟨i, _, hx⟩ := List.mem_flatMap.1 h
    split at hx
    · cases hx
    · obtain ⟨r, rfl⟩ := perms_pre n d _ x hx
      exact ⟨(i : Int) :: r, by simp⟩
def F.marks (n : Nat) (o : List Int) (us : List Bool) : Prop := us.length = n ∧ ∀ i : Nat, i < n → us.getD i false = o.contains (i : Int)
theorem marks_snoc {n : Nat} {o : List Int} {us : List Bool} (h : F.marks n o us) {i : Nat} (hi : i < n) : F.marks n (o ++ [(i : Int)]) (us.set i true) := by
  obtain ⟨h1, h2⟩ := h
  refine ⟨by rw [List.length_set, h1], fun j hj => ?_⟩
  by_cases e : j = i
  · subst e
    rw [List.getD, List.getElem?_set_self (by omega)]
    simp
  · rw [List.getD, List.getElem?_set_ne (Ne.symm e)]
    have := h2 j hj
    rw [List.getD] at this
    rw [this]
    have e2 : ¬ ((j : Int) = (i : Int)) := by omega
    simp [List.contains_eq_any_beq, e2]
theorem sr_find (l : List F.It) (g : List Int) : ∀ (d : Nat) (o : List Int) (us : List Bool), F.marks l.length o us → F.gdB l g o = true → (F.sr l g d o (F.tmO l g o) us).map (·.1) = (F.perms l.length d o).find? (F.gdB l g)
  | 0, o, us, _, hg => by
    rw [F.sr, F.perms]
    simp [hg]
  | d + 1, o, us, hm, hg => by
    have go : ∀ (m i : Nat), i + m = l.length → (F.sgo l g (F.sr l g d) o (F.tmO l g o) us m i).map (·.1) = ((List.range' i m).flatMap fun i : Nat => if o.contains (i : Int) then [] else F.perms l.length d (o ++ [(i : Int)])).find? (F.gdB l g) := by
      intro m
      induction m with
      | zero => intro i _; rfl
      | succ m ih =>
        intro i hi
        have nx := ih (i + 1) (by omega)
        rw [show ((i + 1 : Nat) : Int) = (i : Int) + 1 by omega] at nx
        rw [List.range'_succ, List.flatMap_cons, List.find?_append, F.sgo]
        have hu := hm.2 i (by omega)
        rw [show ((i : Int)).toNat = i by omega, hu]
        cases hc : o.contains (i : Int) with
        | true =>
          simp only [Bool.true_or, if_true, List.find?_nil, Option.none_or]
          exact nx
        | false =>
          simp only [Bool.false_or, Bool.false_eq_true, if_false]
          by_cases hl : F.slot l i < F.nextF l g i o (F.tmO l g o) (F.rdy l i)
          · have hn : (F.perms l.length d (o ++ [(i : Int)])).find? (F.gdB l g) = none := by
              rw [List.find?_eq_none]
              intro x hx hgx
              obtain ⟨r, rfl⟩ := perms_pre _ _ _ x hx
              have := gdB_pre l g _ r hgx
              rw [gdB_snoc, Bool.and_eq_true, decide_eq_true_eq] at this
              omega
            rw [if_pos (by simpa using hl), hn, Option.none_or]
            exact nx
          · have hg' : F.gdB l g (o ++ [(i : Int)]) = true := by
              rw [gdB_snoc, hg, Bool.true_and, decide_eq_true_eq]
              omega
            have hr := sr_find l g d (o ++ [(i : Int)]) (us.set i true) (marks_snoc hm (by omega)) hg'
            rw [tmO_snoc] at hr
            rw [if_neg (by simpa using hl), ← hr]
            cases hs : F.sr l g d (o ++ [(i : Int)]) (F.tmO l g o ++ [F.nextF l g i o (F.tmO l g o) (F.rdy l i)]) (us.set i true) with
            | some r => rfl
            | none =>
              simp only [Option.map_none, Option.none_or]
              exact nx
    rw [F.sr, F.perms, List.range_eq_range']
    exact go l.length 0 (by omega)
/-- The times by the list in this order are the times of the order. -/
def F.at7 (l : List F.It) (o : List Int) : List F.It := o.map fun i => l.getD i.toNat ([], 0, 0, 0)
theorem at7_wk (l : List F.It) (o : List Int) (k : Nat) (hk : k < o.length) : F.wk (F.at7 l o) k = F.wk l (o.getD k 0) ∧ F.rdy (F.at7 l o) k = F.rdy l (o.getD k 0) ∧ F.slot (F.at7 l o) k = F.slot l (o.getD k 0) := by
  have e : (F.at7 l o).getD k ([], 0, 0, 0) = l.getD (o.getD k 0).toNat ([], 0, 0, 0) := by
    unfold F.at7
    simp only [List.getD, List.getElem?_map, List.getElem?_eq_getElem hk, Option.map_some, Option.getD_some]
  unfold F.wk F.rdy F.slot
  simp only [Int.toNat_natCast, e, and_self]
theorem nextF_at7 (l : List F.It) (g : List Int) (o : List Int) (i : Nat) (hi : i < o.length) : ∀ (m k : Nat) (ts : List Int) (t : Int), k + m ≤ i → F.nextF (F.at7 l o) g i ((List.range' k m).map Int.ofNat) ts t = F.nextF l g (o.getD i 0) ((o.drop k).take m) ts t
  | 0, k, ts, t, _ => by simp [F.nextF]
  | m + 1, k, [], t, _ => by
    rw [List.range'_succ, List.map_cons]
    have e : (o.drop k).take (m + 1) = o.getD k 0 :: (o.drop (k + 1)).take m := by
      rw [List.drop_eq_getElem_cons (by omega), List.take_succ_cons, List.getD, List.getElem?_eq_getElem (by omega)]
      rfl
    rw [e]
    rfl
  | m + 1, k, s :: ts, t, h => by
    rw [List.range'_succ, List.map_cons]
    have e : (o.drop k).take (m + 1) = o.getD k 0 :: (o.drop (k + 1)).take m := by
      rw [List.drop_eq_getElem_cons (by omega), List.take_succ_cons, List.getD, List.getElem?_eq_getElem (by omega)]
      rfl
    rw [e, F.nextF, F.nextF]
    have h1 := (at7_wk l o k (by omega)).1
    have h2 := (at7_wk l o i hi).1
    rw [show (Int.ofNat k) = ((k : Nat) : Int) from rfl, h1, h2]
    exact nextF_at7 l g o i hi m (k + 1) ts _ (by omega)
theorem tms_at7 (l : List F.It) (g : List Int) (o : List Int) : ∀ k, k ≤ o.length → F.tms (F.at7 l o) g k = F.tmO l g (o.take k)
  | 0, _ => rfl
  | k + 1, hk => by
    have ih := tms_at7 l g o k (by omega)
    have ht : o.take (k + 1) = o.take k ++ [o.getD k 0] := by
      rw [List.take_succ_eq_append_getElem (by omega), List.getD, List.getElem?_eq_getElem (by omega)]
      rfl
    rw [F.tms, ih, ht, tmO_snoc]
    have h1 := (at7_wk l o k (by omega)).2.1
    have h2 := nextF_at7 l g o k (by omega) k 0 (F.tmO l g (o.take k)) (F.rdy (F.at7 l o) k) (by omega)
    have h3 : F.idx k = (List.range' 0 k).map Int.ofNat := by unfold F.idx; rw [List.range_eq_range']
    rw [h3, h2, h1]
    simp
end Go.Proofs.Ytffcfbamcaoidaa
