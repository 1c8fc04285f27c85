/- A region that draws its order: the first operations in the text's order, the last ones (each waits for all before it) by hand. -/
import Derived.Test.YtiolfkmkbccndaaGreatDoorBd39
namespace Go.Proofs.YtiolfkmkbccndaaGreatDoor.Sym
open Go.RowKit

section
variable {cod : Nat → Codec}
def acyc (ops : Array Oper) : Bool := (List.range ops.size).all fun j => match ops[j]? with
  | some o => o.after.all fun e => !Region.binds .any e || decide (e.on < j)
  | none => true
/-- Each of the last waits for all before it. -/
def lastAll (ops : Array Oper) (m : Nat) : Bool := (List.range ops.size).all fun j => decide (j < m) || (List.range j).all fun i => (depL ops i (j + 1)).getD j false
def fullA (n j : Nat) : Array Bool := ((List.range n).map fun i => decide (i < j)).toArray
theorem fullA_size (n j : Nat) : (fullA n j).size = n := by simp [fullA]
theorem fullA_get (n j i : Nat) (d : Bool) : (fullA n j).getD i d = if i < n then decide (i < j) else d := by
  unfold fullA
  rw [Array.getD_eq_getD_getElem?, List.getElem?_toArray, List.getElem?_map]
  by_cases h : i < n
  · rw [List.getElem?_range h, if_pos h]
    rfl
  · rw [List.getElem?_eq_none (by simpa using h), if_neg h]
    rfl
theorem acyc_spec {ops : Array Oper} (h : acyc ops = true) {j : Nat} {o : Oper} (ho : ops[j]? = some o) : ∀ e ∈ o.after, Region.binds .any e = true → e.on < j := fun e he hb => by
  have hl := (Array.getElem?_eq_some_iff.1 ho).1
  have := List.all_eq_true.1 h j (List.mem_range.2 hl)
  simp only [ho] at this
  have := Array.all_eq_true'.1 this e he
  simpa [hb] using this
theorem lastAll_spec {ops : Array Oper} {m : Nat} (h : lastAll ops m = true) {i j : Nat} (hm : m ≤ j) (hj : j < ops.size) (hij : i < j) : (depL ops i (j + 1)).getD j false = true := by
  have := List.all_eq_true.1 h j (List.mem_range.2 hj)
  simp only [Bool.or_eq_true, decide_eq_true_eq] at this
  rcases this with h | h
  · omega
  · exact List.all_eq_true.1 h i (List.mem_range.2 hij)
theorem getD_tf {l : Array Bool} {i : Nat} (hi : i < l.size) (a b : Bool) : l.getD i a = l.getD i b := by
  rw [Array.getD_eq_getD_getElem?, Array.getD_eq_getD_getElem?, Array.getElem?_eq_getElem hi]
  rfl
/-- What is not listed: the first of it is ready. -/
theorem ready_some {ops : Array Oper} (hac : acyc ops = true) {l : Array Bool} (hs : l.size = ops.size) : ∀ i, i < ops.size → l.getD i true = false → Region.ready .any ops l ≠ [] := by
  intro i
  induction i using Nat.strongRecOn with
  | _ i ih =>
    intro hi hf
    obtain ⟨o, ho⟩ : ∃ o, ops[i]? = some o := ⟨_, Array.getElem?_eq_getElem hi⟩
    by_cases c : ∀ e ∈ o.after, Region.binds .any e = true → l.getD e.on false = true
    · intro h0
      have : i ∈ Region.ready .any ops l := mem_ready.2 ⟨hf, o, ho, c⟩
      rw [h0] at this
      cases this
    · obtain ⟨e, he⟩ := Classical.not_forall.1 c
      obtain ⟨he, hb⟩ := Classical.not_imp.1 he
      obtain ⟨hb, hx⟩ := Classical.not_imp.1 hb
      have hlt := acyc_spec hac ho e he hb
      refine ih e.on hlt (by omega) ?_
      rw [getD_tf (by omega) true false]
      simpa using hx
theorem any_suf {P : Program} {b0 : Base} {ops : Array Oper} {m : Nat} {Q' : Exit → Act → World → Prop} (hac : acyc ops = true) (hD : lastAll ops m = true) : ∀ (l : List Oper) (j e : Nat) (st st' : St cod) (a : Act) (w : World), ops.toList.drop j = l → m ≤ j → ChainW P b0 l st st' → Rel st b0 a w → (∀ a' w', Rel st' b0 a' w' → Q' .normal a' w') → wpAny P .any ops Q' (l.length + e) (fullA ops.size j) a w
  | [], j, e, st, st', a, w, hl, hm, h, hR, hQ => by
    have h : st' = st := h
    subst h
    have hj : ops.size ≤ j := by
      have := congrArg List.length hl
      simp at this
      omega
    have h0 : Region.ready .any ops (fullA ops.size j) = [] := by
      cases hr : Region.ready .any ops (fullA ops.size j) with
      | nil => rfl
      | cons x t =>
        have hx : x ∈ Region.ready .any ops (fullA ops.size j) := by rw [hr]; exact List.mem_cons_self ..
        obtain ⟨h1, o, ho, _⟩ := mem_ready.1 hx
        have := (Array.getElem?_eq_some_iff.1 ho).1
        rw [fullA_get, if_pos this] at h1
        simp at h1
        omega
    cases e with
    | zero => exact ⟨h0, hQ a w hR⟩
    | succ e => exact ⟨fun _ => hQ a w hR, fun i hi => by rw [h0] at hi; cases hi⟩
  | o :: l, j, e, st, st', a, w, hl, hm, h, hR, hQ => by
    obtain ⟨hg, s, h1, h2⟩ := h
    have hj : j < ops.size := by
      have := congrArg List.length hl
      simp at this
      omega
    have ho : ops[j]? = some o := by
      have := congrArg (fun l => l[0]?) hl
      simp only [List.getElem?_drop, List.getElem?_cons_zero, Nat.add_zero] at this
      rw [← Array.getElem?_toList]
      exact this
    have hl' : ops.toList.drop (j + 1) = l := by
      have := congrArg List.tail hl
      simpa using this
    have hclosed : Closed ops (fullA ops.size j) := fun i o ho hli e he hb => by
      have hi := (Array.getElem?_eq_some_iff.1 ho).1
      have hlt := acyc_spec hac ho e he hb
      rw [fullA_get, if_pos hi] at hli
      rw [fullA_get, if_pos (by omega)]
      simp only [decide_eq_true_eq] at hli ⊢
      omega
    have hjf : (fullA ops.size j).getD j false = false := by
      rw [fullA_get, if_pos hj]
      simp
    show wpAny P .any ops Q' ((l.length + 1) + e) _ a w
    rw [show (l.length + 1) + e = (l.length + e) + 1 by omega]
    refine ⟨fun h0 => absurd h0 (ready_some hac (fullA_size _ _) j hj ?_), fun i hi => ?_⟩
    · rw [getD_tf (by rw [fullA_size]; exact hj) true false]
      exact hjf
    · obtain ⟨i1, oi, hoi, _⟩ := mem_ready.1 hi
      have his := (Array.getElem?_eq_some_iff.1 hoi).1
      rw [fullA_get, if_pos his] at i1
      simp only [decide_eq_false_iff_not] at i1
      have hij : i = j := by
        rcases Nat.lt_or_ge j i with c | c
        · have := lastAll_spec hD (by omega) his c
          rw [ready_dep hclosed hjf hi] at this
          cases this
        · omega
      subst hij
      unfold wpOp
      rw [ho]
      simp only
      rw [if_pos (by simp [Region.wanted, hg])]
      refine .inl (h1 a w _ _ hR fun a' w' hR' => ?_)
      have e1 : (fullA ops.size i).setIfInBounds i true = fullA ops.size (i + 1) := by
        refine Array.ext (by simp [fullA_size]) fun k k1 k2 => ?_
        have k3 : k < ops.size := by rw [fullA_size] at k2; exact k2
        have g1 : ∀ (A : Array Bool) (hk : k < A.size), A[k] = A.getD k false := fun A hk => by rw [Array.getD_eq_getD_getElem?, Array.getElem?_eq_getElem hk]; rfl
        rw [g1 _ k1, g1 _ k2, fullA_get, if_pos k3]
        by_cases c : i = k
        · subst c
          have : ((fullA ops.size i).setIfInBounds i true).getD i false = true := by
            rw [Array.getD_eq_getD_getElem?, Array.getElem?_setIfInBounds_self_of_lt (by rw [fullA_size]; exact k3)]
            rfl
          rw [this]
          simp
        · rw [getD_set_ne false c, fullA_get, if_pos k3, decide_eq_decide]
          omega
      rw [e1]
      exact any_suf hac hD l (i + 1) e s st' a' w' hl' (by omega) h2 hR' hQ
def preA (ops : Array Oper) (m : Nat) : Array Oper := (ops.toList.take m).toArray
theorem preA_get {ops : Array Oper} {m i : Nat} (hi : i < m) : (preA ops m)[i]? = ops[i]? := by
  unfold preA
  rw [List.getElem?_toArray, List.getElem?_take, if_pos hi, Array.getElem?_toList]
theorem preA_size {ops : Array Oper} {m : Nat} (hm : m ≤ ops.size) : (preA ops m).size = m := by
  unfold preA
  simp
  omega
theorem any_pre {cfg : Cfg cod} (hS : CfgOk cfg) {b0 : Base} {ops : Array Oper} {m k : Nat} {Q' : Exit → Act → World → Prop} (hm : m ≤ ops.size) (hac : acyc ops = true) (hD : lastAll ops m = true) (hg : ∀ o ∈ ops.toList, o.guard = none) {I Q : St cod → Prop}
    (hI : ∀ st, I st → FrC cfg st.tmps st.heap ∧ ∀ k, Turn cfg st.heap k → b0.n ≤ k) (hQ : ∀ e st a w, Q st → Rel st b0 a w → wpAny cfg.P .any ops Q' (k + e) (fullA ops.size m) a w) :
    ∀ (n : Nat) (l1 l2 : Array Bool) (st : St cod) (a : Act) (w : World), l1.size = m → l2.size = ops.size → (∀ i, i < m → l1.getD i false = l2.getD i false) → (∀ i, m ≤ i → l2.getD i false = false) → Closed ops l2 → absAny cfg (preA ops m) I Q n l1 st → Rel st b0 a w → wpAny cfg.P .any ops Q' (n + k) l2 a w := by
  intro n
  have hac' : acyc (preA ops m) = true := by
    refine List.all_eq_true.2 fun j hj => ?_
    rw [List.mem_range, preA_size hm] at hj
    rw [preA_get hj]
    split
    · rename_i o ho
      refine Array.all_eq_true'.2 fun e he => ?_
      cases hb : Region.binds .any e with
      | false => rfl
      | true => simpa using acyc_spec hac ho e he hb
    · rfl
  have low : ∀ (l1 l2 : Array Bool), l1.size = m → l2.size = ops.size → (∀ i, i < m → l1.getD i false = l2.getD i false) → ∀ i, i ∈ Region.ready .any (preA ops m) l1 ↔ i < m ∧ i ∈ Region.ready .any ops l2 := fun l1 l2 e1 e2 e3 i => by
    have key : ∀ (hi : i < m) (o : Oper), ops[i]? = some o → ((∀ e ∈ o.after, Region.binds .any e = true → l1.getD e.on false = true) ↔ ∀ e ∈ o.after, Region.binds .any e = true → l2.getD e.on false = true) := fun hi o ho => by
      constructor
      · intro h e he hb
        rw [← e3 e.on (by have := acyc_spec hac ho e he hb; omega)]
        exact h e he hb
      · intro h e he hb
        rw [e3 e.on (by have := acyc_spec hac ho e he hb; omega)]
        exact h e he hb
    constructor
    · intro h
      obtain ⟨h1, o, h2, h3⟩ := mem_ready.1 h
      have hi := (Array.getElem?_eq_some_iff.1 h2).1
      rw [preA_size hm] at hi
      rw [preA_get hi] at h2
      refine ⟨hi, mem_ready.2 ⟨?_, o, h2, (key hi o h2).1 h3⟩⟩
      rw [getD_tf (by omega) true false, ← e3 i hi, getD_tf (by omega) false true]
      exact h1
    · rintro ⟨hi, h⟩
      obtain ⟨h1, o, h2, h3⟩ := mem_ready.1 h
      refine mem_ready.2 ⟨?_, o, by rw [preA_get hi]; exact h2, (key hi o h2).2 h3⟩
      rw [getD_tf (by omega) true false, e3 i hi, getD_tf (by omega) false true]
      exact h1
  have full : ∀ (l1 l2 : Array Bool), l2.size = ops.size → (∀ i, m ≤ i → l2.getD i false = false) → (∀ i, i < m → l2.getD i false = true) → l2 = fullA ops.size m := fun l1 l2 e2 e4 c => by
    refine Array.ext (by rw [e2, fullA_size]) fun k k1 k2 => ?_
    have g1 : ∀ (A : Array Bool) (hk : k < A.size), A[k] = A.getD k false := fun A hk => by rw [Array.getD_eq_getD_getElem?, Array.getElem?_eq_getElem hk]; rfl
    rw [g1 _ k1, g1 _ k2, fullA_get, if_pos (by omega)]
    rcases Nat.lt_or_ge k m with h | h
    · rw [c k h]; simp [h]
    · rw [e4 k h]; simp; omega
  have noneR : ∀ (l1 : Array Bool), l1.size = m → (∀ i, i < m → l1.getD i false = true) → Region.ready .any (preA ops m) l1 = [] := fun l1 e1 c => by
    cases hr : Region.ready .any (preA ops m) l1 with
    | nil => rfl
    | cons x t =>
      have hx : x ∈ Region.ready .any (preA ops m) l1 := by rw [hr]; exact List.mem_cons_self ..
      obtain ⟨h1, o, ho, _⟩ := mem_ready.1 hx
      have hl := (Array.getElem?_eq_some_iff.1 ho).1
      rw [preA_size hm] at hl
      rw [getD_tf (by omega) true false, c x hl] at h1
      cases h1
  have notFull : ∀ (l1 : Array Bool), l1.size = m → ¬ (∀ i, i < m → l1.getD i false = true) → Region.ready .any (preA ops m) l1 ≠ [] := fun l1 e1 c => by
    obtain ⟨i, hi⟩ := Classical.not_forall.1 c
    obtain ⟨hi, hf⟩ := Classical.not_imp.1 hi
    refine ready_some hac' (by rw [e1, preA_size hm]) i (by rw [preA_size hm]; exact hi) ?_
    rw [getD_tf (by omega) true false]
    simpa using hf
  induction n with
  | zero =>
    intro l1 l2 st a w e1 e2 e3 e4 hc h hR
    by_cases c : ∀ i, i < m → l1.getD i false = true
    · rw [full l1 l2 e2 e4 (fun i hi => by rw [← e3 i hi]; exact c i hi), Nat.zero_add]
      exact hQ 0 st a w h.2.2 hR
    · exact absurd h.2.1 (notFull l1 e1 c)
  | succ n ih =>
    intro l1 l2 st a w e1 e2 e3 e4 hc h hR
    by_cases c : ∀ i, i < m → l1.getD i false = true
    · rw [full l1 l2 e2 e4 (fun i hi => by rw [← e3 i hi]; exact c i hi), Nat.add_comm]
      exact hQ (n + 1) st a w (h.2.1 (noneR l1 e1 c)) hR
    · have hne := notFull l1 e1 c
      rw [show n + 1 + k = (n + k) + 1 by omega]
      refine ⟨fun h0 => ?_, fun i hi => ?_⟩
      · exfalso
        refine hne ?_
        cases hr : Region.ready .any (preA ops m) l1 with
        | nil => rfl
        | cons x t =>
          have hx : x ∈ Region.ready .any (preA ops m) l1 := by rw [hr]; exact List.mem_cons_self ..
          have := ((low l1 l2 e1 e2 e3 x).1 hx).2
          rw [h0] at this
          cases this
      · obtain ⟨i1, o, ho, _⟩ := mem_ready.1 hi
        have his := (Array.getElem?_eq_some_iff.1 ho).1
        have him : i < m := by
          rcases Nat.lt_or_ge i m with q | q
          · exact q
          · exfalso
            obtain ⟨x, hx⟩ := Classical.not_forall.1 c
            obtain ⟨hx, hf⟩ := Classical.not_imp.1 hx
            have hxf : l2.getD x false = false := by rw [← e3 x hx]; simpa using hf
            have := lastAll_spec hD q his (i := x) (by omega)
            rw [ready_dep hc hxf hi] at this
            cases this
        have hi' := (low l1 l2 e1 e2 e3 i).2 ⟨him, hi⟩
        obtain ⟨st', h1, h2⟩ := h.2.2 i hi'
        have hgo : o.guard = none := hg o (by rw [← Array.getElem?_toList] at ho; exact List.mem_of_getElem? ho)
        unfold absOp at h1
        rw [preA_get him, ho] at h1
        have h1' : absStep cfg ops o st st' := by
          simp only at h1
          unfold absStep at h1 ⊢
          rw [hgo] at h1 ⊢
          exact h1
        unfold wpOp
        rw [ho]
        have hst := hI st h.1
        refine abs_wp hS hst.1 hst.2 h1' hR fun a' w' hR' => ih _ _ st' a' w' (by simpa using e1) (by simpa using e2) (fun x hx => ?_) (fun x hx => ?_) (closed_set hc hi) h2 hR'
        · by_cases q : i = x
          · subst q
            rw [Array.getD_eq_getD_getElem?, Array.getD_eq_getD_getElem?, Array.getElem?_setIfInBounds_self_of_lt (by omega), Array.getElem?_setIfInBounds_self_of_lt (by omega)]
          · rw [getD_set_ne false q, getD_set_ne false q]
            exact e3 x hx
        · rw [getD_set_ne false (by omega)]
          exact e4 x hx
/-! ### the first operations, with places kept; a literal of one row may stand among them -/
def isBuildS (o : Oper) : Bool := match o.op with | .buildSlice _ _ _ => true | _ => false
def okN (cfg : Cfg cod) (o : Oper) : Bool := !isNewP o || (o.dst.bind cfg.place).isSome || isBuildS o
theorem fillS_srcs {pl : Nat → Option (Nat × Nat)} {tm : List SV} {H : Heap cod} {z cs : List Cell} {ps : List (Nat × Operand)} (h : fillS pl z (ps.map fun p => (p.1, evS tm p.2)) = some cs) (hz : z.flatMap Cell.hs = []) : ∀ k ∈ cs.flatMap Cell.hs, srcs tm H k := fun k hk => by
  rcases fillS_hs _ _ _ h k hk with h1 | ⟨p, hp, h1⟩
  · rw [hz] at h1; cases h1
  · obtain ⟨q, _, rfl⟩ := List.mem_map.1 hp
    refine .inl (evS_srcs (x := q.2) ?_)
    simp only at h1
    cases hv : evS tm q.2 with
    | c x => rw [hv] at h1; simpa [SV.cells, SV.hs] using h1
    | agg cs => rw [hv] at h1; simpa [SV.cells, SV.hs] using h1
    | tup vs => rw [hv] at h1; simp [SV.cells, Cell.hs] at h1
theorem build_srcs {cfg : Cfg cod} {tm : List SV} {H : Heap cod} {o : Oper} {out : Out cod} (hb : isBuildS o = true) (h : (opS cfg tm H o).gives out) :
    ∃ ob : HObj cod, out.H = H ++ [ob] ∧ ob.isHold = false ∧ (∀ k ∈ ob.hs, srcs tm H k) ∧ ∀ k ∈ out.v.hs, k = H.length := by
  unfold isBuildS at hb
  split at hb
  · rename_i t n parts ho
    unfold opS at h
    rw [ho] at h
    simp only at h
    split at h
    · split at h
      · split at h
        · split at h
          · unfold newS at h
            rw [T.gives_ret] at h
            subst h
            exact ⟨_, rfl, rfl, (fun k hk => by cases hk), fun k hk => by simpa [SV.hs, Cell.hs] using hk⟩
          · exact h.elim
        · exact h.elim
      · rename_i cs hf _
        split at h
        · unfold newS at h
          rw [T.gives_ret] at h
          subst h
          refine ⟨_, rfl, rfl, fun k hk => ?_, fun k hk => by simpa [SV.hs, Cell.hs] using hk⟩
          refine fillS_srcs hf ?_ k hk
          rw [List.flatMap_replicate]
          simp [Cell.hs]
        · exact h.elim
      · exact h.elim
    · exact h.elim
  · cases hb
theorem fr_stepN {cfg : Cfg cod} {ops : Array Oper} {o : Oper} {st st' : St cod} (hg : o.guard = none) (hk : okQ o = true) (hk3 : tame cfg o = true) (hp : okN cfg o = true) (hF : FrC cfg st.tmps st.heap) (h : absStep cfg ops o st st') : FrC cfg st'.tmps st'.heap ∧ ∀ k, Turn cfg st'.heap k → Turn cfg st.heap k := by
  by_cases c : isNewP o = true → (o.dst.bind cfg.place).isSome = true
  · exact fr_step hk hk3 c hF h
  · obtain ⟨c1, c2⟩ := Classical.not_imp.1 c
    have hb : isBuildS o = true := by
      unfold okN at hp
      rw [c1] at hp
      simp only [Bool.not_true, Bool.false_or, Bool.or_eq_true] at hp
      rcases hp with hp | hp
      · exact absurd hp c2
      · exact hp
    obtain ⟨out, e, rfl⟩ := step_eff.1 h
    have hkill := eff_kill hk3 e
    rw [put_plain hkill]
    unfold eff at e
    rw [hg] at e
    simp only at e
    rw [opP_plain (.inr (by simpa using c2))] at e
    obtain ⟨ob, h1, h2, h3, h4⟩ := build_srcs hb e
    have get : ∀ k, (getObj out.H k).isHold = true → (getObj st.heap k).isHold = true ∧ k < st.heap.length := fun k hk' => by
      rw [h1] at hk'
      rcases Nat.lt_or_ge k st.heap.length with q | q
      · unfold getObj at hk' ⊢
        rw [List.getD, List.getElem?_append_left q] at hk'
        exact ⟨hk', q⟩
      · unfold getObj at hk'
        rw [List.getD, List.getElem?_append_right q] at hk'
        rcases Nat.eq_zero_or_pos (k - st.heap.length) with z | z
        · rw [z] at hk'
          simp only [List.getElem?_cons_zero, Option.getD_some] at hk'
          rw [h2] at hk'
          cases hk'
        · rw [List.getElem?_eq_none (by simp; omega)] at hk'
          cases hk'
    have ht : ∀ k, Turn cfg out.H k → Turn cfg st.heap k := fun k ⟨q1, q2⟩ => ⟨q1, (get k q2).1⟩
    refine ⟨fun k hT hs => ?_, ht⟩
    have h0 := hF k (ht k hT)
    have hkl := (get k hT.2).2
    rcases hs with ⟨v, hv, hkv⟩ | ⟨ob', hob, hkv⟩
    · cases hd : o.dst with
      | none =>
        rw [hd] at hv
        exact h0 (.inl ⟨v, hv, hkv⟩)
      | some d =>
        rw [hd] at hv
        rcases List.mem_or_eq_of_mem_set hv with h1 | h1
        · exact h0 (.inl ⟨v, h1, hkv⟩)
        · subst h1
          have := h4 k hkv
          omega
    · simp only [h1] at hob
      rcases List.mem_append.1 hob with q | q
      · exact h0 (.inr ⟨ob', q, hkv⟩)
      · rw [List.mem_singleton.1 q] at hkv
        exact h0 (h3 k hkv)
def drawOkN (cfg : Cfg cod) (ops : Array Oper) (a b : List SV) : Bool := ops.toList.all okQ && (ops.toList.all fun o => okN cfg o) && Region.lexB .any ops && memB2 cfg ops a b
theorem region_pre {cfg : Cfg cod} (hS : CfgOk cfg) (hm : cfg.P.follows .mixedOrders = true) {id : Nat} {ops : Array Oper} {st st1 st2 : St cod} {b0 : Base} {w : World} {a : Act} {Q : Exit → Act → World → Prop} {n : Nat} (m : Nat) (nw : List (Option Nat))
    (hml : m ≤ ops.size) (hac : acyc ops = true) (hD : lastAll ops m = true) (hg : ∀ o ∈ ops.toList, o.guard = none)
    (hf : st.tmps.all (fun v => v.hs.all fun h => decide (h < st.heap.length)) = true) (hh : st.heap.all (fun o => o.hs.all fun h => decide (h < st.heap.length)) = true)
    (hd : drawOkN (cfg.placed st.heap.length nw) (preA ops m) st.tmps st1.tmps = true) (h : absRun (cfg.placed st.heap.length nw) (preA ops m) (preA ops m).toList (st.hold n) st1) (hc : ChainW cfg.P b0 (ops.toList.drop m) st1 st2) (hR : Rel st b0 a w) (hQ : ∀ a' w', Rel st2 b0 a' w' → Q .normal a' w') : (Code.region id ops true).wp cfg.P Q a w := by
  unfold drawOkN at hd
  simp only [Bool.and_eq_true] at hd
  obtain ⟨⟨⟨hok, hds⟩, hB⟩, hmem⟩ := hd
  simp only [Region.lexB, Bool.and_eq_true] at hB
  have hfr : FrC (cfg.placed st.heap.length nw) (st.hold n).tmps (st.hold n).heap ∧ ∀ k, Turn (cfg.placed st.heap.length nw) (st.hold n).heap k → b0.n ≤ k := rel_fresh hR hf hh cfg nw n
  have hS' : CfgOk (cfg.placed st.heap.length nw) := hS
  have hP : (cfg.placed st.heap.length nw).P = cfg.P := rfl
  generalize cfg.placed st.heap.length nw = cfgP at *
  have hok' : ∀ o ∈ (preA ops m).toList, okQ o = true := List.all_eq_true.1 hok
  have hpl : ∀ o ∈ (preA ops m).toList, okN cfgP o = true := List.all_eq_true.1 hds
  have hin0 : ∀ o ∈ (preA ops m).toList, o ∈ ops.toList := fun o ho => List.mem_of_mem_take (by simpa [preA] using ho)
  unfold memB2 at hmem
  simp only [Bool.and_eq_true, decide_eq_true_eq] at hmem
  obtain ⟨⟨hk, hn⟩, hp⟩ := hmem
  have hk' : ∀ o ∈ (preA ops m).toList, tame cfgP o = true := fun o ho => List.all_eq_true.1 hk o ho
  let J : St cod → Prop := fun s => FrC cfgP s.tmps s.heap ∧ ∀ k, Turn cfgP s.heap k → b0.n ≤ k
  have hJ : ∀ o ∈ (preA ops m).toList, ∀ s s', J s → absStep cfgP (preA ops m) o s s' → J s' := fun o ho s s' ⟨h1, h2⟩ hst =>
    let ⟨g1, g2⟩ := fr_stepN (hg o (hin0 o ho)) (hok' o ho) (hk' o ho) (hpl o ho) h1 hst
    ⟨g1, fun k hk => h2 k (g2 k hk)⟩
  have hin : ∀ {j : Nat} {o : Oper}, (preA ops m)[j]? = some o → o ∈ (preA ops m).toList := fun h => by
    rw [← Array.getElem?_toList] at h
    exact List.mem_of_getElem? h
  have hrun := runI_and (I := fun s => Btw (st.hold n).tmps st1.tmps s.tmps) (J := J) hJ (fun o ho => ho) (runI_btw h hk' hn (fun _ => .inl rfl)) hfr
  have hany := absAny_lex (Q := fun s => s = st1) (fun i j oi oj hij hi hj => by
    have := all_pairs hp hij hi hj
    simp only [Bool.or_eq_true] at this
    rcases this with (hc | hc) | hc
    · refine .inl fun hap s s1 s2 hI k1 k2 => ?_
      obtain ⟨t1, q1, q2, q3⟩ := swap_btw hI.1 k1 k2 hap hc
      exact ⟨t1, q1, q2, fun h2 => ⟨q3 h2.1, hJ oj (hin hj) s t1 hI.2 q1⟩⟩
    · exact .inr hc
    · refine .inl fun hap s s1 s2 hI k1 k2 => ?_
      obtain ⟨t1, q1, q2, q3⟩ := swap_mem hI.1 k1 k2 hap hc
      exact ⟨t1, q1, q2, fun h2 => ⟨q3 h2.1, hJ oj (hin hj) s t1 hI.2 q1⟩⟩) (preA ops m).toList 0 (Array.replicate (preA ops m).size false) (st.hold n) st1 (by simp) (fun j o _ hl => by simp [Array.getElem?_replicate] at hl; split at hl <;> simp_all) (fun j hj => by omega) (by simpa using hB.2) hrun rfl
  have hlen : (preA ops m).toList.length = m := by rw [Array.length_toList, preA_size hml]
  have hrep : ∀ n i, (Array.replicate n false).getD i false = false := fun n i => by
    rw [Array.getD_eq_getD_getElem?, Array.getElem?_replicate]
    split <;> rfl
  have hw := any_pre (cfg := cfgP) hS' (b0 := b0) (I := fun s => Btw (st.hold n).tmps st1.tmps s.tmps ∧ J s) (Q := fun s => s = st1) (k := (ops.toList.drop m).length) (Q' := Q) hml hac hD hg (fun s hI => hI.2) (fun e s a' w' hs hR' => by
    subst hs
    rw [hP]
    exact any_suf hac hD (ops.toList.drop m) m e _ st2 a' w' rfl (Nat.le_refl _) hc hR' hQ) m (Array.replicate (preA ops m).size false) (Array.replicate ops.size false) (st.hold n) a w.drew (by rw [Array.size_replicate, preA_size hml]) (Array.size_replicate ..) (fun i _ => by rw [hrep, hrep]) (fun i _ => hrep _ _) (fun j o _ hl => by rw [hrep] at hl; cases hl) (by rw [← hlen]; simpa [hlen] using hany) (hold_rel n (rel_drew hR))
  rw [hP] at hw
  refine wp_region_any hm ?_
  have e : m + (ops.toList.drop m).length = ops.size := by simp; omega
  rw [e] at hw
  exact hw
/-- The first operations as a tree. -/
noncomputable def preT (cfg : Cfg cod) (ops : Array Oper) (nw : List (Option Nat)) (st : St cod) : T (St cod) :=
  if st.tmps.all (fun v => v.hs.all fun h => decide (h < st.heap.length)) = true ∧ st.heap.all (fun o => o.hs.all fun h => decide (h < st.heap.length)) = true then
    symOps (cfg.placed st.heap.length nw) ops ops.toList (st.hold nw.length) fun st' => forceSt st' fun st' => if drawOkN (cfg.placed st.heap.length nw) ops st.tmps st'.tmps = true then .ret st' else .fail
  else .fail
theorem preT_spec {cfg : Cfg cod} {ops : Array Oper} {nw : List (Option Nat)} {st s : St cod} (h : (preT cfg ops nw st).gives s) : (st.tmps.all (fun v => v.hs.all fun h => decide (h < st.heap.length)) = true ∧ st.heap.all (fun o => o.hs.all fun h => decide (h < st.heap.length)) = true) ∧
    absRun (cfg.placed st.heap.length nw) ops ops.toList (st.hold nw.length) s ∧ drawOkN (cfg.placed st.heap.length nw) ops st.tmps s.tmps = true := by
  unfold preT at h
  split at h
  · rename_i hc
    obtain ⟨s', h1, h2⟩ := symOps_spec _ _ _ _ h
    rw [forceSt_eq] at h2
    split at h2
    · rename_i hd
      rw [T.gives_ret] at h2
      subst h2
      exact ⟨hc, h1, hd⟩
    · exact h2.elim
  · exact h.elim
theorem Runs.preW {cfg : Cfg cod} (hS : CfgFit cfg) (hm : cfg.P.follows .mixedOrders = true) {b0 : Base} {id : Nat} {ops : Array Oper} {L k : List Item} (hL : L = .code (.region id ops true) :: k) {st : St cod} {Q : St cod → Prop} (m : Nat) (nw : List (Option Nat))
    (hc : (decide (m ≤ ops.size) && acyc ops && lastAll ops m && ops.toList.all fun o => o.guard.isNone) = true) {l2 : List Oper} {o : Oper} (hsp : ops.toList.drop m = o :: l2)
    {t1 : T (St cod)} (h1 : preT cfg (preA ops m) nw st = t1) (h : t1.wp fun s => ∃ s', StepW cfg.P b0 o s s' ∧ (Sym.lexT cfg l2 s').wp fun s2 => Runs cfg.P b0 k s2 Q) : Runs cfg.P b0 L st Q := by
  subst hL
  subst h1
  simp only [Bool.and_eq_true, decide_eq_true_eq] at hc
  obtain ⟨⟨⟨c1, c2⟩, c3⟩, c4⟩ := hc
  obtain ⟨s, g1, s', g2, g3⟩ := T.wp_gives h
  obtain ⟨s2, g4, hr⟩ := T.wp_gives g3
  obtain ⟨⟨q1, q2⟩, q3, q4⟩ := preT_spec g1
  have gn : ∀ o ∈ ops.toList, o.guard = none := fun o ho => by simpa using List.all_eq_true.1 c4 o ho
  have gn2 : ∀ o' ∈ o :: l2, o'.guard = none := fun o' ho => gn o' (List.mem_of_mem_drop (by rw [hsp]; exact ho))
  have hch : ChainW cfg.P b0 (ops.toList.drop m) s s2 := by
    rw [hsp]
    exact ⟨gn2 o (List.mem_cons_self ..), s', g2, chain_lexT hS l2 s' s2 (fun o' ho => gn2 o' (List.mem_cons_of_mem _ ho)) g4⟩
  intro b cs a w hR
  have hw := region_pre (id := id) (Q := fun e a' w' => e = .normal ∧ Rel s2 b0 a' w') hS.ok hm m nw c1 c2 c3 gn q1 q2 q4 q3 hch hR (fun a' w' hR' => ⟨rfl, hR'⟩)
  obtain ⟨e, a', w', ⟨rfl, hR'⟩, harr⟩ := hw b k cs
  obtain ⟨x, a'', w'', todo, q1, q2, q3⟩ := hr b cs a' w' hR'
  exact ⟨x, a'', w'', todo, q1, q2, Steps.trans harr q3⟩
end
end Go.Proofs.YtiolfkmkbccndaaGreatDoor.Sym
