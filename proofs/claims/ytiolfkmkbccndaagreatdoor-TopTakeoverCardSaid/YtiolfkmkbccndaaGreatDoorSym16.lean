/- A symbolic run is sound: a region that draws its order, whatever the order. -/
import Derived.Test.YtiolfkmkbccndaaGreatDoorSym15m
namespace Go.Proofs.YtiolfkmkbccndaaGreatDoor.Sym
open Go.RowKit

section
variable {cod : Nat → Codec}

/-- Which of the first n operations wait for operation i, directly or not. -/
def depL (ops : Array Oper) (i : Nat) : Nat → List Bool
  | 0 => []
  | n + 1 => depL ops i n ++ [match ops[n]? with
    | some o => o.after.any fun e => Region.binds .any e && (e.on == i || (depL ops i n).getD e.on false)
    | none => false]
def memB (cfg : Cfg cod) (ops : Array Oper) : Bool :=
  (List.range ops.size).all fun i => (List.range ops.size).all fun j => decide (j ≤ i) ||
    match ops[i]?, ops[j]? with
    | some oi, some oj => compat (kindP cfg oi) (kindP cfg oj) || (depL ops i (j + 1)).getD j false
    | _, _ => true
def Closed (ops : Array Oper) (listed : Array Bool) : Prop :=
  ∀ j o, ops[j]? = some o → listed.getD j false = true → ∀ e ∈ o.after, Region.binds .any e = true → listed.getD e.on false = true

theorem depL_length (ops : Array Oper) (i : Nat) : ∀ n, (depL ops i n).length = n
  | 0 => rfl
  | n + 1 => by rw [depL, List.length_append, depL_length ops i n]; rfl
theorem dep_spec {ops : Array Oper} {i : Nat} {listed : Array Bool} (hc : Closed ops listed) (hi : listed.getD i false = false) : ∀ n j, (depL ops i n).getD j false = true → listed.getD j false = false
  | 0, j, h => by simp [depL] at h
  | n + 1, j, h => by
    rw [depL] at h
    have hlen := depL_length ops i n
    rcases Nat.lt_trichotomy j n with hj | hj | hj
    · refine dep_spec hc hi n j ?_
      simp only [List.getD] at h ⊢
      rwa [List.getElem?_append_left (by omega)] at h
    · subst hj
      simp only [List.getD] at h
      rw [List.getElem?_append_right (by omega), hlen, Nat.sub_self] at h
      simp only [List.getElem?_cons_zero, Option.getD_some] at h
      cases ho : ops[j]? with
      | none => rw [ho] at h; cases h
      | some o =>
        rw [ho] at h
        simp only at h
        rw [Array.any_eq_true'] at h
        obtain ⟨e, he, hb⟩ := h
        simp only [Bool.and_eq_true, Bool.or_eq_true, beq_iff_eq] at hb
        cases hl : listed.getD j false with
        | false => rfl
        | true =>
          have := hc j o ho hl e he hb.1
          rcases hb.2 with h1 | h1
          · rw [h1, hi] at this; cases this
          · have := dep_spec hc hi j e.on h1
            simp_all
    · simp only [List.getD] at h
      rw [List.getElem?_eq_none (by rw [List.length_append, hlen]; simp; omega)] at h
      cases h
/-- A ready operation waits for none that is not listed. -/
theorem ready_dep {ops : Array Oper} {i j : Nat} {listed : Array Bool} (hc : Closed ops listed) (hi : listed.getD i false = false) (hj : j ∈ Region.ready .any ops listed) : (depL ops i (j + 1)).getD j false = false := by
  obtain ⟨_, o, ho, hall⟩ := mem_ready.1 hj
  cases h : (depL ops i (j + 1)).getD j false with
  | false => rfl
  | true =>
    rw [depL] at h
    simp only [List.getD] at h
    have hlen := depL_length ops i j
    rw [List.getElem?_append_right (by omega), hlen, Nat.sub_self] at h
    simp only [List.getElem?_cons_zero, Option.getD_some, ho] at h
    rw [Array.any_eq_true'] at h
    obtain ⟨e, he, hb⟩ := h
    simp only [Bool.and_eq_true, Bool.or_eq_true, beq_iff_eq] at hb
    have h1 := hall e he hb.1
    rcases hb.2 with h2 | h2
    · rw [h2, hi] at h1; cases h1
    · have := dep_spec hc hi j e.on h2
      rw [this] at h1; cases h1
theorem closed_set {ops : Array Oper} {listed : Array Bool} {i : Nat} (hc : Closed ops listed) (hi : i ∈ Region.ready .any ops listed) : Closed ops (listed.setIfInBounds i true) := by
  intro j o ho hl e he hb
  obtain ⟨_, oi, hoi, hall⟩ := mem_ready.1 hi
  by_cases hji : i = j
  · subst hji
    rw [hoi] at ho
    cases ho
    exact getD_set_true (hall e he hb)
  · rw [getD_set_ne false hji] at hl
    exact getD_set_true (hc j o ho hl e he hb)
theorem ready_unlisted {ops : Array Oper} {listed : Array Bool} {i : Nat} (hi : i ∈ Region.ready .any ops listed) : listed.getD i false = false ∧ i < listed.size := by
  have h := (mem_ready.1 hi).1
  rcases Nat.lt_or_ge i listed.size with hl | hl
  · simp only [Array.getD_eq_getD_getElem?, Array.getElem?_eq_getElem hl, Option.getD_some] at h ⊢
    exact ⟨h, hl⟩
  · simp [Array.getElem?_eq_none hl] at h

def absOp (cfg : Cfg cod) (ops : Array Oper) (i : Nat) (st st' : St cod) : Prop :=
  match ops[i]? with
  | none => st' = st
  | some o => absStep cfg ops o st st'
def absAny (cfg : Cfg cod) (ops : Array Oper) (I Q : St cod → Prop) : Nat → Array Bool → St cod → Prop
  | 0, listed, st => I st ∧ Region.ready .any ops listed = [] ∧ Q st
  | n + 1, listed, st => I st ∧ (Region.ready .any ops listed = [] → Q st) ∧ ∀ i ∈ Region.ready .any ops listed, ∃ st', absOp cfg ops i st st' ∧ absAny cfg ops I Q n (listed.setIfInBounds i true) st'
theorem absAny_inv {cfg : Cfg cod} {ops : Array Oper} {I Q : St cod → Prop} {n : Nat} {listed : Array Bool} {st : St cod} (h : absAny cfg ops I Q n listed st) : I st := by
  cases n with
  | zero => exact h.1
  | succ n => exact h.1

theorem abs_wpAny {cfg : Cfg cod} (hS : CfgOk cfg) {ops : Array Oper} {w0 : Base} {I Q : St cod → Prop} {Q' : Exit → Act → World → Prop} (hI : ∀ st, I st → FrC cfg st.tmps st.heap ∧ ∀ k, Turn cfg st.heap k → w0.n ≤ k) (hQ : ∀ st a w, Q st → Rel st w0 a w → Q' .normal a w) :
    ∀ (n : Nat) (listed : Array Bool) (st : St cod) (a : Act) (w : World), absAny cfg ops I Q n listed st → Rel st w0 a w → wpAny cfg.P .any ops Q' n listed a w
  | 0, _, st, a, w, h, hR => ⟨h.2.1, hQ st a w h.2.2 hR⟩
  | n + 1, listed, st, a, w, h, hR => by
    refine ⟨fun h0 => hQ st a w (h.2.1 h0) hR, fun i hi => ?_⟩
    obtain ⟨st', h1, h2⟩ := h.2.2 i hi
    unfold absOp at h1
    unfold wpOp
    cases ho : ops[i]? with
    | none =>
      rw [ho] at h1
      simp only at h1
      subst h1
      exact abs_wpAny hS hI hQ n _ st' a w h2 hR
    | some o =>
      rw [ho] at h1
      exact abs_wp hS (hI st h.1).1 (hI st h.1).2 h1 hR fun a' w' hR' => abs_wpAny hS hI hQ n _ st' a' w' h2 hR'

theorem absAny_first {cfg : Cfg cod} {ops : Array Oper} {I Q : St cod → Prop} {i : Nat} {oi : Oper} (hi : ops[i]? = some oi) :
    ∀ (fuel : Nat) (listed : Array Bool) (st s1 : St cod), Closed ops listed →
      (∀ j oj, ops[j]? = some oj → j ≠ i → listed.getD j true = false → (∀ e ∈ oj.after, Region.binds .any e = true → e.on ≠ i) → oi.apart ops oj = true) →
      (∀ j oj, ops[j]? = some oj → j ≠ i → listed.getD j true = false → (oi.apart ops oj = true → ∀ st s1 s2, I st → absStep cfg ops oi st s1 → absStep cfg ops oj s1 s2 → ∃ t1, absStep cfg ops oj st t1 ∧ absStep cfg ops oi t1 s2 ∧ (I s2 → I t1)) ∨ (depL ops i (j + 1)).getD j false = true) →
      i ∈ Region.ready .any ops listed → I st → absStep cfg ops oi st s1 → absAny cfg ops I Q fuel (listed.setIfInBounds i true) s1 → absAny cfg ops I Q (fuel + 1) listed st := by
  intro fuel
  induction fuel with
  | zero =>
    intro listed st s1 hcl _ _ hr hI hy H
    refine ⟨hI, fun h => (by rw [h] at hr; cases hr), fun j hj => ?_⟩
    by_cases hji : j = i
    · subst hji; exact ⟨s1, by unfold absOp; rw [hi]; exact hy, H⟩
    · have := ready_mono hj hji
      rw [H.2.1] at this
      cases this
  | succ fuel ih =>
    intro listed st s1 hcl hfree hmem hr hI hy H
    refine ⟨hI, fun h => (by rw [h] at hr; cases hr), fun j hj => ?_⟩
    by_cases hji : j = i
    · subst hji; exact ⟨s1, by unfold absOp; rw [hi]; exact hy, H⟩
    · obtain ⟨s12, h1, hrest⟩ := H.2.2 j (ready_mono hj hji)
      obtain ⟨hjun, oj, hoj, hall⟩ := mem_ready.1 hj
      have hiun := ready_unlisted hr
      have hnot : ∀ e ∈ oj.after, Region.binds .any e = true → e.on ≠ i := fun e he hb heq => by
        have h1 := hall e he hb
        rw [heq, hiun.1] at h1
        cases h1
      have hap := hfree j oj hoj hji hjun hnot
      have hcomp : ∀ st s1 s2, I st → absStep cfg ops oi st s1 → absStep cfg ops oj s1 s2 → ∃ t1, absStep cfg ops oj st t1 ∧ absStep cfg ops oi t1 s2 ∧ (I s2 → I t1) := by
        rcases hmem j oj hoj hji hjun with h | h
        · exact h hap
        · rw [ready_dep hcl hiun.1 hj] at h; cases h
      unfold absOp at h1
      rw [hoj] at h1
      obtain ⟨t1, k1, k2, k3⟩ := hcomp _ _ _ hI hy h1
      refine ⟨t1, by unfold absOp; rw [hoj]; exact k1, ?_⟩
      have keepU : ∀ k, (listed.setIfInBounds j true).getD k true = false → listed.getD k true = false := fun k hun => by
        by_cases hjk : j = k
        · subst hjk; exact hjun
        · rw [getD_set_ne true hjk] at hun; exact hun
      refine ih (listed.setIfInBounds j true) t1 s12 (closed_set hcl hj) (fun k ok hk hki hun hno => hfree k ok hk hki (keepU k hun) hno) (fun k ok hk hki hun => hmem k ok hk hki (keepU k hun)) (ready_mono hr (Ne.symm hji)) (k3 (absAny_inv hrest)) k2 ?_
      rw [Array.setIfInBounds_comm _ _ hji]
      exact hrest

/-- A run in the text's order, with what holds all along. -/
def absRunI (cfg : Cfg cod) (ops : Array Oper) (I : St cod → Prop) : List Oper → St cod → St cod → Prop
  | [], st, st' => I st ∧ st' = st
  | o :: l, st, st' => I st ∧ ∃ s, absStep cfg ops o st s ∧ absRunI cfg ops I l s st'
theorem runI_true {cfg : Cfg cod} {ops : Array Oper} : ∀ {l : List Oper} {st st' : St cod}, absRun cfg ops l st st' → absRunI cfg ops (fun _ => True) l st st'
  | [], _, _, h => ⟨trivial, h⟩
  | _ :: _, _, _, ⟨s, h1, h2⟩ => ⟨trivial, s, h1, runI_true h2⟩
def dsts (l : List Oper) : List Nat := l.filterMap (·.dst)
theorem eff_kill3 {cfg : Cfg cod} {ops : Array Oper} {o : Oper} {st : St cod} {out : Out cod} (hk : kindP cfg o ≤ 3) (h : eff cfg ops o st out) : out.kill = [] := (eff_kind h).1 hk
theorem eff_kill {cfg : Cfg cod} {ops : Array Oper} {o : Oper} {st : St cod} {out : Out cod} (hk : tame cfg o = true) (h : eff cfg ops o st out) : out.kill = [] := by
  unfold eff at h
  split at h
  · exact tame_kill hk h
  · split at h
    · split at h
      · exact tame_kill hk h
      · rw [h]
    · rw [h]
    · exact h.elim
theorem run_rest {cfg : Cfg cod} {ops : Array Oper} : ∀ {l : List Oper} {st st' : St cod}, absRun cfg ops l st st' → (∀ o ∈ l, tame cfg o = true) → ∀ t, t ∉ dsts l → st'.tmps.getD t (.c .junk) = st.tmps.getD t (.c .junk)
  | [], _, _, h, _, _, _ => by
    simp only [absRun] at h
    rw [h]
  | o :: l, st, st', ⟨s, h1, h2⟩, hk, t, ht => by
    have hl : t ∉ dsts l := fun h => ht (by
      unfold dsts at *
      rw [List.filterMap_cons]
      split
      · exact h
      · exact List.mem_cons_of_mem _ h)
    rw [run_rest h2 (fun x hx => hk x (List.mem_cons_of_mem _ hx)) t hl]
    obtain ⟨out, e, rfl⟩ := step_eff.1 h1
    rw [put_plain (eff_kill (hk o (List.mem_cons_self ..)) e)]
    cases hd : o.dst with
    | none => rfl
    | some d =>
      have : d ≠ t := fun e => ht (by
        subst e
        unfold dsts
        rw [List.filterMap_cons, hd]
        exact List.mem_cons_self ..)
      simp only [List.getD]
      rw [List.getElem?_set_ne this]
theorem runI_btw {cfg : Cfg cod} {ops : Array Oper} {a : List SV} : ∀ {l : List Oper} {st st' : St cod}, absRun cfg ops l st st' → (∀ o ∈ l, tame cfg o = true) → (dsts l).Nodup → Btw a st'.tmps st.tmps → absRunI cfg ops (fun s => Btw a st'.tmps s.tmps) l st st'
  | [], _, _, h, _, _, hB => ⟨hB, h⟩
  | o :: l, st, st', ⟨s, h1, h2⟩, hk, hn, hB => by
    have hk' : ∀ x ∈ l, tame cfg x = true := fun x hx => hk x (List.mem_cons_of_mem _ hx)
    refine ⟨hB, s, h1, runI_btw h2 hk' ?_ ?_⟩
    · unfold dsts at hn ⊢
      rw [List.filterMap_cons] at hn
      split at hn
      · exact hn
      · exact (List.nodup_cons.1 hn).2
    · intro t
      obtain ⟨out, e, rfl⟩ := step_eff.1 h1
      have hr := run_rest h2 hk' t
      rw [put_plain (eff_kill (hk o (List.mem_cons_self ..)) e)] at hr ⊢
      cases hd : o.dst with
      | none => exact hB t
      | some d =>
        simp only [hd] at hr ⊢
        by_cases hdt : d = t
        · subst hdt
          refine .inr (hr ?_).symm
          unfold dsts at hn ⊢
          rw [List.filterMap_cons, hd] at hn
          exact (List.nodup_cons.1 hn).1
        · have := hB t
          simp only [List.getD] at this ⊢
          rw [List.getElem?_set_ne hdt]
          exact this
theorem absAny_lex {cfg : Cfg cod} {ops : Array Oper} {I Q : St cod → Prop} (hm : ∀ i j oi oj, i < j → ops[i]? = some oi → ops[j]? = some oj → (oi.apart ops oj = true → ∀ st s1 s2, I st → absStep cfg ops oi st s1 → absStep cfg ops oj s1 s2 → ∃ t1, absStep cfg ops oj st t1 ∧ absStep cfg ops oi t1 s2 ∧ (I s2 → I t1)) ∨ (depL ops i (j + 1)).getD j false = true) : ∀ (l : List Oper) (k : Nat) (listed : Array Bool) (st st' : St cod), (∀ j, l[j]? = ops[k + j]?) → Closed ops listed → (∀ j, j < k → listed.getD j true = true) →
    Region.lexFrom .any ops l.length k listed = true → absRunI cfg ops I l st st' → Q st' → absAny cfg ops I Q l.length listed st
  | [], k, listed, st, st', hl, _, _, hB, h, hQ => by
    obtain ⟨hI, h⟩ := h
    subst h
    exact ⟨hI, by simpa [Region.lexFrom] using hB, hQ⟩
  | o :: l, k, listed, st, st', hl, hcl, hlow, hB, h, hQ => by
    have h0 : ops[k]? = some o := by simpa using (hl 0).symm
    simp only [List.length_cons, Region.lexFrom, Bool.and_eq_true] at hB
    obtain ⟨⟨hr, hf⟩, hB'⟩ := hB
    obtain ⟨hI, s, h1, h2⟩ := h
    have hr' : k ∈ Region.ready .any ops listed := by simpa using hr
    refine absAny_first h0 l.length listed st s hcl (Region.free_spec h0 hf) (fun j oj hj hne hun => ?_) hr' hI h1 ?_
    · have hkj : k < j := by
        rcases Nat.lt_trichotomy j k with hh | hh | hh
        · rw [hlow j hh] at hun; cases hun
        · exact absurd hh hne
        · exact hh
      exact hm k j o oj hkj h0 hj
    · refine absAny_lex hm l (k + 1) _ s st' (fun j => by have := hl (j + 1); simpa [Nat.add_assoc, Nat.add_comm 1 j] using this) (closed_set hcl hr') (fun j hj => ?_) hB' h2 hQ
      by_cases e : k = j
      · subst e
        have := (ready_unlisted hr').2
        simp [this]
      · rw [getD_set_ne true e]
        exact hlow j (by omega)

/-- The pairs that no dependence orders, when the memory that they touch is known at the two ends. -/
def memB2 (cfg : Cfg cod) (ops : Array Oper) (a b : List SV) : Bool :=
  ops.toList.all (fun o => tame cfg o) && decide (dsts ops.toList).Nodup &&
  ((List.range ops.size).all fun i => (List.range ops.size).all fun j => decide (j ≤ i) ||
    match ops[i]?, ops[j]? with
    | some oi, some oj => compat (kindP cfg oi) (kindP cfg oj) || (depL ops i (j + 1)).getD j false || apartM cfg a b oi oj
    | _, _ => true)
/-- May this region be run in the text's order alone? From this state to that one. -/
def drawOk (cfg : Cfg cod) (ops : Array Oper) (st st' : St cod) : Bool := Region.lexB .any ops && (memB cfg ops || memB2 cfg ops st.tmps st'.tmps)

theorem all_pairs {ops : Array Oper} {p : Nat → Nat → Oper → Oper → Bool} (h : ((List.range ops.size).all fun i => (List.range ops.size).all fun j => decide (j ≤ i) ||
    match ops[i]?, ops[j]? with
    | some oi, some oj => p i j oi oj
    | _, _ => true) = true) {i j : Nat} {oi oj : Oper} (hij : i < j) (hi : ops[i]? = some oi) (hj : ops[j]? = some oj) : p i j oi oj = true := by
  have hlt : j < ops.size := (Array.getElem?_eq_some_iff.1 hj).1
  have hlk : i < ops.size := (Array.getElem?_eq_some_iff.1 hi).1
  have := List.all_eq_true.1 (List.all_eq_true.1 h i (List.mem_range.2 hlk)) j (List.mem_range.2 hlt)
  simp only [hi, hj, Bool.or_eq_true, decide_eq_true_eq] at this
  rcases this with h | h
  · omega
  · exact h
theorem swap_btw {cfg : Cfg cod} {ops : Array Oper} {a b : List SV} {oi oj : Oper} {st s1 s2 : St cod} (hB : Btw a b st.tmps) (h1 : absStep cfg ops oi st s1) (h2 : absStep cfg ops oj s1 s2) (hap : oi.apart ops oj = true) (hc : compat (kindP cfg oi) (kindP cfg oj) = true) :
    ∃ t1, absStep cfg ops oj st t1 ∧ absStep cfg ops oi t1 s2 ∧ (Btw a b s2.tmps → Btw a b t1.tmps) := by
  obtain ⟨t1, k1, k2⟩ := swap_steps h1 h2 hap hc
  refine ⟨t1, k1, k2, fun hb => ?_⟩
  have hki : kindP cfg oi ≤ 3 := by unfold compat at hc; simp at hc; omega
  have hkj : kindP cfg oj ≤ 3 := by unfold compat at hc; simp at hc; omega
  obtain ⟨oj', e1, rfl⟩ := step_eff.1 k1
  obtain ⟨oi', e2, rfl⟩ := step_eff.1 k2
  obtain ⟨_, a2, _⟩ := Oper.apart_spec hap
  have kj := eff_kill3 hkj e1
  have ki := eff_kill3 hki e2
  rw [put_plain ki, put_plain kj] at hb
  rw [put_plain kj]
  refine btw_put (di := oi.dst) (vi := oi'.v) hB a2 ?_
  have hcomm : setO (setO st.tmps oi.dst oi'.v) oj.dst oj'.v = setO (setO st.tmps oj.dst oj'.v) oi.dst oi'.v := by
    cases hdi : oi.dst with
    | none => rfl
    | some di =>
      cases hdj : oj.dst with
      | none => rfl
      | some dj => exact List.set_comm _ _ (fun e => a2 di hdi (by rw [hdj, e]))
  rw [hcomm]
  exact hb

/-! ### places kept for the variables that a region makes -/
def newDsts (ops : List Oper) : List (Option Nat) := (ops.filter isNewP).map (·.dst)
/-- The config for a region whose variables have their places from N on. -/
def Cfg.placed (cfg : Cfg cod) (N : Nat) (nw : List (Option Nat)) : Cfg cod := { cfg with place := fun d => if nw.contains (some d) then some (N + nw.idxOf (some d)) else none }
def St.hold (st : St cod) (n : Nat) : St cod := { st with heap := st.heap ++ List.replicate n (.inp 0 []) }
/-- Such a region may be run in the text's order alone. -/
def drawOkP (cfg : Cfg cod) (ops : Array Oper) (st st' : St cod) : Bool :=
  ops.toList.all okQ && (newDsts ops.toList).all Option.isSome && Region.lexB .any ops && memB2 (cfg.placed st.heap.length (newDsts ops.toList)) ops st.tmps st'.tmps
theorem placed_ge {cfg : Cfg cod} {N : Nat} {nw : List (Option Nat)} {d k : Nat} (h : (cfg.placed N nw).place d = some k) : N ≤ k := by
  unfold Cfg.placed at h
  simp only at h
  split at h
  · cases h; omega
  · cases h
theorem placed_some {cfg : Cfg cod} {N : Nat} {ops : List Oper} {o : Oper} (ho : o ∈ ops) (hn : isNewP o = true) (hd : (newDsts ops).all Option.isSome = true) : (o.dst.bind (cfg.placed N (newDsts ops)).place).isSome = true := by
  have hm : o.dst ∈ newDsts ops := List.mem_map.2 ⟨o, List.mem_filter.2 ⟨ho, hn⟩, rfl⟩
  obtain ⟨d, hdd⟩ := Option.isSome_iff_exists.1 (List.all_eq_true.1 hd _ hm)
  rw [hdd] at hm ⊢
  simp [Cfg.placed, hm]
/-- Nothing refers to a place that is kept still: an operation keeps that. -/
theorem fr_step {cfg : Cfg cod} {ops : Array Oper} {o : Oper} {st st' : St cod} (hk : okQ o = true) (hk3 : tame cfg o = true) (hp : isNewP o = true → (o.dst.bind cfg.place).isSome = true) (hF : FrC cfg st.tmps st.heap) (h : absStep cfg ops o st st') : FrC cfg st'.tmps st'.heap ∧ ∀ k, Turn cfg st'.heap k → Turn cfg st.heap k := by
  obtain ⟨out, e, rfl⟩ := step_eff.1 h
  have hkill := eff_kill hk3 e
  rw [put_plain hkill]
  have main : (∀ k ∈ out.v.hs, srcs st.tmps st.heap k ∨ (getObj out.H k).isHold = false) ∧ (∀ ob ∈ out.H, ∀ k ∈ ob.hs, srcs st.tmps st.heap k ∨ (getObj out.H k).isHold = false) ∧ ∀ k, (getObj out.H k).isHold = true → (getObj st.heap k).isHold = true := by
    have skip : out = { v := undefS, H := st.heap } → (∀ k ∈ out.v.hs, srcs st.tmps st.heap k ∨ (getObj out.H k).isHold = false) ∧ (∀ ob ∈ out.H, ∀ k ∈ ob.hs, srcs st.tmps st.heap k ∨ (getObj out.H k).isHold = false) ∧ ∀ k, (getObj out.H k).isHold = true → (getObj st.heap k).isHold = true := by
      rintro rfl
      exact ⟨(fun k hk => by cases hk), fun ob hob k hk => .inl (.inr ⟨ob, hob, hk⟩), fun _ h => h⟩
    unfold eff at e
    split at e
    · exact opP_srcs hk hk3 hp e
    · split at e
      · split at e
        · exact opP_srcs hk hk3 hp e
        · exact skip e
      · exact skip e
      · exact e.elim
  obtain ⟨m1, m2, m3⟩ := main
  have ht : ∀ k, Turn cfg out.H k → Turn cfg st.heap k := fun k ⟨h1, h2⟩ => ⟨h1, m3 k h2⟩
  refine ⟨fun k hT hs => ?_, ht⟩
  have h0 := hF k (ht k hT)
  rcases hs with ⟨v, hv, hkv⟩ | ⟨ob, hob, hkv⟩
  · cases hd : o.dst with
    | none =>
      rw [hd] at hv
      exact h0 (.inl ⟨v, hv, hkv⟩)
    | some d =>
      rw [hd] at hv
      rcases List.mem_or_eq_of_mem_set hv with h1 | h1
      · exact h0 (.inl ⟨v, h1, hkv⟩)
      · subst h1
        rcases m1 k hkv with h2 | h2
        · exact h0 h2
        · rw [hT.2] at h2; cases h2
  · rcases m2 ob hob k hkv with h2 | h2
    · exact h0 h2
    · rw [hT.2] at h2; cases h2
theorem runI_and {cfg : Cfg cod} {ops : Array Oper} {I J : St cod → Prop} (hJ : ∀ o ∈ ops.toList, ∀ s s', J s → absStep cfg ops o s s' → J s') : ∀ {l : List Oper} {st st' : St cod}, (∀ o ∈ l, o ∈ ops.toList) → absRunI cfg ops I l st st' → J st → absRunI cfg ops (fun s => I s ∧ J s) l st st'
  | [], _, _, _, ⟨h1, h2⟩, h => ⟨⟨h1, h⟩, h2⟩
  | o :: l, _, _, hl, ⟨h1, s, h2, h3⟩, h => ⟨⟨h1, h⟩, s, h2, runI_and hJ (fun x hx => hl x (List.mem_cons_of_mem _ hx)) h3 (hJ o (hl o (List.mem_cons_self ..)) _ _ h h2)⟩
theorem hold_rel {st : St cod} {b : Base} {a : Act} {w : World} (n : Nat) (hR : Rel st b a w) : Rel (st.hold n) b a w := by
  obtain ⟨env, hF, hd, G, hb, hK0, hK1, hK2⟩ := hR
  let env' : Env := fun k => if k < st.heap.length then env k else ⟨0, 0, (cod 0).size, undef, []⟩
  have he : EnvEq st.heap.length env env' := fun k hk => by show (if k < st.heap.length then env k else _) = _; rw [if_pos hk]
  have hlen : (st.hold n).heap.length = st.heap.length + n := by simp [St.hold]
  have cases_ : ∀ k o, (st.hold n).heap[k]? = some o → (k < st.heap.length ∧ st.heap[k]? = some o) ∨ (st.heap.length ≤ k ∧ o = .inp 0 []) := by
    intro k o ho
    simp only [St.hold] at ho
    rcases Nat.lt_or_ge k st.heap.length with hl | hl
    · rw [List.getElem?_append_left hl] at ho; exact .inl ⟨hl, ho⟩
    · rw [List.getElem?_append_right hl, List.getElem?_replicate] at ho
      split at ho
      · cases ho; exact .inr ⟨hl, rfl⟩
      · cases ho
  refine ⟨env', ?_, hd, ⟨fun k o ho => ?_, fun k k' o o' c hne ho ho' hw hc hc' => ?_, G.tab⟩, hb, fun k hk hn => ?_, by rw [hlen]; omega, fun k o hk ho hown => ?_⟩
  · rw [hlen]
    exact forall2_mono (fun _ _ h => vrel_mono (by omega) he h) hF
  · rw [hlen]
    rcases cases_ k o ho with ⟨hl, h1⟩ | ⟨hl, rfl⟩
    · rw [he k hl]
      exact objRel_mono (by omega) he (G.obj k o h1)
    · have e : env' k = ⟨0, 0, (cod 0).size, undef, []⟩ := by show (if k < st.heap.length then env k else _) = _; rw [if_neg (by omega)]
      rw [e]
      exact ⟨rfl, (fun j u hu => by simp [vals] at hu), fun h => absurd rfl h⟩
  · rcases cases_ k o ho with ⟨hl, h1⟩ | ⟨hl, rfl⟩
    · rcases cases_ k' o' ho' with ⟨hl', h1'⟩ | ⟨hl', rfl⟩
      · rw [he k hl] at hc
        rw [he k' hl'] at hc'
        exact G.sep k k' o o' c hne h1 h1' hw hc hc'
      · exact hc'.1 rfl
    · cases hw
  · rw [he k (by omega)]; exact hK0 k hk hn
  · rcases cases_ k o ho with ⟨hl, h1⟩ | ⟨hl, rfl⟩
    · exact hK2 k o hk h1 hown
    · cases hown
theorem rel_drew {st : St cod} {b : Base} {a : Act} {w : World} (hR : Rel st b a w) : Rel st b a w.drew :=
  let ⟨env, hF, hdf, G, hb, hK⟩ := hR
  ⟨env, hF, hdf, G.keep (Nat.le_refl _) (fun _ _ => rfl), hb.drew, hK⟩
theorem rel_fresh {st : St cod} {b : Base} {a : Act} {w : World} (hR : Rel st b a w) (hf : st.tmps.all (fun v => v.hs.all fun h => decide (h < st.heap.length)) = true) (hh : st.heap.all (fun o => o.hs.all fun h => decide (h < st.heap.length)) = true) (cfg : Cfg cod) (nw : List (Option Nat)) (n : Nat) :
    FrC (cfg.placed st.heap.length nw) (st.hold n).tmps (st.hold n).heap ∧ ∀ k, Turn (cfg.placed st.heap.length nw) (st.hold n).heap k → b.n ≤ k := by
  obtain ⟨_, _, _, _, _, _, hK1, _⟩ := hR
  refine ⟨fun k ⟨⟨d, hd⟩, _⟩ hs => ?_, fun k ⟨⟨d, hd⟩, _⟩ => by have := placed_ge hd; omega⟩
  have hge := placed_ge hd
  rcases hs with ⟨v, hv, hk⟩ | ⟨ob, hob, hk⟩
  · have := List.all_eq_true.1 (List.all_eq_true.1 hf v hv) k hk
    simp only [decide_eq_true_eq] at this
    omega
  · simp only [St.hold] at hob
    rcases List.mem_append.1 hob with h1 | h1
    · have := List.all_eq_true.1 (List.all_eq_true.1 hh ob h1) k hk
      simp only [decide_eq_true_eq] at this
      omega
    · rw [List.eq_of_mem_replicate h1] at hk
      cases hk
theorem region_soundP {cfg : Cfg cod} (hS : CfgOk cfg) (hm : cfg.P.follows .mixedOrders = true) {id : Nat} {ops : Array Oper} {st st' : St cod} {w0 : Base} {w : World} {a : Act} {Q : Exit → Act → World → Prop} {n : Nat}
    (hf : st.tmps.all (fun v => v.hs.all fun h => decide (h < st.heap.length)) = true) (hh : st.heap.all (fun o => o.hs.all fun h => decide (h < st.heap.length)) = true)
    (hd : drawOkP cfg ops st st' = true) (h : absRun (cfg.placed st.heap.length (newDsts ops.toList)) ops ops.toList (st.hold n) st') (hR : Rel st w0 a w) (hQ : ∀ a' w', Rel st' w0 a' w' → Q .normal a' w') : (Code.region id ops true).wp cfg.P Q a w := by
  unfold drawOkP at hd
  simp only [Bool.and_eq_true] at hd
  obtain ⟨⟨⟨hok, hds⟩, hB⟩, hmem⟩ := hd
  simp only [Region.lexB, Bool.and_eq_true] at hB
  generalize hcfg : cfg.placed st.heap.length (newDsts ops.toList) = cfgP at *
  have hP : cfgP.P = cfg.P := by rw [← hcfg]; rfl
  have hS' : CfgOk cfgP := by rw [← hcfg]; exact hS
  have hok' : ∀ o ∈ ops.toList, okQ o = true := List.all_eq_true.1 hok
  have hpl : ∀ o ∈ ops.toList, isNewP o = true → (o.dst.bind cfgP.place).isSome = true := fun o ho hn => by rw [← hcfg]; exact placed_some ho hn hds
  unfold memB2 at hmem
  simp only [Bool.and_eq_true, decide_eq_true_eq] at hmem
  obtain ⟨⟨hk, hn⟩, hp⟩ := hmem
  have hk' : ∀ o ∈ ops.toList, tame cfgP o = true := fun o ho => List.all_eq_true.1 hk o ho
  have hfr : FrC cfgP (st.hold n).tmps (st.hold n).heap ∧ ∀ k, Turn cfgP (st.hold n).heap k → w0.n ≤ k := by
    rw [← hcfg]
    exact rel_fresh hR hf hh cfg (newDsts ops.toList) n
  let J : St cod → Prop := fun s => FrC cfgP s.tmps s.heap ∧ ∀ k, Turn cfgP s.heap k → w0.n ≤ k
  have hJ : ∀ o ∈ ops.toList, ∀ s s', J s → absStep cfgP ops o s s' → J s' := fun o ho s s' ⟨h1, h2⟩ hst =>
    let ⟨g1, g2⟩ := fr_step (hok' o ho) (hk' o ho) (hpl o ho) h1 hst
    ⟨g1, fun k hk => h2 k (g2 k hk)⟩
  have hin : ∀ {j : Nat} {o : Oper}, ops[j]? = some o → o ∈ ops.toList := fun h => by
    rw [← Array.getElem?_toList] at h
    exact List.mem_of_getElem? h
  have hrun := runI_and (I := fun s => Btw (st.hold n).tmps st'.tmps s.tmps) (J := J) hJ (fun o ho => ho) (runI_btw h hk' hn (fun _ => .inl rfl)) hfr
  have hany := absAny_lex (Q := fun s => s = st') (fun i j oi oj hij hi hj => by
    have := all_pairs hp hij hi hj
    simp only [Bool.or_eq_true] at this
    rcases this with (hc | hc) | hc
    · refine .inl fun hap s s1 s2 hI k1 k2 => ?_
      obtain ⟨t1, q1, q2, q3⟩ := swap_btw hI.1 k1 k2 hap hc
      exact ⟨t1, q1, q2, fun h2 => ⟨q3 h2.1, hJ oj (hin hj) s t1 hI.2 q1⟩⟩
    · exact .inr hc
    · refine .inl fun hap s s1 s2 hI k1 k2 => ?_
      obtain ⟨t1, q1, q2, q3⟩ := swap_mem hI.1 k1 k2 hap hc
      exact ⟨t1, q1, q2, fun h2 => ⟨q3 h2.1, hJ oj (hin hj) s t1 hI.2 q1⟩⟩) ops.toList 0 (Array.replicate ops.size false) (st.hold n) st' (by simp) (fun j o _ hl => by simp [Array.getElem?_replicate] at hl; split at hl <;> simp_all) (fun j hj => by omega) (by simpa using hB.2) hrun rfl
  have hw := abs_wpAny hS' (w0 := w0) (Q' := Q) (fun s hI => hI.2) (fun s a' w' hs hR' => by subst hs; exact hQ a' w' hR') _ _ (st.hold n) a w.drew hany (hold_rel n (rel_drew hR))
  rw [hP] at hw
  exact wp_region_any hm (by simpa using hw)

/-- A region, whether it draws its order or not. -/
theorem region_sound {cfg : Cfg cod} (hS : CfgOk cfg) (hpl : ∀ d, cfg.place d = none) (hm : cfg.P.follows .mixedOrders = true) {id : Nat} {ops : Array Oper} {draw : Bool} {st st' : St cod} {w0 : Base} {w : World} {a : Act} {Q : Exit → Act → World → Prop}
    (hd : draw = true → drawOk cfg ops st st' = true) (h : absRun cfg ops ops.toList st st') (hR : Rel st w0 a w) (hQ : ∀ a' w', Rel st' w0 a' w' → Q .normal a' w') : (Code.region id ops draw).wp cfg.P Q a w := by
  cases draw with
  | false => exact wp_region_list (run_wpList hS hpl ops.toList st st' a w h hR hQ)
  | true =>
    have hd := hd rfl
    unfold drawOk at hd
    simp only [Bool.and_eq_true, Bool.or_eq_true] at hd
    obtain ⟨hB, hmem⟩ := hd
    simp only [Region.lexB, Bool.and_eq_true] at hB
    have fin : ∀ I : St cod → Prop, absAny cfg ops I (fun s => s = st') ops.toList.length (Array.replicate ops.size false) st → (Code.region id ops true).wp cfg.P Q a w := fun I hI => by
      refine wp_region_any hm (abs_wpAny hS (I := I) (Q := fun s => s = st') (fun s _ => ⟨FrC.none hpl _ _, fun k ⟨⟨d, hd⟩, _⟩ => by rw [hpl d] at hd; cases hd⟩) (fun s a' w' hs hR' => by subst hs; exact hQ a' w' hR') _ _ st a _ (by simpa using hI) ?_)
      obtain ⟨env, hF, hdf, G, hb, hK⟩ := hR
      exact ⟨env, hF, hdf, G.keep (Nat.le_refl _) (fun _ _ => rfl), hb.drew, hK⟩
    rcases hmem with hmem | hmem
    · refine fin (fun _ => True) (absAny_lex (fun i j oi oj hij hi hj => ?_) ops.toList 0 _ st st' (by simp) (fun j o _ hl => by simp [Array.getElem?_replicate] at hl; split at hl <;> simp_all) (fun j hj => by omega) (by simpa using hB.2) (runI_true h) rfl)
      have := all_pairs hmem hij hi hj
      simp only [Bool.or_eq_true] at this
      rcases this with hc | hc
      · exact .inl fun hap s s1 s2 _ k1 k2 => let ⟨t1, q1, q2⟩ := swap_steps k1 k2 hap hc; ⟨t1, q1, q2, fun _ => trivial⟩
      · exact .inr hc
    · unfold memB2 at hmem
      simp only [Bool.and_eq_true, decide_eq_true_eq] at hmem
      obtain ⟨⟨hk, hn⟩, hp⟩ := hmem
      have hk' : ∀ o ∈ ops.toList, tame cfg o = true := fun o ho => List.all_eq_true.1 hk o ho
      refine fin (fun s => Btw st.tmps st'.tmps s.tmps) (absAny_lex (fun i j oi oj hij hi hj => ?_) ops.toList 0 _ st st' (by simp) (fun j o _ hl => by simp [Array.getElem?_replicate] at hl; split at hl <;> simp_all) (fun j hj => by omega) (by simpa using hB.2) (runI_btw h hk' hn (fun _ => .inl rfl)) rfl)
      have := all_pairs hp hij hi hj
      simp only [Bool.or_eq_true] at this
      rcases this with (hc | hc) | hc
      · exact .inl fun hap s s1 s2 hI k1 k2 => swap_btw hI k1 k2 hap hc
      · exact .inr hc
      · exact .inl fun hap s s1 s2 hI k1 k2 => swap_mem hI k1 k2 hap hc
end
end Go.Proofs.YtiolfkmkbccndaaGreatDoor.Sym
