/- A symbolic run is sound: a region that draws its order, whatever the order. -/
import Derived.Test.YtffcfbamcaoidaaSym15m
namespace Go.Proofs.Ytffcfbamcaoidaa.Sym
open Go.RowKit

section
variable {cod : Nat → Codec}

/-- Which of the first n operations wait for operation i, directly or not. -/
def depL (ops : Array Oper) (i : Nat) : Nat → List Bool
  | 0 => []
  | n + 1 => depL ops i n ++ [match ops[n]? with
    | some o => o.after.any fun e => Region.binds .any e && (e.on == i || (depL ops i n).getD e.on false)
    | none => false]
def memB (cfg : Cfg cod) (ops : Array Oper) : Bool :=
  (List.range ops.size).all fun i => (List.range ops.size).all fun j => decide (j ≤ i) ||
    match ops[i]?, ops[j]? with
    | some oi, some oj => compat (kindOf cfg oi) (kindOf cfg oj) || (depL ops i (j + 1)).getD j false
    | _, _ => true
def Closed (ops : Array Oper) (listed : Array Bool) : Prop :=
  ∀ j o, ops[j]? = some o → listed.getD j false = true → ∀ e ∈ o.after, Region.binds .any e = true → listed.getD e.on false = true

theorem depL_length (ops : Array Oper) (i : Nat) : ∀ n, (depL ops i n).length = n
  | 0 => rfl
  | n + 1 => by rw [depL, List.length_append, depL_length ops i n]; rfl
theorem dep_spec {ops : Array Oper} {i : Nat} {listed : Array Bool} (hc : Closed ops listed) (hi : listed.getD i false = false) : ∀ n j, (depL ops i n).getD j false = true → listed.getD j false = false
  | 0, j, h => by simp [depL] at h
  | n + 1, j, h => by
    rw [depL] at h
    have hlen := depL_length ops i n
    rcases Nat.lt_trichotomy j n with hj | hj | hj
    · refine dep_spec hc hi n j ?_
      simp only [List.getD] at h ⊢
      rwa [List.getElem?_append_left (by omega)] at h
    · subst hj
      simp only [List.getD] at h
      rw [List.getElem?_append_right (by omega), hlen, Nat.sub_self] at h
      simp only [List.getElem?_cons_zero, Option.getD_some] at h
      cases ho : ops[j]? with
      | none => rw [ho] at h; cases h
      | some o =>
        rw [ho] at h
        simp only at h
        rw [Array.any_eq_true'] at h
        obtain ⟨e, he, hb⟩ := h
        simp only [Bool.and_eq_true, Bool.or_eq_true, beq_iff_eq] at hb
        cases hl : listed.getD j false with
        | false => rfl
        | true =>
          have := hc j o ho hl e he hb.1
          rcases hb.2 with h1 | h1
          · rw [h1, hi] at this; cases this
          · have := dep_spec hc hi j e.on h1
            simp_all
    · simp only [List.getD] at h
      rw [List.getElem?_eq_none (by rw [List.length_append, hlen]; simp; omega)] at h
      cases h
/-- A ready operation waits for none that is not listed. -/
theorem ready_dep {ops : Array Oper} {i j : Nat} {listed : Array Bool} (hc : Closed ops listed) (hi : listed.getD i false = false) (hj : j ∈ Region.ready .any ops listed) : (depL ops i (j + 1)).getD j false = false := by
  obtain ⟨_, o, ho, hall⟩ := mem_ready.1 hj
  cases h : (depL ops i (j + 1)).getD j false with
  | false => rfl
  | true =>
    rw [depL] at h
    simp only [List.getD] at h
    have hlen := depL_length ops i j
    rw [List.getElem?_append_right (by omega), hlen, Nat.sub_self] at h
    simp only [List.getElem?_cons_zero, Option.getD_some, ho] at h
    rw [Array.any_eq_true'] at h
    obtain ⟨e, he, hb⟩ := h
    simp only [Bool.and_eq_true, Bool.or_eq_true, beq_iff_eq] at hb
    have h1 := hall e he hb.1
    rcases hb.2 with h2 | h2
    · rw [h2, hi] at h1; cases h1
    · have := dep_spec hc hi j e.on h2
      rw [this] at h1; cases h1
theorem closed_set {ops : Array Oper} {listed : Array Bool} {i : Nat} (hc : Closed ops listed) (hi : i ∈ Region.ready .any ops listed) : Closed ops (listed.setIfInBounds i true) := by
  intro j o ho hl e he hb
  obtain ⟨_, oi, hoi, hall⟩ := mem_ready.1 hi
  by_cases hji : i = j
  · subst hji
    rw [hoi] at ho
    cases ho
    exact getD_set_true (hall e he hb)
  · rw [getD_set_ne false hji] at hl
    exact getD_set_true (hc j o ho hl e he hb)
theorem ready_unlisted {ops : Array Oper} {listed : Array Bool} {i : Nat} (hi : i ∈ Region.ready .any ops listed) : listed.getD i false = false ∧ i < listed.size := by
  have h := (mem_ready.1 hi).1
  rcases Nat.lt_or_ge i listed.size with hl | hl
  · simp only [Array.getD_eq_getD_getElem?, Array.getElem?_eq_getElem hl, Option.getD_some] at h ⊢
    exact ⟨h, hl⟩
  · simp [Array.getElem?_eq_none hl] at h

def absOp (cfg : Cfg cod) (ops : Array Oper) (i : Nat) (st st' : St cod) : Prop :=
  match ops[i]? with
  | none => st' = st
  | some o => absStep cfg ops o st st'
def absAny (cfg : Cfg cod) (ops : Array Oper) (I Q : St cod → Prop) : Nat → Array Bool → St cod → Prop
  | 0, listed, st => I st ∧ Region.ready .any ops listed = [] ∧ Q st
  | n + 1, listed, st => I st ∧ (Region.ready .any ops listed = [] → Q st) ∧ ∀ i ∈ Region.ready .any ops listed, ∃ st', absOp cfg ops i st st' ∧ absAny cfg ops I Q n (listed.setIfInBounds i true) st'
theorem absAny_inv {cfg : Cfg cod} {ops : Array Oper} {I Q : St cod → Prop} {n : Nat} {listed : Array Bool} {st : St cod} (h : absAny cfg ops I Q n listed st) : I st := by
  cases n with
  | zero => exact h.1
  | succ n => exact h.1

theorem abs_wpAny {cfg : Cfg cod} (hS : CfgOk cfg) {ops : Array Oper} {w0 : Base} {I Q : St cod → Prop} {Q' : Exit → Act → World → Prop} (hQ : ∀ st a w, Q st → Rel st w0 a w → Q' .normal a w) :
    ∀ (n : Nat) (listed : Array Bool) (st : St cod) (a : Act) (w : World), absAny cfg ops I Q n listed st → Rel st w0 a w → wpAny cfg.P .any ops Q' n listed a w
  | 0, _, st, a, w, h, hR => ⟨h.2.1, hQ st a w h.2.2 hR⟩
  | n + 1, listed, st, a, w, h, hR => by
    refine ⟨fun h0 => hQ st a w (h.2.1 h0) hR, fun i hi => ?_⟩
    obtain ⟨st', h1, h2⟩ := h.2.2 i hi
    unfold absOp at h1
    unfold wpOp
    cases ho : ops[i]? with
    | none =>
      rw [ho] at h1
      simp only at h1
      subst h1
      exact abs_wpAny hS hQ n _ st' a w h2 hR
    | some o =>
      rw [ho] at h1
      exact abs_wp hS h1 hR fun a' w' hR' => abs_wpAny hS hQ n _ st' a' w' h2 hR'

theorem absAny_first {cfg : Cfg cod} {ops : Array Oper} {I Q : St cod → Prop} {i : Nat} {oi : Oper} (hi : ops[i]? = some oi) :
    ∀ (fuel : Nat) (listed : Array Bool) (st s1 : St cod), Closed ops listed →
      (∀ j oj, ops[j]? = some oj → j ≠ i → listed.getD j true = false → (∀ e ∈ oj.after, Region.binds .any e = true → e.on ≠ i) → oi.apart ops oj = true) →
      (∀ j oj, ops[j]? = some oj → j ≠ i → listed.getD j true = false → (oi.apart ops oj = true → ∀ st s1 s2, I st → absStep cfg ops oi st s1 → absStep cfg ops oj s1 s2 → ∃ t1, absStep cfg ops oj st t1 ∧ absStep cfg ops oi t1 s2 ∧ (I s2 → I t1)) ∨ (depL ops i (j + 1)).getD j false = true) →
      i ∈ Region.ready .any ops listed → I st → absStep cfg ops oi st s1 → absAny cfg ops I Q fuel (listed.setIfInBounds i true) s1 → absAny cfg ops I Q (fuel + 1) listed st := by
  intro fuel
  induction fuel with
  | zero =>
    intro listed st s1 hcl _ _ hr hI hy H
    refine ⟨hI, fun h => (by rw [h] at hr; cases hr), fun j hj => ?_⟩
    by_cases hji : j = i
    · subst hji; exact ⟨s1, by unfold absOp; rw [hi]; exact hy, H⟩
    · have := ready_mono hj hji
      rw [H.2.1] at this
      cases this
  | succ fuel ih =>
    intro listed st s1 hcl hfree hmem hr hI hy H
    refine ⟨hI, fun h => (by rw [h] at hr; cases hr), fun j hj => ?_⟩
    by_cases hji : j = i
    · subst hji; exact ⟨s1, by unfold absOp; rw [hi]; exact hy, H⟩
    · obtain ⟨s12, h1, hrest⟩ := H.2.2 j (ready_mono hj hji)
      obtain ⟨hjun, oj, hoj, hall⟩ := mem_ready.1 hj
      have hiun := ready_unlisted hr
      have hnot : ∀ e ∈ oj.after, Region.binds .any e = true → e.on ≠ i := fun e he hb heq => by
        have h1 := hall e he hb
        rw [heq, hiun.1] at h1
        cases h1
      have hap := hfree j oj hoj hji hjun hnot
      have hcomp : ∀ st s1 s2, I st → absStep cfg ops oi st s1 → absStep cfg ops oj s1 s2 → ∃ t1, absStep cfg ops oj st t1 ∧ absStep cfg ops oi t1 s2 ∧ (I s2 → I t1) := by
        rcases hmem j oj hoj hji hjun with h | h
        · exact h hap
        · rw [ready_dep hcl hiun.1 hj] at h; cases h
      unfold absOp at h1
      rw [hoj] at h1
      obtain ⟨t1, k1, k2, k3⟩ := hcomp _ _ _ hI hy h1
      refine ⟨t1, by unfold absOp; rw [hoj]; exact k1, ?_⟩
      have keepU : ∀ k, (listed.setIfInBounds j true).getD k true = false → listed.getD k true = false := fun k hun => by
        by_cases hjk : j = k
        · subst hjk; exact hjun
        · rw [getD_set_ne true hjk] at hun; exact hun
      refine ih (listed.setIfInBounds j true) t1 s12 (closed_set hcl hj) (fun k ok hk hki hun hno => hfree k ok hk hki (keepU k hun) hno) (fun k ok hk hki hun => hmem k ok hk hki (keepU k hun)) (ready_mono hr (Ne.symm hji)) (k3 (absAny_inv hrest)) k2 ?_
      rw [Array.setIfInBounds_comm _ _ hji]
      exact hrest

/-- A run in the text's order, with what holds all along. -/
def absRunI (cfg : Cfg cod) (ops : Array Oper) (I : St cod → Prop) : List Oper → St cod → St cod → Prop
  | [], st, st' => I st ∧ st' = st
  | o :: l, st, st' => I st ∧ ∃ s, absStep cfg ops o st s ∧ absRunI cfg ops I l s st'
theorem runI_true {cfg : Cfg cod} {ops : Array Oper} : ∀ {l : List Oper} {st st' : St cod}, absRun cfg ops l st st' → absRunI cfg ops (fun _ => True) l st st'
  | [], _, _, h => ⟨trivial, h⟩
  | _ :: _, _, _, ⟨s, h1, h2⟩ => ⟨trivial, s, h1, runI_true h2⟩
def dsts (l : List Oper) : List Nat := l.filterMap (·.dst)
theorem eff_kill {cfg : Cfg cod} {ops : Array Oper} {o : Oper} {st : St cod} {out : Out cod} (hk : kindOf cfg o ≤ 3) (h : eff cfg ops o st out) : out.kill = [] := (eff_kind h).1 hk
theorem run_rest {cfg : Cfg cod} {ops : Array Oper} : ∀ {l : List Oper} {st st' : St cod}, absRun cfg ops l st st' → (∀ o ∈ l, kindOf cfg o ≤ 3) → ∀ t, t ∉ dsts l → st'.tmps.getD t (.c .junk) = st.tmps.getD t (.c .junk)
  | [], _, _, h, _, _, _ => by
    simp only [absRun] at h
    rw [h]
  | o :: l, st, st', ⟨s, h1, h2⟩, hk, t, ht => by
    have hl : t ∉ dsts l := fun h => ht (by
      unfold dsts at *
      rw [List.filterMap_cons]
      split
      · exact h
      · exact List.mem_cons_of_mem _ h)
    rw [run_rest h2 (fun x hx => hk x (List.mem_cons_of_mem _ hx)) t hl]
    obtain ⟨out, e, rfl⟩ := step_eff.1 h1
    rw [put_plain (eff_kill (hk o (List.mem_cons_self ..)) e)]
    cases hd : o.dst with
    | none => rfl
    | some d =>
      have : d ≠ t := fun e => ht (by
        subst e
        unfold dsts
        rw [List.filterMap_cons, hd]
        exact List.mem_cons_self ..)
      simp only [List.getD]
      rw [List.getElem?_set_ne this]
theorem runI_btw {cfg : Cfg cod} {ops : Array Oper} {a : List SV} : ∀ {l : List Oper} {st st' : St cod}, absRun cfg ops l st st' → (∀ o ∈ l, kindOf cfg o ≤ 3) → (dsts l).Nodup → Btw a st'.tmps st.tmps → absRunI cfg ops (fun s => Btw a st'.tmps s.tmps) l st st'
  | [], _, _, h, _, _, hB => ⟨hB, h⟩
  | o :: l, st, st', ⟨s, h1, h2⟩, hk, hn, hB => by
    have hk' : ∀ x ∈ l, kindOf cfg x ≤ 3 := fun x hx => hk x (List.mem_cons_of_mem _ hx)
    refine ⟨hB, s, h1, runI_btw h2 hk' ?_ ?_⟩
    · unfold dsts at hn ⊢
      rw [List.filterMap_cons] at hn
      split at hn
      · exact hn
      · exact (List.nodup_cons.1 hn).2
    · intro t
      obtain ⟨out, e, rfl⟩ := step_eff.1 h1
      have hr := run_rest h2 hk' t
      rw [put_plain (eff_kill (hk o (List.mem_cons_self ..)) e)] at hr ⊢
      cases hd : o.dst with
      | none => exact hB t
      | some d =>
        simp only [hd] at hr ⊢
        by_cases hdt : d = t
        · subst hdt
          refine .inr (hr ?_).symm
          unfold dsts at hn ⊢
          rw [List.filterMap_cons, hd] at hn
          exact (List.nodup_cons.1 hn).1
        · have := hB t
          simp only [List.getD] at this ⊢
          rw [List.getElem?_set_ne hdt]
          exact this
theorem absAny_lex {cfg : Cfg cod} {ops : Array Oper} {I Q : St cod → Prop} (hm : ∀ i j oi oj, i < j → ops[i]? = some oi → ops[j]? = some oj → (oi.apart ops oj = true → ∀ st s1 s2, I st → absStep cfg ops oi st s1 → absStep cfg ops oj s1 s2 → ∃ t1, absStep cfg ops oj st t1 ∧ absStep cfg ops oi t1 s2 ∧ (I s2 → I t1)) ∨ (depL ops i (j + 1)).getD j false = true) : ∀ (l : List Oper) (k : Nat) (listed : Array Bool) (st st' : St cod), (∀ j, l[j]? = ops[k + j]?) → Closed ops listed → (∀ j, j < k → listed.getD j true = true) →
    Region.lexFrom .any ops l.length k listed = true → absRunI cfg ops I l st st' → Q st' → absAny cfg ops I Q l.length listed st
  | [], k, listed, st, st', hl, _, _, hB, h, hQ => by
    obtain ⟨hI, h⟩ := h
    subst h
    exact ⟨hI, by simpa [Region.lexFrom] using hB, hQ⟩
  | o :: l, k, listed, st, st', hl, hcl, hlow, hB, h, hQ => by
    have h0 : ops[k]? = some o := by simpa using (hl 0).symm
    simp only [List.length_cons, Region.lexFrom, Bool.and_eq_true] at hB
    obtain ⟨⟨hr, hf⟩, hB'⟩ := hB
    obtain ⟨hI, s, h1, h2⟩ := h
    have hr' : k ∈ Region.ready .any ops listed := by simpa using hr
    refine absAny_first h0 l.length listed st s hcl (Region.free_spec h0 hf) (fun j oj hj hne hun => ?_) hr' hI h1 ?_
    · have hkj : k < j := by
        rcases Nat.lt_trichotomy j k with hh | hh | hh
        · rw [hlow j hh] at hun; cases hun
        · exact absurd hh hne
        · exact hh
      exact hm k j o oj hkj h0 hj
    · refine absAny_lex hm l (k + 1) _ s st' (fun j => by have := hl (j + 1); simpa [Nat.add_assoc, Nat.add_comm 1 j] using this) (closed_set hcl hr') (fun j hj => ?_) hB' h2 hQ
      by_cases e : k = j
      · subst e
        have := (ready_unlisted hr').2
        simp [this]
      · rw [getD_set_ne true e]
        exact hlow j (by omega)

/-- The pairs that no dependence orders, when the memory that they touch is known at the two ends. -/
def memB2 (cfg : Cfg cod) (ops : Array Oper) (a b : List SV) : Bool :=
  ops.toList.all (fun o => decide (kindOf cfg o ≤ 3)) && decide (dsts ops.toList).Nodup &&
  ((List.range ops.size).all fun i => (List.range ops.size).all fun j => decide (j ≤ i) ||
    match ops[i]?, ops[j]? with
    | some oi, some oj => compat (kindOf cfg oi) (kindOf cfg oj) || (depL ops i (j + 1)).getD j false || apartM cfg a b oi oj
    | _, _ => true)
/-- May this region be run in the text's order alone? From this state to that one. -/
def drawOk (cfg : Cfg cod) (ops : Array Oper) (st st' : St cod) : Bool := Region.lexB .any ops && (memB cfg ops || memB2 cfg ops st.tmps st'.tmps)

theorem all_pairs {ops : Array Oper} {p : Nat → Nat → Oper → Oper → Bool} (h : ((List.range ops.size).all fun i => (List.range ops.size).all fun j => decide (j ≤ i) ||
    match ops[i]?, ops[j]? with
    | some oi, some oj => p i j oi oj
    | _, _ => true) = true) {i j : Nat} {oi oj : Oper} (hij : i < j) (hi : ops[i]? = some oi) (hj : ops[j]? = some oj) : p i j oi oj = true := by
  have hlt : j < ops.size := (Array.getElem?_eq_some_iff.1 hj).1
  have hlk : i < ops.size := (Array.getElem?_eq_some_iff.1 hi).1
  have := List.all_eq_true.1 (List.all_eq_true.1 h i (List.mem_range.2 hlk)) j (List.mem_range.2 hlt)
  simp only [hi, hj, Bool.or_eq_true, decide_eq_true_eq] at this
  rcases this with h | h
  · omega
  · exact h
theorem swap_btw {cfg : Cfg cod} {ops : Array Oper} {a b : List SV} {oi oj : Oper} {st s1 s2 : St cod} (hB : Btw a b st.tmps) (h1 : absStep cfg ops oi st s1) (h2 : absStep cfg ops oj s1 s2) (hap : oi.apart ops oj = true) (hc : compat (kindOf cfg oi) (kindOf cfg oj) = true) :
    ∃ t1, absStep cfg ops oj st t1 ∧ absStep cfg ops oi t1 s2 ∧ (Btw a b s2.tmps → Btw a b t1.tmps) := by
  obtain ⟨t1, k1, k2⟩ := swap_steps h1 h2 hap hc
  refine ⟨t1, k1, k2, fun hb => ?_⟩
  have hki : kindOf cfg oi ≤ 3 := by unfold compat at hc; simp at hc; omega
  have hkj : kindOf cfg oj ≤ 3 := by unfold compat at hc; simp at hc; omega
  obtain ⟨oj', e1, rfl⟩ := step_eff.1 k1
  obtain ⟨oi', e2, rfl⟩ := step_eff.1 k2
  obtain ⟨_, a2, _⟩ := Oper.apart_spec hap
  have kj := eff_kill hkj e1
  have ki := eff_kill hki e2
  rw [put_plain ki, put_plain kj] at hb
  rw [put_plain kj]
  refine btw_put (di := oi.dst) (vi := oi'.v) hB a2 ?_
  have hcomm : setO (setO st.tmps oi.dst oi'.v) oj.dst oj'.v = setO (setO st.tmps oj.dst oj'.v) oi.dst oi'.v := by
    cases hdi : oi.dst with
    | none => rfl
    | some di =>
      cases hdj : oj.dst with
      | none => rfl
      | some dj => exact List.set_comm _ _ (fun e => a2 di hdi (by rw [hdj, e]))
  rw [hcomm]
  exact hb

/-- A region, whether it draws its order or not. -/
theorem region_sound {cfg : Cfg cod} (hS : CfgOk cfg) (hm : cfg.P.follows .mixedOrders = true) {id : Nat} {ops : Array Oper} {draw : Bool} {st st' : St cod} {w0 : Base} {w : World} {a : Act} {Q : Exit → Act → World → Prop}
    (hd : draw = true → drawOk cfg ops st st' = true) (h : absRun cfg ops ops.toList st st') (hR : Rel st w0 a w) (hQ : ∀ a' w', Rel st' w0 a' w' → Q .normal a' w') : (Code.region id ops draw).wp cfg.P Q a w := by
  cases draw with
  | false => exact wp_region_list (run_wpList hS ops.toList st st' a w h hR hQ)
  | true =>
    have hd := hd rfl
    unfold drawOk at hd
    simp only [Bool.and_eq_true, Bool.or_eq_true] at hd
    obtain ⟨hB, hmem⟩ := hd
    simp only [Region.lexB, Bool.and_eq_true] at hB
    have fin : ∀ I : St cod → Prop, absAny cfg ops I (fun s => s = st') ops.toList.length (Array.replicate ops.size false) st → (Code.region id ops true).wp cfg.P Q a w := fun I hI => by
      refine wp_region_any hm (abs_wpAny hS (I := I) (Q := fun s => s = st') (fun s a' w' hs hR' => by subst hs; exact hQ a' w' hR') _ _ st a _ (by simpa using hI) ?_)
      obtain ⟨env, hF, hdf, G, hb, hK⟩ := hR
      exact ⟨env, hF, hdf, G.keep (Nat.le_refl _) (fun _ _ => rfl), hb.drew, hK⟩
    rcases hmem with hmem | hmem
    · refine fin (fun _ => True) (absAny_lex (fun i j oi oj hij hi hj => ?_) ops.toList 0 _ st st' (by simp) (fun j o _ hl => by simp [Array.getElem?_replicate] at hl; split at hl <;> simp_all) (fun j hj => by omega) (by simpa using hB.2) (runI_true h) rfl)
      have := all_pairs hmem hij hi hj
      simp only [Bool.or_eq_true] at this
      rcases this with hc | hc
      · exact .inl fun hap s s1 s2 _ k1 k2 => let ⟨t1, q1, q2⟩ := swap_steps k1 k2 hap hc; ⟨t1, q1, q2, fun _ => trivial⟩
      · exact .inr hc
    · unfold memB2 at hmem
      simp only [Bool.and_eq_true, decide_eq_true_eq] at hmem
      obtain ⟨⟨hk, hn⟩, hp⟩ := hmem
      have hk' : ∀ o ∈ ops.toList, kindOf cfg o ≤ 3 := fun o ho => by simpa using List.all_eq_true.1 hk o ho
      refine fin (fun s => Btw st.tmps st'.tmps s.tmps) (absAny_lex (fun i j oi oj hij hi hj => ?_) ops.toList 0 _ st st' (by simp) (fun j o _ hl => by simp [Array.getElem?_replicate] at hl; split at hl <;> simp_all) (fun j hj => by omega) (by simpa using hB.2) (runI_btw h hk' hn (fun _ => .inl rfl)) rfl)
      have := all_pairs hp hij hi hj
      simp only [Bool.or_eq_true] at this
      rcases this with (hc | hc) | hc
      · exact .inl fun hap s s1 s2 hI k1 k2 => swap_btw hI k1 k2 hap hc
      · exact .inr hc
      · exact .inl fun hap s s1 s2 hI k1 k2 => swap_mem hI k1 k2 hap hc
end
end Go.Proofs.Ytffcfbamcaoidaa.Sym
