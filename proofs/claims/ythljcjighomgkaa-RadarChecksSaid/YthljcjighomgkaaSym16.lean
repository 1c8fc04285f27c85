/- A symbolic run is sound: a region that draws its order, whatever the order. -/
import Derived.Test.YthljcjighomgkaaSym15
namespace Go.Proofs.Ythljcjighomgkaa.Sym
open Go.RowKit

section
variable {cod : Nat → Codec}

/-- Which of the first n operations wait for operation i, directly or not. -/
def depL (ops : Array Oper) (i : Nat) : Nat → List Bool
  | 0 => []
  | n + 1 => depL ops i n ++ [match ops[n]? with
    | some o => o.after.any fun e => Region.binds .any e && (e.on == i || (depL ops i n).getD e.on false)
    | none => false]
def memB (cfg : Cfg cod) (ops : Array Oper) : Bool :=
  (List.range ops.size).all fun i => (List.range ops.size).all fun j => decide (j ≤ i) ||
    match ops[i]?, ops[j]? with
    | some oi, some oj => compat (kindOf cfg oi) (kindOf cfg oj) || (depL ops i (j + 1)).getD j false
    | _, _ => true
def Closed (ops : Array Oper) (listed : Array Bool) : Prop :=
  ∀ j o, ops[j]? = some o → listed.getD j false = true → ∀ e ∈ o.after, Region.binds .any e = true → listed.getD e.on false = true

theorem depL_length (ops : Array Oper) (i : Nat) : ∀ n, (depL ops i n).length = n
  | 0 => rfl
  | n + 1 => by rw [depL, List.length_append, depL_length ops i n]; rfl
theorem dep_spec {ops : Array Oper} {i : Nat} {listed : Array Bool} (hc : Closed ops listed) (hi : listed.getD i false = false) : ∀ n j, (depL ops i n).getD j false = true → listed.getD j false = false
  | 0, j, h => by simp [depL] at h
  | n + 1, j, h => by
    rw [depL] at h
    have hlen := depL_length ops i n
    rcases Nat.lt_trichotomy j n with hj | hj | hj
    · refine dep_spec hc hi n j ?_
      simp only [List.getD] at h ⊢
      rwa [List.getElem?_append_left (by omega)] at h
    · subst hj
      simp only [List.getD] at h
      rw [List.getElem?_append_right (by omega), hlen, Nat.sub_self] at h
      simp only [List.getElem?_cons_zero, Option.getD_some] at h
      cases ho : ops[j]? with
      | none => rw [ho] at h; cases h
      | some o =>
        rw [ho] at h
        simp only at h
        rw [Array.any_eq_true'] at h
        obtain ⟨e, he, hb⟩ := h
        simp only [Bool.and_eq_true, Bool.or_eq_true, beq_iff_eq] at hb
        cases hl : listed.getD j false with
        | false => rfl
        | true =>
          have := hc j o ho hl e he hb.1
          rcases hb.2 with h1 | h1
          · rw [h1, hi] at this; cases this
          · have := dep_spec hc hi j e.on h1
            simp_all
    · simp only [List.getD] at h
      rw [List.getElem?_eq_none (by rw [List.length_append, hlen]; simp; omega)] at h
      cases h
/-- A ready operation waits for none that is not listed. -/
theorem ready_dep {ops : Array Oper} {i j : Nat} {listed : Array Bool} (hc : Closed ops listed) (hi : listed.getD i false = false) (hj : j ∈ Region.ready .any ops listed) : (depL ops i (j + 1)).getD j false = false := by
  obtain ⟨_, o, ho, hall⟩ := mem_ready.1 hj
  cases h : (depL ops i (j + 1)).getD j false with
  | false => rfl
  | true =>
    rw [depL] at h
    simp only [List.getD] at h
    have hlen := depL_length ops i j
    rw [List.getElem?_append_right (by omega), hlen, Nat.sub_self] at h
    simp only [List.getElem?_cons_zero, Option.getD_some, ho] at h
    rw [Array.any_eq_true'] at h
    obtain ⟨e, he, hb⟩ := h
    simp only [Bool.and_eq_true, Bool.or_eq_true, beq_iff_eq] at hb
    have h1 := hall e he hb.1
    rcases hb.2 with h2 | h2
    · rw [h2, hi] at h1; cases h1
    · have := dep_spec hc hi j e.on h2
      rw [this] at h1; cases h1
theorem closed_set {ops : Array Oper} {listed : Array Bool} {i : Nat} (hc : Closed ops listed) (hi : i ∈ Region.ready .any ops listed) : Closed ops (listed.setIfInBounds i true) := by
  intro j o ho hl e he hb
  obtain ⟨_, oi, hoi, hall⟩ := mem_ready.1 hi
  by_cases hji : i = j
  · subst hji
    rw [hoi] at ho
    cases ho
    exact getD_set_true (hall e he hb)
  · rw [getD_set_ne false hji] at hl
    exact getD_set_true (hc j o ho hl e he hb)
theorem ready_unlisted {ops : Array Oper} {listed : Array Bool} {i : Nat} (hi : i ∈ Region.ready .any ops listed) : listed.getD i false = false ∧ i < listed.size := by
  have h := (mem_ready.1 hi).1
  rcases Nat.lt_or_ge i listed.size with hl | hl
  · simp only [Array.getD_eq_getD_getElem?, Array.getElem?_eq_getElem hl, Option.getD_some] at h ⊢
    exact ⟨h, hl⟩
  · simp [Array.getElem?_eq_none hl] at h

def absOp (cfg : Cfg cod) (ops : Array Oper) (i : Nat) (st st' : St cod) : Prop :=
  match ops[i]? with
  | none => st' = st
  | some o => absStep cfg ops o st st'
def absAny (cfg : Cfg cod) (ops : Array Oper) (Q : St cod → Prop) : Nat → Array Bool → St cod → Prop
  | 0, listed, st => Region.ready .any ops listed = [] ∧ Q st
  | n + 1, listed, st => (Region.ready .any ops listed = [] → Q st) ∧ ∀ i ∈ Region.ready .any ops listed, ∃ st', absOp cfg ops i st st' ∧ absAny cfg ops Q n (listed.setIfInBounds i true) st'

theorem abs_wpAny {cfg : Cfg cod} (hS : ∀ g s, cfg.summ g = some s → Sound cfg.P cod g s) {ops : Array Oper} {w0 : Base} {Q : St cod → Prop} {Q' : Exit → Act → World → Prop} (hQ : ∀ st a w, Q st → Rel st w0 a w → Q' .normal a w) :
    ∀ (n : Nat) (listed : Array Bool) (st : St cod) (a : Act) (w : World), absAny cfg ops Q n listed st → Rel st w0 a w → wpAny cfg.P .any ops Q' n listed a w
  | 0, _, st, a, w, h, hR => ⟨h.1, hQ st a w h.2 hR⟩
  | n + 1, listed, st, a, w, h, hR => by
    refine ⟨fun h0 => hQ st a w (h.1 h0) hR, fun i hi => ?_⟩
    obtain ⟨st', h1, h2⟩ := h.2 i hi
    unfold absOp at h1
    unfold wpOp
    cases ho : ops[i]? with
    | none =>
      rw [ho] at h1
      simp only at h1
      subst h1
      exact abs_wpAny hS hQ n _ st' a w h2 hR
    | some o =>
      rw [ho] at h1
      exact abs_wp hS h1 hR fun a' w' hR' => abs_wpAny hS hQ n _ st' a' w' h2 hR'

theorem absAny_first {cfg : Cfg cod} {ops : Array Oper} {Q : St cod → Prop} {i : Nat} {oi : Oper} (hi : ops[i]? = some oi) :
    ∀ (fuel : Nat) (listed : Array Bool) (st s1 : St cod), Closed ops listed →
      (∀ j oj, ops[j]? = some oj → j ≠ i → listed.getD j true = false → (∀ e ∈ oj.after, Region.binds .any e = true → e.on ≠ i) → oi.apart ops oj = true) →
      (∀ j oj, ops[j]? = some oj → j ≠ i → listed.getD j true = false → compat (kindOf cfg oi) (kindOf cfg oj) = true ∨ (depL ops i (j + 1)).getD j false = true) →
      i ∈ Region.ready .any ops listed → absStep cfg ops oi st s1 → absAny cfg ops Q fuel (listed.setIfInBounds i true) s1 → absAny cfg ops Q (fuel + 1) listed st := by
  intro fuel
  induction fuel with
  | zero =>
    intro listed st s1 hcl _ _ hr hy H
    refine ⟨fun h => (by rw [h] at hr; cases hr), fun j hj => ?_⟩
    by_cases hji : j = i
    · subst hji; exact ⟨s1, by unfold absOp; rw [hi]; exact hy, H⟩
    · have := ready_mono hj hji
      rw [H.1] at this
      cases this
  | succ fuel ih =>
    intro listed st s1 hcl hfree hmem hr hy H
    refine ⟨fun h => (by rw [h] at hr; cases hr), fun j hj => ?_⟩
    by_cases hji : j = i
    · subst hji; exact ⟨s1, by unfold absOp; rw [hi]; exact hy, H⟩
    · obtain ⟨s12, h1, hrest⟩ := H.2 j (ready_mono hj hji)
      obtain ⟨hjun, oj, hoj, hall⟩ := mem_ready.1 hj
      have hiun := ready_unlisted hr
      have hnot : ∀ e ∈ oj.after, Region.binds .any e = true → e.on ≠ i := fun e he hb heq => by
        have h1 := hall e he hb
        rw [heq, hiun.1] at h1
        cases h1
      have hcomp : compat (kindOf cfg oi) (kindOf cfg oj) = true := by
        rcases hmem j oj hoj hji hjun with h | h
        · exact h
        · rw [ready_dep hcl hiun.1 hj] at h; cases h
      unfold absOp at h1
      rw [hoj] at h1
      obtain ⟨t1, k1, k2⟩ := swap_steps hy h1 (hfree j oj hoj hji hjun hnot) hcomp
      refine ⟨t1, by unfold absOp; rw [hoj]; exact k1, ?_⟩
      have keepU : ∀ k, (listed.setIfInBounds j true).getD k true = false → listed.getD k true = false := fun k hun => by
        by_cases hjk : j = k
        · subst hjk; exact hjun
        · rw [getD_set_ne true hjk] at hun; exact hun
      refine ih (listed.setIfInBounds j true) t1 s12 (closed_set hcl hj) (fun k ok hk hki hun hno => hfree k ok hk hki (keepU k hun) hno) (fun k ok hk hki hun => hmem k ok hk hki (keepU k hun)) (ready_mono hr (Ne.symm hji)) k2 ?_
      rw [Array.setIfInBounds_comm _ _ hji]
      exact hrest

theorem absAny_lex {cfg : Cfg cod} {ops : Array Oper} {Q : St cod → Prop} (hm : memB cfg ops = true) : ∀ (l : List Oper) (k : Nat) (listed : Array Bool) (st st' : St cod), (∀ j, l[j]? = ops[k + j]?) → Closed ops listed → (∀ j, j < k → listed.getD j true = true) →
    Region.lexFrom .any ops l.length k listed = true → absRun cfg ops l st st' → Q st' → absAny cfg ops Q l.length listed st
  | [], k, listed, st, st', hl, _, _, hB, h, hQ => by
    simp only [absRun] at h
    subst h
    exact ⟨by simpa [Region.lexFrom] using hB, hQ⟩
  | o :: l, k, listed, st, st', hl, hcl, hlow, hB, h, hQ => by
    have h0 : ops[k]? = some o := by simpa using (hl 0).symm
    simp only [List.length_cons, Region.lexFrom, Bool.and_eq_true] at hB
    obtain ⟨⟨hr, hf⟩, hB'⟩ := hB
    obtain ⟨s, h1, h2⟩ := h
    have hr' : k ∈ Region.ready .any ops listed := by simpa using hr
    refine absAny_first h0 l.length listed st s hcl (Region.free_spec h0 hf) (fun j oj hj hne hun => ?_) hr' h1 ?_
    · have hkj : k < j := by
        rcases Nat.lt_trichotomy j k with hh | hh | hh
        · rw [hlow j hh] at hun; cases hun
        · exact absurd hh hne
        · exact hh
      have hlt : j < ops.size := (Array.getElem?_eq_some_iff.1 hj).1
      have hlk : k < ops.size := (Array.getElem?_eq_some_iff.1 h0).1
      have := List.all_eq_true.1 (List.all_eq_true.1 hm k (List.mem_range.2 hlk)) j (List.mem_range.2 hlt)
      simp only [h0, hj, Bool.or_eq_true, decide_eq_true_eq] at this
      rcases this with h | h | h
      · omega
      · exact .inl h
      · exact .inr h
    · refine absAny_lex hm l (k + 1) _ s st' (fun j => by have := hl (j + 1); simpa [Nat.add_assoc, Nat.add_comm 1 j] using this) (closed_set hcl hr') (fun j hj => ?_) hB' h2 hQ
      by_cases e : k = j
      · subst e
        have := (ready_unlisted hr').2
        simp [this]
      · rw [getD_set_ne true e]
        exact hlow j (by omega)

/-- May this region be run in the text's order alone? -/
def drawOk (cfg : Cfg cod) (ops : Array Oper) : Bool := Region.lexB .any ops && memB cfg ops

/-- A region, whether it draws its order or not. -/
theorem region_sound {cfg : Cfg cod} (hS : ∀ g s, cfg.summ g = some s → Sound cfg.P cod g s) (hm : cfg.P.follows .mixedOrders = true) {id : Nat} {ops : Array Oper} {draw : Bool} {st st' : St cod} {w0 : Base} {w : World} {a : Act} {Q : Exit → Act → World → Prop}
    (hd : draw = true → drawOk cfg ops = true) (h : absRun cfg ops ops.toList st st') (hR : Rel st w0 a w) (hQ : ∀ a' w', Rel st' w0 a' w' → Q .normal a' w') : (Code.region id ops draw).wp cfg.P Q a w := by
  cases draw with
  | false => exact wp_region_list (run_wpList hS ops.toList st st' a w h hR hQ)
  | true =>
    have hd := hd rfl
    unfold drawOk at hd
    simp only [Bool.and_eq_true] at hd
    obtain ⟨hB, hmem⟩ := hd
    simp only [Region.lexB, Bool.and_eq_true] at hB
    refine wp_region_any hm (abs_wpAny hS (Q := fun s => s = st') (fun s a' w' hs hR' => by subst hs; exact hQ a' w' hR') _ _ st a _ ?_ ?_)
    · have := absAny_lex (Q := fun s => s = st') hmem ops.toList 0 (Array.replicate ops.size false) st st' (by simp) (fun j o _ hl => by simp [Array.getElem?_replicate] at hl; split at hl <;> simp_all) (fun j hj => by omega) (by simpa using hB.2) h rfl
      simpa using this
    · obtain ⟨env, hF, hdf, G, hb, hK⟩ := hR
      exact ⟨env, hF, hdf, G.keep (Nat.le_refl _) (fun _ _ => rfl), hb.drew, hK⟩
end
end Go.Proofs.Ythljcjighomgkaa.Sym
