/- A row that was struck out and made anew, put back into its old place. -/
import Derived.Test.YtjffboggpofbfaaSym29
namespace Go.Proofs.Ytjffboggpofbfaa.Sym
open Go.RowKit

section
variable {cod : Nat → Codec}
/-- References to m as references to k; those to k are forgotten. -/
def Cell.back (k m : Nat) (c : Cell) : Cell := if c.hs.contains k then .junk else c.ren fun h => if h = m then k else h
def St.back (k m : Nat) (st : St cod) : St cod := { tmps := st.tmps.map (SV.mapC (Cell.back k m)), heap := ((st.heap.map fun o => o.mapC (Cell.back k m)).set k ((getObj st.heap m).mapC (Cell.back k m))).set m .dead }
theorem crel_back {env : Env} {N k m : Nat} (hk : k < N) {c : Cell} {v : Value} (h : crel env N c v) : crel (fun i => if i = k then env m else env i) N (c.back k m) v := by
  unfold Cell.back
  split
  · trivial
  · rename_i hc
    have hne : ∀ j ∈ c.hs, j ≠ k := fun j hj e => by
      subst e
      exact hc (by simpa using hj)
    have e1 : ∀ j, j ∈ c.hs → j < N → (if j = m then k else j) < N ∧ (if (if j = m then k else j) = k then env m else env (if j = m then k else j)) = env j := fun j hj hjN => by
      have := hne j hj
      by_cases e : j = m
      · subst e
        simp [hk]
      · simp [e, this, hjN]
    cases c <;> simp only [crel, Cell.ren, Cell.hs] at * <;> try exact h
    case ptr j i o =>
      obtain ⟨a, b⟩ := e1 j (by simp) h.1
      exact ⟨a, by rw [b]; exact h.2⟩
    case slc j i n t =>
      obtain ⟨a, b⟩ := e1 j (by simp) h.1
      exact ⟨a, by rw [b]; exact h.2⟩
    case own j n =>
      obtain ⟨a, b⟩ := e1 j (by simp) h.1
      exact ⟨a, by rw [b]; exact h.2⟩
    case fn f caps =>
      obtain ⟨h1, h2⟩ := h
      refine ⟨fun c hc' => ?_, ?_⟩
      · obtain ⟨d, hd, rfl⟩ := List.mem_map.1 hc'
        exact (e1 d.1 (List.mem_map.2 ⟨d, hd, rfl⟩) (h1 d hd)).1
      · rw [h2]
        congr 2
        rw [List.map_map]
        refine List.map_congr_left fun d hd => ?_
        simp only [Function.comp]
        rw [(e1 d.1 (List.mem_map.2 ⟨d, hd, rfl⟩) (h1 d hd)).2]
theorem back_rel {st : St cod} {b : Base} {a : Act} {w : World} (k m : Nat) (hkb : k < b.n) (hm : b.n ≤ m) (hml : m < st.heap.length) (hd0 : getObj st.heap k = .dead) (ho : b.own k) (hR : Rel st b a w) : Rel (st.back k m) b a w := by
  obtain ⟨env, hF, hd, G, hkin, hK0, hK1, hK2⟩ := hR
  have hkl : k < st.heap.length := by omega
  have hlen : (st.back k m).heap.length = st.heap.length := by simp [St.back]
  have cr : ∀ (c : Cell) (v : Value), crel env st.heap.length c v → crel (fun i => if i = k then env m else env i) st.heap.length (c.back k m) v := fun c v hc => crel_back hkl hc
  have get : ∀ (j : Nat) (o : HObj cod), (st.back k m).heap[j]? = some o → (j = m ∧ o = .dead) ∨ (j = k ∧ st.heap[m]? = some (getObj st.heap m) ∧ o = (getObj st.heap m).mapC (Cell.back k m)) ∨ (j ≠ k ∧ j ≠ m ∧ ∃ o0, st.heap[j]? = some o0 ∧ o = o0.mapC (Cell.back k m)) := fun j o hj => by
    simp only [St.back] at hj
    by_cases e : j = m
    · subst e
      rw [List.getElem?_set_self (by simpa using hml)] at hj
      exact .inl ⟨rfl, (Option.some.inj hj).symm⟩
    · rw [List.getElem?_set_ne (Ne.symm e)] at hj
      by_cases e2 : j = k
      · subst e2
        rw [List.getElem?_set_self (by simpa using hkl)] at hj
        refine .inr (.inl ⟨rfl, ?_, (Option.some.inj hj).symm⟩)
        unfold getObj
        rw [List.getD, List.getElem?_eq_getElem hml]
        rfl
      · rw [List.getElem?_set_ne (Ne.symm e2), List.getElem?_map] at hj
        obtain ⟨o0, h1, rfl⟩ := Option.map_eq_some_iff.1 hj
        exact .inr (.inr ⟨e2, e, o0, h1, rfl⟩)
  refine ⟨fun i => if i = k then env m else env i, ?_, hd, ⟨fun j o hj => ?_, fun j j' o o' c hne hj hj' hw hc hc' => ?_, G.tab⟩, hkin, fun h h1 h2 => ?_, ?_, fun h o h1 hj hown => ?_⟩
  · rw [hlen]
    exact f2_map_mem (R := vrel env st.heap.length) (fun x _ v hv => vrel_map (fun c v hc => cr c v hc) hv) hF
  · rw [hlen]
    rcases get j o hj with ⟨rfl, rfl⟩ | ⟨rfl, h1, rfl⟩ | ⟨h1, h2, o0, h3, rfl⟩
    · trivial
    · simp only [if_true]
      exact objRel_map cr (G.obj _ _ h1)
    · simp only [if_neg h1]
      exact objRel_map cr (G.obj _ _ h3)
  · rcases get j o hj with ⟨rfl, rfl⟩ | ⟨rfl, h1, rfl⟩ | ⟨h1, h2, o0, h3, rfl⟩
    · exact hc
    · rcases get j' o' hj' with ⟨rfl, rfl⟩ | ⟨rfl, h1', rfl⟩ | ⟨h1', h2', o0', h3', rfl⟩
      · exact hc'
      · exact hne rfl
      · simp only [if_true, if_neg h1'] at hc hc'
        rw [has_map] at hc hc'
        rw [wr_map] at hw
        exact G.sep m j' _ o0' c (fun e => h2' e.symm) h1 h3' hw hc hc'
    · rcases get j' o' hj' with ⟨rfl, rfl⟩ | ⟨rfl, h1', rfl⟩ | ⟨h1', h2', o0', h3', rfl⟩
      · exact hc'
      · simp only [if_true, if_neg h1] at hc hc'
        rw [has_map] at hc hc'
        rw [wr_map] at hw
        exact G.sep j m o0 _ c h2 h3 h1' hw hc hc'
      · simp only [if_neg h1, if_neg h1'] at hc hc'
        rw [has_map] at hc hc'
        rw [wr_map] at hw
        exact G.sep j j' o0 o0' c hne h3 h3' hw hc hc'
  · have : h ≠ k := fun e => by subst e; exact h2 ho
    simp only [if_neg this]
    exact hK0 h h1 h2
  · rw [hlen]
    exact hK1
  · rcases get h o hj with ⟨rfl, rfl⟩ | ⟨rfl, _, _⟩ | ⟨h2, h3, o0, h4, rfl⟩
    · cases hown
    · exact ho
    · rw [own_map] at hown
      exact hK2 h o0 h1 h4 hown
/-- The row m in the place of the row k, which was struck out. -/
theorem Runs.back {P : Program} {b0 : Base} {kk : List Item} {st : St cod} {Q : St cod → Prop} (k m : Nat) {N : Nat} (hb : b0.n = N) (hk : k < N) (hm : N ≤ m) (hml : m < st.heap.length) (hd : getObj st.heap k = .dead) (ho : b0.own k) {st' : St cod} (e : st.back k m = st') (hr : Runs P b0 kk st' Q) : Runs P b0 kk st Q :=
  Runs.weaken (fun a w hR => by rw [← e]; exact back_rel k m (by omega) (by omega) hml hd ho hR) hr
/-- A row that the caller owns is one. -/
theorem Runs.knows {P : Program} {b0 : Base} {kk : List Item} {st : St cod} {Q : St cod → Prop} (k : Nat) {N : Nat} (hb : b0.n = N) (hk : k < N) {u : Nat} {l : List (cod u).α} {ty : TypeId} (ho : st.heap[k]? = some (.own u l ty)) (hr : b0.own k → Runs P b0 kk st Q) : Runs P b0 kk st Q :=
  fun b cs a w hR => hr (hR.choose_spec.2.2.2.2.2.2 k _ (by omega) ho rfl) b cs a w hR
end
end Go.Proofs.Ytjffboggpofbfaa.Sym
