/- A row of rows that is only read: one of its rows laid open. -/
import Derived.Test.YtjffboggpofbfaaSym29
namespace Go.Proofs.Ytjffboggpofbfaa.Sym
open Go.RowKit

section
variable {cod : Nat → Codec}
/-- Row i of the rows of object h as an object of its own, and the cell that leads to it known. -/
def St.open (h i : Nat) (st : St cod) : St cod := match getObj st.heap h with
  | .nin t LL _ => { st with heap := st.heap.set h (.nin t LL (some (i, .slc st.heap.length 0 (LL.getD i []).length false))) ++ [.inp t (LL.getD i [])] }
  | _ => st
theorem open_rel {st : St cod} {b : Base} {a : Act} {w : World} (h i : Nat) {t : Nat} {LL : List (List (cod t).α)} {op : Option (Nat × Cell)} (ho : getObj st.heap h = .nin t LL op) (hi : i < LL.length) (hR : Rel st b a w) : Rel (st.open h i) b a w := by
  have hst : st.open h i = { st with heap := st.heap.set h (.nin t LL (some (i, .slc st.heap.length 0 (LL.getD i []).length false))) ++ [.inp t (LL.getD i [])] } := by
    unfold St.open
    rw [ho]
  rw [hst]
  obtain ⟨env, hF, hd, G, hkin, hK0, hK1, hK2⟩ := hR
  have hob := getObj_obj ho (by simp)
  have hlt : h < st.heap.length := (List.getElem?_eq_some_iff.1 hob).1
  obtain ⟨h1, vs, h2, h3, h4, h5, h6, h7⟩ := G.obj h _ hob
  have hv : vs[i]? = some (vs[i]'(by omega)) := List.getElem?_eq_getElem (by omega)
  generalize vs[i]'(by omega) = v at hv
  have hl : LL[i]? = some (LL.getD i []) := by rw [List.getD, List.getElem?_eq_getElem hi]; rfl
  generalize LL.getD i [] = l at *
  obtain ⟨A, k, e1, e2, e3, e4⟩ := h6 i v l hv hl
  -- where the row lies
  obtain ⟨x, hx, hxe⟩ : ∃ x : HV, (∀ b o, A = some ⟨b, o, none⟩ → x = ⟨b, o, (cod t).size, undef, []⟩) ∧ x.esize = (cod t).size := by
    cases A with
    | none => exact ⟨⟨0, 0, (cod t).size, undef, []⟩, (fun b o e => by cases e), rfl⟩
    | some a => exact ⟨⟨a.block, a.off, (cod t).size, undef, []⟩, (fun b o e => by cases e; rfl), rfl⟩
  have hnew : objRel (env.set st.heap.length x) (st.heap.length + 1) x w b.mine (.inp t l : HObj cod) := by
    refine ⟨hxe, fun j u hu => ?_, fun hne => ?_⟩
    · have hne : l ≠ [] := by
        rintro rfl
        simp [vals] at hu
      obtain ⟨b, o, g1, g2, g3⟩ := e4 hne
      rw [hx b o g1]
      exact g3 j u hu
    · obtain ⟨b, o, g1, g2, g3⟩ := e4 hne
      rw [hx b o g1]
      exact g2
  have hlen : (st.heap.set h (.nin t LL (some (i, .slc st.heap.length 0 l.length false))) ++ [.inp t l] : Heap cod).length = st.heap.length + 1 := by simp
  have heq := Env.set_eq env st.heap.length x
  have cases_ : ∀ (j : Nat) (o : HObj cod), (st.heap.set h (.nin t LL (some (i, .slc st.heap.length 0 l.length false))) ++ [.inp t l] : Heap cod)[j]? = some o → (j ≠ h ∧ j < st.heap.length ∧ st.heap[j]? = some o) ∨ (j = h ∧ o = .nin t LL (some (i, .slc st.heap.length 0 l.length false))) ∨ (j = st.heap.length ∧ o = .inp t l) := fun j o hj => by
    rcases Nat.lt_or_ge j st.heap.length with hl' | hl'
    · rw [List.getElem?_append_left (by simpa using hl')] at hj
      by_cases e : j = h
      · subst e
        rw [List.getElem?_set_self hlt] at hj
        exact .inr (.inl ⟨rfl, (Option.some.inj hj).symm⟩)
      · rw [List.getElem?_set_ne (Ne.symm e)] at hj
        exact .inl ⟨e, hl', hj⟩
    · rw [List.getElem?_append_right (by simpa using hl')] at hj
      simp only [List.length_set] at hj
      have : j - st.heap.length = 0 := by
        rcases Nat.eq_zero_or_pos (j - st.heap.length) with e | e
        · exact e
        · rw [List.getElem?_eq_none (by simp; omega)] at hj; cases hj
      rw [this] at hj
      exact .inr (.inr ⟨by omega, (Option.some.inj hj).symm⟩)
  have hasn : ∀ c, (HObj.inp t l : HObj cod).has x c → (HObj.nin t LL op : HObj cod).has (env h) c := fun c hc => by
    obtain ⟨hne, rfl⟩ := hc
    obtain ⟨b, o, g1, g2, g3⟩ := e4 hne
    have hxb : x.block = b := by rw [hx b o g1]
    refine .inr ⟨vs, h2, v, List.mem_of_getElem? hv, o, l.length, k, ?_, List.length_pos_iff.2 hne⟩
    rw [e1, g1, hxb]
  refine ⟨env.set st.heap.length x, ?_, hd, ⟨fun j o hj => ?_, fun j j' o o' c hne hj hj' hw hc hc' => ?_, G.tab⟩, hkin, fun q hq hn => ?_, ?_, fun q o hq hqo hown => ?_⟩
  · simp only [hlen]
    exact forall2_mono (fun _ _ hr => vrel_mono (by omega) heq hr) hF
  · simp only [hlen]
    rcases cases_ j o hj with ⟨g1, g2, g3⟩ | ⟨rfl, rfl⟩ | ⟨rfl, rfl⟩
    · rw [Env.set_other _ _ (by omega)]
      exact objRel_mono (by omega) heq (G.obj j o g3)
    · rw [Env.set_other _ _ (by omega)]
      refine ⟨h1, vs, h2, h3, h4, h5, h6, fun p hp => ?_⟩
      simp only [Option.some.injEq] at hp
      subst hp
      refine ⟨v, hv, by omega, A, k, e1, e2, e3, (fun e => by cases e), fun hp => ?_⟩
      obtain ⟨b, o, g1, g2, g3⟩ := e4 (List.length_pos_iff.1 hp)
      rw [g1, Env.set_same, hx b o g1]
      simp [HV.addr]
    · rw [Env.set_same]
      exact hnew
  · rcases cases_ j o hj with ⟨g1, g2, g3⟩ | ⟨rfl, rfl⟩ | ⟨rfl, rfl⟩
    · rw [Env.set_other _ _ (by omega)] at hc
      rcases cases_ j' o' hj' with ⟨g1', g2', g3'⟩ | ⟨rfl, rfl⟩ | ⟨rfl, rfl⟩
      · rw [Env.set_other _ _ (by omega)] at hc'
        exact G.sep j j' o o' c hne g3 g3' hw hc hc'
      · rw [Env.set_other _ _ (by omega)] at hc'
        exact G.sep j _ o (.nin t LL op) c hne g3 hob hw hc hc'
      · rw [Env.set_same] at hc'
        exact G.sep j h o (.nin t LL op) c g1 g3 hob hw hc (hasn c hc')
    · cases hw
    · cases hw
  · rw [Env.set_other _ _ (by omega)]
    exact hK0 q hq hn
  · simp only [hlen]
    omega
  · rcases cases_ q o hqo with ⟨g1, g2, g3⟩ | ⟨rfl, rfl⟩ | ⟨rfl, rfl⟩
    · exact hK2 q o hq g3 hown
    · cases hown
    · cases hown
/-- What is known of one of its cells, forgotten. -/
def HObj.shut : HObj cod → HObj cod
  | .nin t LL _ => .nin t LL none
  | o => o
def St.close (k : Nat) (st : St cod) : St cod := { st with heap := st.heap.set k (getObj st.heap k).shut }
theorem close_rel {st : St cod} {b : Base} {a : Act} {w : World} (k : Nat) (hR : Rel st b a w) : Rel (st.close k) b a w := by
  obtain ⟨env, hF, hd, G, hkin, hK0, hK1, hK2⟩ := hR
  have hlen : (st.heap.set k (getObj st.heap k).shut).length = st.heap.length := List.length_set
  have cases_ : ∀ (i : Nat) (o : HObj cod), (st.heap.set k (getObj st.heap k).shut)[i]? = some o → ∃ o0, st.heap[i]? = some o0 ∧ (o = o0 ∨ o = o0.shut) := fun i o h => by
    by_cases e : i = k
    · subst e
      have hl : i < st.heap.length := by
        have := (List.getElem?_eq_some_iff.1 h).1
        rwa [List.length_set] at this
      rw [List.getElem?_set_self hl] at h
      refine ⟨getObj st.heap i, ?_, .inr (Option.some.inj h).symm⟩
      unfold getObj
      rw [List.getD, List.getElem?_eq_getElem hl]
      rfl
    · rw [List.getElem?_set_ne (Ne.symm e)] at h
      exact ⟨o, h, .inl rfl⟩
  have wr_ : ∀ o0 o : HObj cod, (o = o0 ∨ o = o0.shut) → (o.wr = true → o0.wr = true) ∧ (o.isOwn = true → o0.isOwn = true) ∧ ∀ x c, o.has x c → o0.has x c := fun o0 o h => by
    rcases h with rfl | rfl
    · exact ⟨id, id, fun _ _ h => h⟩
    · cases o0 <;> exact ⟨id, id, fun _ _ h => h⟩
  have rel_ : ∀ (o0 : HObj cod) x, objRel env st.heap.length x w b.mine o0 → objRel env st.heap.length x w b.mine o0.shut := fun o0 x h => by
    cases o0 <;> try exact h
    obtain ⟨h1, vs, h2, h3, h4, h5, h6, h7⟩ := h
    exact ⟨h1, vs, h2, h3, h4, h5, h6, fun p hp => by cases hp⟩
  refine ⟨env, by simp only [St.close, hlen]; exact hF, hd, ⟨fun i o h => ?_, fun i j o o' c hne h h' hw hc hc' => ?_, G.tab⟩, hkin, hK0, by simp only [St.close, hlen]; exact hK1, fun i o hi h hown => ?_⟩
  · simp only [St.close, hlen]
    obtain ⟨o0, h0, rfl | rfl⟩ := cases_ i o h
    · exact G.obj i _ h0
    · exact rel_ _ _ (G.obj i _ h0)
  · obtain ⟨o0, h0, e0⟩ := cases_ i o h
    obtain ⟨o0', h0', e0'⟩ := cases_ j o' h'
    exact G.sep i j o0 o0' c hne h0 h0' ((wr_ _ _ e0).1 hw) ((wr_ _ _ e0).2.2 _ _ hc) ((wr_ _ _ e0').2.2 _ _ hc')
  · obtain ⟨o0, h0, e0⟩ := cases_ i o h
    exact hK2 i o0 hi h0 ((wr_ _ _ e0).2.1 hown)
theorem Runs.close {P : Program} {b0 : Base} {k : List Item} {st : St cod} {Q : St cod → Prop} (h : Nat) {st' : St cod} (e : st.close h = st') (hr : Runs P b0 k st' Q) : Runs P b0 k st Q :=
  Runs.weaken (fun a w hR => by rw [← e]; exact close_rel h hR) hr
theorem Runs.open {P : Program} {b0 : Base} {k : List Item} {st : St cod} {Q : St cod → Prop} (h i : Nat) {t : Nat} {LL : List (List (cod t).α)} {op : Option (Nat × Cell)} (ho : getObj st.heap h = .nin t LL op) (hi : i < LL.length) {st' : St cod} (e : st.open h i = st') (hr : Runs P b0 k st' Q) : Runs P b0 k st Q :=
  Runs.weaken (fun a w hR => by rw [← e]; exact open_rel h i ho hi hR) hr
end
end Go.Proofs.Ytjffboggpofbfaa.Sym
