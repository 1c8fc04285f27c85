/- Parts of the proof, one behind the other: Sym27, Sym46. -/
import Derived.Test.YtbdhppceihcbnaaBd23
import Derived.Test.YtbdhppceihcbnaaSym45
import Derived.Test.YtbdhppceihcbnaaSym30
section
/- One function, two summaries: one where an argument is nil, another elsewhere. -/
namespace Go.Proofs.Ytbdhppceihcbnaa.Sym
open Go.RowKit

section
variable {cod : Nat → Codec} {P : Program}
def hasNil (args : List SV) : Bool := args.any fun x => match x with
  | .c .nil => true
  | _ => false
def s_or (s1 s2 : Summ cod) : Summ cod := fun args H => cond (hasNil args) (s1 args H) (s2 args H)
theorem Sound.or {g : FuncId} {s1 s2 : Summ cod} (h1 : Sound P cod g s1) (h2 : Sound P cod g s2) : Sound P cod g (s_or s1 s2) := by
  refine ⟨h1.enters, fun args H env w vs r news hro G ha hg => ?_⟩
  unfold s_or at hg
  cases hc : hasNil args with
  | true => rw [hc] at hg; exact h1.calls args H env w vs r news hro G ha hg
  | false => rw [hc] at hg; exact h2.calls args H env w vs r news hro G ha hg
end
end Go.Proofs.Ytbdhppceihcbnaa.Sym
end
section
/- A row of rows that is only read, cut to its first n rows: a new object, the slice in a slot taken for it. -/
namespace Go.Proofs.Ytbdhppceihcbnaa.Sym
open Go.RowKit

section
variable {cod : Nat → Codec}
def St.trimN (d h n t : Nat) (LL : List (List (cod t).α)) (st : St cod) : St cod := { tmps := st.tmps.set d (.c (.slc st.heap.length 0 n false)), heap := st.heap ++ [.nin t (LL.take n) none] }
theorem trimN_rel {st : St cod} {b : Base} {a : Act} {w : World} (d h n t : Nat) {LL : List (List (cod t).α)} {tt : Bool} (hd0 : st.tmps[d]? = some (.c (.slc h 0 n tt))) (ho : getObj st.heap h = .nin t LL none) (hn : n ≤ LL.length) (hR : Rel st b a w) : Rel (st.trimN d h n t LL) b a w := by
  obtain ⟨env, hF, hd, G, hkin, hK0, hK1, hK2⟩ := hR
  have hob := getObj_obj ho (by simp)
  have hlt : h < st.heap.length := (List.getElem?_eq_some_iff.1 hob).1
  obtain ⟨h1, vs, h2, h3, h4, h5, h6, _⟩ := G.obj h _ hob
  generalize hx : (⟨(env h).block, (env h).off, 1, .slice none 0 0, vs.take n⟩ : HV) = x
  have heq := Env.set_eq env st.heap.length x
  have hlen : (st.trimN d h n t LL).heap.length = st.heap.length + 1 := by simp [St.trimN]
  have newo : objRel (env.set st.heap.length x) (st.heap.length + 1) x w b.mine (.nin t (LL.take n) none : HObj cod) := by
    rw [← hx]
    refine ⟨rfl, vs.take n, rfl, by rw [List.length_take, List.length_take, h3], fun j u hu => ?_, fun hl => h5 fun e => hl (by rw [e, List.take_nil]), fun i v l hv hl => ?_, fun p hp => by cases hp⟩
    · rw [List.getElem?_take] at hu
      split at hu
      · exact h4 j u hu
      · cases hu
    · rw [List.getElem?_take] at hv hl
      split at hv
      · rename_i hi
        rw [if_pos hi] at hl
        exact h6 i v l hv hl
      · cases hv
  have hasN : ∀ c, (HObj.nin t (LL.take n) none : HObj cod).has x c → (HObj.nin t LL none : HObj cod).has (env h) c := fun c hc => by
    rw [← hx] at hc
    rcases hc with ⟨q1, q2⟩ | ⟨vs', e, v, hv, rest⟩
    · exact .inl ⟨fun e => q1 (by rw [e, List.take_nil]), q2⟩
    · have e : vs.take n = vs' := e
      subst e
      exact .inr ⟨vs, h2, v, List.mem_of_mem_take hv, rest⟩
  have get : ∀ (q : Nat) (o : HObj cod), (st.trimN d h n t LL).heap[q]? = some o → (q < st.heap.length ∧ st.heap[q]? = some o) ∨ (q = st.heap.length ∧ o = .nin t (LL.take n) none) := fun q o hq => by
    simp only [St.trimN] at hq
    rcases Nat.lt_or_ge q st.heap.length with hl | hl
    · rw [List.getElem?_append_left hl] at hq
      exact .inl ⟨hl, hq⟩
    · rw [List.getElem?_append_right hl] at hq
      have : q - st.heap.length = 0 := by
        rcases Nat.eq_zero_or_pos (q - st.heap.length) with e | e
        · exact e
        · rw [List.getElem?_eq_none (by simp; omega)] at hq; cases hq
      rw [this] at hq
      exact .inr ⟨by omega, (Option.some.inj hq).symm⟩
  refine ⟨env.set st.heap.length x, ?_, hd, ⟨fun q o hq => ?_, fun q q' o o' c hne hq hq' hw hc hc' => ?_, G.tab⟩, hkin, fun q hq hn' => ?_, ?_, fun q o hq hqo hown => ?_⟩
  · rw [hlen]
    obtain ⟨v, hv, hvr⟩ := f2_get hF hd0
    obtain ⟨_, A, c, rfl, g1, g2, _, g4⟩ := hvr
    have hF' := forall2_mono (fun _ _ hr => vrel_mono (N' := st.heap.length + 1) (by omega) heq hr) hF
    have hc : vrel (env.set st.heap.length x) (st.heap.length + 1) (.c (.slc st.heap.length 0 n false)) (.slice A n c) := by
      refine ⟨by omega, A, c, rfl, g1, g2, (fun h => by cases h), fun hp => ?_⟩
      rw [g4 hp, Env.set_same, ← hx]
      simp [HV.addr, h1]
    have hs := f2_set hc d hF'
    have e : a.tmps.toList.set d (.slice A n c) = a.tmps.toList := by
      obtain ⟨hl, hx⟩ := List.getElem?_eq_some_iff.1 hv
      rw [← hx]
      exact List.set_getElem_self hl
    rw [e] at hs
    exact hs
  · rw [hlen]
    rcases get q o hq with ⟨g2, g3⟩ | ⟨rfl, rfl⟩
    · rw [Env.set_other _ _ (by omega)]
      exact objRel_mono (by omega) heq (G.obj q o g3)
    · rw [Env.set_same]
      exact newo
  · rcases get q o hq with ⟨g2, g3⟩ | ⟨rfl, rfl⟩
    · rw [Env.set_other _ _ (by omega)] at hc
      rcases get q' o' hq' with ⟨g2', g3'⟩ | ⟨rfl, rfl⟩
      · rw [Env.set_other _ _ (by omega)] at hc'
        exact G.sep q q' o o' c hne g3 g3' hw hc hc'
      · rw [Env.set_same] at hc'
        by_cases e : q = h
        · subst e
          rw [hob] at g3
          cases g3
          cases hw
        · exact G.sep q h o _ c e g3 hob hw hc (hasN c hc')
    · cases hw
  · rw [Env.set_other _ _ (by omega)]
    exact hK0 q hq hn'
  · rw [hlen]
    omega
  · rcases get q o hqo with ⟨g2, g3⟩ | ⟨rfl, rfl⟩
    · exact hK2 q o hq g3 hown
    · cases hown
theorem Runs.trimN {P : Program} {b0 : Base} {kk : List Item} {st : St cod} {Q : St cod → Prop} (d h n t : Nat) {LL : List (List (cod t).α)} {tt : Bool} (h1 : st.tmps[d]? = some (.c (.slc h 0 n tt))) (ho : getObj st.heap h = .nin t LL none) (hn : n ≤ LL.length) {st' : St cod} (e : st.trimN d h n t LL = st') (hr : Runs P b0 kk st' Q) : Runs P b0 kk st Q :=
  Runs.weaken (fun a w hR => by rw [← e]; exact trimN_rel d h n t h1 ho hn hR) hr
/-- The rows of an argument are no longer than a slice can be. -/
theorem Runs.rows {P : Program} {b0 : Base} {kk : List Item} {st : St cod} {Q : St cod → Prop} (h : Nat) {t : Nat} {LL : List (List (cod t).α)} {op : Option (Nat × Cell)} (ho : getObj st.heap h = .nin t LL op) (hr : (∀ i, i < LL.length → (LL.getD i []).length ≤ maxLen) → Runs P b0 kk st Q) : Runs P b0 kk st Q := by
  intro b cs a w hR
  refine hr (fun i hi => ?_) b cs a w hR
  obtain ⟨env, hF, hd, G, _⟩ := hR
  obtain ⟨h1, vs, h2, h3, h4, h5, h6, _⟩ := G.obj h _ (getObj_obj ho (by simp))
  obtain ⟨A, k, e1, e2, e3, _⟩ := h6 i vs[i] LL[i] (List.getElem?_eq_getElem (by omega)) (List.getElem?_eq_getElem hi)
  rw [List.getD_eq_getElem?_getD, List.getElem?_eq_getElem hi]
  exact Nat.le_trans e2 e3
end
end Go.Proofs.Ytbdhppceihcbnaa.Sym
end
