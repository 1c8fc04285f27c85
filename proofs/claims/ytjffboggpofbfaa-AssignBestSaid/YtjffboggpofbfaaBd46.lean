/- Parts of the proof, one behind the other: Sym50, Sym46. -/
import Derived.Test.YtjffboggpofbfaaSym41
import Derived.Test.YtjffboggpofbfaaBd23
import Derived.Test.YtjffboggpofbfaaSym45
import Derived.Test.YtjffboggpofbfaaSym30
section
/- A region that does not draw: its first operations, the state seen otherwise, the rest and what follows as one tree. -/
namespace Go.Proofs.Ytjffboggpofbfaa.Sym
open Go.RowKit

section
variable {cod : Nat → Codec}
theorem Runs.midG {cfg : Cfg cod} (hS : CfgFit cfg) (hm : cfg.P.follows .mixedOrders = true) (cuts : Cuts) {b0 : Base} {fn : Func} {r : SV} {news : Heap cod} (g : Nat) {N : Nat} (hb : b0.n = N) {id : Nat} {ops : Array Oper} {L k : List Item} (hL : L = .code (.region id ops false) :: k) {l1 l2 : List Oper} {o : Oper} (hsp : ops.toList = l1 ++ o :: l2) (hg : (ops.toList.all fun o => o.guard.isNone) = true) {st : St cod}
    {t1 : T (St cod)} (h1 : Sym.lexT cfg l1 st = t1) {t : St cod → T (Fin cod)} (ht : ∀ s', ((Sym.lexT cfg (o :: l2) s').bind fun s => symF cfg cuts fn.results.toList N g k s) = t s')
    (h : t1.wp fun s => ∃ s', (∀ a w, Rel s b0 a w → Rel s' b0 a w) ∧ (t s').wp (Aft cfg.P b0 (Ends cfg.P fn N r news) r news)) : Runs cfg.P b0 L st (Ends cfg.P fn N r news) := by
  subst hL
  subst h1
  obtain ⟨s, g1, s', g2, g3⟩ := T.wp_gives h
  rw [← ht s', T.wp_bind] at g3
  obtain ⟨s2, g4, g5⟩ := T.wp_gives g3
  have hr : Runs cfg.P b0 k s2 (Ends cfg.P fn N r news) := Runs.go hS hm cuts g hb rfl g5
  have gn : ∀ o ∈ ops.toList, o.guard = none := fun o ho => by simpa using List.all_eq_true.1 hg o ho
  rw [hsp] at gn
  have hch : ChainW cfg.P b0 ops.toList st s2 := by
    rw [hsp]
    have c2 := chain_lexT hS (b0 := b0) (o :: l2) s' s2 (fun o' ho => gn o' (List.mem_append_right _ ho)) g4
    obtain ⟨q1, s3, q2, q3⟩ := c2
    exact (chain_lexT hS l1 st s (fun o' ho => gn o' (by simp [ho])) g1).append ⟨q1, s3, fun a w K Q hR hK => q2 a w K Q (g2 a w hR) hK, q3⟩
  intro b cs a w hR
  have hw : (Code.region id ops false).wp cfg.P (fun e a' w' => e = .normal ∧ Rel s2 b0 a' w') a w := wp_region_list (chain_wp ops.toList st s2 a w hch hR fun a' w' hR' => ⟨rfl, hR'⟩)
  obtain ⟨e, a', w', ⟨rfl, hR'⟩, harr⟩ := hw b k cs
  obtain ⟨x, a'', w'', todo, q1, q2, q3⟩ := hr b cs a' w' hR'
  exact ⟨x, a'', w'', todo, q1, q2, Steps.trans harr q3⟩
end
end Go.Proofs.Ytjffboggpofbfaa.Sym
end
section
/- A row of rows that is only read, cut to its first n rows: a new object, the slice in a slot taken for it. -/
namespace Go.Proofs.Ytjffboggpofbfaa.Sym
open Go.RowKit

section
variable {cod : Nat → Codec}
def St.trimN (d h n t : Nat) (LL : List (List (cod t).α)) (st : St cod) : St cod := { tmps := st.tmps.set d (.c (.slc st.heap.length 0 n false)), heap := st.heap ++ [.nin t (LL.take n) none] }
theorem trimN_rel {st : St cod} {b : Base} {a : Act} {w : World} (d h n t : Nat) {LL : List (List (cod t).α)} {tt : Bool} (hd0 : st.tmps[d]? = some (.c (.slc h 0 n tt))) (ho : getObj st.heap h = .nin t LL none) (hn : n ≤ LL.length) (hR : Rel st b a w) : Rel (st.trimN d h n t LL) b a w := by
  obtain ⟨env, hF, hd, G, hkin, hK0, hK1, hK2⟩ := hR
  have hob := getObj_obj ho (by simp)
  have hlt : h < st.heap.length := (List.getElem?_eq_some_iff.1 hob).1
  obtain ⟨h1, vs, h2, h3, h4, h5, h6, _⟩ := G.obj h _ hob
  generalize hx : (⟨(env h).block, (env h).off, 1, .slice none 0 0, vs.take n⟩ : HV) = x
  have heq := Env.set_eq env st.heap.length x
  have hlen : (st.trimN d h n t LL).heap.length = st.heap.length + 1 := by simp [St.trimN]
  have newo : objRel (env.set st.heap.length x) (st.heap.length + 1) x w b.mine (.nin t (LL.take n) none : HObj cod) := by
    rw [← hx]
    refine ⟨rfl, vs.take n, rfl, by rw [List.length_take, List.length_take, h3], fun j u hu => ?_, fun hl => h5 fun e => hl (by rw [e, List.take_nil]), fun i v l hv hl => ?_, fun p hp => by cases hp⟩
    · rw [List.getElem?_take] at hu
      split at hu
      · exact h4 j u hu
      · cases hu
    · rw [List.getElem?_take] at hv hl
      split at hv
      · rename_i hi
        rw [if_pos hi] at hl
        exact h6 i v l hv hl
      · cases hv
  have hasN : ∀ c, (HObj.nin t (LL.take n) none : HObj cod).has x c → (HObj.nin t LL none : HObj cod).has (env h) c := fun c hc => by
    rw [← hx] at hc
    rcases hc with ⟨q1, q2⟩ | ⟨vs', e, v, hv, rest⟩
    · exact .inl ⟨fun e => q1 (by rw [e, List.take_nil]), q2⟩
    · have e : vs.take n = vs' := e
      subst e
      exact .inr ⟨vs, h2, v, List.mem_of_mem_take hv, rest⟩
  have get : ∀ (q : Nat) (o : HObj cod), (st.trimN d h n t LL).heap[q]? = some o → (q < st.heap.length ∧ st.heap[q]? = some o) ∨ (q = st.heap.length ∧ o = .nin t (LL.take n) none) := fun q o hq => by
    simp only [St.trimN] at hq
    rcases Nat.lt_or_ge q st.heap.length with hl | hl
    · rw [List.getElem?_append_left hl] at hq
      exact .inl ⟨hl, hq⟩
    · rw [List.getElem?_append_right hl] at hq
      have : q - st.heap.length = 0 := by
        rcases Nat.eq_zero_or_pos (q - st.heap.length) with e | e
        · exact e
        · rw [List.getElem?_eq_none (by simp; omega)] at hq; cases hq
      rw [this] at hq
      exact .inr ⟨by omega, (Option.some.inj hq).symm⟩
  refine ⟨env.set st.heap.length x, ?_, hd, ⟨fun q o hq => ?_, fun q q' o o' c hne hq hq' hw hc hc' => ?_, G.tab⟩, hkin, fun q hq hn' => ?_, ?_, fun q o hq hqo hown => ?_⟩
  · rw [hlen]
    obtain ⟨v, hv, hvr⟩ := f2_get hF hd0
    obtain ⟨_, A, c, rfl, g1, g2, _, g4⟩ := hvr
    have hF' := forall2_mono (fun _ _ hr => vrel_mono (N' := st.heap.length + 1) (by omega) heq hr) hF
    have hc : vrel (env.set st.heap.length x) (st.heap.length + 1) (.c (.slc st.heap.length 0 n false)) (.slice A n c) := by
      refine ⟨by omega, A, c, rfl, g1, g2, (fun h => by cases h), fun hp => ?_⟩
      rw [g4 hp, Env.set_same, ← hx]
      simp [HV.addr, h1]
    have hs := f2_set hc d hF'
    have e : a.tmps.toList.set d (.slice A n c) = a.tmps.toList := by
      obtain ⟨hl, hx⟩ := List.getElem?_eq_some_iff.1 hv
      rw [← hx]
      exact List.set_getElem_self hl
    rw [e] at hs
    exact hs
  · rw [hlen]
    rcases get q o hq with ⟨g2, g3⟩ | ⟨rfl, rfl⟩
    · rw [Env.set_other _ _ (by omega)]
      exact objRel_mono (by omega) heq (G.obj q o g3)
    · rw [Env.set_same]
      exact newo
  · rcases get q o hq with ⟨g2, g3⟩ | ⟨rfl, rfl⟩
    · rw [Env.set_other _ _ (by omega)] at hc
      rcases get q' o' hq' with ⟨g2', g3'⟩ | ⟨rfl, rfl⟩
      · rw [Env.set_other _ _ (by omega)] at hc'
        exact G.sep q q' o o' c hne g3 g3' hw hc hc'
      · rw [Env.set_same] at hc'
        by_cases e : q = h
        · subst e
          rw [hob] at g3
          cases g3
          cases hw
        · exact G.sep q h o _ c e g3 hob hw hc (hasN c hc')
    · cases hw
  · rw [Env.set_other _ _ (by omega)]
    exact hK0 q hq hn'
  · rw [hlen]
    omega
  · rcases get q o hqo with ⟨g2, g3⟩ | ⟨rfl, rfl⟩
    · exact hK2 q o hq g3 hown
    · cases hown
theorem Runs.trimN {P : Program} {b0 : Base} {kk : List Item} {st : St cod} {Q : St cod → Prop} (d h n t : Nat) {LL : List (List (cod t).α)} {tt : Bool} (h1 : st.tmps[d]? = some (.c (.slc h 0 n tt))) (ho : getObj st.heap h = .nin t LL none) (hn : n ≤ LL.length) {st' : St cod} (e : st.trimN d h n t LL = st') (hr : Runs P b0 kk st' Q) : Runs P b0 kk st Q :=
  Runs.weaken (fun a w hR => by rw [← e]; exact trimN_rel d h n t h1 ho hn hR) hr
/-- The rows of an argument are no longer than a slice can be. -/
theorem Runs.rows {P : Program} {b0 : Base} {kk : List Item} {st : St cod} {Q : St cod → Prop} (h : Nat) {t : Nat} {LL : List (List (cod t).α)} {op : Option (Nat × Cell)} (ho : getObj st.heap h = .nin t LL op) (hr : (∀ i, i < LL.length → (LL.getD i []).length ≤ maxLen) → Runs P b0 kk st Q) : Runs P b0 kk st Q := by
  intro b cs a w hR
  refine hr (fun i hi => ?_) b cs a w hR
  obtain ⟨env, hF, hd, G, _⟩ := hR
  obtain ⟨h1, vs, h2, h3, h4, h5, h6, _⟩ := G.obj h _ (getObj_obj ho (by simp))
  obtain ⟨A, k, e1, e2, e3, _⟩ := h6 i vs[i] LL[i] (List.getElem?_eq_getElem (by omega)) (List.getElem?_eq_getElem hi)
  rw [List.getD_eq_getElem?_getD, List.getElem?_eq_getElem hi]
  exact Nat.le_trans e2 e3
end
end Go.Proofs.Ytjffboggpofbfaa.Sym
end
