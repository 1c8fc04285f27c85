/- An array of slices that the call owns, whose capacities are not known: a block of nils taken for it, its rows opened and closed. -/
import Derived.Test.YtjffboggpofbfaaBd41
namespace Go.Proofs.Ytjffboggpofbfaa.Sym
open Go.RowKit

section
variable {cod : Nat → Codec}
/-- A block of nil slices, seen as an array of slices: a new object, the variable's address in slot d. -/
def St.madeV (d k n t : Nat) (ty tyr : TypeId) (st : St cod) : St cod := { tmps := st.tmps.set d (.c (.ptr st.heap.length 0 0)), heap := st.heap.set k .dead ++ [.nown t (List.replicate n []) [] [] (1000000 + ty) tyr] }
theorem crels_nil {env : Env} {N : Nat} : ∀ (n : Nat) (vs : List Value), crels env N (List.replicate n .nil) vs → vs = List.replicate n (.slice none 0 0)
  | 0, vs, h => by cases h; rfl
  | n + 1, vs, h => by
    cases h with
    | cons a t =>
      have a : _ = _ := a
      rw [a, crels_nil n _ t]
      rfl
theorem madeV_rel {st : St cod} {b : Base} {a : Act} {w : World} (d k n t : Nat) (ty tyr : TypeId) (hd0 : st.tmps[d]? = some (.c (.ptr k 0 0))) (ho : getObj st.heap k = .blk (List.replicate n .nil) ty) (hn : n ≤ 1000000) (hR : Rel st b a w) : Rel (st.madeV d k n t ty tyr) b a w := by
  obtain ⟨env, hF, hd, G, hkin, hK0, hK1, hK2⟩ := hR
  have hob := getObj_obj ho (by simp)
  have hlt : k < st.heap.length := (List.getElem?_eq_some_iff.1 hob).1
  obtain ⟨h1, h2, vs, h3, h4⟩ := G.obj k _ hob
  have hvs := crels_nil n vs h4
  subst hvs
  generalize hx : (⟨(env k).block, 0, 1, .slice (some ⟨(env k).block, 0, none⟩) n n, List.replicate n (.slice none 0 0)⟩ : HV) = x
  have heq := Env.set_eq env st.heap.length x
  have hlen : (st.madeV d k n t ty tyr).heap.length = st.heap.length + 1 := by simp [St.madeV]
  have hty : ¬ (1000000 + ty) < 1000000 := Nat.not_lt.2 (Nat.le_add_right ..)
  have eO : tyO (1000000 + ty) = ty := by unfold tyO; rw [if_neg hty]; exact Nat.add_sub_cancel_left ..
  have nilrow : ∀ (j : Nat) (u : Value), (List.replicate n (Value.slice none 0 0))[j]? = some u → u = .slice none 0 0 := fun j u hu => by
    rw [List.getElem?_replicate] at hu
    split at hu
    · exact (Option.some.inj hu).symm
    · cases hu
  have newo : objRel (env.set st.heap.length x) (st.heap.length + 1) x w b.mine (.nown t (List.replicate n []) [] [] (1000000 + ty) tyr : HObj cod) := by
    rw [← hx]
    refine ⟨rfl, rfl, ⟨by simp, rfl⟩, ⟨List.replicate n (.slice none 0 0), ⟨by simp, .inr ⟨(env k).block, n, _, by simp, Nat.zero_le _, by rw [eO]; exact h3, by simp, by unfold maxLen; omega, by simp, by simp [List.take_of_length_le]⟩⟩, fun j _ => .inl rfl, fun q j c hq _ => by simp at hq⟩, fun b hb => ?_, fun A m c hA => ?_, fun j u l _ hju hl => ?_, fun j k u u' b _ _ _ hu _ hb => ?_⟩
    · simp only [Value.ownBlock, Option.some.injEq] at hb
      rw [← hb]
      exact h2
    · simp only [Value.slice.injEq, Option.some.injEq] at hA
      exact hA.1.symm
    · rw [nilrow j u hju]
      have hl' : l = [] := by
        rw [List.getElem?_replicate] at hl
        split at hl
        · exact (Option.some.inj hl).symm
        · cases hl
      subst hl'
      exact ⟨⟨by simp [vals], .inl ⟨rfl, rfl⟩⟩, fun b hb => by simp [Value.ownBlock] at hb⟩
    · rw [nilrow j u hu] at hb
      simp [Value.ownBlock] at hb
  have hasN : ∀ c, (HObj.nown t (List.replicate n []) [] [] (1000000 + ty) tyr : HObj cod).has x c → c = (env k).block := fun c hc => by
    rw [← hx] at hc
    rcases hc with hc | ⟨j, u, hu, _, hb⟩
    · simp only [Value.ownBlock, Option.some.injEq] at hc
      exact hc.symm
    · rw [nilrow j u hu] at hb
      simp [Value.ownBlock] at hb
  have get : ∀ (q : Nat) (o : HObj cod), (st.madeV d k n t ty tyr).heap[q]? = some o → (q = k ∧ o = .dead) ∨ (q ≠ k ∧ q < st.heap.length ∧ st.heap[q]? = some o) ∨ (q = st.heap.length ∧ o = .nown t (List.replicate n []) [] [] (1000000 + ty) tyr) := fun q o hq => by
    simp only [St.madeV] at hq
    rcases Nat.lt_or_ge q st.heap.length with hl | hl
    · rw [List.getElem?_append_left (by simpa using hl)] at hq
      by_cases e : q = k
      · subst e
        rw [List.getElem?_set_self hlt] at hq
        exact .inl ⟨rfl, (Option.some.inj hq).symm⟩
      · rw [List.getElem?_set_ne (Ne.symm e)] at hq
        exact .inr (.inl ⟨e, hl, hq⟩)
    · rw [List.getElem?_append_right (by simpa using hl)] at hq
      simp only [List.length_set] at hq
      have : q - st.heap.length = 0 := by
        rcases Nat.eq_zero_or_pos (q - st.heap.length) with e | e
        · exact e
        · rw [List.getElem?_eq_none (by simp; omega)] at hq; cases hq
      rw [this] at hq
      exact .inr (.inr ⟨by omega, (Option.some.inj hq).symm⟩)
  refine ⟨env.set st.heap.length x, ?_, hd, ⟨fun q o hq => ?_, fun q q' o o' c hne hq hq' hw hc hc' => ?_, G.tab⟩, hkin, fun q hq hn' => ?_, ?_, fun q o hq hqo hown => ?_⟩
  · rw [hlen]
    obtain ⟨v, hv, hvr⟩ := f2_get hF hd0
    obtain ⟨_, rfl⟩ := hvr
    have hF' := forall2_mono (fun _ _ hr => vrel_mono (N' := st.heap.length + 1) (by omega) heq hr) hF
    have ea : (env k).addr 0 0 = ⟨(env k).block, 0, none⟩ := by simp [HV.addr, h1]
    have hc : vrel (env.set st.heap.length x) (st.heap.length + 1) (.c (.ptr st.heap.length 0 0)) (.pointer (some ((env k).addr 0 0))) := by
      refine ⟨by omega, ?_⟩
      rw [Env.set_same, ← hx, ea]
      rfl
    have hs := f2_set hc d hF'
    have e : a.tmps.toList.set d (.pointer (some ((env k).addr 0 0))) = a.tmps.toList := by
      obtain ⟨hl, hx⟩ := List.getElem?_eq_some_iff.1 hv
      rw [← hx]
      exact List.set_getElem_self hl
    rw [e] at hs
    exact hs
  · rw [hlen]
    rcases get q o hq with ⟨rfl, rfl⟩ | ⟨_, g2, g3⟩ | ⟨rfl, rfl⟩
    · trivial
    · rw [Env.set_other _ _ (by omega)]
      exact objRel_mono (by omega) heq (G.obj q o g3)
    · rw [Env.set_same]
      exact newo
  · rcases get q o hq with ⟨rfl, rfl⟩ | ⟨g1, g2, g3⟩ | ⟨rfl, rfl⟩
    · cases hw
    · rw [Env.set_other _ _ (by omega)] at hc
      rcases get q' o' hq' with ⟨rfl, rfl⟩ | ⟨g1', g2', g3'⟩ | ⟨rfl, rfl⟩
      · exact hc'
      · rw [Env.set_other _ _ (by omega)] at hc'
        exact G.sep q q' o o' c hne g3 g3' hw hc hc'
      · rw [Env.set_same] at hc'
        exact G.sep q k o _ c g1 g3 hob hw hc (hasN c hc')
    · rw [Env.set_same] at hc
      rcases get q' o' hq' with ⟨rfl, rfl⟩ | ⟨g1', g2', g3'⟩ | ⟨rfl, rfl⟩
      · exact hc'
      · rw [Env.set_other _ _ (by omega)] at hc'
        exact G.sep k q' _ o' c (Ne.symm g1') hob g3' rfl (hasN c hc) hc'
      · exact absurd rfl hne
  · rw [Env.set_other _ _ (by omega)]
    exact hK0 q hq hn'
  · rw [hlen]
    omega
  · rcases get q o hqo with ⟨rfl, rfl⟩ | ⟨g1, g2, g3⟩ | ⟨rfl, rfl⟩
    · cases hown
    · exact hK2 q o hq g3 hown
    · cases hown
theorem Runs.madeV {P : Program} {b0 : Base} {kk : List Item} {st : St cod} {Q : St cod → Prop} (d k n t : Nat) (ty tyr : TypeId) (h : st.tmps[d]? = some (.c (.ptr k 0 0))) (ho : getObj st.heap k = .blk (List.replicate n .nil) ty) (hn : n ≤ 1000000) {st' : St cod} (e : st.madeV d k n t ty tyr = st') (hr : Runs P b0 kk st' Q) : Runs P b0 kk st Q :=
  Runs.weaken (fun a w hR => by rw [← e]; exact madeV_rel d k n t ty tyr h ho hn hR) hr
/-- Row j laid open: an object of its own, behind all others; its cell a slice of it. -/
def St.openV (h j : Nat) (st : St cod) : St cod := match getObj st.heap h with
  | .nown t LL js cs ty tyr => { st with heap := st.heap.set h (.nown t LL (j :: js) (.slc st.heap.length 0 (LL.getD j []).length false :: cs) ty tyr) ++ [.own t (LL.getD j []) tyr] }
  | _ => st
theorem openV_rel {st : St cod} {b : Base} {a : Act} {w : World} {h j t : Nat} {LL : List (List (cod t).α)} {js : List Nat} {cs : List Cell} {ty tyr : TypeId} (ho : getObj st.heap h = .nown t LL js cs ty tyr) (hj : j < LL.length) (hjs : j ∉ js) (hty : ¬ ty < 1000000) (hR : Rel st b a w) : Rel (st.openV h j) b a w := by
  have hst : st.openV h j = { st with heap := st.heap.set h (.nown t LL (j :: js) (.slc st.heap.length 0 (LL.getD j []).length false :: cs) ty tyr) ++ [.own t (LL.getD j []) tyr] } := by
    unfold St.openV
    rw [ho]
  rw [hst]
  obtain ⟨env, hF, hd, G, hkin, hK0, hK1, hK2⟩ := hR
  have hob := getObj_obj ho (by simp)
  have hlt : h < st.heap.length := (List.getElem?_eq_some_iff.1 hob).1
  obtain ⟨h1, h2, h3, ⟨vs, h4, h5, h6⟩, h7, h8, h9, h10⟩ := G.obj h _ hob
  have eL : LL[j]? = some (LL.getD j []) := by rw [List.getD_eq_getElem?_getD, List.getElem?_eq_getElem hj]; rfl
  obtain ⟨v, hv⟩ : ∃ v, (env h).rows[j]? = some v := ⟨_, List.getElem?_eq_getElem (by omega)⟩
  obtain ⟨o1, o2⟩ := h9 j v _ hjs hv eL
  generalize hx : (⟨v.ownBlock.getD 0, 0, (cod t).size, v, []⟩ : HV) = x
  have heq := Env.set_eq env st.heap.length x
  have hx1 : x.val = v := by rw [← hx]
  have hlen : (st.heap.set h (.nown t LL (j :: js) (.slc st.heap.length 0 (LL.getD j []).length false :: cs) ty tyr) ++ [.own t (LL.getD j []) tyr] : Heap cod).length = st.heap.length + 1 := by simp
  have newo : objRel (env.set st.heap.length x) (st.heap.length + 1) x w b.mine (.own t (LL.getD j []) tyr : HObj cod) := by
    rw [← hx]
    exact own_obj o1 (fun b hb => (o2 b hb).1) _ _
  obtain ⟨u, hvs, newc⟩ : ∃ u, vs[j]? = some u ∧ crel (env.set st.heap.length x) (st.heap.length + 1) (.slc st.heap.length 0 (LL.getD j []).length false) u := by
    have hl := h5 j hjs
    rw [hv] at hl
    have hA : ∃ A c, v = .slice A (LL.getD j []).length c ∧ (LL.getD j []).length ≤ c ∧ c ≤ maxLen ∧ (0 < (LL.getD j []).length → A = some (x.addr 0 0)) := by
      rcases o1.2 with ⟨q1, q2⟩ | ⟨g, cap, cur, q1, _, _, q4, q5, _⟩
      · exact ⟨none, 0, by rw [q1, q2], by omega, by decide, fun h => by omega⟩
      · refine ⟨_, cap, q1, q4, q5, fun _ => ?_⟩
        rw [← hx, q1]
        simp [HV.addr, Value.ownBlock]
    obtain ⟨A, c, e1, e2, e3, e4⟩ := hA
    rcases hl with hl | ⟨_, A', n, c1, c2, hl, q1, q2, q3⟩
    · refine ⟨v, hl, by omega, A, c, e1, e2, e3, (fun h => by cases h), fun h => ?_⟩
      rw [Env.set_same]
      exact e4 h
    · rw [e1] at q1
      simp only [Option.some.injEq, Value.slice.injEq] at q1
      obtain ⟨rfl, rfl, rfl⟩ := q1
      refine ⟨_, hl, by omega, A, c1, rfl, q2, q3, (fun h => by cases h), fun h => ?_⟩
      rw [Env.set_same]
      exact e4 h
  have cases_ : ∀ (k : Nat) (o : HObj cod), (st.heap.set h (.nown t LL (j :: js) (.slc st.heap.length 0 (LL.getD j []).length false :: cs) ty tyr) ++ [.own t (LL.getD j []) tyr] : Heap cod)[k]? = some o → (k ≠ h ∧ k < st.heap.length ∧ st.heap[k]? = some o) ∨ (k = h ∧ o = .nown t LL (j :: js) (.slc st.heap.length 0 (LL.getD j []).length false :: cs) ty tyr) ∨ (k = st.heap.length ∧ o = .own t (LL.getD j []) tyr) := fun k o hk => by
    rcases Nat.lt_or_ge k st.heap.length with hl' | hl'
    · rw [List.getElem?_append_left (by simpa using hl')] at hk
      by_cases e : k = h
      · subst e
        rw [List.getElem?_set_self hlt] at hk
        exact .inr (.inl ⟨rfl, (Option.some.inj hk).symm⟩)
      · rw [List.getElem?_set_ne (Ne.symm e)] at hk
        exact .inl ⟨e, hl', hk⟩
    · rw [List.getElem?_append_right (by simpa using hl')] at hk
      simp only [List.length_set] at hk
      have : k - st.heap.length = 0 := by
        rcases Nat.eq_zero_or_pos (k - st.heap.length) with e | e
        · exact e
        · rw [List.getElem?_eq_none (by simp; omega)] at hk; cases hk
      rw [this] at hk
      exact .inr (.inr ⟨by omega, (Option.some.inj hk).symm⟩)
  -- what the outer object keeps, and what the row takes
  have hasO : ∀ c, (HObj.nown t LL (j :: js) (.slc st.heap.length 0 (LL.getD j []).length false :: cs) ty tyr : HObj cod).has (env h) c → (HObj.nown t LL js cs ty tyr : HObj cod).has (env h) c := fun c hc => by
    rcases hc with hc | ⟨k, u, hu, hk, hb⟩
    · exact .inl hc
    · exact .inr ⟨k, u, hu, fun h => hk (List.mem_cons_of_mem _ h), hb⟩
  have hasN : ∀ c, (HObj.own t (LL.getD j []) tyr : HObj cod).has x c → (HObj.nown t LL js cs ty tyr : HObj cod).has (env h) c := fun c hc => by
    have hc : x.val.ownBlock = some c := hc
    rw [hx1] at hc
    exact .inr ⟨j, v, hv, hjs, hc⟩
  have apart : ∀ c, (HObj.nown t LL (j :: js) (.slc st.heap.length 0 (LL.getD j []).length false :: cs) ty tyr : HObj cod).has (env h) c → ¬ (HObj.own t (LL.getD j []) tyr : HObj cod).has x c := fun c hc hn => by
    have hn : x.val.ownBlock = some c := hn
    rw [hx1] at hn
    rcases hc with hc | ⟨k, u, hu, hk, hb⟩
    · exact (o2 c hn).2 hc
    · exact h10 k j u v c (fun e => hk (by rw [e]; exact List.mem_cons_self ..)) (fun h => hk (List.mem_cons_of_mem _ h)) hjs hu hv hb hn
  refine ⟨env.set st.heap.length x, ?_, hd, ⟨fun k o hk => ?_, fun k k' o o' c hne hk hk' hw hc hc' => ?_, G.tab⟩, hkin, fun q hq hn => ?_, ?_, fun q o hq hqo hown => ?_⟩
  · simp only [hlen]
    exact forall2_mono (fun _ _ hr => vrel_mono (by omega) heq hr) hF
  · simp only [hlen]
    rcases cases_ k o hk with ⟨g1, g2, g3⟩ | ⟨rfl, rfl⟩ | ⟨rfl, rfl⟩
    · rw [Env.set_other _ _ (by omega)]
      exact objRel_mono (by omega) heq (G.obj k o g3)
    · rw [Env.set_other _ _ (by omega)]
      refine ⟨h1, h2, ⟨h3.1, by simp [h3.2]⟩, ⟨vs, h4, fun i hi => h5 i fun h => hi (List.mem_cons_of_mem _ h), fun q i c hq hc => ?_⟩, h7, h8, fun i u l hi => h9 i u l fun h => hi (List.mem_cons_of_mem _ h), fun i k u u' c hik hi hk => h10 i k u u' c hik (fun h => hi (List.mem_cons_of_mem _ h)) fun h => hk (List.mem_cons_of_mem _ h)⟩
      cases q with
      | zero =>
        simp only [List.getElem?_cons_zero, Option.some.injEq] at hq hc
        subst hq
        subst hc
        exact ⟨u, hvs, newc⟩
      | succ q =>
        simp only [List.getElem?_cons_succ] at hq hc
        obtain ⟨u, hu, hr⟩ := h6 q i c hq hc
        exact ⟨u, hu, crel_mono (by omega) heq hr⟩
    · rw [Env.set_same]
      exact newo
  · rcases cases_ k o hk with ⟨g1, g2, g3⟩ | ⟨rfl, rfl⟩ | ⟨rfl, rfl⟩
    · rw [Env.set_other _ _ (by omega)] at hc
      rcases cases_ k' o' hk' with ⟨g1', g2', g3'⟩ | ⟨rfl, rfl⟩ | ⟨rfl, rfl⟩
      · rw [Env.set_other _ _ (by omega)] at hc'
        exact G.sep k k' o o' c hne g3 g3' hw hc hc'
      · rw [Env.set_other _ _ (by omega)] at hc'
        exact G.sep k _ o _ c hne g3 hob hw hc (hasO c hc')
      · rw [Env.set_same] at hc'
        exact G.sep k h o _ c g1 g3 hob hw hc (hasN c hc')
    · rw [Env.set_other _ _ (by omega)] at hc
      rcases cases_ k' o' hk' with ⟨g1', g2', g3'⟩ | ⟨rfl, rfl⟩ | ⟨rfl, rfl⟩
      · rw [Env.set_other _ _ (by omega)] at hc'
        exact G.sep _ k' _ o' c hne hob g3' rfl (hasO c hc) hc'
      · exact absurd rfl hne
      · rw [Env.set_same] at hc'
        exact apart c hc hc'
    · rw [Env.set_same] at hc
      rcases cases_ k' o' hk' with ⟨g1', g2', g3'⟩ | ⟨rfl, rfl⟩ | ⟨rfl, rfl⟩
      · rw [Env.set_other _ _ (by omega)] at hc'
        exact G.sep h k' _ o' c (Ne.symm g1') hob g3' rfl (hasN c hc) hc'
      · rw [Env.set_other _ _ (by omega)] at hc'
        exact apart c hc' hc
      · exact absurd rfl hne
  · rw [Env.set_other _ _ (by omega)]
    exact hK0 q hq hn
  · simp only [hlen]
    omega
  · rcases cases_ q o hqo with ⟨g1, g2, g3⟩ | ⟨rfl, rfl⟩ | ⟨rfl, rfl⟩
    · exact hK2 q o hq g3 hown
    · cases hown
    · omega
theorem Runs.openV {P : Program} {b0 : Base} {kk : List Item} {st : St cod} {Q : St cod → Prop} (h j : Nat) {t : Nat} {LL : List (List (cod t).α)} {js : List Nat} {cs : List Cell} {ty tyr : TypeId} (ho : getObj st.heap h = .nown t LL js cs ty tyr) (hj : j < LL.length) (hjs : j ∉ js) {st' : St cod} (e : st.openV h j = st') (hr : Runs P b0 kk st' Q) (hty : ¬ ty < 1000000 := by decide) : Runs P b0 kk st Q :=
  Runs.weaken (fun a w hR => by rw [← e]; exact openV_rel ho hj hjs hty hR) hr
/-- The row that is an object of its own, and the slice that stands for it. -/
def rowOfV (t : Nat) (tyr : TypeId) (H : Heap cod) : Cell → Option (Nat × List (cod t).α)
  | .slc r 0 m _ => match getObj H r with
    | .own u l ty => if h : u = t then (if ty = tyr ∧ m = l.length ∧ 0 < m then some (r, h ▸ l) else none) else none
    | _ => none
  | _ => none
theorem rowOfV_spec {t : Nat} {tyr : TypeId} {H : Heap cod} {env : Env} {w : World} {M : Nat → Prop} {c : Cell} {v : Value} {r : Nat} {l : List (cod t).α} (h : rowOfV t tyr H c = some (r, l)) (G : Good env H w M) (hc : crel env H.length c v) :
    ∃ v', (∃ A n c c', some v = some (.slice A n c) ∧ some v' = some (.slice A n c') ∧ n ≤ c ∧ c ≤ maxLen) ∧ w.ownsRow 0 tyr (cod t).size v' l.length (vals (cod t) l) ∧ (∀ b, v'.ownBlock = some b → M b) ∧ (∀ b, v'.ownBlock = some b → ∃ o, H[r]? = some o ∧ o.wr = true ∧ o.has (env r) b) ∧ r < H.length := by
  unfold rowOfV at h
  split at h
  · rename_i r' m tt
    split at h
    · rename_i u l' ty ho
      split at h
      · rename_i e
        subst e
        split at h
        · rename_i e
          obtain ⟨rfl, hm, hp⟩ := e
          simp only [Option.some.injEq, Prod.mk.injEq] at h
          obtain ⟨rfl, rfl⟩ := h
          have hob := getObj_obj ho (by simp)
          obtain ⟨o1, o2, o3, o4, o5⟩ := G.obj _ _ hob
          obtain ⟨g1, A, cc, rfl, g2, g3, g4, g5⟩ := hc
          have hA := g5 hp
          have hadr : (env r').addr 0 0 = ⟨(env r').block, 0, none⟩ := by simp [HV.addr, o1]
          rw [hadr] at hA
          subst hA
          subst hm
          refine ⟨(env r').val, ?_, o3, o4, fun b hb => ⟨_, hob, rfl, hb⟩, g1⟩
          rcases o3.2 with ⟨_, q2⟩ | ⟨g, cap, cur, q1, _⟩
          · omega
          · have e := o5 _ _ _ q1
            exact ⟨_, _, cc, cap, rfl, by rw [q1, e], g2, g3⟩
        · cases h
      · cases h
    · cases h
  · cases h
def St.closeV (h : Nat) (st : St cod) : St cod := match getObj st.heap h with
  | .nown t LL (j :: js) (c :: cs) ty tyr => match rowOfV t tyr st.heap c with
    | some (r, l) => { st with heap := (st.heap.set h (.nown t (LL.set j l) js cs ty tyr)).set r .dead }
    | none => st
  | _ => st
theorem closeV_rel {st : St cod} {b : Base} {a : Act} {w : World} {h j t r : Nat} {LL : List (List (cod t).α)} {js : List Nat} {c : Cell} {cs : List Cell} {ty tyr : TypeId} {l : List (cod t).α} (ho : getObj st.heap h = .nown t LL (j :: js) (c :: cs) ty tyr) (hj : j < LL.length) (hjs : j ∉ js) (hty : ¬ ty < 1000000) (hr : rowOfV t tyr st.heap c = some (r, l)) (hn : b.n ≤ h) (hne : r ≠ h) (hR : Rel st b a w) : Rel (st.closeV h) b a w := by
  have hst : st.closeV h = { st with heap := (st.heap.set h (.nown t (LL.set j l) js cs ty tyr)).set r .dead } := by
    unfold St.closeV
    rw [ho]
    simp only [hr]
  rw [hst]
  obtain ⟨env, hF, hd, G, hkin, hK0, hK1, hK2⟩ := hR
  have hob := getObj_obj ho (by simp)
  have hlt : h < st.heap.length := (List.getElem?_eq_some_iff.1 hob).1
  obtain ⟨h1, h2, h3, ⟨vs, h4, h5, h6⟩, h7, h8, h9, h10⟩ := G.obj h _ hob
  obtain ⟨v0, hv, hcv⟩ := h6 0 j c rfl rfl
  obtain ⟨v, hlk, r1, r2, r3, r4⟩ := rowOfV_spec hr G hcv
  generalize hx : (⟨(env h).block, (env h).off, (env h).esize, (env h).val, (env h).rows.set j v⟩ : HV) = x
  have x1 : x.val = (env h).val := by rw [← hx]
  have x2 : x.rows = (env h).rows.set j v := by rw [← hx]
  have x3 : x.block = (env h).block := by rw [← hx]
  have x4 : x.off = (env h).off := by rw [← hx]
  have x5 : x.esize = (env h).esize := by rw [← hx]
  have hlen : ((st.heap.set h (.nown t (LL.set j l) js cs ty tyr)).set r .dead : Heap cod).length = st.heap.length := by simp
  have cr : ∀ (c : Cell) (u : Value), crel env st.heap.length c u → crel (env.set h x) st.heap.length c u := fun c u hc => by
    have ha : ∀ k i o, (env.set h x k).addr i o = (env k).addr i o := fun k i o => by
      by_cases e : k = h
      · subst e
        rw [Env.set_same]
        unfold HV.addr
        rw [x3, x4, x5]
      · rw [Env.set_other _ _ e]
    have hval : ∀ k, (env.set h x k).val = (env k).val := fun k => by
      by_cases e : k = h
      · subst e
        rw [Env.set_same, x1]
      · rw [Env.set_other _ _ e]
    cases c <;> simp only [crel] at hc ⊢ <;> try exact hc
    case ptr => rw [ha]; exact hc
    case slc => rw [ha]; exact hc
    case own => rw [ha, hval]; exact hc
    case fn f caps =>
      obtain ⟨g1, rfl⟩ := hc
      refine ⟨g1, ?_⟩
      congr 2
      exact List.map_congr_left fun c hc => by rw [ha]
  have get : ∀ (k : Nat) (o : HObj cod), ((st.heap.set h (.nown t (LL.set j l) js cs ty tyr)).set r .dead : Heap cod)[k]? = some o → (k = r ∧ o = .dead) ∨ (k = h ∧ o = .nown t (LL.set j l) js cs ty tyr) ∨ (k ≠ h ∧ k ≠ r ∧ st.heap[k]? = some o) := fun k o hk => by
    by_cases e : k = r
    · subst e
      rw [List.getElem?_set_self (by simpa using r4)] at hk
      exact .inl ⟨rfl, (Option.some.inj hk).symm⟩
    · rw [List.getElem?_set_ne (Ne.symm e)] at hk
      by_cases e2 : k = h
      · subst e2
        rw [List.getElem?_set_self hlt] at hk
        exact .inr (.inl ⟨rfl, (Option.some.inj hk).symm⟩)
      · rw [List.getElem?_set_ne (Ne.symm e2)] at hk
        exact .inr (.inr ⟨e2, e, hk⟩)
  have rowx : ∀ i u, x.rows[i]? = some u → (i = j ∧ u = v) ∨ (i ≠ j ∧ (env h).rows[i]? = some u) := fun i u hu => by
    rw [x2] at hu
    by_cases e : i = j
    · subst e
      rw [List.getElem?_set_self (by omega)] at hu
      exact .inl ⟨rfl, (Option.some.inj hu).symm⟩
    · rw [List.getElem?_set_ne (Ne.symm e)] at hu
      exact .inr ⟨e, hu⟩
  -- the row's block is none of the others
  have rowO : ∀ c, v.ownBlock = some c → ¬ (HObj.nown t LL (j :: js) (‹Cell› :: cs) ty tyr : HObj cod).has (env h) c := fun c hc hh => by
    obtain ⟨o, q1, q2, q3⟩ := r3 c hc
    exact G.sep r h o _ c hne q1 hob q2 q3 hh
  have hasX : ∀ c, (HObj.nown t (LL.set j l) js cs ty tyr : HObj cod).has x c → (HObj.nown t LL (j :: js) (‹Cell› :: cs) ty tyr : HObj cod).has (env h) c ∨ v.ownBlock = some c := fun c hc => by
    rcases hc with hc | ⟨i, u, hu, hi, hb⟩
    · rw [x1] at hc
      exact .inl (.inl hc)
    · rcases rowx i u hu with ⟨rfl, rfl⟩ | ⟨e, hu⟩
      · exact .inr hb
      · exact .inl (.inr ⟨i, u, hu, fun h => (List.mem_cons.1 h).elim e hi, hb⟩)
  refine ⟨env.set h x, ?_, hd, ⟨fun k o hk => ?_, fun k k' o o' c hne' hk hk' hw hc hc' => ?_, G.tab⟩, hkin, fun q hq hq2 => ?_, ?_, fun q o hq hqo hown => ?_⟩
  · simp only [hlen]
    have := f2_map_mem (f := id) (R := vrel env st.heap.length) (S := vrel (env.set h x) st.heap.length) (fun y _ u hu => by
      have := vrel_map (f := id) (fun c u hc => cr c u hc) hu
      have e : y.mapC id = y := by
        cases y with
        | c x => rfl
        | agg cs => simp [SV.mapC]
        | tup vs =>
          simp only [SV.mapC, id_eq, List.map_id_fun', SV.tup.injEq]
          refine (List.map_congr_left fun v _ => ?_).trans (List.map_id _)
          cases v <;> simp
      rw [e] at this
      exact this) hF
    rwa [List.map_id] at this
  · simp only [hlen]
    rcases get k o hk with ⟨rfl, rfl⟩ | ⟨rfl, rfl⟩ | ⟨g1, g2, g3⟩
    · trivial
    · rw [Env.set_same]
      refine ⟨by rw [x4]; exact h1, by rw [x5]; exact h2, ⟨by rw [x2, List.length_set, List.length_set]; exact h3.1, by simpa using h3.2⟩, ⟨vs, by rw [x1, List.length_set]; exact h4, fun i hi => ?_, fun q i c' hq hc' => ?_⟩, by rw [x1]; exact h7, by rw [x1, x3]; exact h8, fun i u l' hi hu hl' => ?_, fun i k u u' c' hik hi hkk hu hu' hb hb' => ?_⟩
      · rw [x2]
        by_cases e : i = j
        · subst e
          rw [List.getElem?_set_self (by omega)]
          rw [hv]
          exact .inr ⟨hty, hlk⟩
        · rw [List.getElem?_set_ne (Ne.symm e)]
          exact h5 i fun h => (List.mem_cons.1 h).elim e hi
      · obtain ⟨u, hu, hr'⟩ := h6 (q + 1) i c' (by simpa using hq) (by simpa using hc')
        exact ⟨u, hu, cr _ _ hr'⟩
      · rcases rowx i u hu with ⟨rfl, rfl⟩ | ⟨e, hu⟩
        · rw [List.getElem?_set_self (by omega)] at hl'
          simp only [Option.some.injEq] at hl'
          subst hl'
          refine ⟨r1, fun b hb => ⟨r2 b hb, fun hb2 => rowO b hb (.inl ?_)⟩⟩
          rw [x1] at hb2
          exact hb2
        · rw [List.getElem?_set_ne (Ne.symm e)] at hl'
          obtain ⟨q1, q2⟩ := h9 i u l' (fun h => (List.mem_cons.1 h).elim e hi) hu hl'
          exact ⟨q1, fun b hb => ⟨(q2 b hb).1, by rw [x1]; exact (q2 b hb).2⟩⟩
      · rcases rowx i u hu with ⟨rfl, rfl⟩ | ⟨e, hu⟩ <;> rcases rowx k u' hu' with ⟨rfl, rfl⟩ | ⟨e', hu'⟩
        · exact hik rfl
        · exact rowO c' hb (.inr ⟨k, u', hu', fun h => (List.mem_cons.1 h).elim e' hkk, hb'⟩)
        · exact rowO c' hb' (.inr ⟨i, u, hu, fun h => (List.mem_cons.1 h).elim e hi, hb⟩)
        · exact h10 i k u u' c' hik (fun h => (List.mem_cons.1 h).elim e hi) (fun h => (List.mem_cons.1 h).elim e' hkk) hu hu' hb hb'
    · rw [Env.set_other _ _ g1]
      have := objRel_map (f := id) (fun c u hc => cr c u hc) (G.obj k o g3)
      have e : o.mapC id = o := by
        cases o <;> simp [HObj.mapC]
      rwa [e] at this
  · rcases get k o hk with ⟨rfl, rfl⟩ | ⟨rfl, rfl⟩ | ⟨g1, g2, g3⟩
    · cases hw
    · rcases get k' o' hk' with ⟨rfl, rfl⟩ | ⟨rfl, rfl⟩ | ⟨g1', g2', g3'⟩
      · exact hc'
      · exact hne' rfl
      · rw [Env.set_same] at hc
        rw [Env.set_other _ _ g1'] at hc'
        rcases hasX c hc with hc | hc
        · exact G.sep _ k' _ o' c hne' hob g3' rfl hc hc'
        · obtain ⟨o2, q1, q2, q3⟩ := r3 c hc
          exact G.sep r k' o2 o' c (Ne.symm g2') q1 g3' q2 q3 hc'
    · rw [Env.set_other _ _ g1] at hc
      rcases get k' o' hk' with ⟨rfl, rfl⟩ | ⟨rfl, rfl⟩ | ⟨g1', g2', g3'⟩
      · exact hc'
      · rw [Env.set_same] at hc'
        rcases hasX c hc' with hc' | hc'
        · exact G.sep k _ o _ c hne' g3 hob hw hc hc'
        · obtain ⟨o2, q1, q2, q3⟩ := r3 c hc'
          exact G.sep k r o o2 c g2 g3 q1 hw hc q3
      · rw [Env.set_other _ _ g1'] at hc'
        exact G.sep k k' o o' c hne' g3 g3' hw hc hc'
  · rw [Env.set_other _ _ (by omega)]
    exact hK0 q hq hq2
  · simp only [hlen]
    exact hK1
  · rcases get q o hqo with ⟨rfl, rfl⟩ | ⟨rfl, rfl⟩ | ⟨g1, g2, g3⟩
    · cases hown
    · omega
    · exact hK2 q o hq g3 hown
theorem Runs.closeV {P : Program} {b0 : Base} {kk : List Item} {st : St cod} {Q : St cod → Prop} (h : Nat) {j t r N : Nat} (hb : b0.n = N) {LL : List (List (cod t).α)} {js : List Nat} {c : Cell} {cs : List Cell} {ty tyr : TypeId} {l : List (cod t).α} (ho : getObj st.heap h = .nown t LL (j :: js) (c :: cs) ty tyr) (hj : j < LL.length) (hjs : j ∉ js) (hr : rowOfV t tyr st.heap c = some (r, l)) (hn : N ≤ h) (hne : r ≠ h) {st' : St cod} (e : st.closeV h = st') (hk : Runs P b0 kk st' Q) (hty : ¬ ty < 1000000 := by decide) : Runs P b0 kk st Q :=
  Runs.weaken (fun a w hR => by rw [← e]; exact closeV_rel ho hj hjs hty hr (by omega) hne hR) hk
end
end Go.Proofs.Ytjffboggpofbfaa.Sym
