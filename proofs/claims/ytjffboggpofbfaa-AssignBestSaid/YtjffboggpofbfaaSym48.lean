/- A block of one row taken for a slice of slices; a slice of slices that is only read from here on; a region that draws its order, its last operations by hand. -/
import Derived.Test.YtjffboggpofbfaaSym45
namespace Go.Proofs.Ytjffboggpofbfaa.Sym
open Go.RowKit

section
variable {cod : Nat → Codec}
/-! ### a literal of rows -/
def St.blkW (d h t : Nat) (cs : List Cell) (ty tyr : TypeId) (st : St cod) : St cod := { tmps := st.tmps.set d (.c (.own st.heap.length cs.length)), heap := st.heap.set h .dead ++ [.nown t (List.replicate cs.length []) (List.range cs.length) cs ty tyr] }
theorem blkW_rel {st : St cod} {b : Base} {a : Act} {w : World} (d h t : Nat) {cs : List Cell} (ty tyr : TypeId) (hd0 : st.tmps[d]? = some (.c (.slc h 0 cs.length true))) (ho : getObj st.heap h = .blk cs ty) (hty : ty < 1000000) (hn : 0 < cs.length ∧ cs.length ≤ 1000000) (hR : Rel st b a w) : Rel (st.blkW d h t cs ty tyr) b a w := by
  obtain ⟨env, hF, hd, G, hkin, hK0, hK1, hK2⟩ := hR
  have hob := getObj_obj ho (by simp)
  have hlt : h < st.heap.length := (List.getElem?_eq_some_iff.1 hob).1
  obtain ⟨h1, h2, vs, h3, h4⟩ := G.obj h _ hob
  have hvl : vs.length = cs.length := (f2_length h4).symm
  generalize hx : (⟨(env h).block, 0, 1, .slice (some ⟨(env h).block, 0, none⟩) cs.length cs.length, List.replicate cs.length undef⟩ : HV) = x
  have heq := Env.set_eq env st.heap.length x
  have hlen : (st.blkW d h t cs ty tyr).heap.length = st.heap.length + 1 := by simp [St.blkW]
  have eO : tyO ty = ty := if_pos hty
  have out : ∀ {α : Type} (y : α) (j : Nat), j ∉ List.range cs.length → (List.replicate cs.length y)[j]? = none := fun y j hj => by
    rw [List.mem_range] at hj
    exact List.getElem?_eq_none (by rw [List.length_replicate]; omega)
  have newo : objRel (env.set st.heap.length x) (st.heap.length + 1) x w b.mine (.nown t (List.replicate cs.length []) (List.range cs.length) cs ty tyr : HObj cod) := by
    rw [← hx]
    refine ⟨rfl, rfl, ⟨by simp, by simp⟩, ⟨vs, ⟨by simp [hvl], .inr ⟨(env h).block, cs.length, _, by simp, Nat.zero_le _, by rw [eO]; exact h3, by simp, by unfold maxLen; omega, by simp [hvl], by simp [List.take_of_length_le, hvl]⟩⟩, fun j hj => ?_, fun q j c1 hq hc1 => ?_⟩, fun b hb => ?_, fun A m c hA => ?_, fun j u l hj hju hl => ?_, fun j k u u' b _ hj hk hu hu' hb => ?_⟩
    · refine .inl ?_
      rw [out _ j hj]
      rw [List.mem_range] at hj
      exact List.getElem?_eq_none (by omega)
    · obtain ⟨q1, q2⟩ := List.getElem?_eq_some_iff.1 hq
      rw [List.getElem_range] at q2
      subst q2
      have hlc := (List.getElem?_eq_some_iff.1 hc1).1
      obtain ⟨v, hv, hcv⟩ := f2_get h4 hc1
      rw [hx]
      exact ⟨v, hv, crel_mono (by omega) heq hcv⟩
    · simp only [Value.ownBlock, Option.some.injEq] at hb
      rw [← hb]
      exact h2
    · simp only [Value.slice.injEq, Option.some.injEq] at hA
      exact hA.1.symm
    · have hju : (List.replicate cs.length undef)[j]? = some u := hju
      rw [out _ j hj] at hju
      cases hju
    · have hu : (List.replicate cs.length undef)[j]? = some u := hu
      rw [out _ j hj] at hu
      cases hu
  have hasN : ∀ c', (HObj.nown t (List.replicate cs.length []) (List.range cs.length) cs ty tyr : HObj cod).has x c' → c' = (env h).block := fun c' hc => by
    rw [← hx] at hc
    rcases hc with hc | ⟨j, u, hu, hj, hb⟩
    · simp only [Value.ownBlock, Option.some.injEq] at hc
      exact hc.symm
    · have hu : (List.replicate cs.length undef)[j]? = some u := hu
      rw [out _ j hj] at hu
      cases hu
  have get : ∀ (q : Nat) (o : HObj cod), (st.blkW d h t cs ty tyr).heap[q]? = some o → (q = h ∧ o = .dead) ∨ (q ≠ h ∧ q < st.heap.length ∧ st.heap[q]? = some o) ∨ (q = st.heap.length ∧ o = .nown t (List.replicate cs.length []) (List.range cs.length) cs ty tyr) := fun q o hq => by
    simp only [St.blkW] at hq
    rcases Nat.lt_or_ge q st.heap.length with hl | hl
    · rw [List.getElem?_append_left (by simpa using hl)] at hq
      by_cases e : q = h
      · subst e
        rw [List.getElem?_set_self hlt] at hq
        exact .inl ⟨rfl, (Option.some.inj hq).symm⟩
      · rw [List.getElem?_set_ne (Ne.symm e)] at hq
        exact .inr (.inl ⟨e, hl, hq⟩)
    · rw [List.getElem?_append_right (by simpa using hl)] at hq
      simp only [List.length_set] at hq
      have : q - st.heap.length = 0 := by
        rcases Nat.eq_zero_or_pos (q - st.heap.length) with e | e
        · exact e
        · rw [List.getElem?_eq_none (by simp; omega)] at hq; cases hq
      rw [this] at hq
      exact .inr (.inr ⟨by omega, (Option.some.inj hq).symm⟩)
  refine ⟨env.set st.heap.length x, ?_, hd, ⟨fun q o hq => ?_, fun q q' o o' c hne hq hq' hw hc hc' => ?_, G.tab⟩, hkin, fun q hq hn' => ?_, ?_, fun q o hq hqo hown => ?_⟩
  · rw [hlen]
    obtain ⟨v', hv, hvr⟩ := f2_get hF hd0
    obtain ⟨_, A, cc, rfl, g1, g2, g3, g4⟩ := hvr
    have hF' := forall2_mono (fun _ _ hr => vrel_mono (N' := st.heap.length + 1) (by omega) heq hr) hF
    have hA := g4 hn.1
    have hcc := g3 rfl
    subst hcc
    subst hA
    have ea : (env h).addr 0 0 = ⟨(env h).block, 0, none⟩ := by simp [HV.addr, h1]
    have hc : vrel (env.set st.heap.length x) (st.heap.length + 1) (.c (.own st.heap.length cs.length)) (.slice (some ((env h).addr 0 0)) cs.length cs.length) := by
      refine ⟨by omega, ?_, _, cs.length, rfl, g1, g2, fun _ => ?_⟩
      · rw [Env.set_same, ← hx, ea]
      · rw [Env.set_same, ← hx, ea]
        simp [HV.addr]
    have hs := f2_set hc d hF'
    have e : a.tmps.toList.set d (.slice (some ((env h).addr 0 0)) cs.length cs.length) = a.tmps.toList := by
      obtain ⟨hl, hx⟩ := List.getElem?_eq_some_iff.1 hv
      rw [← hx]
      exact List.set_getElem_self hl
    rw [e] at hs
    exact hs
  · rw [hlen]
    rcases get q o hq with ⟨rfl, rfl⟩ | ⟨_, g2, g3⟩ | ⟨rfl, rfl⟩
    · trivial
    · rw [Env.set_other _ _ (by omega)]
      exact objRel_mono (by omega) heq (G.obj q o g3)
    · rw [Env.set_same]
      exact newo
  · rcases get q o hq with ⟨rfl, rfl⟩ | ⟨g1, g2, g3⟩ | ⟨rfl, rfl⟩
    · cases hw
    · rw [Env.set_other _ _ (by omega)] at hc
      rcases get q' o' hq' with ⟨rfl, rfl⟩ | ⟨g1', g2', g3'⟩ | ⟨rfl, rfl⟩
      · exact hc'
      · rw [Env.set_other _ _ (by omega)] at hc'
        exact G.sep q q' o o' c hne g3 g3' hw hc hc'
      · rw [Env.set_same] at hc'
        exact G.sep q h o _ c g1 g3 hob hw hc (hasN c hc')
    · rw [Env.set_same] at hc
      rcases get q' o' hq' with ⟨rfl, rfl⟩ | ⟨g1', g2', g3'⟩ | ⟨rfl, rfl⟩
      · exact hc'
      · rw [Env.set_other _ _ (by omega)] at hc'
        exact G.sep h q' _ o' c (Ne.symm g1') hob g3' rfl (hasN c hc) hc'
      · exact absurd rfl hne
  · rw [Env.set_other _ _ (by omega)]
    exact hK0 q hq hn'
  · rw [hlen]
    omega
  · rcases get q o hqo with ⟨rfl, rfl⟩ | ⟨g1, g2, g3⟩ | ⟨rfl, rfl⟩
    · cases hown
    · exact hK2 q o hq g3 hown
    · cases hown
theorem Runs.blkW {P : Program} {b0 : Base} {kk : List Item} {st : St cod} {Q : St cod → Prop} (d h t : Nat) {cs : List Cell} (ty tyr : TypeId) (hd0 : st.tmps[d]? = some (.c (.slc h 0 cs.length true))) (ho : getObj st.heap h = .blk cs ty) (hn : 0 < cs.length ∧ cs.length ≤ 1000000) {st' : St cod} (e : st.blkW d h t cs ty tyr = st') (hr : Runs P b0 kk st' Q) (hty : ty < 1000000 := by decide) : Runs P b0 kk st Q :=
  Runs.weaken (fun a w hR => by rw [← e]; exact blkW_rel d h t ty tyr hd0 ho hty hn hR) hr
/-! ### only read from here on -/
def St.seenN (h : Nat) (st : St cod) : St cod := match getObj st.heap h with
  | .nown t LL [] _ _ _ => { st with heap := st.heap.set h (.nin t LL none) }
  | _ => st
theorem own_rowAt {w : World} {tyr : TypeId} {c : Codec} {v : Value} {l : List c.α} (h : w.ownsRow 0 tyr c.size v l.length (vals c l)) : rowAt w c v l := by
  rcases h.2 with ⟨q1, q2⟩ | ⟨g, cap, cur, q1, _, q3, q4, q5, _⟩
  · have hl : l = [] := List.eq_nil_of_length_eq_zero q2
    subst hl
    exact ⟨none, 0, q1, Nat.le_refl _, Nat.zero_le _, fun h => absurd rfl h⟩
  · refine ⟨_, cap, q1, q4, q5, fun _ => ⟨g, 0, rfl, (Array.getElem?_eq_some_iff.1 q3).1, fun j u hu => ?_⟩⟩
    have := h.cells (g := g) (by simp [q1, Value.ownBlock]) j u hu
    have hadd : (⟨g, 0, none⟩ : Addr).add j = ⟨g, j, none⟩ := by unfold Addr.add; split <;> simp_all
    rw [Nat.zero_add]
    first
      | exact this
      | (rw [hadd] at this; exact this)
theorem seenN_rel {st : St cod} {b : Base} {a : Act} {w : World} (h : Nat) {t : Nat} {LL : List (List (cod t).α)} {ty tyr : TypeId} (ho : getObj st.heap h = .nown t LL [] [] ty tyr) (hty : ty < 1000000) (hR : Rel st b a w) : Rel (st.seenN h) b a w := by
  have hst : st.seenN h = { st with heap := st.heap.set h (.nin t LL none) } := by
    unfold St.seenN
    rw [ho]
  rw [hst]
  obtain ⟨env, hF, hd, G, hkin, hK0, hK1, hK2⟩ := hR
  have hob := getObj_obj ho (by simp)
  have hlt : h < st.heap.length := (List.getElem?_eq_some_iff.1 hob).1
  obtain ⟨h1, h2, h3, ⟨vs, h4, h5, h6⟩, h7, h8, h9, h10⟩ := G.obj h _ hob
  have eO : tyO ty = ty := if_pos hty
  rw [eO] at h4
  have evs : vs = (env h).rows := List.ext_getElem? fun j => lk_strict hty (h5 j List.not_mem_nil)
  subst evs
  have hlen : (st.heap.set h (.nin t LL none) : Heap cod).length = st.heap.length := List.length_set
  have hblk : LL ≠ [] → (env h).val.ownBlock = some (env h).block := fun hl => by
    rcases h4.2 with ⟨_, hn⟩ | ⟨g, cap, cur, hv, _⟩
    · exact absurd (List.eq_nil_of_length_eq_zero hn) hl
    · have e := h8 _ _ _ hv
      simp only [Addr.mk.injEq, and_true] at e
      rw [hv, ← e]
      rfl
  have newo : objRel env st.heap.length (env h) w b.mine (.nin t LL none : HObj cod) := by
    refine ⟨h2, (env h).rows, rfl, h3.1, fun j u hu => ?_, fun hl => ?_, fun i v l hv hl => own_rowAt (h9 i v l List.not_mem_nil hv hl).1, fun p hp => by cases hp⟩
    · have hne : LL ≠ [] := by
        rintro rfl
        have := (List.getElem?_eq_some_iff.1 hu).1
        rw [h3.1] at this
        simp at this
      have := h4.cells (g := (env h).block) (hblk hne) j u hu
      have hadd : (⟨(env h).block, 0, none⟩ : Addr).add j = ⟨(env h).block, j, none⟩ := by unfold Addr.add; split <;> simp_all
      rw [h1, Nat.zero_add]
      first
        | exact this
        | (rw [hadd] at this; exact this)
    · have := own_block_lt h4 (hblk hl)
      exact this.2
  have hasN : ∀ c, (HObj.nin t LL none : HObj cod).has (env h) c → (HObj.nown t LL [] [] ty tyr : HObj cod).has (env h) c := fun c hc => by
    rcases hc with ⟨q1, q2⟩ | ⟨vs', e, v, hv, o, n, k, hvv, hn⟩
    · rw [q2]
      exact .inl (hblk q1)
    · subst e
      obtain ⟨j, hj, hjv⟩ := List.getElem_of_mem hv
      exact .inr ⟨j, v, by rw [List.getElem?_eq_getElem hj, hjv], List.not_mem_nil, by rw [hvv]; rfl⟩
  have get : ∀ (q : Nat) (o : HObj cod), (st.heap.set h (.nin t LL none) : Heap cod)[q]? = some o → (q = h ∧ o = .nin t LL none) ∨ (q ≠ h ∧ st.heap[q]? = some o) := fun q o hq => by
    by_cases e : q = h
    · subst e
      rw [List.getElem?_set_self hlt] at hq
      exact .inl ⟨rfl, (Option.some.inj hq).symm⟩
    · rw [List.getElem?_set_ne (Ne.symm e)] at hq
      exact .inr ⟨e, hq⟩
  refine ⟨env, by simp only [hlen]; exact hF, hd, ⟨fun q o hq => ?_, fun q q' o o' c hne hq hq' hw hc hc' => ?_, G.tab⟩, hkin, hK0, by simp only [hlen]; exact hK1, fun q o hq hqo hown => ?_⟩
  · simp only [hlen]
    rcases get q o hq with ⟨rfl, rfl⟩ | ⟨_, g3⟩
    · exact newo
    · exact G.obj q o g3
  · rcases get q o hq with ⟨rfl, rfl⟩ | ⟨g1, g3⟩
    · cases hw
    · rcases get q' o' hq' with ⟨rfl, rfl⟩ | ⟨g1', g3'⟩
      · exact G.sep q _ o _ c g1 g3 hob hw hc (hasN c hc')
      · exact G.sep q q' o o' c hne g3 g3' hw hc hc'
  · rcases get q o hqo with ⟨rfl, rfl⟩ | ⟨_, g3⟩
    · cases hown
    · exact hK2 q o hq g3 hown
theorem Runs.seenN {P : Program} {b0 : Base} {kk : List Item} {st : St cod} {Q : St cod → Prop} (h : Nat) {t : Nat} {LL : List (List (cod t).α)} {ty tyr : TypeId} (ho : getObj st.heap h = .nown t LL [] [] ty tyr) {st' : St cod} (e : st.seenN h = st') (hr : Runs P b0 kk st' Q) (hty : ty < 1000000 := by decide) : Runs P b0 kk st Q :=
  Runs.weaken (fun a w hR => by rw [← e]; exact seenN_rel h ho hty hR) hr
end
end Go.Proofs.Ytjffboggpofbfaa.Sym
