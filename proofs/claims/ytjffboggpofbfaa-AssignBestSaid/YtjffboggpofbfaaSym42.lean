/- A row of a slice of slices that the call owns, closed again. -/
import Derived.Test.YtjffboggpofbfaaSym41
namespace Go.Proofs.Ytjffboggpofbfaa.Sym
open Go.RowKit

section
variable {cod : Nat → Codec}
/-- The row that is an object of its own, and the cell that stands for it. -/
def rowOf (t : Nat) (tyr : TypeId) (H : Heap cod) : Cell → Option (Nat × List (cod t).α)
  | .own r m => match getObj H r with
    | .own u l ty => if h : u = t then (if ty = tyr then some (r, h ▸ l) else none) else none
    | _ => none
  | .slc r 0 m true => match getObj H r with
    | .arr u l ty => if h : u = t then (if ty = tyr ∧ m = l.length ∧ 0 < m then some (r, h ▸ l) else none) else none
    | _ => none
  | _ => none
/-- What such a row is. -/
theorem rowOf_spec {t : Nat} {tyr : TypeId} {H : Heap cod} {env : Env} {w : World} {M : Nat → Prop} {c : Cell} {v : Value} {r : Nat} {l : List (cod t).α} (h : rowOf t tyr H c = some (r, l)) (G : Good env H w M) (hc : crel env H.length c v) :
    w.ownsRow 0 tyr (cod t).size v l.length (vals (cod t) l) ∧ (∀ b, v.ownBlock = some b → M b) ∧ (∀ b, v.ownBlock = some b → ∃ o, H[r]? = some o ∧ o.wr = true ∧ o.has (env r) b) ∧ r < H.length ∧ (getObj H r).wr = true := by
  unfold rowOf at h
  split at h
  · rename_i r' m
    split at h
    · rename_i u l' ty ho
      split at h
      · rename_i e
        subst e
        split at h
        · rename_i e
          subst e
          simp only [Option.some.injEq, Prod.mk.injEq] at h
          obtain ⟨rfl, rfl⟩ := h
          have hob := getObj_obj ho (by simp)
          obtain ⟨o1, o2, o3, o4, o5⟩ := G.obj _ _ hob
          obtain ⟨g1, rfl, _⟩ := hc
          exact ⟨o3, o4, fun b hb => ⟨_, hob, rfl, hb⟩, g1, by rw [ho]; rfl⟩
        · cases h
      · cases h
    · cases h
  · rename_i r' m
    split at h
    · rename_i u l' ty ho
      split at h
      · rename_i e
        subst e
        split at h
        · rename_i e
          obtain ⟨rfl, hm, hp⟩ := e
          simp only [Option.some.injEq, Prod.mk.injEq] at h
          obtain ⟨rfl, rfl⟩ := h
          have hob := getObj_obj ho (by simp)
          obtain ⟨o1, o2, o3, o4⟩ := G.obj _ _ hob
          obtain ⟨g1, A, cc, rfl, g2, g3, g4, g5⟩ := hc
          have hA := g5 hp
          have hcc := g4 rfl
          subst hcc
          have hadr : (env r').addr 0 0 = ⟨(env r').block, 0, none⟩ := by simp [HV.addr, o1]
          rw [hadr] at hA
          subst hA
          subst hm
          refine ⟨⟨vals_len _ _, .inr ⟨(env r').block, l'.length, (vals (cod u) l').toArray, rfl, Nat.zero_le _, o4, Nat.le_refl _, g3, by simp [vals_len], ?_⟩⟩, fun b hb => ?_, fun b hb => ?_, g1, by rw [ho]; rfl⟩
          · simp only []
            rw [← vals_len (cod u) l', List.take_length]
          · simp only [Value.ownBlock, Option.some.injEq] at hb
            rw [← hb]
            exact o3
          · simp only [Value.ownBlock, Option.some.injEq] at hb
            exact ⟨_, hob, rfl, hb.symm⟩
        · cases h
      · cases h
    · cases h
  · cases h
def St.closeW (h : Nat) (st : St cod) : St cod := match getObj st.heap h with
  | .nown t LL (j :: js) (c :: cs) ty tyr => match rowOf t tyr st.heap c with
    | some (r, l) => { st with heap := (st.heap.set h (.nown t (LL.set j l) js cs ty tyr)).set r .dead }
    | none => st
  | _ => st
theorem closeW_rel {st : St cod} {b : Base} {a : Act} {w : World} {h j t r : Nat} {LL : List (List (cod t).α)} {js : List Nat} {c : Cell} {cs : List Cell} {ty tyr : TypeId} {l : List (cod t).α} (ho : getObj st.heap h = .nown t LL (j :: js) (c :: cs) ty tyr) (hj : j < LL.length) (hjs : j ∉ js) (hr : rowOf t tyr st.heap c = some (r, l)) (hn : b.n ≤ h) (hne : r ≠ h) (hR : Rel st b a w) : Rel (st.closeW h) b a w := by
  have hst : st.closeW h = { st with heap := (st.heap.set h (.nown t (LL.set j l) js cs ty tyr)).set r .dead } := by
    unfold St.closeW
    rw [ho]
    simp only [hr]
  rw [hst]
  obtain ⟨env, hF, hd, G, hkin, hK0, hK1, hK2⟩ := hR
  have hob := getObj_obj ho (by simp)
  have hlt : h < st.heap.length := (List.getElem?_eq_some_iff.1 hob).1
  obtain ⟨h1, h2, h3, ⟨vs, h4, h5, h6⟩, h7, h8, h9, h10⟩ := G.obj h _ hob
  obtain ⟨v, hv, hcv⟩ := h6 0 j c rfl rfl
  obtain ⟨r1, r2, r3, r4, _⟩ := rowOf_spec hr G hcv
  generalize hx : (⟨(env h).block, (env h).off, (env h).esize, (env h).val, (env h).rows.set j v⟩ : HV) = x
  have x1 : x.val = (env h).val := by rw [← hx]
  have x2 : x.rows = (env h).rows.set j v := by rw [← hx]
  have x3 : x.block = (env h).block := by rw [← hx]
  have x4 : x.off = (env h).off := by rw [← hx]
  have x5 : x.esize = (env h).esize := by rw [← hx]
  have hlen : ((st.heap.set h (.nown t (LL.set j l) js cs ty tyr)).set r .dead : Heap cod).length = st.heap.length := by simp
  have cr : ∀ (c : Cell) (u : Value), crel env st.heap.length c u → crel (env.set h x) st.heap.length c u := fun c u hc => by
    have ha : ∀ k i o, (env.set h x k).addr i o = (env k).addr i o := fun k i o => by
      by_cases e : k = h
      · subst e
        rw [Env.set_same]
        unfold HV.addr
        rw [x3, x4, x5]
      · rw [Env.set_other _ _ e]
    have hval : ∀ k, (env.set h x k).val = (env k).val := fun k => by
      by_cases e : k = h
      · subst e
        rw [Env.set_same, x1]
      · rw [Env.set_other _ _ e]
    cases c <;> simp only [crel] at hc ⊢ <;> try exact hc
    case ptr => rw [ha]; exact hc
    case slc => rw [ha]; exact hc
    case own => rw [ha, hval]; exact hc
    case fn f caps =>
      obtain ⟨g1, rfl⟩ := hc
      refine ⟨g1, ?_⟩
      congr 2
      exact List.map_congr_left fun c hc => by rw [ha]
  have get : ∀ (k : Nat) (o : HObj cod), ((st.heap.set h (.nown t (LL.set j l) js cs ty tyr)).set r .dead : Heap cod)[k]? = some o → (k = r ∧ o = .dead) ∨ (k = h ∧ o = .nown t (LL.set j l) js cs ty tyr) ∨ (k ≠ h ∧ k ≠ r ∧ st.heap[k]? = some o) := fun k o hk => by
    by_cases e : k = r
    · subst e
      rw [List.getElem?_set_self (by simpa using r4)] at hk
      exact .inl ⟨rfl, (Option.some.inj hk).symm⟩
    · rw [List.getElem?_set_ne (Ne.symm e)] at hk
      by_cases e2 : k = h
      · subst e2
        rw [List.getElem?_set_self hlt] at hk
        exact .inr (.inl ⟨rfl, (Option.some.inj hk).symm⟩)
      · rw [List.getElem?_set_ne (Ne.symm e2)] at hk
        exact .inr (.inr ⟨e2, e, hk⟩)
  have rowx : ∀ i u, x.rows[i]? = some u → (i = j ∧ u = v) ∨ (i ≠ j ∧ (env h).rows[i]? = some u) := fun i u hu => by
    rw [x2] at hu
    by_cases e : i = j
    · subst e
      rw [List.getElem?_set_self (by omega)] at hu
      exact .inl ⟨rfl, (Option.some.inj hu).symm⟩
    · rw [List.getElem?_set_ne (Ne.symm e)] at hu
      exact .inr ⟨e, hu⟩
  -- the row's block is none of the others
  have rowO : ∀ c, v.ownBlock = some c → ¬ (HObj.nown t LL (j :: js) (‹Cell› :: cs) ty tyr : HObj cod).has (env h) c := fun c hc hh => by
    obtain ⟨o, q1, q2, q3⟩ := r3 c hc
    exact G.sep r h o _ c hne q1 hob q2 q3 hh
  have hasX : ∀ c, (HObj.nown t (LL.set j l) js cs ty tyr : HObj cod).has x c → (HObj.nown t LL (j :: js) (‹Cell› :: cs) ty tyr : HObj cod).has (env h) c ∨ v.ownBlock = some c := fun c hc => by
    rcases hc with hc | ⟨i, u, hu, hi, hb⟩
    · rw [x1] at hc
      exact .inl (.inl hc)
    · rcases rowx i u hu with ⟨rfl, rfl⟩ | ⟨e, hu⟩
      · exact .inr hb
      · exact .inl (.inr ⟨i, u, hu, fun h => (List.mem_cons.1 h).elim e hi, hb⟩)
  refine ⟨env.set h x, ?_, hd, ⟨fun k o hk => ?_, fun k k' o o' c hne' hk hk' hw hc hc' => ?_, G.tab⟩, hkin, fun q hq hq2 => ?_, ?_, fun q o hq hqo hown => ?_⟩
  · simp only [hlen]
    have := f2_map_mem (f := id) (R := vrel env st.heap.length) (S := vrel (env.set h x) st.heap.length) (fun y _ u hu => by
      have := vrel_map (f := id) (fun c u hc => cr c u hc) hu
      have e : y.mapC id = y := by
        cases y with
        | c x => rfl
        | agg cs => simp [SV.mapC]
        | tup vs =>
          simp only [SV.mapC, id_eq, List.map_id_fun', SV.tup.injEq]
          refine (List.map_congr_left fun v _ => ?_).trans (List.map_id _)
          cases v <;> simp
      rw [e] at this
      exact this) hF
    rwa [List.map_id] at this
  · simp only [hlen]
    rcases get k o hk with ⟨rfl, rfl⟩ | ⟨rfl, rfl⟩ | ⟨g1, g2, g3⟩
    · trivial
    · rw [Env.set_same]
      refine ⟨by rw [x4]; exact h1, by rw [x5]; exact h2, ⟨by rw [x2, List.length_set, List.length_set]; exact h3.1, by simpa using h3.2⟩, ⟨vs, by rw [x1, List.length_set]; exact h4, fun i hi => ?_, fun q i c' hq hc' => ?_⟩, by rw [x1]; exact h7, by rw [x1, x3]; exact h8, fun i u l' hi hu hl' => ?_, fun i k u u' c' hik hi hkk hu hu' hb hb' => ?_⟩
      · rw [x2]
        by_cases e : i = j
        · subst e
          rw [List.getElem?_set_self (by omega)]
          exact .inl hv
        · rw [List.getElem?_set_ne (Ne.symm e)]
          exact h5 i fun h => (List.mem_cons.1 h).elim e hi
      · obtain ⟨u, hu, hr'⟩ := h6 (q + 1) i c' (by simpa using hq) (by simpa using hc')
        exact ⟨u, hu, cr _ _ hr'⟩
      · rcases rowx i u hu with ⟨rfl, rfl⟩ | ⟨e, hu⟩
        · rw [List.getElem?_set_self (by omega)] at hl'
          simp only [Option.some.injEq] at hl'
          subst hl'
          refine ⟨r1, fun b hb => ⟨r2 b hb, fun hb2 => rowO b hb (.inl ?_)⟩⟩
          rw [x1] at hb2
          exact hb2
        · rw [List.getElem?_set_ne (Ne.symm e)] at hl'
          obtain ⟨q1, q2⟩ := h9 i u l' (fun h => (List.mem_cons.1 h).elim e hi) hu hl'
          exact ⟨q1, fun b hb => ⟨(q2 b hb).1, by rw [x1]; exact (q2 b hb).2⟩⟩
      · rcases rowx i u hu with ⟨rfl, rfl⟩ | ⟨e, hu⟩ <;> rcases rowx k u' hu' with ⟨rfl, rfl⟩ | ⟨e', hu'⟩
        · exact hik rfl
        · exact rowO c' hb (.inr ⟨k, u', hu', fun h => (List.mem_cons.1 h).elim e' hkk, hb'⟩)
        · exact rowO c' hb' (.inr ⟨i, u, hu, fun h => (List.mem_cons.1 h).elim e hi, hb⟩)
        · exact h10 i k u u' c' hik (fun h => (List.mem_cons.1 h).elim e hi) (fun h => (List.mem_cons.1 h).elim e' hkk) hu hu' hb hb'
    · rw [Env.set_other _ _ g1]
      have := objRel_map (f := id) (fun c u hc => cr c u hc) (G.obj k o g3)
      have e : o.mapC id = o := by
        cases o <;> simp [HObj.mapC]
      rwa [e] at this
  · rcases get k o hk with ⟨rfl, rfl⟩ | ⟨rfl, rfl⟩ | ⟨g1, g2, g3⟩
    · cases hw
    · rcases get k' o' hk' with ⟨rfl, rfl⟩ | ⟨rfl, rfl⟩ | ⟨g1', g2', g3'⟩
      · exact hc'
      · exact hne' rfl
      · rw [Env.set_same] at hc
        rw [Env.set_other _ _ g1'] at hc'
        rcases hasX c hc with hc | hc
        · exact G.sep _ k' _ o' c hne' hob g3' rfl hc hc'
        · obtain ⟨o2, q1, q2, q3⟩ := r3 c hc
          exact G.sep r k' o2 o' c (Ne.symm g2') q1 g3' q2 q3 hc'
    · rw [Env.set_other _ _ g1] at hc
      rcases get k' o' hk' with ⟨rfl, rfl⟩ | ⟨rfl, rfl⟩ | ⟨g1', g2', g3'⟩
      · exact hc'
      · rw [Env.set_same] at hc'
        rcases hasX c hc' with hc' | hc'
        · exact G.sep k _ o _ c hne' g3 hob hw hc hc'
        · obtain ⟨o2, q1, q2, q3⟩ := r3 c hc'
          exact G.sep k r o o2 c g2 g3 q1 hw hc q3
      · rw [Env.set_other _ _ g1'] at hc'
        exact G.sep k k' o o' c hne' g3 g3' hw hc hc'
  · rw [Env.set_other _ _ (by omega)]
    exact hK0 q hq hq2
  · simp only [hlen]
    exact hK1
  · rcases get q o hqo with ⟨rfl, rfl⟩ | ⟨rfl, rfl⟩ | ⟨g1, g2, g3⟩
    · cases hown
    · omega
    · exact hK2 q o hq g3 hown
theorem Runs.closeW {P : Program} {b0 : Base} {kk : List Item} {st : St cod} {Q : St cod → Prop} (h : Nat) {j t r N : Nat} (hb : b0.n = N) {LL : List (List (cod t).α)} {js : List Nat} {c : Cell} {cs : List Cell} {ty tyr : TypeId} {l : List (cod t).α} (ho : getObj st.heap h = .nown t LL (j :: js) (c :: cs) ty tyr) (hj : j < LL.length) (hjs : j ∉ js) (hr : rowOf t tyr st.heap c = some (r, l)) (hn : N ≤ h) (hne : r ≠ h) {st' : St cod} (e : st.closeW h = st') (hk : Runs P b0 kk st' Q) : Runs P b0 kk st Q :=
  Runs.weaken (fun a w hR => by rw [← e]; exact closeW_rel ho hj hjs hr (by omega) hne hR) hk
end
end Go.Proofs.Ytjffboggpofbfaa.Sym
