/- A function's summary out of the symbolic run of its code. -/
import Derived.Test.YtffcfbamcaoidaaSym17
namespace Go.Proofs.Ytffcfbamcaoidaa.Sym
open Go.RowKit

section
variable {cod : Nat → Codec} {P : Program}

def resS (P : Program) (st : St cod) : ResultVar → T SV
  | .tmp t => .ret (st.tmps.getD t (.c .junk))
  | .cell a t => match st.tmps.getD a (.c .junk) with
    | .c (.ptr h i o) =>
      if isAggB P t then (loadS st.heap h i o (P.cellsOf t)).bind fun cs => .ret (.agg cs)
      else if (P.underlying t).isSome then (loadS st.heap h i o 1).bind fun cs => match cs with
        | [c] => .ret (.c c)
        | _ => .fail
      else .fail
    | _ => .fail
def allS (P : Program) (st : St cod) : List ResultVar → T (List SV)
  | [] => .ret []
  | r :: rs => (resS P st r).bind fun v => (allS P st rs).bind fun vs => .ret (v :: vs)
def SV.flat : SV → Bool
  | .tup _ => false
  | _ => true
def resultsS (P : Program) (rs : List ResultVar) (st : St cod) : T SV :=
  (allS P st rs).bind fun vs => match vs with
    | [v] => .ret v
    | vs => if vs.all SV.flat then .ret (.tup vs) else .fail
/-- What a call hands back: its results, and the new objects that they reach. -/
def finishS (P : Program) (rs : List ResultVar) (n : Nat) (st : St cod) : T (SV × Heap cod) :=
  (resultsS P rs st).bind fun r =>
    let hs := (addNew [] r.hs).filter fun h => decide (n ≤ h)
    if hs.all (fun h => (getObj st.heap h).hs.isEmpty && (getObj st.heap h).wr) then
      .ret (r.mapC (Cell.ren fun h => if h < n then h else n + hs.idxOf h), hs.map (getObj st.heap))
    else .fail

def resV (a : Act) : ResultVar → Sem Value
  | .tmp t => pure (a.tmps.getD t undef)
  | .cell x t => do loadVar t (← asAddr (a.tmps.getD x undef))
theorem res_sound {st : St cod} {env : Env} {w : World} {B : Nat} {a : Act} (hF : F2 (vrel env st.heap.length) st.tmps a.tmps.toList) (G : Good env st.heap w B) {r : ResultVar} {v : SV} (h : (resS P st r).gives v) :
    ∃ u, (resV a r).run P w = .ok u w ∧ vrel env st.heap.length v u := by
  have tmp : ∀ t, vrel env st.heap.length (st.tmps.getD t (.c .junk)) (a.tmps.getD t undef) := fun t => by
    have := f2_getD (R := vrel env st.heap.length) (da := .c .junk) (db := undef) trivial hF t
    simpa [Array.getD_eq_getD_getElem?, List.getD] using this
  cases r with
  | tmp t =>
    simp only [resS, T.gives_ret] at h
    subst h
    exact ⟨_, rfl, tmp t⟩
  | cell x t =>
    simp only [resS] at h
    have hx := tmp x
    split at h
    · rename_i k i off e
      rw [e] at hx
      obtain ⟨hlt, hv⟩ := hx
      have hi : ∀ cs n, (loadS st.heap k i off n).gives cs → ∃ vs : List Value, vs.length = n ∧ crels env st.heap.length cs vs ∧ (loadCells ((env k).addr i off) n).run P w = .ok vs.toArray w ∧ ∀ j u, vs[j]? = some u → w.cell? (((env k).addr i off).add j) = some u := by
        intro cs n hl
        obtain ⟨h1, vs, h2, h3⟩ := load_sound hl G
        have hlen := f2_length h2
        have := run_loadCells_list (P := P) w ((env k).addr i off) vs h3
        rw [← hlen, h1] at this
        exact ⟨vs, by omega, h2, this, h3⟩
      split at h
      · rename_i hag
        rw [T.gives_bind] at h
        obtain ⟨cs, hl, hr⟩ := h
        rw [T.gives_ret] at hr
        subst hr
        obtain ⟨vs, h1, h2, h3, _⟩ := hi cs _ hl
        have hu : (P.underlying t).isSome = true := by
          unfold isAggB at hag
          split at hag <;> simp_all
        refine ⟨.agg vs.toArray, ?_, ⟨_, rfl, by simpa using h2⟩⟩
        simp [resV, hv, asAddr, loadVar, run_isAgg t w hu, hag, cellsOf_size (info_of_und hu), h3]
      · rename_i hag
        split at h
        · rename_i hu
          rw [T.gives_bind] at h
          obtain ⟨cs, hl, hr⟩ := h
          split at hr
          · rename_i c
            rw [T.gives_ret] at hr
            subst hr
            obtain ⟨vs, h1, h2, h3, h4⟩ := hi _ _ hl
            cases h2 with
            | @cons _ u _ us hcu hn =>
              cases hn
              have hc := h4 0 u rfl
              have hadd : ((env k).addr i off).add 0 = (env k).addr i off := by simp [Addr.add]
              rw [hadd] at hc
              refine ⟨u, ?_, hcu⟩
              simp [resV, hv, asAddr, loadVar, run_isAgg t w hu, hag, hc]
          · exact hr.elim
        · exact h.elim
    · exact h.elim
theorem all_sound {st : St cod} {env : Env} {w : World} {B : Nat} {a : Act} (hF : F2 (vrel env st.heap.length) st.tmps a.tmps.toList) (G : Good env st.heap w B) : ∀ (rs : List ResultVar) (vs : List SV), (allS P st rs).gives vs →
    ∃ us : List Value, (rs.mapM (resV a)).run P w = .ok us w ∧ F2 (vrel env st.heap.length) vs us
  | [], vs, h => by
    simp only [allS, T.gives_ret] at h
    subst h
    exact ⟨[], rfl, .nil⟩
  | r :: rs, vs, h => by
    simp only [allS] at h
    rw [T.gives_bind] at h
    obtain ⟨v, h1, h⟩ := h
    rw [T.gives_bind] at h
    obtain ⟨l, h2, h⟩ := h
    rw [T.gives_ret] at h
    subst h
    obtain ⟨u, k1, k2⟩ := res_sound hF G h1
    obtain ⟨us, k3, k4⟩ := all_sound hF G rs l h2
    refine ⟨u :: us, ?_, .cons k2 k4⟩
    rw [List.mapM_cons, Sem.run_bind, k1, Result.andThen_ok, Sem.run_bind, k3]
    rfl
theorem flat_rel {env : Env} {N : Nat} : ∀ {vs : List SV} {us : List Value}, vs.all SV.flat = true → F2 (vrel env N) vs us → F2 (vrel1 env N) vs us
  | _, _, _, .nil => .nil
  | v :: _, _, h, .cons hv ht => by
    simp only [List.all_cons, Bool.and_eq_true] at h
    refine .cons ?_ (flat_rel h.2 ht)
    cases v with
    | c x => exact hv
    | agg cs => exact hv
    | tup l => simp [SV.flat] at h
theorem results_sound {st : St cod} {env : Env} {w : World} {B : Nat} {a : Act} (hF : F2 (vrel env st.heap.length) st.tmps a.tmps.toList) (G : Good env st.heap w B) {fn : Func} {r : SV} (h : (resultsS P fn.results.toList st).gives r) :
    ∃ u, (results fn a.tmps).run P w = .ok u w ∧ vrel env st.heap.length r u := by
  unfold resultsS at h
  rw [T.gives_bind] at h
  obtain ⟨vs, h1, h2⟩ := h
  obtain ⟨us, k1, k2⟩ := all_sound hF G _ _ h1
  have hrun : (results fn a.tmps).run P w = .ok (if h : us.toArray.size = 1 then us.toArray[0] else .tuple us.toArray) w := by
    unfold results
    rw [Array.mapM_eq_mapM_toList]
    simp only [Sem.run_bind, Sem.run_map]
    change ((Sem.run P (List.mapM (resV a) fn.results.toList) w).andThen _).andThen _ = _
    rw [k1]
    rfl
  have hlen := f2_length k2
  refine ⟨_, hrun, ?_⟩
  split at h2
  · rename_i v
    rw [T.gives_ret] at h2
    subst h2
    cases k2 with
    | @cons _ u _ us hu hn =>
      cases hn
      simpa using hu
  · rename_i hne
    split at h2
    · rename_i hfl
      rw [T.gives_ret] at h2
      subst h2
      have : ¬ us.toArray.size = 1 := fun e => by
        match vs, hlen with
        | [v], _ => exact hne v rfl
        | [], hl => simp at hl e; omega
        | _ :: _ :: _, hl => simp at hl e; omega
      rw [dif_neg this]
      exact ⟨us.toArray, rfl, flat_rel hfl k2⟩
    · exact h2.elim

theorem addNew_only : ∀ (l acc : List Nat), ∀ x ∈ addNew acc l, x ∈ acc ∨ x ∈ l
  | [], acc, x, h => .inl h
  | a :: l, acc, x, h => by
    unfold addNew at h
    split at h
    · rcases addNew_only l acc x h with h | h
      · exact .inl h
      · exact .inr (List.mem_cons_of_mem _ h)
    · rcases addNew_only l _ x h with h | h
      · rcases List.mem_append.1 h with h | h
        · exact .inl h
        · exact .inr (by simp at h; subst h; exact List.mem_cons_self ..)
      · exact .inr (List.mem_cons_of_mem _ h)
theorem addNew_nodup : ∀ (l acc : List Nat), acc.Nodup → (addNew acc l).Nodup
  | [], acc, h => h
  | a :: l, acc, h => by
    unfold addNew
    split
    · exact addNew_nodup l acc h
    · rename_i hc
      refine addNew_nodup l _ ?_
      rw [List.nodup_append]
      refine ⟨h, by simp, fun x hx y hy => ?_⟩
      simp at hy
      subst hy
      rintro rfl
      exact hc (by simpa using hx)

theorem fn_sound {cfg : Cfg cod} {f : FuncId} {fn : Func} {code : Code} (hf : cfg.P.funcs[f]? = some fn) (hb : fn.body = some code) (hname : (fn.name == "runtime.NumGoroutine") = false) (s : Summ cod)
    (h : ∀ (args : List SV) (H : Heap cod) (r : SV) (news : Heap cod), H.all (fun o => !o.wr) = true → (s args H).gives (r, news) → ∀ b0 : Base, b0.n = H.length →
      Runs cfg.P b0 [.code code] { tmps := args ++ List.replicate (fn.ntmps - args.length) undefS, heap := H } fun st => (finishS cfg.P fn.results.toList H.length st).gives (r, news)) : Sound cfg.P cod f s := by
  refine ⟨fun args w => by simp [callFunc, hf, hb]; simpa using hname, fun args H env w vs r news hro G hargs hgives => ?_⟩
  intro cs
  let b : Frame := { (default : Frame) with fn := f, kind := .normal }
  have hlen := f2_length hargs
  have henter : Frame.enter cfg.P f vs.toArray .normal = b.at { tmps := vs.toArray ++ Array.replicate (fn.ntmps - vs.toArray.size) undef, defers := [] } [.code code] := by
    simp [Frame.enter, Frame.at, hf, hb, b]
  have hundef : ∀ n, F2 (vrel env H.length) (List.replicate n undefS) (List.replicate n undef) := by
    intro n
    induction n with
    | zero => exact .nil
    | succ n ih => exact .cons rfl ih
  have hR : Rel { tmps := args ++ List.replicate (fn.ntmps - args.length) undefS, heap := H } ⟨w, H.length, env⟩ { tmps := vs.toArray ++ Array.replicate (fn.ntmps - vs.toArray.size) undef, defers := [] } w := by
    refine ⟨env, ?_, rfl, G, Below.refl _ _, EnvEq.refl _ _, Nat.le_refl _, fun k o hk ho => ?_⟩
    · have := f2_append hargs (hundef (fn.ntmps - args.length))
      rw [hlen] at this ⊢
      simpa using this
    · have := List.all_eq_true.1 hro o (List.mem_of_getElem? ho)
      simpa using this
  obtain ⟨st', a', w', todo, hfin, ⟨env', hF, hd, G', hb', hK0, hK1, hK2⟩, hsteps⟩ := h args H r news hro hgives ⟨w, H.length, env⟩ rfl b cs _ w hR
  simp only at hK0 hK1 hK2 G' hb'
  unfold finishS at hfin
  rw [T.gives_bind] at hfin
  obtain ⟨r0, hr0, hfin⟩ := hfin
  obtain ⟨u, hu1, hu2⟩ := results_sound hF G' hr0
  simp only at hfin
  generalize hhs : ((addNew [] r0.hs).filter fun h => decide (H.length ≤ h)) = hs at hfin
  split at hfin
  · rename_i hcond
    rw [T.gives_ret] at hfin
    simp only [Prod.mk.injEq] at hfin
    obtain ⟨rfl, rfl⟩ := hfin
    rw [← henter] at hsteps
    refine ⟨.returned u, w', { b.at a' todo with mode := .returning }, ⟨u, ?_⟩, hsteps, rfl, rfl, hd, rfl, fn, hf, hu1⟩
    -- the new environment
    let env2 : Env := fun k => if k < H.length then env' k else env' (hs.getD (k - H.length) 0)
    have hmem : ∀ k ∈ hs, H.length ≤ k ∧ (getObj st'.heap k).hs = [] ∧ (getObj st'.heap k).wr = true := fun k hk => by
      have h1 := List.all_eq_true.1 hcond k hk
      simp only [Bool.and_eq_true, List.isEmpty_iff] at h1
      rw [← hhs] at hk
      have h2 := (List.mem_filter.1 hk).2
      exact ⟨by simpa using h2, h1⟩
    have hnd : hs.Nodup := by rw [← hhs]; exact (addNew_nodup _ _ List.nodup_nil).filter _
    have hcr : ∀ c, (∀ k ∈ c.hs, k ∈ r0.hs) → ∀ v, crel env' st'.heap.length c v → crel env2 (H.length + (hs.map (getObj st'.heap)).length) (c.ren fun h => if h < H.length then h else H.length + hs.idxOf h) v := fun c hc v hv => crel_ren (fun k hk hkl => by
      rw [List.length_map]
      split
      · rename_i hlt
        refine ⟨by omega, ?_⟩
        show (if k < H.length then env' k else _) = env' k
        rw [if_pos hlt]
      · rename_i hge
        have hin : k ∈ hs := by
          rw [← hhs]
          refine List.mem_filter.2 ⟨(addNew_sub _ _).2 k (hc k hk), by simpa using hge⟩
        have hi := List.idxOf_lt_length_of_mem hin
        refine ⟨by omega, ?_⟩
        show (if H.length + hs.idxOf k < H.length then _ else env' (hs.getD (H.length + hs.idxOf k - H.length) 0)) = env' k
        rw [if_neg (by omega), Nat.add_sub_cancel_left]
        simp [List.getD, List.getElem?_eq_getElem hi]) hv
    have hEq : EnvEq H.length env env2 := fun k hk => by
      show (if k < H.length then env' k else _) = env k
      rw [if_pos hk]
      exact hK0 k hk
    refine ⟨env2, rfl, hEq, vrel_map' hcr hu2, ?_, hb'⟩
    have cases_ : ∀ k o, (H ++ hs.map (getObj st'.heap))[k]? = some o → (k < H.length ∧ H[k]? = some o ∧ env2 k = env k) ∨ (∃ j q, k = H.length + j ∧ hs[j]? = some q ∧ o = getObj st'.heap q ∧ env2 k = env' q) := by
      intro k o ho
      rcases Nat.lt_or_ge k H.length with hl | hl
      · rw [List.getElem?_append_left hl] at ho
        exact .inl ⟨hl, ho, hEq k hl⟩
      · rw [List.getElem?_append_right hl, List.getElem?_map] at ho
        obtain ⟨q, hq, rfl⟩ := Option.map_eq_some_iff.1 ho
        refine .inr ⟨k - H.length, q, by omega, hq, rfl, ?_⟩
        show (if k < H.length then _ else env' (hs.getD (k - H.length) 0)) = env' q
        rw [if_neg (by omega)]
        simp [List.getD, hq]
    have G0 := G.below hb' (Nat.le_refl _)
    have hobj : ∀ q ∈ hs, st'.heap[q]? = some (getObj st'.heap q) := fun q hq => getObj_some (fun e => by have := (hmem q hq).2.2; rw [e] at this; cases this)
    refine ⟨fun k o ho => ?_, fun k k' o o' c hne ho ho' hw hc hc' => ?_⟩
    · rw [List.length_append]
      rcases cases_ k o ho with ⟨hl, h1, h2⟩ | ⟨j, q, rfl, hq, rfl, h2⟩
      · rw [h2]
        exact objRel_mono (by omega) hEq (G0.obj k o h1)
      · rw [h2]
        have hqm := List.mem_of_getElem? hq
        have h3 := G'.obj q _ (hobj q hqm)
        have h4 := (hmem q hqm).2.1
        cases ho : getObj st'.heap q with
        | blk cs ty =>
          rw [ho] at h3 h4
          obtain ⟨g1, g2, vs, g3, g4⟩ := h3
          refine ⟨g1, g2, vs, g3, ?_⟩
          have := crels_map' (f := id) (env' := env2) (N' := H.length + (hs.map (getObj st'.heap)).length) (fun c hc v hv => by
            have hn : c.hs = [] := by
              have : ∀ k ∈ c.hs, False := fun k hk => by
                have : k ∈ HObj.hs (cod := cod) (.blk cs ty) := List.mem_flatMap.2 ⟨c, hc, hk⟩
                rw [h4] at this
                cases this
              exact List.eq_nil_iff_forall_not_mem.2 this
            have := crel_ren (env' := env2) (N' := H.length + (hs.map (getObj st'.heap)).length) (ρ := fun k => k) (fun k hk => by rw [hn] at hk; cases hk) hv
            rwa [ren_congr (g := fun k => k) (fun k _ => rfl), show c.ren (fun k => k) = c from by cases c <;> simp [Cell.ren]] at this) g4
          simpa using this
        | arr t l ty => rw [ho] at h3; exact h3
        | own t l ty => rw [ho] at h3; exact h3
        | rblk cs => have := (hmem q hqm).2.2; rw [ho] at this; cases this
        | inp t l => have := (hmem q hqm).2.2; rw [ho] at this; cases this
        | dead => trivial
    · have hro' : ∀ (k : Nat) (o : HObj cod), H[k]? = some o → o.wr = false := fun k o ho => by
        have := List.all_eq_true.1 hro o (List.mem_of_getElem? ho)
        simpa using this
      rcases cases_ k o ho with ⟨hl, h1, h2⟩ | ⟨j, q, rfl, hq, rfl, h2⟩ <;> rcases cases_ k' o' ho' with ⟨hl', h1', h2'⟩ | ⟨j', q', rfl, hq', rfl, h2'⟩
      · rw [hro' k o h1] at hw; cases hw
      · rw [hro' k o h1] at hw; cases hw
      · rw [h2] at hc
        rw [h2'] at hc'
        have := objRel_ublk_lt (G.obj k' o' h1') hc'
        have := objRel_wr_ge (G'.obj q _ (hobj q (List.mem_of_getElem? hq))) hw hc
        omega
      · rw [h2] at hc
        rw [h2'] at hc'
        have hqq : q ≠ q' := fun e => by
          subst e
          have i1 : j < hs.length := (List.getElem?_eq_some_iff.1 hq).1
          have i2 : j' < hs.length := (List.getElem?_eq_some_iff.1 hq').1
          have := (List.getElem?_inj i1 hnd).1 (hq.trans hq'.symm)
          omega
        exact G'.sep q q' _ _ c hqq (hobj q (List.mem_of_getElem? hq)) (hobj q' (List.mem_of_getElem? hq')) hw hc hc'
  · exact hfin.elim
end
end Go.Proofs.Ytffcfbamcaoidaa.Sym
