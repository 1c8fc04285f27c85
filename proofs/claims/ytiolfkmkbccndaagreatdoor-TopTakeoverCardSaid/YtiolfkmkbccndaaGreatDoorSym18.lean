/- A function's summary out of the symbolic run of its code. -/
import Derived.Test.YtiolfkmkbccndaaGreatDoorSym17
namespace Go.Proofs.YtiolfkmkbccndaaGreatDoor.Sym
open Go.RowKit

section
variable {cod : Nat → Codec} {P : Program}

def resS (P : Program) (st : St cod) : ResultVar → T SV
  | .tmp t => .ret (st.tmps.getD t (.c .junk))
  | .cell a t => match st.tmps.getD a (.c .junk) with
    | .c (.ptr h i o) =>
      if isAggB P t then (loadS st.heap h i o (P.cellsOf t)).bind fun cs => .ret (.agg cs)
      else if (P.underlying t).isSome then (loadS st.heap h i o 1).bind fun cs => match cs with
        | [c] => .ret (.c c)
        | _ => .fail
      else .fail
    | _ => .fail
def allS (P : Program) (st : St cod) : List ResultVar → T (List SV)
  | [] => .ret []
  | r :: rs => (resS P st r).bind fun v => (allS P st rs).bind fun vs => .ret (v :: vs)
def SV.flat : SV → Bool
  | .tup _ => false
  | _ => true
def resultsS (P : Program) (rs : List ResultVar) (st : St cod) : T SV :=
  (allS P st rs).bind fun vs => match vs with
    | [v] => .ret v
    | vs => if vs.all SV.flat then .ret (.tup vs) else .fail
/-- What a call hands back: its results; of the first n objects those among 'roots', and the new ones that the results and the objects 'roots' reach. -/
def finishG (P : Program) (rs : List ResultVar) (n : Nat) (roots : List Nat) (st : St cod) : T (SV × Heap cod) :=
  (resultsS P rs st).bind fun r =>
    let hs := (reach st.heap 3 (addNew [] (r.hs ++ roots.flatMap fun h => (getObj st.heap h).hs))).filter fun h => decide (n ≤ h)
    let ok := fun k => decide (k < n) || hs.contains k
    let ρ := fun h => if h < n then h else n + hs.idxOf h
    if r.hs.all ok ∧ roots.all (fun h => (getObj st.heap h).hs.all ok) ∧ hs.all (fun h => (getObj st.heap h).hs.all ok && (getObj st.heap h).wr) then
      .ret (r.mapC (Cell.ren ρ), (List.range n).map (fun h => if roots.contains h then (getObj st.heap h).mapC (Cell.ren ρ) else .dead) ++ hs.map fun h => (getObj st.heap h).mapC (Cell.ren ρ))
    else .fail
/-- The same where nothing that came in was written: the new objects alone. -/
def finishS (P : Program) (rs : List ResultVar) (n : Nat) (st : St cod) : T (SV × Heap cod) := (finishG P rs n [] st).bind fun p => .ret (p.1, p.2.drop n)
/-- The objects that came in and may be written. -/
def rootsOf (H : Heap cod) : List Nat := (List.range H.length).filter fun h => (getObj H h).wr

def resV (a : Act) : ResultVar → Sem Value
  | .tmp t => pure (a.tmps.getD t undef)
  | .cell x t => do loadVar t (← asAddr (a.tmps.getD x undef))
theorem res_sound {st : St cod} {env : Env} {w : World} {M : Nat → Prop} {a : Act} (hF : F2 (vrel env st.heap.length) st.tmps a.tmps.toList) (G : Good env st.heap w M) {r : ResultVar} {v : SV} (h : (resS P st r).gives v) :
    ∃ u, (resV a r).run P w = .ok u w ∧ vrel env st.heap.length v u := by
  have tmp : ∀ t, vrel env st.heap.length (st.tmps.getD t (.c .junk)) (a.tmps.getD t undef) := fun t => by
    have := f2_getD (R := vrel env st.heap.length) (da := .c .junk) (db := undef) trivial hF t
    simpa [Array.getD_eq_getD_getElem?, List.getD] using this
  cases r with
  | tmp t =>
    simp only [resS, T.gives_ret] at h
    subst h
    exact ⟨_, rfl, tmp t⟩
  | cell x t =>
    simp only [resS] at h
    have hx := tmp x
    split at h
    · rename_i k i off e
      rw [e] at hx
      obtain ⟨hlt, hv⟩ := hx
      have hi : ∀ cs n, (loadS st.heap k i off n).gives cs → ∃ vs : List Value, vs.length = n ∧ crels env st.heap.length cs vs ∧ (loadCells ((env k).addr i off) n).run P w = .ok vs.toArray w ∧ ∀ j u, vs[j]? = some u → w.cell? (((env k).addr i off).add j) = some u := by
        intro cs n hl
        obtain ⟨h1, vs, h2, h3⟩ := load_sound hl G
        have hlen := f2_length h2
        have := run_loadCells_list (P := P) w ((env k).addr i off) vs h3
        rw [← hlen, h1] at this
        exact ⟨vs, by omega, h2, this, h3⟩
      split at h
      · rename_i hag
        rw [T.gives_bind] at h
        obtain ⟨cs, hl, hr⟩ := h
        rw [T.gives_ret] at hr
        subst hr
        obtain ⟨vs, h1, h2, h3, _⟩ := hi cs _ hl
        have hu : (P.underlying t).isSome = true := by
          unfold isAggB at hag
          split at hag <;> simp_all
        refine ⟨.agg vs.toArray, ?_, ⟨_, rfl, by simpa using h2⟩⟩
        simp [resV, hv, asAddr, loadVar, run_isAgg t w hu, hag, cellsOf_size (info_of_und hu), h3]
      · rename_i hag
        split at h
        · rename_i hu
          rw [T.gives_bind] at h
          obtain ⟨cs, hl, hr⟩ := h
          split at hr
          · rename_i c
            rw [T.gives_ret] at hr
            subst hr
            obtain ⟨vs, h1, h2, h3, h4⟩ := hi _ _ hl
            cases h2 with
            | @cons _ u _ us hcu hn =>
              cases hn
              have hc := h4 0 u rfl
              have hadd : ((env k).addr i off).add 0 = (env k).addr i off := by simp [Addr.add]
              rw [hadd] at hc
              refine ⟨u, ?_, hcu⟩
              simp [resV, hv, asAddr, loadVar, run_isAgg t w hu, hag, hc]
          · exact hr.elim
        · exact h.elim
    · exact h.elim
theorem all_sound {st : St cod} {env : Env} {w : World} {M : Nat → Prop} {a : Act} (hF : F2 (vrel env st.heap.length) st.tmps a.tmps.toList) (G : Good env st.heap w M) : ∀ (rs : List ResultVar) (vs : List SV), (allS P st rs).gives vs →
    ∃ us : List Value, (rs.mapM (resV a)).run P w = .ok us w ∧ F2 (vrel env st.heap.length) vs us
  | [], vs, h => by
    simp only [allS, T.gives_ret] at h
    subst h
    exact ⟨[], rfl, .nil⟩
  | r :: rs, vs, h => by
    simp only [allS] at h
    rw [T.gives_bind] at h
    obtain ⟨v, h1, h⟩ := h
    rw [T.gives_bind] at h
    obtain ⟨l, h2, h⟩ := h
    rw [T.gives_ret] at h
    subst h
    obtain ⟨u, k1, k2⟩ := res_sound hF G h1
    obtain ⟨us, k3, k4⟩ := all_sound hF G rs l h2
    refine ⟨u :: us, ?_, .cons k2 k4⟩
    rw [List.mapM_cons, Sem.run_bind, k1, Result.andThen_ok, Sem.run_bind, k3]
    rfl
theorem flat_rel {env : Env} {N : Nat} : ∀ {vs : List SV} {us : List Value}, vs.all SV.flat = true → F2 (vrel env N) vs us → F2 (vrel1 env N) vs us
  | _, _, _, .nil => .nil
  | v :: _, _, h, .cons hv ht => by
    simp only [List.all_cons, Bool.and_eq_true] at h
    refine .cons ?_ (flat_rel h.2 ht)
    cases v with
    | c x => exact hv
    | agg cs => exact hv
    | tup l => simp [SV.flat] at h
theorem results_sound {st : St cod} {env : Env} {w : World} {M : Nat → Prop} {a : Act} (hF : F2 (vrel env st.heap.length) st.tmps a.tmps.toList) (G : Good env st.heap w M) {fn : Func} {r : SV} (h : (resultsS P fn.results.toList st).gives r) :
    ∃ u, (results fn a.tmps).run P w = .ok u w ∧ vrel env st.heap.length r u := by
  unfold resultsS at h
  rw [T.gives_bind] at h
  obtain ⟨vs, h1, h2⟩ := h
  obtain ⟨us, k1, k2⟩ := all_sound hF G _ _ h1
  have hrun : (results fn a.tmps).run P w = .ok (if h : us.toArray.size = 1 then us.toArray[0] else .tuple us.toArray) w := by
    unfold results
    rw [Array.mapM_eq_mapM_toList]
    simp only [Sem.run_bind, Sem.run_map]
    change ((Sem.run P (List.mapM (resV a) fn.results.toList) w).andThen _).andThen _ = _
    rw [k1]
    rfl
  have hlen := f2_length k2
  refine ⟨_, hrun, ?_⟩
  split at h2
  · rename_i v
    rw [T.gives_ret] at h2
    subst h2
    cases k2 with
    | @cons _ u _ us hu hn =>
      cases hn
      simpa using hu
  · rename_i hne
    split at h2
    · rename_i hfl
      rw [T.gives_ret] at h2
      subst h2
      have : ¬ us.toArray.size = 1 := fun e => by
        match vs, hlen with
        | [v], _ => exact hne v rfl
        | [], hl => simp at hl e; omega
        | _ :: _ :: _, hl => simp at hl e; omega
      rw [dif_neg this]
      exact ⟨us.toArray, rfl, flat_rel hfl k2⟩
    · exact h2.elim

theorem addNew_only : ∀ (l acc : List Nat), ∀ x ∈ addNew acc l, x ∈ acc ∨ x ∈ l
  | [], acc, x, h => .inl h
  | a :: l, acc, x, h => by
    unfold addNew at h
    split at h
    · rcases addNew_only l acc x h with h | h
      · exact .inl h
      · exact .inr (List.mem_cons_of_mem _ h)
    · rcases addNew_only l _ x h with h | h
      · rcases List.mem_append.1 h with h | h
        · exact .inl h
        · exact .inr (by simp at h; subst h; exact List.mem_cons_self ..)
      · exact .inr (List.mem_cons_of_mem _ h)
theorem fn_soundI {cfg : Cfg cod} {f : FuncId} {fn : Func} {code : Code} (hf : cfg.P.funcs[f]? = some fn) (hb : fn.body = some code) (hname : (fn.name == "runtime.NumGoroutine") = false) (s : Summ cod)
    (h : ∀ (args : List SV) (H : Heap cod) (r : SV) (H' : Heap cod), (s args H).gives (r, H') → ∀ b0 : Base, b0.n = H.length →
      Runs cfg.P b0 [.code code] { tmps := args ++ List.replicate (fn.ntmps - args.length) undefS, heap := H } fun st => (finishG cfg.P fn.results.toList H.length (rootsOf H) st).gives (r, H')) : SoundI cfg.P cod f s := by
  refine ⟨fun args w => by simp [callFunc, hf, hb]; simpa using hname, fun args H env w vs r H' G hargs hgives => ?_⟩
  intro cs
  let b : Frame := { (default : Frame) with fn := f, kind := .normal }
  have hlen := f2_length hargs
  have henter : Frame.enter cfg.P f vs.toArray .normal = b.at { tmps := vs.toArray ++ Array.replicate (fn.ntmps - vs.toArray.size) undef, defers := [] } [.code code] := by
    simp [Frame.enter, Frame.at, hf, hb, b]
  have hundef : ∀ n, F2 (vrel env H.length) (List.replicate n undefS) (List.replicate n undef) := by
    intro n
    induction n with
    | zero => exact .nil
    | succ n ih => exact .cons rfl ih
  have hR : Rel { tmps := args ++ List.replicate (fn.ntmps - args.length) undefS, heap := H } ⟨w, H.length, env, mineOf H env w, fun i => (getObj H i).isOwn = true, fun _ hk => .inl hk⟩ { tmps := vs.toArray ++ Array.replicate (fn.ntmps - vs.toArray.size) undef, defers := [] } w := by
    refine ⟨env, ?_, rfl, G, Kin.refl _ _, fun _ _ _ => rfl, Nat.le_refl _, fun k o hk ho hown => ?_⟩
    · have := f2_append hargs (hundef (fn.ntmps - args.length))
      rw [hlen] at this ⊢
      simpa using this
    · show (getObj H k).isOwn = true
      rw [getObj_of_some ho]
      exact hown
  obtain ⟨st', a', w', todo, hfin, ⟨env', hF, hd, G', hb', hK0, hK1, hK2⟩, hsteps⟩ := h args H r H' hgives ⟨w, H.length, env, mineOf H env w, fun i => (getObj H i).isOwn = true, fun _ hk => .inl hk⟩ rfl b cs _ w hR
  simp only at hK0 hK1 hK2 G' hb'
  unfold finishG at hfin
  rw [T.gives_bind] at hfin
  obtain ⟨r0, hr0, hfin⟩ := hfin
  obtain ⟨u, hu1, hu2⟩ := results_sound hF G' hr0
  simp only at hfin
  generalize hhs : ((reach st'.heap 3 (addNew [] (r0.hs ++ (rootsOf H).flatMap fun h => (getObj st'.heap h).hs))).filter fun h => decide (H.length ≤ h)) = hs at hfin
  split at hfin
  · rename_i hcond
    obtain ⟨hc1, hc2, hc3⟩ := hcond
    rw [T.gives_ret] at hfin
    simp only [Prod.mk.injEq] at hfin
    obtain ⟨rfl, rfl⟩ := hfin
    rw [← henter] at hsteps
    refine ⟨.returned u, w', { b.at a' todo with mode := .returning }, ⟨u, ?_⟩, hsteps, rfl, rfl, hd, rfl, fn, hf, hu1⟩
    let env2 : Env := fun k => if k < H.length then env' k else env' (hs.getD (k - H.length) 0)
    have hge : ∀ k ∈ hs, H.length ≤ k := fun k hk => by
      rw [← hhs] at hk
      simpa using (List.mem_filter.1 hk).2
    have hnd : hs.Nodup := by rw [← hhs]; exact (reach_nodup _ _ _ (addNew_nodup _ _ List.nodup_nil)).filter _
    have hok : ∀ k, (decide (k < H.length) || hs.contains k) = true → k < H.length ∨ k ∈ hs := fun k hk => by simpa using hk
    have hρ : ∀ k, k < H.length ∨ k ∈ hs → (if k < H.length then k else H.length + hs.idxOf k) < H.length + hs.length ∧ env2 (if k < H.length then k else H.length + hs.idxOf k) = env' k := fun k hk => by
      split
      · rename_i hlt
        refine ⟨by omega, ?_⟩
        show (if k < H.length then env' k else _) = env' k
        rw [if_pos hlt]
      · rename_i hnl
        have hin : k ∈ hs := by
          rcases hk with hk | hk
          · omega
          · exact hk
        have hi := List.idxOf_lt_length_of_mem hin
        refine ⟨by omega, ?_⟩
        show (if H.length + hs.idxOf k < H.length then _ else env' (hs.getD (H.length + hs.idxOf k - H.length) 0)) = env' k
        rw [if_neg (by omega), Nat.add_sub_cancel_left]
        simp [List.getD, List.getElem?_eq_getElem hi]
    have hlenH : ((List.range H.length).map (fun h => if (rootsOf H).contains h then (getObj st'.heap h).mapC (Cell.ren fun h => if h < H.length then h else H.length + hs.idxOf h) else .dead) ++ hs.map fun h => (getObj st'.heap h).mapC (Cell.ren fun h => if h < H.length then h else H.length + hs.idxOf h)).length = H.length + hs.length := by simp
    have hcr : ∀ (l : List Nat), l.all (fun k => decide (k < H.length) || hs.contains k) = true → ∀ c, (∀ k ∈ c.hs, k ∈ l) → ∀ v, crel env' st'.heap.length c v → crel env2 (H.length + hs.length) (c.ren fun h => if h < H.length then h else H.length + hs.idxOf h) v := fun l hl c hc v hv =>
      crel_ren (fun k hk _ => hρ k (hok k (List.all_eq_true.1 hl k (hc k hk)))) hv
    have cases_ : ∀ k o, ((List.range H.length).map (fun h => if (rootsOf H).contains h then (getObj st'.heap h).mapC (Cell.ren fun h => if h < H.length then h else H.length + hs.idxOf h) else .dead) ++ hs.map fun h => (getObj st'.heap h).mapC (Cell.ren fun h => if h < H.length then h else H.length + hs.idxOf h))[k]? = some o → Live H k →
        ∃ q, o = (getObj st'.heap q).mapC (Cell.ren fun h => if h < H.length then h else H.length + hs.idxOf h) ∧ st'.heap[q]? = some (getObj st'.heap q) ∧ (getObj st'.heap q).hs.all (fun k => decide (k < H.length) || hs.contains k) = true ∧ env2 k = env' q ∧ ((k < H.length ∧ q = k) ∨ (H.length ≤ k ∧ hs[k - H.length]? = some q)) := by
      intro k o ho hL
      rcases Nat.lt_or_ge k H.length with hl | hl
      · rw [List.getElem?_append_left (by simpa using hl), List.getElem?_map, List.getElem?_range hl] at ho
        simp only [Option.map_some, Option.some.injEq] at ho
        have hin : k ∈ rootsOf H := List.mem_filter.2 ⟨List.mem_range.2 hl, hL hl⟩
        rw [if_pos (by simpa using hin)] at ho
        refine ⟨k, ho.symm, getObj_lt_some (by omega), List.all_eq_true.1 hc2 k hin, ?_, .inl ⟨hl, rfl⟩⟩
        · show (if k < H.length then env' k else _) = env' k
          rw [if_pos hl]
      · rw [List.getElem?_append_right (by simpa using hl), List.getElem?_map] at ho
        simp only [List.length_map, List.length_range] at ho
        obtain ⟨q, hq, rfl⟩ := Option.map_eq_some_iff.1 ho
        have h1 := List.all_eq_true.1 hc3 q (List.mem_of_getElem? hq)
        simp only [Bool.and_eq_true] at h1
        refine ⟨q, rfl, getObj_some (fun e => ?_), h1.1, ?_, .inr ⟨hl, hq⟩⟩
        · have := h1.2
          rw [e] at this
          cases this
        · show (if k < H.length then _ else env' (hs.getD (k - H.length) 0)) = env' q
          rw [if_neg (by omega)]
          simp [List.getD, hq]
    refine ⟨env2, rfl, fun i hi ho => ?_, ?_, fun k o ho hL => ?_, fun k k' o o' c hne ho ho' hL hL' hw hc hc' => ?_, hb'⟩
    · show (if i < H.length then env' i else _) = env i
      rw [if_pos hi]
      have ho : (getObj H i).isOwn = false := ho.resolve_left (by simp)
      exact hK0 i hi (by simp [ho])
    · rw [hlenH]
      exact vrel_map' (fun c hc v hv => hcr _ hc1 c hc v hv) hu2
    · rw [hlenH]
      obtain ⟨q, rfl, hq, hql, he, _⟩ := cases_ k o ho hL
      rw [he]
      exact objRel_map' (fun c hc v hv => hcr _ hql c hc v hv) (G'.obj q _ hq)
    · obtain ⟨q, rfl, hq, _, he, hk⟩ := cases_ k o ho hL
      obtain ⟨q', rfl, hq', _, he', hk'⟩ := cases_ k' o' ho' hL'
      rw [he, has_map] at hc
      rw [he', has_map] at hc'
      rw [wr_map] at hw
      refine G'.sep q q' _ _ c (fun e => hne ?_) hq hq' hw hc hc'
      rcases hk with ⟨h1, rfl⟩ | ⟨h1, h2⟩ <;> rcases hk' with ⟨h1', rfl⟩ | ⟨h1', h2'⟩
      · exact e
      · have := hge _ (List.mem_of_getElem? h2'); omega
      · have := hge _ (List.mem_of_getElem? h2); omega
      · subst e
        have i1 : k - H.length < hs.length := (List.getElem?_eq_some_iff.1 h2).1
        have := (List.getElem?_inj i1 hnd).1 (h2.trans h2'.symm)
        omega
  · exact hfin.elim
/-- A function that writes nothing that came in: out of its soundness as one that may. -/
theorem Sound.of_I {f : FuncId} {s s' : Summ cod} (hI : SoundI P cod f s') (h : ∀ (args : List SV) (H : Heap cod) (r : SV) (news : Heap cod), H.all (fun o => !o.wr) = true → (s args H).gives (r, news) → ∃ olds : Heap cod, olds.length = H.length ∧ (s' args H).gives (r, olds ++ news)) : Sound P cod f s := by
  refine ⟨hI.enters, fun args H env w vs r news hro G ha hg => ?_⟩
  obtain ⟨olds, hol, hg'⟩ := h args H r news hro hg
  have hro' : ∀ (k : Nat) (o : HObj cod), H[k]? = some o → o.wr = false := fun k o ho => by
    have := List.all_eq_true.1 hro o (List.mem_of_getElem? ho)
    simpa using this
  have hnm : ∀ b, b < w.heap.size → ¬ mineOf H env w b := by
    rintro b hb (h | ⟨k, o, ho, hw, _⟩)
    · omega
    · rw [hro' k o ho] at hw; cases hw
  have hmn : ∀ b, mineOf H env w b → newIn w b := by
    rintro b (h | ⟨k, o, ho, hw, _⟩)
    · exact h
    · rw [hro' k o ho] at hw; cases hw
  have Gm : Good env H w (mineOf H env w) := ⟨fun k o ho => objRel_base (fun b hb => .inl hb) (G.obj k o ho), G.sep, G.tab.keep (fun _ _ _ _ => rfl) fun p _ hl _ hm => hnm _ hl hm⟩
  refine (hI.calls args H env w vs r (olds ++ news) Gm ha hg').mono ?_
  rintro e w' ⟨v, env', rfl, hoff, hv, hobj, hsep, hk⟩
  have hb := hk.below hnm
  have heq : EnvEq H.length env env' := fun k hkl => hoff k hkl (.inr <| by
    have := hro' k _ (getObj_lt_some hkl)
    cases ho : getObj H k <;> rw [ho] at this <;> first | rfl | (simp [HObj.wr] at this))
  have hlen : (olds ++ news).length = H.length + news.length := by rw [List.length_append, hol]
  rw [hlen] at hv hobj
  have G0 := G.below hb.below (Nat.le_refl _)
  have hnew : ∀ j o, news[j]? = some o → objRel env' (H.length + news.length) (env' (H.length + j)) w' (mineOf H env w) o := fun j o hj =>
    hobj (H.length + j) o (by rw [List.getElem?_append_right (by omega), hol, Nat.add_sub_cancel_left]; exact hj) (fun hl => by omega)
  have cases_ : ∀ k o, (H ++ news)[k]? = some o → (k < H.length ∧ H[k]? = some o) ∨ (∃ j, k = H.length + j ∧ news[j]? = some o) := by
    intro k o ho
    rcases Nat.lt_or_ge k H.length with hl | hl
    · rw [List.getElem?_append_left hl] at ho
      exact .inl ⟨hl, ho⟩
    · rw [List.getElem?_append_right hl] at ho
      exact .inr ⟨k - H.length, by omega, ho⟩
  refine ⟨v, env', rfl, heq, hv, ⟨fun k o ho => ?_, fun k k' o o' c hne ho ho' hw hc hc' => ?_, G0.tab⟩, hb⟩
  · rw [List.length_append]
    rcases cases_ k o ho with ⟨hl, h1⟩ | ⟨j, rfl, hj⟩
    · rw [heq k hl]
      exact objRel_mono (by omega) heq (G0.obj k o h1)
    · exact objRel_base hmn (hnew j o hj)
  · rcases cases_ k o ho with ⟨hl, h1⟩ | ⟨j, rfl, hj⟩ <;> rcases cases_ k' o' ho' with ⟨hl', h1'⟩ | ⟨j', rfl, hj'⟩
    · rw [hro' k o h1] at hw; cases hw
    · rw [hro' k o h1] at hw; cases hw
    · rw [heq k' hl'] at hc'
      have := objRel_has_lt (G.obj k' o' h1') hc'
      have hge : w.heap.size ≤ c := hmn c (objRel_wr_in (hnew j o hj) hw hc)
      omega
    · exact hsep (H.length + j) (H.length + j') o o' c hne (by rw [List.getElem?_append_right (by omega), hol, Nat.add_sub_cancel_left]; exact hj) (by rw [List.getElem?_append_right (by omega), hol, Nat.add_sub_cancel_left]; exact hj') (fun hl => by omega) (fun hl => by omega) hw hc hc'
theorem finishS_G {rs : List ResultVar} {n : Nat} {st : St cod} {r : SV} {news : Heap cod} (h : (finishS P rs n st).gives (r, news)) : (finishG P rs n [] st).gives (r, List.replicate n .dead ++ news) := by
  unfold finishS at h
  rw [T.gives_bind] at h
  obtain ⟨⟨r', X⟩, h1, h2⟩ := h
  rw [T.gives_ret] at h2
  simp only [Prod.mk.injEq] at h2
  obtain ⟨rfl, rfl⟩ := h2
  have hX : X = List.replicate n .dead ++ X.drop n := by
    unfold finishG at h1
    rw [T.gives_bind] at h1
    obtain ⟨r0, _, h1⟩ := h1
    simp only at h1
    split at h1
    · rw [T.gives_ret] at h1
      simp only [Prod.mk.injEq] at h1
      obtain ⟨_, rfl⟩ := h1
      have hp : ∀ f : Nat → HObj cod, (List.range n).map (fun h => if ([] : List Nat).contains h then f h else .dead) = List.replicate n .dead := fun f => by
        apply List.ext_getElem
        · simp
        · intro i h1 h2
          simp
      rw [hp]
      congr 1
      exact (List.drop_left' (by simp)).symm
    · exact h1.elim
  rw [← hX]
  exact h1
theorem fn_sound {cfg : Cfg cod} {f : FuncId} {fn : Func} {code : Code} (hf : cfg.P.funcs[f]? = some fn) (hb : fn.body = some code) (hname : (fn.name == "runtime.NumGoroutine") = false) (s : Summ cod)
    (h : ∀ (args : List SV) (H : Heap cod) (r : SV) (news : Heap cod), H.all (fun o => !o.wr) = true → (s args H).gives (r, news) → ∀ b0 : Base, b0.n = H.length →
      Runs cfg.P b0 [.code code] { tmps := args ++ List.replicate (fn.ntmps - args.length) undefS, heap := H } fun st => (finishS cfg.P fn.results.toList H.length st).gives (r, news)) : Sound cfg.P cod f s := by
  refine Sound.of_I (s' := fun args H => if H.all (fun o => !o.wr) = true then (s args H).bind fun p => .ret (p.1, List.replicate H.length .dead ++ p.2) else .fail) (fn_soundI hf hb hname _ fun args H r H' hg b0 hn => ?_) (fun args H r news hro hg => ⟨List.replicate H.length .dead, by simp, ?_⟩)
  · split at hg
    · rename_i hro
      rw [T.gives_bind] at hg
      obtain ⟨⟨r', news⟩, h1, h2⟩ := hg
      rw [T.gives_ret] at h2
      simp only [Prod.mk.injEq] at h2
      obtain ⟨rfl, rfl⟩ := h2
      have hroots : rootsOf H = [] := by
        unfold rootsOf
        rw [List.filter_eq_nil_iff]
        intro k hk hw
        have hl := List.mem_range.1 hk
        have := List.all_eq_true.1 hro _ (List.mem_of_getElem? (getObj_lt_some hl))
        rw [hw] at this
        cases this
      rw [hroots]
      exact Runs.mono (fun st hst => finishS_G hst) (h args H r' news hro h1 b0 hn)
    · exact hg.elim
  · simp only [if_pos hro]
    rw [T.gives_bind]
    exact ⟨_, hg, rfl⟩
end
end Go.Proofs.YtiolfkmkbccndaaGreatDoor.Sym
