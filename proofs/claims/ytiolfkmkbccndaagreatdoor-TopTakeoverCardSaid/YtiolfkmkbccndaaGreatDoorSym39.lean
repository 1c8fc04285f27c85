/- A pure operation and a call that strikes references out, in either order. -/
import Derived.Test.YtiolfkmkbccndaaGreatDoorBd22
namespace Go.Proofs.YtiolfkmkbccndaaGreatDoor.Sym
open Go.RowKit

section
variable {cod : Nat → Codec}
def killT (ks : List Nat) (tm : List SV) : List SV := match ks with
  | [] => tm
  | ks => tm.map (SV.mapC (Cell.killed ks))
theorem killT_set (ks : List Nat) (tm : List SV) (d : Nat) {v : SV} (hv : v.mapC (Cell.killed ks) = v) : killT ks (tm.set d v) = (killT ks tm).set d v := by
  cases ks with
  | nil => rfl
  | cons k ks =>
    show (tm.set d v).map _ = (tm.map _).set d v
    rw [List.map_set, hv]
theorem put_killT (st : St cod) (d : Option Nat) (o : Out cod) : st.put d o = { tmps := match d with | none => killT o.kill st.tmps | some d => (killT o.kill st.tmps).set d o.v, heap := o.H } := by
  unfold St.put killT
  cases d <;> rfl
/-- What yields its value in whatever memory, and reads no reference that the other strikes out, may be taken first. -/
theorem swap_kill {cfg : Cfg cod} {ops : Array Oper} {oi oj : Oper} {st s1 s2 : St cod} (h1 : absStep cfg ops oi st s1) (h2 : absStep cfg ops oj s1 s2) (hap : oi.apart ops oj = true) (hk : kindP cfg oi = 0) (hg : oi.guard = none)
    (hx : ∀ out : Out cod, eff cfg ops oj st out → (∀ x ∈ oi.op.operands.toList, evS (killT out.kill st.tmps) x = evS st.tmps x) ∧ ∀ out' : Out cod, eff cfg ops oi st out' → out'.v.mapC (Cell.killed out.kill) = out'.v) :
    ∃ t1, absStep cfg ops oj st t1 ∧ absStep cfg ops oi t1 s2 := by
  obtain ⟨a1, a2, a3⟩ := Oper.apart_spec hap
  obtain ⟨oi', e1, rfl⟩ := step_eff.1 h1
  obtain ⟨oj', e2, rfl⟩ := step_eff.1 h2
  obtain ⟨i3, i0, _, _⟩ := eff_kind e1
  have ki := i3 (by omega)
  obtain ⟨p1, p2⟩ := i0 hk
  rw [put_plain ki] at e2 ⊢
  have e2' := (eff_congr (cfg := cfg) (st := ⟨st.tmps, oi'.H⟩) (d := oi.dst) (v := oi'.v) rfl a1).1 e2
  rw [p1] at e2'
  have e3 : eff cfg ops oj st oj' := e2'
  obtain ⟨q1, q2⟩ := hx oj' e3
  refine ⟨_, step_eff.2 ⟨oj', e3, rfl⟩, step_eff.2 ⟨{ v := oi'.v, H := oj'.H }, ?_, ?_⟩⟩
  · have g : eff cfg ops oi ⟨killT oj'.kill st.tmps, oj'.H⟩ { v := oi'.v, H := oj'.H } := by
      have := p2 oj'.H
      unfold eff at this ⊢
      rw [hg] at this ⊢
      simp only at this ⊢
      rw [opP_congr cfg oj'.H oi q1]
      exact this
    rw [put_killT]
    exact (eff_congr (cfg := cfg) (st := ⟨killT oj'.kill st.tmps, oj'.H⟩) (d := oj.dst) (v := oj'.v) rfl a3).2 g
  · have qv := q2 oi' e1
    rw [put_killT, put_killT, put_killT]
    simp only
    congr 1
    cases hdi : oi.dst with
    | none => cases hdj : oj.dst <;> rfl
    | some di =>
      cases hdj : oj.dst with
      | none => exact killT_set _ _ _ qv
      | some dj =>
        simp only
        rw [killT_set _ _ _ qv]
        exact List.set_comm _ _ (fun e => a2 di hdi (by rw [hdj, e]))
/-! ### a region in an order of one's own -/
/-- Each is ready when it is taken, and free of what may come up beside it. -/
def ordOk (ops : Array Oper) : List Nat → Array Bool → Bool
  | [], listed => (Region.ready .any ops listed).isEmpty
  | i :: l, listed => (Region.ready .any ops listed).contains i && Region.free .any ops listed i && ordOk ops l (listed.setIfInBounds i true)
/-- A run in that order; what is taken may change places with what is not listed yet. -/
def ordRun (cfg : Cfg cod) (ops : Array Oper) (I Q : St cod → Prop) : List Nat → Array Bool → St cod → Prop
  | [], _, st => I st ∧ Q st
  | i :: l, listed, st => I st ∧ ∃ oi, ops[i]? = some oi ∧ (∀ j oj, ops[j]? = some oj → j ≠ i → listed.getD j true = false → (oi.apart ops oj = true → ∀ st s1 s2, I st → absStep cfg ops oi st s1 → absStep cfg ops oj s1 s2 → ∃ t1, absStep cfg ops oj st t1 ∧ absStep cfg ops oi t1 s2 ∧ (I s2 → I t1)) ∨ (depL ops i (j + 1)).getD j false = true) ∧
      ∃ s, absStep cfg ops oi st s ∧ ordRun cfg ops I Q l (listed.setIfInBounds i true) s
theorem absAny_ord {cfg : Cfg cod} {ops : Array Oper} {I Q : St cod → Prop} : ∀ (l : List Nat) (listed : Array Bool) (st : St cod), Closed ops listed → ordOk ops l listed = true → ordRun cfg ops I Q l listed st → absAny cfg ops I Q l.length listed st
  | [], listed, st, _, hB, h => ⟨h.1, by simpa [ordOk] using hB, h.2⟩
  | i :: l, listed, st, hcl, hB, h => by
    simp only [ordOk, Bool.and_eq_true] at hB
    obtain ⟨⟨hr, hf⟩, hB'⟩ := hB
    obtain ⟨hI, oi, h0, hm, s, h1, h2⟩ := h
    have hr' : i ∈ Region.ready .any ops listed := by simpa using hr
    exact absAny_first h0 l.length listed st s hcl (Region.free_spec h0 hf) hm hr' hI h1 (absAny_ord l _ s (closed_set hcl hr') hB' h2)
/-- A region that draws, in an order of one's own (no places are kept). -/
theorem region_ord {cfg : Cfg cod} (hS : CfgOk cfg) (hpl : ∀ d, cfg.place d = none) (hm : cfg.P.follows .mixedOrders = true) {id : Nat} {ops : Array Oper} {st st' : St cod} {w0 : Base} {w : World} {a : Act} {Q : Exit → Act → World → Prop} {I : St cod → Prop} (ord : List Nat)
    (hl : ord.length = ops.size) (ho : ordOk ops ord (Array.replicate ops.size false) = true) (h : ordRun cfg ops I (fun s => s = st') ord (Array.replicate ops.size false) st) (hR : Rel st w0 a w) (hQ : ∀ a' w', Rel st' w0 a' w' → Q .normal a' w') : (Code.region id ops true).wp cfg.P Q a w := by
  have hany := absAny_ord ord _ st (fun j o _ hl => by simp [Array.getElem?_replicate] at hl; split at hl <;> simp_all) ho h
  rw [hl] at hany
  exact wp_region_any hm (abs_wpAny hS (I := I) (Q := fun s => s = st') (fun s _ => ⟨FrC.none hpl _ _, fun k ⟨⟨d, hd⟩, _⟩ => by rw [hpl d] at hd; cases hd⟩) (fun s a' w' hs hR' => by subst hs; exact hQ a' w' hR') _ _ st a _ hany (rel_drew hR))
/-- .. and the run goes on behind it. -/
theorem Runs.ord {cfg : Cfg cod} (hS : CfgFit cfg) (hm : cfg.P.follows .mixedOrders = true) {b0 : Base} {id : Nat} {ops : Array Oper} {k : List Item} {st st' : St cod} {Q : St cod → Prop} (I : St cod → Prop) (ord : List Nat)
    (hl : ord.length = ops.size) (ho : ordOk ops ord (Array.replicate ops.size false) = true) (h : ordRun cfg ops I (fun s => s = st') ord (Array.replicate ops.size false) st) (hr : Runs cfg.P b0 k st' Q) : Runs cfg.P b0 (.code (.region id ops true) :: k) st Q := by
  intro b cs a w hR
  have hw := region_ord (id := id) (Q := fun e a' w' => e = .normal ∧ Rel st' b0 a' w') hS.ok hS.2.2 hm ord hl ho h hR (fun a' w' hR' => ⟨rfl, hR'⟩)
  obtain ⟨e, a', w', ⟨rfl, hR'⟩, harr⟩ := hw b k cs
  obtain ⟨s, a'', w'', todo, q1, q2, q3⟩ := hr b cs a' w' hR'
  exact ⟨s, a'', w'', todo, q1, q2, Steps.trans harr q3⟩
/-- A region that draws, in the text's order; a pure operation may stand beside a call that strikes references out, if what it reads is none of them (I says so, and each operation keeps I). -/
theorem Runs.lex {cfg : Cfg cod} (hS : CfgFit cfg) (hm : cfg.P.follows .mixedOrders = true) {b0 : Base} {id : Nat} {ops : Array Oper} {k : List Item} {st st' : St cod} {Q : St cod → Prop} (I : St cod → Prop)
    (hB : Region.lexB .any ops = true)
    (hJ : ∀ o ∈ ops.toList, ∀ s s', I s → absStep cfg ops o s s' → I s')
    (hp : ∀ i j oi oj, i < j → ops[i]? = some oi → ops[j]? = some oj → (compat (kindP cfg oi) (kindP cfg oj) || (depL ops i (j + 1)).getD j false) = true ∨
      (kindP cfg oi = 0 ∧ oi.guard = none ∧ ∀ s, I s → ∀ out : Out cod, eff cfg ops oj s out → (∀ x ∈ oi.op.operands.toList, evS (killT out.kill s.tmps) x = evS s.tmps x) ∧ ∀ out' : Out cod, eff cfg ops oi s out' → out'.v.mapC (Cell.killed out.kill) = out'.v))
    (h0 : I st) (h : absRun cfg ops ops.toList st st') (hr : Runs cfg.P b0 k st' Q) : Runs cfg.P b0 (.code (.region id ops true) :: k) st Q := by
  simp only [Region.lexB, Bool.and_eq_true] at hB
  have hin : ∀ {j : Nat} {o : Oper}, ops[j]? = some o → o ∈ ops.toList := fun h => by
    rw [← Array.getElem?_toList] at h
    exact List.mem_of_getElem? h
  have hrun := runI_and (I := fun _ => True) (J := I) hJ (fun o ho => ho) (runI_true h) h0
  have hany := absAny_lex (Q := fun s => s = st') (fun i j oi oj hij hi hj => by
    rcases hp i j oi oj hij hi hj with hc | ⟨hk, hg, hx⟩
    · rw [Bool.or_eq_true] at hc
      rcases hc with hc | hc
      · refine .inl fun hap s s1 s2 hI k1 k2 => ?_
        obtain ⟨t1, q1, q2⟩ := swap_steps k1 k2 hap hc
        exact ⟨t1, q1, q2, fun _ => ⟨trivial, hJ oj (hin hj) s t1 hI.2 q1⟩⟩
      · exact .inr hc
    · refine .inl fun hap s s1 s2 hI k1 k2 => ?_
      obtain ⟨t1, q1, q2⟩ := swap_kill k1 k2 hap hk hg (hx s hI.2)
      exact ⟨t1, q1, q2, fun _ => ⟨trivial, hJ oj (hin hj) s t1 hI.2 q1⟩⟩) ops.toList 0 (Array.replicate ops.size false) st st' (by simp) (fun j o _ hl => by simp [Array.getElem?_replicate] at hl; split at hl <;> simp_all) (fun j hj => by omega) (by simpa using hB.2) hrun rfl
  intro b cs a w hR
  have hw : (Code.region id ops true).wp cfg.P (fun e a' w' => e = .normal ∧ Rel st' b0 a' w') a w := wp_region_any hm (abs_wpAny hS.ok (Q := fun s => s = st') (fun s _ => ⟨FrC.none hS.2.2 _ _, fun k ⟨⟨d, hd⟩, _⟩ => by rw [hS.2.2 d] at hd; cases hd⟩) (fun s a' w' hs hR' => by subst hs; exact ⟨rfl, hR'⟩) _ _ st a _ (by simpa using hany) (rel_drew hR))
  obtain ⟨e, a', w', ⟨rfl, hR'⟩, harr⟩ := hw b k cs
  obtain ⟨s, a'', w'', todo, q1, q2, q3⟩ := hr b cs a' w' hR'
  exact ⟨s, a'', w'', todo, q1, q2, Steps.trans harr q3⟩
theorem isOwn_mapC (f : Cell → Cell) (o : HObj cod) : (o.mapC f).isOwn = o.isOwn := by cases o <;> rfl
/-- A call leaves a block a block, and strikes no reference to it out. -/
theorem callI_keep {H : Heap cod} {kp : Bool} {s : Summ cod} {args : List SV} {out : Out cod} {q : Nat} (h : (callI H kp s args).gives out) (hq : q < H.length) (ho : (getObj H q).isOwn = false) : q ∉ out.kill ∧ (getObj out.H q).isOwn = false := by
  unfold callI at h
  simp only at h
  split at h
  · rw [T.gives_bind] at h
    obtain ⟨r, _, h⟩ := h
    split at h
    · rename_i hc
      rw [T.gives_ret] at h
      subst h
      obtain ⟨_, _, _, h4⟩ := hc
      refine ⟨fun hk => ?_, ?_⟩
      · have := (List.mem_filter.1 hk).2
        rw [ho, Bool.and_false] at this
        cases this
      · unfold getObj
        simp only
        rw [List.getD, List.getElem?_append_left (by simpa using hq), List.getElem?_map, List.getElem?_range hq]
        simp only [Option.map_some, Option.getD_some]
        split
        · rename_i hcw
          simp only [Bool.and_eq_true] at hcw
          rw [isOwn_mapC]
          have hm := hcw.1
          rw [List.contains_iff_mem] at hm
          have hi := List.idxOf_lt_length_iff.2 hm
          have h3 := List.all_eq_true.1 h4 _ (List.mem_range.2 hi)
          simp only [Bool.and_eq_true, Bool.or_eq_true, Bool.not_eq_true'] at h3
          have hg : (reach H 3 (addNew [] (args.flatMap SV.hs))).getD ((reach H 3 (addNew [] (args.flatMap SV.hs))).idxOf q) 0 = q := by rw [List.getD, List.getElem?_eq_getElem hi]; simp
          rcases h3.2 with h5 | h5
          · rw [hg, ho] at h5; cases h5
          · exact h5
        · rw [isOwn_mapC]
          exact ho
    · exact h.elim
  · exact h.elim
/-- Kinds 0, 1, 2 leave what is there as it is. -/
theorem eff_keep2 {cfg : Cfg cod} {ops : Array Oper} {o : Oper} {st : St cod} {out : Out cod} {q : Nat} (hk : kindP cfg o ≤ 2) (h : eff cfg ops o st out) (hq : q < st.heap.length) : out.kill = [] ∧ getObj out.H q = getObj st.heap q ∧ st.heap.length ≤ out.H.length := by
  obtain ⟨a, b, c, d⟩ := eff_kind h
  refine ⟨a (by omega), ?_⟩
  have hk' : kindP cfg o = 0 ∨ kindP cfg o = 1 ∨ kindP cfg o = 2 := by omega
  rcases hk' with e | e | e
  · rw [(b e).1]; exact ⟨rfl, Nat.le_refl _⟩
  · rw [(c e).1]; exact ⟨rfl, Nat.le_refl _⟩
  · obtain ⟨X, hX⟩ := d e
    rw [hX]
    refine ⟨?_, by simp⟩
    unfold getObj
    rw [List.getD, List.getD, List.getElem?_append_left hq]
theorem getObj_set_own {H : Heap cod} {h q : Nat} {o : HObj cod} (e : o.isOwn = (getObj H h).isOwn) : (getObj (H.set h o) q).isOwn = (getObj H q).isOwn := by
  by_cases c : q = h
  · subst c
    by_cases hl : q < H.length
    · rw [getObj_of_some (List.getElem?_set_self hl), e]
    · rw [List.set_eq_of_length_le (by omega)]
  · rw [getObj_set_other c]
/-- A store leaves own rows own rows, and blocks blocks. -/
theorem storeS_keep {H H' : Heap cod} {h i o : Nat} {xs : List Cell} (k : (storeS H h i o xs).gives H') (q : Nat) : (getObj H' q).isOwn = (getObj H q).isOwn := by
  unfold storeS at k
  split at k
  · rename_i e
    split at k
    · rw [T.gives_ret] at k
      subst k
      exact getObj_set_own (by rw [e]; rfl)
    · exact k.elim
  · rename_i e
    split at k
    · rw [T.gives_need, T.gives_ret] at k
      obtain ⟨_, rfl⟩ := k
      exact getObj_set_own (by rw [e]; rfl)
    · exact k.elim
  · rename_i e
    split at k
    · rw [T.gives_need, T.gives_ret] at k
      obtain ⟨_, rfl⟩ := k
      exact getObj_set_own (by rw [e]; rfl)
    · exact k.elim
  · rename_i e
    split at k
    · rw [T.gives_need, T.gives_ret] at k
      obtain ⟨_, rfl⟩ := k
      exact getObj_set_own (by rw [e]; rfl)
    · split at k
      · rw [T.gives_ret] at k
        subst k
        exact getObj_set_own (by rw [e]; rfl)
      · split at k
        · rw [T.gives_ret] at k
          subst k
          exact getObj_set_own (by rw [e]; rfl)
        · exact k.elim
  · exact k.elim
/-- Slot 0 points to object 0, which is no own row. -/
def At0 (st : St cod) : Prop := st.tmps.getD 0 (.c .junk) = .c (.ptr 0 0 0) ∧ 0 < st.heap.length ∧ (getObj st.heap 0).isOwn = false
theorem at0_put {st : St cod} {d : Option Nat} {out : Out cod} (h : At0 st) (hd : d ≠ some 0) (hk : 0 ∉ out.kill) (hl : 0 < out.H.length) (ho : (getObj out.H 0).isOwn = false) : At0 (st.put d out) := by
  have hT : (killT out.kill st.tmps).getD 0 (.c .junk) = .c (.ptr 0 0 0) := by
    have h1 := h.1
    unfold killT
    split
    · exact h1
    · rw [List.getD] at h1 ⊢
      rw [List.getElem?_map]
      cases e : st.tmps[0]? with
      | none => rw [e] at h1; cases h1
      | some x =>
        rw [e] at h1
        simp only [Option.getD_some] at h1
        subst h1
        simp only [Option.map_some, Option.getD_some, SV.mapC, Cell.killed, Cell.hs, List.any_cons, List.any_nil, Bool.or_false]
        rw [if_neg]
        intro hc
        exact hk (by simpa using hc)
  rw [put_killT]
  refine ⟨?_, hl, ho⟩
  cases d with
  | none => exact hT
  | some d =>
    have : d ≠ 0 := fun e => hd (by rw [e])
    simp only
    rw [List.getD] at hT ⊢
    rw [List.getElem?_set_ne this]
    exact hT
theorem callI_len {H : Heap cod} {kp : Bool} {s : Summ cod} {args : List SV} {out : Out cod} (h : (callI H kp s args).gives out) : H.length ≤ out.H.length := by
  unfold callI at h
  simp only at h
  split at h
  · rw [T.gives_bind] at h
    obtain ⟨r, _, h⟩ := h
    split at h
    · rw [T.gives_ret] at h
      subst h
      simp
    · exact h.elim
  · exact h.elim
theorem storeS_len {H H' : Heap cod} {h i o : Nat} {xs : List Cell} (k : (storeS H h i o xs).gives H') : H'.length = H.length := by
  obtain ⟨ob, rfl, _⟩ := storeS_obj k
  simp
def isStore (o : Oper) : Bool := match o.op with | .store _ _ _ => true | _ => false
def isCallI (cfg : Cfg cod) (o : Oper) : Bool := match o.op with
  | .call { callee := .value (.func g), .. } => !isExt cfg.P g && (cfg.summ g).isNone && (cfg.summI g).isSome
  | _ => false
theorem at0_keep {cfg : Cfg cod} {ops : Array Oper} {o : Oper} {s s' : St cod} (hpl : ∀ d, cfg.place d = none) (hd : o.dst ≠ some 0) (hg : o.guard = none) (hx : kindP cfg o ≤ 2 ∨ isStore o = true ∨ isCallI cfg o = true) (h : At0 s) (k : absStep cfg ops o s s') : At0 s' := by
  obtain ⟨out, e, rfl⟩ := step_eff.1 k
  have hno : o.dst.bind cfg.place = none := by cases o.dst <;> simp [hpl]
  rcases hx with hx | hx | hx
  · obtain ⟨q1, q2, q3⟩ := eff_keep2 hx e h.2.1
    exact at0_put h hd (by rw [q1]; simp) (Nat.lt_of_lt_of_le h.2.1 q3) (by rw [q2]; exact h.2.2)
  · unfold eff at e
    rw [hg] at e
    simp only at e
    rw [opP_plain (.inr hno)] at e
    unfold isStore at hx
    split at hx
    · rename_i t x y ho
      unfold opS at e
      rw [ho] at e
      simp only at e
      split at e
      · split at e
        · rw [T.gives_bind] at e
          obtain ⟨H', e1, e2⟩ := e
          rw [T.gives_ret] at e2
          subst e2
          exact at0_put h hd (by simp) (by simp only; rw [storeS_len e1]; exact h.2.1) (by simp only; rw [storeS_keep e1]; exact h.2.2)
        · exact e.elim
      · exact e.elim
    · cases hx
  · unfold eff at e
    rw [hg] at e
    simp only at e
    rw [opP_plain (.inr hno)] at e
    unfold isCallI at hx
    split at hx
    · rename_i g args ats ho
      simp only [Bool.and_eq_true, Bool.not_eq_true', Option.isNone_iff_eq_none, Option.isSome_iff_exists] at hx
      obtain ⟨⟨x1, x2⟩, s1, x3⟩ := hx
      unfold opS at e
      rw [ho] at e
      have e0 : evS s.tmps (.func g) = .c (.fn g []) := rfl
      have x1' : ¬ isExt cfg.P g = true := by rw [x1]; decide
      simp only [e0, List.map_nil, List.append_nil, if_neg x1'] at e
      unfold callS at e
      rw [x2, x3] at e
      obtain ⟨q1, q2⟩ := callI_keep e h.2.1 h.2.2
      exact at0_put h hd q1 (Nat.lt_of_lt_of_le h.2.1 (callI_len e)) q2
    · cases hx
/-- The move of slot 0 beside such a call. -/
theorem move_call {cfg : Cfg cod} {ops : Array Oper} {oi oj : Oper} {s : St cod} (hpl : ∀ d, cfg.place d = none) (hoi : oi.op = .move (.tmp 0)) (hgi : oi.guard = none) (hgj : oj.guard = none) (hx : isCallI cfg oj = true) (h : At0 s) {out : Out cod} (e : eff cfg ops oj s out) :
    (∀ x ∈ oi.op.operands.toList, evS (killT out.kill s.tmps) x = evS s.tmps x) ∧ ∀ out' : Out cod, eff cfg ops oi s out' → out'.v.mapC (Cell.killed out.kill) = out'.v := by
  have hno : ∀ o : Oper, o.dst.bind cfg.place = none := fun o => by cases o.dst <;> simp [hpl]
  have hk : 0 ∉ out.kill := by
    unfold eff at e
    rw [hgj] at e
    simp only at e
    rw [opP_plain (.inr (hno oj))] at e
    unfold isCallI at hx
    split at hx
    · rename_i g args ats ho
      simp only [Bool.and_eq_true, Bool.not_eq_true', Option.isNone_iff_eq_none, Option.isSome_iff_exists] at hx
      obtain ⟨⟨x1, x2⟩, s1, x3⟩ := hx
      unfold opS at e
      rw [ho] at e
      have e0 : evS s.tmps (.func g) = .c (.fn g []) := rfl
      have x1' : ¬ isExt cfg.P g = true := by rw [x1]; decide
      simp only [e0, List.map_nil, List.append_nil, if_neg x1'] at e
      unfold callS at e
      rw [x2, x3] at e
      exact (callI_keep e h.2.1 h.2.2).1
    · cases hx
  have hp : At0 (s.put none ({ v := .c .junk, H := s.heap, kill := out.kill } : Out cod)) := at0_put h (by simp) hk h.2.1 h.2.2
  have hT : (killT out.kill s.tmps).getD 0 (.c .junk) = .c (.ptr 0 0 0) := by
    have := hp.1
    rw [put_killT] at this
    exact this
  refine ⟨fun x hx => ?_, fun out' e' => ?_⟩
  · have : x = .tmp 0 := by
      rw [hoi] at hx
      simpa [Op.operands] using hx
    subst this
    exact hT.trans h.1.symm
  · unfold eff at e'
    rw [hgi] at e'
    simp only at e'
    rw [opP_plain (.inr (hno oi))] at e'
    unfold opS at e'
    rw [hoi] at e'
    simp only [T.gives_ret] at e'
    subst e'
    have h1 : evS s.tmps (.tmp 0) = .c (.ptr 0 0 0) := h.1
    simp only [h1, SV.mapC, Cell.killed, Cell.hs, List.any_cons, List.any_nil, Bool.or_false]
    rw [if_neg]
    intro hc
    exact hk (by simpa using hc)
/-- All of it by computation: the move of slot 0 at i0 beside the call at j0. -/
theorem Runs.lex0 {cfg : Cfg cod} (hS : CfgFit cfg) (hm : cfg.P.follows .mixedOrders = true) {b0 : Base} {id : Nat} {ops : Array Oper} {k : List Item} {st st' : St cod} {Q : St cod → Prop} (i0 j0 : Nat)
    (hB : Region.lexB .any ops = true)
    (hc : ((List.range ops.size).all fun i => (List.range ops.size).all fun j => decide (j ≤ i) || match ops[i]?, ops[j]? with
      | some oi, some oj => compat (kindP cfg oi) (kindP cfg oj) || (depL ops i (j + 1)).getD j false || (decide (i = i0) && decide (j = j0))
      | _, _ => true) = true)
    (hk : (ops.toList.all fun o => decide (o.dst ≠ some 0) && (decide (kindP cfg o ≤ 2) || isStore o || isCallI cfg o)) = true)
    (hg : (ops.toList.all fun o => o.guard.isNone) = true)
    (hi : ∀ oi, ops[i0]? = some oi → oi.op = .move (.tmp 0) ∧ kindP cfg oi = 0) (hj : ∀ oj, ops[j0]? = some oj → isCallI cfg oj = true)
    (h0 : At0 st) (h : absRun cfg ops ops.toList st st') (hr : Runs cfg.P b0 k st' Q) : Runs cfg.P b0 (.code (.region id ops true) :: k) st Q := by
  have hin : ∀ {j : Nat} {o : Oper}, ops[j]? = some o → o ∈ ops.toList := fun h => by
    rw [← Array.getElem?_toList] at h
    exact List.mem_of_getElem? h
  have gn : ∀ o ∈ ops.toList, o.guard = none := fun o ho => by simpa using List.all_eq_true.1 hg o ho
  refine Runs.lex hS hm At0 hB (fun o ho s s' h1 h2 => ?_) (fun i j oi oj hij h1 h2 => ?_) h0 h hr
  · have := List.all_eq_true.1 hk o ho
    simp only [Bool.and_eq_true, Bool.or_eq_true, decide_eq_true_eq] at this
    exact at0_keep hS.2.2 this.1 (gn o ho) (or_assoc.1 this.2) h1 h2
  · have := all_pairs (p := fun i j oi oj => compat (kindP cfg oi) (kindP cfg oj) || (depL ops i (j + 1)).getD j false || (decide (i = i0) && decide (j = j0))) hc hij h1 h2
    rw [Bool.or_eq_true] at this
    rcases this with this | this
    · exact .inl this
    · simp only [Bool.and_eq_true, decide_eq_true_eq] at this
      obtain ⟨rfl, rfl⟩ := this
      obtain ⟨g1, g2⟩ := hi oi h1
      exact .inr ⟨g2, gn oi (hin h1), fun s hs out e => move_call hS.2.2 g1 (gn oi (hin h1)) (gn oj (hin h2)) (hj oj h2) hs e⟩
/-- The operations in the text's order, as a tree. -/
def lexT (cfg : Cfg cod) : List Oper → St cod → T (St cod)
  | [], st => .ret st
  | o :: l, st => (stepS cfg o st).bind fun s => lexT cfg l s
theorem lexT_run {cfg : Cfg cod} {ops : Array Oper} : ∀ (l : List Oper) (st st' : St cod), (∀ o ∈ l, o.guard = none) → (lexT cfg l st).gives st' → absRun cfg ops l st st'
  | [], _, _, _, h => h.symm
  | o :: l, st, st', hg, h => by
    unfold lexT at h
    rw [T.gives_bind] at h
    obtain ⟨s, h1, h2⟩ := h
    refine ⟨s, ?_, lexT_run l s st' (fun o ho => hg o (List.mem_cons_of_mem _ ho)) h2⟩
    unfold absStep
    rw [hg o (List.mem_cons_self ..)]
    exact h1
/-- .. with the run as a tree. -/
theorem Runs.lexT {cfg : Cfg cod} (hS : CfgFit cfg) (hm : cfg.P.follows .mixedOrders = true) {b0 : Base} {id : Nat} {ops : Array Oper} {L k : List Item} (hL : L = .code (.region id ops true) :: k) {st : St cod} {Q : St cod → Prop} (i0 j0 : Nat)
    (hB : Region.lexB .any ops = true)
    (hc : ((List.range ops.size).all fun i => (List.range ops.size).all fun j => decide (j ≤ i) || match ops[i]?, ops[j]? with
      | some oi, some oj => compat (kindP cfg oi) (kindP cfg oj) || (depL ops i (j + 1)).getD j false || (decide (i = i0) && decide (j = j0))
      | _, _ => true) = true)
    (hk : (ops.toList.all fun o => decide (o.dst ≠ some 0) && (decide (kindP cfg o ≤ 2) || isStore o || isCallI cfg o)) = true)
    (hg : (ops.toList.all fun o => o.guard.isNone) = true)
    (hi : ∀ oi, ops[i0]? = some oi → oi.op = .move (.tmp 0) ∧ kindP cfg oi = 0) (hj : ∀ oj, ops[j0]? = some oj → isCallI cfg oj = true)
    (h0 : At0 st) {t : T (St cod)} (ht : lexT cfg ops.toList st = t) (hr : t.wp fun s => Runs cfg.P b0 k s Q) : Runs cfg.P b0 L st Q := by
  subst hL
  subst ht
  obtain ⟨s, h1, h2⟩ := T.wp_gives hr
  exact Runs.lex0 hS hm i0 j0 hB hc hk hg hi hj h0 (lexT_run _ _ _ (fun o ho => by simpa using List.all_eq_true.1 hg o ho) h1) h2
end
end Go.Proofs.YtiolfkmkbccndaaGreatDoor.Sym
