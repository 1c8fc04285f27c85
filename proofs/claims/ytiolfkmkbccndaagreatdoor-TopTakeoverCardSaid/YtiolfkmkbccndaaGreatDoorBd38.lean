/- Parts of the proof, one behind the other: Sym38, Sym41. -/
import Derived.Test.YtiolfkmkbccndaaGreatDoorBd35
import Derived.Test.YtiolfkmkbccndaaGreatDoorSym39
section
/- A row that was struck out and made anew, put back into its old place. -/
namespace Go.Proofs.YtiolfkmkbccndaaGreatDoor.Sym
open Go.RowKit

section
variable {cod : Nat → Codec}
/-- References to m as references to k; those to k are forgotten. -/
def Cell.back (k m : Nat) (c : Cell) : Cell := if c.hs.contains k then .junk else c.ren fun h => if h = m then k else h
def St.back (k m : Nat) (st : St cod) : St cod := { tmps := st.tmps.map (SV.mapC (Cell.back k m)), heap := ((st.heap.map fun o => o.mapC (Cell.back k m)).set k ((getObj st.heap m).mapC (Cell.back k m))).set m .dead }
theorem crel_back {env : Env} {N k m : Nat} (hk : k < N) {c : Cell} {v : Value} (h : crel env N c v) : crel (fun i => if i = k then env m else env i) N (c.back k m) v := by
  unfold Cell.back
  split
  · trivial
  · rename_i hc
    have hne : ∀ j ∈ c.hs, j ≠ k := fun j hj e => by
      subst e
      exact hc (by simpa using hj)
    have e1 : ∀ j, j ∈ c.hs → j < N → (if j = m then k else j) < N ∧ (if (if j = m then k else j) = k then env m else env (if j = m then k else j)) = env j := fun j hj hjN => by
      have := hne j hj
      by_cases e : j = m
      · subst e
        simp [hk]
      · simp [e, this, hjN]
    cases c <;> simp only [crel, Cell.ren, Cell.hs] at * <;> try exact h
    case ptr j i o =>
      obtain ⟨a, b⟩ := e1 j (by simp) h.1
      exact ⟨a, by rw [b]; exact h.2⟩
    case slc j i n t =>
      obtain ⟨a, b⟩ := e1 j (by simp) h.1
      exact ⟨a, by rw [b]; exact h.2⟩
    case own j n =>
      obtain ⟨a, b⟩ := e1 j (by simp) h.1
      exact ⟨a, by rw [b]; exact h.2⟩
    case fn f caps =>
      obtain ⟨h1, h2⟩ := h
      refine ⟨fun c hc' => ?_, ?_⟩
      · obtain ⟨d, hd, rfl⟩ := List.mem_map.1 hc'
        exact (e1 d.1 (List.mem_map.2 ⟨d, hd, rfl⟩) (h1 d hd)).1
      · rw [h2]
        congr 2
        rw [List.map_map]
        refine List.map_congr_left fun d hd => ?_
        simp only [Function.comp]
        rw [(e1 d.1 (List.mem_map.2 ⟨d, hd, rfl⟩) (h1 d hd)).2]
theorem back_rel {st : St cod} {b : Base} {a : Act} {w : World} (k m : Nat) (hkb : k < b.n) (hm : b.n ≤ m) (hml : m < st.heap.length) (hd0 : getObj st.heap k = .dead) (ho : b.own k) (hR : Rel st b a w) : Rel (st.back k m) b a w := by
  obtain ⟨env, hF, hd, G, hkin, hK0, hK1, hK2⟩ := hR
  have hkl : k < st.heap.length := by omega
  have hlen : (st.back k m).heap.length = st.heap.length := by simp [St.back]
  have cr : ∀ (c : Cell) (v : Value), crel env st.heap.length c v → crel (fun i => if i = k then env m else env i) st.heap.length (c.back k m) v := fun c v hc => crel_back hkl hc
  have get : ∀ (j : Nat) (o : HObj cod), (st.back k m).heap[j]? = some o → (j = m ∧ o = .dead) ∨ (j = k ∧ st.heap[m]? = some (getObj st.heap m) ∧ o = (getObj st.heap m).mapC (Cell.back k m)) ∨ (j ≠ k ∧ j ≠ m ∧ ∃ o0, st.heap[j]? = some o0 ∧ o = o0.mapC (Cell.back k m)) := fun j o hj => by
    simp only [St.back] at hj
    by_cases e : j = m
    · subst e
      rw [List.getElem?_set_self (by simpa using hml)] at hj
      exact .inl ⟨rfl, (Option.some.inj hj).symm⟩
    · rw [List.getElem?_set_ne (Ne.symm e)] at hj
      by_cases e2 : j = k
      · subst e2
        rw [List.getElem?_set_self (by simpa using hkl)] at hj
        refine .inr (.inl ⟨rfl, ?_, (Option.some.inj hj).symm⟩)
        unfold getObj
        rw [List.getD, List.getElem?_eq_getElem hml]
        rfl
      · rw [List.getElem?_set_ne (Ne.symm e2), List.getElem?_map] at hj
        obtain ⟨o0, h1, rfl⟩ := Option.map_eq_some_iff.1 hj
        exact .inr (.inr ⟨e2, e, o0, h1, rfl⟩)
  refine ⟨fun i => if i = k then env m else env i, ?_, hd, ⟨fun j o hj => ?_, fun j j' o o' c hne hj hj' hw hc hc' => ?_, G.tab⟩, hkin, fun h h1 h2 => ?_, ?_, fun h o h1 hj hown => ?_⟩
  · rw [hlen]
    exact f2_map_mem (R := vrel env st.heap.length) (fun x _ v hv => vrel_map (fun c v hc => cr c v hc) hv) hF
  · rw [hlen]
    rcases get j o hj with ⟨rfl, rfl⟩ | ⟨rfl, h1, rfl⟩ | ⟨h1, h2, o0, h3, rfl⟩
    · trivial
    · simp only [if_true]
      exact objRel_map cr (G.obj _ _ h1)
    · simp only [if_neg h1]
      exact objRel_map cr (G.obj _ _ h3)
  · rcases get j o hj with ⟨rfl, rfl⟩ | ⟨rfl, h1, rfl⟩ | ⟨h1, h2, o0, h3, rfl⟩
    · exact hc
    · rcases get j' o' hj' with ⟨rfl, rfl⟩ | ⟨rfl, h1', rfl⟩ | ⟨h1', h2', o0', h3', rfl⟩
      · exact hc'
      · exact hne rfl
      · simp only [if_true, if_neg h1'] at hc hc'
        rw [has_map] at hc hc'
        rw [wr_map] at hw
        exact G.sep m j' _ o0' c (fun e => h2' e.symm) h1 h3' hw hc hc'
    · rcases get j' o' hj' with ⟨rfl, rfl⟩ | ⟨rfl, h1', rfl⟩ | ⟨h1', h2', o0', h3', rfl⟩
      · exact hc'
      · simp only [if_true, if_neg h1] at hc hc'
        rw [has_map] at hc hc'
        rw [wr_map] at hw
        exact G.sep j m o0 _ c h2 h3 h1' hw hc hc'
      · simp only [if_neg h1, if_neg h1'] at hc hc'
        rw [has_map] at hc hc'
        rw [wr_map] at hw
        exact G.sep j j' o0 o0' c hne h3 h3' hw hc hc'
  · have : h ≠ k := fun e => by subst e; exact h2 ho
    simp only [if_neg this]
    exact hK0 h h1 h2
  · rw [hlen]
    exact hK1
  · rcases get h o hj with ⟨rfl, rfl⟩ | ⟨rfl, _, _⟩ | ⟨h2, h3, o0, h4, rfl⟩
    · cases hown
    · exact ho
    · rw [own_map] at hown
      exact hK2 h o0 h1 h4 hown
/-- The row m in the place of the row k, which was struck out. -/
theorem Runs.back {P : Program} {b0 : Base} {kk : List Item} {st : St cod} {Q : St cod → Prop} (k m : Nat) {N : Nat} (hb : b0.n = N) (hk : k < N) (hm : N ≤ m) (hml : m < st.heap.length) (hd : getObj st.heap k = .dead) (ho : b0.own k) {st' : St cod} (e : st.back k m = st') (hr : Runs P b0 kk st' Q) : Runs P b0 kk st Q :=
  Runs.weaken (fun a w hR => by rw [← e]; exact back_rel k m (by omega) (by omega) hml hd ho hR) hr
/-- A row that the caller owns is one. -/
theorem Runs.knows {P : Program} {b0 : Base} {kk : List Item} {st : St cod} {Q : St cod → Prop} (k : Nat) {N : Nat} (hb : b0.n = N) (hk : k < N) {u : Nat} {l : List (cod u).α} {ty : TypeId} (ho : st.heap[k]? = some (.own u l ty)) (hr : b0.own k → Runs P b0 kk st Q) : Runs P b0 kk st Q :=
  fun b cs a w hR => hr (hR.choose_spec.2.2.2.2.2.2 k _ (by omega) ho rfl) b cs a w hR
end
end Go.Proofs.YtiolfkmkbccndaaGreatDoor.Sym
end
section
/- Operations that the run does not know, shown by hand inside a region; the rows of a slice of slices that the call owns, opened and closed. -/
namespace Go.Proofs.YtiolfkmkbccndaaGreatDoor.Sym
open Go.RowKit

section
variable {cod : Nat → Codec}
/-- One operation: from a state to another. -/
def StepW (P : Program) (b0 : Base) (o : Oper) (st st' : St cod) : Prop := ∀ (a : Act) (w : World) (K : Act → World → Prop) (Q : Exit → Act → World → Prop), Rel st b0 a w → (∀ a' w', Rel st' b0 a' w' → K a' w') → o.wp P a w K Q
def ChainW (P : Program) (b0 : Base) : List Oper → St cod → St cod → Prop
  | [], st, st' => st' = st
  | o :: l, st, st' => o.guard = none ∧ ∃ s, StepW P b0 o st s ∧ ChainW P b0 l s st'
theorem chain_wp {P : Program} {b0 : Base} {ops : Array Oper} {Q : Exit → Act → World → Prop} : ∀ (l : List Oper) (st st' : St cod) (a : Act) (w : World), ChainW P b0 l st st' → Rel st b0 a w → (∀ a' w', Rel st' b0 a' w' → Q .normal a' w') → wpList P ops Q l a w
  | [], st, st', a, w, h, hR, hQ => by
    have h : st' = st := h
    subst h
    exact hQ a w hR
  | o :: l, st, st', a, w, h, hR, hQ => by
    obtain ⟨hg, s, h1, h2⟩ := h
    unfold wpList
    rw [if_pos (by simp [Region.wanted, hg])]
    exact .inl (h1 a w _ _ hR fun a' w' hR' => chain_wp l s st' a' w' h2 hR' hQ)
theorem ChainW.append {P : Program} {b0 : Base} : ∀ {l m : List Oper} {st s st' : St cod}, ChainW P b0 l st s → ChainW P b0 m s st' → ChainW P b0 (l ++ m) st st'
  | [], _, _, _, _, h, k => by
    have h : _ = _ := h
    subst h
    exact k
  | _ :: l, _, _, _, _, ⟨hg, s, h1, h2⟩, k => ⟨hg, s, h1, ChainW.append h2 k⟩
theorem stepW_of {cfg : Cfg cod} (hS : CfgFit cfg) {b0 : Base} {o : Oper} {st st' : St cod} (h : (stepS cfg o st).gives st') : StepW cfg.P b0 o st st' := fun a w K Q hR hK =>
  step_rel hS.ok (FrC.none hS.2.2 _ _) (fun k ⟨⟨d, hd⟩, _⟩ => by rw [hS.2.2 d] at hd; cases hd) h hR hK
theorem chain_lexT {cfg : Cfg cod} (hS : CfgFit cfg) {b0 : Base} : ∀ (l : List Oper) (st st' : St cod), (∀ o ∈ l, o.guard = none) → (lexT cfg l st).gives st' → ChainW cfg.P b0 l st st'
  | [], _, _, _, h => h.symm
  | o :: l, st, st', hg, h => by
    unfold lexT at h
    rw [T.gives_bind] at h
    obtain ⟨s, h1, h2⟩ := h
    exact ⟨hg o (List.mem_cons_self ..), s, stepW_of hS h1, chain_lexT hS l s st' (fun o ho => hg o (List.mem_cons_of_mem _ ho)) h2⟩
/-- A region that does not draw: the run as far as one operation, that operation by hand, the run to the region's end. -/
theorem Runs.mid {cfg : Cfg cod} (hS : CfgFit cfg) {b0 : Base} {id : Nat} {ops : Array Oper} {L k : List Item} (hL : L = .code (.region id ops false) :: k) {l1 l2 : List Oper} {o : Oper} (hsp : ops.toList = l1 ++ o :: l2) (hg : (ops.toList.all fun o => o.guard.isNone) = true) {st : St cod} {Q : St cod → Prop}
    {t1 : T (St cod)} (h1 : Sym.lexT cfg l1 st = t1) (h : t1.wp fun s => ∃ s', StepW cfg.P b0 o s s' ∧ (Sym.lexT cfg l2 s').wp fun s2 => Runs cfg.P b0 k s2 Q) : Runs cfg.P b0 L st Q := by
  subst hL
  subst h1
  obtain ⟨s, g1, s', g2, g3⟩ := T.wp_gives h
  obtain ⟨s2, g4, hr⟩ := T.wp_gives g3
  have gn : ∀ o ∈ ops.toList, o.guard = none := fun o ho => by simpa using List.all_eq_true.1 hg o ho
  rw [hsp] at gn
  have hch : ChainW cfg.P b0 ops.toList st s2 := by
    rw [hsp]
    exact (chain_lexT hS l1 st s (fun o ho => gn o (by simp [ho])) g1).append ⟨gn o (by simp), s', g2, chain_lexT hS l2 s' s2 (fun o ho => gn o (by simp [ho])) g4⟩
  intro b cs a w hR
  have hw : (Code.region id ops false).wp cfg.P (fun e a' w' => e = .normal ∧ Rel s2 b0 a' w') a w := wp_region_list (chain_wp ops.toList st s2 a w hch hR fun a' w' hR' => ⟨rfl, hR'⟩)
  obtain ⟨e, a', w', ⟨rfl, hR'⟩, harr⟩ := hw b k cs
  obtain ⟨x, a'', w'', todo, q1, q2, q3⟩ := hr b cs a' w' hR'
  exact ⟨x, a'', w'', todo, q1, q2, Steps.trans harr q3⟩
/-- An operation by what it yields and leaves. -/
theorem stepW_after {P : Program} {b0 : Base} {o : Oper} {st : St cod} {out : Out cod}
    (hop : ∀ (env : Env) (w : World) (ρ : Operand → Value), Good env st.heap w b0.mine → (∀ k, w.heap.size ≤ k → b0.mine k) → (∀ x, vrel env st.heap.length (evS st.tmps x) (ρ x)) → OpRes P (After env st.heap w b0.mine out) ((execOp ρ o).run P w))
    (hk : ∀ k ∈ out.kill, b0.n ≤ k) (ho : ∀ (k : Nat) (x : HObj cod), k < b0.n → out.H[k]? = some x → x.isOwn = true → ∃ y, st.heap[k]? = some y ∧ y.isOwn = true) : StepW P b0 o st (st.put o.dst out) := by
  intro a w K Q hR hK
  obtain ⟨env, hF, hd, G, hb, hK0, hK1, hK2⟩ := hR
  refine opRes_wp (hop env w a.eval G (fun k hk => b0.new k (Nat.le_trans hb.size hk)) (eval_rel hF)) fun v w' ⟨env', he, hN, hv, G', hb'⟩ => hK _ _ ⟨env', put_rel hF (fun v hv' k hkv hkl hkn => he k hkl hkn) hN hv, by rw [put_defers]; exact hd, G', hb.trans hb', fun k hk' hn => ?_, ?_, fun k x h1 hx hown => ?_⟩
  · rw [he k (by omega) (fun e => by have := hk k e; omega)]
    exact hK0 k hk' hn
  · exact Nat.le_trans hK1 hN
  · obtain ⟨y, hy, hyo⟩ := ho k x h1 hx hown
    exact hK2 k y h1 hy hyo
/-! ### the rows -/
/-- A nil slice of slices in a slot: an object of its own, without rows. -/
def St.madeW (d t : Nat) (ty tyr : TypeId) (st : St cod) : St cod := { tmps := st.tmps.set d (.c (.own st.heap.length 0)), heap := st.heap ++ [.nown t [] [] [] ty tyr] }
theorem madeW_rel {st : St cod} {b : Base} {a : Act} {w : World} (d t : Nat) (ty tyr : TypeId) (hd0 : st.tmps[d]? = some (.c .nil)) (hR : Rel st b a w) : Rel (st.madeW d t ty tyr) b a w := by
  obtain ⟨env, hF, hd, G, hkin, hK0, hK1, hK2⟩ := hR
  have heq := Env.set_eq env st.heap.length (⟨0, 0, 1, .slice none 0 0, []⟩ : HV)
  have hob : objRel (env.set st.heap.length ⟨0, 0, 1, .slice none 0 0, []⟩) (st.heap.length + 1) ⟨0, 0, 1, .slice none 0 0, []⟩ w b.mine (.nown t [] [] [] ty tyr : HObj cod) := by
    refine ⟨rfl, rfl, ⟨rfl, rfl⟩, ⟨[], ⟨rfl, .inl ⟨rfl, rfl⟩⟩, fun j _ => .inl rfl, fun q j c hj _ => by simp at hj⟩, fun b hb => by simp [Value.ownBlock] at hb, fun A n c h => by simp at h, fun j v l _ hv _ => by simp at hv, fun j k v u b _ _ _ hv => by simp at hv⟩
  have G' := G.push ⟨0, 0, 1, .slice none 0 0, []⟩ (.nown t [] [] [] ty tyr) (Nat.le_refl _) (fun _ _ => rfl) hob (fun c hc => by
    rcases hc with hc | ⟨j, v, hv, _⟩
    · simp [Value.ownBlock] at hc
    · simp at hv)
  refine ⟨env.set st.heap.length ⟨0, 0, 1, .slice none 0 0, []⟩, ?_, hd, by simpa [St.madeW] using G', hkin, fun h h1 h2 => ?_, ?_, fun h o h1 hj hown => ?_⟩
  · have hlen : (st.madeW d t ty tyr).heap.length = st.heap.length + 1 := by simp [St.madeW]
    rw [hlen]
    obtain ⟨v, hv, hvr⟩ := f2_get hF hd0
    have hvn : v = .slice none 0 0 := hvr
    subst hvn
    have hF' := forall2_mono (fun _ _ hr => vrel_mono (N' := st.heap.length + 1) (by omega) heq hr) hF
    have hc : vrel (env.set st.heap.length ⟨0, 0, 1, .slice none 0 0, []⟩) (st.heap.length + 1) (.c (.own st.heap.length 0)) (.slice none 0 0) := by
      refine ⟨by omega, by rw [Env.set_same], none, 0, rfl, Nat.le_refl _, Nat.zero_le _, fun h => by omega⟩
    have hs := f2_set hc d hF'
    have e : a.tmps.toList.set d (.slice none 0 0) = a.tmps.toList := by
      obtain ⟨hl, hx⟩ := List.getElem?_eq_some_iff.1 hv
      rw [← hx]
      exact List.set_getElem_self hl
    rw [e] at hs
    exact hs
  · rw [Env.set_other _ _ (by omega)]
    exact hK0 h h1 h2
  · simp only [St.madeW, List.length_append, List.length_singleton]
    omega
  · simp only [St.madeW] at hj
    rw [List.getElem?_append_left (by omega)] at hj
    exact hK2 h o h1 hj hown
theorem Runs.madeW {P : Program} {b0 : Base} {kk : List Item} {st : St cod} {Q : St cod → Prop} (d t : Nat) (ty tyr : TypeId) (h : st.tmps[d]? = some (.c .nil)) {st' : St cod} (e : st.madeW d t ty tyr = st') (hr : Runs P b0 kk st' Q) : Runs P b0 kk st Q :=
  Runs.weaken (fun a w hR => by rw [← e]; exact madeW_rel d t ty tyr h hR) hr
/-- Row j laid open: an object of its own, behind all others. -/
def St.openW (h j : Nat) (st : St cod) : St cod := match getObj st.heap h with
  | .nown t LL js cs ty tyr => { st with heap := st.heap.set h (.nown t LL (j :: js) (.own st.heap.length (LL.getD j []).length :: cs) ty tyr) ++ [.own t (LL.getD j []) tyr] }
  | _ => st
theorem openW_rel {st : St cod} {b : Base} {a : Act} {w : World} {h j t : Nat} {LL : List (List (cod t).α)} {js : List Nat} {cs : List Cell} {ty tyr : TypeId} (ho : getObj st.heap h = .nown t LL js cs ty tyr) (hj : j < LL.length) (hjs : j ∉ js) (hty : ty < 1000000) (hR : Rel st b a w) : Rel (st.openW h j) b a w := by
  have hst : st.openW h j = { st with heap := st.heap.set h (.nown t LL (j :: js) (.own st.heap.length (LL.getD j []).length :: cs) ty tyr) ++ [.own t (LL.getD j []) tyr] } := by
    unfold St.openW
    rw [ho]
  rw [hst]
  obtain ⟨env, hF, hd, G, hkin, hK0, hK1, hK2⟩ := hR
  have hob := getObj_obj ho (by simp)
  have hlt : h < st.heap.length := (List.getElem?_eq_some_iff.1 hob).1
  obtain ⟨h1, h2, h3, ⟨vs, h4, h5, h6⟩, h7, h8, h9, h10⟩ := G.obj h _ hob
  have eL : LL[j]? = some (LL.getD j []) := by rw [List.getD_eq_getElem?_getD, List.getElem?_eq_getElem hj]; rfl
  obtain ⟨v, hv⟩ : ∃ v, (env h).rows[j]? = some v := ⟨_, List.getElem?_eq_getElem (by omega)⟩
  have hvs : vs[j]? = some v := (lk_strict hty (h5 j hjs)).trans hv
  obtain ⟨o1, o2⟩ := h9 j v _ hjs hv eL
  generalize hx : (⟨v.ownBlock.getD 0, 0, (cod t).size, v, []⟩ : HV) = x
  have heq := Env.set_eq env st.heap.length x
  have hx1 : x.val = v := by rw [← hx]
  have hlen : (st.heap.set h (.nown t LL (j :: js) (.own st.heap.length (LL.getD j []).length :: cs) ty tyr) ++ [.own t (LL.getD j []) tyr] : Heap cod).length = st.heap.length + 1 := by simp
  have newo : objRel (env.set st.heap.length x) (st.heap.length + 1) x w b.mine (.own t (LL.getD j []) tyr : HObj cod) := by
    rw [← hx]
    exact own_obj o1 (fun b hb => (o2 b hb).1) _ _
  have newc : crel (env.set st.heap.length x) (st.heap.length + 1) (.own st.heap.length (LL.getD j []).length) v := by
    refine own_cell o1 rfl _ (by omega) ?_
    rw [Env.set_same, hx]
  have cases_ : ∀ (k : Nat) (o : HObj cod), (st.heap.set h (.nown t LL (j :: js) (.own st.heap.length (LL.getD j []).length :: cs) ty tyr) ++ [.own t (LL.getD j []) tyr] : Heap cod)[k]? = some o → (k ≠ h ∧ k < st.heap.length ∧ st.heap[k]? = some o) ∨ (k = h ∧ o = .nown t LL (j :: js) (.own st.heap.length (LL.getD j []).length :: cs) ty tyr) ∨ (k = st.heap.length ∧ o = .own t (LL.getD j []) tyr) := fun k o hk => by
    rcases Nat.lt_or_ge k st.heap.length with hl' | hl'
    · rw [List.getElem?_append_left (by simpa using hl')] at hk
      by_cases e : k = h
      · subst e
        rw [List.getElem?_set_self hlt] at hk
        exact .inr (.inl ⟨rfl, (Option.some.inj hk).symm⟩)
      · rw [List.getElem?_set_ne (Ne.symm e)] at hk
        exact .inl ⟨e, hl', hk⟩
    · rw [List.getElem?_append_right (by simpa using hl')] at hk
      simp only [List.length_set] at hk
      have : k - st.heap.length = 0 := by
        rcases Nat.eq_zero_or_pos (k - st.heap.length) with e | e
        · exact e
        · rw [List.getElem?_eq_none (by simp; omega)] at hk; cases hk
      rw [this] at hk
      exact .inr (.inr ⟨by omega, (Option.some.inj hk).symm⟩)
  -- what the outer object keeps, and what the row takes
  have hasO : ∀ c, (HObj.nown t LL (j :: js) (.own st.heap.length (LL.getD j []).length :: cs) ty tyr : HObj cod).has (env h) c → (HObj.nown t LL js cs ty tyr : HObj cod).has (env h) c := fun c hc => by
    rcases hc with hc | ⟨k, u, hu, hk, hb⟩
    · exact .inl hc
    · exact .inr ⟨k, u, hu, fun h => hk (List.mem_cons_of_mem _ h), hb⟩
  have hasN : ∀ c, (HObj.own t (LL.getD j []) tyr : HObj cod).has x c → (HObj.nown t LL js cs ty tyr : HObj cod).has (env h) c := fun c hc => by
    have hc : x.val.ownBlock = some c := hc
    rw [hx1] at hc
    exact .inr ⟨j, v, hv, hjs, hc⟩
  have apart : ∀ c, (HObj.nown t LL (j :: js) (.own st.heap.length (LL.getD j []).length :: cs) ty tyr : HObj cod).has (env h) c → ¬ (HObj.own t (LL.getD j []) tyr : HObj cod).has x c := fun c hc hn => by
    have hn : x.val.ownBlock = some c := hn
    rw [hx1] at hn
    rcases hc with hc | ⟨k, u, hu, hk, hb⟩
    · exact (o2 c hn).2 hc
    · exact h10 k j u v c (fun e => hk (by rw [e]; exact List.mem_cons_self ..)) (fun h => hk (List.mem_cons_of_mem _ h)) hjs hu hv hb hn
  refine ⟨env.set st.heap.length x, ?_, hd, ⟨fun k o hk => ?_, fun k k' o o' c hne hk hk' hw hc hc' => ?_, G.tab⟩, hkin, fun q hq hn => ?_, ?_, fun q o hq hqo hown => ?_⟩
  · simp only [hlen]
    exact forall2_mono (fun _ _ hr => vrel_mono (by omega) heq hr) hF
  · simp only [hlen]
    rcases cases_ k o hk with ⟨g1, g2, g3⟩ | ⟨rfl, rfl⟩ | ⟨rfl, rfl⟩
    · rw [Env.set_other _ _ (by omega)]
      exact objRel_mono (by omega) heq (G.obj k o g3)
    · rw [Env.set_other _ _ (by omega)]
      refine ⟨h1, h2, ⟨h3.1, by simp [h3.2]⟩, ⟨vs, h4, fun i hi => h5 i fun h => hi (List.mem_cons_of_mem _ h), fun q i c hq hc => ?_⟩, h7, h8, fun i u l hi => h9 i u l fun h => hi (List.mem_cons_of_mem _ h), fun i k u u' c hik hi hk => h10 i k u u' c hik (fun h => hi (List.mem_cons_of_mem _ h)) fun h => hk (List.mem_cons_of_mem _ h)⟩
      cases q with
      | zero =>
        simp only [List.getElem?_cons_zero, Option.some.injEq] at hq hc
        subst hq
        subst hc
        exact ⟨v, hvs, newc⟩
      | succ q =>
        simp only [List.getElem?_cons_succ] at hq hc
        obtain ⟨u, hu, hr⟩ := h6 q i c hq hc
        exact ⟨u, hu, crel_mono (by omega) heq hr⟩
    · rw [Env.set_same]
      exact newo
  · rcases cases_ k o hk with ⟨g1, g2, g3⟩ | ⟨rfl, rfl⟩ | ⟨rfl, rfl⟩
    · rw [Env.set_other _ _ (by omega)] at hc
      rcases cases_ k' o' hk' with ⟨g1', g2', g3'⟩ | ⟨rfl, rfl⟩ | ⟨rfl, rfl⟩
      · rw [Env.set_other _ _ (by omega)] at hc'
        exact G.sep k k' o o' c hne g3 g3' hw hc hc'
      · rw [Env.set_other _ _ (by omega)] at hc'
        exact G.sep k _ o _ c hne g3 hob hw hc (hasO c hc')
      · rw [Env.set_same] at hc'
        exact G.sep k h o _ c g1 g3 hob hw hc (hasN c hc')
    · rw [Env.set_other _ _ (by omega)] at hc
      rcases cases_ k' o' hk' with ⟨g1', g2', g3'⟩ | ⟨rfl, rfl⟩ | ⟨rfl, rfl⟩
      · rw [Env.set_other _ _ (by omega)] at hc'
        exact G.sep _ k' _ o' c hne hob g3' rfl (hasO c hc) hc'
      · exact absurd rfl hne
      · rw [Env.set_same] at hc'
        exact apart c hc hc'
    · rw [Env.set_same] at hc
      rcases cases_ k' o' hk' with ⟨g1', g2', g3'⟩ | ⟨rfl, rfl⟩ | ⟨rfl, rfl⟩
      · rw [Env.set_other _ _ (by omega)] at hc'
        exact G.sep h k' _ o' c (Ne.symm g1') hob g3' rfl (hasN c hc) hc'
      · rw [Env.set_other _ _ (by omega)] at hc'
        exact apart c hc' hc
      · exact absurd rfl hne
  · rw [Env.set_other _ _ (by omega)]
    exact hK0 q hq hn
  · simp only [hlen]
    omega
  · rcases cases_ q o hqo with ⟨g1, g2, g3⟩ | ⟨rfl, rfl⟩ | ⟨rfl, rfl⟩
    · exact hK2 q o hq g3 hown
    · cases hown
    · omega
theorem Runs.openW {P : Program} {b0 : Base} {kk : List Item} {st : St cod} {Q : St cod → Prop} (h j : Nat) {t : Nat} {LL : List (List (cod t).α)} {js : List Nat} {cs : List Cell} {ty tyr : TypeId} (ho : getObj st.heap h = .nown t LL js cs ty tyr) (hj : j < LL.length) (hjs : j ∉ js) {st' : St cod} (e : st.openW h j = st') (hr : Runs P b0 kk st' Q) (hty : ty < 1000000 := by decide) : Runs P b0 kk st Q :=
  Runs.weaken (fun a w hR => by rw [← e]; exact openW_rel ho hj hjs hty hR) hr
end
end Go.Proofs.YtiolfkmkbccndaaGreatDoor.Sym
end
