/- Parts of the proof, one behind the other: Sym42, Sym43. -/
import Derived.Test.YtiolfkmkbccndaaGreatDoorBd38
section
/- A row of a slice of slices that the call owns, closed again. -/
namespace Go.Proofs.YtiolfkmkbccndaaGreatDoor.Sym
open Go.RowKit

section
variable {cod : Nat → Codec}
/-- The row that is an object of its own, and the cell that stands for it. -/
def rowOf (t : Nat) (tyr : TypeId) (H : Heap cod) : Cell → Option (Nat × List (cod t).α)
  | .own r m => match getObj H r with
    | .own u l ty => if h : u = t then (if ty = tyr then some (r, h ▸ l) else none) else none
    | _ => none
  | .slc r 0 m true => match getObj H r with
    | .arr u l ty => if h : u = t then (if ty = tyr ∧ m = l.length ∧ 0 < m then some (r, h ▸ l) else none) else none
    | _ => none
  | _ => none
/-- What such a row is. -/
theorem rowOf_spec {t : Nat} {tyr : TypeId} {H : Heap cod} {env : Env} {w : World} {M : Nat → Prop} {c : Cell} {v : Value} {r : Nat} {l : List (cod t).α} (h : rowOf t tyr H c = some (r, l)) (G : Good env H w M) (hc : crel env H.length c v) :
    w.ownsRow 0 tyr (cod t).size v l.length (vals (cod t) l) ∧ (∀ b, v.ownBlock = some b → M b) ∧ (∀ b, v.ownBlock = some b → ∃ o, H[r]? = some o ∧ o.wr = true ∧ o.has (env r) b) ∧ r < H.length ∧ (getObj H r).wr = true := by
  unfold rowOf at h
  split at h
  · rename_i r' m
    split at h
    · rename_i u l' ty ho
      split at h
      · rename_i e
        subst e
        split at h
        · rename_i e
          subst e
          simp only [Option.some.injEq, Prod.mk.injEq] at h
          obtain ⟨rfl, rfl⟩ := h
          have hob := getObj_obj ho (by simp)
          obtain ⟨o1, o2, o3, o4, o5⟩ := G.obj _ _ hob
          obtain ⟨g1, rfl, _⟩ := hc
          exact ⟨o3, o4, fun b hb => ⟨_, hob, rfl, hb⟩, g1, by rw [ho]; rfl⟩
        · cases h
      · cases h
    · cases h
  · rename_i r' m
    split at h
    · rename_i u l' ty ho
      split at h
      · rename_i e
        subst e
        split at h
        · rename_i e
          obtain ⟨rfl, hm, hp⟩ := e
          simp only [Option.some.injEq, Prod.mk.injEq] at h
          obtain ⟨rfl, rfl⟩ := h
          have hob := getObj_obj ho (by simp)
          obtain ⟨o1, o2, o3, o4⟩ := G.obj _ _ hob
          obtain ⟨g1, A, cc, rfl, g2, g3, g4, g5⟩ := hc
          have hA := g5 hp
          have hcc := g4 rfl
          subst hcc
          have hadr : (env r').addr 0 0 = ⟨(env r').block, 0, none⟩ := by simp [HV.addr, o1]
          rw [hadr] at hA
          subst hA
          subst hm
          refine ⟨⟨vals_len _ _, .inr ⟨(env r').block, l'.length, (vals (cod u) l').toArray, rfl, Nat.zero_le _, o4, Nat.le_refl _, g3, by simp [vals_len], ?_⟩⟩, fun b hb => ?_, fun b hb => ?_, g1, by rw [ho]; rfl⟩
          · simp only []
            rw [← vals_len (cod u) l', List.take_length]
          · simp only [Value.ownBlock, Option.some.injEq] at hb
            rw [← hb]
            exact o3
          · simp only [Value.ownBlock, Option.some.injEq] at hb
            exact ⟨_, hob, rfl, hb.symm⟩
        · cases h
      · cases h
    · cases h
  · cases h
def St.closeW (h : Nat) (st : St cod) : St cod := match getObj st.heap h with
  | .nown t LL (j :: js) (c :: cs) ty tyr => match rowOf t tyr st.heap c with
    | some (r, l) => { st with heap := (st.heap.set h (.nown t (LL.set j l) js cs ty tyr)).set r .dead }
    | none => st
  | _ => st
theorem closeW_rel {st : St cod} {b : Base} {a : Act} {w : World} {h j t r : Nat} {LL : List (List (cod t).α)} {js : List Nat} {c : Cell} {cs : List Cell} {ty tyr : TypeId} {l : List (cod t).α} (ho : getObj st.heap h = .nown t LL (j :: js) (c :: cs) ty tyr) (hj : j < LL.length) (hjs : j ∉ js) (hr : rowOf t tyr st.heap c = some (r, l)) (hn : b.n ≤ h) (hne : r ≠ h) (hR : Rel st b a w) : Rel (st.closeW h) b a w := by
  have hst : st.closeW h = { st with heap := (st.heap.set h (.nown t (LL.set j l) js cs ty tyr)).set r .dead } := by
    unfold St.closeW
    rw [ho]
    simp only [hr]
  rw [hst]
  obtain ⟨env, hF, hd, G, hkin, hK0, hK1, hK2⟩ := hR
  have hob := getObj_obj ho (by simp)
  have hlt : h < st.heap.length := (List.getElem?_eq_some_iff.1 hob).1
  obtain ⟨h1, h2, h3, ⟨vs, h4, h5, h6⟩, h7, h8, h9, h10⟩ := G.obj h _ hob
  obtain ⟨v, hv, hcv⟩ := h6 0 j c rfl rfl
  obtain ⟨r1, r2, r3, r4, _⟩ := rowOf_spec hr G hcv
  generalize hx : (⟨(env h).block, (env h).off, (env h).esize, (env h).val, (env h).rows.set j v⟩ : HV) = x
  have x1 : x.val = (env h).val := by rw [← hx]
  have x2 : x.rows = (env h).rows.set j v := by rw [← hx]
  have x3 : x.block = (env h).block := by rw [← hx]
  have x4 : x.off = (env h).off := by rw [← hx]
  have x5 : x.esize = (env h).esize := by rw [← hx]
  have hlen : ((st.heap.set h (.nown t (LL.set j l) js cs ty tyr)).set r .dead : Heap cod).length = st.heap.length := by simp
  have cr : ∀ (c : Cell) (u : Value), crel env st.heap.length c u → crel (env.set h x) st.heap.length c u := fun c u hc => by
    have ha : ∀ k i o, (env.set h x k).addr i o = (env k).addr i o := fun k i o => by
      by_cases e : k = h
      · subst e
        rw [Env.set_same]
        unfold HV.addr
        rw [x3, x4, x5]
      · rw [Env.set_other _ _ e]
    have hval : ∀ k, (env.set h x k).val = (env k).val := fun k => by
      by_cases e : k = h
      · subst e
        rw [Env.set_same, x1]
      · rw [Env.set_other _ _ e]
    cases c <;> simp only [crel] at hc ⊢ <;> try exact hc
    case ptr => rw [ha]; exact hc
    case slc => rw [ha]; exact hc
    case own => rw [ha, hval]; exact hc
    case fn f caps =>
      obtain ⟨g1, rfl⟩ := hc
      refine ⟨g1, ?_⟩
      congr 2
      exact List.map_congr_left fun c hc => by rw [ha]
  have get : ∀ (k : Nat) (o : HObj cod), ((st.heap.set h (.nown t (LL.set j l) js cs ty tyr)).set r .dead : Heap cod)[k]? = some o → (k = r ∧ o = .dead) ∨ (k = h ∧ o = .nown t (LL.set j l) js cs ty tyr) ∨ (k ≠ h ∧ k ≠ r ∧ st.heap[k]? = some o) := fun k o hk => by
    by_cases e : k = r
    · subst e
      rw [List.getElem?_set_self (by simpa using r4)] at hk
      exact .inl ⟨rfl, (Option.some.inj hk).symm⟩
    · rw [List.getElem?_set_ne (Ne.symm e)] at hk
      by_cases e2 : k = h
      · subst e2
        rw [List.getElem?_set_self hlt] at hk
        exact .inr (.inl ⟨rfl, (Option.some.inj hk).symm⟩)
      · rw [List.getElem?_set_ne (Ne.symm e2)] at hk
        exact .inr (.inr ⟨e2, e, hk⟩)
  have rowx : ∀ i u, x.rows[i]? = some u → (i = j ∧ u = v) ∨ (i ≠ j ∧ (env h).rows[i]? = some u) := fun i u hu => by
    rw [x2] at hu
    by_cases e : i = j
    · subst e
      rw [List.getElem?_set_self (by omega)] at hu
      exact .inl ⟨rfl, (Option.some.inj hu).symm⟩
    · rw [List.getElem?_set_ne (Ne.symm e)] at hu
      exact .inr ⟨e, hu⟩
  -- the row's block is none of the others
  have rowO : ∀ c, v.ownBlock = some c → ¬ (HObj.nown t LL (j :: js) (‹Cell› :: cs) ty tyr : HObj cod).has (env h) c := fun c hc hh => by
    obtain ⟨o, q1, q2, q3⟩ := r3 c hc
    exact G.sep r h o _ c hne q1 hob q2 q3 hh
  have hasX : ∀ c, (HObj.nown t (LL.set j l) js cs ty tyr : HObj cod).has x c → (HObj.nown t LL (j :: js) (‹Cell› :: cs) ty tyr : HObj cod).has (env h) c ∨ v.ownBlock = some c := fun c hc => by
    rcases hc with hc | ⟨i, u, hu, hi, hb⟩
    · rw [x1] at hc
      exact .inl (.inl hc)
    · rcases rowx i u hu with ⟨rfl, rfl⟩ | ⟨e, hu⟩
      · exact .inr hb
      · exact .inl (.inr ⟨i, u, hu, fun h => (List.mem_cons.1 h).elim e hi, hb⟩)
  refine ⟨env.set h x, ?_, hd, ⟨fun k o hk => ?_, fun k k' o o' c hne' hk hk' hw hc hc' => ?_, G.tab⟩, hkin, fun q hq hq2 => ?_, ?_, fun q o hq hqo hown => ?_⟩
  · simp only [hlen]
    have := f2_map_mem (f := id) (R := vrel env st.heap.length) (S := vrel (env.set h x) st.heap.length) (fun y _ u hu => by
      have := vrel_map (f := id) (fun c u hc => cr c u hc) hu
      have e : y.mapC id = y := by
        cases y with
        | c x => rfl
        | agg cs => simp [SV.mapC]
        | tup vs =>
          simp only [SV.mapC, id_eq, List.map_id_fun', SV.tup.injEq]
          refine (List.map_congr_left fun v _ => ?_).trans (List.map_id _)
          cases v <;> simp
      rw [e] at this
      exact this) hF
    rwa [List.map_id] at this
  · simp only [hlen]
    rcases get k o hk with ⟨rfl, rfl⟩ | ⟨rfl, rfl⟩ | ⟨g1, g2, g3⟩
    · trivial
    · rw [Env.set_same]
      refine ⟨by rw [x4]; exact h1, by rw [x5]; exact h2, ⟨by rw [x2, List.length_set, List.length_set]; exact h3.1, by simpa using h3.2⟩, ⟨vs, by rw [x1, List.length_set]; exact h4, fun i hi => ?_, fun q i c' hq hc' => ?_⟩, by rw [x1]; exact h7, by rw [x1, x3]; exact h8, fun i u l' hi hu hl' => ?_, fun i k u u' c' hik hi hkk hu hu' hb hb' => ?_⟩
      · rw [x2]
        by_cases e : i = j
        · subst e
          rw [List.getElem?_set_self (by omega)]
          exact .inl hv
        · rw [List.getElem?_set_ne (Ne.symm e)]
          exact h5 i fun h => (List.mem_cons.1 h).elim e hi
      · obtain ⟨u, hu, hr'⟩ := h6 (q + 1) i c' (by simpa using hq) (by simpa using hc')
        exact ⟨u, hu, cr _ _ hr'⟩
      · rcases rowx i u hu with ⟨rfl, rfl⟩ | ⟨e, hu⟩
        · rw [List.getElem?_set_self (by omega)] at hl'
          simp only [Option.some.injEq] at hl'
          subst hl'
          refine ⟨r1, fun b hb => ⟨r2 b hb, fun hb2 => rowO b hb (.inl ?_)⟩⟩
          rw [x1] at hb2
          exact hb2
        · rw [List.getElem?_set_ne (Ne.symm e)] at hl'
          obtain ⟨q1, q2⟩ := h9 i u l' (fun h => (List.mem_cons.1 h).elim e hi) hu hl'
          exact ⟨q1, fun b hb => ⟨(q2 b hb).1, by rw [x1]; exact (q2 b hb).2⟩⟩
      · rcases rowx i u hu with ⟨rfl, rfl⟩ | ⟨e, hu⟩ <;> rcases rowx k u' hu' with ⟨rfl, rfl⟩ | ⟨e', hu'⟩
        · exact hik rfl
        · exact rowO c' hb (.inr ⟨k, u', hu', fun h => (List.mem_cons.1 h).elim e' hkk, hb'⟩)
        · exact rowO c' hb' (.inr ⟨i, u, hu, fun h => (List.mem_cons.1 h).elim e hi, hb⟩)
        · exact h10 i k u u' c' hik (fun h => (List.mem_cons.1 h).elim e hi) (fun h => (List.mem_cons.1 h).elim e' hkk) hu hu' hb hb'
    · rw [Env.set_other _ _ g1]
      have := objRel_map (f := id) (fun c u hc => cr c u hc) (G.obj k o g3)
      have e : o.mapC id = o := by
        cases o <;> simp [HObj.mapC]
      rwa [e] at this
  · rcases get k o hk with ⟨rfl, rfl⟩ | ⟨rfl, rfl⟩ | ⟨g1, g2, g3⟩
    · cases hw
    · rcases get k' o' hk' with ⟨rfl, rfl⟩ | ⟨rfl, rfl⟩ | ⟨g1', g2', g3'⟩
      · exact hc'
      · exact hne' rfl
      · rw [Env.set_same] at hc
        rw [Env.set_other _ _ g1'] at hc'
        rcases hasX c hc with hc | hc
        · exact G.sep _ k' _ o' c hne' hob g3' rfl hc hc'
        · obtain ⟨o2, q1, q2, q3⟩ := r3 c hc
          exact G.sep r k' o2 o' c (Ne.symm g2') q1 g3' q2 q3 hc'
    · rw [Env.set_other _ _ g1] at hc
      rcases get k' o' hk' with ⟨rfl, rfl⟩ | ⟨rfl, rfl⟩ | ⟨g1', g2', g3'⟩
      · exact hc'
      · rw [Env.set_same] at hc'
        rcases hasX c hc' with hc' | hc'
        · exact G.sep k _ o _ c hne' g3 hob hw hc hc'
        · obtain ⟨o2, q1, q2, q3⟩ := r3 c hc'
          exact G.sep k r o o2 c g2 g3 q1 hw hc q3
      · rw [Env.set_other _ _ g1'] at hc'
        exact G.sep k k' o o' c hne' g3 g3' hw hc hc'
  · rw [Env.set_other _ _ (by omega)]
    exact hK0 q hq hq2
  · simp only [hlen]
    exact hK1
  · rcases get q o hqo with ⟨rfl, rfl⟩ | ⟨rfl, rfl⟩ | ⟨g1, g2, g3⟩
    · cases hown
    · omega
    · exact hK2 q o hq g3 hown
theorem Runs.closeW {P : Program} {b0 : Base} {kk : List Item} {st : St cod} {Q : St cod → Prop} (h : Nat) {j t r N : Nat} (hb : b0.n = N) {LL : List (List (cod t).α)} {js : List Nat} {c : Cell} {cs : List Cell} {ty tyr : TypeId} {l : List (cod t).α} (ho : getObj st.heap h = .nown t LL (j :: js) (c :: cs) ty tyr) (hj : j < LL.length) (hjs : j ∉ js) (hr : rowOf t tyr st.heap c = some (r, l)) (hn : N ≤ h) (hne : r ≠ h) {st' : St cod} (e : st.closeW h = st') (hk : Runs P b0 kk st' Q) : Runs P b0 kk st Q :=
  Runs.weaken (fun a w hR => by rw [← e]; exact closeW_rel ho hj hjs hr (by omega) hne hR) hk
end
end Go.Proofs.YtiolfkmkbccndaaGreatDoor.Sym
end
section
/- A row appended to a slice of slices that the call owns. -/
namespace Go.Proofs.YtiolfkmkbccndaaGreatDoor.Sym
open Go.RowKit

section
variable {cod : Nat → Codec}
/-- An object that the call owns, changed, perhaps in another block: older references to it are struck out. -/
theorem Good.change {env : Env} {H : Heap cod} {w w' : World} {M : Nat → Prop} {h : Nat} {o o' : HObj cod} (G : Good env H w M) (ho : H[h]? = some o) (hw : o.wr = true) (x' : HV) (hs : w.heap.size ≤ w'.heap.size) (hk : ∀ b, b < w.heap.size → ¬ o.has (env h) b → w'.heap[b]? = w.heap[b]?)
    (ho' : objRel (env.set h x') H.length x' w' M (o'.mapC (Cell.killed [h]))) (hu : ∀ b, o'.has x' b → o.has (env h) b ∨ w.heap.size ≤ b) : Good (env.set h x') ((H.set h o').map (HObj.mapC (Cell.killed [h]))) w' M := by
  have hlt : h < H.length := (List.getElem?_eq_some_iff.1 ho).1
  have hbut : EnvBut H.length [h] env (env.set h x') := fun q _ hne => Env.set_other _ _ (by rintro rfl; exact hne (by simp))
  have cases_ : ∀ k a, ((H.set h o').map (HObj.mapC (Cell.killed [h])))[k]? = some a → (k ≠ h ∧ ∃ b, H[k]? = some b ∧ a = b.mapC (Cell.killed [h])) ∨ (k = h ∧ a = o'.mapC (Cell.killed [h])) := by
    intro k a ha
    rw [List.getElem?_map] at ha
    by_cases e : k = h
    · subst e
      rw [List.getElem?_set_self hlt] at ha
      simp only [Option.map_some, Option.some.injEq] at ha
      exact .inr ⟨rfl, ha.symm⟩
    · rw [List.getElem?_set_ne (by omega)] at ha
      obtain ⟨b, h1, h2⟩ := Option.map_eq_some_iff.1 ha
      exact .inl ⟨e, b, h1, h2.symm⟩
  refine ⟨fun k a ha => ?_, fun k k' a a' c hne ha ha' hwa hc hc' => ?_, G.tab.keep (fun p _ hl hn => hk _ hl fun e => hn (objRel_wr_in (G.obj h _ ho) hw e)) fun _ _ _ h => h⟩
  · rw [List.length_map, List.length_set]
    rcases cases_ k a ha with ⟨hne, b, h1, rfl⟩ | ⟨rfl, rfl⟩
    · rw [Env.set_other _ _ hne]
      refine objRel_map (fun c v hcv => crel_killed (Nat.le_refl _) hbut hcv) (objRel_keep (G.obj k b h1) hs fun c hc => ?_)
      have hlt := objRel_has_lt (G.obj k b h1) hc
      exact hk c hlt fun e => G.sep h k _ b c (Ne.symm hne) ho h1 hw e hc
    · rw [Env.set_same]; exact ho'
  · rcases cases_ k a ha with ⟨h1, b, h2, rfl⟩ | ⟨rfl, rfl⟩ <;> rcases cases_ k' a' ha' with ⟨h1', b', h2', rfl⟩ | ⟨rfl, rfl⟩
    · rw [Env.set_other _ _ h1, has_map] at hc
      rw [Env.set_other _ _ h1', has_map] at hc'
      rw [wr_map] at hwa
      exact G.sep k k' b b' c hne h2 h2' hwa hc hc'
    · rw [Env.set_other _ _ h1, has_map] at hc
      rw [Env.set_same, has_map] at hc'
      rw [wr_map] at hwa
      have hlt := objRel_has_lt (G.obj k b h2) hc
      rcases hu c hc' with hc' | hc'
      · exact G.sep k k' b _ c hne h2 ho hwa hc hc'
      · omega
    · rw [Env.set_same, has_map] at hc
      rw [Env.set_other _ _ h1', has_map] at hc'
      have hlt := objRel_has_lt (G.obj k' b' h2') hc'
      rcases hu c hc with hc | hc
      · exact G.sep k k' _ b' c hne ho h2' hw hc hc'
      · omega
    · exact hne rfl
/-- 'out = append(out, row)': the row is an object of its own still. -/
theorem StepW.app {P : Program} {b0 : Base} {o : Oper} {st : St cod} {x y : Operand} {ts : Array TypeId} {T ty tyr tb : TypeId} {h b n t B : Nat} {LL : List (List (cod t).α)} {c : Cell}
    (hop : o.op = .call ⟨.builtin .append, #[x, y], ts⟩) (ht1 : ts[0]? = some T) (ht2 : ts[1]? = some T) (hT : P.underlying T = some (.slice ty))
    (hz : (P.info? ty).map (fun i => (i.zero.map fun z => z.cells.size, i.size, i.bytes)) = some (some 1, 1, B)) (hB : B ≤ 100000)
    (hx : evS st.tmps x = .c (.own h n)) (hy : evS st.tmps y = .c (.slc b 0 1 true))
    (hh : getObj st.heap h = .nown t LL [] [] ty tyr) (hb : getObj st.heap b = .blk [c] tb) (hc : c.one = true) (hn : LL.length + 1 ≤ 1000000) (hN : b0.n ≤ h) {st' : St cod}
    (e : st.put o.dst { v := .c (.own h (LL.length + 1)), H := (st.heap.set h (.nown t (LL ++ [[]]) [LL.length] [c] ty tyr)).map (HObj.mapC (Cell.killed [h])), kill := [h] } = st') (hty : ty < 1000000 := by decide) : StepW P b0 o st st' := by
  subst e
  have hobh := getObj_obj hh (by simp)
  have hobb := getObj_obj hb (by simp)
  have hlt : h < st.heap.length := (List.getElem?_eq_some_iff.1 hobh).1
  refine stepW_after (fun env w ρ G hM hρ => ?_) (fun k hk => by simp only [List.mem_singleton] at hk; omega) (fun k x hk hx hxo => ?_)
  · have hu := hρ x
    have hv := hρ y
    rw [hx] at hu
    rw [hy] at hv
    obtain ⟨_, hval, A0, c0, hs1, hs2, hs3, hs4⟩ := hu
    obtain ⟨_, A, cc, hv1, hv2, hv3, _, hv5⟩ := hv
    obtain ⟨h1, h2, h3, ⟨vs, h4, h5, h6⟩, h7, h8, h9, h10⟩ := G.obj h _ hobh
    have eO : tyO ty = ty := if_pos hty
    rw [eO] at h4
    obtain ⟨p1, p2, us, p3, p4⟩ := G.obj b _ hobb
    obtain ⟨v, rfl, hcv⟩ : ∃ v, us = [v] ∧ crel env st.heap.length c v := by
      cases p4 with
      | cons a t => cases t; exact ⟨_, rfl, a⟩
    have hAb := hv5 (by omega)
    have hadr : (env b).addr 0 0 = ⟨(env b).block, 0, none⟩ := by simp [HV.addr, p1]
    rw [hadr] at hAb
    obtain ⟨i, hi, hz'⟩ := Option.map_eq_some_iff.1 hz
    simp only [Prod.mk.injEq] at hz'
    obtain ⟨hz1, hz2, hz3⟩ := hz'
    obtain ⟨z, hz0, hzc⟩ := Option.map_eq_some_iff.1 hz1
    have hone := one_rel hc hcv
    obtain ⟨v', w', r1, r2, r3, r4, r5⟩ := append_any w 0 T o.type ty i z 1 B hT hi hz0 hz2 hz3 hzc (by omega) (ρ x) LL.length vs (by rw [hval]; exact h4) A 1 cc [v] rfl (fun _ => ⟨_, hAb, fun j q hj => by
        cases j with
        | succ j => simp at hj
        | zero =>
          simp only [List.getElem?_cons_zero, Option.some.injEq] at hj
          subst hj
          have := cell_of_row w (env b).block 0 _ _ _ p3
          simpa [Addr.add] using this⟩) (by simpa using hone) (by unfold maxLen; omega) (Nat.le_trans (Nat.mul_le_mul hn hB) (by omega)) (Nat.zero_le _)
    have hrun : ∀ cs : Array Bool, ((builtin .append ts o.type cs (#[ρ x, ρ y])).run P w) = .ok (.value v') w' := fun cs => by
      have e : (Builtin.append_ ts o.type #[ρ x, ρ y]).run P w = (Builtin.append_ #[T, T] o.type #[ρ x, .slice A 1 cc]).run P w := by
        rw [hv1]
        simp only [Builtin.append_, ht1, ht2, List.getElem?_toArray, List.getElem?_cons_zero, List.getElem?_cons_succ]
      simp only [builtin, Sem.run_bind, e, r1, Result.andThen_ok, Sem.run_pure]
    have hexec : ((execOp ρ o).run P w) = .ok (.value v') w' := by
      unfold execOp
      have em : (#[x, y] : Array Operand).map ρ = #[ρ x, ρ y] := by simp
      simp only [hop, resolve, invoke, Sem.run_bind, Sem.run_pure, Result.andThen_ok]
      rw [em]
      exact hrun _
    rw [hexec]
    obtain ⟨A', c', e1, e2, e3, e4, e5⟩ := own_value r2
    have hvl : vs.length = LL.length := by have := h4.1; omega
    refine ⟨env.set h ⟨v'.ownBlock.getD 0, 0, 1, v', (env h).rows ++ [undef]⟩, fun q _ hne => Env.set_other _ _ (by rintro rfl; exact hne (by simp)), by simp, ?_, G.change hobh rfl _ r3.size (fun q hq hne => r3.block q hq (fun e => hne (.inl (by rw [hval] at e; exact e.symm)))) ?_ (fun q hq => ?_), (Kin.refl _ w).grown r3 (run_drawn _ _ _ _ _ r1) (fun q hq => by rw [hval] at hq; exact h7 q hq)⟩
    · refine ⟨by simpa using hlt, by rw [Env.set_same], A', c', e1, e2, e3, fun h0 => ?_⟩
      obtain ⟨g, hg⟩ := e5 h0
      obtain ⟨g', q1, q2⟩ := e4 _ hg
      rw [hg, Env.set_same, q2]
      simp only [Addr.mk.injEq, and_true] at q1
      simp [HV.addr, q1]
    · have hbut : EnvBut st.heap.length [h] env (env.set h ⟨v'.ownBlock.getD 0, 0, 1, v', (env h).rows ++ [undef]⟩) := fun q _ hne => Env.set_other _ _ (by rintro rfl; exact hne (by simp))
      have keepb : ∀ q, q < w.heap.size → (env h).val.ownBlock ≠ some q → w'.heap[q]? = w.heap[q]? := fun q hq hne => r3.block q hq (fun e => hne (by rw [hval] at e; exact e.symm))
      refine ⟨rfl, rfl, ⟨by simp [h3.1], by simp⟩, ⟨vs ++ [v], by rw [eO]; simpa using r2, fun j hj => ?_, fun q j c1 hq hc1 => ?_⟩, fun q hq => ?_, fun A1 n1 c1 hA1 => ?_, fun j u l hj hju hl => ?_, fun j k u u' q hjk hj hk hu hu' hb1 hb2 => ?_⟩
      · have hj' : j ≠ LL.length := fun e => hj (by rw [e]; simp)
        rcases Nat.lt_or_ge j LL.length with hl | hl
        · rw [List.getElem?_append_left (by omega), List.getElem?_append_left (by omega)]
          exact h5 j (by simp)
        · rw [List.getElem?_eq_none (by simp; omega), List.getElem?_eq_none (by simp; omega)]
          exact .inl rfl
      · cases q with
        | succ q => simp at hq
        | zero =>
          simp only [List.getElem?_cons_zero, List.map_cons, Option.some.injEq] at hq hc1
          subst hq
          subst hc1
          exact ⟨v, by rw [List.getElem?_append_right (by omega), hvl, Nat.sub_self]; rfl, crel_killed (Nat.le_refl _) hbut hcv⟩
      · rcases r5 with r5 | r5
        · rw [r5, hval] at hq; exact h7 q hq
        · rw [r5] at hq
          simp only [Option.some.injEq] at hq
          exact hM q (by omega)
      · rw [e1] at hA1
        simp only [Value.slice.injEq] at hA1
        obtain ⟨rfl, _, _⟩ := hA1
        obtain ⟨g', q1, q2⟩ := e4 _ rfl
        rw [q2, q1]
        rfl
      · have hj' : j ≠ LL.length := fun e => hj (by rw [e]; simp)
        have hjl : j < LL.length := by
          have := (List.getElem?_eq_some_iff.1 hl).1
          simp at this
          omega
        rw [List.getElem?_append_left (by omega)] at hju hl
        obtain ⟨q1, q2⟩ := h9 j u l (by simp) hju hl
        refine ⟨ownsRow_keep q1 fun c hc => keepb c (own_block_lt q1 hc).2 (q2 c hc).2, fun c hc => ⟨(q2 c hc).1, fun hc2 => ?_⟩⟩
        have hcl := (own_block_lt q1 hc).2
        rcases r5 with r5 | r5
        · have hc2 : v'.ownBlock = some c := hc2
          rw [r5, hval] at hc2
          exact (q2 c hc).2 hc2
        · have hc2 : v'.ownBlock = some c := hc2
          rw [r5] at hc2
          simp only [Option.some.injEq] at hc2
          omega
      · have hj' : j ≠ LL.length := fun e => hj (by rw [e]; simp)
        have hk' : k ≠ LL.length := fun e => hk (by rw [e]; simp)
        have l1 := (List.getElem?_eq_some_iff.1 hu).1
        have l2 := (List.getElem?_eq_some_iff.1 hu').1
        simp only [List.length_append, List.length_singleton] at l1 l2
        rw [List.getElem?_append_left (by omega)] at hu hu'
        exact h10 j k u u' q hjk (by simp) (by simp) hu hu' hb1 hb2
    · rcases hq with hq | ⟨j, u, hu, hj, hq⟩
      · have hq : v'.ownBlock = some q := hq
        rcases r5 with r5 | r5
        · rw [r5, hval] at hq
          exact .inl (.inl hq)
        · rw [r5] at hq
          simp only [Option.some.injEq] at hq
          exact .inr (by omega)
      · have hj' : j ≠ LL.length := fun e => hj (by rw [e]; simp)
        have l1 := (List.getElem?_eq_some_iff.1 hu).1
        simp only [List.length_append, List.length_singleton] at l1
        rw [List.getElem?_append_left (by omega)] at hu
        exact .inl (.inr ⟨j, u, hu, by simp, hq⟩)
  · simp only [List.getElem?_map] at hx
    rw [List.getElem?_set_ne (by omega)] at hx
    obtain ⟨y, hy, rfl⟩ := Option.map_eq_some_iff.1 hx
    rw [own_map] at hxo
    exact ⟨y, hy, hxo⟩
end
end Go.Proofs.YtiolfkmkbccndaaGreatDoor.Sym
end
