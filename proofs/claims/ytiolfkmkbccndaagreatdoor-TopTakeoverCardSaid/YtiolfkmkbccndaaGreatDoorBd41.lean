/- Parts of the proof, one behind the other: Sym51, Sym30, Sym36, Sym52. -/
import Derived.Test.YtiolfkmkbccndaaGreatDoorSym49
import Derived.Test.YtiolfkmkbccndaaGreatDoorBd22
import Derived.Test.YtiolfkmkbccndaaGreatDoorBd35
import Derived.Test.YtiolfkmkbccndaaGreatDoorBd38
section
/- Two summaries of one function, by a test of arguments and objects; a region that draws and ends in a call that writes. -/
namespace Go.Proofs.YtiolfkmkbccndaaGreatDoor.Sym
open Go.RowKit

section
variable {cod : Nat → Codec} {P : Program}
def opsJ : List Item → Array Oper
  | .code (.region _ ops _) :: _ => ops
  | _ => #[]
def idJ : List Item → Nat
  | .code (.region i _ _) :: _ => i
  | _ => 0
def s_iteH (c : List SV → Heap cod → Bool) (s1 s2 : Summ cod) : Summ cod := fun args H => .ite (c args H) (s1 args H) (s2 args H)
theorem SoundIK.iteH {g : FuncId} {kp : Bool} {c : List SV → Heap cod → Bool} {s1 s2 : Summ cod} (h1 : SoundIK P cod g kp s1) (h2 : SoundIK P cod g kp s2) : SoundIK P cod g kp (s_iteH c s1 s2) := by
  refine ⟨h1.enters, fun args H env w vs r H' G ha hg => ?_⟩
  unfold s_iteH at hg
  cases hc : c args H with
  | true => exact h1.calls args H env w vs r H' G ha (hg.1 hc)
  | false => exact h2.calls args H env w vs r H' G ha (hg.2 hc)
theorem Runs.preI {cfg : Cfg cod} (hS : CfgFit cfg) (hm : cfg.P.follows .mixedOrders = true) (cuts : Cuts) {b0 : Base} {fn : Func} {H : Heap cod} {r : SV} {H' : Heap cod} (g : Nat) (hb : b0.n = H.length) {id : Nat} {ops : Array Oper} {L k : List Item} (hL : L = .code (.region id ops true) :: k) {st : St cod} (m : Nat) (nw : List (Option Nat))
    (hc : (decide (m ≤ ops.size) && acyc ops && lastAll ops m && ops.toList.all fun o => o.guard.isNone) = true) {t : T (Fin cod)}
    (ht : ((preT cfg (preA ops m) nw st).bind fun s => (Sym.lexT cfg (ops.toList.drop m) s).bind fun s2 => symI cfg cuts fn.results.toList H g k s2) = t)
    (h : t.wp (Aft cfg.P b0 (EndsI cfg.P fn H r H') r H')) : Runs cfg.P b0 L st (EndsI cfg.P fn H r H') := by
  subst hL
  subst ht
  rw [T.wp_bind] at h
  obtain ⟨s, g1, h⟩ := T.wp_gives h
  rw [T.wp_bind] at h
  obtain ⟨s2, g4, h⟩ := T.wp_gives h
  have hr := Runs.goI hS hm cuts g hb rfl h
  simp only [Bool.and_eq_true, decide_eq_true_eq] at hc
  obtain ⟨⟨⟨c1, c2⟩, c3⟩, c4⟩ := hc
  obtain ⟨⟨q1, q2⟩, q3, q4⟩ := preT_spec g1
  have gn : ∀ o ∈ ops.toList, o.guard = none := fun o ho => by simpa using List.all_eq_true.1 c4 o ho
  have hch : ChainW cfg.P b0 (ops.toList.drop m) s s2 := chain_lexT hS _ s s2 (fun o' ho => gn o' (List.mem_of_mem_drop ho)) g4
  intro b cs a w hR
  have hw := region_pre (id := id) (Q := fun e a' w' => e = .normal ∧ Rel s2 b0 a' w') hS.ok hm m nw c1 c2 c3 gn q1 q2 q4 q3 hch hR (fun a' w' hR' => ⟨rfl, hR'⟩)
  obtain ⟨e, a', w', ⟨rfl, hR'⟩, harr⟩ := hw b k cs
  obtain ⟨x, a'', w'', todo, q1, q2, q3⟩ := hr b cs a' w' hR'
  exact ⟨x, a'', w'', todo, q1, q2, Steps.trans harr q3⟩
theorem Runs.preF {cfg : Cfg cod} (hS : CfgFit cfg) (hm : cfg.P.follows .mixedOrders = true) (cuts : Cuts) {b0 : Base} {fn : Func} {r : SV} {news : Heap cod} (g : Nat) {N : Nat} (hb : b0.n = N) {id : Nat} {ops : Array Oper} {L k : List Item} (hL : L = .code (.region id ops true) :: k) {st : St cod} (m : Nat) (nw : List (Option Nat))
    (hc : (decide (m ≤ ops.size) && acyc ops && lastAll ops m && ops.toList.all fun o => o.guard.isNone) = true) {t : T (Fin cod)}
    (ht : ((preT cfg (preA ops m) nw st).bind fun s => (Sym.lexT cfg (ops.toList.drop m) s).bind fun s2 => symF cfg cuts fn.results.toList N g k s2) = t)
    (h : t.wp (Aft cfg.P b0 (Ends cfg.P fn N r news) r news)) : Runs cfg.P b0 L st (Ends cfg.P fn N r news) := by
  subst hL
  subst ht
  rw [T.wp_bind] at h
  obtain ⟨s, g1, h⟩ := T.wp_gives h
  rw [T.wp_bind] at h
  obtain ⟨s2, g4, h⟩ := T.wp_gives h
  have hr := Runs.go hS hm cuts g hb rfl h
  simp only [Bool.and_eq_true, decide_eq_true_eq] at hc
  obtain ⟨⟨⟨c1, c2⟩, c3⟩, c4⟩ := hc
  obtain ⟨⟨q1, q2⟩, q3, q4⟩ := preT_spec g1
  have gn : ∀ o ∈ ops.toList, o.guard = none := fun o ho => by simpa using List.all_eq_true.1 c4 o ho
  have hch : ChainW cfg.P b0 (ops.toList.drop m) s s2 := chain_lexT hS _ s s2 (fun o' ho => gn o' (List.mem_of_mem_drop ho)) g4
  intro b cs a w hR
  have hw := region_pre (id := id) (Q := fun e a' w' => e = .normal ∧ Rel s2 b0 a' w') hS.ok hm m nw c1 c2 c3 gn q1 q2 q4 q3 hch hR (fun a' w' hR' => ⟨rfl, hR'⟩)
  obtain ⟨e, a', w', ⟨rfl, hR'⟩, harr⟩ := hw b k cs
  obtain ⟨x, a'', w'', todo, q1, q2, q3⟩ := hr b cs a' w' hR'
  exact ⟨x, a'', w'', todo, q1, q2, Steps.trans harr q3⟩
end
end Go.Proofs.YtiolfkmkbccndaaGreatDoor.Sym
end
section
/- A row of rows that is only read: one of its rows laid open. -/
namespace Go.Proofs.YtiolfkmkbccndaaGreatDoor.Sym
open Go.RowKit

section
variable {cod : Nat → Codec}
/-- Row i of the rows of object h as an object of its own, and the cell that leads to it known. -/
def St.open (h i : Nat) (st : St cod) : St cod := match getObj st.heap h with
  | .nin t LL _ => { st with heap := st.heap.set h (.nin t LL (some (i, .slc st.heap.length 0 (LL.getD i []).length false))) ++ [.inp t (LL.getD i [])] }
  | _ => st
theorem open_rel {st : St cod} {b : Base} {a : Act} {w : World} (h i : Nat) {t : Nat} {LL : List (List (cod t).α)} {op : Option (Nat × Cell)} (ho : getObj st.heap h = .nin t LL op) (hi : i < LL.length) (hR : Rel st b a w) : Rel (st.open h i) b a w := by
  have hst : st.open h i = { st with heap := st.heap.set h (.nin t LL (some (i, .slc st.heap.length 0 (LL.getD i []).length false))) ++ [.inp t (LL.getD i [])] } := by
    unfold St.open
    rw [ho]
  rw [hst]
  obtain ⟨env, hF, hd, G, hkin, hK0, hK1, hK2⟩ := hR
  have hob := getObj_obj ho (by simp)
  have hlt : h < st.heap.length := (List.getElem?_eq_some_iff.1 hob).1
  obtain ⟨h1, vs, h2, h3, h4, h5, h6, h7⟩ := G.obj h _ hob
  have hv : vs[i]? = some (vs[i]'(by omega)) := List.getElem?_eq_getElem (by omega)
  generalize vs[i]'(by omega) = v at hv
  have hl : LL[i]? = some (LL.getD i []) := by rw [List.getD, List.getElem?_eq_getElem hi]; rfl
  generalize LL.getD i [] = l at *
  obtain ⟨A, k, e1, e2, e3, e4⟩ := h6 i v l hv hl
  -- where the row lies
  obtain ⟨x, hx, hxe⟩ : ∃ x : HV, (∀ b o, A = some ⟨b, o, none⟩ → x = ⟨b, o, (cod t).size, undef, []⟩) ∧ x.esize = (cod t).size := by
    cases A with
    | none => exact ⟨⟨0, 0, (cod t).size, undef, []⟩, (fun b o e => by cases e), rfl⟩
    | some a => exact ⟨⟨a.block, a.off, (cod t).size, undef, []⟩, (fun b o e => by cases e; rfl), rfl⟩
  have hnew : objRel (env.set st.heap.length x) (st.heap.length + 1) x w b.mine (.inp t l : HObj cod) := by
    refine ⟨hxe, fun j u hu => ?_, fun hne => ?_⟩
    · have hne : l ≠ [] := by
        rintro rfl
        simp [vals] at hu
      obtain ⟨b, o, g1, g2, g3⟩ := e4 hne
      rw [hx b o g1]
      exact g3 j u hu
    · obtain ⟨b, o, g1, g2, g3⟩ := e4 hne
      rw [hx b o g1]
      exact g2
  have hlen : (st.heap.set h (.nin t LL (some (i, .slc st.heap.length 0 l.length false))) ++ [.inp t l] : Heap cod).length = st.heap.length + 1 := by simp
  have heq := Env.set_eq env st.heap.length x
  have cases_ : ∀ (j : Nat) (o : HObj cod), (st.heap.set h (.nin t LL (some (i, .slc st.heap.length 0 l.length false))) ++ [.inp t l] : Heap cod)[j]? = some o → (j ≠ h ∧ j < st.heap.length ∧ st.heap[j]? = some o) ∨ (j = h ∧ o = .nin t LL (some (i, .slc st.heap.length 0 l.length false))) ∨ (j = st.heap.length ∧ o = .inp t l) := fun j o hj => by
    rcases Nat.lt_or_ge j st.heap.length with hl' | hl'
    · rw [List.getElem?_append_left (by simpa using hl')] at hj
      by_cases e : j = h
      · subst e
        rw [List.getElem?_set_self hlt] at hj
        exact .inr (.inl ⟨rfl, (Option.some.inj hj).symm⟩)
      · rw [List.getElem?_set_ne (Ne.symm e)] at hj
        exact .inl ⟨e, hl', hj⟩
    · rw [List.getElem?_append_right (by simpa using hl')] at hj
      simp only [List.length_set] at hj
      have : j - st.heap.length = 0 := by
        rcases Nat.eq_zero_or_pos (j - st.heap.length) with e | e
        · exact e
        · rw [List.getElem?_eq_none (by simp; omega)] at hj; cases hj
      rw [this] at hj
      exact .inr (.inr ⟨by omega, (Option.some.inj hj).symm⟩)
  have hasn : ∀ c, (HObj.inp t l : HObj cod).has x c → (HObj.nin t LL op : HObj cod).has (env h) c := fun c hc => by
    obtain ⟨hne, rfl⟩ := hc
    obtain ⟨b, o, g1, g2, g3⟩ := e4 hne
    have hxb : x.block = b := by rw [hx b o g1]
    refine .inr ⟨vs, h2, v, List.mem_of_getElem? hv, o, l.length, k, ?_, List.length_pos_iff.2 hne⟩
    rw [e1, g1, hxb]
  refine ⟨env.set st.heap.length x, ?_, hd, ⟨fun j o hj => ?_, fun j j' o o' c hne hj hj' hw hc hc' => ?_, G.tab⟩, hkin, fun q hq hn => ?_, ?_, fun q o hq hqo hown => ?_⟩
  · simp only [hlen]
    exact forall2_mono (fun _ _ hr => vrel_mono (by omega) heq hr) hF
  · simp only [hlen]
    rcases cases_ j o hj with ⟨g1, g2, g3⟩ | ⟨rfl, rfl⟩ | ⟨rfl, rfl⟩
    · rw [Env.set_other _ _ (by omega)]
      exact objRel_mono (by omega) heq (G.obj j o g3)
    · rw [Env.set_other _ _ (by omega)]
      refine ⟨h1, vs, h2, h3, h4, h5, h6, fun p hp => ?_⟩
      simp only [Option.some.injEq] at hp
      subst hp
      refine ⟨v, hv, by omega, A, k, e1, e2, e3, (fun e => by cases e), fun hp => ?_⟩
      obtain ⟨b, o, g1, g2, g3⟩ := e4 (List.length_pos_iff.1 hp)
      rw [g1, Env.set_same, hx b o g1]
      simp [HV.addr]
    · rw [Env.set_same]
      exact hnew
  · rcases cases_ j o hj with ⟨g1, g2, g3⟩ | ⟨rfl, rfl⟩ | ⟨rfl, rfl⟩
    · rw [Env.set_other _ _ (by omega)] at hc
      rcases cases_ j' o' hj' with ⟨g1', g2', g3'⟩ | ⟨rfl, rfl⟩ | ⟨rfl, rfl⟩
      · rw [Env.set_other _ _ (by omega)] at hc'
        exact G.sep j j' o o' c hne g3 g3' hw hc hc'
      · rw [Env.set_other _ _ (by omega)] at hc'
        exact G.sep j _ o (.nin t LL op) c hne g3 hob hw hc hc'
      · rw [Env.set_same] at hc'
        exact G.sep j h o (.nin t LL op) c g1 g3 hob hw hc (hasn c hc')
    · cases hw
    · cases hw
  · rw [Env.set_other _ _ (by omega)]
    exact hK0 q hq hn
  · simp only [hlen]
    omega
  · rcases cases_ q o hqo with ⟨g1, g2, g3⟩ | ⟨rfl, rfl⟩ | ⟨rfl, rfl⟩
    · exact hK2 q o hq g3 hown
    · cases hown
    · cases hown
/-- What is known of one of its cells, forgotten. -/
def HObj.shut : HObj cod → HObj cod
  | .nin t LL _ => .nin t LL none
  | o => o
def St.close (k : Nat) (st : St cod) : St cod := { st with heap := st.heap.set k (getObj st.heap k).shut }
theorem close_rel {st : St cod} {b : Base} {a : Act} {w : World} (k : Nat) (hR : Rel st b a w) : Rel (st.close k) b a w := by
  obtain ⟨env, hF, hd, G, hkin, hK0, hK1, hK2⟩ := hR
  have hlen : (st.heap.set k (getObj st.heap k).shut).length = st.heap.length := List.length_set
  have cases_ : ∀ (i : Nat) (o : HObj cod), (st.heap.set k (getObj st.heap k).shut)[i]? = some o → ∃ o0, st.heap[i]? = some o0 ∧ (o = o0 ∨ o = o0.shut) := fun i o h => by
    by_cases e : i = k
    · subst e
      have hl : i < st.heap.length := by
        have := (List.getElem?_eq_some_iff.1 h).1
        rwa [List.length_set] at this
      rw [List.getElem?_set_self hl] at h
      refine ⟨getObj st.heap i, ?_, .inr (Option.some.inj h).symm⟩
      unfold getObj
      rw [List.getD, List.getElem?_eq_getElem hl]
      rfl
    · rw [List.getElem?_set_ne (Ne.symm e)] at h
      exact ⟨o, h, .inl rfl⟩
  have wr_ : ∀ o0 o : HObj cod, (o = o0 ∨ o = o0.shut) → (o.wr = true → o0.wr = true) ∧ (o.isOwn = true → o0.isOwn = true) ∧ ∀ x c, o.has x c → o0.has x c := fun o0 o h => by
    rcases h with rfl | rfl
    · exact ⟨id, id, fun _ _ h => h⟩
    · cases o0 <;> exact ⟨id, id, fun _ _ h => h⟩
  have rel_ : ∀ (o0 : HObj cod) x, objRel env st.heap.length x w b.mine o0 → objRel env st.heap.length x w b.mine o0.shut := fun o0 x h => by
    cases o0 <;> try exact h
    obtain ⟨h1, vs, h2, h3, h4, h5, h6, h7⟩ := h
    exact ⟨h1, vs, h2, h3, h4, h5, h6, fun p hp => by cases hp⟩
  refine ⟨env, by simp only [St.close, hlen]; exact hF, hd, ⟨fun i o h => ?_, fun i j o o' c hne h h' hw hc hc' => ?_, G.tab⟩, hkin, hK0, by simp only [St.close, hlen]; exact hK1, fun i o hi h hown => ?_⟩
  · simp only [St.close, hlen]
    obtain ⟨o0, h0, rfl | rfl⟩ := cases_ i o h
    · exact G.obj i _ h0
    · exact rel_ _ _ (G.obj i _ h0)
  · obtain ⟨o0, h0, e0⟩ := cases_ i o h
    obtain ⟨o0', h0', e0'⟩ := cases_ j o' h'
    exact G.sep i j o0 o0' c hne h0 h0' ((wr_ _ _ e0).1 hw) ((wr_ _ _ e0).2.2 _ _ hc) ((wr_ _ _ e0').2.2 _ _ hc')
  · obtain ⟨o0, h0, e0⟩ := cases_ i o h
    exact hK2 i o0 hi h0 ((wr_ _ _ e0).2.1 hown)
theorem Runs.close {P : Program} {b0 : Base} {k : List Item} {st : St cod} {Q : St cod → Prop} (h : Nat) {st' : St cod} (e : st.close h = st') (hr : Runs P b0 k st' Q) : Runs P b0 k st Q :=
  Runs.weaken (fun a w hR => by rw [← e]; exact close_rel h hR) hr
theorem Runs.open {P : Program} {b0 : Base} {k : List Item} {st : St cod} {Q : St cod → Prop} (h i : Nat) {t : Nat} {LL : List (List (cod t).α)} {op : Option (Nat × Cell)} (ho : getObj st.heap h = .nin t LL op) (hi : i < LL.length) {st' : St cod} (e : st.open h i = st') (hr : Runs P b0 k st' Q) : Runs P b0 k st Q :=
  Runs.weaken (fun a w hR => by rw [← e]; exact open_rel h i ho hi hR) hr
end
end Go.Proofs.YtiolfkmkbccndaaGreatDoor.Sym
end
section
/- A nil slice in a block of the call's own, seen as an own row that has no element; a result's nil slice likewise. -/
namespace Go.Proofs.YtiolfkmkbccndaaGreatDoor.Sym
open Go.RowKit

section
variable {cod : Nat → Codec} {P : Program}
/-- The new object's place. -/
def nilHV (u : Nat) (cod : Nat → Codec) : HV := ⟨0, 0, (cod u).size, .slice none 0 0, []⟩
theorem nil_owns (w : World) (B u : Nat) (ty : TypeId) : w.ownsRow B ty (cod u).size (.slice none 0 0) ([] : List (cod u).α).length (vals (cod u) []) := ⟨by simp [vals], .inl ⟨rfl, rfl⟩⟩
theorem nil_obj (env : Env) (N : Nat) (w : World) (M : Nat → Prop) (u : Nat) (ty : TypeId) : objRel env N (nilHV u cod) w M (.own u [] ty : HObj cod) :=
  own_obj (nil_owns w 0 u ty) (fun b hb => by simp [Value.ownBlock] at hb) env N
theorem nil_has (u : Nat) (ty : TypeId) (b : Nat) : ¬ (HObj.own u [] ty : HObj cod).has (nilHV u cod) b := fun h => by simp [HObj.has, nilHV, Value.ownBlock] at h
theorem nil_cell {env : Env} {N u : Nat} {h : Nat} (hh : h < N) (he : env h = nilHV u cod) : crel env N (.own h 0) (.slice none 0 0) :=
  ⟨hh, by rw [he]; rfl, none, 0, rfl, Nat.le_refl _, Nat.zero_le _, fun h => by omega⟩
/-- Cell i of block k is nil: an own row without an element. -/
def St.made (k i u : Nat) (ty : TypeId) (st : St cod) : St cod := match getObj st.heap k with
  | .blk cs t => { st with heap := st.heap.set k (.blk (cs.set i (.own st.heap.length 0)) t) ++ [.own u [] ty] }
  | _ => st
theorem made_rel {st : St cod} {b : Base} {a : Act} {w : World} (k i u : Nat) (ty : TypeId) {cs : List Cell} {t : TypeId} (ho : getObj st.heap k = .blk cs t) (hi : cs[i]? = some .nil) (hR : Rel st b a w) : Rel (st.made k i u ty) b a w := by
  have hst : st.made k i u ty = { st with heap := st.heap.set k (.blk (cs.set i (.own st.heap.length 0)) t) ++ [.own u [] ty] } := by
    unfold St.made
    rw [ho]
  rw [hst]
  obtain ⟨env, hF, hd, G, hkin, hK0, hK1, hK2⟩ := hR
  have hob := getObj_obj ho (by simp)
  have hlt : k < st.heap.length := (List.getElem?_eq_some_iff.1 hob).1
  obtain ⟨h1, h2, vs, h3, h4⟩ := G.obj k _ hob
  obtain ⟨v, hv, hvn⟩ := f2_get h4 hi
  have hvn : v = .slice none 0 0 := hvn
  subst hvn
  have heq := Env.set_eq env st.heap.length (nilHV u cod)
  have hlen : (st.heap.set k (.blk (cs.set i (.own st.heap.length 0)) t) ++ [.own u [] ty] : Heap cod).length = st.heap.length + 1 := by simp
  have cases_ : ∀ (j : Nat) (o : HObj cod), (st.heap.set k (.blk (cs.set i (.own st.heap.length 0)) t) ++ [.own u [] ty] : Heap cod)[j]? = some o → (j ≠ k ∧ j < st.heap.length ∧ st.heap[j]? = some o) ∨ (j = k ∧ o = .blk (cs.set i (.own st.heap.length 0)) t) ∨ (j = st.heap.length ∧ o = .own u [] ty) := fun j o hj => by
    rcases Nat.lt_or_ge j st.heap.length with hl' | hl'
    · rw [List.getElem?_append_left (by simpa using hl')] at hj
      by_cases e : j = k
      · subst e
        rw [List.getElem?_set_self hlt] at hj
        exact .inr (.inl ⟨rfl, (Option.some.inj hj).symm⟩)
      · rw [List.getElem?_set_ne (Ne.symm e)] at hj
        exact .inl ⟨e, hl', hj⟩
    · rw [List.getElem?_append_right (by simpa using hl')] at hj
      simp only [List.length_set] at hj
      have : j - st.heap.length = 0 := by
        rcases Nat.eq_zero_or_pos (j - st.heap.length) with e | e
        · exact e
        · rw [List.getElem?_eq_none (by simp; omega)] at hj; cases hj
      rw [this] at hj
      exact .inr (.inr ⟨by omega, (Option.some.inj hj).symm⟩)
  refine ⟨env.set st.heap.length (nilHV u cod), ?_, hd, ⟨fun j o hj => ?_, fun j j' o o' c hne hj hj' hw hc hc' => ?_, G.tab⟩, hkin, fun q hq hn => ?_, ?_, fun q o hq hqo hown => ?_⟩
  · simp only [hlen]
    exact forall2_mono (fun _ _ hr => vrel_mono (by omega) heq hr) hF
  · simp only [hlen]
    rcases cases_ j o hj with ⟨g1, g2, g3⟩ | ⟨rfl, rfl⟩ | ⟨rfl, rfl⟩
    · rw [Env.set_other _ _ (by omega)]
      exact objRel_mono (by omega) heq (G.obj j o g3)
    · rw [Env.set_other _ _ (by omega)]
      refine ⟨h1, h2, vs, h3, ?_⟩
      have hm := f2_set (R := crel (env.set st.heap.length (nilHV u cod)) (st.heap.length + 1)) (nil_cell (u := u) (cod := cod) (h := st.heap.length) (by omega) (Env.set_same _ _ _)) i (crels_mono (by omega) heq h4)
      have e : vs.set i (.slice none 0 0) = vs := by
        obtain ⟨hl, hx⟩ := List.getElem?_eq_some_iff.1 hv
        rw [← hx]
        exact List.set_getElem_self hl
      rw [e] at hm
      exact hm
    · rw [Env.set_same]
      exact nil_obj _ _ _ _ _ _
  · rcases cases_ j o hj with ⟨g1, g2, g3⟩ | ⟨rfl, rfl⟩ | ⟨rfl, rfl⟩
    · rw [Env.set_other _ _ (by omega)] at hc
      rcases cases_ j' o' hj' with ⟨g1', g2', g3'⟩ | ⟨rfl, rfl⟩ | ⟨rfl, rfl⟩
      · rw [Env.set_other _ _ (by omega)] at hc'
        exact G.sep j j' o o' c hne g3 g3' hw hc hc'
      · rw [Env.set_other _ _ (by omega)] at hc'
        exact G.sep j _ o (.blk cs t) c hne g3 hob hw hc hc'
      · rw [Env.set_same] at hc'
        exact nil_has _ _ _ hc'
    · rw [Env.set_other _ _ (by omega)] at hc
      rcases cases_ j' o' hj' with ⟨g1', g2', g3'⟩ | ⟨rfl, rfl⟩ | ⟨rfl, rfl⟩
      · rw [Env.set_other _ _ (by omega)] at hc'
        exact G.sep j j' (.blk cs t) o' c hne hob g3' rfl hc hc'
      · exact absurd rfl hne
      · rw [Env.set_same] at hc'
        exact nil_has _ _ _ hc'
    · rw [Env.set_same] at hc
      exact nil_has _ _ _ hc
  · rw [Env.set_other _ _ (by omega)]
    exact hK0 q hq hn
  · simp only [hlen]
    omega
  · rcases cases_ q o hqo with ⟨g1, g2, g3⟩ | ⟨rfl, rfl⟩ | ⟨rfl, rfl⟩
    · exact hK2 q o hq g3 hown
    · cases hown
    · omega
theorem Runs.made {b0 : Base} {k : List Item} {st : St cod} {Q : St cod → Prop} (h i u : Nat) (ty : TypeId) {cs : List Cell} {t : TypeId} (ho : getObj st.heap h = .blk cs t) (hi : cs[i]? = some .nil) {st' : St cod} (e : st.made h i u ty = st') (hr : Runs P b0 k st' Q) : Runs P b0 k st Q :=
  Runs.weaken (fun a w hR => by rw [← e]; exact made_rel h i u ty ho hi hR) hr
/-- The nil slices of a result as the own row N. -/
def Cell.made (N : Nat) : Cell → Cell
  | .nil => .own N 0
  | c => c
theorem Sound.made {g : FuncId} {s1 s2 s : Summ cod} (h1 : Sound P cod g s1) (h2 : Sound P cod g s2) (u : Nat) (ty : TypeId)
    (hs : ∀ (args : List SV) (H : Heap cod) (r : SV) (news : Heap cod), (s args H).gives (r, news) → (s1 args H).gives (r, news) ∨ ∃ r0, (s2 args H).gives (r0, []) ∧ r = r0.mapC (Cell.made H.length) ∧ news = [.own u [] ty]) : Sound P cod g s := by
  refine ⟨h1.enters, fun args H env w vs r news hro G ha hg => ?_⟩
  rcases hs args H r news hg with hg1 | ⟨r0, hg2, rfl, rfl⟩
  · exact h1.calls args H env w vs r news hro G ha hg1
  · refine (h2.calls args H env w vs r0 [] hro G ha hg2).mono ?_
    rintro e w' ⟨v, env', rfl, heq, hv, hgd, hb⟩
    have he2 := Env.set_eq env' H.length (nilHV u cod)
    refine ⟨v, env'.set H.length (nilHV u cod), rfl, heq.trans he2, ?_, ?_, hb⟩
    · refine vrel_map (f := Cell.made H.length) (fun c v hc => ?_) hv
      cases c with
      | nil =>
        have hc : v = .slice none 0 0 := hc
        subst hc
        exact nil_cell (u := u) (cod := cod) (by simp) (Env.set_same _ _ _)
      | _ => exact crel_mono (by simp) he2 hc
    · rw [List.append_nil] at hgd
      exact hgd.push _ _ (Nat.le_refl _) (fun _ _ => rfl) (nil_obj _ _ _ _ _ _) (fun b hb => absurd hb (nil_has _ _ _))
end
end Go.Proofs.YtiolfkmkbccndaaGreatDoor.Sym
end
section
/- A nil slice in a slot: an own row without elements. -/
namespace Go.Proofs.YtiolfkmkbccndaaGreatDoor.Sym
open Go.RowKit

section
variable {cod : Nat → Codec}
def St.madeS (d t : Nat) (ty : TypeId) (st : St cod) : St cod := { tmps := st.tmps.set d (.c (.own st.heap.length 0)), heap := st.heap ++ [.own t [] ty] }
theorem madeS_rel {st : St cod} {b : Base} {a : Act} {w : World} (d t : Nat) (ty : TypeId) (hd0 : st.tmps[d]? = some (.c .nil)) (hR : Rel st b a w) : Rel (st.madeS d t ty) b a w := by
  obtain ⟨env, hF, hd, G, hkin, hK0, hK1, hK2⟩ := hR
  have heq := Env.set_eq env st.heap.length (⟨0, 0, (cod t).size, .slice none 0 0, []⟩ : HV)
  have hob : objRel (env.set st.heap.length ⟨0, 0, (cod t).size, .slice none 0 0, []⟩) (st.heap.length + 1) ⟨0, 0, (cod t).size, .slice none 0 0, []⟩ w b.mine (.own t [] ty : HObj cod) := by
    refine ⟨rfl, rfl, ⟨by simp [vals], .inl ⟨rfl, rfl⟩⟩, fun b hb => by simp [Value.ownBlock] at hb, fun A n c h => by simp at h⟩
  have G' := G.push ⟨0, 0, (cod t).size, .slice none 0 0, []⟩ (.own t [] ty) (Nat.le_refl _) (fun _ _ => rfl) hob (fun c hc => by
    have hc : (Value.slice none 0 0).ownBlock = some c := hc
    simp [Value.ownBlock] at hc)
  refine ⟨env.set st.heap.length ⟨0, 0, (cod t).size, .slice none 0 0, []⟩, ?_, hd, by simpa [St.madeS] using G', hkin, fun h h1 h2 => ?_, ?_, fun h o h1 hj hown => ?_⟩
  · have hlen : (st.madeS d t ty).heap.length = st.heap.length + 1 := by simp [St.madeS]
    rw [hlen]
    obtain ⟨v, hv, hvr⟩ := f2_get hF hd0
    have hvn : v = .slice none 0 0 := hvr
    subst hvn
    have hF' := forall2_mono (fun _ _ hr => vrel_mono (N' := st.heap.length + 1) (by omega) heq hr) hF
    have hc : vrel (env.set st.heap.length ⟨0, 0, (cod t).size, .slice none 0 0, []⟩) (st.heap.length + 1) (.c (.own st.heap.length 0)) (.slice none 0 0) := by
      refine ⟨by omega, by rw [Env.set_same], none, 0, rfl, Nat.le_refl _, Nat.zero_le _, fun h => by omega⟩
    have hs := f2_set hc d hF'
    have e : a.tmps.toList.set d (.slice none 0 0) = a.tmps.toList := by
      obtain ⟨hl, hx⟩ := List.getElem?_eq_some_iff.1 hv
      rw [← hx]
      exact List.set_getElem_self hl
    rw [e] at hs
    exact hs
  · rw [Env.set_other _ _ (by omega)]
    exact hK0 h h1 h2
  · simp only [St.madeS, List.length_append, List.length_singleton]
    omega
  · simp only [St.madeS] at hj
    rw [List.getElem?_append_left (by omega)] at hj
    exact hK2 h o h1 hj hown
theorem Runs.madeS {P : Program} {b0 : Base} {kk : List Item} {st : St cod} {Q : St cod → Prop} (d t : Nat) (ty : TypeId) (h : st.tmps[d]? = some (.c .nil)) {st' : St cod} (e : st.madeS d t ty = st') (hr : Runs P b0 kk st' Q) : Runs P b0 kk st Q :=
  Runs.weaken (fun a w hR => by rw [← e]; exact madeS_rel d t ty h hR) hr
end
end Go.Proofs.YtiolfkmkbccndaaGreatDoor.Sym
end
