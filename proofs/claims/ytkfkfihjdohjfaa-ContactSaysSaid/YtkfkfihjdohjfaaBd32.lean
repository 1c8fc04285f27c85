/- Parts of the proof, one behind the other: Sym35, Sym29. -/
import Derived.Test.YtkfkfihjdohjfaaBd23
section
/- Rows that the call owns, told by kind and type; small helpers for writing summaries. -/
namespace Go.Proofs.Ytkfkfihjdohjfaa.Sym
open Go.RowKit

section
variable {cod : Nat → Codec} {P : Program}
/-- A row of kind t that the call owns. -/
def HObj.asOwn (t : Nat) (ty : TypeId) : HObj cod → Option (List (cod t).α)
  | .own u l ty' => if h : u = t then (if ty' = ty then some (h ▸ l) else none) else none
  | _ => none
theorem asOwn_spec {t : Nat} {ty : TypeId} {o : HObj cod} {l : List (cod t).α} (h : o.asOwn t ty = some l) : o = .own t l ty := by
  unfold HObj.asOwn at h
  split at h
  · split at h
    · rename_i e
      subst e
      split at h
      · rename_i e
        subst e
        cases h
        rfl
      · cases h
    · cases h
  · cases h
/-- A row of kind t in an array. -/
def HObj.asArr (t : Nat) (ty : TypeId) : HObj cod → Option (List (cod t).α)
  | .arr u l ty' => if h : u = t then (if ty' = ty then some (h ▸ l) else none) else none
  | _ => none
theorem asArr_spec {t : Nat} {ty : TypeId} {o : HObj cod} {l : List (cod t).α} (h : o.asArr t ty = some l) : o = .arr t l ty := by
  unfold HObj.asArr at h
  split at h
  · split at h
    · rename_i e
      subst e
      split at h
      · rename_i e
        subst e
        cases h
        rfl
      · cases h
    · cases h
  · cases h
/-- One function, two summaries, by what its arguments look like. -/
def s_by (p : List SV → Bool) (s1 s2 : Summ cod) : Summ cod := fun args H => cond (p args) (s1 args H) (s2 args H)
theorem Sound.by_ {g : FuncId} (p : List SV → Bool) {s1 s2 : Summ cod} (h1 : Sound P cod g s1) (h2 : Sound P cod g s2) : Sound P cod g (s_by p s1 s2) := by
  refine ⟨h1.enters, fun args H env w vs r news hro G ha hg => ?_⟩
  unfold s_by at hg
  cases hc : p args with
  | true => rw [hc] at hg; exact h1.calls args H env w vs r news hro G ha hg
  | false => rw [hc] at hg; exact h2.calls args H env w vs r news hro G ha hg
theorem SoundI.by_ {g : FuncId} (p : List SV → Bool) {s1 s2 : Summ cod} (h1 : SoundI P cod g s1) (h2 : SoundI P cod g s2) : SoundI P cod g (s_by p s1 s2) := by
  refine ⟨h1.enters, fun args H env w vs r H' G ha hg => ?_⟩
  unfold s_by at hg
  cases hc : p args with
  | true => rw [hc] at hg; exact h1.calls args H env w vs r H' G ha hg
  | false => rw [hc] at hg; exact h2.calls args H env w vs r H' G ha hg
/-- The first argument is a row that the call owns. -/
def ownFirst : List SV → Bool
  | .c (.own _ _) :: _ => true
  | _ => false
end
end Go.Proofs.Ytkfkfihjdohjfaa.Sym
end
section
/- Objects under other numbers: a state's rows put into another order, some left out. -/
namespace Go.Proofs.Ytkfkfihjdohjfaa.Sym
open Go.RowKit

section
variable {cod : Nat → Codec}
/-- A cell's references by their places in a list; none where one is not there. -/
def Cell.pick (hs : List Nat) (c : Cell) : Cell := if c.hs.all (fun h => hs.contains h) then c.ren (fun h => hs.idxOf h) else .junk
/-- The objects hs, in this order, and nothing else. -/
def St.pick (hs : List Nat) (st : St cod) : St cod := { tmps := st.tmps.map (SV.mapC (Cell.pick hs)), heap := hs.map fun h => (getObj st.heap h).mapC (Cell.pick hs) }
theorem crel_pick {env : Env} {N : Nat} {hs : List Nat} {c : Cell} {v : Value} (h : crel env N c v) : crel (fun i => env (hs.getD i 0)) hs.length (c.pick hs) v := by
  unfold Cell.pick
  split
  · rename_i hc
    have hmem : ∀ k ∈ c.hs, k ∈ hs := fun k hk => by simpa using List.all_eq_true.1 hc k hk
    have e1 : ∀ k, k ∈ hs → hs.idxOf k < hs.length ∧ hs.getD (hs.idxOf k) 0 = k := fun k hk => by
      have := List.idxOf_lt_length_iff.2 hk
      exact ⟨this, by rw [List.getD, List.getElem?_eq_getElem this]; simp⟩
    cases c <;> simp only [crel, Cell.ren, Cell.hs] at * <;> try exact h
    case ptr k i o =>
      obtain ⟨a, b⟩ := e1 k (hmem k (by simp))
      exact ⟨a, by rw [b]; exact h.2⟩
    case slc k i n t =>
      obtain ⟨a, b⟩ := e1 k (hmem k (by simp))
      exact ⟨a, by rw [b]; exact h.2⟩
    case own k n =>
      obtain ⟨a, b⟩ := e1 k (hmem k (by simp))
      exact ⟨a, by rw [b]; exact h.2⟩
    case fn f caps =>
      obtain ⟨h1, h2⟩ := h
      refine ⟨fun c hc' => ?_, ?_⟩
      · obtain ⟨d, hd, rfl⟩ := List.mem_map.1 hc'
        exact (e1 d.1 (hmem _ (List.mem_map.2 ⟨d, hd, rfl⟩))).1
      · rw [h2]
        congr 2
        rw [List.map_map]
        refine List.map_congr_left fun d hd => ?_
        simp only [Function.comp]
        rw [(e1 d.1 (hmem _ (List.mem_map.2 ⟨d, hd, rfl⟩))).2]
  · trivial
theorem pick_rel {st : St cod} {b : Base} {a : Act} {w : World} (hs : List Nat) (hn : hs.Nodup) (hlt : ∀ h ∈ hs, h < st.heap.length) (hb : ∀ i, i < b.n → hs[i]? = some i) (hR : Rel st b a w) : Rel (st.pick hs) b a w := by
  obtain ⟨env, hF, hd, G, hk, hK0, hK1, hK2⟩ := hR
  have hlen : (st.pick hs).heap.length = hs.length := by simp [St.pick]
  have get : ∀ (k : Nat) (o : HObj cod), (st.pick hs).heap[k]? = some o → k < hs.length ∧ st.heap[hs.getD k 0]? = some (getObj st.heap (hs.getD k 0)) ∧ o = (getObj st.heap (hs.getD k 0)).mapC (Cell.pick hs) := fun k o ho => by
    simp only [St.pick, List.getElem?_map] at ho
    obtain ⟨h, h1, rfl⟩ := Option.map_eq_some_iff.1 ho
    have hk := (List.getElem?_eq_some_iff.1 h1).1
    have e : hs.getD k 0 = h := by rw [List.getD, h1]; rfl
    rw [e]
    have := hlt h (List.mem_of_getElem? h1)
    exact ⟨hk, by unfold getObj; rw [List.getD, List.getElem?_eq_getElem this]; rfl, rfl⟩
  have inj : ∀ i j, i < hs.length → j < hs.length → hs.getD i 0 = hs.getD j 0 → i = j := fun i j hi hj e => by
    rw [List.getD, List.getD, List.getElem?_eq_getElem hi, List.getElem?_eq_getElem hj] at e
    simp only [Option.getD_some] at e
    have hp := List.pairwise_iff_getElem.1 hn
    rcases Nat.lt_trichotomy i j with h | h | h
    · exact absurd e (hp i j hi hj h)
    · exact h
    · exact absurd e.symm (hp j i hj hi h)
  have hbn : ∀ i, i < b.n → i < hs.length ∧ hs.getD i 0 = i := fun i hi => by
    have := hb i hi
    exact ⟨(List.getElem?_eq_some_iff.1 this).1, by rw [List.getD, this]; rfl⟩
  refine ⟨fun i => env (hs.getD i 0), ?_, hd, ⟨fun k o ho => ?_, fun k k' o o' c hne ho ho' hw hc hc' => ?_, G.tab⟩, hk, fun h h1 h2 => ?_, ?_, fun h o h1 ho hown => ?_⟩
  · rw [hlen]
    exact f2_map_mem (R := vrel env st.heap.length) (fun x _ v hv => vrel_map (fun c v hc => crel_pick hc) hv) hF
  · obtain ⟨h1, h2, rfl⟩ := get k o ho
    rw [hlen]
    exact objRel_map (fun c v hc => crel_pick hc) (G.obj _ _ h2)
  · obtain ⟨h1, h2, rfl⟩ := get k o ho
    obtain ⟨h1', h2', rfl⟩ := get k' o' ho'
    rw [has_map] at hc hc'
    rw [wr_map] at hw
    exact G.sep _ _ _ _ c (fun e => hne (inj k k' h1 h1' e)) h2 h2' hw hc hc'
  · simp only [(hbn h h1).2]
    exact hK0 h h1 h2
  · rw [hlen]
    rcases Nat.eq_zero_or_pos b.n with e | e
    · omega
    · have := (hbn (b.n - 1) (by omega)).1
      omega
  · obtain ⟨h2, h3, rfl⟩ := get h o ho
    rw [own_map] at hown
    rw [(hbn h h1).2] at h3 hown
    exact hK2 h _ h1 h3 hown
/-- From the picked state on. -/
theorem Runs.pick {P : Program} {b0 : Base} {k : List Item} {st : St cod} {Q : St cod → Prop} (hs : List Nat) (hn : hs.Nodup) (hlt : ∀ h ∈ hs, h < st.heap.length) (hb : ∀ i, i < b0.n → hs[i]? = some i) {st' : St cod} (e : st.pick hs = st') (hr : Runs P b0 k st' Q) : Runs P b0 k st Q :=
  Runs.weaken (fun a w hR => by rw [← e]; exact pick_rel hs hn hlt hb hR) hr

/-! ### a value said more weakly: an own row as a slice -/
def Cell.asSl : Cell → Cell
  | .own h n => .slc h 0 n false
  | .slc h i n _ => .slc h i n false
  | c => c
theorem crel_asSl {env : Env} {N : Nat} {c : Cell} {v : Value} (h : crel env N c v) : crel env N c.asSl v := by
  cases c <;> simp only [crel, Cell.asSl] at * <;> try exact h
  case own k n =>
    obtain ⟨h1, h2, A, c, h3, h4, h5, h6⟩ := h
    exact ⟨h1, A, c, h3, h4, h5, (fun h => by cases h), h6⟩
  case slc k i n t =>
    obtain ⟨h1, A, c, h3, h4, h5, h6, h7⟩ := h
    exact ⟨h1, A, c, h3, h4, h5, (fun h => by cases h), h7⟩
/-- Slot d's own row as a slice that is only read. -/
def St.soft (d : Nat) (st : St cod) : St cod := { st with tmps := st.tmps.set d ((st.tmps.getD d (.c .junk)).mapC Cell.asSl) }
theorem soft_rel {st : St cod} {b : Base} {a : Act} {w : World} (d : Nat) (hR : Rel st b a w) : Rel (st.soft d) b a w := by
  obtain ⟨env, hF, hd, G, hk⟩ := hR
  refine ⟨env, ?_, hd, G, hk⟩
  have h1 : vrel env st.heap.length ((st.tmps.getD d (.c .junk)).mapC Cell.asSl) (a.tmps.toList.getD d undef) := vrel_map (fun c v hc => crel_asSl hc) (f2_getD (R := vrel env st.heap.length) (da := .c .junk) (db := undef) trivial hF d)
  have h2 := f2_set (R := vrel env st.heap.length) h1 d hF
  have h3 : a.tmps.toList.set d (a.tmps.toList.getD d undef) = a.tmps.toList := by
    rcases Nat.lt_or_ge d a.tmps.toList.length with h | h
    · rw [List.getD, List.getElem?_eq_getElem h]
      exact List.set_getElem_self h
    · rw [List.set_eq_of_length_le h]
  rw [h3] at h2
  exact h2
theorem Runs.soft {P : Program} {b0 : Base} {k : List Item} {st : St cod} {Q : St cod → Prop} (d : Nat) {st' : St cod} (e : st.soft d = st') (hr : Runs P b0 k st' Q) : Runs P b0 k st Q :=
  Runs.weaken (fun a w hR => by rw [← e]; exact soft_rel d hR) hr
/-! ### a row that is only read, cut short -/
def St.trim (k : Nat) (n : Nat) (st : St cod) : St cod := match getObj st.heap k with
  | .inp u l => { st with heap := st.heap.set k (.inp u (l.take n)) }
  | _ => st
theorem trim_rel {st : St cod} {b : Base} {a : Act} {w : World} (k n : Nat) (hR : Rel st b a w) : Rel (st.trim k n) b a w := by
  unfold St.trim
  split
  · rename_i u l ho
    have hob := getObj_obj ho (by simp)
    have hk : k < st.heap.length := (List.getElem?_eq_some_iff.1 hob).1
    obtain ⟨env, hF, hd, G, hkin, hK0, hK1, hK2⟩ := hR
    have hlen : (st.heap.set k (.inp u (l.take n))).length = st.heap.length := List.length_set
    have cases_ : ∀ (i : Nat) (o : HObj cod), (st.heap.set k (.inp u (l.take n)))[i]? = some o → (i = k ∧ o = .inp u (l.take n)) ∨ st.heap[i]? = some o := fun i o h => by
      by_cases e : i = k
      · subst e
        rw [List.getElem?_set_self hk] at h
        exact .inl ⟨rfl, (Option.some.inj h).symm⟩
      · rw [List.getElem?_set_ne (Ne.symm e)] at h
        exact .inr h
    have hv : vals (cod u) l = vals (cod u) (l.take n) ++ vals (cod u) (l.drop n) := by rw [← vals_append, List.take_append_drop]
    refine ⟨env, by simp only [hlen]; exact hF, hd, ⟨fun i o h => ?_, fun i j o o' c hne h h' hw hc hc' => ?_, G.tab⟩, hkin, hK0, by simp only [hlen]; exact hK1, fun i o hi h hown => ?_⟩
    · simp only [hlen]
      rcases cases_ i o h with ⟨rfl, rfl⟩ | h
      · obtain ⟨g1, g2, g3⟩ := G.obj i _ hob
        refine ⟨g1, fun j q hq => g2 j q ?_, fun hne => g3 fun e => hne (by rw [e]; simp)⟩
        rw [hv, List.getElem?_append_left (List.getElem?_eq_some_iff.1 hq).1]
        exact hq
      · exact G.obj i o h
    · rcases cases_ i o h with ⟨rfl, rfl⟩ | g
      · simp [HObj.wr] at hw
      · rcases cases_ j o' h' with ⟨rfl, rfl⟩ | g'
        · refine G.sep i j o _ c hne g hob hw hc ⟨fun e => hc'.1 (by rw [e]; simp), hc'.2⟩
        · exact G.sep i j o o' c hne g g' hw hc hc'
    · rcases cases_ i o h with ⟨rfl, rfl⟩ | h
      · cases hown
      · exact hK2 i o hi h hown
  · exact hR
theorem Runs.trim {P : Program} {b0 : Base} {k : List Item} {st : St cod} {Q : St cod → Prop} (h n : Nat) {st' : St cod} (e : st.trim h n = st') (hr : Runs P b0 k st' Q) : Runs P b0 k st Q :=
  Runs.weaken (fun a w hR => by rw [← e]; exact trim_rel h n hR) hr
/-! ### a row seen as one that is only read -/
def HObj.seen : HObj cod → HObj cod
  | .own u l _ => .inp u l
  | .arr u l _ => .inp u l
  | o => o
def St.view (k : Nat) (st : St cod) : St cod := { st with heap := st.heap.set k (getObj st.heap k).seen }
theorem objRel_seen {env : Env} {N : Nat} {x : HV} {w : World} {M : Nat → Prop} {o : HObj cod} (h : objRel env N x w M o) : objRel env N x w M o.seen ∧ ∀ b, o.seen.has x b → o.has x b := by
  cases o with
  | arr t l ty =>
    obtain ⟨h1, h2⟩ := row_reads (ty := ty) h (.inl rfl)
    exact ⟨⟨h1, h2, fun _ => objRel_has_lt h (b := x.block) rfl⟩, fun b hb => hb.2⟩
  | own t l ty =>
    obtain ⟨h1, h2⟩ := row_reads h (.inr (.inl rfl))
    have key : l ≠ [] → x.val.ownBlock = some x.block := fun hl => by
      obtain ⟨_, _, g3, _, g5⟩ := h
      rcases g3.2 with ⟨hv, hn⟩ | ⟨g, cap, cur, hv, hb, hg, _⟩
      · exact absurd (List.eq_nil_of_length_eq_zero hn) hl
      · have e := g5 _ _ _ hv
        simp only [Addr.mk.injEq, and_true] at e
        rw [hv, ← e]
        rfl
    exact ⟨⟨h1, h2, fun hl => objRel_has_lt h (b := x.block) (key hl)⟩, fun b hb => by rw [hb.2]; exact key hb.1⟩
  | _ => exact ⟨h, fun _ hb => hb⟩
theorem view_rel {st : St cod} {b : Base} {a : Act} {w : World} (k : Nat) (hR : Rel st b a w) : Rel (st.view k) b a w := by
  obtain ⟨env, hF, hd, G, hkin, hK0, hK1, hK2⟩ := hR
  have hlen : (st.heap.set k (getObj st.heap k).seen).length = st.heap.length := List.length_set
  have cases_ : ∀ (i : Nat) (o : HObj cod), (st.heap.set k (getObj st.heap k).seen)[i]? = some o → ∃ o0, st.heap[i]? = some o0 ∧ (o = o0 ∨ o = o0.seen) := fun i o h => by
    by_cases e : i = k
    · subst e
      have hl : i < st.heap.length := by
        have := (List.getElem?_eq_some_iff.1 h).1
        rwa [List.length_set] at this
      rw [List.getElem?_set_self hl] at h
      refine ⟨getObj st.heap i, ?_, .inr (Option.some.inj h).symm⟩
      unfold getObj
      rw [List.getD, List.getElem?_eq_getElem hl]
      rfl
    · rw [List.getElem?_set_ne (Ne.symm e)] at h
      exact ⟨o, h, .inl rfl⟩
  have wr_ : ∀ o0 o : HObj cod, (o = o0 ∨ o = o0.seen) → (o.wr = true → o0.wr = true) ∧ (o.isOwn = true → o0.isOwn = true) := fun o0 o h => by
    rcases h with rfl | rfl
    · exact ⟨id, id⟩
    · cases o0 <;> simp [HObj.seen, HObj.wr, HObj.isOwn]
  refine ⟨env, by simp only [St.view, hlen]; exact hF, hd, ⟨fun i o h => ?_, fun i j o o' c hne h h' hw hc hc' => ?_, G.tab⟩, hkin, hK0, by simp only [St.view, hlen]; exact hK1, fun i o hi h hown => ?_⟩
  · simp only [St.view, hlen]
    obtain ⟨o0, h0, rfl | rfl⟩ := cases_ i o h
    · exact G.obj i _ h0
    · exact (objRel_seen (G.obj i _ h0)).1
  · obtain ⟨o0, h0, e0⟩ := cases_ i o h
    obtain ⟨o0', h0', e0'⟩ := cases_ j o' h'
    refine G.sep i j o0 o0' c hne h0 h0' ((wr_ _ _ e0).1 hw) ?_ ?_
    · rcases e0 with rfl | rfl
      · exact hc
      · exact (objRel_seen (G.obj i _ h0)).2 c hc
    · rcases e0' with rfl | rfl
      · exact hc'
      · exact (objRel_seen (G.obj j _ h0')).2 c hc'
  · obtain ⟨o0, h0, e0⟩ := cases_ i o h
    exact hK2 i o0 hi h0 ((wr_ _ _ e0).2 hown)
theorem Runs.view {P : Program} {b0 : Base} {k : List Item} {st : St cod} {Q : St cod → Prop} (h : Nat) {st' : St cod} (e : st.view h = st') (hr : Runs P b0 k st' Q) : Runs P b0 k st Q :=
  Runs.weaken (fun a w hR => by rw [← e]; exact view_rel h hR) hr
theorem Runs.turn {P : Program} {b0 : Base} {k : List Item} {st : St cod} {Q : St cod → Prop} (hs : List Nat) (d : Nat) {N : Nat} (hb : b0.n = N) (h1 : hs.Nodup) (h2 : (hs.all fun h => decide (h < st.heap.length)) = true) (h3 : ((List.range N).all fun i => hs[i]? == some i) = true) {st' : St cod} (e : (st.pick hs).soft d = st') (hr : Runs P b0 k st' Q) : Runs P b0 k st Q :=
  Runs.pick hs h1 (fun h hh => by simpa using List.all_eq_true.1 h2 h hh) (fun i hi => by simpa using List.all_eq_true.1 h3 i (by rw [← hb]; simpa using hi)) rfl (Runs.soft d e hr)
/-! ### the same config, with appends that add nothing -/
def Cfg.maybe (cfg : Cfg cod) : Cfg cod := { cfg with empB := true }
theorem CfgFit.maybe {cfg : Cfg cod} (h : CfgFit cfg) : CfgFit cfg.maybe := ⟨h.1, h.2.1, h.2.2⟩
def Cfg.empty (cfg : Cfg cod) : Cfg cod := { cfg with emp := true }
theorem CfgFit.empty {cfg : Cfg cod} (h : CfgFit cfg) : CfgFit cfg.empty := ⟨h.1, h.2.1, h.2.2⟩
end
end Go.Proofs.Ytkfkfihjdohjfaa.Sym
end
