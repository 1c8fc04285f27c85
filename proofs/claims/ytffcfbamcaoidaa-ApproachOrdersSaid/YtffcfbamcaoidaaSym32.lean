/- A writing summary at rows that are only read: the caller's own rows in their stead. -/
import Derived.Test.YtffcfbamcaoidaaSym29
namespace Go.Proofs.Ytffcfbamcaoidaa.Sym
open Go.RowKit

section
variable {cod : Nat → Codec} {P : Program}
/-- The objects ks seen as rows that are only read. -/
def viewH (ks : List Nat) (H : Heap cod) : Heap cod := (List.range H.length).map fun i => if ks.contains i then (getObj H i).seen else getObj H i
def viewC (ks : List Nat) : Cell → Cell
  | .own h n => if ks.contains h then .slc h 0 n false else .own h n
  | c => c
/-- What comes back: the rows that were only read as they were. -/
def backH (ks : List Nat) (H H' : Heap cod) : Heap cod := (List.range H'.length).map fun i => if ks.contains i && (decide (i < H.length) && (getObj H i).isRow) then getObj H i else getObj H' i
/-- The summary s, that takes the objects ks as rows that are only read, at rows that the caller owns. -/
def liftS (ks : List Nat) (s : Summ cod) : Summ cod := fun args H => (s (args.map (SV.mapC (viewC ks))) (viewH ks H)).bind fun r =>
  if (H.length ≤ r.2.length ∧ (r.2.drop H.length).all HObj.wr = true) ∧ ((List.range H.length).all fun i => !(getObj H i).wr || (getObj r.2 i).wr || (ks.contains i && (getObj H i).isRow)) = true then .ret (r.1, backH ks H r.2) else .fail
theorem viewH_length (ks : List Nat) (H : Heap cod) : (viewH ks H).length = H.length := by simp [viewH]
theorem viewH_get {ks : List Nat} {H : Heap cod} {i : Nat} {o : HObj cod} (h : (viewH ks H)[i]? = some o) : i < H.length ∧ H[i]? = some (getObj H i) ∧ o = if ks.contains i then (getObj H i).seen else getObj H i := by
  have hi : i < H.length := by
    have := (List.getElem?_eq_some_iff.1 h).1
    rwa [viewH_length] at this
  unfold viewH at h
  rw [List.getElem?_map, List.getElem?_range hi] at h
  simp only [Option.map_some, Option.some.injEq] at h
  refine ⟨hi, ?_, h.symm⟩
  unfold getObj
  rw [List.getD, List.getElem?_eq_getElem hi]
  rfl
theorem seen_wr {o : HObj cod} (h : o.seen.wr = true) : o.seen = o ∧ o.isRow = false := by
  cases o <;> simp [HObj.seen, HObj.wr] at h <;> exact ⟨rfl, rfl⟩
theorem crel_viewC {env : Env} {N : Nat} {ks : List Nat} {c : Cell} {v : Value} (h : crel env N c v) : crel env N (viewC ks c) v := by
  unfold viewC
  split
  · split
    · exact crel_asSl h
    · exact h
  · exact h
theorem row_no_env {env env' : Env} {N N' : Nat} {x : HV} {w : World} {M : Nat → Prop} {o : HObj cod} (h : o.isRow = true) (ho : objRel env N x w M o) : objRel env' N' x w M o := row_env h ho
theorem lift_soundI {g : FuncId} {kp : Bool} {s : Summ cod} (ks : List Nat) (hs : SoundIK P cod g kp s) : SoundIK P cod g kp (liftS ks s) := by
  refine ⟨hs.enters, fun args H env w vs r H' G ha hg => ?_⟩
  unfold liftS at hg
  rw [T.gives_bind] at hg
  obtain ⟨⟨r0, H2⟩, hg0, hg⟩ := hg
  simp only at hg
  split at hg
  rotate_left 1
  · exact hg.elim
  rename_i hc
  obtain ⟨⟨hlen, hnew⟩, hwr⟩ := hc
  rw [T.gives_ret] at hg
  simp only [Prod.mk.injEq] at hg
  obtain ⟨rfl, rfl⟩ := hg
  -- what may be written when the rows are only read
  have sub : ∀ b, mineOf (viewH ks H) env w b → mineOf H env w b := by
    rintro b (hb | ⟨h, o, ho, hw, hb⟩)
    · exact .inl hb
    · obtain ⟨hi, h0, rfl⟩ := viewH_get ho
      split at hw
      · rename_i hk
        rw [if_pos hk] at hb
        have e := (seen_wr hw).1
        rw [e] at hw hb
        exact .inr ⟨h, _, h0, hw, hb⟩
      · rename_i hk
        rw [if_neg hk] at hb
        exact .inr ⟨h, _, h0, hw, hb⟩
  have G1 : Good env (viewH ks H) w (mineOf (viewH ks H) env w) := by
    refine ⟨fun h o ho => ?_, fun h h' o o' b hne ho ho' hw hb hb' => ?_⟩
    · obtain ⟨hi, h0, e⟩ := viewH_get ho
      rw [viewH_length]
      refine objRel_own (fun hw b hb => .inr ⟨h, o, ho, hw, hb⟩) (M := mineOf H env w) ?_
      rw [e]
      split
      · exact (objRel_seen (G.obj h _ h0)).1
      · exact G.obj h _ h0
    · obtain ⟨hi, h0, e⟩ := viewH_get ho
      obtain ⟨hi', h0', e'⟩ := viewH_get ho'
      have hw1 : (getObj H h).wr = true ∧ (getObj H h).has (env h) b := by
        rw [e] at hw hb
        split at hw
        · rename_i hk
          rw [if_pos hk] at hb
          have e := (seen_wr hw).1
          rw [e] at hw hb
          exact ⟨hw, hb⟩
        · rename_i hk
          rw [if_neg hk] at hb
          exact ⟨hw, hb⟩
      have hb1 : (getObj H h').has (env h') b := by
        rw [e'] at hb'
        split at hb'
        · exact (objRel_seen (G.obj h' _ h0')).2 b hb'
        · exact hb'
      exact G.sep h h' _ _ b hne h0 h0' hw1.1 hw1.2 hb1
  have ha1 : F2 (vrel env (viewH ks H).length) (args.map (SV.mapC (viewC ks))) vs := by
    rw [viewH_length]
    exact f2_map_mem (R := vrel env H.length) (fun x _ v hv => vrel_map (fun c v hc => crel_viewC hc) hv) ha
  -- a row that is only read lies where nothing is written
  have still : ∀ i, ks.contains i = true → i < H.length → (getObj H i).isRow = true → ∀ b, (getObj H i).has (env i) b → b < w.heap.size ∧ ¬ mineOf (viewH ks H) env w b := fun i hk hi hrow b hb => by
    have h0 : H[i]? = some (getObj H i) := by
      unfold getObj
      rw [List.getD, List.getElem?_eq_getElem hi]
      rfl
    have hlt := objRel_has_lt (G.obj i _ h0) hb
    refine ⟨hlt, ?_⟩
    rintro (h1 | ⟨h, o, ho, hw, hb1⟩)
    · omega
    · obtain ⟨hi', h0', rfl⟩ := viewH_get ho
      by_cases hih : h = i
      · subst hih
        rw [if_pos hk] at hw
        have := (seen_wr hw).2
        rw [hrow] at this
        cases this
      · have hw1 : (getObj H h).wr = true ∧ (getObj H h).has (env h) b := by
          split at hw
          · rename_i hk
            rw [if_pos hk] at hb1
            have e := (seen_wr hw).1
            rw [e] at hw hb1
            exact ⟨hw, hb1⟩
          · rename_i hk
            rw [if_neg hk] at hb1
            exact ⟨hw, hb1⟩
        exact G.sep h i _ _ b hih h0' h0 hw1.1 hw1.2 hb
  have hbl : (backH ks H H2).length = H2.length := by simp [backH]
  have bget : ∀ i o, (backH ks H H2)[i]? = some o → i < H2.length ∧ ((ks.contains i = true ∧ i < H.length ∧ (getObj H i).isRow = true ∧ o = getObj H i) ∨ (¬ (ks.contains i = true ∧ i < H.length ∧ (getObj H i).isRow = true) ∧ H2[i]? = some o)) := fun i o h => by
    have hi : i < H2.length := by
      have := (List.getElem?_eq_some_iff.1 h).1
      rwa [hbl] at this
    refine ⟨hi, ?_⟩
    unfold backH at h
    rw [List.getElem?_map, List.getElem?_range hi] at h
    simp only [Option.map_some, Option.some.injEq] at h
    by_cases c : (ks.contains i && (decide (i < H.length) && (getObj H i).isRow)) = true
    · rw [if_pos c] at h
      simp only [Bool.and_eq_true, decide_eq_true_eq] at c
      exact .inl ⟨c.1, c.2.1, c.2.2, h.symm⟩
    · rw [if_neg c] at h
      simp only [Bool.and_eq_true, decide_eq_true_eq] at c
      refine .inr ⟨c, ?_⟩
      rw [← h]
      unfold getObj
      rw [List.getD, List.getElem?_eq_getElem hi]
      rfl
  have live : ∀ i, ¬ (ks.contains i = true ∧ i < H.length ∧ (getObj H i).isRow = true) → Live H i → Live (viewH ks H) i := fun i hn hl hi => by
    rw [viewH_length] at hi
    have hw := hl hi
    have e : getObj (viewH ks H) i = if ks.contains i then (getObj H i).seen else getObj H i := by
      unfold viewH getObj
      simp only [List.getD]
      rw [List.getElem?_map, List.getElem?_range hi]
      rfl
    rw [e]
    split
    · rename_i hk
      have hr : (getObj H i).isRow = false := by
        cases hr : (getObj H i).isRow with
        | false => rfl
        | true => exact absurd ⟨hk, hi, hr⟩ hn
      generalize getObj H i = o at *
      cases o <;> simp [HObj.isRow] at hr <;> exact hw
    · exact hw
  refine (hs.calls _ _ env w vs r0 H2 G1 ha1 hg0).mono ?_
  rintro e w' ⟨v, env', rfl, henv, hv, hobj, hsep, hkin⟩
  have henv2 : ∀ i, ks.contains i = true → i < H.length → (getObj H i).isRow = true → env' i = env i := fun i hk hi hrow => by
    refine henv i (by rw [viewH_length]; exact hi) (.inr ?_)
    have e : getObj (viewH ks H) i = (getObj H i).seen := by
      unfold viewH getObj
      simp only [List.getD]
      rw [List.getElem?_map, List.getElem?_range hi]
      simp only [Option.map_some, Option.getD_some]
      rw [if_pos hk]
    rw [e]
    generalize getObj H i = o at *
    cases o <;> simp [HObj.isRow] at hrow <;> rfl
  refine ⟨v, env', rfl, fun i hi hh => ?_, by rw [hbl]; exact hv, fun i o ho hl => ?_, fun i j o o' b hne ho ho' hl hl' hw hb hb' => ?_, hkin.mono fun b _ hb => sub b hb⟩
  · refine henv i (by rw [viewH_length]; exact hi) (hh.imp id fun h => ?_)
    have e : getObj (viewH ks H) i = if ks.contains i then (getObj H i).seen else getObj H i := by
      unfold viewH getObj
      simp only [List.getD]
      rw [List.getElem?_map, List.getElem?_range hi]
      rfl
    rw [e]
    split
    · generalize getObj H i = o at *
      cases o <;> first | rfl | (simp [HObj.isOwn] at h)
    · exact h
  · rw [hbl]
    obtain ⟨hi2, ⟨hk, hi, hrow, rfl⟩ | ⟨hn, h2⟩⟩ := bget i o ho
    · have h0 : H[i]? = some (getObj H i) := by
        unfold getObj
        rw [List.getD, List.getElem?_eq_getElem hi]
        rfl
      rw [henv2 i hk hi hrow]
      refine row_no_env hrow (objRel_keep (w' := w') (G.obj i _ h0) hkin.size fun b hb => ?_)
      obtain ⟨g1, g2⟩ := still i hk hi hrow b hb
      exact hkin.block b g1 g2
    · exact objRel_base sub (hobj i o h2 (live i hn hl))
  · obtain ⟨hi2, ⟨hk, hi, hrow, rfl⟩ | ⟨hn, h2⟩⟩ := bget i o ho
    · rw [henv2 i hk hi hrow] at hb
      have h0 : H[i]? = some (getObj H i) := by
        unfold getObj
        rw [List.getD, List.getElem?_eq_getElem hi]
        rfl
      obtain ⟨g1, g2⟩ := still i hk hi hrow b hb
      obtain ⟨hj2, ⟨hk', hj, hrow', rfl⟩ | ⟨hn', h2'⟩⟩ := bget j o' ho'
      · rw [henv2 j hk' hj hrow'] at hb'
        have h0' : H[j]? = some (getObj H j) := by
          unfold getObj
          rw [List.getD, List.getElem?_eq_getElem hj]
          rfl
        exact G.sep i j _ _ b hne h0 h0' hw hb hb'
      · have hw' : o'.wr = true := by
          rcases Nat.lt_or_ge j H.length with hj | hj
          · -- it was writable, and is handed back so
            have h3 := List.all_eq_true.1 hwr j (List.mem_range.2 hj)
            have e : getObj H2 j = o' := getObj_of_some h2'
            rw [e, hl' hj] at h3
            simp only [Bool.not_true, Bool.false_or, Bool.or_eq_true, Bool.and_eq_true] at h3
            rcases h3 with h3 | h3
            · exact h3
            · exact absurd ⟨h3.1, hj, h3.2⟩ hn'
          · exact List.all_eq_true.1 hnew o' (List.mem_of_getElem? (i := j - H.length) (by rw [List.getElem?_drop, show H.length + (j - H.length) = j by omega]; exact h2'))
        exact g2 (objRel_wr_in (hobj j o' h2' (live j hn' hl')) hw' hb')
    · obtain ⟨hj2, ⟨hk', hj, hrow', rfl⟩ | ⟨hn', h2'⟩⟩ := bget j o' ho'
      · rw [henv2 j hk' hj hrow'] at hb'
        obtain ⟨g1, g2⟩ := still j hk' hj hrow' b hb'
        exact g2 (objRel_wr_in (hobj i o h2 (live i hn hl)) hw hb)
      · exact hsep i j o o' b hne h2 h2' (live i hn hl) (live j hn' hl') hw hb hb'
end
end Go.Proofs.Ytffcfbamcaoidaa.Sym
