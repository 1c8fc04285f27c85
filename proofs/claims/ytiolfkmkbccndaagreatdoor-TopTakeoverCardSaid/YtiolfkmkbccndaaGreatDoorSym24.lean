/- A summary that hands back a made row as a row of the caller's own. -/
import Derived.Test.YtiolfkmkbccndaaGreatDoorBd22
namespace Go.Proofs.YtiolfkmkbccndaaGreatDoor.Sym
open Go.RowKit

section
variable {cod : Nat → Codec} {P : Program}
theorem scal_env {env env' : Env} {N N' : Nat} {c : Cell} {v : Value} (h : c.scalar = true) (hr : crel env N c v) : crel env' N' c v := by
  rw [scalar_val h hr]
  exact scalar_rel h
theorem scals_env {env env' : Env} {N N' : Nat} : ∀ {es : List Cell} {vs : List Value}, es.all Cell.scalar = true → F2 (vrel1 env N) (es.map SV.c) vs → F2 (vrel1 env' N') (es.map SV.c) vs
  | [], _, _, .nil => .nil
  | c :: es, _, h, .cons hc ht => by
    simp only [List.all_cons, Bool.and_eq_true] at h
    exact .cons (scal_env h.1 hc) (scals_env h.2 ht)
/-- The new row of a result as an own one. -/
inductive ArrOwn (N : Nat) : SV → Heap cod → SV → Heap cod → Prop where
  | tup (u : Nat) (l : List (cod u).α) (e : TypeId) (es : List Cell) (h : es.all Cell.scalar = true) (hl : 0 < l.length) :
    ArrOwn N (.tup (.c (.slc N 0 l.length true) :: es.map .c)) [.arr u l e] (.tup (.c (.own N l.length) :: es.map .c)) [.own u l e]
  | one (u : Nat) (l : List (cod u).α) (e : TypeId) (hl : 0 < l.length) :
    ArrOwn N (.c (.slc N 0 l.length true)) [.arr u l e] (.c (.own N l.length)) [.own u l e]
theorem arr_own_cell {env env' : Env} {H : Heap cod} {w w' : World} {u : Nat} {l : List (cod u).α} {e : TypeId} (hl : 0 < l.length) (G : Good env H w (newIn w)) (hb : w.heap.size ≤ w'.heap.size) (hk : ∀ k, k < w.heap.size → w'.heap[k]? = w.heap[k]?)
    (hg : Good env' (H ++ [.arr u l e]) w' (newIn w)) {v : Value} (hv : crel env' (H.length + 1) (.slc H.length 0 l.length true) v) :
    ∃ env2, EnvEq H.length env env2 ∧ crel env2 (H.length + 1) (.own H.length l.length) v ∧ Good env2 (H ++ [.own u l e]) w' (newIn w) := by
  obtain ⟨h1, A, c, rfl, h2, h3, h4, h5⟩ := hv
  have hc := h4 rfl
  subst hc
  have hA := h5 hl
  subst hA
  have ho := hg.obj H.length (.arr u l e) (by simp)
  obtain ⟨o1, o2, o3, o4⟩ := ho
  have hadr : (env' H.length).addr 0 0 = ⟨(env' H.length).block, 0, none⟩ := by simp [HV.addr, o1]
  have own : w'.ownsRow 0 e (cod u).size (.slice (some ((env' H.length).addr 0 0)) l.length l.length) l.length (vals (cod u) l) := by
    refine ⟨vals_len _ _, .inr ⟨(env' H.length).block, l.length, (vals (cod u) l).toArray, by rw [hadr], Nat.zero_le _, o4, Nat.le_refl _, h3, by simp [vals_len], ?_⟩⟩
    rw [List.toList_toArray, ← vals_len, List.take_length]
  refine ⟨env.set H.length ⟨(Value.slice (some ((env' H.length).addr 0 0)) l.length l.length).ownBlock.getD 0, 0, (cod u).size, .slice (some ((env' H.length).addr 0 0)) l.length l.length, []⟩, Env.set_eq env _ _, own_cell own rfl _ (by omega) (Env.set_same _ _ _), ?_⟩
  refine G.push _ _ hb hk (own_obj own (fun b hb => ?_) _ _) (fun b hb => ?_)
  · simp only [Value.ownBlock, hadr, Option.some.injEq] at hb
    rw [← hb]
    exact o3
  simp only [HObj.has, Value.ownBlock, Option.some.injEq] at hb
  rw [← hb]
  exact o3
theorem Sound.arr_own {g : FuncId} {s s' : Summ cod} (h : Sound P cod g s) (hs : ∀ (args : List SV) (H : Heap cod) (r : SV) (news : Heap cod), (s' args H).gives (r, news) → (s args H).gives (r, news) ∨ ∃ r0 news0, ArrOwn H.length r0 news0 r news ∧ (s args H).gives (r0, news0)) : Sound P cod g s' := by
  refine ⟨h.enters, fun args H env w vs r news hro G ha hg => ?_⟩
  rcases hs args H r news hg with hg | ⟨r0, news0, hc, hg⟩
  · exact h.calls args H env w vs r news hro G ha hg
  · refine (h.calls args H env w vs r0 news0 hro G ha hg).mono ?_
    rintro e w' ⟨v, env', rfl, heq, hv, hgd, hb⟩
    cases hc with
    | tup u l e es he hl =>
      obtain ⟨us, rfl, hu⟩ := hv
      generalize hus : us.toList = ul at hu
      cases hu with
      | @cons _ v0 _ vs' h0 ht =>
        obtain ⟨env2, g1, g2, g3⟩ := arr_own_cell hl G hb.below.size (fun k hk => hb.below.block k hk) hgd h0
        exact ⟨_, env2, rfl, g1, ⟨us, rfl, by rw [hus]; exact .cons g2 (scals_env he ht)⟩, g3, hb⟩
    | one u l e hl =>
      obtain ⟨env2, g1, g2, g3⟩ := arr_own_cell hl G hb.below.size (fun k hk => hb.below.block k hk) hgd hv
      exact ⟨_, env2, rfl, g1, g2, g3, hb⟩
end
end Go.Proofs.YtiolfkmkbccndaaGreatDoor.Sym
