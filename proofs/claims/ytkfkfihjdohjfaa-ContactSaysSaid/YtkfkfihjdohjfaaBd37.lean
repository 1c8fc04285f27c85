/- Parts of the proof, one behind the other: CoQ, Sym37. -/
import Derived.Test.YtkfkfihjdohjfaaBd26
import Derived.Test.YtkfkfihjdohjfaaBd30
section
/- Contacts by the time at which they were heard, then by flight. -/
namespace Go.Proofs.Ytkfkfihjdohjfaa
namespace F
def dstC (l : List Co) : Prop := (l.map Prod.fst).Nodup
def ltL (x y : Co) : Bool := decide (x.2.2 < y.2.2) || (decide (x.2.2 = y.2.2) && lt x.1 y.1)
def insL (s : Co) : List Co → List Co
  | [] => [s]
  | y :: r => if ltL y s = true then y :: insL s r else s :: y :: r
def sortL : List Co → List Co
  | [] => []
  | x :: r => insL x (sortL r)
end F
theorem ltL_iff {x y : F.Co} : F.ltL x y = true ↔ x.2.2 < y.2.2 ∨ (x.2.2 = y.2.2 ∧ F.lt x.1 y.1 = true) := by
  unfold F.ltL
  simp
theorem ltL_irr (x : F.Co) : ¬ F.ltL x x = true := by
  rw [ltL_iff, lt_irr]
  simp
theorem ltL_trans {x y z : F.Co} (h : F.ltL x y = true) (k : F.ltL y z = true) : F.ltL x z = true := by
  rw [ltL_iff] at *
  rcases h with h | ⟨h, h'⟩ <;> rcases k with k | ⟨k, k'⟩
  · exact .inl (by omega)
  · exact .inl (by omega)
  · exact .inl (by omega)
  · exact .inr ⟨by omega, lt_trans' h' k'⟩
/-- Neither before the other: one time, one flight. -/
theorem ltL_tri {x y : F.Co} (h : ¬ F.ltL x y = true) (k : ¬ F.ltL y x = true) : x.2.2 = y.2.2 ∧ x.1 = y.1 := by
  rw [ltL_iff] at h k
  have ht : x.2.2 = y.2.2 := by omega
  refine ⟨ht, ?_⟩
  rcases lt_tri x.1 y.1 with q | q | q
  · exact absurd (.inr ⟨ht, q⟩) h
  · exact q
  · exact absurd (.inr ⟨ht.symm, q⟩) k
theorem dstC_one {l : List F.Co} (h : F.dstC l) {x y : F.Co} (hx : x ∈ l) (hy : y ∈ l) (e : x.1 = y.1) : x = y := by
  induction l with
  | nil => cases hx
  | cons a l ih =>
    unfold F.dstC at h ih
    rw [List.map_cons, List.nodup_cons] at h
    rcases List.mem_cons.1 hx with rfl | hx' <;> rcases List.mem_cons.1 hy with rfl | hy'
    · rfl
    · exact absurd (List.mem_map.2 ⟨y, hy', e.symm⟩) h.1
    · exact absurd (List.mem_map.2 ⟨x, hx', e⟩) h.1
    · exact ih h.2 hx' hy'
theorem insL_perm (x : F.Co) : ∀ l : List F.Co, (F.insL x l).Perm (x :: l)
  | [] => .refl _
  | y :: r => by
    unfold F.insL
    split
    · exact ((insL_perm x r).cons y).trans (.swap x y r)
    · exact .refl _
theorem sortL_perm : ∀ l : List F.Co, (F.sortL l).Perm l
  | [] => .refl _
  | x :: r => (insL_perm x (F.sortL r)).trans ((sortL_perm r).cons x)
theorem sortL_len (l : List F.Co) : (F.sortL l).length = l.length := (sortL_perm l).length_eq
def leL (a b : F.Co) : Prop := ¬ F.ltL b a = true
theorem leL_trans {a b c : F.Co} (h1 : leL a b) (h2 : leL b c) : leL a c := by
  intro h
  by_cases e : F.ltL b a = true
  · exact h1 e
  · by_cases e2 : F.ltL a b = true
    · exact h2 (ltL_trans h e2)
    · obtain ⟨t1, t2⟩ := ltL_tri e e2
      refine h2 ?_
      rw [ltL_iff] at h ⊢
      rw [t1, t2]
      exact h
theorem insL_sorted (x : F.Co) : ∀ l : List F.Co, l.Pairwise leL → (F.insL x l).Pairwise leL
  | [], _ => by simp [F.insL]
  | y :: r, h => by
    rw [List.pairwise_cons] at h
    unfold F.insL
    split
    · rename_i hxy
      rw [List.pairwise_cons]
      refine ⟨fun z hz => ?_, insL_sorted x r h.2⟩
      have := (insL_perm x r).mem_iff.1 hz
      rcases List.mem_cons.1 this with rfl | hz
      · exact fun h => ltL_irr _ (ltL_trans hxy h)
      · exact h.1 z hz
    · rename_i hxy
      rw [List.pairwise_cons, List.pairwise_cons]
      refine ⟨fun z hz => ?_, h⟩
      rcases List.mem_cons.1 hz with rfl | hz
      · exact hxy
      · exact leL_trans hxy (h.1 z hz)
theorem sortL_sorted : ∀ l : List F.Co, (F.sortL l).Pairwise leL
  | [] => .nil
  | x :: r => insL_sorted x _ (sortL_sorted r)
theorem sortedL_one {l m : List F.Co} (hd : F.dstC l) (hl : l.Pairwise leL) (hm : m.Pairwise leL) (h : l.Perm m) : l = m :=
  List.Perm.eq_of_pairwise (le := leL) (fun a b ha hb h1 h2 => dstC_one hd ha (h.mem_iff.2 hb) (ltL_tri h2 h1).2) hl hm h
theorem dstC_perm {l m : List F.Co} (h : l.Perm m) (hd : F.dstC m) : F.dstC l := by
  unfold F.dstC at *
  exact (h.map _).nodup_iff.2 hd
theorem asc_dst : ∀ {l : List F.Co}, F.asc l = true → F.dstC l
  | [], _ => List.nodup_nil
  | a :: l, h => by
    obtain ⟨h1, h2⟩ := asc_cons.1 h
    unfold F.dstC
    rw [List.map_cons, List.nodup_cons]
    refine ⟨fun hm => ?_, asc_dst h2⟩
    obtain ⟨b, hb, e⟩ := List.mem_map.1 hm
    have := h1 b hb
    rw [e, lt_irr] at this
    cases this
end Go.Proofs.Ytkfkfihjdohjfaa
end
section
/- A function that puts a row's elements into another order where the row is as the function wants it (no two that it takes for one). -/
namespace Go.Proofs.Ytkfkfihjdohjfaa.Sym
open Go.RowKit Go.Sort

section
variable {cod : Nat → Codec} {P : Program}
noncomputable def s_permP (u : Nat) (ex : List FuncId) (f : List (cod u).α → List (cod u).α) (pre : List (cod u).α → Prop) : Summ cod := fun args H => match args, H with
  | .c (.own 0 _) :: aas, [.own v l ty] => if h : v = u then (if fnArgs aas = some ex then .need (pre (h ▸ l) ∧ l.length ≤ 1000000) (.ret (.tup [], [.own u (f (h ▸ l)) ty])) else .fail) else .fail
  | _, _ => .fail
/-- What is asked of the function, at rows that are as it wants them. -/
structure PermsP (P : Program) (cod : Nat → Codec) (g : FuncId) (u : Nat) (ex : List FuncId) (f : List (cod u).α → List (cod u).α) (pre : List (cod u).α → Prop) (β : Type) [Inhabited β] (e' : β → Value) : Prop where
  enters : ∀ args w, (callFunc g args).run P w = .ok (.enter g args) w
  len : ∀ l, (f l).length = l.length
  none : ∀ p cap w, Calls P g (Value.slice p 0 cap :: fnVals ex).toArray w fun e w' => e = .returned (.tuple #[]) ∧ w' = w
  some : ∀ (b cap : Nat) (l : List (cod u).α) (w : World), l ≠ [] → pre l → l.length ≤ 1000000 → RowAt w b (vals (cod u) l) →
    Calls P g (Value.slice (.some ⟨b, 0, Option.none⟩) l.length cap :: fnVals ex).toArray w fun e w' => e = .returned (.tuple #[]) ∧ ∃ (n : Nat) (os : Array Obj) (D : Array β), D.toList.map e' = vals (cod u) (f l) ∧ w' = grow (putRow e' (Sort.ahead w n) b 0 D) os
theorem permP_sound {g : FuncId} {u : Nat} {ex : List FuncId} {f : List (cod u).α → List (cod u).α} {pre : List (cod u).α → Prop} {β : Type} [Inhabited β] {e' : β → Value} (h : PermsP P cod g u ex f pre β e') : SoundIK P cod g true (s_permP u ex f pre) := by
  refine ⟨h.enters, fun args H env w vs r H' G ha hg => ?_⟩
  have nores : vrel env 1 (.tup []) (.tuple #[]) := ⟨#[], rfl, .nil⟩
  have one : ∀ {o : HObj cod} {i : Nat} {o' : HObj cod}, [o][i]? = some o' → i = 0 ∧ o' = o := by
    intro o i o' hi
    cases i with
    | zero => simp at hi; exact ⟨rfl, hi.symm⟩
    | succ i => simp at hi
  unfold s_permP at hg
  split at hg
  · rename_i n aas v l ty
    split at hg
    · rename_i hv
      subst hv
      split at hg
      · rename_i hex
        rw [T.gives_need, T.gives_ret] at hg
        obtain ⟨⟨hpre, hsz⟩, hg⟩ := hg
        simp only [Prod.mk.injEq] at hg
        obtain ⟨rfl, rfl⟩ := hg
        cases ha with
        | @cons _ v0 _ vs hx hxs =>
          have hvs := fnArgs_rel hex hxs
          subst hvs
          obtain ⟨_, hval, A, c, hA, _⟩ := hx
          obtain ⟨o1, o2, o3, o4, o5⟩ := G.obj 0 (.own v l ty) (by simp)
          have hlen : n = l.length := by
            rw [← hval, hA] at o3
            rcases o3.2 with ⟨e, hz⟩ | ⟨g, cap, cur, e, _⟩
            · simp only [Value.slice.injEq] at e; omega
            · simp only [Value.slice.injEq] at e; omega
          subst hlen
          by_cases hl : l = []
          · subst hl
            have hf : f [] = [] := List.eq_nil_of_length_eq_zero (h.len [])
            rw [hA]
            refine (h.none A c w).mono ?_
            rintro e w' ⟨rfl, rfl⟩
            refine ⟨_, env, rfl, fun _ _ _ => rfl, nores, fun i o ho _ => ?_, fun i j o o' b hne ho ho' => ?_, Kin.refl _ _⟩
            · obtain ⟨rfl, rfl⟩ := one ho
              show objRel env _ _ _ _ (.own v (f []) ty)
              rw [hf]
              exact G.obj 0 _ (by simp)
            · exact absurd ((one ho).1.trans (one ho').1.symm) hne
          · rcases o3.2 with ⟨e, hz⟩ | ⟨b, cap, cur, e, hb0, hb, hnc, hcm, hcs, htk⟩
            · exact absurd (List.eq_nil_of_length_eq_zero hz) hl
            · have hrow : RowAt w b (vals (cod v) l) := ⟨cur, ty, hb, by rw [vals_len]; exact htk⟩
              have hM : mineOf [HObj.own v l ty] env w b := .inr ⟨0, _, rfl, rfl, by simp [HObj.has, e, Value.ownBlock]⟩
              rw [hval, e]
              refine (h.some b cap l w hl hpre hsz hrow).mono ?_
              rintro _ w' ⟨rfl, k, os, D, hD, rfl⟩
              have hDs : D.size = l.length * (cod v).size := by
                have := congrArg List.length hD
                rw [List.length_map, Array.length_toList, vals_len, h.len] at this
                exact this
              have hle : D.size ≤ cur.size := by
                rw [hDs, hcs]
                exact Nat.mul_le_mul_right _ hnc
              refine ⟨_, env, rfl, fun _ _ _ => rfl, nores, fun i o ho _ => ?_, fun i j o o' b hne ho ho' => ?_, kin_put e' D hM⟩
              · obtain ⟨rfl, rfl⟩ := one ho
                refine ⟨o1, o2, ⟨by rw [vals_len], .inr ⟨b, cap, _, by rw [h.len]; exact e, hb0, heap_put e' D hb, by rw [h.len]; exact hnc, hcm, by simp [putCells, hcs], ?_⟩⟩, fun q hq => .inr ⟨0, _, rfl, rfl, hq⟩, o5⟩
                rw [h.len, ← hDs, ← hD]
                exact take_put e' cur D hle
              · exact absurd ((one ho).1.trans (one ho').1.symm) hne
      · exact hg.elim
    · exact hg.elim
  · exact hg.elim
end
end Go.Proofs.Ytkfkfihjdohjfaa.Sym
end
