/- Parts of the proof, one behind the other: Sym26, Sym35. -/
import Derived.Test.YtgmnfdmlidhbcaaBd23
import Derived.Sort.Grow
section
/- A function that puts a row's elements into another order, in their place: a summary out of the library's own contract. -/
namespace Go.Proofs.Ytgmnfdmlidhbcaa.Sym
open Go.RowKit Go.Sort

section
variable {cod : Nat → Codec} {P : Program}
/-- Function values without captured variables. -/
def fnArgs : List SV → Option (List FuncId)
  | [] => some []
  | .c (.fn g []) :: l => (fnArgs l).map (g :: ·)
  | _ => none
def fnVals (ex : List FuncId) : List Value := ex.map fun g => .func (.func g) #[] #[]
theorem fnArgs_rel {env : Env} {N : Nat} : ∀ {aas : List SV} {vs : List Value} {ex : List FuncId}, fnArgs aas = some ex → F2 (vrel env N) aas vs → vs = fnVals ex
  | [], _, _, h, hv => by
    cases hv
    cases h
    rfl
  | a :: aas, _, ex, h, hv => by
    cases hv with
    | @cons _ v _ vs hx hxs =>
      unfold fnArgs at h
      split at h
      · rename_i e; cases e
      · rename_i g l e
        simp only [List.cons.injEq] at e
        obtain ⟨rfl, rfl⟩ := e
        obtain ⟨ex', h1, rfl⟩ := Option.map_eq_some_iff.1 h
        have h2 := fnArgs_rel h1 hxs
        obtain ⟨_, h3⟩ := hx
        rw [h2, h3]
        rfl
      · cases h
noncomputable def s_perm (u : Nat) (ex : List FuncId) (f : List (cod u).α → List (cod u).α) : Summ cod := fun args H => match args, H with
  | .c (.own 0 _) :: aas, [.own v l ty] => if h : v = u then (if fnArgs aas = some ex then .need (l.length ≤ 1000000) (.ret (.tup [], [.own u (f (h ▸ l)) ty])) else .fail) else .fail
  | .c (.slc 0 0 n _) :: aas, [.arr v l ty] => if h : v = u then (if fnArgs aas = some ex then .need (n = l.length ∧ l.length ≤ 1000000) (.ret (.tup [], [.arr u (f (h ▸ l)) ty])) else .fail) else .fail
  | _, _ => .fail
/-- The row at the beginning of a block. -/
def RowAt (w : World) (b : Nat) (vs : List Value) : Prop := ∃ cur e, w.heap[b]? = some (.cells cur e (0, 0)) ∧ cur.toList.take vs.length = vs
theorem RowAt.holds {β : Type} [Inhabited β] {e' : β → Value} {w : World} {b : Nat} {D : Array β} (h : RowAt w b (D.toList.map e')) : Holds e' w b 0 D := by
  obtain ⟨cur, e, hb, ht⟩ := h
  rw [List.length_map, Array.length_toList] at ht
  intro j hj
  refine ⟨?_, by simp [World.frozen?, hb]⟩
  have h1 : (cur.toList.take D.size)[j]? = (D.toList.map e')[j]? := by rw [ht]
  rw [List.getElem?_take_of_lt hj] at h1
  simp only [World.cell?, hb, Nat.zero_add]
  simp only [Option.isSome_none, Bool.false_eq_true, if_false]
  rw [← Array.getElem?_toList, h1]
  simp [hj]
theorem RowAt.lt {w : World} {b : Nat} {vs : List Value} (h : RowAt w b vs) : b < w.heap.size := by
  obtain ⟨cur, e, hb, _⟩ := h
  exact (Array.getElem?_eq_some_iff.1 hb).1
theorem heap_put {β : Type} [Inhabited β] (e' : β → Value) {w : World} {g n : Nat} {os : Array Obj} {cur : Array Value} {e : TypeId} {fr : Nat × Nat} (d : Array β) (hb : w.heap[g]? = some (.cells cur e fr)) :
    (grow (putRow e' (Sort.ahead w n) g 0 d) os).heap[g]? = some (.cells (putCells e' 0 d cur) e fr) := by
  have hg : g < w.heap.size := (Array.getElem?_eq_some_iff.1 hb).1
  rw [heap_grow_old _ _ (by simpa using hg)]
  simp [putRow, mapBlock, Sort.ahead, Array.getElem?_modify, hb, onCells]
theorem take_put {β : Type} [Inhabited β] (e' : β → Value) (cur : Array Value) (d : Array β) (h : d.size ≤ cur.size) : (putCells e' 0 d cur).toList.take d.size = d.toList.map e' := by
  apply List.ext_getElem?
  intro j
  by_cases hj : j < d.size
  · rw [List.getElem?_take_of_lt hj, Array.getElem?_toList]
    simp [putCells, hj, show j < cur.size by omega]
  · rw [List.getElem?_take_eq_none (by omega), List.getElem?_eq_none (by simp; omega)]
theorem kin_put {β : Type} [Inhabited β] (e' : β → Value) {w : World} {g n : Nat} {os : Array Obj} (d : Array β) {M : Nat → Prop} (hM : M g) : Kin M w (grow (putRow e' (Sort.ahead w n) g 0 d) os) := by
  refine ⟨rfl, rfl, rfl, by simp, fun k hk hne => ?_, dl_mono (Nat.le_add_right _ _)⟩
  rw [heap_grow_old _ _ (by simpa using hk)]
  have : g ≠ k := fun e => hne (by rw [← e]; exact hM)
  simp [putRow, mapBlock, Sort.ahead, Array.getElem?_modify, this]
theorem enters_fn {f : FuncId} {fn : Func} (hf : P.funcs[f]? = some fn) (hb : fn.body.isSome = true) (hname : (fn.name == "runtime.NumGoroutine") = false) (args : Array Value) (w : World) : (callFunc f args).run P w = .ok (.enter f args) w := by
  obtain ⟨code, hcode⟩ := Option.isSome_iff_exists.1 hb
  simp [callFunc, hf, hcode]
  simpa using hname
/-- What is asked of the function: at no element nothing turns; else the row holds what f gives. -/
structure Perms (P : Program) (cod : Nat → Codec) (g : FuncId) (u : Nat) (ex : List FuncId) (f : List (cod u).α → List (cod u).α) (β : Type) [Inhabited β] (e' : β → Value) : Prop where
  enters : ∀ args w, (callFunc g args).run P w = .ok (.enter g args) w
  len : ∀ l, (f l).length = l.length
  none : ∀ p cap w, Calls P g (Value.slice p 0 cap :: fnVals ex).toArray w fun e w' => e = .returned (.tuple #[]) ∧ w' = w
  some : ∀ (b cap : Nat) (l : List (cod u).α) (w : World), l ≠ [] → l.length ≤ 1000000 → RowAt w b (vals (cod u) l) →
    Calls P g (Value.slice (.some ⟨b, 0, Option.none⟩) l.length cap :: fnVals ex).toArray w fun e w' => e = .returned (.tuple #[]) ∧ ∃ (n : Nat) (os : Array Obj) (D : Array β), D.toList.map e' = vals (cod u) (f l) ∧ w' = grow (putRow e' (Sort.ahead w n) b 0 D) os
theorem perm_sound {g : FuncId} {u : Nat} {ex : List FuncId} {f : List (cod u).α → List (cod u).α} {β : Type} [Inhabited β] {e' : β → Value} (h : Perms P cod g u ex f β e') : SoundIK P cod g true (s_perm u ex f) := by
  refine ⟨h.enters, fun args H env w vs r H' G ha hg => ?_⟩
  have nores : vrel env 1 (.tup []) (.tuple #[]) := ⟨#[], rfl, .nil⟩
  have one : ∀ {o : HObj cod} {i : Nat} {o' : HObj cod}, [o][i]? = some o' → i = 0 ∧ o' = o := by
    intro o i o' hi
    cases i with
    | zero => simp at hi; exact ⟨rfl, hi.symm⟩
    | succ i => simp at hi
  unfold s_perm at hg
  split at hg
  · rename_i n aas v l ty
    split at hg
    · rename_i hv
      subst hv
      split at hg
      · rename_i hex
        rw [T.gives_need, T.gives_ret] at hg
        obtain ⟨hsz, hg⟩ := hg
        simp only [Prod.mk.injEq] at hg
        obtain ⟨rfl, rfl⟩ := hg
        cases ha with
        | @cons _ v0 _ vs hx hxs =>
          have hvs := fnArgs_rel hex hxs
          subst hvs
          obtain ⟨_, hval, A, c, hA, _⟩ := hx
          obtain ⟨o1, o2, o3, o4, o5⟩ := G.obj 0 (.own v l ty) (by simp)
          have hlen : n = l.length := by
            rw [← hval, hA] at o3
            rcases o3.2 with ⟨e, hz⟩ | ⟨g, cap, cur, e, _⟩
            · simp only [Value.slice.injEq] at e; omega
            · simp only [Value.slice.injEq] at e; omega
          subst hlen
          by_cases hl : l = []
          · subst hl
            have hf : f [] = [] := List.eq_nil_of_length_eq_zero (h.len [])
            rw [hA]
            refine (h.none A c w).mono ?_
            rintro e w' ⟨rfl, rfl⟩
            refine ⟨_, env, rfl, fun _ _ _ => rfl, nores, fun i o ho _ => ?_, fun i j o o' b hne ho ho' => ?_, Kin.refl _ _⟩
            · obtain ⟨rfl, rfl⟩ := one ho
              show objRel env _ _ _ _ (.own v (f []) ty)
              rw [hf]
              exact G.obj 0 _ (by simp)
            · exact absurd ((one ho).1.trans (one ho').1.symm) hne
          · rcases o3.2 with ⟨e, hz⟩ | ⟨b, cap, cur, e, hb0, hb, hnc, hcm, hcs, htk⟩
            · exact absurd (List.eq_nil_of_length_eq_zero hz) hl
            · have hrow : RowAt w b (vals (cod v) l) := ⟨cur, ty, hb, by rw [vals_len]; exact htk⟩
              have hM : mineOf [HObj.own v l ty] env w b := .inr ⟨0, _, rfl, rfl, by simp [HObj.has, e, Value.ownBlock]⟩
              rw [hval, e]
              refine (h.some b cap l w hl hsz hrow).mono ?_
              rintro _ w' ⟨rfl, k, os, D, hD, rfl⟩
              have hDs : D.size = l.length * (cod v).size := by
                have := congrArg List.length hD
                rw [List.length_map, Array.length_toList, vals_len, h.len] at this
                exact this
              have hle : D.size ≤ cur.size := by
                rw [hDs, hcs]
                exact Nat.mul_le_mul_right _ hnc
              refine ⟨_, env, rfl, fun _ _ _ => rfl, nores, fun i o ho _ => ?_, fun i j o o' b hne ho ho' => ?_, kin_put e' D hM⟩
              · obtain ⟨rfl, rfl⟩ := one ho
                refine ⟨o1, o2, ⟨by rw [vals_len], .inr ⟨b, cap, _, by rw [h.len]; exact e, hb0, heap_put e' D hb, by rw [h.len]; exact hnc, hcm, by simp [putCells, hcs], ?_⟩⟩, fun q hq => .inr ⟨0, _, rfl, rfl, hq⟩, o5⟩
                rw [h.len, ← hDs, ← hD]
                exact take_put e' cur D hle
              · exact absurd ((one ho).1.trans (one ho').1.symm) hne
      · exact hg.elim
    · exact hg.elim
  · rename_i n t aas v l ty
    split at hg
    · rename_i hv
      subst hv
      split at hg
      · rename_i hex
        rw [T.gives_need, T.gives_ret] at hg
        obtain ⟨⟨rfl, hsz⟩, hg⟩ := hg
        simp only [Prod.mk.injEq] at hg
        obtain ⟨rfl, rfl⟩ := hg
        cases ha with
        | @cons _ v0 _ vs hx hxs =>
          have hvs := fnArgs_rel hex hxs
          subst hvs
          obtain ⟨_, A, c, rfl, hc1, hc2, _, hA⟩ := hx
          obtain ⟨o1, o2, o3, o4⟩ := G.obj 0 (.arr v l ty) (by simp)
          by_cases hl : l = []
          · subst hl
            have hf : f [] = [] := List.eq_nil_of_length_eq_zero (h.len [])
            refine (h.none A c w).mono ?_
            rintro e w' ⟨rfl, rfl⟩
            refine ⟨_, env, rfl, fun _ _ _ => rfl, nores, fun i o ho _ => ?_, fun i j o o' b hne ho ho' => ?_, Kin.refl _ _⟩
            · obtain ⟨rfl, rfl⟩ := one ho
              show objRel env _ _ _ _ (.arr v (f []) ty)
              rw [hf]
              exact G.obj 0 _ (by simp)
            · exact absurd ((one ho).1.trans (one ho').1.symm) hne
          · have hp : 0 < l.length := List.length_pos_iff.2 hl
            have e := hA hp
            have hadr : (env 0).addr 0 0 = ⟨(env 0).block, 0, none⟩ := by simp [HV.addr, o1]
            rw [hadr] at e
            subst e
            have hrow : RowAt w (env 0).block (vals (cod v) l) := ⟨_, ty, o4, by simp⟩
            have hM : mineOf [HObj.arr v l ty] env w (env 0).block := .inr ⟨0, _, rfl, rfl, rfl⟩
            refine (h.some (env 0).block c l w hl hsz hrow).mono ?_
            rintro _ w' ⟨rfl, k, os, D, hD, rfl⟩
            have hDs : D.size = l.length * (cod v).size := by
              have := congrArg List.length hD
              rw [List.length_map, Array.length_toList, vals_len, h.len] at this
              exact this
            refine ⟨_, env, rfl, fun _ _ _ => rfl, nores, fun i o ho _ => ?_, fun i j o o' b hne ho ho' => ?_, kin_put e' D hM⟩
            · obtain ⟨rfl, rfl⟩ := one ho
              refine ⟨o1, o2, hM, ?_⟩
              rw [heap_put e' D o4]
              congr 2
              apply Array.ext'
              have h1 := take_put e' (vals (cod v) l).toArray D (by rw [hDs]; simp [vals_len])
              rw [hD] at h1
              rw [← h1, List.take_of_length_le]
              rw [Array.length_toList]
              simp [putCells, hDs, vals_len]
            · exact absurd ((one ho).1.trans (one ho').1.symm) hne
      · exact hg.elim
    · exact hg.elim
  · exact hg.elim
end
end Go.Proofs.Ytgmnfdmlidhbcaa.Sym
end
section
/- Rows that the call owns, told by kind and type; small helpers for writing summaries. -/
namespace Go.Proofs.Ytgmnfdmlidhbcaa.Sym
open Go.RowKit

section
variable {cod : Nat → Codec} {P : Program}
/-- A row of kind t that the call owns. -/
def HObj.asOwn (t : Nat) (ty : TypeId) : HObj cod → Option (List (cod t).α)
  | .own u l ty' => if h : u = t then (if ty' = ty then some (h ▸ l) else none) else none
  | _ => none
theorem asOwn_spec {t : Nat} {ty : TypeId} {o : HObj cod} {l : List (cod t).α} (h : o.asOwn t ty = some l) : o = .own t l ty := by
  unfold HObj.asOwn at h
  split at h
  · split at h
    · rename_i e
      subst e
      split at h
      · rename_i e
        subst e
        cases h
        rfl
      · cases h
    · cases h
  · cases h
/-- A row of kind t in an array. -/
def HObj.asArr (t : Nat) (ty : TypeId) : HObj cod → Option (List (cod t).α)
  | .arr u l ty' => if h : u = t then (if ty' = ty then some (h ▸ l) else none) else none
  | _ => none
theorem asArr_spec {t : Nat} {ty : TypeId} {o : HObj cod} {l : List (cod t).α} (h : o.asArr t ty = some l) : o = .arr t l ty := by
  unfold HObj.asArr at h
  split at h
  · split at h
    · rename_i e
      subst e
      split at h
      · rename_i e
        subst e
        cases h
        rfl
      · cases h
    · cases h
  · cases h
/-- One function, two summaries, by what its arguments look like. -/
def s_by (p : List SV → Bool) (s1 s2 : Summ cod) : Summ cod := fun args H => cond (p args) (s1 args H) (s2 args H)
theorem Sound.by_ {g : FuncId} (p : List SV → Bool) {s1 s2 : Summ cod} (h1 : Sound P cod g s1) (h2 : Sound P cod g s2) : Sound P cod g (s_by p s1 s2) := by
  refine ⟨h1.enters, fun args H env w vs r news hro G ha hg => ?_⟩
  unfold s_by at hg
  cases hc : p args with
  | true => rw [hc] at hg; exact h1.calls args H env w vs r news hro G ha hg
  | false => rw [hc] at hg; exact h2.calls args H env w vs r news hro G ha hg
theorem SoundI.by_ {g : FuncId} (p : List SV → Bool) {s1 s2 : Summ cod} (h1 : SoundI P cod g s1) (h2 : SoundI P cod g s2) : SoundI P cod g (s_by p s1 s2) := by
  refine ⟨h1.enters, fun args H env w vs r H' G ha hg => ?_⟩
  unfold s_by at hg
  cases hc : p args with
  | true => rw [hc] at hg; exact h1.calls args H env w vs r H' G ha hg
  | false => rw [hc] at hg; exact h2.calls args H env w vs r H' G ha hg
/-- The first argument is a row that the call owns. -/
def ownFirst : List SV → Bool
  | .c (.own _ _) :: _ => true
  | _ => false
end
end Go.Proofs.Ytgmnfdmlidhbcaa.Sym
end
