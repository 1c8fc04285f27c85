/- Parts of the proof, one behind the other: Ck, Sym24, Sym26. -/
import Derived.WalkKit
import Derived.ProofKit
import Derived.OpenShut
import Derived.ShutString
import Derived.WalkSpells
import Derived.WalkLawsBesides
import Derived.Handy
import Derived.Deep.QuietTactic
import Derived.BigQuiet
import Derived.Lib.Hide
import Derived.Lib.SmallJoins
import Derived.Deep.Slices
import Derived.Deep.Fields
import Derived.Deep.AppendLies
import Derived.ChangeSame
import Derived.Deep.RegionHeld3
import Derived.StillTailTactics
import Derived.Test.YtkfkfihjdohjfaaProg
import Derived.Test.YtkfkfihjdohjfaaBd23
import Derived.Sort.Grow
section
/- slices.Clone of a slice of rows with no elements: a slice with no elements comes back. -/
namespace Go.Proofs.Ytkfkfihjdohjfaa
open Go.ChangeShapes Go.WideShapes Go.ChangeAt Go.RowKit
set_option maxHeartbeats 4000000
theorem nil_eqlC (A : Option Addr) (n c : Nat) (w : World) : (binOp .eql 51 (.slice A n c) (.slice none 0 0)).run Try.prog w = .ok (.bool A.isNone) w := by
  have ht : Try.prog.underlying 51 = some (.slice 56) := by kernel_rfl
  have h1 : ∀ w d, (Op.equalIn (d + 1) 51 (.slice A n c) (.slice none 0 0)).run Try.prog w = .ok A.isNone w := fun w d => by cases A <;> simp [Op.equalIn, run_underlying ht]
  have h2 : ∀ w, (Op.equal 51 (.slice A n c) (.slice none 0 0)).run Try.prog w = .ok A.isNone w := fun w => h1 w 9999
  simp [binOp, h2]
set_option maxRecDepth 100000 in
theorem cloneC_none (c : Nat) (w : World) : Calls Try.prog 55 #[.slice none 0 c] w fun e w' => e = .returned (.slice none 0 0) ∧ w' = w := by
  go_enter Try.func55, Try.ntmps55
  go_wp2
  rw [nil_eqlC]
  go_wp2
  go_ret
  exact ⟨rfl, rfl⟩
set_option maxRecDepth 100000 in
theorem cloneC_zero (a : Addr) (c : Nat) (w : World) : Calls Try.prog 55 #[.slice (some a) 0 c] w fun e w' => ∃ A, e = .returned (.slice A 0 0) ∧ Below w.heap.size w w' ∧ w.drawn ≤ w'.drawn := by
  go_enter Try.func55, Try.ntmps55
  go_wp2
  rw [nil_eqlC]
  go_wp2
  go_ret
  exact ⟨_, rfl, Below.alloc (Below.refl _ _) (Nat.le_refl _) _, Nat.le_refl _⟩
end Go.Proofs.Ytkfkfihjdohjfaa
end
section
/- A summary that hands back a made row as a row of the caller's own. -/
namespace Go.Proofs.Ytkfkfihjdohjfaa.Sym
open Go.RowKit

section
variable {cod : Nat → Codec} {P : Program}
theorem scal_env {env env' : Env} {N N' : Nat} {c : Cell} {v : Value} (h : c.scalar = true) (hr : crel env N c v) : crel env' N' c v := by
  rw [scalar_val h hr]
  exact scalar_rel h
theorem scals_env {env env' : Env} {N N' : Nat} : ∀ {es : List Cell} {vs : List Value}, es.all Cell.scalar = true → F2 (vrel1 env N) (es.map SV.c) vs → F2 (vrel1 env' N') (es.map SV.c) vs
  | [], _, _, .nil => .nil
  | c :: es, _, h, .cons hc ht => by
    simp only [List.all_cons, Bool.and_eq_true] at h
    exact .cons (scal_env h.1 hc) (scals_env h.2 ht)
/-- The new row of a result as an own one. -/
inductive ArrOwn (N : Nat) : SV → Heap cod → SV → Heap cod → Prop where
  | tup (u : Nat) (l : List (cod u).α) (e : TypeId) (es : List Cell) (h : es.all Cell.scalar = true) (hl : 0 < l.length) :
    ArrOwn N (.tup (.c (.slc N 0 l.length true) :: es.map .c)) [.arr u l e] (.tup (.c (.own N l.length) :: es.map .c)) [.own u l e]
  | one (u : Nat) (l : List (cod u).α) (e : TypeId) (hl : 0 < l.length) :
    ArrOwn N (.c (.slc N 0 l.length true)) [.arr u l e] (.c (.own N l.length)) [.own u l e]
theorem arr_own_cell {env env' : Env} {H : Heap cod} {w w' : World} {u : Nat} {l : List (cod u).α} {e : TypeId} (hl : 0 < l.length) (G : Good env H w (newIn w)) (hb : w.heap.size ≤ w'.heap.size) (hk : ∀ k, k < w.heap.size → w'.heap[k]? = w.heap[k]?)
    (hg : Good env' (H ++ [.arr u l e]) w' (newIn w)) {v : Value} (hv : crel env' (H.length + 1) (.slc H.length 0 l.length true) v) :
    ∃ env2, EnvEq H.length env env2 ∧ crel env2 (H.length + 1) (.own H.length l.length) v ∧ Good env2 (H ++ [.own u l e]) w' (newIn w) := by
  obtain ⟨h1, A, c, rfl, h2, h3, h4, h5⟩ := hv
  have hc := h4 rfl
  subst hc
  have hA := h5 hl
  subst hA
  have ho := hg.obj H.length (.arr u l e) (by simp)
  obtain ⟨o1, o2, o3, o4⟩ := ho
  have hadr : (env' H.length).addr 0 0 = ⟨(env' H.length).block, 0, none⟩ := by simp [HV.addr, o1]
  have own : w'.ownsRow 0 e (cod u).size (.slice (some ((env' H.length).addr 0 0)) l.length l.length) l.length (vals (cod u) l) := by
    refine ⟨vals_len _ _, .inr ⟨(env' H.length).block, l.length, (vals (cod u) l).toArray, by rw [hadr], Nat.zero_le _, o4, Nat.le_refl _, h3, by simp [vals_len], ?_⟩⟩
    rw [List.toList_toArray, ← vals_len, List.take_length]
  refine ⟨env.set H.length ⟨(Value.slice (some ((env' H.length).addr 0 0)) l.length l.length).ownBlock.getD 0, 0, (cod u).size, .slice (some ((env' H.length).addr 0 0)) l.length l.length⟩, Env.set_eq env _ _, own_cell own rfl _ (by omega) (Env.set_same _ _ _), ?_⟩
  refine G.push _ _ hb hk (own_obj own (fun b hb => ?_) _ _) (fun b hb => ?_)
  · simp only [Value.ownBlock, hadr, Option.some.injEq] at hb
    rw [← hb]
    exact o3
  simp only [HObj.has, Value.ownBlock, Option.some.injEq] at hb
  rw [← hb]
  exact o3
theorem Sound.arr_own {g : FuncId} {s s' : Summ cod} (h : Sound P cod g s) (hs : ∀ (args : List SV) (H : Heap cod) (r : SV) (news : Heap cod), (s' args H).gives (r, news) → (s args H).gives (r, news) ∨ ∃ r0 news0, ArrOwn H.length r0 news0 r news ∧ (s args H).gives (r0, news0)) : Sound P cod g s' := by
  refine ⟨h.enters, fun args H env w vs r news hro G ha hg => ?_⟩
  rcases hs args H r news hg with hg | ⟨r0, news0, hc, hg⟩
  · exact h.calls args H env w vs r news hro G ha hg
  · refine (h.calls args H env w vs r0 news0 hro G ha hg).mono ?_
    rintro e w' ⟨v, env', rfl, heq, hv, hgd, hb⟩
    cases hc with
    | tup u l e es he hl =>
      obtain ⟨us, rfl, hu⟩ := hv
      generalize hus : us.toList = ul at hu
      cases hu with
      | @cons _ v0 _ vs' h0 ht =>
        obtain ⟨env2, g1, g2, g3⟩ := arr_own_cell hl G hb.below.size (fun k hk => hb.below.block k hk) hgd h0
        exact ⟨_, env2, rfl, g1, ⟨us, rfl, by rw [hus]; exact .cons g2 (scals_env he ht)⟩, g3, hb⟩
    | one u l e hl =>
      obtain ⟨env2, g1, g2, g3⟩ := arr_own_cell hl G hb.below.size (fun k hk => hb.below.block k hk) hgd hv
      exact ⟨_, env2, rfl, g1, g2, g3, hb⟩
end
end Go.Proofs.Ytkfkfihjdohjfaa.Sym
end
section
/- A function that puts a row's elements into another order, in their place: a summary out of the library's own contract. -/
namespace Go.Proofs.Ytkfkfihjdohjfaa.Sym
open Go.RowKit Go.Sort

section
variable {cod : Nat → Codec} {P : Program}
/-- Function values without captured variables. -/
def fnArgs : List SV → Option (List FuncId)
  | [] => some []
  | .c (.fn g []) :: l => (fnArgs l).map (g :: ·)
  | _ => none
def fnVals (ex : List FuncId) : List Value := ex.map fun g => .func (.func g) #[] #[]
theorem fnArgs_rel {env : Env} {N : Nat} : ∀ {aas : List SV} {vs : List Value} {ex : List FuncId}, fnArgs aas = some ex → F2 (vrel env N) aas vs → vs = fnVals ex
  | [], _, _, h, hv => by
    cases hv
    cases h
    rfl
  | a :: aas, _, ex, h, hv => by
    cases hv with
    | @cons _ v _ vs hx hxs =>
      unfold fnArgs at h
      split at h
      · rename_i e; cases e
      · rename_i g l e
        simp only [List.cons.injEq] at e
        obtain ⟨rfl, rfl⟩ := e
        obtain ⟨ex', h1, rfl⟩ := Option.map_eq_some_iff.1 h
        have h2 := fnArgs_rel h1 hxs
        obtain ⟨_, h3⟩ := hx
        rw [h2, h3]
        rfl
      · cases h
noncomputable def s_perm (u : Nat) (ex : List FuncId) (f : List (cod u).α → List (cod u).α) : Summ cod := fun args H => match args, H with
  | .c (.own 0 _) :: aas, [.own v l ty] => if h : v = u then (if fnArgs aas = some ex then .need (l.length ≤ 1000000) (.ret (.tup [], [.own u (f (h ▸ l)) ty])) else .fail) else .fail
  | .c (.slc 0 0 n _) :: aas, [.arr v l ty] => if h : v = u then (if fnArgs aas = some ex then .need (n = l.length ∧ l.length ≤ 1000000) (.ret (.tup [], [.arr u (f (h ▸ l)) ty])) else .fail) else .fail
  | _, _ => .fail
/-- The row at the beginning of a block. -/
def RowAt (w : World) (b : Nat) (vs : List Value) : Prop := ∃ cur e, w.heap[b]? = some (.cells cur e (0, 0)) ∧ cur.toList.take vs.length = vs
theorem RowAt.holds {β : Type} [Inhabited β] {e' : β → Value} {w : World} {b : Nat} {D : Array β} (h : RowAt w b (D.toList.map e')) : Holds e' w b 0 D := by
  obtain ⟨cur, e, hb, ht⟩ := h
  rw [List.length_map, Array.length_toList] at ht
  intro j hj
  refine ⟨?_, by simp [World.frozen?, hb]⟩
  have h1 : (cur.toList.take D.size)[j]? = (D.toList.map e')[j]? := by rw [ht]
  rw [List.getElem?_take_of_lt hj] at h1
  simp only [World.cell?, hb, Nat.zero_add]
  simp only [Option.isSome_none, Bool.false_eq_true, if_false]
  rw [← Array.getElem?_toList, h1]
  simp [hj]
theorem RowAt.lt {w : World} {b : Nat} {vs : List Value} (h : RowAt w b vs) : b < w.heap.size := by
  obtain ⟨cur, e, hb, _⟩ := h
  exact (Array.getElem?_eq_some_iff.1 hb).1
theorem heap_put {β : Type} [Inhabited β] (e' : β → Value) {w : World} {g n : Nat} {os : Array Obj} {cur : Array Value} {e : TypeId} {fr : Nat × Nat} (d : Array β) (hb : w.heap[g]? = some (.cells cur e fr)) :
    (grow (putRow e' (Sort.ahead w n) g 0 d) os).heap[g]? = some (.cells (putCells e' 0 d cur) e fr) := by
  have hg : g < w.heap.size := (Array.getElem?_eq_some_iff.1 hb).1
  rw [heap_grow_old _ _ (by simpa using hg)]
  simp [putRow, mapBlock, Sort.ahead, Array.getElem?_modify, hb, onCells]
theorem take_put {β : Type} [Inhabited β] (e' : β → Value) (cur : Array Value) (d : Array β) (h : d.size ≤ cur.size) : (putCells e' 0 d cur).toList.take d.size = d.toList.map e' := by
  apply List.ext_getElem?
  intro j
  by_cases hj : j < d.size
  · rw [List.getElem?_take_of_lt hj, Array.getElem?_toList]
    simp [putCells, hj, show j < cur.size by omega]
  · rw [List.getElem?_take_eq_none (by omega), List.getElem?_eq_none (by simp; omega)]
theorem kin_put {β : Type} [Inhabited β] (e' : β → Value) {w : World} {g n : Nat} {os : Array Obj} (d : Array β) {M : Nat → Prop} (hM : M g) : Kin M w (grow (putRow e' (Sort.ahead w n) g 0 d) os) := by
  refine ⟨rfl, rfl, rfl, by simp, fun k hk hne => ?_, dl_mono (Nat.le_add_right _ _)⟩
  rw [heap_grow_old _ _ (by simpa using hk)]
  have : g ≠ k := fun e => hne (by rw [← e]; exact hM)
  simp [putRow, mapBlock, Sort.ahead, Array.getElem?_modify, this]
theorem enters_fn {f : FuncId} {fn : Func} (hf : P.funcs[f]? = some fn) (hb : fn.body.isSome = true) (hname : (fn.name == "runtime.NumGoroutine") = false) (args : Array Value) (w : World) : (callFunc f args).run P w = .ok (.enter f args) w := by
  obtain ⟨code, hcode⟩ := Option.isSome_iff_exists.1 hb
  simp [callFunc, hf, hcode]
  simpa using hname
/-- What is asked of the function: at no element nothing turns; else the row holds what f gives. -/
structure Perms (P : Program) (cod : Nat → Codec) (g : FuncId) (u : Nat) (ex : List FuncId) (f : List (cod u).α → List (cod u).α) (β : Type) [Inhabited β] (e' : β → Value) : Prop where
  enters : ∀ args w, (callFunc g args).run P w = .ok (.enter g args) w
  len : ∀ l, (f l).length = l.length
  none : ∀ p cap w, Calls P g (Value.slice p 0 cap :: fnVals ex).toArray w fun e w' => e = .returned (.tuple #[]) ∧ w' = w
  some : ∀ (b cap : Nat) (l : List (cod u).α) (w : World), l ≠ [] → l.length ≤ 1000000 → RowAt w b (vals (cod u) l) →
    Calls P g (Value.slice (.some ⟨b, 0, Option.none⟩) l.length cap :: fnVals ex).toArray w fun e w' => e = .returned (.tuple #[]) ∧ ∃ (n : Nat) (os : Array Obj) (D : Array β), D.toList.map e' = vals (cod u) (f l) ∧ w' = grow (putRow e' (Sort.ahead w n) b 0 D) os
theorem perm_sound {g : FuncId} {u : Nat} {ex : List FuncId} {f : List (cod u).α → List (cod u).α} {β : Type} [Inhabited β] {e' : β → Value} (h : Perms P cod g u ex f β e') : SoundIK P cod g true (s_perm u ex f) := by
  refine ⟨h.enters, fun args H env w vs r H' G ha hg => ?_⟩
  have nores : vrel env 1 (.tup []) (.tuple #[]) := ⟨#[], rfl, .nil⟩
  have one : ∀ {o : HObj cod} {i : Nat} {o' : HObj cod}, [o][i]? = some o' → i = 0 ∧ o' = o := by
    intro o i o' hi
    cases i with
    | zero => simp at hi; exact ⟨rfl, hi.symm⟩
    | succ i => simp at hi
  unfold s_perm at hg
  split at hg
  · rename_i n aas v l ty
    split at hg
    · rename_i hv
      subst hv
      split at hg
      · rename_i hex
        rw [T.gives_need, T.gives_ret] at hg
        obtain ⟨hsz, hg⟩ := hg
        simp only [Prod.mk.injEq] at hg
        obtain ⟨rfl, rfl⟩ := hg
        cases ha with
        | @cons _ v0 _ vs hx hxs =>
          have hvs := fnArgs_rel hex hxs
          subst hvs
          obtain ⟨_, hval, A, c, hA, _⟩ := hx
          obtain ⟨o1, o2, o3, o4, o5⟩ := G.obj 0 (.own v l ty) (by simp)
          have hlen : n = l.length := by
            rw [← hval, hA] at o3
            rcases o3.2 with ⟨e, hz⟩ | ⟨g, cap, cur, e, _⟩
            · simp only [Value.slice.injEq] at e; omega
            · simp only [Value.slice.injEq] at e; omega
          subst hlen
          by_cases hl : l = []
          · subst hl
            have hf : f [] = [] := List.eq_nil_of_length_eq_zero (h.len [])
            rw [hA]
            refine (h.none A c w).mono ?_
            rintro e w' ⟨rfl, rfl⟩
            refine ⟨_, env, rfl, fun _ _ _ => rfl, nores, fun i o ho _ => ?_, fun i j o o' b hne ho ho' => ?_, Kin.refl _ _⟩
            · obtain ⟨rfl, rfl⟩ := one ho
              show objRel env _ _ _ _ (.own v (f []) ty)
              rw [hf]
              exact G.obj 0 _ (by simp)
            · exact absurd ((one ho).1.trans (one ho').1.symm) hne
          · rcases o3.2 with ⟨e, hz⟩ | ⟨b, cap, cur, e, hb0, hb, hnc, hcm, hcs, htk⟩
            · exact absurd (List.eq_nil_of_length_eq_zero hz) hl
            · have hrow : RowAt w b (vals (cod v) l) := ⟨cur, ty, hb, by rw [vals_len]; exact htk⟩
              have hM : mineOf [HObj.own v l ty] env w b := .inr ⟨0, _, rfl, rfl, by simp [HObj.has, e, Value.ownBlock]⟩
              rw [hval, e]
              refine (h.some b cap l w hl hsz hrow).mono ?_
              rintro _ w' ⟨rfl, k, os, D, hD, rfl⟩
              have hDs : D.size = l.length * (cod v).size := by
                have := congrArg List.length hD
                rw [List.length_map, Array.length_toList, vals_len, h.len] at this
                exact this
              have hle : D.size ≤ cur.size := by
                rw [hDs, hcs]
                exact Nat.mul_le_mul_right _ hnc
              refine ⟨_, env, rfl, fun _ _ _ => rfl, nores, fun i o ho _ => ?_, fun i j o o' b hne ho ho' => ?_, kin_put e' D hM⟩
              · obtain ⟨rfl, rfl⟩ := one ho
                refine ⟨o1, o2, ⟨by rw [vals_len], .inr ⟨b, cap, _, by rw [h.len]; exact e, hb0, heap_put e' D hb, by rw [h.len]; exact hnc, hcm, by simp [putCells, hcs], ?_⟩⟩, fun q hq => .inr ⟨0, _, rfl, rfl, hq⟩, o5⟩
                rw [h.len, ← hDs, ← hD]
                exact take_put e' cur D hle
              · exact absurd ((one ho).1.trans (one ho').1.symm) hne
      · exact hg.elim
    · exact hg.elim
  · rename_i n t aas v l ty
    split at hg
    · rename_i hv
      subst hv
      split at hg
      · rename_i hex
        rw [T.gives_need, T.gives_ret] at hg
        obtain ⟨⟨rfl, hsz⟩, hg⟩ := hg
        simp only [Prod.mk.injEq] at hg
        obtain ⟨rfl, rfl⟩ := hg
        cases ha with
        | @cons _ v0 _ vs hx hxs =>
          have hvs := fnArgs_rel hex hxs
          subst hvs
          obtain ⟨_, A, c, rfl, hc1, hc2, _, hA⟩ := hx
          obtain ⟨o1, o2, o3, o4⟩ := G.obj 0 (.arr v l ty) (by simp)
          by_cases hl : l = []
          · subst hl
            have hf : f [] = [] := List.eq_nil_of_length_eq_zero (h.len [])
            refine (h.none A c w).mono ?_
            rintro e w' ⟨rfl, rfl⟩
            refine ⟨_, env, rfl, fun _ _ _ => rfl, nores, fun i o ho _ => ?_, fun i j o o' b hne ho ho' => ?_, Kin.refl _ _⟩
            · obtain ⟨rfl, rfl⟩ := one ho
              show objRel env _ _ _ _ (.arr v (f []) ty)
              rw [hf]
              exact G.obj 0 _ (by simp)
            · exact absurd ((one ho).1.trans (one ho').1.symm) hne
          · have hp : 0 < l.length := List.length_pos_iff.2 hl
            have e := hA hp
            have hadr : (env 0).addr 0 0 = ⟨(env 0).block, 0, none⟩ := by simp [HV.addr, o1]
            rw [hadr] at e
            subst e
            have hrow : RowAt w (env 0).block (vals (cod v) l) := ⟨_, ty, o4, by simp⟩
            have hM : mineOf [HObj.arr v l ty] env w (env 0).block := .inr ⟨0, _, rfl, rfl, rfl⟩
            refine (h.some (env 0).block c l w hl hsz hrow).mono ?_
            rintro _ w' ⟨rfl, k, os, D, hD, rfl⟩
            have hDs : D.size = l.length * (cod v).size := by
              have := congrArg List.length hD
              rw [List.length_map, Array.length_toList, vals_len, h.len] at this
              exact this
            refine ⟨_, env, rfl, fun _ _ _ => rfl, nores, fun i o ho _ => ?_, fun i j o o' b hne ho ho' => ?_, kin_put e' D hM⟩
            · obtain ⟨rfl, rfl⟩ := one ho
              refine ⟨o1, o2, hM, ?_⟩
              rw [heap_put e' D o4]
              congr 2
              apply Array.ext'
              have h1 := take_put e' (vals (cod v) l).toArray D (by rw [hDs]; simp [vals_len])
              rw [hD] at h1
              rw [← h1, List.take_of_length_le]
              rw [Array.length_toList]
              simp [putCells, hDs, vals_len]
            · exact absurd ((one ho).1.trans (one ho').1.symm) hne
      · exact hg.elim
    · exact hg.elim
  · exact hg.elim
end
end Go.Proofs.Ytkfkfihjdohjfaa.Sym
end
