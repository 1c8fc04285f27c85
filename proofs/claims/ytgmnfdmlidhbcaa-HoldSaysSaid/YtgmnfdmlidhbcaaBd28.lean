/- Parts of the proof, one behind the other: Sym26, RowW. -/
import Derived.Test.YtgmnfdmlidhbcaaBd23
import Derived.Sort.Grow
import Derived.WalkKit
import Derived.Lib.SliceRun
import Derived.Laws.IdiomCopy
import Derived.Laws.AppendOwn
import Derived.Deep.AppendSrc
import Derived.Test.YtgmnfdmlidhbcaaBd2
section
/- A function that puts a row's elements into another order, in their place: a summary out of the library's own contract. -/
namespace Go.Proofs.Ytgmnfdmlidhbcaa.Sym
open Go.RowKit Go.Sort

section
variable {cod : Nat → Codec} {P : Program}
/-- Function values without captured variables. -/
def fnArgs : List SV → Option (List FuncId)
  | [] => some []
  | .c (.fn g []) :: l => (fnArgs l).map (g :: ·)
  | _ => none
def fnVals (ex : List FuncId) : List Value := ex.map fun g => .func (.func g) #[] #[]
theorem fnArgs_rel {env : Env} {N : Nat} : ∀ {aas : List SV} {vs : List Value} {ex : List FuncId}, fnArgs aas = some ex → F2 (vrel env N) aas vs → vs = fnVals ex
  | [], _, _, h, hv => by
    cases hv
    cases h
    rfl
  | a :: aas, _, ex, h, hv => by
    cases hv with
    | @cons _ v _ vs hx hxs =>
      unfold fnArgs at h
      split at h
      · rename_i e; cases e
      · rename_i g l e
        simp only [List.cons.injEq] at e
        obtain ⟨rfl, rfl⟩ := e
        obtain ⟨ex', h1, rfl⟩ := Option.map_eq_some_iff.1 h
        have h2 := fnArgs_rel h1 hxs
        obtain ⟨_, h3⟩ := hx
        rw [h2, h3]
        rfl
      · cases h
noncomputable def s_perm (u : Nat) (ex : List FuncId) (f : List (cod u).α → List (cod u).α) : Summ cod := fun args H => match args, H with
  | .c (.own 0 _) :: aas, [.own v l ty] => if h : v = u then (if fnArgs aas = some ex then .need (l.length ≤ 1000000) (.ret (.tup [], [.own u (f (h ▸ l)) ty])) else .fail) else .fail
  | .c (.slc 0 0 n _) :: aas, [.arr v l ty] => if h : v = u then (if fnArgs aas = some ex then .need (n = l.length ∧ l.length ≤ 1000000) (.ret (.tup [], [.arr u (f (h ▸ l)) ty])) else .fail) else .fail
  | _, _ => .fail
/-- The row at the beginning of a block. -/
def RowAt (w : World) (b : Nat) (vs : List Value) : Prop := ∃ cur e, w.heap[b]? = some (.cells cur e (0, 0)) ∧ cur.toList.take vs.length = vs
theorem RowAt.holds {β : Type} [Inhabited β] {e' : β → Value} {w : World} {b : Nat} {D : Array β} (h : RowAt w b (D.toList.map e')) : Holds e' w b 0 D := by
  obtain ⟨cur, e, hb, ht⟩ := h
  rw [List.length_map, Array.length_toList] at ht
  intro j hj
  refine ⟨?_, by simp [World.frozen?, hb]⟩
  have h1 : (cur.toList.take D.size)[j]? = (D.toList.map e')[j]? := by rw [ht]
  rw [List.getElem?_take_of_lt hj] at h1
  simp only [World.cell?, hb, Nat.zero_add]
  simp only [Option.isSome_none, Bool.false_eq_true, if_false]
  rw [← Array.getElem?_toList, h1]
  simp [hj]
theorem RowAt.lt {w : World} {b : Nat} {vs : List Value} (h : RowAt w b vs) : b < w.heap.size := by
  obtain ⟨cur, e, hb, _⟩ := h
  exact (Array.getElem?_eq_some_iff.1 hb).1
theorem heap_put {β : Type} [Inhabited β] (e' : β → Value) {w : World} {g n : Nat} {os : Array Obj} {cur : Array Value} {e : TypeId} {fr : Nat × Nat} (d : Array β) (hb : w.heap[g]? = some (.cells cur e fr)) :
    (grow (putRow e' (Sort.ahead w n) g 0 d) os).heap[g]? = some (.cells (putCells e' 0 d cur) e fr) := by
  have hg : g < w.heap.size := (Array.getElem?_eq_some_iff.1 hb).1
  rw [heap_grow_old _ _ (by simpa using hg)]
  simp [putRow, mapBlock, Sort.ahead, Array.getElem?_modify, hb, onCells]
theorem take_put {β : Type} [Inhabited β] (e' : β → Value) (cur : Array Value) (d : Array β) (h : d.size ≤ cur.size) : (putCells e' 0 d cur).toList.take d.size = d.toList.map e' := by
  apply List.ext_getElem?
  intro j
  by_cases hj : j < d.size
  · rw [List.getElem?_take_of_lt hj, Array.getElem?_toList]
    simp [putCells, hj, show j < cur.size by omega]
  · rw [List.getElem?_take_eq_none (by omega), List.getElem?_eq_none (by simp; omega)]
theorem kin_put {β : Type} [Inhabited β] (e' : β → Value) {w : World} {g n : Nat} {os : Array Obj} (d : Array β) {M : Nat → Prop} (hM : M g) : Kin M w (grow (putRow e' (Sort.ahead w n) g 0 d) os) := by
  refine ⟨rfl, rfl, rfl, by simp, fun k hk hne => ?_, dl_mono (Nat.le_add_right _ _)⟩
  rw [heap_grow_old _ _ (by simpa using hk)]
  have : g ≠ k := fun e => hne (by rw [← e]; exact hM)
  simp [putRow, mapBlock, Sort.ahead, Array.getElem?_modify, this]
theorem enters_fn {f : FuncId} {fn : Func} (hf : P.funcs[f]? = some fn) (hb : fn.body.isSome = true) (hname : (fn.name == "runtime.NumGoroutine") = false) (args : Array Value) (w : World) : (callFunc f args).run P w = .ok (.enter f args) w := by
  obtain ⟨code, hcode⟩ := Option.isSome_iff_exists.1 hb
  simp [callFunc, hf, hcode]
  simpa using hname
/-- What is asked of the function: at no element nothing turns; else the row holds what f gives. -/
structure Perms (P : Program) (cod : Nat → Codec) (g : FuncId) (u : Nat) (ex : List FuncId) (f : List (cod u).α → List (cod u).α) (β : Type) [Inhabited β] (e' : β → Value) : Prop where
  enters : ∀ args w, (callFunc g args).run P w = .ok (.enter g args) w
  len : ∀ l, (f l).length = l.length
  none : ∀ p cap w, Calls P g (Value.slice p 0 cap :: fnVals ex).toArray w fun e w' => e = .returned (.tuple #[]) ∧ w' = w
  some : ∀ (b cap : Nat) (l : List (cod u).α) (w : World), l ≠ [] → l.length ≤ 1000000 → RowAt w b (vals (cod u) l) →
    Calls P g (Value.slice (.some ⟨b, 0, Option.none⟩) l.length cap :: fnVals ex).toArray w fun e w' => e = .returned (.tuple #[]) ∧ ∃ (n : Nat) (os : Array Obj) (D : Array β), D.toList.map e' = vals (cod u) (f l) ∧ w' = grow (putRow e' (Sort.ahead w n) b 0 D) os
theorem perm_sound {g : FuncId} {u : Nat} {ex : List FuncId} {f : List (cod u).α → List (cod u).α} {β : Type} [Inhabited β] {e' : β → Value} (h : Perms P cod g u ex f β e') : SoundIK P cod g true (s_perm u ex f) := by
  refine ⟨h.enters, fun args H env w vs r H' G ha hg => ?_⟩
  have nores : vrel env 1 (.tup []) (.tuple #[]) := ⟨#[], rfl, .nil⟩
  have one : ∀ {o : HObj cod} {i : Nat} {o' : HObj cod}, [o][i]? = some o' → i = 0 ∧ o' = o := by
    intro o i o' hi
    cases i with
    | zero => simp at hi; exact ⟨rfl, hi.symm⟩
    | succ i => simp at hi
  unfold s_perm at hg
  split at hg
  · rename_i n aas v l ty
    split at hg
    · rename_i hv
      subst hv
      split at hg
      · rename_i hex
        rw [T.gives_need, T.gives_ret] at hg
        obtain ⟨hsz, hg⟩ := hg
        simp only [Prod.mk.injEq] at hg
        obtain ⟨rfl, rfl⟩ := hg
        cases ha with
        | @cons _ v0 _ vs hx hxs =>
          have hvs := fnArgs_rel hex hxs
          subst hvs
          obtain ⟨_, hval, A, c, hA, _⟩ := hx
          obtain ⟨o1, o2, o3, o4, o5⟩ := G.obj 0 (.own v l ty) (by simp)
          have hlen : n = l.length := by
            rw [← hval, hA] at o3
            rcases o3.2 with ⟨e, hz⟩ | ⟨g, cap, cur, e, _⟩
            · simp only [Value.slice.injEq] at e; omega
            · simp only [Value.slice.injEq] at e; omega
          subst hlen
          by_cases hl : l = []
          · subst hl
            have hf : f [] = [] := List.eq_nil_of_length_eq_zero (h.len [])
            rw [hA]
            refine (h.none A c w).mono ?_
            rintro e w' ⟨rfl, rfl⟩
            refine ⟨_, env, rfl, fun _ _ _ => rfl, nores, fun i o ho _ => ?_, fun i j o o' b hne ho ho' => ?_, Kin.refl _ _⟩
            · obtain ⟨rfl, rfl⟩ := one ho
              show objRel env _ _ _ _ (.own v (f []) ty)
              rw [hf]
              exact G.obj 0 _ (by simp)
            · exact absurd ((one ho).1.trans (one ho').1.symm) hne
          · rcases o3.2 with ⟨e, hz⟩ | ⟨b, cap, cur, e, hb0, hb, hnc, hcm, hcs, htk⟩
            · exact absurd (List.eq_nil_of_length_eq_zero hz) hl
            · have hrow : RowAt w b (vals (cod v) l) := ⟨cur, ty, hb, by rw [vals_len]; exact htk⟩
              have hM : mineOf [HObj.own v l ty] env w b := .inr ⟨0, _, rfl, rfl, by simp [HObj.has, e, Value.ownBlock]⟩
              rw [hval, e]
              refine (h.some b cap l w hl hsz hrow).mono ?_
              rintro _ w' ⟨rfl, k, os, D, hD, rfl⟩
              have hDs : D.size = l.length * (cod v).size := by
                have := congrArg List.length hD
                rw [List.length_map, Array.length_toList, vals_len, h.len] at this
                exact this
              have hle : D.size ≤ cur.size := by
                rw [hDs, hcs]
                exact Nat.mul_le_mul_right _ hnc
              refine ⟨_, env, rfl, fun _ _ _ => rfl, nores, fun i o ho _ => ?_, fun i j o o' b hne ho ho' => ?_, kin_put e' D hM⟩
              · obtain ⟨rfl, rfl⟩ := one ho
                refine ⟨o1, o2, ⟨by rw [vals_len], .inr ⟨b, cap, _, by rw [h.len]; exact e, hb0, heap_put e' D hb, by rw [h.len]; exact hnc, hcm, by simp [putCells, hcs], ?_⟩⟩, fun q hq => .inr ⟨0, _, rfl, rfl, hq⟩, o5⟩
                rw [h.len, ← hDs, ← hD]
                exact take_put e' cur D hle
              · exact absurd ((one ho).1.trans (one ho').1.symm) hne
      · exact hg.elim
    · exact hg.elim
  · rename_i n t aas v l ty
    split at hg
    · rename_i hv
      subst hv
      split at hg
      · rename_i hex
        rw [T.gives_need, T.gives_ret] at hg
        obtain ⟨⟨rfl, hsz⟩, hg⟩ := hg
        simp only [Prod.mk.injEq] at hg
        obtain ⟨rfl, rfl⟩ := hg
        cases ha with
        | @cons _ v0 _ vs hx hxs =>
          have hvs := fnArgs_rel hex hxs
          subst hvs
          obtain ⟨_, A, c, rfl, hc1, hc2, _, hA⟩ := hx
          obtain ⟨o1, o2, o3, o4⟩ := G.obj 0 (.arr v l ty) (by simp)
          by_cases hl : l = []
          · subst hl
            have hf : f [] = [] := List.eq_nil_of_length_eq_zero (h.len [])
            refine (h.none A c w).mono ?_
            rintro e w' ⟨rfl, rfl⟩
            refine ⟨_, env, rfl, fun _ _ _ => rfl, nores, fun i o ho _ => ?_, fun i j o o' b hne ho ho' => ?_, Kin.refl _ _⟩
            · obtain ⟨rfl, rfl⟩ := one ho
              show objRel env _ _ _ _ (.arr v (f []) ty)
              rw [hf]
              exact G.obj 0 _ (by simp)
            · exact absurd ((one ho).1.trans (one ho').1.symm) hne
          · have hp : 0 < l.length := List.length_pos_iff.2 hl
            have e := hA hp
            have hadr : (env 0).addr 0 0 = ⟨(env 0).block, 0, none⟩ := by simp [HV.addr, o1]
            rw [hadr] at e
            subst e
            have hrow : RowAt w (env 0).block (vals (cod v) l) := ⟨_, ty, o4, by simp⟩
            have hM : mineOf [HObj.arr v l ty] env w (env 0).block := .inr ⟨0, _, rfl, rfl, rfl⟩
            refine (h.some (env 0).block c l w hl hsz hrow).mono ?_
            rintro _ w' ⟨rfl, k, os, D, hD, rfl⟩
            have hDs : D.size = l.length * (cod v).size := by
              have := congrArg List.length hD
              rw [List.length_map, Array.length_toList, vals_len, h.len] at this
              exact this
            refine ⟨_, env, rfl, fun _ _ _ => rfl, nores, fun i o ho _ => ?_, fun i j o o' b hne ho ho' => ?_, kin_put e' D hM⟩
            · obtain ⟨rfl, rfl⟩ := one ho
              refine ⟨o1, o2, hM, ?_⟩
              rw [heap_put e' D o4]
              congr 2
              apply Array.ext'
              have h1 := take_put e' (vals (cod v) l).toArray D (by rw [hDs]; simp [vals_len])
              rw [hD] at h1
              rw [← h1, List.take_of_length_le]
              rw [Array.length_toList]
              simp [putCells, hDs, vals_len]
            · exact absurd ((one ho).1.trans (one ho').1.symm) hne
      · exact hg.elim
    · exact hg.elim
  · exact hg.elim
end
end Go.Proofs.Ytgmnfdmlidhbcaa.Sym
end
section
/-
  Rows of structs in memory: cells written over, 'copy' and 'clear' at elements of several cells. No program in sight.
-/
namespace Go.Proofs.Ytgmnfdmlidhbcaa.RowW
open Go.RowKit
variable {P : Program}

/-- The cells with others laid over them from place o on. -/
def ovl (cur : Array Value) : Nat → List Value → Array Value
  | _, [] => cur
  | o, v :: r => ovl (cur.setIfInBounds o v) (o + 1) r
theorem ovl_size : ∀ (vs : List Value) (o : Nat) (cur : Array Value), (ovl cur o vs).size = cur.size
  | [], _, _ => rfl
  | v :: r, o, cur => by rw [ovl, ovl_size r, Array.size_setIfInBounds]
theorem ovl_list : ∀ (vs : List Value) (o : Nat) (cur : Array Value), o + vs.length ≤ cur.size → (ovl cur o vs).toList = cur.toList.take o ++ (vs ++ cur.toList.drop (o + vs.length))
  | [], o, cur, _ => by simp [ovl]
  | v :: r, o, cur, h => by
    rw [List.length_cons] at h
    rw [ovl, ovl_list r (o + 1) _ (by rw [Array.size_setIfInBounds]; omega), Array.toList_setIfInBounds]
    have hl : o < cur.toList.length := by rw [Array.length_toList]; omega
    rw [List.take_set, List.drop_set, if_pos (by omega), List.length_cons]
    have h1 : (List.take (o + 1) cur.toList).set o v = cur.toList.take o ++ [v] := by
      rw [List.take_succ_eq_append_getElem hl, List.set_append_right _ _ (by rw [List.length_take]; omega), List.length_take]
      rw [show o - min o cur.toList.length = 0 by omega]
      rfl
    rw [h1, show o + 1 + r.length = o + (r.length + 1) by omega]
    simp
theorem heap_setCells {g : Nat} {ty : TypeId} {fr : Nat × Nat} : ∀ (vs : List Value) (o : Nat) (w : World) (cur : Array Value), w.heap[g]? = some (.cells cur ty fr) → (w.setCells g o vs).heap[g]? = some (.cells (ovl cur o vs) ty fr)
  | [], _, _, _, h => h
  | v :: r, o, w, cur, h => by
    rw [World.setCells, ovl]
    refine heap_setCells r (o + 1) _ _ ?_
    simp [World.setCell, Array.getElem?_modify, h]
theorem heap_setCells_ne {g k : Nat} (hk : k ≠ g) : ∀ (vs : List Value) (o : Nat) (w : World), (w.setCells g o vs).heap[k]? = w.heap[k]?
  | [], _, _ => rfl
  | v :: r, o, w => by
    rw [World.setCells, heap_setCells_ne hk r]
    simp [World.setCell, Array.getElem?_modify, Ne.symm hk]
theorem setCells_same (g : Nat) : ∀ (vs : List Value) (o : Nat) (w : World), (w.setCells g o vs).os = w.os ∧ (w.setCells g o vs).tape = w.tape ∧ (w.setCells g o vs).output = w.output ∧ (w.setCells g o vs).heap.size = w.heap.size ∧ (w.setCells g o vs).drawn = w.drawn
  | [], _, _ => ⟨rfl, rfl, rfl, rfl, rfl⟩
  | v :: r, o, w => by
    rw [World.setCells]
    obtain ⟨h1, h2, h3, h4, h5⟩ := setCells_same g r (o + 1) (w.setCell ⟨g, o, none⟩ v)
    exact ⟨h1, h2, h3, by rw [h4]; simp [World.setCell], h5⟩
/-- 'copy' at elements of k cells: all is read before anything is written. -/
theorem run_copy_k (w : World) (dT sT ty elem : TypeId) (b o dLen dCap : Nat) (a : Addr) (sLen sCap k : Nat) (cs : List Value)
    (hu : P.underlying dT = some (.slice elem)) (hs : (P.info? elem).map (·.size) = some k) (hn : cs.length = Nat.min sLen dLen * k)
    (hsrc : ∀ j v, cs[j]? = some v → w.cell? (a.add j) = some v) (hc : ∀ j, j < cs.length → (w.cell? ⟨b, o + j, none⟩).isSome = true) (hf : ∀ j, j < cs.length → w.frozen? ⟨b, o + j, none⟩ = false) (h1 : ∀ v ∈ cs, v.oneCell' = true) :
    (Builtin.copy_ #[dT, sT] ty #[.slice (some ⟨b, o, none⟩) dLen dCap, .slice (some a) sLen sCap]).run P w = .ok (goInt (Nat.min sLen dLen)) (w.setCells b o cs) := by
  have hl := run_loadCells_list (P := P) w a cs hsrc
  have hst := run_storeCells_cells (P := P) b o cs 0 w (by simpa using hc) (by simpa using hf) h1
  cases hq : P.info? elem with
  | none => simp [hq] at hs
  | some i =>
    have hi : i.size = k := by simpa [hq] using hs
    simp [Builtin.copy_, run_underlying hu, Builtin.lenOf, Builtin.firstCells, sizeOf, typeInfo, hq, hi, ← hn, hl, hst]
/-- 'clear' at one element of several cells. -/
theorem run_clear_1 (w : World) (t e ty : TypeId) (z : Value) (zs : List Value) (ht : P.underlying t = some (.slice e)) (hv : ∀ w, (zeroValue e).run P w = .ok z w) (hz : (Builtin.zeroCells z.cells 1).toList = zs) (h1 : ∀ v ∈ zs, v.oneCell' = true) (b o c : Nat)
    (hc : ∀ j, j < zs.length → (w.cell? ⟨b, o + j, none⟩).isSome = true) (hf : ∀ j, j < zs.length → w.frozen? ⟨b, o + j, none⟩ = false) :
    (Builtin.clear_ #[t] ty #[.slice (some ⟨b, o, none⟩) 1 c]).run P w = .ok (.tuple #[]) (w.setCells b o zs) := by
  have hst := run_storeCells_cells (P := P) b o zs 0 w (by simpa using hc) (by simpa using hf) h1
  simp only [Nat.add_zero] at hst
  simp [Builtin.clear_, run_underlying ht, hv, hz, hst]
/-- 'copy(d, s)' in a walk, where its run is known by an equation; and as one step of a region that draws. -/
theorem wp_copy_runK (w : World) {o : Oper} {a : Act} {K : Act → World → Prop} {Q : Exit → Act → World → Prop} (d s : Operand) (t t' : TypeId)
    (ho : o.op = .call { callee := .builtin .copy, args := #[d, s], argTypes := #[t, t'] }) (v u : Value) (hd : a.eval d = v) (hs : a.eval s = u) {v' : Value} {w' : World}
    (hr : (Builtin.copy_ #[t, t'] o.type #[v, u]).run P w = .ok v' w') (h : K (a.put o.dst v') w') : o.wp P a w K Q := by
  unfold Oper.wp execOp
  simp only [ho, resolve, invoke, builtin, Sem.run_bind, Sem.run_pure, Result.andThen_ok, List.map_toArray, List.map_cons, List.map_nil, hd, hs, hr]
  exact h
theorem wpList_copy_runK (w : World) {ops : Array Oper} {rest : List Oper} {o : Oper} {a : Act} {Q : Exit → Act → World → Prop} (hgd : o.guard = none) (d s : Operand) (t t' : TypeId)
    (ho : o.op = .call { callee := .builtin .copy, args := #[d, s], argTypes := #[t, t'] }) (v u : Value) (hd : a.eval d = v) (hs : a.eval s = u) {v' : Value} {w' : World}
    (hr : (Builtin.copy_ #[t, t'] o.type #[v, u]).run P w = .ok v' w') (h : wpList P ops Q rest (a.put o.dst v') w') : wpList P ops Q (o :: rest) a w :=
  wpList_plain hgd fun _ hK => wp_copy_runK w d s t t' ho v u hd hs hr (hK _ _ h)
theorem step_copy_runK {ops : Array Oper} {o : Oper} {a : Act} {w : World} {K : Act → World → Prop} {Q : Exit → Act → World → Prop} {E : Prop}
    (hg : o.guard = none) (d x : Operand) (dT sT : TypeId) (hop : o.op = Op.call { callee := Callee.builtin Builtin.copy, args := #[d, x], argTypes := #[dT, sT] })
    (v u : Value) (hd : a.eval d = v) (hx : a.eval x = u) {v' : Value} {w' : World} (hr : (Builtin.copy_ #[dT, sT] o.type #[v, u]).run P w = .ok v' w') (hK : K (a.put o.dst v') w') :
    if Region.wanted o (yielded ops a.tmps) = true then Oper.wp P o a w K Q else E := by
  have hw : Region.wanted o (yielded ops a.tmps) = true := by simp [Region.wanted, hg]
  rw [if_pos hw]
  unfold Oper.wp
  simp [execOp, hop, resolve, invoke, builtin, hd, hx, hr, Result.andThen]
  exact hK
theorem run_drawn' {α : Type} {s : Sem α} {w : World} {a : α} {w' : World} (h : s.run P w = .ok a w') : w.drawn ≤ w'.drawn := Sym.run_drawn P s w a w' h
theorem shift_list {α : Type} (L vs : List α) (a b K : Nat) (hab : a ≤ b) (hL : b + K ≤ L.length) (hv : vs.length = K) :
    List.take (b + K) (List.take a (List.take (a + K) L ++ (List.drop a (List.take b L) ++ List.drop (a + K + (List.drop a (List.take b L)).length) L)) ++ (vs ++ List.drop (a + K) (List.take (a + K) L ++ (List.drop a (List.take b L) ++ List.drop (a + K + (List.drop a (List.take b L)).length) L)))) = List.take a (List.take b L) ++ (vs ++ List.drop a (List.take b L)) := by
  have l1 : (List.take (a + K) L).length = a + K := by rw [List.length_take]; omega
  have l2 : (List.drop a (List.take b L)).length = b - a := by rw [List.length_drop, List.length_take]; omega
  have l3 : (List.take a (List.take b L)).length = a := by rw [List.length_take, List.length_take]; omega
  generalize List.drop (a + K + (List.drop a (List.take b L)).length) L = Z
  have e1 : List.take a (List.take (a + K) L ++ (List.drop a (List.take b L) ++ Z)) = List.take a (List.take b L) := by
    rw [List.take_append_of_le_length (by omega), List.take_take, List.take_take]
    congr 1
    omega
  have e2 : List.drop (a + K) (List.take (a + K) L ++ (List.drop a (List.take b L) ++ Z)) = List.drop a (List.take b L) ++ Z := by
    rw [List.drop_append_of_le_length (by omega), List.drop_of_length_le (by omega), List.nil_append]
  rw [e1, e2, ← List.append_assoc, ← List.append_assoc, List.take_append_of_le_length (by rw [List.length_append, List.length_append, l3, l2, hv]; omega), List.take_of_length_le (by rw [List.length_append, List.length_append, l3, l2, hv]; omega), List.append_assoc]
theorem grow_list {α : Type} (xs vs W Z : List α) (a b K : Nat) (hab : a ≤ b) (hx : xs.length = b) (hv : vs.length = K) :
    List.take (b + K) (List.take (a + K) (List.take a xs ++ (vs ++ W)) ++ (List.drop a xs ++ Z)) = List.take a xs ++ (vs ++ List.drop a xs) := by
  have l3 : (List.take a xs).length = a := by rw [List.length_take]; omega
  have l2 : (List.drop a xs).length = b - a := by rw [List.length_drop]; omega
  have e1 : List.take (a + K) (List.take a xs ++ (vs ++ W)) = List.take a xs ++ vs := by
    rw [← List.append_assoc, List.take_append_of_le_length (by rw [List.length_append, l3, hv]; omega), List.take_of_length_le (by rw [List.length_append, l3, hv]; omega)]
  rw [e1, ← List.append_assoc, List.take_append_of_le_length (by rw [List.length_append, List.length_append, l3, l2, hv]; omega), List.take_of_length_le (by rw [List.length_append, List.length_append, l3, l2, hv]; omega), List.append_assoc]
/-- A block's cells, one by one. -/
theorem cell_at {w : World} {g : Nat} {cur : Array Value} {ty : TypeId} (hg : w.heap[g]? = some (.cells cur ty (0, 0))) (j : Nat) : w.cell? ⟨g, j, none⟩ = cur[j]? ∧ w.frozen? ⟨g, j, none⟩ = false := by
  constructor
  · simp [World.cell?, hg]
  · simp [World.frozen?, hg]
end Go.Proofs.Ytgmnfdmlidhbcaa.RowW
end
