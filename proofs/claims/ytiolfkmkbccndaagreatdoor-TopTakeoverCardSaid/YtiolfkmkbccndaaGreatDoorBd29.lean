/- Parts of the proof, one behind the other: Sym35, Xk, RowW. -/
import Derived.Test.YtiolfkmkbccndaaGreatDoorBd22
import Derived.WalkKit
import Derived.ProofKit
import Derived.OpenShut
import Derived.ShutString
import Derived.WalkSpells
import Derived.WalkLawsBesides
import Derived.Handy
import Derived.Deep.QuietTactic
import Derived.BigQuiet
import Derived.Lib.Hide
import Derived.Lib.SmallJoins
import Derived.Deep.Slices
import Derived.Deep.Fields
import Derived.Deep.AppendLies
import Derived.ChangeSame
import Derived.Deep.RegionHeld3
import Derived.StillTailTactics
import Derived.Test.YtiolfkmkbccndaaGreatDoorProg
import Derived.Lib.SliceRun
import Derived.Laws.IdiomCopy
import Derived.Laws.AppendOwn
import Derived.Deep.AppendSrc
import Derived.Test.YtiolfkmkbccndaaGreatDoorBd2
section
/- Rows that the call owns, told by kind and type; small helpers for writing summaries. -/
namespace Go.Proofs.YtiolfkmkbccndaaGreatDoor.Sym
open Go.RowKit

section
variable {cod : Nat → Codec} {P : Program}
/-- A row of kind t that the call owns. -/
def HObj.asOwn (t : Nat) (ty : TypeId) : HObj cod → Option (List (cod t).α)
  | .own u l ty' => if h : u = t then (if ty' = ty then some (h ▸ l) else none) else none
  | _ => none
theorem asOwn_spec {t : Nat} {ty : TypeId} {o : HObj cod} {l : List (cod t).α} (h : o.asOwn t ty = some l) : o = .own t l ty := by
  unfold HObj.asOwn at h
  split at h
  · split at h
    · rename_i e
      subst e
      split at h
      · rename_i e
        subst e
        cases h
        rfl
      · cases h
    · cases h
  · cases h
/-- A row of kind t in an array. -/
def HObj.asArr (t : Nat) (ty : TypeId) : HObj cod → Option (List (cod t).α)
  | .arr u l ty' => if h : u = t then (if ty' = ty then some (h ▸ l) else none) else none
  | _ => none
theorem asArr_spec {t : Nat} {ty : TypeId} {o : HObj cod} {l : List (cod t).α} (h : o.asArr t ty = some l) : o = .arr t l ty := by
  unfold HObj.asArr at h
  split at h
  · split at h
    · rename_i e
      subst e
      split at h
      · rename_i e
        subst e
        cases h
        rfl
      · cases h
    · cases h
  · cases h
/-- One function, two summaries, by what its arguments look like. -/
def s_by (p : List SV → Bool) (s1 s2 : Summ cod) : Summ cod := fun args H => cond (p args) (s1 args H) (s2 args H)
theorem Sound.by_ {g : FuncId} (p : List SV → Bool) {s1 s2 : Summ cod} (h1 : Sound P cod g s1) (h2 : Sound P cod g s2) : Sound P cod g (s_by p s1 s2) := by
  refine ⟨h1.enters, fun args H env w vs r news hro G ha hg => ?_⟩
  unfold s_by at hg
  cases hc : p args with
  | true => rw [hc] at hg; exact h1.calls args H env w vs r news hro G ha hg
  | false => rw [hc] at hg; exact h2.calls args H env w vs r news hro G ha hg
theorem SoundI.by_ {g : FuncId} (p : List SV → Bool) {s1 s2 : Summ cod} (h1 : SoundI P cod g s1) (h2 : SoundI P cod g s2) : SoundI P cod g (s_by p s1 s2) := by
  refine ⟨h1.enters, fun args H env w vs r H' G ha hg => ?_⟩
  unfold s_by at hg
  cases hc : p args with
  | true => rw [hc] at hg; exact h1.calls args H env w vs r H' G ha hg
  | false => rw [hc] at hg; exact h2.calls args H env w vs r H' G ha hg
/-- The first argument is a row that the call owns. -/
def ownFirst : List SV → Bool
  | .c (.own _ _) :: _ => true
  | _ => false
end
end Go.Proofs.YtiolfkmkbccndaaGreatDoor.Sym
end
section
/- slices.Clone of a slice of rows with no elements: a slice with no elements comes back. -/
namespace Go.Proofs.YtiolfkmkbccndaaGreatDoor
open Go.ChangeShapes Go.WideShapes Go.ChangeAt Go.RowKit
set_option maxHeartbeats 4000000
theorem nil_eqlR (A : Option Addr) (n c : Nat) (w : World) : (binOp .eql 26 (.slice A n c) (.slice none 0 0)).run Tryz.prog w = .ok (.bool A.isNone) w := by
  have ht : Tryz.prog.underlying 26 = some (.slice 56) := by kernel_rfl
  have h1 : ∀ w d, (Op.equalIn (d + 1) 26 (.slice A n c) (.slice none 0 0)).run Tryz.prog w = .ok A.isNone w := fun w d => by cases A <;> simp [Op.equalIn, run_underlying ht]
  have h2 : ∀ w, (Op.equal 26 (.slice A n c) (.slice none 0 0)).run Tryz.prog w = .ok A.isNone w := fun w => h1 w 9999
  simp [binOp, h2]
set_option maxRecDepth 100000 in
theorem cloneR_none (c : Nat) (w : World) : Calls Tryz.prog 42 #[.slice none 0 c] w fun e w' => e = .returned (.slice none 0 0) ∧ w' = w := by
  go_enter Tryz.func42, Tryz.ntmps42
  go_wp2
  rw [nil_eqlR]
  go_wp2
  go_ret
  exact ⟨rfl, rfl⟩
set_option maxRecDepth 100000 in
theorem cloneR_zero (a : Addr) (c : Nat) (w : World) : Calls Tryz.prog 42 #[.slice (some a) 0 c] w fun e w' => ∃ A, e = .returned (.slice A 0 0) ∧ Below w.heap.size w w' ∧ w.drawn ≤ w'.drawn := by
  go_enter Tryz.func42, Tryz.ntmps42
  go_wp2
  rw [nil_eqlR]
  go_wp2
  go_ret
  exact ⟨_, rfl, Below.alloc (Below.refl _ _) (Nat.le_refl _) _, Nat.le_refl _⟩
end Go.Proofs.YtiolfkmkbccndaaGreatDoor
end
section
/-
  Rows of structs in memory: cells written over, 'copy' and 'clear' at elements of several cells. No program in sight.
-/
namespace Go.Proofs.YtiolfkmkbccndaaGreatDoor.RowW
open Go.RowKit
variable {P : Program}

/-- The cells with others laid over them from place o on. -/
def ovl (cur : Array Value) : Nat → List Value → Array Value
  | _, [] => cur
  | o, v :: r => ovl (cur.setIfInBounds o v) (o + 1) r
theorem ovl_size : ∀ (vs : List Value) (o : Nat) (cur : Array Value), (ovl cur o vs).size = cur.size
  | [], _, _ => rfl
  | v :: r, o, cur => by rw [ovl, ovl_size r, Array.size_setIfInBounds]
theorem ovl_list : ∀ (vs : List Value) (o : Nat) (cur : Array Value), o + vs.length ≤ cur.size → (ovl cur o vs).toList = cur.toList.take o ++ (vs ++ cur.toList.drop (o + vs.length))
  | [], o, cur, _ => by simp [ovl]
  | v :: r, o, cur, h => by
    rw [List.length_cons] at h
    rw [ovl, ovl_list r (o + 1) _ (by rw [Array.size_setIfInBounds]; omega), Array.toList_setIfInBounds]
    have hl : o < cur.toList.length := by rw [Array.length_toList]; omega
    rw [List.take_set, List.drop_set, if_pos (by omega), List.length_cons]
    have h1 : (List.take (o + 1) cur.toList).set o v = cur.toList.take o ++ [v] := by
      rw [List.take_succ_eq_append_getElem hl, List.set_append_right _ _ (by rw [List.length_take]; omega), List.length_take]
      rw [show o - min o cur.toList.length = 0 by omega]
      rfl
    rw [h1, show o + 1 + r.length = o + (r.length + 1) by omega]
    simp
theorem heap_setCells {g : Nat} {ty : TypeId} {fr : Nat × Nat} : ∀ (vs : List Value) (o : Nat) (w : World) (cur : Array Value), w.heap[g]? = some (.cells cur ty fr) → (w.setCells g o vs).heap[g]? = some (.cells (ovl cur o vs) ty fr)
  | [], _, _, _, h => h
  | v :: r, o, w, cur, h => by
    rw [World.setCells, ovl]
    refine heap_setCells r (o + 1) _ _ ?_
    simp [World.setCell, Array.getElem?_modify, h]
theorem heap_setCells_ne {g k : Nat} (hk : k ≠ g) : ∀ (vs : List Value) (o : Nat) (w : World), (w.setCells g o vs).heap[k]? = w.heap[k]?
  | [], _, _ => rfl
  | v :: r, o, w => by
    rw [World.setCells, heap_setCells_ne hk r]
    simp [World.setCell, Array.getElem?_modify, Ne.symm hk]
theorem setCells_same (g : Nat) : ∀ (vs : List Value) (o : Nat) (w : World), (w.setCells g o vs).os = w.os ∧ (w.setCells g o vs).tape = w.tape ∧ (w.setCells g o vs).output = w.output ∧ (w.setCells g o vs).heap.size = w.heap.size ∧ (w.setCells g o vs).drawn = w.drawn
  | [], _, _ => ⟨rfl, rfl, rfl, rfl, rfl⟩
  | v :: r, o, w => by
    rw [World.setCells]
    obtain ⟨h1, h2, h3, h4, h5⟩ := setCells_same g r (o + 1) (w.setCell ⟨g, o, none⟩ v)
    exact ⟨h1, h2, h3, by rw [h4]; simp [World.setCell], h5⟩
/-- 'copy' at elements of k cells: all is read before anything is written. -/
theorem run_copy_k (w : World) (dT sT ty elem : TypeId) (b o dLen dCap : Nat) (a : Addr) (sLen sCap k : Nat) (cs : List Value)
    (hu : P.underlying dT = some (.slice elem)) (hs : (P.info? elem).map (·.size) = some k) (hn : cs.length = Nat.min sLen dLen * k)
    (hsrc : ∀ j v, cs[j]? = some v → w.cell? (a.add j) = some v) (hc : ∀ j, j < cs.length → (w.cell? ⟨b, o + j, none⟩).isSome = true) (hf : ∀ j, j < cs.length → w.frozen? ⟨b, o + j, none⟩ = false) (h1 : ∀ v ∈ cs, v.oneCell' = true) :
    (Builtin.copy_ #[dT, sT] ty #[.slice (some ⟨b, o, none⟩) dLen dCap, .slice (some a) sLen sCap]).run P w = .ok (goInt (Nat.min sLen dLen)) (w.setCells b o cs) := by
  have hl := run_loadCells_list (P := P) w a cs hsrc
  have hst := run_storeCells_cells (P := P) b o cs 0 w (by simpa using hc) (by simpa using hf) h1
  cases hq : P.info? elem with
  | none => simp [hq] at hs
  | some i =>
    have hi : i.size = k := by simpa [hq] using hs
    simp [Builtin.copy_, run_underlying hu, Builtin.lenOf, Builtin.firstCells, sizeOf, typeInfo, hq, hi, ← hn, hl, hst]
/-- 'clear' at one element of several cells. -/
theorem run_clear_1 (w : World) (t e ty : TypeId) (z : Value) (zs : List Value) (ht : P.underlying t = some (.slice e)) (hv : ∀ w, (zeroValue e).run P w = .ok z w) (hz : (Builtin.zeroCells z.cells 1).toList = zs) (h1 : ∀ v ∈ zs, v.oneCell' = true) (b o c : Nat)
    (hc : ∀ j, j < zs.length → (w.cell? ⟨b, o + j, none⟩).isSome = true) (hf : ∀ j, j < zs.length → w.frozen? ⟨b, o + j, none⟩ = false) :
    (Builtin.clear_ #[t] ty #[.slice (some ⟨b, o, none⟩) 1 c]).run P w = .ok (.tuple #[]) (w.setCells b o zs) := by
  have hst := run_storeCells_cells (P := P) b o zs 0 w (by simpa using hc) (by simpa using hf) h1
  simp only [Nat.add_zero] at hst
  simp [Builtin.clear_, run_underlying ht, hv, hz, hst]
/-- 'copy(d, s)' in a walk, where its run is known by an equation; and as one step of a region that draws. -/
theorem wp_copy_runK (w : World) {o : Oper} {a : Act} {K : Act → World → Prop} {Q : Exit → Act → World → Prop} (d s : Operand) (t t' : TypeId)
    (ho : o.op = .call { callee := .builtin .copy, args := #[d, s], argTypes := #[t, t'] }) (v u : Value) (hd : a.eval d = v) (hs : a.eval s = u) {v' : Value} {w' : World}
    (hr : (Builtin.copy_ #[t, t'] o.type #[v, u]).run P w = .ok v' w') (h : K (a.put o.dst v') w') : o.wp P a w K Q := by
  unfold Oper.wp execOp
  simp only [ho, resolve, invoke, builtin, Sem.run_bind, Sem.run_pure, Result.andThen_ok, List.map_toArray, List.map_cons, List.map_nil, hd, hs, hr]
  exact h
theorem wpList_copy_runK (w : World) {ops : Array Oper} {rest : List Oper} {o : Oper} {a : Act} {Q : Exit → Act → World → Prop} (hgd : o.guard = none) (d s : Operand) (t t' : TypeId)
    (ho : o.op = .call { callee := .builtin .copy, args := #[d, s], argTypes := #[t, t'] }) (v u : Value) (hd : a.eval d = v) (hs : a.eval s = u) {v' : Value} {w' : World}
    (hr : (Builtin.copy_ #[t, t'] o.type #[v, u]).run P w = .ok v' w') (h : wpList P ops Q rest (a.put o.dst v') w') : wpList P ops Q (o :: rest) a w :=
  wpList_plain hgd fun _ hK => wp_copy_runK w d s t t' ho v u hd hs hr (hK _ _ h)
theorem step_copy_runK {ops : Array Oper} {o : Oper} {a : Act} {w : World} {K : Act → World → Prop} {Q : Exit → Act → World → Prop} {E : Prop}
    (hg : o.guard = none) (d x : Operand) (dT sT : TypeId) (hop : o.op = Op.call { callee := Callee.builtin Builtin.copy, args := #[d, x], argTypes := #[dT, sT] })
    (v u : Value) (hd : a.eval d = v) (hx : a.eval x = u) {v' : Value} {w' : World} (hr : (Builtin.copy_ #[dT, sT] o.type #[v, u]).run P w = .ok v' w') (hK : K (a.put o.dst v') w') :
    if Region.wanted o (yielded ops a.tmps) = true then Oper.wp P o a w K Q else E := by
  have hw : Region.wanted o (yielded ops a.tmps) = true := by simp [Region.wanted, hg]
  rw [if_pos hw]
  unfold Oper.wp
  simp [execOp, hop, resolve, invoke, builtin, hd, hx, hr, Result.andThen]
  exact hK
theorem run_drawn' {α : Type} {s : Sem α} {w : World} {a : α} {w' : World} (h : s.run P w = .ok a w') : w.drawn ≤ w'.drawn := Sym.run_drawn P s w a w' h
theorem shift_list {α : Type} (L vs : List α) (a b K : Nat) (hab : a ≤ b) (hL : b + K ≤ L.length) (hv : vs.length = K) :
    List.take (b + K) (List.take a (List.take (a + K) L ++ (List.drop a (List.take b L) ++ List.drop (a + K + (List.drop a (List.take b L)).length) L)) ++ (vs ++ List.drop (a + K) (List.take (a + K) L ++ (List.drop a (List.take b L) ++ List.drop (a + K + (List.drop a (List.take b L)).length) L)))) = List.take a (List.take b L) ++ (vs ++ List.drop a (List.take b L)) := by
  have l1 : (List.take (a + K) L).length = a + K := by rw [List.length_take]; omega
  have l2 : (List.drop a (List.take b L)).length = b - a := by rw [List.length_drop, List.length_take]; omega
  have l3 : (List.take a (List.take b L)).length = a := by rw [List.length_take, List.length_take]; omega
  generalize List.drop (a + K + (List.drop a (List.take b L)).length) L = Z
  have e1 : List.take a (List.take (a + K) L ++ (List.drop a (List.take b L) ++ Z)) = List.take a (List.take b L) := by
    rw [List.take_append_of_le_length (by omega), List.take_take, List.take_take]
    congr 1
    omega
  have e2 : List.drop (a + K) (List.take (a + K) L ++ (List.drop a (List.take b L) ++ Z)) = List.drop a (List.take b L) ++ Z := by
    rw [List.drop_append_of_le_length (by omega), List.drop_of_length_le (by omega), List.nil_append]
  rw [e1, e2, ← List.append_assoc, ← List.append_assoc, List.take_append_of_le_length (by rw [List.length_append, List.length_append, l3, l2, hv]; omega), List.take_of_length_le (by rw [List.length_append, List.length_append, l3, l2, hv]; omega), List.append_assoc]
theorem grow_list {α : Type} (xs vs W Z : List α) (a b K : Nat) (hab : a ≤ b) (hx : xs.length = b) (hv : vs.length = K) :
    List.take (b + K) (List.take (a + K) (List.take a xs ++ (vs ++ W)) ++ (List.drop a xs ++ Z)) = List.take a xs ++ (vs ++ List.drop a xs) := by
  have l3 : (List.take a xs).length = a := by rw [List.length_take]; omega
  have l2 : (List.drop a xs).length = b - a := by rw [List.length_drop]; omega
  have e1 : List.take (a + K) (List.take a xs ++ (vs ++ W)) = List.take a xs ++ vs := by
    rw [← List.append_assoc, List.take_append_of_le_length (by rw [List.length_append, l3, hv]; omega), List.take_of_length_le (by rw [List.length_append, l3, hv]; omega)]
  rw [e1, ← List.append_assoc, List.take_append_of_le_length (by rw [List.length_append, List.length_append, l3, l2, hv]; omega), List.take_of_length_le (by rw [List.length_append, List.length_append, l3, l2, hv]; omega), List.append_assoc]
/-- A block's cells, one by one. -/
theorem cell_at {w : World} {g : Nat} {cur : Array Value} {ty : TypeId} (hg : w.heap[g]? = some (.cells cur ty (0, 0))) (j : Nat) : w.cell? ⟨g, j, none⟩ = cur[j]? ∧ w.frozen? ⟨g, j, none⟩ = false := by
  constructor
  · simp [World.cell?, hg]
  · simp [World.frozen?, hg]
end Go.Proofs.YtiolfkmkbccndaaGreatDoor.RowW
end
