/- A symbolic run is sound: a region that draws its order. -/
import Derived.Test.YtiolfkmkbccndaaGreatDoorSym14
namespace Go.Proofs.YtiolfkmkbccndaaGreatDoor.Sym
open Go.RowKit

section
variable {cod : Nat → Codec}

/-! ### two operations in either order -/
/-- What an operation, its guard looked at, comes to. -/
def eff (cfg : Cfg cod) (ops : Array Oper) (o : Oper) (st : St cod) (out : Out cod) : Prop :=
  match o.guard with
  | none => (opP cfg st.tmps st.heap o).gives out
  | some (j, want) =>
    match yieldS ops st j with
    | .c (.bool b) => if (b == want) = true then (opP cfg st.tmps st.heap o).gives out else out = { v := undefS, H := st.heap }
    | .c (.raw (.tuple ⟨[]⟩)) => out = { v := undefS, H := st.heap }
    | _ => False
theorem step_eff {cfg : Cfg cod} {ops : Array Oper} {o : Oper} {st st' : St cod} : absStep cfg ops o st st' ↔ ∃ out, eff cfg ops o st out ∧ st' = st.put o.dst out := by
  have hs : (stepS cfg o st).gives st' ↔ ∃ out, (opP cfg st.tmps st.heap o).gives out ∧ st' = st.put o.dst out := by
    unfold stepS
    rw [T.gives_bind]
    constructor
    · rintro ⟨out, h1, h2⟩; exact ⟨out, h1, (T.gives_ret.1 h2).symm⟩
    · rintro ⟨out, h1, h2⟩; exact ⟨out, h1, T.gives_ret.2 h2.symm⟩
  unfold absStep eff
  split
  · rename_i hg
    simp only [hg]
    exact hs
  · rename_i j want hg
    simp only [hg]
    split
    · rename_i b hy
      simp only [hy]
      split
      · exact hs
      · exact ⟨fun h => ⟨_, rfl, h⟩, fun ⟨out, h1, h2⟩ => by subst h1; exact h2⟩
    · rename_i hy
      simp only [hy]
      exact ⟨fun h => ⟨_, rfl, h⟩, fun ⟨out, h1, h2⟩ => by subst h1; exact h2⟩
    · rename_i h1 h2
      refine ⟨fun h => h.elim, fun ⟨out, h, _⟩ => ?_⟩
      split at h
      · rename_i b hy; exact h1 b hy
      · rename_i hy; exact h2 hy
      · exact h
/-- 'eff' looks at the temporaries that the operation names alone. -/
theorem eff_congr {cfg : Cfg cod} {ops : Array Oper} {o : Oper} {st : St cod} {tm : List SV} {out : Out cod} {d : Option Nat} {v : SV} (htm : tm = match d with | none => st.tmps | some d => st.tmps.set d v) (hd : ∀ t, d = some t → t ∉ o.looksAt ops) :
    eff cfg ops o { tmps := tm, heap := st.heap } out ↔ eff cfg ops o st out := by
  subst htm
  cases d with
  | none => exact Iff.rfl
  | some t =>
    have hn := hd t rfl
    have hev : ∀ x ∈ o.op.operands.toList, evS (st.tmps.set t v) x = evS st.tmps x := fun x hx => by
      cases x with
      | tmp u =>
        have : t ≠ u := fun e => hn (by subst e; exact List.mem_append_left _ (List.mem_filterMap.2 ⟨.tmp t, hx, rfl⟩))
        simp only [evS, List.getD]
        rw [List.getElem?_set_ne this]
      | _ => rfl
    have hop := opP_congr cfg st.heap o hev
    have hy : ∀ j want, o.guard = some (j, want) → yieldS ops { tmps := st.tmps.set t v, heap := st.heap } j = yieldS ops st j := fun j want hg => by
      unfold yieldS
      cases hdst : (ops[j]?).bind (·.dst) with
      | none => rfl
      | some u =>
        have : t ≠ u := fun e => hn (by subst e; refine List.mem_append_right _ ?_; rw [hg]; simp [hdst])
        simp only [List.getD]
        rw [List.getElem?_set_ne this]
    unfold eff
    split
    · rw [hop]
    · rename_i j want hg
      rw [hy j want hg]
      simp only [hop]
theorem eff_kind {cfg : Cfg cod} {ops : Array Oper} {o : Oper} {st : St cod} {out : Out cod} (h : eff cfg ops o st out) :
    (kindP cfg o ≤ 3 → out.kill = []) ∧ (kindP cfg o = 0 → out.H = st.heap ∧ ∀ H', eff cfg ops o { tmps := st.tmps, heap := H' } { v := out.v, H := H' }) ∧
    (kindP cfg o = 1 → out.H = st.heap ∧ ∀ X, eff cfg ops o { tmps := st.tmps, heap := st.heap ++ X } { v := out.v, H := st.heap ++ X }) ∧ (kindP cfg o = 2 → ∃ X, out.H = st.heap ++ X) := by
  have run : (opP cfg st.tmps st.heap o).gives out → (kindP cfg o ≤ 3 → out.kill = []) ∧ (kindP cfg o = 0 → out.H = st.heap ∧ ∀ H', (opP cfg st.tmps H' o).gives { v := out.v, H := H' }) ∧
      (kindP cfg o = 1 → out.H = st.heap ∧ ∀ X, (opP cfg st.tmps (st.heap ++ X) o).gives { v := out.v, H := st.heap ++ X }) ∧ (kindP cfg o = 2 → ∃ X, out.H = st.heap ++ X) := fun h =>
    kindP_runs h
  unfold eff at h ⊢
  split at h
  · exact run h
  · rename_i j want hg
    split at h
    · rename_i b hy
      have hy' : ∀ H' : Heap cod, yieldS ops { tmps := st.tmps, heap := H' } j = .c (.bool b) := fun _ => hy
      simp only [hy']
      split at h
      · rename_i hb
        simp only [hb, if_true]
        exact run h
      · rename_i hb
        simp only [hb, Bool.false_eq_true, if_false]
        subst h
        exact ⟨fun _ => rfl, fun _ => ⟨rfl, fun _ => rfl⟩, fun _ => ⟨rfl, fun _ => rfl⟩, fun _ => ⟨[], by simp⟩⟩
    · rename_i hy
      have hy' : ∀ H' : Heap cod, yieldS ops { tmps := st.tmps, heap := H' } j = .c (.raw (.tuple ⟨[]⟩)) := fun _ => hy
      simp only [hy']
      subst h
      exact ⟨fun _ => rfl, fun _ => ⟨rfl, fun _ => rfl⟩, fun _ => ⟨rfl, fun _ => rfl⟩, fun _ => ⟨[], by simp⟩⟩
    · exact h.elim
theorem put_plain {st : St cod} {d : Option Nat} {out : Out cod} (h : out.kill = []) : st.put d out = { tmps := match d with | none => st.tmps | some d => st.tmps.set d out.v, heap := out.H } := by
  unfold St.put
  simp only [h]
  cases d <;> rfl
theorem swap_steps {cfg : Cfg cod} {ops : Array Oper} {oi oj : Oper} {st s1 s2 : St cod} (h1 : absStep cfg ops oi st s1) (h2 : absStep cfg ops oj s1 s2) (hap : oi.apart ops oj = true) (hc : compat (kindP cfg oi) (kindP cfg oj) = true) :
    ∃ t1, absStep cfg ops oj st t1 ∧ absStep cfg ops oi t1 s2 := by
  obtain ⟨a1, a2, a3⟩ := Oper.apart_spec hap
  obtain ⟨oi', e1, rfl⟩ := step_eff.1 h1
  obtain ⟨oj', e2, rfl⟩ := step_eff.1 h2
  obtain ⟨i3, i0, i1, i2⟩ := eff_kind e1
  have hki : kindP cfg oi ≤ 3 := by unfold compat at hc; simp at hc; omega
  have hkj : kindP cfg oj ≤ 3 := by unfold compat at hc; simp at hc; omega
  have ki := i3 hki
  rw [put_plain ki] at e2 ⊢
  have e2' := (eff_congr (cfg := cfg) (st := ⟨st.tmps, oi'.H⟩) (d := oi.dst) (v := oi'.v) rfl a1).1 e2
  obtain ⟨j3, j0, j1, j2⟩ := eff_kind e2'
  have kj := j3 hkj
  rw [put_plain kj]
  -- the two effects at the first state
  have key : ∃ oj'', eff cfg ops oj st oj'' ∧ oj''.v = oj'.v ∧ oj''.kill = [] ∧ ∃ oi'', eff cfg ops oi ⟨st.tmps, oj''.H⟩ oi'' ∧ oi''.v = oi'.v ∧ oi''.kill = [] ∧ oi''.H = oj'.H := by
    have hcc : (kindP cfg oi = 0) ∨ (kindP cfg oj = 0) ∨ (kindP cfg oi = 1 ∧ (kindP cfg oj = 1 ∨ kindP cfg oj = 2)) := by
      unfold compat at hc; simp at hc; omega
    rcases hcc with hc | hc | ⟨hc, hc'⟩
    · obtain ⟨p1, p2⟩ := i0 hc
      rw [p1] at e2'
      exact ⟨oj', e2', rfl, kj, { v := oi'.v, H := oj'.H }, p2 _, rfl, rfl, rfl⟩
    · obtain ⟨p1, p2⟩ := j0 hc
      exact ⟨{ v := oj'.v, H := st.heap }, p2 _, rfl, rfl, oi', e1, rfl, ki, by rw [p1]⟩
    · obtain ⟨p1, p2⟩ := i1 hc
      rw [p1] at e2' j1 j2
      rcases hc' with hc' | hc'
      · obtain ⟨q1, _⟩ := j1 hc'
        refine ⟨oj', e2', rfl, kj, oi', ?_, rfl, ki, by rw [p1, q1]⟩
        rw [q1]; exact e1
      · obtain ⟨X, hX⟩ := j2 hc'
        refine ⟨oj', e2', rfl, kj, { v := oi'.v, H := oj'.H }, ?_, rfl, rfl, rfl⟩
        rw [hX]; exact p2 X
  obtain ⟨oj'', f1, f2, f3, oi'', g1, g2, g3, g4⟩ := key
  refine ⟨_, step_eff.2 ⟨oj'', f1, rfl⟩, step_eff.2 ⟨oi'', ?_, ?_⟩⟩
  · rw [put_plain f3]
    exact (eff_congr (cfg := cfg) (st := ⟨st.tmps, oj''.H⟩) (d := oj.dst) (v := oj''.v) rfl a3).2 g1
  · rw [put_plain g3, put_plain f3, g4, g2, f2]
    congr 1
    cases hdi : oi.dst with
    | none => rfl
    | some di =>
      cases hdj : oj.dst with
      | none => rfl
      | some dj =>
        simp only
        exact List.set_comm _ _ (fun e => a2 di hdi (by rw [hdj, e]))
end
end Go.Proofs.YtiolfkmkbccndaaGreatDoor.Sym
