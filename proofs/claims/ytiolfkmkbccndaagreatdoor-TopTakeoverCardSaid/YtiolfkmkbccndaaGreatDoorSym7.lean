/- A symbolic run is sound: new objects, literals, appends. -/
import Derived.Test.YtiolfkmkbccndaaGreatDoorSym6
namespace Go.Proofs.YtiolfkmkbccndaaGreatDoor.Sym
open Go.RowKit

section
variable {cod : Nat → Codec} {P : Program} {env : Env} {N : Nat}

theorem one_cells {v : Value} (h : v.oneCell' = true) : v.cells = #[v] := by
  cases v <;> first | rfl | (simp [Value.oneCell'] at h)
theorem vrel_cells {x : SV} {v : Value} (h : vrel env N x v) (h1 : x.cells.all Cell.one = true) : crels env N x.cells v.cells.toList := by
  cases x with
  | c x =>
    simp only [SV.cells, List.all_cons, List.all_nil, Bool.and_true] at h1
    rw [one_cells (one_rel h1 h)]
    exact .cons h .nil
  | agg cs =>
    obtain ⟨vs, rfl, hv⟩ := h
    exact hv
  | tup l => simp [SV.cells, Cell.one] at h1
theorem ofValue_cell (v : Value) : crel env N (Cell.ofValue v) v := by
  unfold Cell.ofValue
  split
  · rfl
  · rfl
  · rfl
  · rfl
  · exact ⟨by simp, rfl⟩
  · rfl
theorem ofValue_rel (v : Value) : vrel env N (SV.ofValue v) v := by
  unfold SV.ofValue
  split
  · rename_i cs
    exact ⟨cs, rfl, by
      have : crels env N (cs.toList.map Cell.ofValue) cs.toList := by
        induction cs.toList with
        | nil => exact .nil
        | cons a l ih => exact .cons (ofValue_cell a) ih
      exact this⟩
  · exact ofValue_cell v
theorem ofValue_cells (v : Value) : crels env N (SV.ofValue v).cells v.cells.toList := by
  cases v with
  | agg cs => obtain ⟨vs, h1, h2⟩ := ofValue_rel (env := env) (N := N) (.agg cs); cases h1; exact h2
  | _ => exact .cons (ofValue_cell _) .nil

theorem chunks_flat (k : Nat) : ∀ (n : Nat) (cs : List Cell), cs.length = n * k → (chunks k n cs).flatten = cs
  | 0, cs, h => by
    have : cs = [] := List.eq_nil_of_length_eq_zero (by simpa using h)
    subst this; rfl
  | n + 1, cs, h => by
    rw [Nat.add_mul, Nat.one_mul] at h
    rw [chunks, List.flatten_cons, chunks_flat k n _ (by rw [List.length_drop]; omega), List.take_append_drop]
theorem chunks_length (k : Nat) : ∀ (n : Nat) (cs : List Cell), (chunks k n cs).length = n
  | 0, _ => rfl
  | n + 1, cs => by rw [chunks, List.length_cons, chunks_length k n]
theorem decAll_spec {c : Codec} {n : Nat} {cs : List Cell} {l : List c.α} (h : decAll c n cs = some l) : l.flatMap c.enc = cs ∧ l.length = n := by
  unfold decAll at h
  simp only at h
  split at h
  · rename_i hc
    simp only [Option.some.injEq] at h
    subst h
    refine ⟨?_, by rw [List.length_map, chunks_length]⟩
    rw [List.flatMap_map]
    have : ∀ L : List (List Cell), L.all c.ok = true → L.flatMap (fun a => c.enc (c.dec a)) = L.flatten := by
      intro L
      induction L with
      | nil => intro _; rfl
      | cons a L ih =>
        intro hl
        simp only [List.all_cons, Bool.and_eq_true] at hl
        rw [List.flatMap_cons, List.flatten_cons, c.ok_spec a hl.1, ih hl.2]
    rw [this _ hc.1, chunks_flat _ _ _ hc.2]
  · cases h

/-- The new block's place. -/
def newHV (w : World) (size : Nat) : HV := ⟨w.heap.size, 0, size, undef, []⟩
theorem newHV_addr (w : World) (size : Nat) : (newHV w size).addr 0 0 = ⟨w.heap.size, 0, none⟩ := by simp [newHV, HV.addr]

theorem new_blk {H : Heap cod} {w : World} {M : Nat → Prop} (G : Good env H w M) (hM : ∀ k, w.heap.size ≤ k → M k) {cs : List Cell} {vs : List Value} (ty : TypeId) (hc : crels env H.length cs vs) :
    Good (env.set H.length (newHV w 0)) (H ++ [.blk cs ty]) (w.alloc (.cells vs.toArray ty)) M :=
  G.push _ _ (by simp) (fun k hk => heap_alloc_old w _ hk) ⟨rfl, hM _ (Nat.le_refl _), vs, heap_alloc_new w _, crels_mono (by omega) (Env.set_eq env _ _) hc⟩ (fun b hb => by
    simp only [HObj.has, newHV] at hb; omega)
theorem new_arr {H : Heap cod} {w : World} {M : Nat → Prop} (G : Good env H w M) (hM : ∀ k, w.heap.size ≤ k → M k) (u : Nat) (l : List (cod u).α) (ty : TypeId) :
    Good (env.set H.length (newHV w (cod u).size)) (H ++ [.arr u l ty]) (w.alloc (.cells (vals (cod u) l).toArray ty)) M :=
  G.push _ _ (by simp) (fun k hk => heap_alloc_old w _ hk) ⟨rfl, rfl, hM _ (Nat.le_refl _), heap_alloc_new w _⟩ (fun b hb => by
    simp only [HObj.has, newHV] at hb; omega)
theorem new_var (cfg : Cfg cod) {H : Heap cod} {w : World} {M : Nat → Prop} (G : Good env H w M) (hM : ∀ k, w.heap.size ≤ k → M k) {cs : List Cell} {vs : List Value} (t : TypeId) (hc : crels env H.length cs vs) :
    ∃ k, Good (env.set H.length (newHV w k)) (H ++ [varObj cfg t cs]) (w.alloc (.cells vs.toArray t)) M := by
  unfold varObj
  split
  · split
    · exact ⟨0, new_blk G hM t hc⟩
    · rename_i u _
      split
      · rename_i l hl
        obtain ⟨h1, _⟩ := decAll_spec hl
        have hv : vs = vals (cod u) l := by
          have := scalars_val (env := env) (N := H.length) (cs := cs) (by rw [← h1]; exact flat_all _ _) hc
          rw [this, ← h1]; rfl
        subst hv
        exact ⟨_, new_arr G hM u l t⟩
      · exact ⟨0, new_blk G hM t hc⟩
  · exact ⟨0, new_blk G hM t hc⟩

/-! ### literals -/
theorem foldl_set (off : Nat) : ∀ (us : List Value) (k : Nat) (arr : List Value), off + k + us.length ≤ arr.length →
    (us.zipIdx k).foldl (fun (cs : Array Value) (p : Value × Nat) => cs.setIfInBounds (off + p.2) p.1) arr.toArray = (arr.take (off + k) ++ (us ++ arr.drop (off + k + us.length))).toArray
  | [], k, arr, _ => by simp
  | u :: us, k, arr, h => by
    simp only [List.length_cons] at h
    rw [List.zipIdx_cons, List.foldl_cons]
    have h1 : arr.toArray.setIfInBounds (off + k) u = (arr.set (off + k) u).toArray := by simp
    simp only [h1]
    rw [foldl_set off us (k + 1) (arr.set (off + k) u) (by rw [List.length_set]; omega)]
    congr 1
    have h2 : (arr.set (off + k) u).take (off + (k + 1)) = arr.take (off + k) ++ [u] := by
      rw [← Nat.add_assoc, List.take_succ_eq_append_getElem (by rw [List.length_set]; omega), List.take_set_of_le (Nat.le_refl _)]
      simp
    have h3 : (arr.set (off + k) u).drop (off + (k + 1) + us.length) = arr.drop (off + k + (us.length + 1)) := by
      rw [List.drop_set_of_lt (by omega)]
      congr 1
      omega
    rw [h2, h3]
    simp
theorem fill_sound {place : Nat → Option (Nat × Nat)} : ∀ (parts : List (Nat × SV)) (qs : List (Nat × Value)) (cells cells' : List Cell) (vs : List Value), fillS place cells parts = some cells' → crels env N cells vs →
    F2 (fun p q => p.1 = q.1 ∧ vrel env N p.2 q.2) parts qs → ∃ vs', Instr.fill place vs.toArray qs = some (List.toArray vs') ∧ crels env N cells' vs'
  | _, _, cells, cells', vs, h, hv, .nil => by
    simp only [fillS, Option.some.injEq] at h
    subst h
    exact ⟨vs, rfl, hv⟩
  | (i, x) :: parts, (j, v) :: qs, cells, cells', vs, h, hv, .cons hp ht => by
    obtain ⟨rfl, hxv⟩ := hp
    simp only [fillS] at h
    cases hpl : place i with
    | none => rw [hpl] at h; cases h
    | some pq =>
      obtain ⟨off, size⟩ := pq
      rw [hpl] at h
      simp only at h
      split at h
      · cases h
      · rename_i hc
        rw [not_or, not_or] at hc
        obtain ⟨h1, h2, h3⟩ := hc
        have h1 : x.cells.length = size := by omega
        have h3 : x.cells.all Cell.one = true := by simpa using h3
        have hx := vrel_cells hxv h3
        have hlx := f2_length hx
        have hlv := f2_length hv
        have hsz : v.cells.size = x.cells.length := by rw [hlx]; simp
        have hfold := foldl_set off v.cells.toList 0 vs (by simp; omega)
        have hsp := splice_rel off hv hx
        obtain ⟨vs', hr, hr2⟩ := fill_sound parts qs _ cells' _ h hsp ht
        refine ⟨vs', ?_, hr2⟩
        unfold Instr.fill
        simp only [hpl]
        rw [if_neg (by simp; omega)]
        have hz : v.cells.zipIdx.foldl (fun (cs : Array Value) (p : Value × Nat) => cs.setIfInBounds (off + p.2) p.1) vs.toArray = (vs.take off ++ (v.cells.toList ++ vs.drop (off + v.cells.toList.length))).toArray := by
          rw [← Array.foldl_toList, Array.toList_zipIdx]
          simpa using hfold
        rw [show (fun (cs : Array Value) (x : Value × Nat) => match x with | (c, j) => cs.setIfInBounds (off + j) c) = (fun (cs : Array Value) (p : Value × Nat) => cs.setIfInBounds (off + p.2) p.1) from rfl, hz]
        exact hr
theorem built_sound {t : TypeId} {parts : List (Nat × SV)} {qs : List (Nat × Value)} {cs : List Cell} (h : builtS P t parts = some cs) (hp : F2 (fun p q => p.1 = q.1 ∧ vrel env N p.2 q.2) parts qs) :
    ∃ vs, P.built t qs = some (List.toArray vs) ∧ crels env N cs vs := by
  unfold builtS zeroCells placesS at h
  unfold Program.built
  cases hi : P.info? t with
  | none => simp [hi] at h
  | some it =>
    cases hz : it.zero with
    | none => simp [hi, hz] at h
    | some z =>
      cases hu : P.underlying t with
      | none => simp [hi, hz, hu] at h
      | some d =>
        cases d with
        | array n e =>
          cases hie : P.info? e with
          | none => simp [hi, hz, hu, hie] at h
          | some ie =>
            simp only [hi, hz, hu, hie, Option.bind_some, Option.map_some] at h ⊢
            have := fill_sound parts qs _ cs z.cells.toList h (ofValue_cells z) hp
            simpa using this
        | struct fs =>
          cases hpl : fs.toList.mapM (fun f => (P.info? f.type).map fun i => (f.offset, i.size)) with
          | none => simp [hi, hz, hu, hpl] at h
          | some pl =>
            simp only [hi, hz, hu, hpl, Option.bind_some, Option.map_some] at h ⊢
            have := fill_sound parts qs _ cs z.cells.toList h (ofValue_cells z) hp
            simpa using this
        | _ => simp [hi, hz, hu] at h
end
end Go.Proofs.YtiolfkmkbccndaaGreatDoor.Sym
