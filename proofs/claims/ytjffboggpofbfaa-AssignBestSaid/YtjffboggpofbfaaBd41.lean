/- Parts of the proof, one behind the other: Sym43, Sym44. -/
import Derived.Test.YtjffboggpofbfaaSym42
section
/- A row appended to a slice of slices that the call owns. -/
namespace Go.Proofs.Ytjffboggpofbfaa.Sym
open Go.RowKit

section
variable {cod : Nat → Codec}
/-- An object that the call owns, changed, perhaps in another block: older references to it are struck out. -/
theorem Good.change {env : Env} {H : Heap cod} {w w' : World} {M : Nat → Prop} {h : Nat} {o o' : HObj cod} (G : Good env H w M) (ho : H[h]? = some o) (hw : o.wr = true) (x' : HV) (hs : w.heap.size ≤ w'.heap.size) (hk : ∀ b, b < w.heap.size → ¬ o.has (env h) b → w'.heap[b]? = w.heap[b]?)
    (ho' : objRel (env.set h x') H.length x' w' M (o'.mapC (Cell.killed [h]))) (hu : ∀ b, o'.has x' b → o.has (env h) b ∨ w.heap.size ≤ b) : Good (env.set h x') ((H.set h o').map (HObj.mapC (Cell.killed [h]))) w' M := by
  have hlt : h < H.length := (List.getElem?_eq_some_iff.1 ho).1
  have hbut : EnvBut H.length [h] env (env.set h x') := fun q _ hne => Env.set_other _ _ (by rintro rfl; exact hne (by simp))
  have cases_ : ∀ k a, ((H.set h o').map (HObj.mapC (Cell.killed [h])))[k]? = some a → (k ≠ h ∧ ∃ b, H[k]? = some b ∧ a = b.mapC (Cell.killed [h])) ∨ (k = h ∧ a = o'.mapC (Cell.killed [h])) := by
    intro k a ha
    rw [List.getElem?_map] at ha
    by_cases e : k = h
    · subst e
      rw [List.getElem?_set_self hlt] at ha
      simp only [Option.map_some, Option.some.injEq] at ha
      exact .inr ⟨rfl, ha.symm⟩
    · rw [List.getElem?_set_ne (by omega)] at ha
      obtain ⟨b, h1, h2⟩ := Option.map_eq_some_iff.1 ha
      exact .inl ⟨e, b, h1, h2.symm⟩
  refine ⟨fun k a ha => ?_, fun k k' a a' c hne ha ha' hwa hc hc' => ?_, G.tab.keep (fun p _ hl hn => hk _ hl fun e => hn (objRel_wr_in (G.obj h _ ho) hw e)) fun _ _ _ h => h⟩
  · rw [List.length_map, List.length_set]
    rcases cases_ k a ha with ⟨hne, b, h1, rfl⟩ | ⟨rfl, rfl⟩
    · rw [Env.set_other _ _ hne]
      refine objRel_map (fun c v hcv => crel_killed (Nat.le_refl _) hbut hcv) (objRel_keep (G.obj k b h1) hs fun c hc => ?_)
      have hlt := objRel_has_lt (G.obj k b h1) hc
      exact hk c hlt fun e => G.sep h k _ b c (Ne.symm hne) ho h1 hw e hc
    · rw [Env.set_same]; exact ho'
  · rcases cases_ k a ha with ⟨h1, b, h2, rfl⟩ | ⟨rfl, rfl⟩ <;> rcases cases_ k' a' ha' with ⟨h1', b', h2', rfl⟩ | ⟨rfl, rfl⟩
    · rw [Env.set_other _ _ h1, has_map] at hc
      rw [Env.set_other _ _ h1', has_map] at hc'
      rw [wr_map] at hwa
      exact G.sep k k' b b' c hne h2 h2' hwa hc hc'
    · rw [Env.set_other _ _ h1, has_map] at hc
      rw [Env.set_same, has_map] at hc'
      rw [wr_map] at hwa
      have hlt := objRel_has_lt (G.obj k b h2) hc
      rcases hu c hc' with hc' | hc'
      · exact G.sep k k' b _ c hne h2 ho hwa hc hc'
      · omega
    · rw [Env.set_same, has_map] at hc
      rw [Env.set_other _ _ h1', has_map] at hc'
      have hlt := objRel_has_lt (G.obj k' b' h2') hc'
      rcases hu c hc with hc | hc
      · exact G.sep k k' _ b' c hne ho h2' hw hc hc'
      · omega
    · exact hne rfl
/-- 'out = append(out, row)': the row is an object of its own still. -/
theorem StepW.app {P : Program} {b0 : Base} {o : Oper} {st : St cod} {x y : Operand} {ts : Array TypeId} {T ty tyr tb : TypeId} {h b n t B : Nat} {LL : List (List (cod t).α)} {c : Cell}
    (hop : o.op = .call ⟨.builtin .append, #[x, y], ts⟩) (ht1 : ts[0]? = some T) (ht2 : ts[1]? = some T) (hT : P.underlying T = some (.slice ty))
    (hz : (P.info? ty).map (fun i => (i.zero.map fun z => z.cells.size, i.size, i.bytes)) = some (some 1, 1, B)) (hB : B ≤ 100000)
    (hx : evS st.tmps x = .c (.own h n)) (hy : evS st.tmps y = .c (.slc b 0 1 true))
    (hh : getObj st.heap h = .nown t LL [] [] ty tyr) (hb : getObj st.heap b = .blk [c] tb) (hc : c.one = true) (hn : LL.length + 1 ≤ 1000000) (hN : b0.n ≤ h) {st' : St cod}
    (e : st.put o.dst { v := .c (.own h (LL.length + 1)), H := (st.heap.set h (.nown t (LL ++ [[]]) [LL.length] [c] ty tyr)).map (HObj.mapC (Cell.killed [h])), kill := [h] } = st') (hty : ty < 1000000 := by decide) : StepW P b0 o st st' := by
  subst e
  have hobh := getObj_obj hh (by simp)
  have hobb := getObj_obj hb (by simp)
  have hlt : h < st.heap.length := (List.getElem?_eq_some_iff.1 hobh).1
  refine stepW_after (fun env w ρ G hM hρ => ?_) (fun k hk => by simp only [List.mem_singleton] at hk; omega) (fun k x hk hx hxo => ?_)
  · have hu := hρ x
    have hv := hρ y
    rw [hx] at hu
    rw [hy] at hv
    obtain ⟨_, hval, A0, c0, hs1, hs2, hs3, hs4⟩ := hu
    obtain ⟨_, A, cc, hv1, hv2, hv3, _, hv5⟩ := hv
    obtain ⟨h1, h2, h3, ⟨vs, h4, h5, h6⟩, h7, h8, h9, h10⟩ := G.obj h _ hobh
    have eO : tyO ty = ty := if_pos hty
    rw [eO] at h4
    obtain ⟨p1, p2, us, p3, p4⟩ := G.obj b _ hobb
    obtain ⟨v, rfl, hcv⟩ : ∃ v, us = [v] ∧ crel env st.heap.length c v := by
      cases p4 with
      | cons a t => cases t; exact ⟨_, rfl, a⟩
    have hAb := hv5 (by omega)
    have hadr : (env b).addr 0 0 = ⟨(env b).block, 0, none⟩ := by simp [HV.addr, p1]
    rw [hadr] at hAb
    obtain ⟨i, hi, hz'⟩ := Option.map_eq_some_iff.1 hz
    simp only [Prod.mk.injEq] at hz'
    obtain ⟨hz1, hz2, hz3⟩ := hz'
    obtain ⟨z, hz0, hzc⟩ := Option.map_eq_some_iff.1 hz1
    have hone := one_rel hc hcv
    obtain ⟨v', w', r1, r2, r3, r4, r5⟩ := append_any w 0 T o.type ty i z 1 B hT hi hz0 hz2 hz3 hzc (by omega) (ρ x) LL.length vs (by rw [hval]; exact h4) A 1 cc [v] rfl (fun _ => ⟨_, hAb, fun j q hj => by
        cases j with
        | succ j => simp at hj
        | zero =>
          simp only [List.getElem?_cons_zero, Option.some.injEq] at hj
          subst hj
          have := cell_of_row w (env b).block 0 _ _ _ p3
          simpa [Addr.add] using this⟩) (by simpa using hone) (by unfold maxLen; omega) (Nat.le_trans (Nat.mul_le_mul hn hB) (by omega)) (Nat.zero_le _)
    have hrun : ∀ cs : Array Bool, ((builtin .append ts o.type cs (#[ρ x, ρ y])).run P w) = .ok (.value v') w' := fun cs => by
      have e : (Builtin.append_ ts o.type #[ρ x, ρ y]).run P w = (Builtin.append_ #[T, T] o.type #[ρ x, .slice A 1 cc]).run P w := by
        rw [hv1]
        simp only [Builtin.append_, ht1, ht2, List.getElem?_toArray, List.getElem?_cons_zero, List.getElem?_cons_succ]
      simp only [builtin, Sem.run_bind, e, r1, Result.andThen_ok, Sem.run_pure]
    have hexec : ((execOp ρ o).run P w) = .ok (.value v') w' := by
      unfold execOp
      have em : (#[x, y] : Array Operand).map ρ = #[ρ x, ρ y] := by simp
      simp only [hop, resolve, invoke, Sem.run_bind, Sem.run_pure, Result.andThen_ok]
      rw [em]
      exact hrun _
    rw [hexec]
    obtain ⟨A', c', e1, e2, e3, e4, e5⟩ := own_value r2
    have hvl : vs.length = LL.length := by have := h4.1; omega
    refine ⟨env.set h ⟨v'.ownBlock.getD 0, 0, 1, v', (env h).rows ++ [undef]⟩, fun q _ hne => Env.set_other _ _ (by rintro rfl; exact hne (by simp)), by simp, ?_, G.change hobh rfl _ r3.size (fun q hq hne => r3.block q hq (fun e => hne (.inl (by rw [hval] at e; exact e.symm)))) ?_ (fun q hq => ?_), (Kin.refl _ w).grown r3 (run_drawn _ _ _ _ _ r1) (fun q hq => by rw [hval] at hq; exact h7 q hq)⟩
    · refine ⟨by simpa using hlt, by rw [Env.set_same], A', c', e1, e2, e3, fun h0 => ?_⟩
      obtain ⟨g, hg⟩ := e5 h0
      obtain ⟨g', q1, q2⟩ := e4 _ hg
      rw [hg, Env.set_same, q2]
      simp only [Addr.mk.injEq, and_true] at q1
      simp [HV.addr, q1]
    · have hbut : EnvBut st.heap.length [h] env (env.set h ⟨v'.ownBlock.getD 0, 0, 1, v', (env h).rows ++ [undef]⟩) := fun q _ hne => Env.set_other _ _ (by rintro rfl; exact hne (by simp))
      have keepb : ∀ q, q < w.heap.size → (env h).val.ownBlock ≠ some q → w'.heap[q]? = w.heap[q]? := fun q hq hne => r3.block q hq (fun e => hne (by rw [hval] at e; exact e.symm))
      refine ⟨rfl, rfl, ⟨by simp [h3.1], by simp⟩, ⟨vs ++ [v], by rw [eO]; simpa using r2, fun j hj => ?_, fun q j c1 hq hc1 => ?_⟩, fun q hq => ?_, fun A1 n1 c1 hA1 => ?_, fun j u l hj hju hl => ?_, fun j k u u' q hjk hj hk hu hu' hb1 hb2 => ?_⟩
      · have hj' : j ≠ LL.length := fun e => hj (by rw [e]; simp)
        rcases Nat.lt_or_ge j LL.length with hl | hl
        · rw [List.getElem?_append_left (by omega), List.getElem?_append_left (by omega)]
          exact h5 j (by simp)
        · rw [List.getElem?_eq_none (by simp; omega), List.getElem?_eq_none (by simp; omega)]
          exact .inl rfl
      · cases q with
        | succ q => simp at hq
        | zero =>
          simp only [List.getElem?_cons_zero, List.map_cons, Option.some.injEq] at hq hc1
          subst hq
          subst hc1
          exact ⟨v, by rw [List.getElem?_append_right (by omega), hvl, Nat.sub_self]; rfl, crel_killed (Nat.le_refl _) hbut hcv⟩
      · rcases r5 with r5 | r5
        · rw [r5, hval] at hq; exact h7 q hq
        · rw [r5] at hq
          simp only [Option.some.injEq] at hq
          exact hM q (by omega)
      · rw [e1] at hA1
        simp only [Value.slice.injEq] at hA1
        obtain ⟨rfl, _, _⟩ := hA1
        obtain ⟨g', q1, q2⟩ := e4 _ rfl
        rw [q2, q1]
        rfl
      · have hj' : j ≠ LL.length := fun e => hj (by rw [e]; simp)
        have hjl : j < LL.length := by
          have := (List.getElem?_eq_some_iff.1 hl).1
          simp at this
          omega
        rw [List.getElem?_append_left (by omega)] at hju hl
        obtain ⟨q1, q2⟩ := h9 j u l (by simp) hju hl
        refine ⟨ownsRow_keep q1 fun c hc => keepb c (own_block_lt q1 hc).2 (q2 c hc).2, fun c hc => ⟨(q2 c hc).1, fun hc2 => ?_⟩⟩
        have hcl := (own_block_lt q1 hc).2
        rcases r5 with r5 | r5
        · have hc2 : v'.ownBlock = some c := hc2
          rw [r5, hval] at hc2
          exact (q2 c hc).2 hc2
        · have hc2 : v'.ownBlock = some c := hc2
          rw [r5] at hc2
          simp only [Option.some.injEq] at hc2
          omega
      · have hj' : j ≠ LL.length := fun e => hj (by rw [e]; simp)
        have hk' : k ≠ LL.length := fun e => hk (by rw [e]; simp)
        have l1 := (List.getElem?_eq_some_iff.1 hu).1
        have l2 := (List.getElem?_eq_some_iff.1 hu').1
        simp only [List.length_append, List.length_singleton] at l1 l2
        rw [List.getElem?_append_left (by omega)] at hu hu'
        exact h10 j k u u' q hjk (by simp) (by simp) hu hu' hb1 hb2
    · rcases hq with hq | ⟨j, u, hu, hj, hq⟩
      · have hq : v'.ownBlock = some q := hq
        rcases r5 with r5 | r5
        · rw [r5, hval] at hq
          exact .inl (.inl hq)
        · rw [r5] at hq
          simp only [Option.some.injEq] at hq
          exact .inr (by omega)
      · have hj' : j ≠ LL.length := fun e => hj (by rw [e]; simp)
        have l1 := (List.getElem?_eq_some_iff.1 hu).1
        simp only [List.length_append, List.length_singleton] at l1
        rw [List.getElem?_append_left (by omega)] at hu
        exact .inl (.inr ⟨j, u, hu, by simp, hq⟩)
  · simp only [List.getElem?_map] at hx
    rw [List.getElem?_set_ne (by omega)] at hx
    obtain ⟨y, hy, rfl⟩ := Option.map_eq_some_iff.1 hx
    rw [own_map] at hxo
    exact ⟨y, hy, hxo⟩
end
end Go.Proofs.Ytjffboggpofbfaa.Sym
end
section
/- A slice of slices made; a row put into it. -/
namespace Go.Proofs.Ytjffboggpofbfaa.Sym
open Go.RowKit

section
variable {cod : Nat → Codec}
theorem made_one (v : Value) (m : Nat) : madeCells #[v] m = (List.replicate m v).toArray := by
  unfold madeCells
  apply Array.ext
  · simp
  · intro i h1 h2
    simp [Nat.mod_one]
/-- 'make([][]T, n)'. -/
theorem StepW.make {P : Program} {b0 : Base} {o : Oper} {st : St cod} {x y : Operand} {T ty tyr : TypeId} {t B : Nat} {kx ky : IntKind} {n : Int}
    (hop : o.op = .makeSlice T x y) (hT : P.underlying T = some (.slice ty))
    (hz : (P.info? ty).map (fun i => (i.zero, i.size, i.bytes)) = some (some (.slice none 0 0), 1, B)) (hB : B ≤ 100000)
    (hx : evS st.tmps x = .c (.int kx n)) (hy : evS st.tmps y = .c (.int ky n)) (h0 : 0 ≤ n) (hn : n ≤ 1000000) {st' : St cod}
    (e : st.put o.dst { v := .c (.own st.heap.length n.toNat), H := st.heap ++ [.nown t (List.replicate n.toNat []) [] [] ty tyr] } = st') (hty : ty < 1000000 := by decide) : StepW P b0 o st st' := by
  subst e
  refine stepW_after (fun env w ρ G hM hρ => ?_) (fun k hk => by cases hk) (fun k x hk hx hxo => ?_)
  · have hu := hρ x
    have hv := hρ y
    rw [hx] at hu
    rw [hy] at hv
    have hu : ρ x = .int kx n := hu
    have hv : ρ y = .int ky n := hv
    obtain ⟨i, hi, hz'⟩ := Option.map_eq_some_iff.1 hz
    simp only [Prod.mk.injEq] at hz'
    obtain ⟨hz1, hz2, hz3⟩ := hz'
    have hbb : (i.bytes : Int) * n ≤ 281474976710656 := by
      have h1 : (i.bytes : Int) * n ≤ (i.bytes : Int) * 1000000 := Int.mul_le_mul_of_nonneg_left hn (by omega)
      omega
    have hrun := run_make (P := P) w T ty i _ hT hi hz1 kx ky n n h0 (Int.le_refl _) hbb (by omega)
    have hmk : madeCells (Value.slice none 0 0).cells (n.toNat * i.size) = (List.replicate n.toNat (Value.slice none 0 0)).toArray := by
      rw [hz2, Nat.mul_one]
      exact made_one _ _
    rw [hmk] at hrun
    have hexec : ((execOp ρ o).run P w) = .ok (.value (.slice (some ⟨w.heap.size, 0, none⟩) n.toNat n.toNat)) (w.alloc (.cells (List.replicate n.toNat (Value.slice none 0 0)).toArray ty)) := by
      unfold execOp
      simp only [hop, hu, hv, Sem.run_bind, hrun, Result.andThen_ok, Sem.run_pure]
    rw [hexec]
    have own : (w.alloc (.cells (List.replicate n.toNat (Value.slice none 0 0)).toArray ty)).ownsRow 0 ty 1 (.slice (some ⟨w.heap.size, 0, none⟩) n.toNat n.toNat) n.toNat (List.replicate n.toNat (Value.slice none 0 0)) :=
      ⟨by simp, .inr ⟨w.heap.size, n.toNat, _, rfl, Nat.zero_le _, heap_alloc_new w _, Nat.le_refl _, by unfold maxLen; omega, by simp, by simp [List.take_of_length_le]⟩⟩
    have nilrow : ∀ (j : Nat) (u : Value), (List.replicate n.toNat (Value.slice none 0 0))[j]? = some u → u = .slice none 0 0 := fun j u hu => by
      rw [List.getElem?_replicate] at hu
      split at hu
      · exact (Option.some.inj hu).symm
      · cases hu
    refine after_push (hv := ⟨w.heap.size, 0, 1, .slice (some ⟨w.heap.size, 0, none⟩) n.toNat n.toNat, List.replicate n.toNat (.slice none 0 0)⟩) (G.push _ _ (by simp) (fun k hk => heap_alloc_old w _ hk) ⟨rfl, rfl, ⟨by simp, rfl⟩, ⟨List.replicate n.toNat (.slice none 0 0), by rw [show tyO ty = ty from if_pos hty]; simpa using own, fun j _ => .inl rfl, fun q j c hq _ => by simp at hq⟩, fun b hb => ?_, fun A m c hA => ?_, fun j u l _ hju hl => ?_, fun j k u u' b _ _ _ hu _ hb => ?_⟩ (fun b hb => ?_)) ⟨by omega, by rw [Env.set_same], some ⟨w.heap.size, 0, none⟩, n.toNat, rfl, Nat.le_refl _, by unfold maxLen; omega, fun _ => by rw [Env.set_same]; simp [HV.addr]⟩ ((Kin.refl _ w).alloc _)
    · simp only [Value.ownBlock, Option.some.injEq] at hb
      exact hM b (by omega)
    · simp only [Value.slice.injEq, Option.some.injEq] at hA
      exact hA.1.symm
    · rw [nilrow j u hju]
      have hl' : l = [] := by
        rw [List.getElem?_replicate] at hl
        split at hl
        · exact (Option.some.inj hl).symm
        · cases hl
      subst hl'
      exact ⟨⟨by simp [vals], .inl ⟨rfl, rfl⟩⟩, fun b hb => by simp [Value.ownBlock] at hb⟩
    · rw [nilrow j u hu] at hb
      simp [Value.ownBlock] at hb
    · rcases hb with hb | ⟨j, u, hu, _, hb⟩
      · simp only [Value.ownBlock, Option.some.injEq] at hb
        omega
      · rw [nilrow j u hu] at hb
        simp [Value.ownBlock] at hb
  · rcases Nat.lt_or_ge k st.heap.length with hl | hl
    · simp only at hx
      rw [List.getElem?_append_left hl] at hx
      exact ⟨x, hx, hxo⟩
    · simp only at hx
      rw [List.getElem?_append_right hl] at hx
      rcases Nat.eq_zero_or_pos (k - st.heap.length) with e | e
      · rw [e] at hx
        simp only [List.getElem?_cons_zero, Option.some.injEq] at hx
        subst hx
        cases hxo
      · rw [List.getElem?_eq_none (by simp; omega)] at hx
        cases hx
/-- 'out[i] = row': the row is an object of its own still. -/
theorem StepW.row {P : Program} {b0 : Base} {o : Oper} {st : St cod} {x y : Operand} {T ty tyr : TypeId} {h i t : Nat} {LL : List (List (cod t).α)} {c : Cell}
    (hop : o.op = .store T x y) (hT : P.cellsOf T = 1) (hx : evS st.tmps x = .c (.ptr h i 0)) (hy : evS st.tmps y = .c c) (hc : c.one = true)
    (hh : getObj st.heap h = .nown t LL [] [] ty tyr) (hil : i < LL.length) {st' : St cod}
    (e : st.put o.dst { v := undefS, H := st.heap.set h (.nown t LL [i] [c] ty tyr) } = st') : StepW P b0 o st st' := by
  subst e
  have hobh := getObj_obj hh (by simp)
  refine stepW_after (fun env w ρ G hM hρ => ?_) (fun k hk => by cases hk) (fun k x hk hx hxo => ?_)
  · have hu := hρ x
    have hv := hρ y
    rw [hx] at hu
    obtain ⟨_, hadr⟩ := hu
    have hcells := vrel_cells (hρ y) (by rw [hy]; simpa [SV.cells] using hc)
    rw [hy] at hv hcells
    obtain ⟨u, hus, hcu⟩ : ∃ u, (ρ y).cells.toList = [u] ∧ crel env st.heap.length c u := by
      generalize (ρ y).cells.toList = us at hcells
      cases hcells with
      | cons a t => cases t; exact ⟨_, rfl, a⟩
    obtain ⟨h1, h2, h3, ⟨vs, h4, h5, h6⟩, h7, h8, h9, h10⟩ := G.obj h _ hobh
    rcases h4.2 with ⟨hx0, hn⟩ | ⟨g, cap, cur, hx0, hb0, hgg, hnc, hcm, hcs, htk⟩
    · omega
    have e := h8 _ _ _ hx0
    simp only [Addr.mk.injEq, and_true] at e
    subst e
    have hmb : b0.mine (env h).block := h7 _ (by simp [hx0, Value.ownBlock])
    have hone : ∀ v ∈ [u], v.oneCell' = true := fun v hv => by
      rw [List.mem_singleton.1 hv]
      exact one_rel hc hcu
    have hrun := run_storeCells_at P (env h).block i (tyO ty) [u] 0 cur w hgg (by simp; omega) hone
    simp only [Nat.add_zero] at hrun
    have ha : (env h).addr i 0 = ⟨(env h).block, i, none⟩ := by simp [HV.addr, h1, h2]
    have hinfo : (P.info? T).isSome = true := info_of_cells (by omega)
    have hsize : (ρ y).cells.size = 1 := by
      have := congrArg List.length hus
      simpa using this
    have hst : (Instr.storeAt T (ρ x) (ρ y)).run P w = .ok () (w.setRow (env h).block (cur.toList.take i ++ [u] ++ cur.toList.drop (i + 1)).toArray) := by
      rw [hadr, ha]
      simp [Instr.storeAt, Instr.sureAddr, storeVar, cellsOf_size hinfo, hsize, hT, hus]
      simpa using hrun
    have hexec : ((execOp ρ o).run P w) = .ok .skip (w.setRow (env h).block (cur.toList.take i ++ [u] ++ cur.toList.drop (i + 1)).toArray) := by
      unfold execOp
      simp only [hop, Sem.run_bind, hst, Result.andThen_ok, Sem.run_pure]
    rw [hexec]
    have hvl : vs.length = LL.length := by have := h4.1; omega
    refine ⟨env, (EnvEq.refl _ _).but _, by simp, rfl, ?_, setRow_kin hmb⟩
    refine G.write hobh rfl (b := (env h).block) (.inl (by simp [hx0, Value.ownBlock])) (by simp) (fun k hk => setRow_other w _ k _ hk) ⟨h1, h2, ⟨h3.1, rfl⟩, ⟨vs.set i u, ?_, fun j hj => ?_, fun q j c' hq hc' => ?_⟩, h7, h8, fun j v l hj hju hl => ?_, fun j k v v' b hjk hj hk hju hku => h10 j k v v' b hjk (by simp) (by simp) hju hku⟩ (fun b hb => ?_)
    · refine ⟨by rw [List.length_set]; exact h4.1, .inr ⟨(env h).block, cap, _, hx0, Nat.zero_le _, setRow_heap w _ cur _ (tyO ty) _ hgg, hnc, hcm, ?_, ?_⟩⟩
      · simp only [List.size_toArray, List.length_append, List.length_take, List.length_drop, Array.length_toList, List.length_singleton]
        omega
      · have e1 : cur.toList.set i u = cur.toList.take i ++ [u] ++ cur.toList.drop (i + 1) := by
          rw [List.set_eq_take_append_cons_drop, if_pos (by rw [Array.length_toList]; omega)]
          simp
        simp only []
        rw [← e1, ← htk, List.take_set]
    · have hj' : j ≠ i := fun e => hj (by rw [e]; simp)
      rw [List.getElem?_set_ne (Ne.symm hj')]
      exact h5 j (by simp)
    · cases q with
      | succ q => simp at hq
      | zero =>
        simp only [List.getElem?_cons_zero, Option.some.injEq] at hq hc'
        subst hq
        subst hc'
        exact ⟨u, by rw [List.getElem?_set_self (by omega)], hcu⟩
    · obtain ⟨q1, q2⟩ := h9 j v l (by simp) hju hl
      exact ⟨ownsRow_keep q1 fun b hb => setRow_other w _ _ _ fun e => (q2 b hb).2 (by rw [hx0, e]; rfl), q2⟩
    · rcases hb with hb | ⟨j, v, hv, hj, hb⟩
      · exact .inl hb
      · exact .inr ⟨j, v, hv, by simp, hb⟩
  · simp only at hx
    by_cases e : k = h
    · subst e
      rw [List.getElem?_set_self (List.getElem?_eq_some_iff.1 hobh).1] at hx
      simp only [Option.some.injEq] at hx
      subst hx
      cases hxo
    · rw [List.getElem?_set_ne (Ne.symm e)] at hx
      exact ⟨x, hx, hxo⟩
end
end Go.Proofs.Ytjffboggpofbfaa.Sym
end
