/- A symbolic run is sound: what an operation leaves; appends and makes. -/
import Derived.Test.YtkfkfihjdohjfaaSym9
namespace Go.Proofs.Ytkfkfihjdohjfaa.Sym
open Go.RowKit

section
variable {cod : Nat → Codec} {P : Program} {env : Env} {N : Nat}

/-- What holds behind an operation: its value v in the world w'. -/
def After (env : Env) (H : Heap cod) (w : World) (M : Nat → Prop) (o : Out cod) (v : Value) (w' : World) : Prop :=
  ∃ env', EnvBut H.length o.kill env env' ∧ H.length ≤ o.H.length ∧ vrel env' o.H.length o.v v ∧ Good env' o.H w' M ∧ Kin M w w'

theorem after_same {H : Heap cod} {w : World} {M : Nat → Prop} {x : SV} {v : Value} (G : Good env H w M) (hx : vrel env H.length x v) : After env H w M { v := x, H := H } v w :=
  ⟨env, (EnvEq.refl _ _).but _, Nat.le_refl _, hx, G, Kin.refl _ _⟩
theorem after_push {H : Heap cod} {w w' : World} {M : Nat → Prop} {o : HObj cod} {x : SV} {v : Value} {hv : HV} (G : Good (env.set H.length hv) (H ++ [o]) w' M) (hx : vrel (env.set H.length hv) (H.length + 1) x v) (hb : Kin M w w') :
    After env H w M { v := x, H := H ++ [o] } v w' :=
  ⟨_, (Env.set_eq env _ hv).but _, by simp, by simpa using hx, G, hb⟩

/-- The value of an owned row, laid open. -/
theorem own_value {w : World} {base : Nat} {e : TypeId} {size n : Nat} {v : Value} {xs : List Value} (h : w.ownsRow base e size v n xs) :
    ∃ A c, v = .slice A n c ∧ n ≤ c ∧ c ≤ maxLen ∧ (∀ a, A = some a → ∃ g, a = ⟨g, 0, none⟩ ∧ v.ownBlock = some g) ∧ (0 < n → ∃ g, A = some ⟨g, 0, none⟩) := by
  rcases h.2 with ⟨rfl, rfl⟩ | ⟨g, cap, cur, rfl, hb, hg, hnc, hcm, _⟩
  · exact ⟨none, 0, rfl, Nat.le_refl _, Nat.zero_le _, (fun a ha => by cases ha), fun h => by omega⟩
  · exact ⟨_, cap, rfl, hnc, hcm, fun a ha => ⟨g, (Option.some.inj ha).symm, rfl⟩, fun _ => ⟨g, rfl⟩⟩
theorem owns_zero {w : World} {B : Nat} {e : TypeId} {size n : Nat} {v : Value} {xs : List Value} (h : w.ownsRow B e size v n xs) : w.ownsRow 0 e size v n xs := by
  refine ⟨h.1, ?_⟩
  rcases h.2 with hn | ⟨g, cap, cur, hv, hb, rest⟩
  · exact .inl hn
  · exact .inr ⟨g, cap, cur, hv, Nat.zero_le _, rest⟩
/-- A row's object out of 'ownsRow'. -/
theorem own_obj {w : World} {B : Nat} {M : Nat → Prop} {u : Nat} {l : List (cod u).α} {e : TypeId} {v : Value} (h : w.ownsRow B e (cod u).size v l.length (vals (cod u) l)) (hM : ∀ b, v.ownBlock = some b → M b) (env : Env) (N : Nat) :
    objRel env N ⟨v.ownBlock.getD 0, 0, (cod u).size, v⟩ w M (.own u l e) := by
  obtain ⟨A, c, hv, _, _, hA, _⟩ := own_value h
  refine ⟨rfl, rfl, owns_zero h, hM, fun a n c' he => ?_⟩
  simp only at he
  rw [hv] at he
  simp only [Value.slice.injEq] at he
  obtain ⟨g, h1, h2⟩ := hA a he.1
  rw [h1, h2]
  rfl
theorem own_cell {w : World} {B : Nat} {u : Nat} {l : List (cod u).α} {e : TypeId} {v : Value} {h n : Nat} (ho : w.ownsRow B e (cod u).size v l.length (vals (cod u) l)) (hn : n = l.length) (env : Env) (hh : h < N) (he : env h = ⟨v.ownBlock.getD 0, 0, (cod u).size, v⟩) :
    crel env N (.own h n) v := by
  subst hn
  obtain ⟨A, c, hv, hc1, hc2, hA, hp⟩ := own_value ho
  refine ⟨hh, by rw [he], A, c, hv, hc1, hc2, fun h0 => ?_⟩
  obtain ⟨g, hg⟩ := hp h0
  obtain ⟨g', h1, h2⟩ := hA _ hg
  simp only [Addr.mk.injEq, and_true] at h1
  subst h1
  rw [hg, he]
  simp [HV.addr, h2]

theorem reads_list {w : World} {b o : Nat} {vs : List Value} (h : ∀ j u, vs[j]? = some u → w.cell? ⟨b, o + j, none⟩ = some u) : ∀ j q, vs[j]? = some q → w.cell? ((⟨b, o, none⟩ : Addr).add j) = some q := fun j q hq => by
  have e : (⟨b, o, none⟩ : Addr).add j = ⟨b, o + j, none⟩ := by unfold Addr.add; split <;> simp_all
  rw [e]
  exact h j q hq
theorem front_rel {H : Heap cod} {w : World} {M : Nat → Prop} {h : Nat} {cs : List Cell} (G : Good env H w M) (hf : (getObj H h).front = some cs) : (env h).off = 0 ∧ (env h).block < w.heap.size ∧ ∃ vs, reads w (env h) vs ∧ crels env H.length cs vs := by
  cases ho : getObj H h with
  | blk c0 ty =>
    rw [ho] at hf
    cases hf
    obtain ⟨h1, h2, vs, h3, h4⟩ := G.obj h _ (getObj_obj ho (by simp))
    exact ⟨h1, (Array.getElem?_eq_some_iff.1 h3).1, vs, fun j u hu => by rw [h1, Nat.zero_add, cell_of_row w _ j _ _ _ h3]; simpa using hu, h4⟩
  | rblk c0 =>
    rw [ho] at hf
    cases hf
    obtain ⟨h1, h2, vs, h3, h4⟩ := G.obj h _ (getObj_obj ho (by simp))
    exact ⟨h1, h2, vs, h3, h4⟩
  | pblk c0 =>
    rw [ho] at hf
    cases hf
    obtain ⟨h1, h2, vs, h3, h4⟩ := G.obj h _ (getObj_obj ho (by simp))
    exact ⟨h1, h2.1, vs, h3, h4⟩
  | _ => rw [ho] at hf; cases hf
theorem appendN_sound (cfg : Cfg cod) {H : Heap cod} {w : World} {M : Nat → Prop} {t e ty : TypeId} {s x : SV} {u v : Value} {out : Out cod} (ht : cfg.P.underlying t = some (.slice e)) (h : (appendN cfg H e s x).gives out) (G : Good env H w M) (hM : ∀ k, w.heap.size ≤ k → M k) (hs : vrel env H.length s u) (hx : vrel env H.length x v) :
    ∃ v' w', (Builtin.append_ #[t, t] ty #[u, v]).run cfg.P w = .ok v' w' ∧ After env H w M out v' w' := by
  unfold appendN at h
  split at h
  · rename_i hh i n tt
    split at h
    · rename_i cs hf
      split at h
      · rename_i hc
        obtain ⟨rfl, hn, hn6, hc0, hcl, hone, hby, hzz⟩ := hc
        rw [T.gives_ret] at h
        subst h
        have hu : u = .slice none 0 0 := hs
        subst hu
        obtain ⟨hN, A, c, rfl, hnc, hcm, _, hA⟩ := hx
        obtain ⟨f1, f2, vs, f3, f4⟩ := front_rel G hf
        have hz : ∃ i z, cfg.P.info? e = some i ∧ i.zero = some z ∧ i.size = cfg.P.cellsOf e ∧ i.bytes = cfg.P.bytesOf e ∧ z.cells.size = cfg.P.cellsOf e := by
          unfold zeroCells at hzz
          cases hi : cfg.P.info? e with
          | none => simp [hi] at hzz
          | some i =>
            cases hz : i.zero with
            | none => simp [hi, hz] at hzz
            | some z =>
              refine ⟨i, z, rfl, hz, by simp [Program.cellsOf, hi], by simp [Program.bytesOf, hi], ?_⟩
              simp only [hi, hz, Option.bind_some, Option.map_some, Option.some.injEq] at hzz
              have := f2_length (ofValue_cells (env := env) (N := 0) z)
              rw [hzz] at this
              simpa using this.symm
        obtain ⟨inf, z, hi, hz0, hz1, hz2, hzs⟩ := hz
        have hlen : (vs.take (n * cfg.P.cellsOf e)).length = n * cfg.P.cellsOf e := by
          rw [List.length_take, ← f2_length f4]
          omega
        have hrel : crels env H.length (cs.take (n * cfg.P.cellsOf e)) (vs.take (n * cfg.P.cellsOf e)) := f2_take _ f4
        have hcells : ∀ j q, (vs.take (n * cfg.P.cellsOf e))[j]? = some q → w.cell? ⟨(env hh).block, (env hh).off + j, none⟩ = some q := fun j q hq => by
          refine f3 j q ?_
          rw [List.getElem?_take] at hq
          split at hq
          · exact hq
          · cases hq
        have hAe : A = some ⟨(env hh).block, (env hh).off, none⟩ := by
          rw [hA hn]
          simp [HV.addr]
        obtain ⟨v', w', r1, r2, r3, r4, r5⟩ := append_any w 0 t ty e inf z (cfg.P.cellsOf e) (cfg.P.bytesOf e) ht hi hz0 hz1 hz2 hzs hc0 (.slice none 0 0) 0 [] ⟨by simp, .inl ⟨rfl, rfl⟩⟩ A n c (vs.take (n * cfg.P.cellsOf e)) hlen
          (fun _ => ⟨_, hAe, reads_list hcells⟩) (ones_rel hone hrel) (by unfold maxLen; omega) (Nat.le_trans (Nat.mul_le_mul (by omega) hby) (by omega : 1000000 * 100000 ≤ 140737488355328)) (Nat.zero_le _)
        have r2' : w'.ownsRow 0 e (cfg.P.cellsOf e) v' n (vs.take (n * cfg.P.cellsOf e)) := by simpa using r2
        have hob : (Value.slice none 0 0).ownBlock = none := rfl
        rcases r2'.2 with ⟨_, h0⟩ | ⟨g, cap, cur, hv, _, hg, hncap, hcapm, hcs, htk⟩
        · omega
        · subst hv
          have hgs : g = w.heap.size := by
            rcases r5 with h | h
            · cases h
            · simpa [Value.ownBlock] using h
          have hgl : g < w'.heap.size := (Array.getElem?_eq_some_iff.1 hg).1
          refine ⟨_, w', r1, after_push (hv := ⟨g, 0, cfg.P.cellsOf e, .slice none 0 0⟩) ?_ ?_ ((Kin.refl M w).grown r3 (run_drawn _ _ _ _ _ r1) (fun q hq => by cases hq))⟩
          · refine G.push _ _ r3.size (fun q hq => r3.block q hq (by simp [hob])) ?_ (fun b hb => ?_)
            · refine ⟨rfl, ⟨hgl, hM g (by omega)⟩, vs.take (n * cfg.P.cellsOf e), fun j q hq => ?_, crels_mono (by omega) (Env.set_eq env _ _) hrel⟩
              rw [Nat.zero_add, cell_of_row w' _ j _ _ _ hg]
              rw [← htk] at hq
              rw [List.getElem?_take] at hq
              split at hq
              · simpa using hq
              · cases hq
            · simp only [HObj.has] at hb
              omega
          · have hlt : H.length < H.length + 1 := Nat.lt_succ_self _
            have ha : some (⟨g, 0, none⟩ : Addr) = some (((env.set H.length ⟨g, 0, cfg.P.cellsOf e, .slice none 0 0⟩) H.length).addr 0 0) := by
              rw [Env.set_same]
              simp [HV.addr]
            exact And.intro hlt (Exists.intro _ (Exists.intro _ (And.intro rfl (And.intro hncap (And.intro hcapm (And.intro (fun h => by cases h) (fun _ => ha)))))))
      · exact h.elim
    · exact h.elim
  · exact h.elim
/-- An append to an own row, said apart: what becomes of the row, wherever it is kept. -/
theorem append_own (cfg : Cfg cod) {H : Heap cod} {w : World} {M : Nat → Prop} {t ty : TypeId} {hh n : Nat} {x : SV} {u v : Value} {out : Out cod} (h : (appendS cfg H t (.c (.own hh n)) x).gives out) (G : Good env H w M) (hM : ∀ k, w.heap.size ≤ k → M k) (hs : vrel env H.length (.c (.own hh n)) u) (hx : vrel env H.length x v) :
    ∃ (k : Nat) (l l' : List (cod k).α) (ty' : TypeId), getObj H hh = .own k l ty' ∧ out = { v := .c (.own hh (n + l'.length)), H := (H.set hh (.own k (l ++ l') ty')).map (HObj.mapC (Cell.killed [hh])), kill := [hh] } ∧
      ∃ v' w' y, (Builtin.append_ #[t, t] ty #[u, v]).run cfg.P w = .ok v' w' ∧ w.heap.size ≤ w'.heap.size ∧ (∀ q, q < w.heap.size → some q ≠ (env hh).val.ownBlock → w'.heap[q]? = w.heap[q]?) ∧
        (∀ env' N', objRel env' N' y w' M (.own k (l ++ l') ty')) ∧ (y.val.ownBlock = (env hh).val.ownBlock ∨ y.val.ownBlock = some w.heap.size) ∧ Kin M w w' ∧ ∀ (env' : Env) N' q, q < N' → env' q = y → crel env' N' (.own q (n + l'.length)) v' := by
  unfold appendS at h
  split at h
  · rename_i e ht
    split at h
    · unfold appendN at h
      split at h
      · rename_i e0
        cases e0
      · exact h.elim
    · rename_i k hk
      split at h
      · rename_i hc
        obtain ⟨hc1, hc2, hc3⟩ := hc
        rw [T.gives_bind] at h
        obtain ⟨l', hl', h⟩ := h
        obtain ⟨A, m, c, rfl, hm, hmc, hcm, hA⟩ := rows_rel hl' G hx
        subst hm
        have hz : ∃ z, (cfg.P.info? e).map (fun i => (i.zero, i.size, i.bytes)) = some (some z, (cod k).size, cfg.P.bytesOf e) ∧ z.cells.size = (cod k).size := by
          unfold zeroCells at hc3
          cases hi : cfg.P.info? e with
          | none => simp [hi] at hc3
          | some i =>
            cases hz : i.zero with
            | none => simp [hi, hz] at hc3
            | some z =>
              refine ⟨z, by simp [hz, ← hc1, Program.cellsOf, Program.bytesOf, hi], ?_⟩
              simp only [hi, hz, Option.bind_some, Option.map_some, Option.some.injEq] at hc3
              have := f2_length (ofValue_cells (env := env) (N := 0) z)
              rw [hc3, hc1] at this
              simpa using this.symm
        obtain ⟨z, hz, hzs⟩ := hz
        obtain ⟨i, hi, hz0, hz1, hz2⟩ := info_parts hz
        have one' := vals_one (cod k) l'
        simp only at h
        split at h
        · rename_i k' l ty' ho
          split at h
          · rename_i hku
            subst hku
            split at h
            · rename_i hty
              subst hty
              rw [T.gives_need, T.gives_ret] at h
              obtain ⟨hb, rfl⟩ := h
              have hobj := getObj_obj ho (by simp)
              obtain ⟨o1, o2, o3, o4, o5⟩ := G.obj hh _ hobj
              obtain ⟨hlt, hval, A0, c0, hs1, hs2, hs3, hs4⟩ := hs
              have hn : n = l.length := by
                rw [← hval, hs1] at o3
                rcases o3.2 with ⟨e, hz⟩ | ⟨g, cap, cur, e, _⟩
                · simp only [Value.slice.injEq] at e; omega
                · simp only [Value.slice.injEq] at e; omega
              subst hn
              obtain ⟨v', w', r1, r2, r3, r4, r5⟩ := append_any w 0 t ty ty' i z (cod k').size (cfg.P.bytesOf ty') ht hi hz0 hz1 hz2 hzs (cod k').pos u l.length (vals (cod k') l) (by rw [hval]; exact o3) A l'.length c (vals (cod k') l') (vals_len _ _) hA one'
                (by unfold maxLen; omega) (Nat.le_trans (Nat.mul_le_mul hb hc2) (by omega)) (Nat.zero_le _)
              have r2' : w'.ownsRow 0 ty' (cod k').size v' (l ++ l').length (vals (cod k') (l ++ l')) := by rw [List.length_append, vals_append]; exact r2
              refine ⟨k', l, l', ty', ho, rfl, v', w', ⟨v'.ownBlock.getD 0, 0, (cod k').size, v'⟩, r1, r3.size, fun q hq hne => r3.block q hq (by rw [hval]; exact hne), fun env' N' => own_obj r2' (fun b hb => ?_) _ _, ?_, (Kin.refl M w).grown r3 (run_drawn _ _ _ _ _ r1) (fun q hq => ?_), fun env' N' q hq he => ?_⟩
              · rcases r5 with r5 | r5
                · rw [r5, hval] at hb; exact o4 b hb
                · rw [r5] at hb
                  simp only [Option.some.injEq] at hb
                  exact hM b (by omega)
              · simpa [hval] using r5
              · rw [hval] at hq
                exact o4 q hq
              · exact own_cell r2' (by simp) _ hq he
            · exact h.elim
          · exact h.elim
        · exact h.elim
      · exact h.elim
  · exact h.elim
theorem append_sound (cfg : Cfg cod) {H : Heap cod} {w : World} {M : Nat → Prop} {t ty : TypeId} {s x : SV} {u v : Value} {out : Out cod} (h : (appendS cfg H t s x).gives out) (G : Good env H w M) (hM : ∀ k, w.heap.size ≤ k → M k) (hs : vrel env H.length s u) (hx : vrel env H.length x v) :
    ∃ v' w', (Builtin.append_ #[t, t] ty #[u, v]).run cfg.P w = .ok v' w' ∧ After env H w M out v' w' := by
  unfold appendS at h
  split at h
  · rename_i e ht
    split at h
    · exact appendN_sound cfg ht h G hM hs hx
    · rename_i k hk
      split at h
      · rename_i hc
        obtain ⟨hc1, hc2, hc3⟩ := hc
        rw [T.gives_bind] at h
        obtain ⟨l', hl', h⟩ := h
        obtain ⟨A, m, c, rfl, hm, hmc, hcm, hA⟩ := rows_rel hl' G hx
        subst hm
        have hz : ∃ z, (cfg.P.info? e).map (fun i => (i.zero, i.size, i.bytes)) = some (some z, (cod k).size, cfg.P.bytesOf e) ∧ z.cells.size = (cod k).size := by
          unfold zeroCells at hc3
          cases hi : cfg.P.info? e with
          | none => simp [hi] at hc3
          | some i =>
            cases hz : i.zero with
            | none => simp [hi, hz] at hc3
            | some z =>
              refine ⟨z, by simp [hz, ← hc1, Program.cellsOf, Program.bytesOf, hi], ?_⟩
              simp only [hi, hz, Option.bind_some, Option.map_some, Option.some.injEq] at hc3
              have := f2_length (ofValue_cells (env := env) (N := 0) z)
              rw [hc3, hc1] at this
              simpa using this.symm
        obtain ⟨z, hz, hzs⟩ := hz
        obtain ⟨i, hi, hz0, hz1, hz2⟩ := info_parts hz
        have one' := vals_one (cod k) l'
        split at h
        · rename_i hh n
          split at h
          · rename_i k' l ty' ho
            split at h
            · rename_i hku
              subst hku
              split at h
              · rename_i hty
                subst hty
                rw [T.gives_need, T.gives_ret] at h
                obtain ⟨hb, rfl⟩ := h
                have hobj := getObj_obj ho (by simp)
                obtain ⟨o1, o2, o3, o4, o5⟩ := G.obj hh _ hobj
                obtain ⟨hlt, hval, A0, c0, hs1, hs2, hs3, hs4⟩ := hs
                have hn : n = l.length := by
                  rw [← hval, hs1] at o3
                  rcases o3.2 with ⟨e, hz⟩ | ⟨g, cap, cur, e, _⟩
                  · simp only [Value.slice.injEq] at e; omega
                  · simp only [Value.slice.injEq] at e; omega
                subst hn
                obtain ⟨v', w', r1, r2, r3, r4, r5⟩ := append_any w 0 t ty ty' i z (cod k').size (cfg.P.bytesOf ty') ht hi hz0 hz1 hz2 hzs (cod k').pos u l.length (vals (cod k') l) (by rw [hval]; exact o3) A l'.length c (vals (cod k') l') (vals_len _ _) hA one'
                  (by unfold maxLen; omega) (Nat.le_trans (Nat.mul_le_mul hb hc2) (by omega)) (Nat.zero_le _)
                have r2' : w'.ownsRow 0 ty' (cod k').size v' (l ++ l').length (vals (cod k') (l ++ l')) := by rw [List.length_append, vals_append]; exact r2
                refine ⟨v', w', r1, env.set hh ⟨v'.ownBlock.getD 0, 0, (cod k').size, v'⟩, fun q hq hne => Env.set_other _ _ (by rintro rfl; exact hne (by simp)), by simp, ?_, ?_, ?_⟩
                · simp only [List.length_map, List.length_set]
                  exact own_cell r2' (by simp) _ hlt (Env.set_same _ _ _)
                · refine G.regrow hobj r3.size (fun q hq hne => r3.block q hq (by rw [hval]; exact hne)) _ (own_obj r2' (fun b hb => ?_) _ _) ?_
                  · rcases r5 with r5 | r5
                    · rw [r5, hval] at hb; exact o4 b hb
                    · rw [r5] at hb
                      simp only [Option.some.injEq] at hb
                      exact hM b (by omega)
                  · simpa [hval] using r5
                · refine (Kin.refl M w).grown r3 (run_drawn _ _ _ _ _ r1) (fun q hq => ?_)
                  rw [hval] at hq
                  exact o4 q hq
              · exact h.elim
            · exact h.elim
          · exact h.elim
        · rename_i hh i0 n
          by_cases hemp : cfg.emp = true
          · rw [if_pos hemp, T.gives_need, T.gives_ret] at h
            obtain ⟨h0, rfl⟩ := h
            have hs' := hs
            obtain ⟨hlt, A0, c0, hs1, hs2, hs3, hs4, hs5⟩ := hs
            subst hs1
            rw [h0]
            exact ⟨_, w, run_append_empty w t ty e i ht hi A0 A n c0 c hs2, env, (EnvEq.refl _ _).but _, Nat.le_refl _, hs', G, Kin.refl M w⟩
          rw [if_neg hemp] at h
          rcases orNone_gives h with ⟨⟨h0, _⟩, rfl⟩ | h
          · have hs' := hs
            obtain ⟨hlt, A0, c0, hs1, hs2, hs3, hs4, hs5⟩ := hs
            subst hs1
            rw [h0]
            exact ⟨_, w, run_append_empty w t ty e i ht hi A0 A n c0 c hs2, env, (EnvEq.refl _ _).but _, Nat.le_refl _, hs', G, Kin.refl M w⟩
          rw [T.gives_bind] at h
          obtain ⟨l, hl, h⟩ := h
          rw [T.gives_need, T.gives_ret] at h
          obtain ⟨⟨hp, hb⟩, rfl⟩ := h
          have hs' := hs
          obtain ⟨hlt, A0, c0, hs1, hs2, hs3, hs4, hs5⟩ := hs
          obtain ⟨A1, m1, c1, e1, hm1, _, _, hA1⟩ := rows_rel hl G hs'
          rw [hs1] at e1
          simp only [Value.slice.injEq] at e1
          obtain ⟨rfl, rfl, rfl⟩ := e1
          have hcn := hs4 rfl
          subst hcn
          subst hm1
          obtain ⟨a', rfl, hcells'⟩ := hA hp
          have grow : ∃ v' w', (Builtin.append_ #[t, t] ty #[u, .slice (some a') l'.length c]).run cfg.P w = .ok v' w' ∧ w'.ownsRow 0 e (cod k).size v' (l.length + l'.length) (vals (cod k) l ++ vals (cod k) l') ∧ w.grownBy w' none ∧ v'.ownBlock = some w.heap.size := by
            subst hs1
            have h63 : l.length + l'.length ≤ maxLen := by unfold maxLen; omega
            have hby : (l.length + l'.length) * i.bytes ≤ 140737488355328 := by rw [hz2]; exact Nat.le_trans (Nat.mul_le_mul hb hc2) (by omega)
            have hge := grownCap_ge w (l.length + l'.length) l.length e
            have hle := grownCap_le_maxLen w (l.length + l'.length) l.length e h63
            have own : (w.drew.alloc (.cells ((vals (cod k) l).toArray ++ (vals (cod k) l').toArray ++ Builtin.zeroCells z.cells (grownCap w (l.length + l'.length) l.length e - (l.length + l'.length))) e)).ownsRow 0 e (cod k).size
                (.slice (some ⟨w.heap.size, 0, none⟩) (l.length + l'.length) (grownCap w (l.length + l'.length) l.length e)) (l.length + l'.length) (vals (cod k) l ++ vals (cod k) l') := by
              have hlen : (vals (cod k) l ++ vals (cod k) l').length = (l.length + l'.length) * (cod k).size := by rw [List.length_append, vals_len, vals_len, Nat.add_mul]
              refine ⟨hlen, .inr ⟨w.heap.size, _, _, rfl, Nat.zero_le _, heap_alloc_new w.drew _, hge, hle, ?_, ?_⟩⟩
              · simp only [Array.size_append, List.size_toArray, size_zeroCells, hzs, vals_len, ← Nat.add_mul]
                congr 1
                omega
              · simp only [Array.toList_append, List.append_assoc]
                rw [← List.append_assoc, ← hlen]
                exact List.take_left
            have gr : w.grownBy (w.drew.alloc (.cells ((vals (cod k) l).toArray ++ (vals (cod k) l').toArray ++ Builtin.zeroCells z.cells (grownCap w (l.length + l'.length) l.length e - (l.length + l'.length))) e)) none :=
              ⟨rfl, rfl, rfl, by simp, fun q hq _ => heap_alloc_old w.drew _ hq⟩
            rcases A0 with _ | b
            · have h0 : l.length = 0 := by
                rcases Nat.eq_zero_or_pos l.length with h0 | h0
                · exact h0
                · have := hs5 h0; cases this
              have hl0 : l = [] := List.eq_nil_of_length_eq_zero h0
              subst hl0
              have hr := run_append_nil (P := cfg.P) w t ty e i z ht hi hz0 a' l'.length c (vals (cod k) l') (by rw [vals_len, hz1]) hcells' hp (by omega) (by simp only [List.length_nil, Nat.zero_add] at hby; omega)
              refine ⟨_, _, hr, ?_, ?_, rfl⟩
              · simpa [vals] using own
              · simpa [vals] using gr
            · have hr := run_append_grow (P := cfg.P) w t ty e i z ht hi hz0 b l.length l.length (vals (cod k) l) (by rw [vals_len, hz1]) (fun j q hq => by
                  rcases Nat.eq_zero_or_pos l.length with h0 | h0
                  · have hl0 : l = [] := List.eq_nil_of_length_eq_zero h0
                    rw [hl0] at hq
                    simp [vals] at hq
                  · obtain ⟨b', e1, e2⟩ := hA1 h0
                    simp only [Option.some.injEq] at e1
                    subst e1
                    exact e2 j q hq) a' l'.length c (vals (cod k) l') (by rw [vals_len, hz1]) hcells' (by omega) (by omega) (growslice_fits (by omega) hby)
              exact ⟨_, _, hr, own, gr, rfl⟩
          obtain ⟨v', w', r1, r2, r3, r4⟩ := grow
          have r2' : w'.ownsRow 0 e (cod k).size v' (l ++ l').length (vals (cod k) (l ++ l')) := by rw [List.length_append, vals_append]; exact r2
          refine ⟨v', w', r1, env.set H.length ⟨v'.ownBlock.getD 0, 0, (cod k).size, v'⟩, (Env.set_eq env _ _).but _, by simp, ?_, ?_, (Kin.refl M w).grown r3 (run_drawn _ _ _ _ _ r1) (fun q hq => by cases hq)⟩
          · simp only [List.length_append, List.length_singleton]
            exact own_cell r2' (by simp) _ (by omega) (Env.set_same _ _ _)
          · refine G.push _ _ r3.size (fun q hq => r3.block q hq (by simp)) (own_obj r2' (fun b hb => ?_) _ _) (fun b hb => ?_)
            · rw [r4] at hb
              simp only [Option.some.injEq] at hb
              exact hM b (by omega)
            · simp only [HObj.has, r4, Option.some.injEq] at hb
              omega
        · obtain ⟨hb, rfl⟩ := nilA_gives h
          have hu : u = .slice none 0 0 := hs
          subst hu
          obtain ⟨v', w', r1, r2, r3, r4, r5⟩ := append_any w 0 t ty e i z (cod k).size (cfg.P.bytesOf e) ht hi hz0 hz1 hz2 hzs (cod k).pos (.slice none 0 0) 0 [] ⟨by simp, .inl ⟨rfl, rfl⟩⟩ A l'.length c (vals (cod k) l') (vals_len _ _) hA
            one' (by unfold maxLen; omega) (Nat.le_trans (Nat.mul_le_mul (by omega) hc2) (by omega : 1000000 * 100000 ≤ 140737488355328)) (Nat.zero_le _)
          have r2' : w'.ownsRow 0 e (cod k).size v' l'.length (vals (cod k) l') := by simpa using r2
          have hob : (Value.slice none 0 0).ownBlock = none := rfl
          refine ⟨v', w', r1, env.set H.length ⟨v'.ownBlock.getD 0, 0, (cod k).size, v'⟩, (Env.set_eq env _ _).but _, by simp, ?_, ?_, (Kin.refl M w).grown r3 (run_drawn _ _ _ _ _ r1) (fun q hq => by cases hq)⟩
          · simp only [List.length_append, List.length_singleton]
            exact own_cell r2' rfl _ (by omega) (Env.set_same _ _ _)
          · refine G.push _ _ r3.size (fun q hq => r3.block q hq (by simp [hob])) (own_obj r2' (fun b hb => ?_) _ _) (fun b hb => ?_)
            · rcases r5 with h | h
              · rw [h, hob] at hb; cases hb
              · rw [h] at hb
                simp only [Option.some.injEq] at hb
                exact hM b (by omega)
            · simp only [HObj.has] at hb
              rcases r5 with h | h
              · rw [h, hob] at hb; cases hb
              · rw [h] at hb
                simp only [Option.some.injEq] at hb
                omega
        · exact h.elim
      · exact h.elim
  · exact h.elim
end
end Go.Proofs.Ytkfkfihjdohjfaa.Sym
