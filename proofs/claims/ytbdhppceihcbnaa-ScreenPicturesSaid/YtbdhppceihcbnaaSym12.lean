/- A symbolic run is sound: any one operation. -/
import Derived.Test.YtbdhppceihcbnaaSym11
namespace Go.Proofs.Ytbdhppceihcbnaa.Sym
open Go.RowKit

section
variable {cod : Nat → Codec} {P : Program} {env : Env} {N : Nat}

/-- What an operation's run comes to. -/
def OpRes (P : Program) (R : Value → World → Prop) : Result Next → Prop
  | .ok (.value v) w' => R v w'
  | .ok .skip w' => R undef w'
  | .ok (.enter f args) w' => Calls P f args w' fun e w'' => ∃ v, e = .returned v ∧ R v w''
  | _ => False
theorem opRes_wp {o : Oper} {a : Act} {w : World} {R : Value → World → Prop} {K : Act → World → Prop} {Q : Exit → Act → World → Prop} (h : OpRes P R ((execOp a.eval o).run P w)) (hK : ∀ v w', R v w' → K (a.put o.dst v) w') : o.wp P a w K Q := by
  unfold Oper.wp
  generalize (execOp a.eval o).run P w = r at *
  cases r with
  | ok n w' =>
    cases n <;> simp only [OpRes] at h <;> simp only [Oper.upon]
    case value u => exact hK _ _ h
    case skip => exact hK _ _ h
    case enter f args => exact h.mono fun e w'' ⟨v, he, hR⟩ => by subst he; exact hK _ _ hR
  | halt x w' => simp only [OpRes] at h

theorem foldS_sound (f : Int → Int → Int) (op : Value → Value → Sem Value) (hop : ∀ k a b w, (op (.int k a) (.int k b)).run P w = .ok (.int k (f a b)) w) : ∀ (xs : List SV) (us : List Value) (k : IntKind) (a n : Int) (w : World), foldS f k a xs = some n → F2 (vrel env N) xs us →
    (us.foldlM op (.int k a)).run P w = .ok (.int k n) w
  | [], us, k, a, n, w, h, hu => by
    cases hu
    simp only [foldS, Option.some.injEq] at h
    subst h
    rfl
  | x :: xs, us, k, a, n, w, h, hu => by
    cases hu with
    | cons hx hxs =>
      unfold foldS at h
      split at h
      · rename_i e; simp at e
      · rename_i k' b xs' e
        simp only [List.cons.injEq] at e
        obtain ⟨rfl, rfl⟩ := e
        split at h
        · rename_i hk
          subst hk
          have hb := hx
          simp only [vrel, vrel1, crel] at hb
          subst hb
          rw [List.foldlM_cons, Sem.run_bind, hop, Result.andThen_ok]
          exact foldS_sound f op hop xs _ k _ n w h hxs
        · cases h
      · cases h
theorem run_max2 (k : IntKind) (a b : Int) (w : World) : (Builtin.max2 (.int k a) (.int k b)).run P w = .ok (.int k (max a b)) w := by
  simp only [Builtin.max2, Sem.run_pure]
  congr 2
  split <;> omega
theorem run_min2 (k : IntKind) (a b : Int) (w : World) : (Builtin.min2 (.int k a) (.int k b)).run P w = .ok (.int k (min a b)) w := by
  simp only [Builtin.min2, Sem.run_pure]
  congr 2
  split <;> omega

theorem made_vals (c : Codec) (z : List Value) (a : c.α) (hz : z = (c.enc a).map Cell.val) (n : Nat) : (madeCells z.toArray (n * c.size)).toList = vals c (List.replicate n a) := by
  have hzl : z.length = c.size := by rw [hz, List.length_map, c.size_eq]
  apply List.ext_getElem?
  intro j
  have hpos := c.pos
  rcases Nat.lt_or_ge j (n * c.size) with hj | hj
  · have hq : j / c.size < n := Nat.div_lt_of_lt_mul (by rw [Nat.mul_comm]; exact hj)
    have hr : j % c.size < c.size := Nat.mod_lt _ hpos
    have hv := vals_get c (List.replicate n a) (j / c.size) (j % c.size) (by rw [List.length_replicate]; exact hq) hr
    rw [Nat.div_add_mod'] at hv
    rw [hv]
    have hg : (List.replicate n a).getD (j / c.size) c.d = a := by simp [List.getD, hq]
    rw [hg]
    have hl : (madeCells z.toArray (n * c.size)).toList[j]? = some (z.toArray[j % z.toArray.size]!) := by
      simp [madeCells, hj]
    rw [hl, ← List.getElem?_map, ← hz]
    have h2 : j % z.length < z.length := by rw [hzl]; exact hr
    simp only [List.size_toArray]
    rw [← hzl, List.getElem?_eq_getElem h2]
    simp [getElem!_pos, h2]
  · rw [List.getElem?_eq_none (by simp [madeCells]; omega), List.getElem?_eq_none (by rw [vals_len, List.length_replicate]; omega)]

theorem clear_sound (cfg : Cfg cod) {H : Heap cod} {w : World} {M : Nat → Prop} {ts : Array TypeId} {t ty : TypeId} {x : SV} {v : Value} {out : Out cod} (ht0 : ts[0]? = some t) (h : (clearS cfg H t x).gives out) (G : Good env H w M) (hx : vrel env H.length x v) :
    ∃ w', (Builtin.clear_ ts ty #[v]).run cfg.P w = .ok (.tuple #[]) w' ∧ After env H w M out (.tuple #[]) w' := by
  unfold clearS at h
  split at h
  · rename_i e hh i n tt ht hs
    obtain ⟨hlt, A, c, rfl, hnc, hcm, _, hA⟩ := asSlc_rel hs hx
    split at h
    · rename_i u l ty' zc ho hz
      split at h
      · rename_i hc
        obtain ⟨hok, hzl⟩ := hc
        rw [T.gives_need, T.gives_ret] at h
        obtain ⟨hin, rfl⟩ := h
        have hg := getObj_obj ho (by simp)
        have hlt := (List.getElem?_eq_some_iff.1 hg).1
        rcases Nat.eq_zero_or_pos n with hn0 | hnp
        · subst hn0
          refine ⟨w, ?_, ?_⟩
          · cases A with
            | none => simp [Builtin.clear_, ht0, run_underlying ht]
            | some a => simp [Builtin.clear_, ht0, run_underlying ht]
          · have e1 : H.set hh (.own u (l.take i ++ (List.replicate 0 ((cod u).dec zc) ++ l.drop (i + 0))) ty') = H := by
              rw [List.replicate_zero, List.nil_append, Nat.add_zero, List.take_append_drop]
              obtain ⟨hl2, hl3⟩ := List.getElem?_eq_some_iff.1 hg
              rw [← hl3]
              exact List.set_getElem_self hl2
            rw [e1]
            exact after_same G ⟨#[], rfl, .nil⟩
        · obtain ⟨h1, h2, h3, h4, h5⟩ := G.obj hh _ hg
          unfold zeroCells at hz
          cases hi : cfg.P.info? e with
          | none => simp [hi] at hz
          | some inf =>
            cases hz0 : inf.zero with
            | none => simp [hi, hz0] at hz
            | some zv =>
              simp only [hi, hz0, Option.bind_some, Option.some.injEq] at hz
              subst hz
              have hzr := ofValue_cells (env := env) (N := H.length) zv
              have hsc : (SV.ofValue zv).cells.all Cell.scalar = true := by rw [← (cod u).ok_spec _ hok]; exact (cod u).scal _
              have hzv := scalars_val hsc hzr
              have hmv := made_vals (cod u) zv.cells.toList ((cod u).dec (SV.ofValue zv).cells) (by rw [(cod u).ok_spec _ hok]; exact hzv) n
              have hzs : zv.cells.size = (cod u).size := by
                have := f2_length hzr
                rw [hzl] at this
                simpa using this.symm
              have hzc : (Builtin.zeroCells zv.cells n).toList = vals (cod u) (List.replicate n ((cod u).dec (SV.ofValue zv).cells)) := by
                rw [← hmv, Array.toArray_toList]
                unfold Builtin.zeroCells madeCells
                rw [hzs]
              have hzval : (zeroValue e).run cfg.P w = .ok zv w := by simp [zeroValue, typeInfo, hi, hz0]
              generalize hD : List.replicate n ((cod u).dec (SV.ofValue zv).cells) = D at *
              have hDl : D.length = n := by rw [← hD, List.length_replicate]
              rcases h3.2 with ⟨hv, hn⟩ | ⟨g, cap, cur, hv, hb, hgg, hnc', hcm', hcs, htk⟩
              · omega
              · have e := h5 _ _ _ hv
                simp only [Addr.mk.injEq, and_true] at e
                subst e
                have hmb : M (env hh).block := h4 _ (by simp [hv, Value.ownBlock])
                have hil : (i + n) * (cod u).size ≤ l.length * (cod u).size := Nat.mul_le_mul_right _ hin
                have hic : l.length * (cod u).size ≤ cap * (cod u).size := Nat.mul_le_mul_right _ hnc'
                rw [Nat.add_mul] at hil
                have hvl := vals_len (cod u) l
                have hDv := vals_len (cod u) D
                rw [hDl] at hDv
                have hrun := run_storeCells_at cfg.P (env hh).block (i * (cod u).size) ty' (vals (cod u) D) 0 cur w hgg (by simp; omega) (vals_one (cod u) D)
                simp only [Nat.add_zero] at hrun
                have hadr : (env hh).addr i 0 = ⟨(env hh).block, i * (cod u).size, none⟩ := by simp [HV.addr, h1, h2]
                have hAa := hA hnp
                rw [hadr] at hAa
                subst hAa
                obtain ⟨m, rfl⟩ : ∃ m, n = m + 1 := ⟨n - 1, by omega⟩
                have hrunc : (Builtin.clear_ ts ty #[.slice (some ⟨(env hh).block, i * (cod u).size, none⟩) (m + 1) c]).run cfg.P w = .ok (.tuple #[]) (w.setRow (env hh).block (cur.toList.take (i * (cod u).size) ++ vals (cod u) D ++ cur.toList.drop (i * (cod u).size + (vals (cod u) D).length)).toArray) := by
                  simp [Builtin.clear_, ht0, run_underlying ht, hzval, hzc, hrun]
                have hL : (l.take i ++ (D ++ l.drop (i + (m + 1)))).length = l.length := by
                  rw [List.length_append, List.length_append, List.length_take, List.length_drop, hDl]
                  omega
                have hvL : vals (cod u) (l.take i ++ (D ++ l.drop (i + (m + 1)))) = (vals (cod u) l).take (i * (cod u).size) ++ (vals (cod u) D ++ (vals (cod u) l).drop (i * (cod u).size + (m + 1) * (cod u).size)) := by
                  rw [vals_append, vals_append, vals_take', vals_drop', Nat.add_mul]
                refine ⟨_, hrunc, env, (EnvEq.refl _ _).but _, by simp, ⟨#[], rfl, .nil⟩, ?_, setRow_kin hmb⟩
                refine G.write hg rfl (b := (env hh).block) (by simp [HObj.has, hv, Value.ownBlock]) (by simp) (fun k hk => setRow_other w _ k _ hk) ⟨h1, h2, ?_, h4, h5⟩ (fun _ h => h)
                refine ⟨by rw [vals_len, hL], .inr ⟨(env hh).block, cap, _, by rw [hL]; exact hv, hb, setRow_heap w _ cur _ ty' _ hgg, by rw [hL]; exact hnc', hcm', ?_, ?_⟩⟩
                · simp only [List.size_toArray, List.length_append, List.length_take, List.length_drop, Array.length_toList]
                  omega
                · rw [hvL, hL, ← htk, hDv]
                  have e1 : (cur.toList.take (l.length * (cod u).size)).take (i * (cod u).size) = cur.toList.take (i * (cod u).size) := by rw [List.take_take]; congr 1; omega
                  rw [e1]
                  have hA' : (cur.toList.take (i * (cod u).size)).length = i * (cod u).size := by rw [List.length_take, Array.length_toList]; omega
                  have t1 : (cur.toList.take (i * (cod u).size)).take (l.length * (cod u).size) = cur.toList.take (i * (cod u).size) := List.take_of_length_le (by omega)
                  have t2 : (vals (cod u) D).take (l.length * (cod u).size - (i * (cod u).size)) = vals (cod u) D := List.take_of_length_le (by omega)
                  simp only [List.append_assoc]
                  rw [List.take_append, hA', t1, List.take_append, hDv, t2, List.drop_take, Nat.sub_sub]
      · exact h.elim
    · exact h.elim
  · exact h.elim
theorem copy_sound (cfg : Cfg cod) {H : Heap cod} {w : World} {M : Nat → Prop} {ts : Array TypeId} {t ty : TypeId} {x y : SV} {v v' : Value} {out : Out cod} (ht0 : ts[0]? = some t) (h : (copyS cfg H t x y).gives out) (G : Good env H w M) (hx : vrel env H.length x v) (hy : vrel env H.length y v') :
    ∃ r w', (Builtin.copy_ ts ty #[v, v']).run cfg.P w = .ok r w' ∧ After env H w M out r w' := by
  unfold copyS at h
  split at h
  · rename_i e hh i n tt ht hs
    obtain ⟨hlt, A, c, rfl, hnc, hcm, _, hA⟩ := asSlc_rel hs hx
    split at h
    · rename_i u l ty' ho
      split at h
      · rename_i hc
        obtain ⟨hsz, hce⟩ := hc
        rw [T.gives_bind] at h
        obtain ⟨l', hl', h⟩ := h
        rw [T.gives_need, T.gives_ret] at h
        obtain ⟨hin, rfl⟩ := h
        obtain ⟨B, m, c', rfl, hm, hmc, hcm', hB⟩ := rows_rel hl' G hy
        subst hm
        have hg := getObj_obj ho (by simp)
        have hltb := (List.getElem?_eq_some_iff.1 hg).1
        have hinfo := info_of_cells (P := cfg.P) (e := e) (by omega)
        obtain ⟨inf, hi⟩ := Option.isSome_iff_exists.1 hinfo
        have hi1 : inf.size = 1 := by
          have := hce
          unfold Program.cellsOf at this
          rw [hi] at this
          simpa using this
        have hadr2 : ∀ (vs : Array Value), (Builtin.copy_ ts ty vs).run cfg.P w = (Builtin.copy_ #[t, t] ty vs).run cfg.P w := fun vs => by
          simp only [Builtin.copy_, ht0, List.getElem?_toArray, List.getElem?_cons_zero]
        rcases Nat.eq_zero_or_pos (Nat.min l'.length n) with hz | hp
        · refine ⟨.int .i64 0, w, ?_, ?_⟩
          · have hn0 : Nat.min l'.length n = 0 := hz
            rw [hadr2]
            cases A with
            | none => cases B <;> simp [Builtin.copy_, run_underlying ht, Builtin.lenOf, Builtin.firstCells, sizeOf, typeInfo, hi, hi1, hn0, goInt, loadCells, loadCellsFrom]
            | some a => cases B <;> simp [Builtin.copy_, run_underlying ht, Builtin.lenOf, Builtin.firstCells, sizeOf, typeInfo, hi, hi1, hn0, goInt, storeCells, loadCells, loadCellsFrom]
          · have e1 : H.set hh (.own u (l.take i ++ (l'.take n ++ l.drop (i + Nat.min l'.length n))) ty') = H := by
              have e2 : l'.take n = [] := by
                have : min l'.length n = 0 := hz
                rcases Nat.eq_zero_or_pos n with h0 | h0
                · rw [h0]; rfl
                · rw [List.eq_nil_of_length_eq_zero (show l'.length = 0 by omega), List.take_nil]
              rw [hz, e2, List.nil_append, Nat.add_zero, List.take_append_drop]
              obtain ⟨hl2, hl3⟩ := List.getElem?_eq_some_iff.1 hg
              rw [← hl3]
              exact List.set_getElem_self hl2
            rw [e1, hz]
            exact after_same G rfl
        · obtain ⟨h1, h2, h3, h4, h5⟩ := G.obj hh _ hg
          have hmin : Nat.min l'.length n = min l'.length n := rfl
          have hn0 : 0 < n := by omega
          have hl0 : 0 < l'.length := by omega
          obtain ⟨b, rfl, hcell⟩ := hB hl0
          rcases h3.2 with ⟨hv, hn⟩ | ⟨g, cap, cur, hv, hb, hgg, hnc', hcm2, hcs, htk⟩
          · omega
          · have e := h5 _ _ _ hv
            simp only [Addr.mk.injEq, and_true] at e
            subst e
            have hmb : M (env hh).block := h4 _ (by simp [hv, Value.ownBlock])
            rw [hsz] at hcs htk
            have hvl : (vals (cod u) l).length = l.length := by rw [vals_len, hsz, Nat.mul_one]
            have hvl' : (vals (cod u) l').length = l'.length := by rw [vals_len, hsz, Nat.mul_one]
            have hadr : (env hh).addr i 0 = ⟨(env hh).block, i, none⟩ := by simp [HV.addr, h1, h2, hsz]
            have hAa := hA hn0
            rw [hadr] at hAa
            subst hAa
            generalize hD : (vals (cod u) l').take n = D at *
            have hDl : D.length = Nat.min l'.length n := by rw [← hD, List.length_take, hvl', hmin, Nat.min_comm]
            have hDv : D = vals (cod u) (l'.take n) := by
              have := vals_take' (cod u) l' n
              rw [hsz, Nat.mul_one] at this
              rw [← hD, this]
            have hone : ∀ q ∈ D, q.oneCell' = true := fun q hq => by
              rw [hDv] at hq
              exact vals_one (cod u) _ q hq
            have hrun := run_copy_row cfg.P w t t ty e (env hh).block i n c b l'.length c' cur ty' D ht (by rw [hi]; simp [hi1]) hgg hDl (fun j q hq => hcell j q (by
              rw [← hD, List.getElem?_take] at hq
              split at hq
              · exact hq
              · cases hq)) (by omega) hone
            refine ⟨_, _, (hadr2 _).trans hrun, ?_⟩
            have hL : (l.take i ++ (l'.take n ++ l.drop (i + Nat.min l'.length n))).length = l.length := by
              rw [List.length_append, List.length_append, List.length_take, List.length_take, List.length_drop, hmin]
              omega
            have hvL : vals (cod u) (l.take i ++ (l'.take n ++ l.drop (i + Nat.min l'.length n))) = (vals (cod u) l).take i ++ (D ++ (vals (cod u) l).drop (i + D.length)) := by
              have t1 := vals_take' (cod u) l i
              have t2 := vals_drop' (cod u) l (i + Nat.min l'.length n)
              rw [hsz, Nat.mul_one] at t1 t2
              rw [vals_append, vals_append, t1, t2, ← hDv, hDl]
            rw [hDl] at hvL
            refine ⟨env, (EnvEq.refl _ _).but _, by simp, ?_, ?_, setRow_kin hmb⟩
            · rw [hDl]
              rfl
            refine G.write hg rfl (b := (env hh).block) (by simp [HObj.has, hv, Value.ownBlock]) (by simp) (fun k hk => setRow_other w _ k _ hk) ⟨h1, h2, ?_, h4, h5⟩ (fun _ h => h)
            refine ⟨by rw [vals_len, hL], .inr ⟨(env hh).block, cap, _, by rw [hL]; exact hv, hb, setRow_heap w _ cur _ ty' _ hgg, by rw [hL]; exact hnc', hcm2, ?_, ?_⟩⟩
            · simp only [List.size_toArray, List.length_append, List.length_take, List.length_drop, Array.length_toList, hDl, hmin]
              rw [hsz]
              omega
            · rw [hvL, hL, hsz, ← htk, hDl]
              simp only [Nat.mul_one]
              have e1 : (cur.toList.take l.length).take i = cur.toList.take i := by rw [List.take_take]; congr 1; omega
              rw [e1]
              have hA' : (cur.toList.take i).length = i := by rw [List.length_take, Array.length_toList]; omega
              have t1 : (cur.toList.take i).take l.length = cur.toList.take i := List.take_of_length_le (by omega)
              have t2 : D.take (l.length - i) = D := List.take_of_length_le (by omega)
              simp only [List.append_assoc]
              rw [List.take_append, hA', t1, List.take_append, hDl, t2, List.drop_take, Nat.sub_sub]
      · exact h.elim
    · exact h.elim
  · exact h.elim
theorem bltn_sound (cfg : Cfg cod) {H : Heap cod} {w : World} {M : Nat → Prop} {b : Builtin} {ts : Array TypeId} {ty : TypeId} {cs : Array Bool} {args : List SV} {vs : List Value} {out : Out cod} (h : (builtinS cfg H b ts args).gives out) (G : Good env H w M) (hM : ∀ k, w.heap.size ≤ k → M k)
    (ha : F2 (vrel env H.length) args vs) : OpRes cfg.P (After env H w M out) ((builtin b ts ty cs vs.toArray).run cfg.P w) := by
  unfold builtinS at h
  split at h
  · rename_i x
    cases ha with
    | @cons _ u _ _ hx hn =>
      cases hn
      have fin : ∀ v, (Builtin.len_ ts ty #[u]).run cfg.P w = .ok v w → After env H w M out v w → OpRes cfg.P (After env H w M out) ((builtin .len ts ty cs [u].toArray).run cfg.P w) := by
        intro v hv hA
        simp only [builtin, Sem.run_bind, Sem.run_pure, hv, Result.andThen_ok]
        exact hA
      cases ht : ts[0]? with
      | none => simp only [ht, Option.bind_none] at h; exact h.elim
      | some t =>
        simp only [ht, Option.bind_some] at h
        split at h
        · rename_i s hu
          rw [T.gives_ret] at h
          subst h
          have hx' := hx
          simp only [vrel, vrel1, crel] at hx'
          subst hx'
          refine fin (.int .i64 s.length) ?_ (after_same G rfl)
          simp [Builtin.len_, ht, run_underlying hu, goInt, bytes_size]
        · rename_i n e hu
          rw [T.gives_ret] at h
          subst h
          refine fin (.int .i64 n) ?_ (after_same G rfl)
          simp [Builtin.len_, ht, run_underlying hu, goInt]
        · rename_i e hu
          split at h
          · rename_i hh i n t' hs
            rw [T.gives_ret] at h
            subst h
            obtain ⟨_, A, c, rfl, _⟩ := asSlc_rel hs hx
            refine fin (.int .i64 n) ?_ (after_same G rfl)
            simp [Builtin.len_, ht, run_underlying hu, goInt]
          · split at h
            · rw [T.gives_ret] at h
              subst h
              have hx' := hx
              simp only [vrel, vrel1, crel] at hx'
              subst hx'
              refine fin (.int .i64 0) ?_ (after_same G rfl)
              simp [Builtin.len_, ht, run_underlying hu, goInt]
            · exact h.elim
        · exact h.elim
  · rename_i k a xs
    split at h
    · rename_i n hn
      rw [T.gives_ret] at h
      subst h
      cases ha with
      | @cons _ u _ us hx hxs =>
        have hx' := hx
        simp only [vrel, vrel1, crel] at hx'
        subst hx'
        have := foldS_sound (P := cfg.P) max Builtin.max2 (fun k a b w => run_max2 k a b w) xs us k a n w hn hxs
        simp only [builtin, Builtin.max_, Sem.run_bind, this, Result.andThen_ok, Sem.run_pure]
        exact after_same G rfl
    · exact h.elim
  · rename_i k a xs
    split at h
    · rename_i n hn
      rw [T.gives_ret] at h
      subst h
      cases ha with
      | @cons _ u _ us hx hxs =>
        have hx' := hx
        simp only [vrel, vrel1, crel] at hx'
        subst hx'
        have := foldS_sound (P := cfg.P) min Builtin.min2 (fun k a b w => run_min2 k a b w) xs us k a n w hn hxs
        simp only [builtin, Builtin.min_, Sem.run_bind, this, Result.andThen_ok, Sem.run_pure]
        exact after_same G rfl
    · exact h.elim
  · rename_i s x
    split at h
    · rename_i t t' ht ht'
      split at h
      · rename_i e
        subst e
        cases ha with
        | @cons _ u _ _ hs hn =>
          cases hn with
          | @cons _ v _ _ hx hn =>
            cases hn
            obtain ⟨v', w', h1, h2⟩ := append_sound (ty := ty) cfg h G hM hs hx
            have e : (Builtin.append_ ts ty #[u, v]).run cfg.P w = (Builtin.append_ #[t, t] ty #[u, v]).run cfg.P w := by
              simp only [Builtin.append_, ht, ht', List.getElem?_toArray, List.getElem?_cons_zero, List.getElem?_cons_succ]
            simp only [builtin, Sem.run_bind, e, h1, Result.andThen_ok, Sem.run_pure]
            exact h2
      · exact h.elim
    · exact h.elim
  · rename_i x
    split at h
    · rename_i t ht
      cases ha with
      | @cons _ u _ _ hx hn =>
        cases hn
        obtain ⟨w', h1, h2⟩ := clear_sound (ty := ty) cfg ht h G hx
        simp only [builtin, Sem.run_bind, h1, Result.andThen_ok, Sem.run_pure]
        exact h2
    · exact h.elim
  · rename_i x y
    split at h
    · rename_i t ht
      cases ha with
      | @cons _ u _ _ hx hn =>
        cases hn with
        | @cons _ u' _ _ hy hn =>
          cases hn
          obtain ⟨r, w', h1, h2⟩ := copy_sound (ty := ty) cfg ht h G hx hy
          simp only [builtin, Sem.run_bind, h1, Result.andThen_ok, Sem.run_pure]
          exact h2
    · exact h.elim
  · exact h.elim
end
end Go.Proofs.Ytbdhppceihcbnaa.Sym
