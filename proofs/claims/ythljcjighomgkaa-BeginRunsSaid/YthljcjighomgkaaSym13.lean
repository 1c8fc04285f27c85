/- A symbolic run is sound: any one operation, joined. -/
import Derived.Test.YthljcjighomgkaaSym12
namespace Go.Proofs.Ythljcjighomgkaa.Sym
open Go.RowKit

section
variable {cod : Nat → Codec} {P : Program} {env : Env} {N : Nat}

theorem f2_map_same {α β γ : Type} {R : β → γ → Prop} {f : α → β} {g : α → γ} : ∀ {l : List α}, (∀ a ∈ l, R (f a) (g a)) → F2 R (l.map f) (l.map g)
  | [], _ => .nil
  | a :: l, h => .cons (h a (List.mem_cons_self ..)) (f2_map_same fun b hb => h b (List.mem_cons_of_mem _ hb))

theorem arr_map {α β : Type} (a : Array α) (f : α → β) : a.map f = (a.toList.map f).toArray := by
  apply Array.ext'
  simp
theorem capsOf_sound : ∀ {l : List SV} {vs : List Value} {caps : List (Nat × Nat × Nat)}, capsOf l = some caps → F2 (vrel env N) l vs → vs = caps.map (fun c => Value.pointer (some ((env c.1).addr c.2.1 c.2.2))) ∧ ∀ c ∈ caps, c.1 < N
  | [], _, _, h, hv => by
    cases hv
    simp only [capsOf, Option.some.injEq] at h
    subst h
    exact ⟨rfl, by simp⟩
  | x :: l, _, caps, h, hv => by
    cases hv with
    | @cons _ u _ us hx hxs =>
      unfold capsOf at h
      split at h
      · rename_i e; cases e
      · rename_i k i o l' e
        simp only [List.cons.injEq] at e
        obtain ⟨rfl, rfl⟩ := e
        obtain ⟨cs, hc, rfl⟩ := Option.map_eq_some_iff.1 h
        obtain ⟨h1, h2⟩ := capsOf_sound hc hxs
        obtain ⟨hl, rfl⟩ := hx
        refine ⟨by rw [h1]; rfl, fun c hcm => ?_⟩
        rcases List.mem_cons.1 hcm with rfl | hcm
        · exact hl
        · exact h2 c hcm
      · cases h

theorem made_vals (c : Codec) (z : List Value) (a : c.α) (hz : z = (c.enc a).map Cell.val) (n : Nat) : (madeCells z.toArray (n * c.size)).toList = vals c (List.replicate n a) := by
  have hzl : z.length = c.size := by rw [hz, List.length_map, c.size_eq]
  apply List.ext_getElem?
  intro j
  have hpos := c.pos
  rcases Nat.lt_or_ge j (n * c.size) with hj | hj
  · have hq : j / c.size < n := Nat.div_lt_of_lt_mul (by rw [Nat.mul_comm]; exact hj)
    have hr : j % c.size < c.size := Nat.mod_lt _ hpos
    have hv := vals_get c (List.replicate n a) (j / c.size) (j % c.size) (by rw [List.length_replicate]; exact hq) hr
    rw [Nat.div_add_mod'] at hv
    rw [hv]
    have hg : (List.replicate n a).getD (j / c.size) c.d = a := by simp [List.getD, hq]
    rw [hg]
    have hl : (madeCells z.toArray (n * c.size)).toList[j]? = some (z.toArray[j % z.toArray.size]!) := by
      simp [madeCells, hj]
    rw [hl, ← List.getElem?_map, ← hz]
    have h2 : j % z.length < z.length := by rw [hzl]; exact hr
    simp only [List.size_toArray]
    rw [← hzl, List.getElem?_eq_getElem h2]
    simp [getElem!_pos, h2]
  · rw [List.getElem?_eq_none (by simp [madeCells]; omega), List.getElem?_eq_none (by rw [vals_len, List.length_replicate]; omega)]

theorem op_sound (cfg : Cfg cod) (hS : ∀ g s, cfg.summ g = some s → Sound cfg.P cod g s) {tm : List SV} {H : Heap cod} {w : World} {B : Nat} {o : Oper} {out : Out cod} (h : (opS cfg tm H o).gives out) (G : Good env H w B) (hB : B ≤ w.heap.size)
    (ρ : Operand → Value) (hρ : ∀ x, vrel env H.length (evS tm x) (ρ x)) : OpRes cfg.P (After env H w B out) ((execOp ρ o).run cfg.P w) := by
  have keep : ∀ {t : T SV}, (t.bind fun v => T.ret ({ v := v, H := H } : Out cod)).gives out → ∃ v, t.gives v ∧ out = { v := v, H := H } := fun {t} hk => by
    rw [T.gives_bind] at hk
    obtain ⟨v, h1, h2⟩ := hk
    rw [T.gives_ret] at h2
    exact ⟨v, h1, h2.symm⟩
  have moved : ∀ x, (match nilConst x, cfg.P.underlying o.type with
      | true, some (.slice e) => match cfg.ctag e with
        | some u => newS H (.own u [] e) (.c (.own H.length 0))
        | none => .ret { v := evS tm x, H := H }
      | _, _ => .ret { v := evS tm x, H := H } : T (Out cod)).gives out → After env H w B out (ρ x) w := by
    intro x h
    have hx := hρ x
    split at h
    · rename_i e hn hu
      have he : evS tm x = .c .nil := by
        unfold nilConst at hn
        split at hn
        · rfl
        · cases hn
      rw [he] at hx
      split at h
      · rename_i u hk
        rw [newS, T.gives_ret] at h
        subst h
        have hv : ρ x = .slice none 0 0 := hx
        rw [hv]
        have ho : w.ownsRow B e (cod u).size (.slice none 0 0) ([] : List (cod u).α).length (vals (cod u) []) := World.ownsRow_nil w B e _
        refine after_push (hv := ⟨0, 0, (cod u).size, .slice none 0 0⟩) (G.push _ _ (Nat.le_refl _) (fun _ _ => rfl) ?_ (fun b hb => by simp [HObj.ublk, Value.ownBlock] at hb)) ?_ (Below.refl _ _)
        · exact own_obj ho (fun _ => rfl) _ _
        · exact own_cell (N := H.length + 1) ho rfl (env.set H.length ⟨0, 0, (cod u).size, .slice none 0 0⟩) (Nat.lt_succ_self _) (Env.set_same _ _ _)
      · rw [T.gives_ret] at h
        subst h
        rw [he]
        exact after_same G hx
    · rw [T.gives_ret] at h
      subst h
      exact after_same G hx
  unfold opS at h
  unfold execOp
  cases ho : o.op with
  | move x => simp only [ho] at h ⊢; exact moved x h
  | assign x => simp only [ho] at h ⊢; exact moved x h
  | pick c a b =>
    simp only [ho] at h ⊢
    have hc := hρ c
    split at h
    · rename_i b' e
      rw [e] at hc
      have hc' : ρ c = .bool b' := hc
      rw [T.gives_ite] at h
      simp only [hc', asBool, Sem.run_bind, Sem.run_pure, Result.andThen_ok]
      cases b'
      · simp only [Bool.false_eq_true, if_false, T.gives_ret] at h
        subst h
        exact after_same G (hρ b)
      · simp only [if_true, T.gives_ret] at h
        subst h
        exact after_same G (hρ a)
    · exact h.elim
  | alloc e =>
    simp only [ho] at h ⊢
    split at h
    · rename_i cs hz
      rw [newS, T.gives_ret] at h
      subst h
      unfold zeroCells at hz
      cases hi : cfg.P.info? e with
      | none => simp [hi] at hz
      | some i =>
        cases hz0 : i.zero with
        | none => simp [hi, hz0] at hz
        | some z =>
          simp only [hi, hz0, Option.bind_some, Option.some.injEq] at hz
          subst hz
          obtain ⟨k, hk⟩ := new_var cfg G hB e (ofValue_cells (env := env) (N := H.length) z)
          rw [Array.toArray_toList] at hk
          have hrun : (Instr.alloc e true (.tuple #[])).run cfg.P w = .ok (.pointer (some ⟨w.heap.size, 0, none⟩)) (w.alloc (.cells z.cells e)) := by
            simp [Instr.alloc, zeroValue, typeInfo, hi, hz0, newVar, newRow]
          simp only [Sem.run_bind, hrun, Result.andThen_ok, Sem.run_pure]
          exact after_push hk ⟨Nat.lt_succ_self _, by rw [Env.set_same, newHV_addr]⟩ ((Below.refl B w).alloc hB _)
    · exact h.elim
  | box e x =>
    simp only [ho] at h ⊢
    split at h
    · rename_i h1
      rw [newS, T.gives_ret] at h
      subst h
      obtain ⟨k, hk⟩ := new_var cfg G hB e (vrel_cells (hρ x) h1)
      rw [Array.toArray_toList] at hk
      have hrun : (Instr.box e (ρ x)).run cfg.P w = .ok (.pointer (some ⟨w.heap.size, 0, none⟩)) (w.alloc (.cells (ρ x).cells e)) := by
        simp [Instr.box, newVar, newRow]
      simp only [Sem.run_bind, hrun, Result.andThen_ok, Sem.run_pure]
      exact after_push hk ⟨Nat.lt_succ_self _, by rw [Env.set_same, newHV_addr]⟩ ((Below.refl B w).alloc hB _)
    · exact h.elim
  | build t parts =>
    simp only [ho] at h ⊢
    split at h
    · rename_i cs hb
      rw [T.gives_ret] at h
      subst h
      have hp : F2 (fun p q => p.1 = q.1 ∧ vrel env H.length p.2 q.2) (parts.toList.map fun p => (p.1, evS tm p.2)) (parts.toList.map fun p => (p.1, ρ p.2)) := f2_map_same fun a _ => ⟨rfl, hρ a.2⟩
      obtain ⟨vs, h1, h2⟩ := built_sound hb hp
      have hrun := run_build (P := cfg.P) w t (parts.map fun (i, x) => (i, ρ x)) vs.toArray (by simpa using h1)
      simp only [Sem.run_bind, hrun, Result.andThen_ok, Sem.run_pure]
      exact after_same G ⟨_, rfl, by simpa using h2⟩
    · exact h.elim
  | buildSlice t n parts =>
    simp only [ho] at h ⊢
    split at h
    · rename_i e ht
      split at h
      · rename_i cs u hf hk
        split at h
        · rename_i l hl
          split at h
          · rename_i hc
            obtain ⟨hsz, hce, hz⟩ := hc
            rw [newS, T.gives_ret] at h
            subst h
            have hinfo := info_of_cells (P := cfg.P) (e := e) (by have := (cod u).pos; omega)
            obtain ⟨zc, hz⟩ := Option.isSome_iff_exists.1 hz
            unfold zeroCells at hz
            obtain ⟨i, hi⟩ := Option.isSome_iff_exists.1 hinfo
            cases hz0 : i.zero with
            | none => simp [hi, hz0] at hz
            | some z =>
              have hp : F2 (fun p q => p.1 = q.1 ∧ vrel env H.length p.2 q.2) (parts.toList.map fun p => (p.1, evS tm p.2)) (parts.toList.map fun p => (p.1, ρ p.2)) := f2_map_same fun a _ => ⟨rfl, hρ a.2⟩
              have hjunk : ∀ (m : Nat) (vs : List Value), vs.length = m → crels env H.length (List.replicate m .junk) vs := by
                intro m
                induction m with
                | zero => intro vs hv; have : vs = [] := List.eq_nil_of_length_eq_zero hv; subst this; exact .nil
                | succ m ih =>
                  intro vs hv
                  match vs, hv with
                  | v :: vs, hv => exact .cons trivial (ih vs (by simpa using hv))
              obtain ⟨vs, h1, h2⟩ := fill_sound _ _ _ cs ((Array.range (n * cfg.P.cellsOf e)).map (z.cells[· % z.cells.size]!)).toList hf (hjunk _ _ (by simp)) hp
              obtain ⟨hfl, hll⟩ := decAll_spec hl
              have hv : vs = vals (cod u) l := by
                rw [scalars_val (env := env) (N := H.length) (cs := cs) (by rw [← hfl]; exact flat_all _ _) h2, ← hfl]; rfl
              subst hv
              have hrun : (Instr.buildSlice t n (parts.map fun (i, x) => (i, ρ x))).run cfg.P w = .ok (.slice (some ⟨w.heap.size, 0, none⟩) n n) (w.alloc (.cells (vals (cod u) l).toArray e)) := by
                have h1' : Instr.fill (fun i => some (i * cfg.P.cellsOf e, cfg.P.cellsOf e)) ((Array.range (n * cfg.P.cellsOf e)).map (z.cells[· % z.cells.size]!)) ((parts.map fun (i, x) => (i, ρ x)).toList) = some (vals (cod u) l).toArray := by
                  rw [Array.toArray_toList] at h1
                  rw [show (parts.map fun (i, x) => (i, ρ x)).toList = parts.toList.map (fun p => (p.1, ρ p.2)) from by simp]
                  exact h1
                have hzv : (zeroValue e).run cfg.P w = .ok z w := by simp [zeroValue, typeInfo, hi, hz0]
                have h24 : ¬ (2 ^ 24 < n * cfg.P.cellsOf e) := by omega
                unfold Instr.buildSlice
                by_cases hne : n * cfg.P.cellsOf e = 0
                · have h1'' : Instr.fill (fun i => some (i * cfg.P.cellsOf e, cfg.P.cellsOf e)) ((Array.range 0).map ((#[] : Array Value)[· % (#[] : Array Value).size]!)) ((parts.map fun (i, x) => (i, ρ x)).toList) = some (vals (cod u) l).toArray := by
                    have h0 : ∀ f : Nat → Value, (Array.range 0).map f = #[] := fun f => by simp
                    rw [← h1', hne, h0, h0]
                  simp only [Sem.run_bind, run_underlying ht, Result.andThen_ok, cellsOf_size hinfo, Sem.run_ite, gt_iff_lt, h24, if_false, hne, if_true, hzv, Sem.run_pure, h1'', newRow, run_newObj, Nat.not_lt_zero]
                  rfl
                · simp only [Sem.run_bind, run_underlying ht, Result.andThen_ok, cellsOf_size hinfo, Sem.run_ite, gt_iff_lt, h24, if_false, hne, hzv, Sem.run_pure, h1', newRow, run_newObj]
                  rfl
              simp only [Sem.run_bind, hrun, Result.andThen_ok, Sem.run_pure]
              have hmax : n ≤ maxLen := by
                have : n * 1 ≤ n * cfg.P.cellsOf e := Nat.mul_le_mul_left _ (by have := (cod u).pos; omega)
                unfold maxLen
                omega
              exact after_push (new_arr G hB u l e) ⟨Nat.lt_succ_self _, _, _, rfl, Nat.le_refl _, hmax, fun _ => rfl, fun _ => by rw [Env.set_same, newHV_addr]⟩ ((Below.refl B w).alloc hB _)
          · exact h.elim
        · exact h.elim
      · exact h.elim
    · exact h.elim
  | load t x =>
    simp only [ho] at h ⊢
    have hx := hρ x
    split at h
    · rename_i k i off e
      rw [e] at hx
      obtain ⟨hlt, hv⟩ := hx
      have hi : ∀ cs n, (loadS H k i off n).gives cs → ∃ vs : List Value, vs.length = n ∧ crels env H.length cs vs ∧ (loadCells ((env k).addr i off) n).run cfg.P w = .ok vs.toArray w ∧ ∀ j u, vs[j]? = some u → w.cell? (((env k).addr i off).add j) = some u := by
        intro cs n hl
        obtain ⟨h1, vs, h2, h3⟩ := load_sound hl G
        have hlen := f2_length h2
        have := run_loadCells_list (P := cfg.P) w ((env k).addr i off) vs h3
        rw [← hlen, h1] at this
        exact ⟨vs, by omega, h2, this, h3⟩
      split at h
      · rename_i hag
        obtain ⟨v, hv1, rfl⟩ := keep h
        rw [T.gives_bind] at hv1
        obtain ⟨cs, hl, hr⟩ := hv1
        rw [T.gives_ret] at hr
        subst hr
        obtain ⟨vs, h1, h2, h3, _⟩ := hi cs _ hl
        have hu : (cfg.P.underlying t).isSome = true := by
          unfold isAggB at hag
          split at hag <;> simp_all
        have hrun : (Instr.loadAt t (ρ x)).run cfg.P w = .ok (.agg vs.toArray) w := by
          rw [hv]
          simp [Instr.loadAt, Instr.sureAddr, loadVar, run_isAgg t w hu, hag, cellsOf_size (info_of_und hu), h3]
        simp only [Sem.run_bind, hrun, Result.andThen_ok, Sem.run_pure]
        exact after_same G ⟨_, rfl, by simpa using h2⟩
      · rename_i hag
        split at h
        · rename_i hu
          obtain ⟨v, hv1, rfl⟩ := keep h
          rw [T.gives_bind] at hv1
          obtain ⟨cs, hl, hr⟩ := hv1
          split at hr
          · rename_i c
            rw [T.gives_ret] at hr
            subst hr
            obtain ⟨vs, h1, h2, h3, h4⟩ := hi _ _ hl
            cases h2 with
            | @cons _ u _ us hcu hn =>
              cases hn
              have hc := h4 0 u rfl
              have hadd : ((env k).addr i off).add 0 = (env k).addr i off := by simp [Addr.add]
              rw [hadd] at hc
              have hrun : (Instr.loadAt t (ρ x)).run cfg.P w = .ok u w := by
                rw [hv]
                simp [Instr.loadAt, Instr.sureAddr, loadVar, run_isAgg t w hu, hag, hc]
              simp only [Sem.run_bind, hrun, Result.andThen_ok, Sem.run_pure]
              exact after_same G hcu
          · exact hr.elim
        · exact h.elim
    · exact h.elim
  | store t x y =>
    simp only [ho] at h ⊢
    have hx := hρ x
    split at h
    · rename_i k i off e
      rw [e] at hx
      obtain ⟨hlt, hv⟩ := hx
      split at h
      · rename_i hcond
        obtain ⟨hsz, hone, h0⟩ := hcond
        rw [T.gives_bind] at h
        obtain ⟨H', hst, hr⟩ := h
        rw [T.gives_ret] at hr
        subst hr
        have hy := vrel_cells (hρ y) hone
        obtain ⟨w', h1, h2, h3, h4⟩ := store_sound (P := cfg.P) hst hy G
        have hlen := f2_length hy
        have hinfo : (cfg.P.info? t).isSome = true := info_of_cells h0
        have hrun : (Instr.storeAt t (ρ x) (ρ y)).run cfg.P w = .ok () w' := by
          rw [hv]
          have : (ρ y).cells.size = cfg.P.cellsOf t := by rw [← hsz, hlen]; simp
          simp [Instr.storeAt, Instr.sureAddr, storeVar, cellsOf_size hinfo, this, h1]
        simp only [Sem.run_bind, hrun, Result.andThen_ok, Sem.run_pure]
        exact ⟨env, (EnvEq.refl _ _).but _, by simp [Out.heap, h4], rfl, h2, h3⟩
      · exact h.elim
    · exact h.elim
  | nilCheck x =>
    simp only [ho] at h ⊢
    have hx := hρ x
    split at h
    · rename_i k i off e
      rw [e] at hx
      rw [T.gives_ret] at h
      subst h
      have hv := hx.2
      simp only [hv, Sem.run_pure]
      rw [← hv]
      exact after_same G hx
    · rename_i f caps e
      rw [e] at hx
      rw [T.gives_ret] at h
      subst h
      have hv := hx.2
      simp only [hv, Sem.run_pure]
      rw [← hv]
      exact after_same G hx
    · exact h.elim
  | binOp op t x y ty =>
    simp only [ho] at h ⊢
    obtain ⟨v, hv, rfl⟩ := keep h
    obtain ⟨res, h1, h2⟩ := binAll_sound hv (hρ x) (hρ y) x y
    have := h1 w
    simp only [Sem.run_bind] at this ⊢
    simp only [this, Result.andThen_ok, Sem.run_pure]
    exact after_same G h2
  | unOp op t x =>
    simp only [ho] at h ⊢
    obtain ⟨v, hv, rfl⟩ := keep h
    obtain ⟨res, h1, h2⟩ := un_sound (P := cfg.P) hv (hρ x)
    simp only [Sem.run_bind, h1, Result.andThen_ok, Sem.run_pure]
    exact after_same G h2
  | convert s d x =>
    simp only [ho] at h ⊢
    obtain ⟨v, hv, rfl⟩ := keep h
    obtain ⟨res, h1, h2⟩ := conv_sound hv (hρ x)
    simp only [Sem.run_bind, h1, Result.andThen_ok, Sem.run_pure]
    exact after_same G h2
  | slice t x lo hi mx =>
    simp only [ho] at h ⊢
    obtain ⟨v, hv, rfl⟩ := keep h
    have opt : ∀ (q : Option Operand), (∀ y, q.map (evS tm) = some y → ∃ u, q.map ρ = some u ∧ vrel env H.length y u) ∧ (q.map (evS tm) = none → q.map ρ = none) := fun q => by
      cases q with
      | none => exact ⟨(fun y hy => by cases hy), fun _ => rfl⟩
      | some q => exact ⟨fun y hy => ⟨ρ q, rfl, by simp only [Option.map_some, Option.some.injEq] at hy; rw [← hy]; exact hρ q⟩, (fun hn => by cases hn)⟩
    obtain ⟨res, h1, h2⟩ := slice_sound hv G (hρ x) (opt lo).1 (opt lo).2 (opt hi).1 (opt hi).2 (opt mx).1 (opt mx).2
    simp only [Sem.run_bind, h1, Result.andThen_ok, Sem.run_pure]
    exact after_same G h2
  | fieldAddr t x f =>
    simp only [ho] at h ⊢
    have hx := hρ x
    split at h
    · rename_i k i off fs e ht
      rw [e] at hx
      obtain ⟨hlt, hv⟩ := hx
      split at h
      · rename_i fl hf
        split at h
        · exact h.elim
        · rename_i hc
          rw [T.gives_ret] at h
          subst h
          have hrun : (Instr.fieldAt t (ρ x) f).run cfg.P w = .ok (.pointer (some (((env k).addr i off).add fl.offset))) w := by
            rw [hv]
            simp [Instr.fieldAt, run_underlying ht, hf, Instr.sureAddr, fieldPlace, cellsOf_size (info_of_cells hc), hc]
          simp only [Sem.run_bind, hrun, Result.andThen_ok, Sem.run_pure]
          exact after_same G ⟨hlt, by rw [addr_add]⟩
      · exact h.elim
    · exact h.elim
  | field t x f =>
    simp only [ho] at h ⊢
    have hx := hρ x
    split at h
    · rename_i cs fs e ht
      rw [e] at hx
      obtain ⟨vs, hv, hvs⟩ := hx
      split at h
      · rename_i fl hf
        split at h
        · rename_i hu
          obtain ⟨r, hr, rfl⟩ := keep h
          obtain ⟨res, h1, h2⟩ := part_sound hr hvs hu
          have h1' := h1 w
          rw [Array.toArray_toList] at h1'
          have hrun : (Instr.field t (ρ x) f).run cfg.P w = .ok res w := by
            rw [hv]
            simp [Instr.field, run_underlying ht, hf, asAgg, h1']
          simp only [Sem.run_bind, hrun, Result.andThen_ok, Sem.run_pure]
          exact after_same G h2
        · exact h.elim
      · exact h.elim
    · exact h.elim
  | indexAddr t x ix =>
    simp only [ho] at h ⊢
    obtain ⟨v, hv, rfl⟩ := keep h
    obtain ⟨res, h1, h2⟩ := indexAddr_sound hv G (hρ x) (hρ ix)
    simp only [Sem.run_bind, h1, Result.andThen_ok, Sem.run_pure]
    exact after_same G h2
  | index t x ix =>
    simp only [ho] at h ⊢
    obtain ⟨v, hv, rfl⟩ := keep h
    obtain ⟨res, h1, h2⟩ := index_sound cfg hv (hρ x) (hρ ix) w
    simp only [Sem.run_bind, h1, Result.andThen_ok, Sem.run_pure]
    exact after_same G h2
  | extract t i =>
    simp only [ho] at h ⊢
    have hx := hρ t
    split at h
    · rename_i vs e
      rw [e] at hx
      obtain ⟨us, hu, hf⟩ := hx
      split at h
      · rename_i v hv
        rw [T.gives_ret] at h
        subst h
        obtain ⟨u, h1, h2⟩ := f2_get hf hv
        have hrun : (Instr.extract (ρ t) i).run cfg.P w = .ok u w := by
          rw [hu]
          simp only [Array.getElem?_toList] at h1
          simp [Instr.extract, h1]
        simp only [Sem.run_bind, hrun, Result.andThen_ok, Sem.run_pure]
        refine after_same G ?_
        cases v with
        | c x => exact h2
        | agg cs => exact h2
        | tup l => exact h2.elim
      · exact h.elim
    · exact h.elim
  | makeSlice t n c =>
    simp only [ho] at h ⊢
    have hn := hρ n
    have hc := hρ c
    split at h
    · rename_i e kn n' kc c' ht hen hec
      rw [hen] at hn
      rw [hec] at hc
      have hn : ρ n = .int kn n' := hn
      have hc : ρ c = .int kc c' := hc
      split at h
      · rename_i u z hk hz
        split at h
        · rename_i hcond
          obtain ⟨hok, hce, hby⟩ := hcond
          rw [T.gives_need, newS, T.gives_ret] at h
          obtain ⟨⟨hn0, hn1, rfl⟩, rfl⟩ := h
          unfold zeroCells at hz
          cases hi : cfg.P.info? e with
          | none => simp [hi] at hz
          | some i =>
            cases hz0 : i.zero with
            | none => simp [hi, hz0] at hz
            | some zv =>
              simp only [hi, hz0, Option.bind_some, Option.some.injEq] at hz
              subst hz
              have hzr := ofValue_cells (env := env) (N := H.length) zv
              have hsc : (SV.ofValue zv).cells.all Cell.scalar = true := by rw [← (cod u).ok_spec _ hok]; exact (cod u).scal _
              have hzv := scalars_val hsc hzr
              have hb : cfg.P.bytesOf e = i.bytes := by simp [Program.bytesOf, hi]
              have hs : cfg.P.cellsOf e = i.size := by simp [Program.cellsOf, hi]
              have hbb : (i.bytes : Int) * c' ≤ 281474976710656 := by
                have h1 : (i.bytes : Int) * c' ≤ (i.bytes : Int) * 1000000 := Int.mul_le_mul_of_nonneg_left hn1 (by omega)
                omega
              have hrun := run_make (P := cfg.P) w t e i zv ht hi hz0 kn kc c' c' hn0 (Int.le_refl _) hbb (by omega)
              have hmv := made_vals (cod u) zv.cells.toList ((cod u).dec (SV.ofValue zv).cells) (by rw [(cod u).ok_spec _ hok]; exact hzv) c'.toNat
              rw [Array.toArray_toList, ← hce, hs] at hmv
              have hmk : madeCells zv.cells (c'.toNat * i.size) = (vals (cod u) (List.replicate c'.toNat ((cod u).dec (SV.ofValue zv).cells))).toArray := by rw [← hmv, Array.toArray_toList]
              rw [hmk] at hrun
              simp only [hn, hc, Sem.run_bind, hrun, Result.andThen_ok, Sem.run_pure]
              exact after_push (new_arr G hB u _ e) ⟨Nat.lt_succ_self _, _, _, rfl, Nat.le_refl _, by unfold maxLen; omega, fun _ => rfl, fun _ => by rw [Env.set_same, newHV_addr]⟩ ((Below.refl B w).alloc hB _)
        · exact h.elim
      · exact h.elim
    · exact h.elim
  | makeFunc fn first caps =>
    cases fn with
    | func f =>
      simp only [ho] at h ⊢
      split at h
      · rename_i hf
        have hf' : first = #[] := by simpa using hf
        split at h
        · rename_i l hl
          rw [T.gives_ret] at h
          subst h
          obtain ⟨h1, h2⟩ := capsOf_sound hl (f2_map_same (g := ρ) fun a _ => hρ a)
          have hrun : (Instr.makeFunc (.func f) (first.map ρ) (caps.map ρ)).run cfg.P w = .ok (.func (.func f) (first.map ρ) (caps.map ρ)) w := rfl
          simp only [Sem.run_bind, hrun, Result.andThen_ok, Sem.run_pure]
          refine after_same G ⟨h2, ?_⟩
          rw [hf', ← h1, ← arr_map, Array.map_empty]
        · exact h.elim
      · exact h.elim
    | _ => simp only [ho] at h; exact h.elim
  | call c =>
    obtain ⟨callee, args, ts⟩ := c
    have hargs : F2 (vrel env H.length) (args.toList.map (evS tm)) (args.toList.map ρ) := f2_map_same fun a _ => hρ a
    cases callee with
    | builtin b =>
      simp only [ho] at h ⊢
      have := bltn_sound (ty := o.type) (cs := args.map fun | .const _ => true | _ => false) cfg h G hB hargs
      simp only [resolve, invoke, Sem.run_bind, Sem.run_pure, Result.andThen_ok]
      rw [← arr_map] at this
      exact this
    | value f =>
      simp only [ho] at h ⊢
      have hf := hρ f
      split at h
      · rename_i g caps e
        rw [e] at hf
        obtain ⟨hcap, hv⟩ := hf
        have hall : F2 (vrel env H.length) (args.toList.map (evS tm) ++ caps.map fun c => SV.c (.ptr c.1 c.2.1 c.2.2)) (args.toList.map ρ ++ caps.map fun c => Value.pointer (some ((env c.1).addr c.2.1 c.2.2))) :=
          f2_append hargs (f2_map_same fun a ha => ⟨hcap a ha, rfl⟩)
        obtain ⟨henter, hcalls⟩ := call_sound cfg hS h G hB hall
        have hd : (resolve ρ ⟨.value f, args, ts⟩ o.type).run cfg.P w = .ok { target := .fn (.func g) (caps.map fun c => Value.pointer (some ((env c.1).addr c.2.1 c.2.2))).toArray, args := args.map ρ } w := by
          simp only [resolve, hv, Deferred.ofValue]
          simp
        simp only [Sem.run_bind, hd, Result.andThen_ok, invoke, henter]
        rw [show (args.map ρ ++ (caps.map fun c => Value.pointer (some ((env c.1).addr c.2.1 c.2.2))).toArray) = (args.toList.map ρ ++ caps.map fun c => Value.pointer (some ((env c.1).addr c.2.1 c.2.2))).toArray from by rw [arr_map]; simp]
        exact hcalls
      · exact h.elim
    | invoke r m => simp only [ho] at h; exact h.elim
  | _ => simp only [ho] at h; exact h.elim
end
end Go.Proofs.Ythljcjighomgkaa.Sym
