/- A symbolic run is sound: any one operation, joined. -/
import Derived.Test.YthljcjighomgkaaSym12
import Derived.Lib.ConvBytes
import Derived.Laws.IdiomStrings
namespace Go.Proofs.Ythljcjighomgkaa.Sym
open Go.RowKit

section
variable {cod : Nat → Codec} {P : Program} {env : Env} {N : Nat}

theorem f2_map_same {α β γ : Type} {R : β → γ → Prop} {f : α → β} {g : α → γ} : ∀ {l : List α}, (∀ a ∈ l, R (f a) (g a)) → F2 R (l.map f) (l.map g)
  | [], _ => .nil
  | a :: l, h => .cons (h a (List.mem_cons_self ..)) (f2_map_same fun b hb => h b (List.mem_cons_of_mem _ hb))

theorem arr_map {α β : Type} (a : Array α) (f : α → β) : a.map f = (a.toList.map f).toArray := by
  apply Array.ext'
  simp
theorem capsOf_sound : ∀ {l : List SV} {vs : List Value} {caps : List (Nat × Nat × Nat)}, capsOf l = some caps → F2 (vrel env N) l vs → vs = caps.map (fun c => Value.pointer (some ((env c.1).addr c.2.1 c.2.2))) ∧ ∀ c ∈ caps, c.1 < N
  | [], _, _, h, hv => by
    cases hv
    simp only [capsOf, Option.some.injEq] at h
    subst h
    exact ⟨rfl, by simp⟩
  | x :: l, _, caps, h, hv => by
    cases hv with
    | @cons _ u _ us hx hxs =>
      unfold capsOf at h
      split at h
      · rename_i e; cases e
      · rename_i k i o l' e
        simp only [List.cons.injEq] at e
        obtain ⟨rfl, rfl⟩ := e
        obtain ⟨cs, hc, rfl⟩ := Option.map_eq_some_iff.1 h
        obtain ⟨h1, h2⟩ := capsOf_sound hc hxs
        obtain ⟨hl, rfl⟩ := hx
        refine ⟨by rw [h1]; rfl, fun c hcm => ?_⟩
        rcases List.mem_cons.1 hcm with rfl | hcm
        · exact hl
        · exact h2 c hcm
      · cases h

theorem made_vals (c : Codec) (z : List Value) (a : c.α) (hz : z = (c.enc a).map Cell.val) (n : Nat) : (madeCells z.toArray (n * c.size)).toList = vals c (List.replicate n a) := by
  have hzl : z.length = c.size := by rw [hz, List.length_map, c.size_eq]
  apply List.ext_getElem?
  intro j
  have hpos := c.pos
  rcases Nat.lt_or_ge j (n * c.size) with hj | hj
  · have hq : j / c.size < n := Nat.div_lt_of_lt_mul (by rw [Nat.mul_comm]; exact hj)
    have hr : j % c.size < c.size := Nat.mod_lt _ hpos
    have hv := vals_get c (List.replicate n a) (j / c.size) (j % c.size) (by rw [List.length_replicate]; exact hq) hr
    rw [Nat.div_add_mod'] at hv
    rw [hv]
    have hg : (List.replicate n a).getD (j / c.size) c.d = a := by simp [List.getD, hq]
    rw [hg]
    have hl : (madeCells z.toArray (n * c.size)).toList[j]? = some (z.toArray[j % z.toArray.size]!) := by
      simp [madeCells, hj]
    rw [hl, ← List.getElem?_map, ← hz]
    have h2 : j % z.length < z.length := by rw [hzl]; exact hr
    simp only [List.size_toArray]
    rw [← hzl, List.getElem?_eq_getElem h2]
    simp [getElem!_pos, h2]
  · rw [List.getElem?_eq_none (by simp [madeCells]; omega), List.getElem?_eq_none (by rw [vals_len, List.length_replicate]; omega)]

theorem bytes_vals {c : Codec} (hsz : c.size = 1) (hok : ∀ n : Int, c.ok [.int .u8 n] = true) (bs : List UInt8) : vals c (bs.map fun b => c.dec [.int .u8 (b.toNat : Int)]) = bs.map fun b => Value.int .u8 (b.toNat : Int) := by
  unfold vals
  induction bs with
  | nil => rfl
  | cons b bs ih =>
    simp only [List.map_cons, List.flatMap_cons, List.map_append] at ih ⊢
    rw [ih, c.ok_spec _ (hok _)]
    rfl
theorem toBytes_sound (cfg : Cfg cod) {H : Heap cod} {w : World} {M : Nat → Prop} {s d : TypeId} {x : SV} {v : Value} {out : Out cod} (hk : bytesConv cfg.P s d = 1) (h : (toBytesS cfg H d x).gives out) (G : Good env H w M) (hM : ∀ k, w.heap.size ≤ k → M k) (hx : vrel env H.length x v) :
    ∃ v' w', (convert s d v).run cfg.P w = .ok v' w' ∧ After env H w M out v' w' := by
  unfold toBytesS at h
  split at h
  · rename_i e bs hd
    split at h
    · rename_i u he hu
      split at h
      · rename_i hsz
        rw [T.gives_need, newS, T.gives_ret] at h
        obtain ⟨⟨hok, hlen⟩, rfl⟩ := h
        have hs : ∃ u0, cfg.P.underlying s = some u0 := by
          unfold bytesConv at hk
          split at hk
          · exact ⟨_, by assumption⟩
          · cases hk
          · cases hk
        obtain ⟨u0, hs⟩ := hs
        have hv : v = .string ⟨bs.toArray⟩ := hx
        subst hv
        have hvals := bytes_vals hsz hok bs
        have hsize : (⟨bs.toArray⟩ : ByteArray).size = bs.length := by simp [ByteArray.size]
        have hcap := grownCap_ge w bs.length 0 e
        have hcm := grownCap_le_maxLen w bs.length 0 e (by unfold maxLen; omega)
        refine ⟨_, _, Lib.run_convert_string_bytes w s d e _ hs hd he, ?_⟩
        have hbelow : Kin M w (Lib.bytesWorld w e ⟨bs.toArray⟩) := ⟨rfl, rfl, rfl, by rw [Lib.bytesWorld_size]; omega, fun k hk _ => Lib.bytesWorld_at_old w e _ k hk⟩
        refine after_push (hv := ⟨w.heap.size, 0, 1, .tuple #[]⟩) (G.push _ _ (by rw [Lib.bytesWorld_size]; omega) (fun k hk => Lib.bytesWorld_at_old w e _ k hk) ⟨hsz.symm, fun j q hq => ?_, fun _ => by rw [Lib.bytesWorld_size]; exact Nat.lt_succ_self _⟩ (fun b hb => ?_)) ?_ hbelow
        · rw [hvals] at hq
          have hj : j < bs.length := by
            have := (List.getElem?_eq_some_iff.1 hq).1
            simpa using this
          have := Lib.bytesWorld_cell w e ⟨bs.toArray⟩ j (by rw [hsize]; exact hj)
          rw [List.getElem?_map, List.getElem?_eq_getElem hj] at hq
          simp only [Option.map_some, Option.some.injEq] at hq
          rw [Nat.zero_add, this, ← hq]
          simp [List.getD, List.getElem?_eq_getElem hj]
        · simp only [HObj.has] at hb
          omega
        · exact ⟨Nat.lt_succ_self _, some ⟨w.heap.size, 0, none⟩, grownCap w bs.length 0 e, by rw [hsize], hcap, hcm, (fun h => by cases h), fun _ => by rw [Env.set_same]; simp [HV.addr]⟩
      · exact h.elim
    · exact h.elim
  · exact h.elim
theorem byteOf_spec {c : Codec} (hb : ∀ a : c.α, ∃ n, c.enc a = [.int .u8 n]) : ∀ (l : List c.α), ∃ ns : List Int, vals c l = ns.map (Value.int .u8) ∧ l.map (byteOf c) = ns.map fun n => UInt8.ofNat n.toNat
  | [] => ⟨[], rfl, rfl⟩
  | a :: l => by
    obtain ⟨ns, h1, h2⟩ := byteOf_spec hb l
    obtain ⟨n, hn⟩ := hb a
    refine ⟨n :: ns, ?_, ?_⟩
    · unfold vals at h1 ⊢
      simp only [List.flatMap_cons, List.map_append, hn, h1, List.map_cons, List.map_nil]
      rfl
    · simp only [List.map_cons, h2, byteOf, hn]
theorem foldl_push_bytes : ∀ (ns : List Int) (r : ByteArray), ns.foldl (fun r n => r.push (UInt8.ofNat n.toNat)) r = ⟨r.data ++ (ns.map fun n => UInt8.ofNat n.toNat).toArray⟩
  | [], r => by simp
  | n :: ns, r => by
    simp only [List.foldl_cons]
    rw [foldl_push_bytes ns]
    simp [ByteArray.push]
theorem ofBytes_sound (cfg : Cfg cod) {H : Heap cod} {w : World} {M : Nat → Prop} {s d : TypeId} {x r : SV} {v : Value} (hk : bytesConv cfg.P s d = 2) (h : (ofBytesS cfg H s x).gives r) (G : Good env H w M) (hx : vrel env H.length x v) :
    ∃ v', (convert s d v).run cfg.P w = .ok v' w ∧ vrel env H.length r v' := by
  unfold ofBytesS at h
  split at h
  · rename_i e hs
    split at h
    · rename_i u he hu
      rw [T.gives_bind] at h
      obtain ⟨l, hl, h⟩ := h
      rw [T.gives_need, T.gives_ret] at h
      obtain ⟨hb, rfl⟩ := h
      have hd : cfg.P.underlying d = some .string := by
        unfold bytesConv at hk
        split at hk
        · cases hk
        · assumption
        · cases hk
      obtain ⟨A, m, c, rfl, hm, _, _, hA⟩ := rows_rel hl G hx
      obtain ⟨ns, h1, h2⟩ := byteOf_spec hb l
      have hlen : ns.length = m := by
        have := congrArg List.length h2
        simp at this
        omega
      rw [run_convert_bytes_string w s d e A m c hs he hd]
      rcases A with _ | a
      · have hm0 : m = 0 := by
          rcases Nat.eq_zero_or_pos m with h | h
          · exact h
          · obtain ⟨a, ha, _⟩ := hA h; cases ha
        have hl0 : l = [] := List.eq_nil_of_length_eq_zero (by omega)
        subst hl0
        exact ⟨_, rfl, rfl⟩
      · have hload : (loadCells a m).run cfg.P w = .ok (ns.map (Value.int .u8)).toArray w := by
          have := run_loadCells_list (P := cfg.P) w a (ns.map (Value.int .u8)) (fun j q hq => by
            rw [← h1] at hq
            have hpos : 0 < m := by
              have h5 := (List.getElem?_eq_some_iff.1 hq).1
              rw [h1, List.length_map] at h5
              omega
            obtain ⟨a', ha, hc⟩ := hA hpos
            cases ha
            exact hc j q hq)
          rw [List.length_map, hlen] at this
          exact this
        refine ⟨_, run_bytesToString w a m c ns hload, ?_⟩
        rw [foldl_push_bytes]
        show _ = Value.string _
        rw [h2]
        congr 1
        simp
    · exact h.elim
  · exact h.elim
theorem built_slice {P : Program} {env : Env} {N : Nat} {t e : TypeId} {n : Nat} {ps : List (Nat × SV)} {qs : Array (Nat × Value)} {cs : List Cell} (ht : P.underlying t = some (.slice e)) (hne : P.cellsOf e ≠ 0)
    (hz : (zeroCells P e).isSome = true) (hsz : n * P.cellsOf e ≤ 65536) (hf : fillS (fun i => some (i * P.cellsOf e, P.cellsOf e)) (List.replicate (n * P.cellsOf e) .junk) ps = some cs) (hp : F2 (fun p q => p.1 = q.1 ∧ vrel env N p.2 q.2) ps qs.toList) (w : World) :
    ∃ vs, crels env N cs vs ∧ (Instr.buildSlice t n qs).run P w = .ok (.slice (some ⟨w.heap.size, 0, none⟩) n n) (w.alloc (.cells vs.toArray e)) := by
  have hinfo := info_of_cells (P := P) (e := e) hne
  obtain ⟨zc, hz⟩ := Option.isSome_iff_exists.1 hz
  unfold zeroCells at hz
  obtain ⟨i, hi⟩ := Option.isSome_iff_exists.1 hinfo
  cases hz0 : i.zero with
  | none => simp [hi, hz0] at hz
  | some z =>
    have hjunk : ∀ (m : Nat) (vs : List Value), vs.length = m → crels env N (List.replicate m .junk) vs := by
      intro m
      induction m with
      | zero => intro vs hv; have : vs = [] := List.eq_nil_of_length_eq_zero hv; subst this; exact .nil
      | succ m ih =>
        intro vs hv
        match vs, hv with
        | v :: vs, hv => exact .cons trivial (ih vs (by simpa using hv))
    obtain ⟨vs, h1, h2⟩ := fill_sound _ _ _ cs ((Array.range (n * P.cellsOf e)).map (z.cells[· % z.cells.size]!)).toList hf (hjunk _ _ (by simp)) hp
    refine ⟨vs, h2, ?_⟩
    have h1' : Instr.fill (fun i => some (i * P.cellsOf e, P.cellsOf e)) ((Array.range (n * P.cellsOf e)).map (z.cells[· % z.cells.size]!)) qs.toList = some vs.toArray := by
      rw [Array.toArray_toList] at h1
      exact h1
    have hzv : (zeroValue e).run P w = .ok z w := by simp [zeroValue, typeInfo, hi, hz0]
    have h24 : ¬ (2 ^ 24 < n * P.cellsOf e) := by omega
    unfold Instr.buildSlice
    by_cases hn : n * P.cellsOf e = 0
    · have h1'' : Instr.fill (fun i => some (i * P.cellsOf e, P.cellsOf e)) ((Array.range 0).map ((#[] : Array Value)[· % (#[] : Array Value).size]!)) qs.toList = some vs.toArray := by
        have h0 : ∀ f : Nat → Value, (Array.range 0).map f = #[] := fun f => by simp
        rw [← h1', hn, h0, h0]
      simp only [Sem.run_bind, run_underlying ht, Result.andThen_ok, cellsOf_size hinfo, Sem.run_ite, gt_iff_lt, h24, if_false, hn, if_true, hzv, Sem.run_pure, h1'', newRow, run_newObj, Nat.not_lt_zero]
      rfl
    · simp only [Sem.run_bind, run_underlying ht, Result.andThen_ok, cellsOf_size hinfo, Sem.run_ite, gt_iff_lt, h24, if_false, hn, hzv, Sem.run_pure, h1', newRow, run_newObj]
      rfl
theorem op_sound0 (cfg : Cfg cod) (hS : CfgOk cfg) {tm : List SV} {H : Heap cod} {w : World} {M : Nat → Prop} {o : Oper} {out : Out cod} (hnp : isNewOp o = true → o.dst.bind cfg.place = none) (h : (opS cfg tm H o).gives out) (G : Good env H w M) (hM : ∀ k, w.heap.size ≤ k → M k)
    (ρ : Operand → Value) (hρ : ∀ x, vrel env H.length (evS tm x) (ρ x)) : OpRes cfg.P (After env H w M out) ((execOp ρ o).run cfg.P w) := by
  have keep : ∀ {t : T SV}, (t.bind fun v => T.ret ({ v := v, H := H } : Out cod)).gives out → ∃ v, t.gives v ∧ out = { v := v, H := H } := fun {t} hk => by
    rw [T.gives_bind] at hk
    obtain ⟨v, h1, h2⟩ := hk
    rw [T.gives_ret] at h2
    exact ⟨v, h1, h2.symm⟩
  have moved : ∀ x, (match nilConst x, cfg.P.underlying o.type with
      | true, some (.slice e) => match cfg.ctag e with
        | some u => newS H (.own u [] e) (.c (.own H.length 0))
        | none => .ret { v := evS tm x, H := H }
      | _, _ => .ret { v := evS tm x, H := H } : T (Out cod)).gives out → After env H w M out (ρ x) w := by
    intro x h
    have hx := hρ x
    split at h
    · rename_i e hn hu
      have he : evS tm x = .c .nil := by
        unfold nilConst at hn
        split at hn
        · rfl
        · cases hn
      rw [he] at hx
      split at h
      · rename_i u hk
        rw [newS, T.gives_ret] at h
        subst h
        have hv : ρ x = .slice none 0 0 := hx
        rw [hv]
        have ho : w.ownsRow 0 e (cod u).size (.slice none 0 0) ([] : List (cod u).α).length (vals (cod u) []) := World.ownsRow_nil w 0 e _
        refine after_push (hv := ⟨0, 0, (cod u).size, .slice none 0 0⟩) (G.push _ _ (Nat.le_refl _) (fun _ _ => rfl) ?_ (fun b hb => by simp [HObj.has, Value.ownBlock] at hb)) ?_ (Kin.refl _ _)
        · exact own_obj ho (fun b hb => by cases hb) _ _
        · exact own_cell (N := H.length + 1) ho rfl (fun _ => rfl) (env.set H.length ⟨0, 0, (cod u).size, .slice none 0 0⟩) (Nat.lt_succ_self _) (Env.set_same _ _ _)
      · rw [T.gives_ret] at h
        subst h
        rw [he]
        exact after_same G hx
    · rw [T.gives_ret] at h
      subst h
      exact after_same G hx
  unfold opS at h
  unfold execOp
  cases ho : o.op with
  | move x => simp only [ho] at h ⊢; exact moved x h
  | assign x => simp only [ho] at h ⊢; exact moved x h
  | pick c a b =>
    simp only [ho] at h ⊢
    have hc := hρ c
    split at h
    · rename_i b' e
      rw [e] at hc
      have hc' : ρ c = .bool b' := hc
      rw [T.gives_ite] at h
      simp only [hc', asBool, Sem.run_bind, Sem.run_pure, Result.andThen_ok]
      cases b'
      · simp only [Bool.false_eq_true, if_false, T.gives_ret] at h
        subst h
        exact after_same G (hρ b)
      · simp only [if_true, T.gives_ret] at h
        subst h
        exact after_same G (hρ a)
    · exact h.elim
  | alloc e =>
    simp only [ho] at h ⊢
    split at h
    · rename_i cs hz
      rw [mkNew, hnp (by unfold isNewOp; rw [ho]), newS, T.gives_ret] at h
      subst h
      unfold zeroCells at hz
      cases hi : cfg.P.info? e with
      | none => simp [hi] at hz
      | some i =>
        cases hz0 : i.zero with
        | none => simp [hi, hz0] at hz
        | some z =>
          simp only [hi, hz0, Option.bind_some, Option.some.injEq] at hz
          subst hz
          obtain ⟨k, hk⟩ := new_var cfg G hM e (ofValue_cells (env := env) (N := H.length) z)
          rw [Array.toArray_toList] at hk
          have hrun : (Instr.alloc e true (.tuple #[])).run cfg.P w = .ok (.pointer (some ⟨w.heap.size, 0, none⟩)) (w.alloc (.cells z.cells e)) := by
            simp [Instr.alloc, zeroValue, typeInfo, hi, hz0, newVar, newRow]
          simp only [Sem.run_bind, hrun, Result.andThen_ok, Sem.run_pure]
          exact after_push hk ⟨Nat.lt_succ_self _, by rw [Env.set_same, newHV_addr]⟩ ((Kin.refl M w).alloc _)
    · exact h.elim
  | box e x =>
    simp only [ho] at h ⊢
    split at h
    · rename_i h1
      rw [mkNew, hnp (by unfold isNewOp; rw [ho]), newS, T.gives_ret] at h
      subst h
      obtain ⟨k, hk⟩ := new_var cfg G hM e (vrel_cells (hρ x) h1)
      rw [Array.toArray_toList] at hk
      have hrun : (Instr.box e (ρ x)).run cfg.P w = .ok (.pointer (some ⟨w.heap.size, 0, none⟩)) (w.alloc (.cells (ρ x).cells e)) := by
        simp [Instr.box, newVar, newRow]
      simp only [Sem.run_bind, hrun, Result.andThen_ok, Sem.run_pure]
      exact after_push hk ⟨Nat.lt_succ_self _, by rw [Env.set_same, newHV_addr]⟩ ((Kin.refl M w).alloc _)
    · exact h.elim
  | build t parts =>
    simp only [ho] at h ⊢
    split at h
    · rename_i cs hb
      rw [T.gives_ret] at h
      subst h
      have hp : F2 (fun p q => p.1 = q.1 ∧ vrel env H.length p.2 q.2) (parts.toList.map fun p => (p.1, evS tm p.2)) (parts.toList.map fun p => (p.1, ρ p.2)) := f2_map_same fun a _ => ⟨rfl, hρ a.2⟩
      obtain ⟨vs, h1, h2⟩ := built_sound hb hp
      have hrun := run_build (P := cfg.P) w t (parts.map fun (i, x) => (i, ρ x)) vs.toArray (by simpa using h1)
      simp only [Sem.run_bind, hrun, Result.andThen_ok, Sem.run_pure]
      exact after_same G ⟨_, rfl, by simpa using h2⟩
    · exact h.elim
  | buildSlice t n parts =>
    simp only [ho] at h ⊢
    split at h
    · rename_i e ht
      have hp : F2 (fun p q => p.1 = q.1 ∧ vrel env H.length p.2 q.2) (parts.toList.map fun p => (p.1, evS tm p.2)) (parts.map fun (i, x) => (i, ρ x)).toList := by
        rw [show (parts.map fun (i, x) => (i, ρ x)).toList = parts.toList.map (fun p => (p.1, ρ p.2)) from by simp]
        exact f2_map_same fun a _ => ⟨rfl, hρ a.2⟩
      have hmx : n * cfg.P.cellsOf e ≤ 65536 → cfg.P.cellsOf e ≠ 0 → n ≤ maxLen := fun h1 h2 => by
        have : n * 1 ≤ n * cfg.P.cellsOf e := Nat.mul_le_mul_left _ (by omega)
        unfold maxLen
        omega
      split at h
      · rename_i cs u hf hk
        split at h
        · rename_i l hl
          split at h
          · rename_i hc
            obtain ⟨hsz, hce, hz⟩ := hc
            have hne : cfg.P.cellsOf e ≠ 0 := by have := (cod u).pos; omega
            rw [newS, T.gives_ret] at h
            subst h
            obtain ⟨vs, h2, hrun⟩ := built_slice ht hne hz hsz hf hp w
            obtain ⟨hfl, hll⟩ := decAll_spec hl
            have hv : vs = vals (cod u) l := by
              rw [scalars_val (env := env) (N := H.length) (cs := cs) (by rw [← hfl]; exact flat_all _ _) h2, ← hfl]; rfl
            subst hv
            simp only [Sem.run_bind, hrun, Result.andThen_ok, Sem.run_pure]
            exact after_push (new_arr G hM u l e) ⟨Nat.lt_succ_self _, _, _, rfl, Nat.le_refl _, hmx hsz hne, fun _ => rfl, fun _ => by rw [Env.set_same, newHV_addr]⟩ ((Kin.refl M w).alloc _)
          · exact h.elim
        · exact h.elim
      · rename_i cs hf hk
        split at h
        · rename_i hc
          obtain ⟨hsz, hne, hz⟩ := hc
          rw [newS, T.gives_ret] at h
          subst h
          obtain ⟨vs, h2, hrun⟩ := built_slice ht hne hz hsz hf hp w
          simp only [Sem.run_bind, hrun, Result.andThen_ok, Sem.run_pure]
          exact after_push (new_blk G hM e h2) ⟨Nat.lt_succ_self _, _, _, rfl, Nat.le_refl _, hmx hsz hne, fun _ => rfl, fun _ => by rw [Env.set_same, newHV_addr]⟩ ((Kin.refl M w).alloc _)
        · exact h.elim
      · exact h.elim
    · exact h.elim
  | load t x =>
    simp only [ho] at h ⊢
    have hx := hρ x
    split at h
    · rename_i k i off e
      rw [e] at hx
      obtain ⟨hlt, hv⟩ := hx
      have hi : ∀ cs n, (loadS H k i off n).gives cs → ∃ vs : List Value, vs.length = n ∧ crels env H.length cs vs ∧ (loadCells ((env k).addr i off) n).run cfg.P w = .ok vs.toArray w ∧ ∀ j u, vs[j]? = some u → w.cell? (((env k).addr i off).add j) = some u := by
        intro cs n hl
        obtain ⟨h1, vs, h2, h3⟩ := load_sound hl G
        have hlen := f2_length h2
        have := run_loadCells_list (P := cfg.P) w ((env k).addr i off) vs h3
        rw [← hlen, h1] at this
        exact ⟨vs, by omega, h2, this, h3⟩
      split at h
      · rename_i hag
        obtain ⟨v, hv1, rfl⟩ := keep h
        rw [T.gives_bind] at hv1
        obtain ⟨cs, hl, hr⟩ := hv1
        rw [T.gives_ret] at hr
        subst hr
        obtain ⟨vs, h1, h2, h3, _⟩ := hi cs _ hl
        have hu : (cfg.P.underlying t).isSome = true := by
          unfold isAggB at hag
          split at hag <;> simp_all
        have hrun : (Instr.loadAt t (ρ x)).run cfg.P w = .ok (.agg vs.toArray) w := by
          rw [hv]
          simp [Instr.loadAt, Instr.sureAddr, loadVar, run_isAgg t w hu, hag, cellsOf_size (info_of_und hu), h3]
        simp only [Sem.run_bind, hrun, Result.andThen_ok, Sem.run_pure]
        exact after_same G ⟨_, rfl, by simpa using h2⟩
      · rename_i hag
        split at h
        · rename_i hu
          obtain ⟨v, hv1, rfl⟩ := keep h
          rw [T.gives_bind] at hv1
          obtain ⟨cs, hl, hr⟩ := hv1
          split at hr
          · rename_i c
            rw [T.gives_ret] at hr
            subst hr
            obtain ⟨vs, h1, h2, h3, h4⟩ := hi _ _ hl
            cases h2 with
            | @cons _ u _ us hcu hn =>
              cases hn
              have hc := h4 0 u rfl
              have hadd : ((env k).addr i off).add 0 = (env k).addr i off := by simp [Addr.add]
              rw [hadd] at hc
              have hrun : (Instr.loadAt t (ρ x)).run cfg.P w = .ok u w := by
                rw [hv]
                simp [Instr.loadAt, Instr.sureAddr, loadVar, run_isAgg t w hu, hag, hc]
              simp only [Sem.run_bind, hrun, Result.andThen_ok, Sem.run_pure]
              exact after_same G hcu
          · exact hr.elim
        · exact h.elim
    · exact h.elim
  | store t x y =>
    simp only [ho] at h ⊢
    have hx := hρ x
    split at h
    · rename_i k i off e
      rw [e] at hx
      obtain ⟨hlt, hv⟩ := hx
      split at h
      · rename_i hcond
        obtain ⟨hsz, hone, h0⟩ := hcond
        rw [T.gives_bind] at h
        obtain ⟨H', hst, hr⟩ := h
        rw [T.gives_ret] at hr
        subst hr
        have hy := vrel_cells (hρ y) hone
        obtain ⟨w', h1, h2, h3, h4⟩ := store_sound (P := cfg.P) hst hy G
        have hlen := f2_length hy
        have hinfo : (cfg.P.info? t).isSome = true := info_of_cells h0
        have hrun : (Instr.storeAt t (ρ x) (ρ y)).run cfg.P w = .ok () w' := by
          rw [hv]
          have : (ρ y).cells.size = cfg.P.cellsOf t := by rw [← hsz, hlen]; simp
          simp [Instr.storeAt, Instr.sureAddr, storeVar, cellsOf_size hinfo, this, h1]
        simp only [Sem.run_bind, hrun, Result.andThen_ok, Sem.run_pure]
        exact ⟨env, (EnvEq.refl _ _).but _, by simp [h4], rfl, h2, h3⟩
      · exact h.elim
    · exact h.elim
  | nilCheck x =>
    simp only [ho] at h ⊢
    have hx := hρ x
    split at h
    · rename_i k i off e
      rw [e] at hx
      rw [T.gives_ret] at h
      subst h
      have hv := hx.2
      simp only [hv, Sem.run_pure]
      rw [← hv]
      exact after_same G hx
    · rename_i f caps e
      rw [e] at hx
      rw [T.gives_ret] at h
      subst h
      have hv := hx.2
      simp only [hv, Sem.run_pure]
      rw [← hv]
      exact after_same G hx
    · exact h.elim
  | binOp op t x y ty =>
    simp only [ho] at h ⊢
    obtain ⟨v, hv, rfl⟩ := keep h
    obtain ⟨res, h1, h2⟩ := binAll_sound hv (hρ x) (hρ y) x y
    have := h1 w
    simp only [Sem.run_bind] at this ⊢
    simp only [this, Result.andThen_ok, Sem.run_pure]
    exact after_same G h2
  | unOp op t x =>
    simp only [ho] at h ⊢
    obtain ⟨v, hv, rfl⟩ := keep h
    obtain ⟨res, h1, h2⟩ := un_sound (P := cfg.P) hv (hρ x)
    simp only [Sem.run_bind, h1, Result.andThen_ok, Sem.run_pure]
    exact after_same G h2
  | convert s d x =>
    simp only [ho] at h ⊢
    split at h
    · rename_i hk
      obtain ⟨v', w', h1, h2⟩ := toBytes_sound cfg hk h G hM (hρ x)
      simp only [Sem.run_bind, h1, Result.andThen_ok, Sem.run_pure]
      exact h2
    · rename_i hk
      obtain ⟨v, hv, rfl⟩ := keep h
      obtain ⟨res, h1, h2⟩ := ofBytes_sound cfg hk hv G (hρ x)
      simp only [Sem.run_bind, h1, Result.andThen_ok, Sem.run_pure]
      exact after_same G h2
    · obtain ⟨v, hv, rfl⟩ := keep h
      obtain ⟨res, h1, h2⟩ := conv_sound hv (hρ x)
      simp only [Sem.run_bind, h1, Result.andThen_ok, Sem.run_pure]
      exact after_same G h2
  | slice t x lo hi mx =>
    simp only [ho] at h ⊢
    obtain ⟨v, hv, rfl⟩ := keep h
    have opt : ∀ (q : Option Operand), (∀ y, q.map (evS tm) = some y → ∃ u, q.map ρ = some u ∧ vrel env H.length y u) ∧ (q.map (evS tm) = none → q.map ρ = none) := fun q => by
      cases q with
      | none => exact ⟨(fun y hy => by cases hy), fun _ => rfl⟩
      | some q => exact ⟨fun y hy => ⟨ρ q, rfl, by simp only [Option.map_some, Option.some.injEq] at hy; rw [← hy]; exact hρ q⟩, (fun hn => by cases hn)⟩
    obtain ⟨res, h1, h2⟩ := slice_sound hv G (hρ x) (opt lo).1 (opt lo).2 (opt hi).1 (opt hi).2 (opt mx).1 (opt mx).2
    simp only [Sem.run_bind, h1, Result.andThen_ok, Sem.run_pure]
    exact after_same G h2
  | fieldAddr t x f =>
    simp only [ho] at h ⊢
    have hx := hρ x
    split at h
    · rename_i k i off fs e ht
      rw [e] at hx
      obtain ⟨hlt, hv⟩ := hx
      split at h
      · rename_i fl hf
        split at h
        · exact h.elim
        · rename_i hc
          rw [T.gives_ret] at h
          subst h
          have hrun : (Instr.fieldAt t (ρ x) f).run cfg.P w = .ok (.pointer (some (((env k).addr i off).add fl.offset))) w := by
            rw [hv]
            simp [Instr.fieldAt, run_underlying ht, hf, Instr.sureAddr, fieldPlace, cellsOf_size (info_of_cells hc), hc]
          simp only [Sem.run_bind, hrun, Result.andThen_ok, Sem.run_pure]
          exact after_same G ⟨hlt, by rw [addr_add]⟩
      · exact h.elim
    · exact h.elim
  | field t x f =>
    simp only [ho] at h ⊢
    have hx := hρ x
    split at h
    · rename_i cs fs e ht
      rw [e] at hx
      obtain ⟨vs, hv, hvs⟩ := hx
      split at h
      · rename_i fl hf
        split at h
        · rename_i hu
          obtain ⟨r, hr, rfl⟩ := keep h
          obtain ⟨res, h1, h2⟩ := part_sound hr hvs hu
          have h1' := h1 w
          rw [Array.toArray_toList] at h1'
          have hrun : (Instr.field t (ρ x) f).run cfg.P w = .ok res w := by
            rw [hv]
            simp [Instr.field, run_underlying ht, hf, asAgg, h1']
          simp only [Sem.run_bind, hrun, Result.andThen_ok, Sem.run_pure]
          exact after_same G h2
        · exact h.elim
      · exact h.elim
    · exact h.elim
  | indexAddr t x ix =>
    simp only [ho] at h ⊢
    obtain ⟨v, hv, rfl⟩ := keep h
    obtain ⟨res, h1, h2⟩ := indexAddr_sound hv G (hρ x) (hρ ix)
    simp only [Sem.run_bind, h1, Result.andThen_ok, Sem.run_pure]
    exact after_same G h2
  | index t x ix =>
    simp only [ho] at h ⊢
    obtain ⟨v, hv, rfl⟩ := keep h
    obtain ⟨res, h1, h2⟩ := index_sound cfg hv (hρ x) (hρ ix) w
    simp only [Sem.run_bind, h1, Result.andThen_ok, Sem.run_pure]
    exact after_same G h2
  | extract t i =>
    simp only [ho] at h ⊢
    have hx := hρ t
    split at h
    · rename_i vs e
      rw [e] at hx
      obtain ⟨us, hu, hf⟩ := hx
      split at h
      · rename_i v hv
        rw [T.gives_ret] at h
        subst h
        obtain ⟨u, h1, h2⟩ := f2_get hf hv
        have hrun : (Instr.extract (ρ t) i).run cfg.P w = .ok u w := by
          rw [hu]
          simp only [Array.getElem?_toList] at h1
          simp [Instr.extract, h1]
        simp only [Sem.run_bind, hrun, Result.andThen_ok, Sem.run_pure]
        refine after_same G ?_
        cases v with
        | c x => exact h2
        | agg cs => exact h2
        | tup l => exact h2.elim
      · exact h.elim
    · exact h.elim
  | makeSlice t n c =>
    simp only [ho] at h ⊢
    have hn := hρ n
    have hc := hρ c
    split at h
    · rename_i e kn n' kc c' ht hen hec
      rw [hen] at hn
      rw [hec] at hc
      have hn : ρ n = .int kn n' := hn
      have hc : ρ c = .int kc c' := hc
      split at h
      · rename_i u z hk hz
        split at h
        · rename_i hcond
          obtain ⟨hok, hce, hby⟩ := hcond
          rw [T.gives_need, newS, T.gives_ret] at h
          obtain ⟨⟨hn0, hn1, rfl⟩, rfl⟩ := h
          unfold zeroCells at hz
          cases hi : cfg.P.info? e with
          | none => simp [hi] at hz
          | some i =>
            cases hz0 : i.zero with
            | none => simp [hi, hz0] at hz
            | some zv =>
              simp only [hi, hz0, Option.bind_some, Option.some.injEq] at hz
              subst hz
              have hzr := ofValue_cells (env := env) (N := H.length) zv
              have hsc : (SV.ofValue zv).cells.all Cell.scalar = true := by rw [← (cod u).ok_spec _ hok]; exact (cod u).scal _
              have hzv := scalars_val hsc hzr
              have hb : cfg.P.bytesOf e = i.bytes := by simp [Program.bytesOf, hi]
              have hs : cfg.P.cellsOf e = i.size := by simp [Program.cellsOf, hi]
              have hbb : (i.bytes : Int) * c' ≤ 281474976710656 := by
                have h1 : (i.bytes : Int) * c' ≤ (i.bytes : Int) * 1000000 := Int.mul_le_mul_of_nonneg_left hn1 (by omega)
                omega
              have hrun := run_make (P := cfg.P) w t e i zv ht hi hz0 kn kc c' c' hn0 (Int.le_refl _) hbb (by omega)
              have hmv := made_vals (cod u) zv.cells.toList ((cod u).dec (SV.ofValue zv).cells) (by rw [(cod u).ok_spec _ hok]; exact hzv) c'.toNat
              rw [Array.toArray_toList, ← hce, hs] at hmv
              have hmk : madeCells zv.cells (c'.toNat * i.size) = (vals (cod u) (List.replicate c'.toNat ((cod u).dec (SV.ofValue zv).cells))).toArray := by rw [← hmv, Array.toArray_toList]
              rw [hmk] at hrun
              simp only [hn, hc, Sem.run_bind, hrun, Result.andThen_ok, Sem.run_pure]
              exact after_push (new_arr G hM u _ e) ⟨Nat.lt_succ_self _, _, _, rfl, Nat.le_refl _, by unfold maxLen; omega, fun _ => rfl, fun _ => by rw [Env.set_same, newHV_addr]⟩ ((Kin.refl M w).alloc _)
        · exact h.elim
      · exact h.elim
    · exact h.elim
  | makeFunc fn first caps =>
    cases fn with
    | func f =>
      simp only [ho] at h ⊢
      split at h
      · rename_i hf
        have hf' : first = #[] := by simpa using hf
        split at h
        · rename_i l hl
          rw [T.gives_ret] at h
          subst h
          obtain ⟨h1, h2⟩ := capsOf_sound hl (f2_map_same (g := ρ) fun a _ => hρ a)
          have hrun : (Instr.makeFunc (.func f) (first.map ρ) (caps.map ρ)).run cfg.P w = .ok (.func (.func f) (first.map ρ) (caps.map ρ)) w := rfl
          simp only [Sem.run_bind, hrun, Result.andThen_ok, Sem.run_pure]
          refine after_same G ⟨h2, ?_⟩
          rw [hf', ← h1, ← arr_map, Array.map_empty]
        · exact h.elim
      · exact h.elim
    | _ => simp only [ho] at h; exact h.elim
  | call c =>
    obtain ⟨callee, args, ts⟩ := c
    have hargs : F2 (vrel env H.length) (args.toList.map (evS tm)) (args.toList.map ρ) := f2_map_same fun a _ => hρ a
    cases callee with
    | builtin b =>
      simp only [ho] at h ⊢
      have := bltn_sound (ty := o.type) (cs := args.map fun | .const _ => true | _ => false) cfg h G hM hargs
      simp only [resolve, invoke, Sem.run_bind, Sem.run_pure, Result.andThen_ok]
      rw [← arr_map] at this
      exact this
    | value f =>
      simp only [ho] at h ⊢
      have hf := hρ f
      split at h
      · rename_i g caps e
        rw [e] at hf
        obtain ⟨hcap, hv⟩ := hf
        have hall : F2 (vrel env H.length) (args.toList.map (evS tm) ++ caps.map fun c => SV.c (.ptr c.1 c.2.1 c.2.2)) (args.toList.map ρ ++ caps.map fun c => Value.pointer (some ((env c.1).addr c.2.1 c.2.2))) :=
          f2_append hargs (f2_map_same fun a ha => ⟨hcap a ha, rfl⟩)
        obtain ⟨henter, hcalls⟩ := call_sound cfg hS h G hM hall
        have hd : (resolve ρ ⟨.value f, args, ts⟩ o.type).run cfg.P w = .ok { target := .fn (.func g) (caps.map fun c => Value.pointer (some ((env c.1).addr c.2.1 c.2.2))).toArray, args := args.map ρ } w := by
          simp only [resolve, hv, Deferred.ofValue]
          simp
        simp only [Sem.run_bind, hd, Result.andThen_ok, invoke, henter]
        rw [show (args.map ρ ++ (caps.map fun c => Value.pointer (some ((env c.1).addr c.2.1 c.2.2))).toArray) = (args.toList.map ρ ++ caps.map fun c => Value.pointer (some ((env c.1).addr c.2.1 c.2.2))).toArray from by rw [arr_map]; simp]
        exact hcalls
      · exact h.elim
    | invoke r m => simp only [ho] at h; exact h.elim
  | _ => simp only [ho] at h; exact h.elim

/-! ### a variable in a place that was kept for it -/
/-- A place that is kept still: what lies there may turn. -/
def Turn (cfg : Cfg cod) (H : Heap cod) (h : Nat) : Prop := (∃ d, cfg.place d = some h) ∧ (getObj H h).isHold = true
/-- What some temporary or some object refers to. -/
def srcs (tm : List SV) (H : Heap cod) (h : Nat) : Prop := (∃ v ∈ tm, h ∈ v.hs) ∨ (∃ ob ∈ H, h ∈ ob.hs)
/-- Nothing refers to a place that is kept still. -/
def FrC (cfg : Cfg cod) (tm : List SV) (H : Heap cod) : Prop := ∀ k, Turn cfg H k → ¬ srcs tm H k
theorem FrC.none {cfg : Cfg cod} (h : ∀ d, cfg.place d = none) (tm : List SV) (H : Heap cod) : FrC cfg tm H := fun k ⟨⟨d, hd⟩, _⟩ => by rw [h d] at hd; cases hd
def After2 (cfg : Cfg cod) (env : Env) (H : Heap cod) (w : World) (M : Nat → Prop) (o : Out cod) (v : Value) (w' : World) : Prop :=
  ∃ env', (∀ h, h < H.length → h ∉ o.kill → ¬ Turn cfg H h → env' h = env h) ∧ H.length ≤ o.H.length ∧ vrel env' o.H.length o.v v ∧ Good env' o.H w' M ∧ Kin M w w'
theorem After.two {cfg : Cfg cod} {H : Heap cod} {w : World} {M : Nat → Prop} {o : Out cod} {v : Value} {w' : World} (h : After env H w M o v w') : After2 cfg env H w M o v w' :=
  let ⟨env', h1, h2⟩ := h
  ⟨env', fun k hk hn _ => h1 k hk hn, h2⟩
theorem OpRes.mono {P : Program} {R S : Value → World → Prop} (h : ∀ v w, R v w → S v w) : ∀ {r : Result Next}, OpRes P R r → OpRes P S r := fun {r} hr => by
  cases r with
  | ok n w =>
    cases n with
    | value v => exact h _ _ hr
    | skip => exact h _ _ hr
    | enter f args => exact Calls.mono hr fun e w' ⟨v, h1, h2⟩ => ⟨v, h1, h _ _ h2⟩
    | _ => exact hr
  | _ => exact hr
theorem varObj_plain (cfg : Cfg cod) (t : TypeId) (cs : List Cell) : (varObj cfg t cs).wr = true ∧ (varObj cfg t cs).isOwn = false ∧ (varObj cfg t cs).isHold = false ∧ (∀ h ∈ (varObj cfg t cs).hs, h ∈ cs.flatMap Cell.hs) ∧ ∀ x b, (varObj cfg t cs).has x b → b = x.block := by
  have key : ∀ o : HObj cod, (o = .blk cs t ∨ ∃ u l, o = .arr u l t) → o.wr = true ∧ o.isOwn = false ∧ o.isHold = false ∧ (∀ h ∈ o.hs, h ∈ cs.flatMap Cell.hs) ∧ ∀ x b, o.has x b → b = x.block := by
    rintro o (rfl | ⟨u, l, rfl⟩)
    · exact ⟨rfl, rfl, rfl, fun _ h => h, fun _ _ h => h⟩
    · exact ⟨rfl, rfl, rfl, (fun _ h => by cases h), fun _ _ h => h⟩
  unfold varObj
  split
  · split
    · exact key _ (.inl rfl)
    · split
      · exact key _ (.inr ⟨_, _, rfl⟩)
      · exact key _ (.inl rfl)
  · exact key _ (.inl rfl)
theorem mapC_id {ks : List Nat} {o : HObj cod} (h : ∀ k ∈ ks, k ∉ o.hs) : o.mapC (Cell.killed ks) = o := by
  have key : ∀ cs : List Cell, (∀ k ∈ ks, k ∉ cs.flatMap Cell.hs) → cs.map (Cell.killed ks) = cs := fun cs hc => by
    have : cs.map (Cell.killed ks) = cs.map id := List.map_congr_left fun c hcm => by
      unfold Cell.killed
      rw [if_neg]
      · rfl
      · intro hh
        obtain ⟨k, hk, hkk⟩ := List.any_eq_true.1 hh
        exact hc k (by simpa using hkk) (List.mem_flatMap.2 ⟨c, hcm, hk⟩)
    rw [this, List.map_id]
  cases o with
  | blk cs ty => simp only [HObj.mapC, HObj.blk.injEq, and_true]; exact key cs h
  | rblk cs => simp only [HObj.mapC, HObj.rblk.injEq]; exact key cs h
  | _ => rfl
/-- An object in a place that was kept, in a block that was not there. -/
theorem Good.place {H : Heap cod} {w w' : World} {M : Nat → Prop} {k : Nat} {ob0 ob : HObj cod} (G : Good env H w M) (ho : H[k]? = some ob0) (hh : ob0.isHold = true) (hfr : ∀ o ∈ H, k ∉ o.hs) (x : HV) (hs : w.heap.size ≤ w'.heap.size) (hk : ∀ b, b < w.heap.size → w'.heap[b]? = w.heap[b]?)
    (hob : objRel (env.set k x) H.length x w' M ob) (hnew : ∀ b, ob.has x b → w.heap.size ≤ b) : Good (env.set k x) (H.set k ob) w' M := by
  have hlt : k < H.length := (List.getElem?_eq_some_iff.1 ho).1
  have hbut : EnvBut H.length [k] env (env.set k x) := fun q _ hne => Env.set_other _ _ (by rintro rfl; exact hne (by simp))
  have G' := G.keep hs hk
  have cases_ : ∀ j a, (H.set k ob)[j]? = some a → (j ≠ k ∧ H[j]? = some a) ∨ (j = k ∧ a = ob) := by
    intro j a ha
    by_cases e : j = k
    · subst e
      rw [List.getElem?_set_self hlt] at ha
      simp only [Option.some.injEq] at ha
      exact .inr ⟨rfl, ha.symm⟩
    · rw [List.getElem?_set_ne (by omega)] at ha
      exact .inl ⟨e, ha⟩
  refine ⟨fun j a ha => ?_, fun j j' a a' b hne ha ha' hw hb hb' => ?_⟩
  · rw [List.length_set]
    rcases cases_ j a ha with ⟨hne, h1⟩ | ⟨rfl, rfl⟩
    · rw [Env.set_other _ _ hne]
      have := objRel_map (f := Cell.killed [k]) (fun c v hc => crel_killed (Nat.le_refl _) hbut hc) (G'.obj j a h1)
      rwa [mapC_id (fun q hq => by simp only [List.mem_singleton] at hq; subst hq; exact hfr a (List.mem_of_getElem? h1))] at this
    · rw [Env.set_same]; exact hob
  · rcases cases_ j a ha with ⟨h1, h2⟩ | ⟨rfl, rfl⟩ <;> rcases cases_ j' a' ha' with ⟨h1', h2'⟩ | ⟨rfl, rfl⟩
    · rw [Env.set_other _ _ h1] at hb
      rw [Env.set_other _ _ h1'] at hb'
      exact G.sep j j' a a' b hne h2 h2' hw hb hb'
    · rw [Env.set_other _ _ h1] at hb
      rw [Env.set_same] at hb'
      have := objRel_has_lt (G.obj j a h2) hb
      have := hnew b hb'
      omega
    · rw [Env.set_same] at hb
      rw [Env.set_other _ _ h1'] at hb'
      have := objRel_has_lt (G.obj j' a' h2') hb'
      have := hnew b hb
      omega
    · exact hne rfl
theorem place_var (cfg : Cfg cod) {H : Heap cod} {w : World} {M : Nat → Prop} {k : Nat} {ob0 : HObj cod} (G : Good env H w M) (hM : ∀ k, w.heap.size ≤ k → M k) (ho : H[k]? = some ob0) (hh : ob0.isHold = true) (hfr : ∀ o ∈ H, k ∉ o.hs) {cs : List Cell} {vs : List Value} (t : TypeId) (hc : crels env H.length cs vs) (hcs : k ∉ cs.flatMap Cell.hs) :
    ∃ n, Good (env.set k (newHV w n)) (H.set k (varObj cfg t cs)) (w.alloc (.cells vs.toArray t)) M := by
  have hbut : EnvBut H.length [k] env (env.set k (newHV w 0)) := fun q _ hne => Env.set_other _ _ (by rintro rfl; exact hne (by simp))
  have hcs' : cs.map (Cell.killed [k]) = cs := by
    have := mapC_id (cod := cod) (ks := [k]) (o := .blk cs t) (fun q hq => by simp only [List.mem_singleton] at hq; subst hq; exact hcs)
    simpa only [HObj.mapC, HObj.blk.injEq, and_true] using this
  have blk : Good (env.set k (newHV w 0)) (H.set k (.blk cs t)) (w.alloc (.cells vs.toArray t)) M := by
    refine G.place ho hh hfr _ (by simp) (fun b hb => heap_alloc_old w _ hb) ⟨rfl, hM _ (Nat.le_refl _), vs, heap_alloc_new w _, ?_⟩ (fun b hb => by simp only [HObj.has, newHV] at hb; omega)
    have := crels_map (f := Cell.killed [k]) (fun c v h => crel_killed (Nat.le_refl _) hbut h) hc
    rwa [hcs'] at this
  unfold varObj
  split
  · split
    · exact ⟨0, blk⟩
    · rename_i u _
      split
      · rename_i l hl
        obtain ⟨h1, _⟩ := decAll_spec hl
        have hv : vs = vals (cod u) l := by
          have := scalars_val (env := env) (N := H.length) (cs := cs) (by rw [← h1]; exact flat_all _ _) hc
          rw [this, ← h1]; rfl
        subst hv
        exact ⟨(cod u).size, G.place ho hh hfr _ (by simp) (fun b hb => heap_alloc_old w _ hb) ⟨rfl, rfl, hM _ (Nat.le_refl _), heap_alloc_new w _⟩ (fun b hb => by simp only [HObj.has, newHV] at hb; omega)⟩
      · exact ⟨0, blk⟩
  · exact ⟨0, blk⟩
theorem ofCell_nohs (v : Value) : (Cell.ofValue v).hs = [] := by
  unfold Cell.ofValue
  split <;> rfl
theorem ofValue_nohs (v : Value) : (SV.ofValue v).cells.flatMap Cell.hs = [] := by
  unfold SV.ofValue
  split
  · simp only [SV.cells]
    rw [List.flatMap_eq_nil_iff]
    intro c hc
    obtain ⟨u, _, rfl⟩ := List.mem_map.1 hc
    exact ofCell_nohs u
  · simp [SV.cells, ofCell_nohs]
theorem evS_srcs {tm : List SV} {x : Operand} {h : Nat} (hh : h ∈ (evS tm x).hs) : ∃ v ∈ tm, h ∈ v.hs := by
  cases x with
  | tmp t =>
    simp only [evS] at hh
    rcases Nat.lt_or_ge t tm.length with hl | hl
    · simp only [List.getD, List.getElem?_eq_getElem hl, Option.getD_some] at hh
      exact ⟨_, List.getElem_mem hl, hh⟩
    · simp only [List.getD, List.getElem?_eq_none hl, Option.getD_none] at hh
      cases hh
  | const v =>
    simp only [evS] at hh
    have := ofValue_nohs v
    unfold SV.ofValue at this hh
    split at hh
    · simp only [SV.cells] at this
      simp only [SV.hs] at hh
      rw [this] at hh
      cases hh
    · simp only [SV.hs, ofCell_nohs] at hh
      cases hh
  | global g => cases hh
  | func f => cases hh
theorem sv_cells_hs {x : SV} {h : Nat} (hh : h ∈ x.cells.flatMap Cell.hs) : h ∈ x.hs := by
  cases x with
  | c x => simpa [SV.cells, SV.hs] using hh
  | agg cs => exact hh
  | tup vs => simp [SV.cells, Cell.hs] at hh
theorem cells_srcs {tm : List SV} {H : Heap cod} {x : Operand} {h : Nat} (hh : h ∈ (evS tm x).cells.flatMap Cell.hs) : srcs tm H h := .inl (evS_srcs (sv_cells_hs hh))
theorem mkNew_some {cfg : Cfg cod} {d : Option Nat} {H : Heap cod} {ob : HObj cod} {out : Out cod} {k : Nat} (hd : d.bind cfg.place = some k) (h : (mkNew cfg d H ob).gives out) : (getObj H k).isHold = true ∧ out = { v := .c (.ptr k 0 0), H := H.set k ob } := by
  unfold mkNew at h
  rw [hd] at h
  simp only at h
  split at h
  · rename_i hc
    rw [T.gives_ret] at h
    exact ⟨hc, h.symm⟩
  · exact h.elim
theorem op_sound (cfg : Cfg cod) (hS : CfgOk cfg) {tm : List SV} {H : Heap cod} {w : World} {M : Nat → Prop} {o : Oper} {out : Out cod} (hfr : FrC cfg tm H) (h : (opS cfg tm H o).gives out) (G : Good env H w M) (hM : ∀ k, w.heap.size ≤ k → M k)
    (ρ : Operand → Value) (hρ : ∀ x, vrel env H.length (evS tm x) (ρ x)) : OpRes cfg.P (After2 cfg env H w M out) ((execOp ρ o).run cfg.P w) := by
  by_cases hn : isNewOp o = true
  · cases hp : o.dst.bind cfg.place with
    | none => exact OpRes.mono (fun _ _ h => h.two) (op_sound0 cfg hS (fun _ => hp) h G hM ρ hρ)
    | some k =>
      have hturn : (getObj H k).isHold = true → Turn cfg H k := fun hh => by
        obtain ⟨d, _, hd⟩ := Option.bind_eq_some_iff.1 hp
        exact ⟨⟨d, hd⟩, hh⟩
      have fin : ∀ (e : TypeId) (cs : List Cell) (vs : List Value), (mkNew cfg o.dst H (varObj cfg e cs)).gives out → crels env H.length cs vs → (∀ h ∈ cs.flatMap Cell.hs, srcs tm H h) → After2 cfg env H w M out (.pointer (some ⟨w.heap.size, 0, none⟩)) (w.alloc (.cells vs.toArray e)) := by
        intro e cs vs hg hc hsr
        obtain ⟨hh, rfl⟩ := mkNew_some hp hg
        have hfk := hfr k (hturn hh)
        have hk : H[k]? = some (getObj H k) := getObj_some (fun e => by rw [e] at hh; cases hh)
        have hlt : k < H.length := (List.getElem?_eq_some_iff.1 hk).1
        obtain ⟨n, hG⟩ := place_var cfg G hM hk hh (fun ob hob hm => hfk (.inr ⟨ob, hob, hm⟩)) e hc (fun hm => hfk (hsr k hm))
        refine ⟨env.set k (newHV w n), fun q hq _ ht => Env.set_other _ _ (fun e => ht (by subst e; exact hturn hh)), by simp, ?_, hG, (Kin.refl M w).alloc _⟩
        simp only [List.length_set]
        exact ⟨hlt, by rw [Env.set_same, newHV_addr]⟩
      unfold isNewOp at hn
      unfold execOp
      unfold opS at h
      cases ho : o.op with
      | alloc e =>
        simp only [ho] at h ⊢
        split at h
        · rename_i cs hz
          unfold zeroCells at hz
          cases hi : cfg.P.info? e with
          | none => simp [hi] at hz
          | some i =>
            cases hz0 : i.zero with
            | none => simp [hi, hz0] at hz
            | some z =>
              simp only [hi, hz0, Option.bind_some, Option.some.injEq] at hz
              subst hz
              have hA := fin e _ z.cells.toList h (ofValue_cells z) (fun q hq => by rw [ofValue_nohs] at hq; cases hq)
              have hrun : (Instr.alloc e true (.tuple #[])).run cfg.P w = .ok (.pointer (some ⟨w.heap.size, 0, none⟩)) (w.alloc (.cells z.cells e)) := by
                simp [Instr.alloc, zeroValue, typeInfo, hi, hz0, newVar, newRow]
              simp only [Sem.run_bind, hrun, Result.andThen_ok, Sem.run_pure]
              rw [Array.toArray_toList] at hA
              exact hA
        · exact h.elim
      | box e x =>
        simp only [ho] at h ⊢
        split at h
        · rename_i h1
          have hA := fin e _ (ρ x).cells.toList h (vrel_cells (hρ x) h1) (fun q hq => cells_srcs hq)
          have hrun : (Instr.box e (ρ x)).run cfg.P w = .ok (.pointer (some ⟨w.heap.size, 0, none⟩)) (w.alloc (.cells (ρ x).cells e)) := by
            simp [Instr.box, newVar, newRow]
          simp only [Sem.run_bind, hrun, Result.andThen_ok, Sem.run_pure]
          rw [Array.toArray_toList] at hA
          exact hA
        · exact h.elim
      | _ => rw [ho] at hn; cases hn
  · exact OpRes.mono (fun _ _ h => h.two) (op_sound0 cfg hS (fun h => absurd h hn) h G hM ρ hρ)
end
end Go.Proofs.Ythljcjighomgkaa.Sym
