/- A symbolic run is sound: indices, slices, appends, makes. -/
import Derived.Test.YtiolfkmkbccndaaGreatDoorSym7
import Derived.Maps.AppendAt
namespace Go.Proofs.YtiolfkmkbccndaaGreatDoor.Sym
open Go.RowKit

section
variable {cod : Nat → Codec} {P : Program} {env : Env} {N : Nat}

theorem info_of_cells {e : TypeId} (h : P.cellsOf e ≠ 0) : (P.info? e).isSome = true := by
  unfold Program.cellsOf at h
  cases hi : P.info? e with
  | none => simp [hi] at h
  | some i => rfl
theorem addr_row (x : HV) (i m s : Nat) (he : x.esize = s) : (x.addr i 0).add (m * s) = x.addr (i + m) 0 := by
  rw [addr_add]
  unfold HV.addr
  rw [he, Nat.add_mul, Nat.zero_add, Nat.add_zero]
theorem asSlc_rel {x : SV} {v : Value} {h i n : Nat} {t : Bool} (hs : asSlc x = some (h, i, n, t)) (hx : vrel env N x v) :
    h < N ∧ ∃ A c, v = .slice A n c ∧ n ≤ c ∧ c ≤ maxLen ∧ (t = true → c = n) ∧ (0 < n → A = some ((env h).addr i 0)) := by
  unfold asSlc at hs
  split at hs
  · simp only [Option.some.injEq, Prod.mk.injEq] at hs
    obtain ⟨rfl, rfl, rfl, rfl⟩ := hs
    exact hx
  · simp only [Option.some.injEq, Prod.mk.injEq] at hs
    obtain ⟨rfl, rfl, rfl, rfl⟩ := hs
    obtain ⟨h1, h2, A, c, h3, h4, h5, h6⟩ := hx
    exact ⟨h1, A, c, h3, h4, h5, (fun h => by cases h), h6⟩
  · cases hs
theorem row_esize {H : Heap cod} {w : World} {M : Nat → Prop} {h s : Nat} (G : Good env H w M) (he : (getObj H h).esz = some s) : (env h).esize = s := by
  cases ho : getObj H h with
  | arr t l ty => rw [ho] at he; simp only [HObj.esz, Option.some.injEq] at he; rw [← he]; exact (G.obj h _ (getObj_obj ho (by simp))).2.1
  | own t l ty => rw [ho] at he; simp only [HObj.esz, Option.some.injEq] at he; rw [← he]; exact (G.obj h _ (getObj_obj ho (by simp))).2.1
  | inp t l => rw [ho] at he; simp only [HObj.esz, Option.some.injEq] at he; rw [← he]; exact (G.obj h _ (getObj_obj ho (by simp))).1
  | nin t LL op => rw [ho] at he; simp only [HObj.esz, Option.some.injEq] at he; rw [← he]; exact (G.obj h _ (getObj_obj ho (by simp))).1
  | nown t LL js cs ty tyr => rw [ho] at he; simp only [HObj.esz, Option.some.injEq] at he; rw [← he]; exact (G.obj h _ (getObj_obj ho (by simp))).2.1
  | _ => rw [ho] at he; cases he

theorem indexAddr_sound {H : Heap cod} {w : World} {M : Nat → Prop} {t : TypeId} {x ix r : SV} {u v : Value} (h : (indexAddrS P H t x ix).gives r) (G : Good env H w M) (hx : vrel env H.length x u) (hv : vrel env H.length ix v) :
    ∃ res, (Instr.indexAt t u v).run P w = .ok res w ∧ vrel env H.length r res := by
  unfold indexAddrS at h
  split at h
  · rename_i n e kk k ht
    have hk : v = .int kk k := hv
    subst hk
    split at h
    · rename_i hh i o
      obtain ⟨hlt, rfl⟩ := hx
      have run : ∀ m : Nat, k = m → m < n → (P.info? e).isSome = true → (Instr.indexAt t (.pointer (some ((env hh).addr i o))) (.int kk k)).run P w = .ok (.pointer (some (((env hh).addr i o).add (m * P.cellsOf e)))) w := by
        intro m hm hmn hi
        subst hm
        have hc : (0 : Int) ≤ (m : Int) ∧ (m : Int) < (n : Int) := ⟨by omega, by omega⟩
        simp [Instr.indexAt, run_underlying ht, Instr.sureAddr, asIntOf, hc, cellsOf_size hi]
        intro hnm
        omega
      split at h
      · rename_i u' l ty ho
        have he : (env hh).esize = (cod u').size := row_esize G (by rw [ho]; rfl)
        split at h
        · rename_i hc
          obtain ⟨rfl, hce⟩ := hc
          rw [T.gives_need, T.gives_ret] at h
          obtain ⟨hb, rfl⟩ := h
          refine ⟨_, run k.toNat (by omega) (by omega) (info_of_cells (by have := (cod u').pos; omega)), hlt, ?_⟩
          rw [hce, addr_row _ _ _ _ he]
        · split at h
          · rename_i hc
            obtain ⟨rfl, hce, h0⟩ := hc
            rw [T.gives_need, T.gives_ret] at h
            obtain ⟨hb, rfl⟩ := h
            · refine ⟨_, run k.toNat (by omega) (by omega) (info_of_cells h0), hlt, ?_⟩
              have hd : P.cellsOf e = P.cellsOf e / (cod u').size * (cod u').size := (Nat.div_mul_cancel (Nat.dvd_of_mod_eq_zero hce)).symm
              have : k.toNat * P.cellsOf e = k.toNat * (P.cellsOf e / (cod u').size) * (cod u').size := by rw [Nat.mul_assoc, ← hd]
              rw [this, addr_row _ _ _ _ he]
          · exact h.elim
      · split at h
        · rename_i m
          split at h
          · rename_i hc
            rw [T.gives_ret] at h
            subst h
            exact ⟨_, run m rfl hc.1 (info_of_cells hc.2), hlt, by rw [addr_add]⟩
          · exact h.elim
        · exact h.elim
      · split at h
        · rename_i m
          split at h
          · rename_i hc
            rw [T.gives_ret] at h
            subst h
            exact ⟨_, run m rfl hc.1 (info_of_cells hc.2), hlt, by rw [addr_add]⟩
          · exact h.elim
        · exact h.elim
      · rename_i pre u' m l post ty ho
        split at h
        · rename_i hc
          obtain ⟨rfl, rfl, hce⟩ := hc
          rw [T.gives_need, T.gives_ret] at h
          obtain ⟨hb, rfl⟩ := h
          have he : (env hh).esize = (cod u').size := (G.obj hh _ (getObj_obj ho (by simp))).2.1
          refine ⟨_, run k.toNat (by omega) (by omega) (info_of_cells (by have := (cod u').pos; omega)), hlt, ?_⟩
          rw [hce, addr_add]
          unfold HV.addr
          rw [he, Nat.zero_mul, Nat.zero_add, Nat.add_comm pre.length]
        · exact h.elim
      · rename_i ho
        have he : (env hh).esize = 1 := row_esize G (by rw [ho]; rfl)
        split at h
        · rename_i hc
          obtain ⟨rfl, hce⟩ := hc
          rw [T.gives_need, T.gives_ret] at h
          obtain ⟨hb, rfl⟩ := h
          refine ⟨_, run k.toNat (by omega) (by omega) (info_of_cells (by omega)), hlt, ?_⟩
          rw [hce, addr_row _ _ _ _ he]
        · exact h.elim
      · exact h.elim
    · exact h.elim
  · rename_i e kk k ht
    have hk : v = .int kk k := hv
    subst hk
    split at h
    · rename_i hh i n tt hs
      obtain ⟨hlt, A, c, rfl, hnc, hcm, _, hA⟩ := asSlc_rel hs hx
      have fin : ∀ s' : Nat, 0 < s' → (getObj H hh).esz = some s' → (if P.cellsOf e = s' then T.need (0 ≤ k ∧ k < n) (T.ret (SV.c (.ptr hh (i + k.toNat) 0))) else T.fail : T SV).gives r →
          ∃ res, (Instr.indexAt t (.slice A n c) (.int kk k)).run P w = .ok res w ∧ vrel env H.length r res := by
        intro s' hs0 he h
        have he' := row_esize G he
        split at h
        · rename_i hce
          rw [T.gives_need, T.gives_ret] at h
          obtain ⟨hb, rfl⟩ := h
          rw [hA (by omega)]
          have hi := info_of_cells (P := P) (e := e) (by omega)
          refine ⟨.pointer (some (((env hh).addr i 0).add (k.toNat * P.cellsOf e))), ?_, hlt, by rw [hce, addr_row _ _ _ _ he']⟩
          simp [Instr.indexAt, run_underlying ht, asIntOf, hb, cellsOf_size hi]
        · exact h.elim
      have cel : ∀ m : Nat, k = m → m < n → (P.info? e).isSome = true → (Instr.indexAt t (.slice A n c) (.int kk k)).run P w = .ok (.pointer (some (((env hh).addr i 0).add (m * P.cellsOf e)))) w := by
        intro m hm hmn hi
        subst hm
        have hb : (0 : Int) ≤ (m : Int) ∧ (m : Int) < (n : Int) := ⟨by omega, by omega⟩
        rw [hA (by omega)]
        simp [Instr.indexAt, run_underlying ht, asIntOf, hb, cellsOf_size hi]
        intro hnm
        omega
      split at h
      · rename_i u' l ty ho; exact fin _ (cod u').pos (by rw [ho]; rfl) h
      · rename_i u' l ty ho; exact fin _ (cod u').pos (by rw [ho]; rfl) h
      · rename_i u' l ho; exact fin _ (cod u').pos (by rw [ho]; rfl) h
      · rename_i u' LL op ho; exact fin 1 (by omega) (by rw [ho]; rfl) h
      · rename_i u' LL js cs ty tyr ho; exact fin 1 (by omega) (by rw [ho]; rfl) h
      · split at h
        · rename_i m
          split at h
          · rename_i hc
            rw [T.gives_ret] at h
            subst h
            exact ⟨_, cel m rfl hc.1 (info_of_cells hc.2), hlt, by rw [addr_add, Nat.zero_add]⟩
          · exact h.elim
        · exact h.elim
      · split at h
        · rename_i m
          split at h
          · rename_i hc
            rw [T.gives_ret] at h
            subst h
            exact ⟨_, cel m rfl hc.1 (info_of_cells hc.2), hlt, by rw [addr_add, Nat.zero_add]⟩
          · exact h.elim
        · exact h.elim
      · split at h
        · rename_i m
          split at h
          · rename_i hc
            rw [T.gives_ret] at h
            subst h
            exact ⟨_, cel m rfl hc.1 (info_of_cells hc.2), hlt, by rw [addr_add, Nat.zero_add]⟩
          · exact h.elim
        · exact h.elim
      · exact h.elim
    · exact h.elim
  · exact h.elim

theorem bytes_get (s : List UInt8) (k : Nat) (hk : k < s.length) : (⟨s.toArray⟩ : ByteArray)[k]? = some (s.getD k 0) := by
  have h : k < (⟨s.toArray⟩ : ByteArray).size := by rw [bytes_size]; exact hk
  rw [getElem?_pos (⟨s.toArray⟩ : ByteArray) k h]
  congr 1
  show s.toArray[k] = _
  simp [List.getD, List.getElem?_eq_getElem hk]
theorem index_sound (cfg : Cfg cod) {t : TypeId} {x ix r : SV} {u v : Value} (h : (indexS cfg t x ix).gives r) (hx : vrel env N x u) (hv : vrel env N ix v) (w : World) :
    ∃ res, (Instr.index t u v).run cfg.P w = .ok res w ∧ vrel env N r res := by
  unfold indexS at h
  split at h
  · rename_i n e cs kk k ht
    obtain ⟨vs, rfl, hvs⟩ := hx
    have hk : v = .int kk k := hv
    subst hk
    split at h
    · rename_i hue
      have run : ∀ m : Nat, k = m → m < n → ∀ res, (part e vs (m * cfg.P.cellsOf e)).run cfg.P w = .ok res w → (Instr.index t (.agg vs) (.int kk k)).run cfg.P w = .ok res w := by
        intro m hm hmn res hres
        subst hm
        have hc : (0 : Int) ≤ (m : Int) ∧ (m : Int) < (n : Int) := ⟨by omega, by omega⟩
        simp only [Instr.index, asIntOf, Sem.run_bind, Sem.run_pure, Result.andThen_ok, run_underlying ht, hc, and_self, if_true, cellsOf_size (info_of_und hue), Int.toNat_natCast]
        exact hres
      split at h
      · rename_i u' _
        split at h
        · rename_i hce
          split at h
          · rename_i l hl
            rw [T.gives_need] at h
            obtain ⟨hb, h⟩ := h
            obtain ⟨hfl, hll⟩ := decAll_spec hl
            have hall : cs.all Cell.scalar = true := by rw [← hfl]; exact flat_all _ _
            have hvv : vs.toList = vals (cod u') l := by rw [scalars_val hall hvs, ← hfl]; rfl
            have hkl : k.toNat < l.length := by omega
            have hd := vals_drop (cod u') l k.toNat hkl
            have hsz := (cod u').size_eq (l.getD k.toNat (cod u').d)
            unfold partS at h
            split at h
            · rename_i ha
              rw [T.gives_ret] at h
              subst h
              refine ⟨.agg (((cod u').enc (l.getD k.toNat (cod u').d)).map Cell.val).toArray, run k.toNat (by omega) (by omega) _ ?_, ⟨_, rfl, ?_⟩⟩
              · have := run_part e vs.toList (k.toNat * cfg.P.cellsOf e) w hue (fun hh => by rw [ha] at hh; cases hh)
                rw [Array.toArray_toList, hvv, hce, hd] at this
                rw [hce, this]
                simp only [ofCells, ha, if_true]
                congr 3
                rw [List.take_append, List.length_map, hsz, Nat.sub_self, List.take_zero, List.append_nil, List.take_of_length_le (by rw [List.length_map, hsz]; exact Nat.le_refl _)]
              · rw [List.drop_zero, List.take_of_length_le (by rw [hsz, hce]; exact Nat.le_refl _)]
                exact scalars_rel ((cod u').scal _)
            · rename_i ha
              split at h
              · rename_i c hc
                rw [T.gives_ret] at h
                subst h
                refine ⟨c.val, run k.toNat (by omega) (by omega) _ ?_, scalar_rel (List.all_eq_true.1 ((cod u').scal _) c (List.mem_of_getElem? hc))⟩
                unfold part
                simp only [Sem.run_bind, run_isAgg e w hue, Result.andThen_ok, ha, Bool.false_eq_true, if_false]
                have hg : vs[k.toNat * cfg.P.cellsOf e]? = some c.val := by
                  have := vals_get (cod u') l k.toNat 0 hkl (cod u').pos
                  rw [hc, Nat.add_zero, ← hvv, ← hce] at this
                  simpa using this
                rw [hg]
                rfl
              · exact h.elim
          · exact h.elim
        · exact h.elim
      · split at h
        · rename_i m
          split at h
          · rename_i hc
            obtain ⟨res, h1, h2⟩ := part_sound h hvs hue
            have := h1 w
            rw [Array.toArray_toList] at this
            exact ⟨res, run m rfl hc res this, h2⟩
          · exact h.elim
        · exact h.elim
    · exact h.elim
  · rename_i s kk k ht
    have hu : u = .string ⟨s.toArray⟩ := hx
    have hk : v = .int kk k := hv
    subst hu hk
    rw [T.gives_need, T.gives_ret] at h
    obtain ⟨hb, rfl⟩ := h
    have hk : k.toNat < s.length := by omega
    have hg := bytes_get s k.toNat hk
    refine ⟨.int .u8 (s.getD k.toNat 0).toNat, ?_, rfl⟩
    simp [Instr.index, asIntOf, run_underlying ht, hb.1, hg]
  · exact h.elim

theorem bytes_extract (s : List UInt8) (a b : Nat) : (⟨s.toArray⟩ : ByteArray).extract a b = ⟨((s.drop a).take (b - a)).toArray⟩ := by
  apply ByteArray.ext
  simp
theorem run_bound (w : World) (k : IntKind) (i : Int) (y : Nat) (c : BoundsCode) (h : 0 ≤ i ∧ i ≤ y) : (Instr.sliceBound (.int k i) y c).run P w = .ok i.toNat w := by
  simp [Instr.sliceBound, asIntOf, h]
theorem esz_info {H : Heap cod} {hh : Nat} {e : TypeId} (hez : (getObj H hh).esz = some (P.cellsOf e)) : (P.info? e).isSome = true := by
  have : P.cellsOf e ≠ 0 := by
    intro h0
    cases ho : getObj H hh with
    | arr t l ty => rw [ho] at hez; simp only [HObj.esz, Option.some.injEq] at hez; have := (cod t).pos; omega
    | own t l ty => rw [ho] at hez; simp only [HObj.esz, Option.some.injEq] at hez; have := (cod t).pos; omega
    | inp t l => rw [ho] at hez; simp only [HObj.esz, Option.some.injEq] at hez; have := (cod t).pos; omega
    | nin t LL op => rw [ho] at hez; simp only [HObj.esz, Option.some.injEq] at hez; omega
    | nown t LL js cs ty tyr => rw [ho] at hez; simp only [HObj.esz, Option.some.injEq] at hez; omega
    | _ => rw [ho] at hez; cases hez
  exact info_of_cells this
theorem sliceA_sound {H : Heap cod} {w : World} {M : Nat → Prop} {t e : TypeId} {n : Nat} {x r : SV} {lo : Option SV} {u : Value} {lo' hi' mx' : Option Value} (ht : P.underlying t = some (.array n e)) (h : (sliceA P H n e x lo).gives r) (G : Good env H w M)
    (hx : vrel env H.length x u) (hlo : ∀ y, lo = some y → ∃ v, lo' = some v ∧ vrel env H.length y v) (hlo0 : lo = none → lo' = none) (hhi0 : hi' = none) (hmx0 : mx' = none) : ∃ res, (Instr.sliceAt t u lo' hi' mx').run P w = .ok res w ∧ vrel env H.length r res := by
  unfold sliceA at h
  subst hhi0 hmx0
  split at h
  · rename_i hh i
    obtain ⟨hlt, rfl⟩ := hx
    split at h
    · rename_i hc
      obtain ⟨hez, hn⟩ := hc
      have he := row_esize G hez
      have hi := esz_info hez
      split at h
      · rw [T.gives_ret] at h
        subst h
        rw [hlo0 rfl]
        refine ⟨.slice (some (if n = 0 then (env hh).addr i 0 else ((env hh).addr i 0).add (0 * P.cellsOf e))) n n, ?_, hlt, _, _, rfl, Nat.le_refl _, by unfold maxLen; omega, fun _ => rfl, fun hp => ?_⟩
        · simp [Instr.sliceAt, run_underlying ht, Instr.sureAddr, Instr.sliceBounds, cellsOf_size hi]
        · rw [if_neg (by omega)]
          simp [Addr.add]
      · rename_i ka a
        obtain ⟨v, rfl, hv⟩ := hlo _ rfl
        have hva : v = .int ka a := hv
        subst hva
        rw [T.gives_need, T.gives_ret] at h
        obtain ⟨hb, rfl⟩ := h
        have h1 : (0 : Int) ≤ a ∧ a ≤ n := hb
        refine ⟨.slice (some (if n = a.toNat then (env hh).addr i 0 else ((env hh).addr i 0).add (a.toNat * P.cellsOf e))) (n - a.toNat) (n - a.toNat), ?_, hlt, _, _, rfl, Nat.le_refl _, by unfold maxLen; omega, fun _ => rfl, fun hp => ?_⟩
        · simp [Instr.sliceAt, run_underlying ht, Instr.sureAddr, Instr.sliceBounds, run_bound _ _ _ _ _ h1, cellsOf_size hi]
        · rw [if_neg (by omega), addr_row _ _ _ _ he]
      · exact h.elim
    · exact h.elim
  · exact h.elim
theorem slice_sound {H : Heap cod} {w : World} {M : Nat → Prop} {t : TypeId} {x r : SV} {lo hi mx : Option SV} {u : Value} {lo' hi' mx' : Option Value} (h : (sliceS P H t x lo hi mx).gives r) (G : Good env H w M)
    (hx : vrel env H.length x u) (hlo : ∀ y, lo = some y → ∃ v, lo' = some v ∧ vrel env H.length y v) (hlo0 : lo = none → lo' = none) (hhi : ∀ y, hi = some y → ∃ v, hi' = some v ∧ vrel env H.length y v) (hhi0 : hi = none → hi' = none)
    (hmx : ∀ y, mx = some y → ∃ v, mx' = some v ∧ vrel env H.length y v) (hmx0 : mx = none → mx' = none) : ∃ res, (Instr.sliceAt t u lo' hi' mx').run P w = .ok res w ∧ vrel env H.length r res := by
  unfold sliceS at h
  split at h
  · rename_i ht
    split at h
    · exact sliceA_sound ht h G hx hlo hlo0 (hhi0 rfl) (hmx0 rfl)
    · exact h.elim
  · rename_i ht
    split at h
    · rename_i s kb b
      have hu : u = .string ⟨s.toArray⟩ := hx
      obtain ⟨v, rfl, hv⟩ := hhi _ rfl
      have hvb : v = .int kb b := hv
      rw [hlo0 rfl, hmx0 rfl]
      subst hu hvb
      rw [T.gives_need, T.gives_ret] at h
      obtain ⟨hb, rfl⟩ := h
      refine ⟨_, by simp [Instr.sliceAt, run_underlying ht, Instr.slice, Instr.sliceBounds, bytes_size, run_bound, hb]; rfl, ?_⟩
      simp only [bytes_extract, vrel, vrel1, crel, List.drop_zero, Nat.sub_zero]
    · rename_i s ka a
      have hu : u = .string ⟨s.toArray⟩ := hx
      obtain ⟨v, rfl, hv⟩ := hlo _ rfl
      have hva : v = .int ka a := hv
      rw [hhi0 rfl, hmx0 rfl]
      subst hu hva
      rw [T.gives_need, T.gives_ret] at h
      obtain ⟨hb, rfl⟩ := h
      refine ⟨_, by simp [Instr.sliceAt, run_underlying ht, Instr.slice, Instr.sliceBounds, bytes_size, run_bound, hb]; rfl, ?_⟩
      simp only [bytes_extract, vrel, vrel1, crel]
      rw [List.take_of_length_le (by rw [List.length_drop]; exact Nat.le_refl _)]
    · rename_i s ka a kb b
      have hu : u = .string ⟨s.toArray⟩ := hx
      obtain ⟨v, rfl, hv⟩ := hlo _ rfl
      have hva : v = .int ka a := hv
      obtain ⟨v', rfl, hv'⟩ := hhi _ rfl
      have hvb : v' = .int kb b := hv'
      rw [hmx0 rfl]
      subst hu hva hvb
      rw [T.gives_need, T.gives_ret] at h
      obtain ⟨hb, rfl⟩ := h
      have h1 : (0 : Int) ≤ b ∧ b ≤ s.length := ⟨by omega, by omega⟩
      have h2 : (0 : Int) ≤ a ∧ a ≤ (b.toNat : Int) := ⟨by omega, by omega⟩
      refine ⟨.string ((⟨s.toArray⟩ : ByteArray).extract a.toNat b.toNat), ?_, by rw [bytes_extract]; rfl⟩
      simp [Instr.sliceAt, run_underlying ht, Instr.slice, Instr.sliceBounds, bytes_size, run_bound _ _ _ _ _ h1, run_bound _ _ _ _ _ h2]
    · exact h.elim
  · rename_i e ht
    split at h
    · split at h
      · rename_i kb b km m _
        split at h
        · rename_i hi
          have hu : u = .slice none 0 0 := hx
          obtain ⟨v, rfl, hv⟩ := hhi _ rfl
          have hvb : v = .int kb b := hv
          obtain ⟨v', rfl, hv'⟩ := hmx _ rfl
          have hvm : v' = .int km m := hv'
          rw [hlo0 rfl]
          subst hu hvb hvm
          rw [T.gives_need, T.gives_ret] at h
          obtain ⟨⟨rfl, rfl⟩, rfl⟩ := h
          refine ⟨.slice none 0 0, ?_, rfl⟩
          have h1 : (0 : Int) ≤ 0 ∧ (0 : Int) ≤ ((0 : Nat) : Int) := ⟨by omega, by omega⟩
          simp [Instr.sliceAt, run_underlying ht, Instr.slice, Instr.sliceBounds, run_bound _ _ _ _ _ h1, cellsOf_size hi]
        · exact h.elim
      · exact h.elim
    · rename_i hh i n tt hs
      obtain ⟨hlt, A, c, rfl, hnc, hcm, htc, hA⟩ := asSlc_rel hs hx
      split at h
      · rename_i hez
        have he := row_esize G hez
        have hi : (P.info? e).isSome = true := by
          have : P.cellsOf e ≠ 0 := by
            intro h0
            cases ho : getObj H hh with
            | arr t l ty => rw [ho] at hez; simp only [HObj.esz, Option.some.injEq] at hez; have := (cod t).pos; omega
            | own t l ty => rw [ho] at hez; simp only [HObj.esz, Option.some.injEq] at hez; have := (cod t).pos; omega
            | inp t l => rw [ho] at hez; simp only [HObj.esz, Option.some.injEq] at hez; have := (cod t).pos; omega
            | nin t LL op => rw [ho] at hez; simp only [HObj.esz, Option.some.injEq] at hez; omega
            | nown t LL js cs ty tyr => rw [ho] at hez; simp only [HObj.esz, Option.some.injEq] at hez; omega
            | _ => rw [ho] at hez; cases hez
          exact info_of_cells this
        split at h
        · rename_i kb b
          obtain ⟨v, rfl, hv⟩ := hhi _ rfl
          have hvb : v = .int kb b := hv
          rw [hlo0 rfl, hmx0 rfl]
          subst hvb
          rw [T.gives_need, T.gives_ret] at h
          obtain ⟨hb, rfl⟩ := h
          have h1 : (0 : Int) ≤ b ∧ b ≤ c := ⟨by omega, by omega⟩
          refine ⟨.slice (if c = 0 then A else A.map (·.add (0 * P.cellsOf e))) b.toNat c, ?_, hlt, _, c, rfl, by omega, hcm, (fun h => by cases h), fun hp => ?_⟩
          · simp [Instr.sliceAt, run_underlying ht, Instr.slice, Instr.sliceBounds, run_bound _ _ _ _ _ h1, cellsOf_size hi]
          · rw [if_neg (by omega), hA (by omega)]
            simp [Addr.add]
        · rename_i ka a
          obtain ⟨v, rfl, hv⟩ := hlo _ rfl
          have hva : v = .int ka a := hv
          rw [hhi0 rfl, hmx0 rfl]
          subst hva
          rw [T.gives_need, T.gives_ret] at h
          obtain ⟨hb, rfl⟩ := h
          have h1 : (0 : Int) ≤ a ∧ a ≤ n := ⟨by omega, by omega⟩
          refine ⟨.slice (if c = a.toNat then A else A.map (·.add (a.toNat * P.cellsOf e))) (n - a.toNat) (c - a.toNat), ?_, hlt, _, _, rfl, by omega, by omega, fun h => by have := htc h; omega, fun hp => ?_⟩
          · simp [Instr.sliceAt, run_underlying ht, Instr.slice, Instr.sliceBounds, run_bound _ _ _ _ _ h1, cellsOf_size hi]
          · rw [if_neg (by omega), hA (by omega), Option.map_some, addr_row _ _ _ _ he]
        · rename_i ka a kb b
          obtain ⟨v, rfl, hv⟩ := hlo _ rfl
          have hva : v = .int ka a := hv
          obtain ⟨v', rfl, hv'⟩ := hhi _ rfl
          have hvb : v' = .int kb b := hv'
          rw [hmx0 rfl]
          subst hva hvb
          rw [T.gives_need, T.gives_ret] at h
          obtain ⟨hb, rfl⟩ := h
          have h1 : (0 : Int) ≤ b ∧ b ≤ c := ⟨by omega, by omega⟩
          have h2 : (0 : Int) ≤ a ∧ a ≤ (b.toNat : Int) := ⟨by omega, by omega⟩
          refine ⟨.slice (if c = a.toNat then A else A.map (·.add (a.toNat * P.cellsOf e))) (b.toNat - a.toNat) (c - a.toNat), ?_, hlt, _, _, rfl, by omega, by omega, (fun h => by cases h), fun hp => ?_⟩
          · simp [Instr.sliceAt, run_underlying ht, Instr.slice, Instr.sliceBounds, run_bound _ _ _ _ _ h1, run_bound _ _ _ _ _ h2, cellsOf_size hi]
          · rw [if_neg (by omega), hA (by omega), Option.map_some, addr_row _ _ _ _ he]
        · rename_i kb b km m
          obtain ⟨v, rfl, hv⟩ := hhi _ rfl
          have hvb : v = .int kb b := hv
          obtain ⟨v', rfl, hv'⟩ := hmx _ rfl
          have hvm : v' = .int km m := hv'
          rw [hlo0 rfl]
          subst hvb hvm
          rw [T.gives_need, T.gives_ret] at h
          obtain ⟨hb, rfl⟩ := h
          obtain ⟨hb0, hb1, rfl⟩ := hb
          have h1 : (0 : Int) ≤ m ∧ m ≤ c := ⟨by omega, by omega⟩
          have h2 : (0 : Int) ≤ m ∧ m ≤ (m.toNat : Int) := ⟨by omega, by omega⟩
          refine ⟨.slice (if m.toNat = 0 then A else A.map (·.add (0 * P.cellsOf e))) m.toNat m.toNat, ?_, hlt, _, _, rfl, Nat.le_refl _, by omega, fun _ => rfl, fun hp => ?_⟩
          · simp [Instr.sliceAt, run_underlying ht, Instr.slice, Instr.sliceBounds, run_bound _ _ _ _ _ h1, run_bound _ _ _ _ _ h2, cellsOf_size hi]
          · rw [if_neg (by omega), hA (by omega)]
            simp [Addr.add]
        · exact h.elim
      · exact h.elim
  · exact h.elim
end
end Go.Proofs.YtiolfkmkbccndaaGreatDoor.Sym
