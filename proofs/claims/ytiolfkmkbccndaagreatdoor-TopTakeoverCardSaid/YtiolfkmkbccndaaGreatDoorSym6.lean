/- A symbolic run is sound: loads, stores, addresses, slices. -/
import Derived.Test.YtiolfkmkbccndaaGreatDoorBd4
namespace Go.Proofs.YtiolfkmkbccndaaGreatDoor.Sym
open Go.RowKit

section
variable {cod : Nat → Codec} {P : Program} {env : Env}

theorem getObj_some {H : Heap cod} {h : Nat} (hd : getObj H h ≠ .dead) : H[h]? = some (getObj H h) := by
  unfold getObj at *
  rcases Nat.lt_or_ge h H.length with hl | hl
  · simp [List.getD, List.getElem?_eq_getElem hl]
  · simp [List.getD, List.getElem?_eq_none hl] at hd
theorem getObj_obj {H : Heap cod} {h : Nat} {o : HObj cod} (ho : getObj H h = o) (hd : o ≠ .dead) : H[h]? = some o := by
  subst ho; exact getObj_some hd
theorem addr_add (x : HV) (i o j : Nat) : (x.addr i o).add j = x.addr i (o + j) := by
  unfold HV.addr Addr.add
  split
  · rename_i e; subst e; rfl
  · simp [Nat.add_assoc]

/-- What a row's object says of its cells. -/
theorem row_reads {w : World} {M : Nat → Prop} {N : Nat} {x : HV} {o : HObj cod} {t : Nat} {ty : TypeId} {l : List (cod t).α} (ho : objRel env N x w M o) (hr : o = .arr t l ty ∨ o = .own t l ty ∨ o = .inp t l) : x.esize = (cod t).size ∧ reads w x (vals (cod t) l) := by
  rcases hr with rfl | rfl | rfl
  · obtain ⟨h1, h2, h3, h4⟩ := ho
    refine ⟨h2, fun j u hu => ?_⟩
    rw [h1, Nat.zero_add, cell_of_row w x.block j _ _ _ h4]
    simpa using hu
  · obtain ⟨h1, h2, h3, h4, h5⟩ := ho
    refine ⟨h2, fun j u hu => ?_⟩
    rcases h3.2 with ⟨hv, hn⟩ | ⟨g, cap, cur, hv, hb, hg, _⟩
    · have : l = [] := List.eq_nil_of_length_eq_zero hn
      subst this
      simp [vals] at hu
    · have e := h5 _ _ _ hv
      simp only [Addr.mk.injEq, and_true] at e
      have := h3.cells (g := g) (by simp [hv, Value.ownBlock]) j u hu
      rw [h1, Nat.zero_add, ← e]
      have hadd : (⟨g, 0, none⟩ : Addr).add j = ⟨g, j, none⟩ := by unfold Addr.add; split <;> simp_all
      rwa [hadd] at this
  · exact ⟨ho.1, ho.2.1⟩

/-- A block whose middle is a row: what is loaded is a piece of it. -/
theorem sarr_load {N i o n : Nat} {x : HV} {w : World} {pre post : List Cell} {t m : Nat} {l : List (cod t).α} {cs : List Cell} (h1 : x.off = 0) (h2 : x.esize = (cod t).size) (h5 : l.length = m) (h6 : (pre ++ post).all Cell.scalar = true)
    (hr : reads w x (pre.map Cell.val ++ (vals (cod t) l ++ post.map Cell.val)))
    (hg : (if pre.length ≤ o ∧ o + n ≤ pre.length + (cod t).size then T.need (i < m) (.ret ((((cod t).enc (l.getD i (cod t).d)).drop (o - pre.length)).take n))
    else if i = 0 ∧ o + n ≤ pre.length ∧ ((pre.drop o).take n).all Cell.scalar = true then .ret ((pre.drop o).take n)
    else if i = 0 ∧ o = pre.length ∧ n = m * (cod t).size then .ret (l.flatMap (cod t).enc)
    else if i = 0 ∧ pre.length + m * (cod t).size ≤ o ∧ o + n ≤ pre.length + m * (cod t).size + post.length ∧ ((post.drop (o - (pre.length + m * (cod t).size))).take n).all Cell.scalar = true then .ret ((post.drop (o - (pre.length + m * (cod t).size))).take n)
    else .fail : T (List Cell)).gives cs) :
    cs.length = n ∧ ∃ vs : List Value, crels env N cs vs ∧ ∀ j u, vs[j]? = some u → w.cell? ((x.addr i o).add j) = some u := by
  rw [List.all_append, Bool.and_eq_true] at h6
  have hvl := vals_len (cod t) l
  have seg : ∀ (k : Nat), k = i * (cod t).size + o → cs.length = n → cs.all Cell.scalar = true → (∀ j, j < n → (pre.map Cell.val ++ (vals (cod t) l ++ post.map Cell.val))[k + j]? = (cs.map Cell.val)[j]?) →
      cs.length = n ∧ ∃ vs : List Value, crels env N cs vs ∧ ∀ j u, vs[j]? = some u → w.cell? ((x.addr i o).add j) = some u := by
    intro k hk hlen hsc hseg
    refine ⟨hlen, cs.map Cell.val, scalars_rel hsc, fun j u hu => ?_⟩
    have hj : j < n := by
      have := (List.getElem?_eq_some_iff.1 hu).1
      rw [List.length_map] at this
      omega
    have := hr (k + j) u (by rw [hseg j hj, hu])
    have e : x.addr i (o + j) = ⟨x.block, x.off + (k + j), none⟩ := by
      unfold HV.addr
      rw [h2, hk, Nat.add_assoc]
    rw [addr_add, e]
    exact this
  have sub : ∀ {ys : List Cell} (p : Nat), ys.all Cell.scalar = true → ((ys.drop p).take n).all Cell.scalar = true := fun p h => by
    rw [List.all_eq_true] at h ⊢
    exact fun c hc => h c (List.mem_of_mem_drop (List.mem_of_mem_take hc))
  have piece : ∀ (ys : List Cell) (p j : Nat), j < n → (((ys.drop p).take n).map Cell.val)[j]? = (ys.map Cell.val)[p + j]? := fun ys p j hj => by
    rw [List.getElem?_map, List.getElem?_take, if_pos hj, List.getElem?_drop, List.getElem?_map]
  split at hg
  · rename_i hc
    rw [T.gives_need, T.gives_ret] at hg
    obtain ⟨hi, rfl⟩ := hg
    have hil : i * (cod t).size + (cod t).size ≤ l.length * (cod t).size := by
      have : (i + 1) * (cod t).size ≤ l.length * (cod t).size := Nat.mul_le_mul_right _ (by omega)
      rwa [Nat.add_mul, Nat.one_mul] at this
    refine seg _ rfl (by rw [List.length_take, List.length_drop, (cod t).size_eq]; omega) (sub _ ((cod t).scal _)) fun j hj => ?_
    rw [piece _ _ j hj, List.getElem?_append_right (by rw [List.length_map]; omega), List.length_map, List.getElem?_append_left (by omega)]
    rw [show i * (cod t).size + o + j - pre.length = i * (cod t).size + (o - pre.length + j) by omega, vals_get (cod t) l i _ (by omega) (by omega), List.getElem?_map]
  · split at hg
    · rename_i hc
      rw [T.gives_ret] at hg
      subst hg
      obtain ⟨rfl, hc, _⟩ := hc
      refine seg o (by omega) (by rw [List.length_take, List.length_drop]; omega) (sub _ h6.1) fun j hj => ?_
      rw [piece _ _ j hj, List.getElem?_append_left (by rw [List.length_map]; omega)]
    · split at hg
      · rename_i hc
        rw [T.gives_ret] at hg
        subst hg
        obtain ⟨rfl, rfl, rfl⟩ := hc
        refine seg pre.length (by omega) (by rw [flat_len, h5]) (flat_all _ _) fun j hj => ?_
        rw [List.getElem?_append_right (by rw [List.length_map]; omega), List.length_map, Nat.add_sub_cancel_left, List.getElem?_append_left (by rw [hvl, h5]; exact hj)]
        rfl
      · split at hg
        · rename_i hc
          rw [T.gives_ret] at hg
          subst hg
          obtain ⟨rfl, hc1, hc2, _⟩ := hc
          refine seg o (by omega) (by rw [List.length_take, List.length_drop]; omega) (sub _ h6.2) fun j hj => ?_
          rw [piece _ _ j hj, List.getElem?_append_right (by rw [List.length_map]; omega), List.length_map, List.getElem?_append_right (by rw [hvl, h5]; omega), hvl, h5]
          congr 1
          omega
        · exact hg.elim
theorem load_sound {H : Heap cod} {w : World} {M : Nat → Prop} {h i o n : Nat} {cs : List Cell} (hl : (loadS H h i o n).gives cs) (G : Good env H w M) :
    cs.length = n ∧ ∃ vs : List Value, crels env H.length cs vs ∧ ∀ j u, vs[j]? = some u → w.cell? (((env h).addr i o).add j) = some u := by
  have blk : ∀ (c0 : List Cell) (x : HV) (vs : List Value), x = env h → x.off = 0 → reads w x vs → crels env H.length c0 vs → (if i = 0 ∧ o + n ≤ c0.length then T.ret ((c0.drop o).take n) else T.fail : T (List Cell)).gives cs →
      cs.length = n ∧ ∃ vs : List Value, crels env H.length cs vs ∧ ∀ j u, vs[j]? = some u → w.cell? (((env h).addr i o).add j) = some u := by
    intro c0 x vs hx hoff hr hc hg
    split at hg
    · rename_i hcond
      obtain ⟨rfl, hle⟩ := hcond
      rw [T.gives_ret] at hg
      subst hg
      refine ⟨by rw [List.length_take, List.length_drop]; omega, (vs.drop o).take n, crels_drop_take hc o n, fun j u hu => ?_⟩
      rw [List.getElem?_take] at hu
      split at hu
      · rw [List.getElem?_drop] at hu
        rw [addr_add, ← hx]
        have := hr _ u hu
        unfold HV.addr
        rw [Nat.zero_mul, Nat.zero_add]
        exact this
      · cases hu
    · exact hg.elim
  have row : ∀ (t : Nat) (l : List (cod t).α), (env h).esize = (cod t).size → reads w (env h) (vals (cod t) l) →
      (if o + n ≤ (cod t).size then T.need (i < l.length) (T.ret ((((cod t).enc (l.getD i (cod t).d)).drop o).take n)) else if i = 0 ∧ o = 0 then T.need (l.length * (cod t).size = n) (T.ret (l.flatMap (cod t).enc)) else T.fail : T (List Cell)).gives cs →
      cs.length = n ∧ ∃ vs : List Value, crels env H.length cs vs ∧ ∀ j u, vs[j]? = some u → w.cell? (((env h).addr i o).add j) = some u := by
    intro t l he hr hg
    split at hg
    · rename_i hle
      rw [T.gives_need, T.gives_ret] at hg
      obtain ⟨hi, rfl⟩ := hg
      refine ⟨by rw [List.length_take, List.length_drop, (cod t).size_eq]; omega, (((cod t).enc (l.getD i (cod t).d)).map Cell.val |>.drop o).take n, crels_drop_take (scalars_rel ((cod t).scal _)) o n, fun j u hu => ?_⟩
      rw [List.getElem?_take] at hu
      split at hu
      · rename_i hj
        rw [List.getElem?_drop, List.getElem?_map, ← vals_get (cod t) l i (o + j) hi (by omega)] at hu
        rw [addr_add]
        unfold HV.addr
        rw [he]
        exact hr _ u hu
      · cases hu
    · split at hg
      · rename_i hz
        obtain ⟨rfl, rfl⟩ := hz
        rw [T.gives_need, T.gives_ret] at hg
        obtain ⟨hlen, rfl⟩ := hg
        refine ⟨by rw [flat_len, hlen], vals (cod t) l, scalars_rel (flat_all _ _), fun j u hu => ?_⟩
        rw [addr_add]
        unfold HV.addr
        rw [Nat.zero_mul, Nat.zero_add, Nat.zero_add]
        exact hr j u hu
      · exact hg.elim
  unfold loadS at hl
  cases ho : getObj H h with
  | blk c0 ty =>
    rw [ho] at hl
    obtain ⟨h1, h2, vs, h3, h4⟩ := G.obj h _ (getObj_obj ho (by simp))
    exact blk c0 (env h) vs rfl h1 (fun j u hu => by rw [h1, Nat.zero_add, cell_of_row w _ j _ _ _ h3]; simpa using hu) h4 hl
  | rblk c0 =>
    rw [ho] at hl
    obtain ⟨h1, h2, vs, h3, h4⟩ := G.obj h _ (getObj_obj ho (by simp))
    exact blk c0 (env h) vs rfl h1 h3 h4 hl
  | pblk c0 =>
    rw [ho] at hl
    obtain ⟨h1, h2, vs, h3, h4⟩ := G.obj h _ (getObj_obj ho (by simp))
    exact blk c0 (env h) vs rfl h1 h3 h4 hl
  | arr t l ty =>
    rw [ho] at hl
    obtain ⟨h1, h2⟩ := row_reads (ty := ty) (G.obj h _ (getObj_obj ho (by simp))) (.inl rfl)
    exact row t l h1 h2 hl
  | own t l ty =>
    rw [ho] at hl
    obtain ⟨h1, h2⟩ := row_reads (ty := ty) (G.obj h _ (getObj_obj ho (by simp))) (.inr (.inl rfl))
    exact row t l h1 h2 hl
  | inp t l =>
    rw [ho] at hl
    obtain ⟨h1, h2⟩ := row_reads (ty := 0) (G.obj h _ (getObj_obj ho (by simp))) (.inr (.inr rfl))
    exact row t l h1 h2 hl
  | sarr pre t m l post ty =>
    rw [ho] at hl
    obtain ⟨h1, h2, h3, h5, h6, h4⟩ := G.obj h _ (getObj_obj ho (by simp))
    exact sarr_load h1 h2 h5 h6 (fun j u hu => by rw [h1, Nat.zero_add, cell_of_row w _ j _ _ _ h4]; simpa using hu) hl
  | nin t LL op =>
    rw [ho] at hl
    obtain ⟨h1, vs, h2, h3, h4, h5, h6, h7⟩ := G.obj h _ (getObj_obj ho (by simp))
    cases op with
    | none => exact hl.elim
    | some p =>
      obtain ⟨j, c⟩ := p
      simp only at hl
      split at hl
      · rename_i hc
        obtain ⟨rfl, rfl⟩ := hc
        rw [T.gives_need, T.gives_ret] at hl
        obtain ⟨⟨rfl, hj⟩, rfl⟩ := hl
        obtain ⟨v, hv, hcv⟩ := h7 _ rfl
        refine ⟨rfl, [v], .cons hcv .nil, fun q u hu => ?_⟩
        cases q with
        | succ q => simp at hu
        | zero =>
          simp only [List.getElem?_cons_zero, Option.some.injEq] at hu
          subst hu
          rw [addr_add]
          unfold HV.addr
          simp only [h1, Nat.mul_one, Nat.add_zero]
          exact h4 i _ hv
      · exact hl.elim
  | nown t LL js cs0 ty tyr =>
    rw [ho] at hl
    obtain ⟨h1, h2, h3, ⟨vs, h4, h5, h6⟩, h7, h8, h9, h10⟩ := G.obj h _ (getObj_obj ho (by simp))
    simp only at hl
    split at hl
    · rename_i hc
      obtain ⟨rfl, rfl⟩ := hc
      have key : ∀ (js' : List Nat) (cs' : List Cell), (∀ (q j : Nat) (c : Cell), js'[q]? = some j → cs'[q]? = some c → ∃ v, vs[j]? = some v ∧ crel env H.length c v) → (pickO LL.length i js' cs').gives cs → ∃ c v, cs = [c] ∧ i < LL.length ∧ vs[i]? = some v ∧ crel env H.length c v := by
        intro js'
        induction js' with
        | nil => intro cs' _ hp; cases cs' <;> exact hp.elim
        | cons j js' ih =>
          intro cs' hk hp
          cases cs' with
          | nil => cases js' <;> exact hp.elim
          | cons c cs' =>
            have one : j < LL.length → i = j → cs = [c] → ∃ c v, cs = [c] ∧ i < LL.length ∧ vs[i]? = some v ∧ crel env H.length c v := fun hj e hcs => by
              subst e
              obtain ⟨v, hv, hr⟩ := hk 0 i c rfl rfl
              exact ⟨c, v, hcs, hj, hv, hr⟩
            have two : ((T.ite (decide (i = j)) (.need (j < LL.length) (.ret [c])) (pickO LL.length i js' cs') : T (List Cell))).gives cs → ∃ c v, cs = [c] ∧ i < LL.length ∧ vs[i]? = some v ∧ crel env H.length c v := fun hp => by
              by_cases e : i = j
              · obtain ⟨q1, q2⟩ := hp.1 (decide_eq_true e)
                exact one q1 e q2.symm
              · exact ih cs' (fun q j c h1 h2 => hk (q + 1) j c h1 h2) (hp.2 (decide_eq_false e))
            cases js' with
            | nil =>
              cases cs' with
              | nil =>
                obtain ⟨⟨q1, q2⟩, q3⟩ := hp
                exact one q2 q1 q3.symm
              | cons c' cs' => exact two hp
            | cons j' js' => exact two hp
      obtain ⟨c, v, rfl, hil, hv, hr⟩ := key js cs0 h6 hl
      refine ⟨rfl, [v], .cons hr .nil, fun q u hu => ?_⟩
      cases q with
      | succ q => simp at hu
      | zero =>
        simp only [List.getElem?_cons_zero, Option.some.injEq] at hu
        subst hu
        rw [addr_add]
        rcases h4.2 with ⟨hx, hn⟩ | ⟨g, cap, cur, hx, _, hg, _, _, _, htk⟩
        · omega
        · have e := h8 _ _ _ hx
          have hcell := h4.cells (g := g) (by simp [hx, Value.ownBlock]) i v hv
          have hadd : (⟨g, 0, none⟩ : Addr).add i = ⟨g, i, none⟩ := by unfold Addr.add; split <;> simp_all
          rw [hadd] at hcell
          simp only [Addr.mk.injEq, and_true] at e
          unfold HV.addr
          rw [h1, h2, ← e]
          simpa using hcell
    · exact hl.elim
  | dead => rw [ho] at hl; exact hl.elim

/-! ### stores -/
theorem one_rel {N : Nat} {c : Cell} {v : Value} (h : c.one = true) (hr : crel env N c v) : v.oneCell' = true := by
  cases c <;> simp only [crel] at hr <;> try (simp only [Cell.one] at h)
  case int => subst hr; rfl
  case bool => subst hr; rfl
  case str => subst hr; rfl
  case ptr => rw [hr.2]; rfl
  case slc => obtain ⟨_, A, c, rfl, _⟩ := hr; rfl
  case own => obtain ⟨_, _, A, c, rfl, _⟩ := hr; rfl
  case nil => subst hr; rfl
  case fn => rw [hr.2]; rfl
  case raw => subst hr; exact h
  case junk => cases h
theorem ones_rel {N : Nat} : ∀ {cs : List Cell} {vs : List Value}, cs.all Cell.one = true → crels env N cs vs → ∀ v ∈ vs, v.oneCell' = true
  | _, _, _, .nil => by simp
  | _, _, h, .cons x xs => by
    simp only [List.all_cons, Bool.and_eq_true] at h
    intro v hv
    rcases List.mem_cons.1 hv with rfl | hv
    · exact one_rel h.1 x
    · exact ones_rel h.2 xs v hv
theorem splice_rel {N : Nat} {cs xs : List Cell} {vs us : List Value} (o : Nat) (hc : crels env N cs vs) (hx : crels env N xs us) : crels env N (splice cs o xs) (vs.take o ++ (us ++ vs.drop (o + us.length))) := by
  unfold splice
  rw [f2_length hx]
  exact f2_append (f2_take o hc) (f2_append hx (f2_drop _ hc))
theorem splice_length {cs xs : List Cell} {o : Nat} (h : o + xs.length ≤ cs.length) : (splice cs o xs).length = cs.length := by
  unfold splice
  simp only [List.length_append, List.length_take, List.length_drop]
  omega
theorem setRow_kin {w : World} {g : Nat} {M : Nat → Prop} {cs : Array Value} (hg : M g) : Kin M w (w.setRow g cs) :=
  ⟨rfl, rfl, rfl, by simp, fun k _ hk => setRow_other w g k _ (fun e => hk (by subst e; exact hg)), Nat.le_refl _⟩

theorem spl_left {α : Type} {X Y us : List α} {k : Nat} (h : k + us.length ≤ X.length) : (X ++ Y).take k ++ (us ++ (X ++ Y).drop (k + us.length)) = (X.take k ++ (us ++ X.drop (k + us.length))) ++ Y := by
  rw [List.take_append_of_le_length (by omega), List.drop_append_of_le_length h]
  simp
theorem spl_right {α : Type} {X Y us : List α} {k q : Nat} (hq : q = X.length + k) : (X ++ Y).take q ++ (us ++ (X ++ Y).drop (q + us.length)) = X ++ (Y.take k ++ (us ++ Y.drop (k + us.length))) := by
  subst hq
  rw [List.take_length_add_append, Nat.add_assoc, List.drop_length_add_append]
  simp
theorem splice_map {cs xs : List Cell} {o : Nat} : (splice cs o xs).map Cell.val = (cs.map Cell.val).take o ++ (xs.map Cell.val ++ (cs.map Cell.val).drop (o + (xs.map Cell.val).length)) := by
  unfold splice
  simp
theorem splice_scal {cs xs : List Cell} {o : Nat} (h : cs.all Cell.scalar = true) (k : xs.all Cell.scalar = true) : (splice cs o xs).all Cell.scalar = true := by
  unfold splice
  rw [List.all_eq_true] at *
  intro c hc
  rcases List.mem_append.1 hc with hc | hc
  · exact h c (List.mem_of_mem_take hc)
  · rcases List.mem_append.1 hc with hc | hc
    · exact k c hc
    · exact h c (List.mem_of_mem_drop hc)
theorem store_sound {H H' : Heap cod} {w : World} {M : Nat → Prop} {h i o : Nat} {xs : List Cell} {us : List Value} (hs : (storeS H h i o xs).gives H') (hx : crels env H.length xs us) (G : Good env H w M) :
    ∃ w', (storeCells ((env h).addr i o) us).run P w = .ok () w' ∧ Good env H' w' M ∧ Kin M w w' ∧ H'.length = H.length := by
  unfold storeS at hs
  cases ho : getObj H h with
  | blk c0 ty =>
    rw [ho] at hs
    simp only at hs
    split at hs
    · rename_i hc
      obtain ⟨rfl, hle, hone⟩ := hc
      rw [T.gives_ret] at hs
      subst hs
      have hg := getObj_obj ho (by simp)
      obtain ⟨h1, h2, vs, h3, h4⟩ := G.obj h _ hg
      have hlen := f2_length h4
      have hlx := f2_length hx
      have hrun := run_storeCells_at P (env h).block o ty us 0 vs.toArray w h3 (by simp; omega) (ones_rel hone hx)
      simp only [Nat.add_zero] at hrun
      have hadr : (env h).addr 0 o = ⟨(env h).block, o, none⟩ := by simp [HV.addr, h1]
      rw [hadr]
      refine ⟨_, hrun, ?_, setRow_kin h2, by simp⟩
      refine G.write hg rfl (b := (env h).block) rfl (by simp) (fun k hk => setRow_other w _ k _ hk) ⟨h1, h2, _, setRow_heap w _ vs.toArray _ ty _ h3, ?_⟩ (fun _ h => h)
      have := splice_rel o h4 hx
      simpa [List.append_assoc] using this
    · exact hs.elim
  | arr t l ty =>
    rw [ho] at hs
    simp only at hs
    split at hs
    · rename_i hc
      obtain ⟨hle, hok⟩ := hc
      rw [T.gives_need, T.gives_ret] at hs
      obtain ⟨hi, rfl⟩ := hs
      have hg := getObj_obj ho (by simp)
      obtain ⟨h1, h2, h3, h4⟩ := G.obj h _ hg
      have hlx := f2_length hx
      have hsc : (splice ((cod t).enc (l.getD i (cod t).d)) o xs).all Cell.scalar = true := by rw [← (cod t).ok_spec _ hok]; exact (cod t).scal _
      have hxs : xs.all Cell.scalar = true := by
        rw [List.all_eq_true] at hsc ⊢
        intro c hc
        exact hsc c (by unfold splice; simp [hc])
      have hus := scalars_val hxs hx
      have hil : i * (cod t).size + (o + us.length) ≤ (vals (cod t) l).length := by
        rw [vals_len]
        have : (i + 1) * (cod t).size ≤ l.length * (cod t).size := Nat.mul_le_mul_right _ hi
        rw [Nat.add_mul] at this
        omega
      have hone : ∀ v ∈ us, v.oneCell' = true := by
        rw [hus]
        intro v hv
        obtain ⟨c, hc, rfl⟩ := List.mem_map.1 hv
        exact scalar_one (List.all_eq_true.1 hxs c hc)
      have hrun := run_storeCells_at P (env h).block (i * (cod t).size + o) ty us 0 (vals (cod t) l).toArray w h4 (by simp; omega) hone
      simp only [Nat.add_zero] at hrun
      have hadr : (env h).addr i o = ⟨(env h).block, i * (cod t).size + o, none⟩ := by simp [HV.addr, h1, h2]
      rw [hadr]
      refine ⟨_, hrun, ?_, setRow_kin h3, by simp⟩
      refine G.write hg rfl (b := (env h).block) rfl (by simp) (fun k hk => setRow_other w _ k _ hk) ⟨h1, h2, h3, ?_⟩ (fun _ h => h)
      rw [setRow_heap w _ (vals (cod t) l).toArray _ ty _ h4, vals_splice (cod t) l i o xs hi hle hok, hus, List.length_map]
    · exact hs.elim
  | sarr pre t m l post ty =>
    rw [ho] at hs
    have hg := getObj_obj ho (by simp)
    obtain ⟨h1, h2, h3, h5, h6, h4⟩ := G.obj h _ hg
    have hvl := vals_len (cod t) l
    have hlx := f2_length hx
    have fin : ∀ (k : Nat) (pre' : List Cell) (l' : List (cod t).α) (post' : List Cell), xs.all Cell.scalar = true → k = i * (cod t).size + o → k + us.length ≤ pre.length + ((vals (cod t) l).length + post.length) → l'.length = m → (pre' ++ post').all Cell.scalar = true →
        ((pre.map Cell.val ++ (vals (cod t) l ++ post.map Cell.val)).take k ++ (us ++ (pre.map Cell.val ++ (vals (cod t) l ++ post.map Cell.val)).drop (k + us.length)) = pre'.map Cell.val ++ (vals (cod t) l' ++ post'.map Cell.val)) → H' = H.set h (.sarr pre' t m l' post' ty) →
        ∃ w', (storeCells ((env h).addr i o) us).run P w = .ok () w' ∧ Good env H' w' M ∧ Kin M w w' ∧ H'.length = H.length := by
      intro k pre' l' post' hxs hk hle hl' hsc he hH
      subst hH
      have hus := scalars_val hxs hx
      have hone : ∀ v ∈ us, v.oneCell' = true := by
        rw [hus]
        intro v hv
        obtain ⟨c, hc, rfl⟩ := List.mem_map.1 hv
        exact scalar_one (List.all_eq_true.1 hxs c hc)
      have hrun := run_storeCells_at P (env h).block k ty us 0 (pre.map Cell.val ++ (vals (cod t) l ++ post.map Cell.val)).toArray w h4 (by simp; omega) hone
      simp only [Nat.add_zero] at hrun
      have hadr : (env h).addr i o = ⟨(env h).block, k, none⟩ := by
        unfold HV.addr
        rw [h1, h2, hk, Nat.zero_add]
      rw [hadr]
      refine ⟨_, hrun, ?_, setRow_kin h3, by simp⟩
      refine G.write hg rfl (b := (env h).block) rfl (by simp) (fun k hk => setRow_other w _ k _ hk) ⟨h1, h2, h3, hl', hsc, ?_⟩ (fun _ h => h)
      rw [setRow_heap w _ (pre.map Cell.val ++ (vals (cod t) l ++ post.map Cell.val)).toArray _ ty _ h4, ← he]
      simp
    have h6' := h6
    rw [List.all_append, Bool.and_eq_true] at h6'
    simp only at hs
    split at hs
    · rename_i hc
      obtain ⟨hc1, hc2, hok⟩ := hc
      rw [T.gives_need, T.gives_ret] at hs
      obtain ⟨hi, hs⟩ := hs
      have hsc : (splice ((cod t).enc (l.getD i (cod t).d)) (o - pre.length) xs).all Cell.scalar = true := by rw [← (cod t).ok_spec _ hok]; exact (cod t).scal _
      have hxs : xs.all Cell.scalar = true := by
        rw [List.all_eq_true] at hsc ⊢
        intro c hc
        exact hsc c (by unfold splice; simp [hc])
      have hus := scalars_val hxs hx
      have hil : i * (cod t).size + (cod t).size ≤ (vals (cod t) l).length := by
        have : (i + 1) * (cod t).size ≤ l.length * (cod t).size := Nat.mul_le_mul_right _ (by omega)
        rw [Nat.add_mul, Nat.one_mul] at this
        omega
      refine fin (i * (cod t).size + o) pre _ post hxs rfl (by omega) (by rw [List.length_set]; exact h5) h6 ?_ hs.symm
      rw [vals_splice (cod t) l i (o - pre.length) xs (by omega) (by omega) hok]
      rw [spl_right (k := i * (cod t).size + (o - pre.length)) (by rw [List.length_map]; omega), spl_left (by omega), hus]
      simp
    · split at hs
      · rename_i hc
        obtain ⟨rfl, hc, hxs⟩ := hc
        rw [T.gives_ret] at hs
        have hus := scalars_val hxs hx
        refine fin o (splice pre o xs) l post hxs (by omega) (by omega) h5 (by rw [List.all_append, splice_scal h6'.1 hxs, h6'.2]; rfl) ?_ hs.symm
        rw [spl_left (by rw [List.length_map]; omega), splice_map, hus]
      · split at hs
        · rename_i hc
          obtain ⟨rfl, hc1, hc2, hxs⟩ := hc
          rw [T.gives_ret] at hs
          have hus := scalars_val hxs hx
          refine fin o pre l (splice post (o - (pre.length + m * (cod t).size)) xs) hxs (by omega) (by rw [hvl, h5]; omega) h5 (by rw [List.all_append, splice_scal h6'.2 hxs, h6'.1]; rfl) ?_ hs.symm
          rw [spl_right (k := o - pre.length) (by rw [List.length_map]; omega), spl_right (k := o - (pre.length + m * (cod t).size)) (by rw [hvl, h5]; omega), splice_map, hus]
        · exact hs.elim
  | own t l ty =>
    rw [ho] at hs
    simp only at hs
    split at hs
    · rename_i hc
      obtain ⟨hle, hok⟩ := hc
      rw [T.gives_need, T.gives_ret] at hs
      obtain ⟨hi, rfl⟩ := hs
      have hg := getObj_obj ho (by simp)
      obtain ⟨h1, h2, h3, h4, h5⟩ := G.obj h _ hg
      have hsc : (splice ((cod t).enc (l.getD i (cod t).d)) o xs).all Cell.scalar = true := by rw [← (cod t).ok_spec _ hok]; exact (cod t).scal _
      have hxs : xs.all Cell.scalar = true := by
        rw [List.all_eq_true] at hsc ⊢
        intro c hc
        exact hsc c (by unfold splice; simp [hc])
      have hus := scalars_val hxs hx
      have hone : ∀ v ∈ us, v.oneCell' = true := by
        rw [hus]
        intro v hv
        obtain ⟨c, hc, rfl⟩ := List.mem_map.1 hv
        exact scalar_one (List.all_eq_true.1 hxs c hc)
      have hul : us.length = xs.length := by rw [hus, List.length_map]
      rcases h3.2 with ⟨hv, hn⟩ | ⟨g, cap, cur, hv, hb, hgg, hnc, hcm, hcs, htk⟩
      · omega
      · have e := h5 _ _ _ hv
        simp only [Addr.mk.injEq, and_true] at e
        subst e
        have hmb : M (env h).block := h4 _ (by simp [hv, Value.ownBlock])
        have hil : (i + 1) * (cod t).size ≤ l.length * (cod t).size := Nat.mul_le_mul_right _ hi
        have hic : l.length * (cod t).size ≤ cap * (cod t).size := Nat.mul_le_mul_right _ hnc
        rw [Nat.add_mul] at hil
        have hvl := vals_len (cod t) l
        have hrun := run_storeCells_at P (env h).block (i * (cod t).size + o) ty us 0 cur w hgg (by simp; omega) hone
        simp only [Nat.add_zero] at hrun
        have hadr : (env h).addr i o = ⟨(env h).block, i * (cod t).size + o, none⟩ := by simp [HV.addr, h1, h2]
        rw [hadr]
        refine ⟨_, hrun, ?_, setRow_kin hmb, by simp⟩
        refine G.write hg rfl (b := (env h).block) (by simp [HObj.has, hv, Value.ownBlock]) (by simp) (fun k hk => setRow_other w _ k _ hk) ⟨h1, h2, ?_, h4, h5⟩ (fun _ h => h)
        refine ⟨by rw [vals_len, List.length_set], .inr ⟨(env h).block, cap, _, by rw [List.length_set]; exact hv, hb, setRow_heap w _ cur _ ty _ hgg, by rw [List.length_set]; exact hnc, hcm, ?_, ?_⟩⟩
        · simp only [List.size_toArray, List.length_append, List.length_take, List.length_drop, Array.length_toList]
          omega
        · rw [vals_splice (cod t) l i o xs hi hle hok, List.length_set, ← htk, hus, List.length_map]
          have e1 : (cur.toList.take (l.length * (cod t).size)).take (i * (cod t).size + o) = cur.toList.take (i * (cod t).size + o) := by rw [List.take_take]; congr 1; omega
          rw [e1]
          have hA : (cur.toList.take (i * (cod t).size + o)).length = i * (cod t).size + o := by rw [List.length_take, Array.length_toList]; omega
          have hX : (xs.map Cell.val).length = xs.length := List.length_map ..
          have t1 : (cur.toList.take (i * (cod t).size + o)).take (l.length * (cod t).size) = cur.toList.take (i * (cod t).size + o) := List.take_of_length_le (by omega)
          have t2 : (xs.map Cell.val).take (l.length * (cod t).size - (i * (cod t).size + o)) = xs.map Cell.val := List.take_of_length_le (by omega)
          simp only [List.append_assoc]
          rw [List.take_append, hA, t1, List.take_append, hX, t2, List.drop_take, Nat.sub_sub]
    · exact hs.elim
  | rblk c0 => rw [ho] at hs; exact hs.elim
  | pblk c0 => rw [ho] at hs; exact hs.elim
  | inp t l => rw [ho] at hs; exact hs.elim
  | nin t LL op => rw [ho] at hs; exact hs.elim
  | nown t LL js cs ty tyr => rw [ho] at hs; exact hs.elim
  | dead => rw [ho] at hs; exact hs.elim
end
end Go.Proofs.YtiolfkmkbccndaaGreatDoor.Sym
