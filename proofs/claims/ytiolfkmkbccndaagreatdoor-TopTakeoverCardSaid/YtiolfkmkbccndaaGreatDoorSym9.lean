/- A symbolic run is sound: appends, makes; what an operation leaves. -/
import Derived.Test.YtiolfkmkbccndaaGreatDoorSym8
namespace Go.Proofs.YtiolfkmkbccndaaGreatDoor.Sym
open Go.RowKit

section
variable {cod : Nat → Codec} {P : Program} {env : Env} {N : Nat}

/-! ### references to objects that have turned -/
/-- The environments agree on the objects below N but for those that have turned. -/
def EnvBut (N : Nat) (kill : List Nat) (env env' : Env) : Prop := ∀ h, h < N → h ∉ kill → env' h = env h
theorem EnvBut.none {env env' : Env} (h : EnvBut N [] env env') : EnvEq N env env' := fun k hk => h k hk (by simp)
theorem EnvEq.but {env env' : Env} (h : EnvEq N env env') (k : List Nat) : EnvBut N k env env' := fun i hi _ => h i hi
theorem crel_killed {ks : List Nat} {N' : Nat} {env' : Env} (hN : N ≤ N') (he : EnvBut N ks env env') {c : Cell} {v : Value} (hr : crel env N c v) : crel env' N' (c.killed ks) v := by
  unfold Cell.killed
  split
  · trivial
  · rename_i hc
    have hn : ∀ k ∈ c.hs, k ∉ ks := fun k hk e => hc (List.any_eq_true.2 ⟨k, hk, by simpa using e⟩)
    have he' : ∀ k ∈ c.hs, k < N → env' k = env k := fun k hk hl => he k hl (hn k hk)
    cases c <;> simp only [crel, Cell.hs] at * <;> try exact hr
    case ptr k i o => exact ⟨by omega, by rw [he' k (by simp) hr.1]; exact hr.2⟩
    case slc k i n t =>
      obtain ⟨h1, A, c, h2, h3, h4, h5, h6⟩ := hr
      exact ⟨by omega, A, c, h2, h3, h4, h5, by rw [he' k (by simp) h1]; exact h6⟩
    case own k n =>
      obtain ⟨h1, h2, A, c, h3, h4, h5, h6⟩ := hr
      exact ⟨by omega, by rw [he' k (by simp) h1]; exact h2, A, c, h3, h4, h5, by rw [he' k (by simp) h1]; exact h6⟩
    case fn f caps =>
      obtain ⟨h1, rfl⟩ := hr
      refine ⟨fun c hc => by have := h1 c hc; omega, ?_⟩
      congr 2
      exact List.map_congr_left fun c hc => by rw [he' c.1 (List.mem_map.2 ⟨c, hc, rfl⟩) (h1 c hc)]
theorem crels_map {f : Cell → Cell} {env' : Env} {N' : Nat} (hf : ∀ c v, crel env N c v → crel env' N' (f c) v) {cs : List Cell} {vs : List Value} (h : crels env N cs vs) : crels env' N' (cs.map f) vs := by
  have := f2_map (f := f) (g := id) (S := crel env' N') hf h
  rw [List.map_id] at this
  exact this
theorem vrel1_map {f : Cell → Cell} {env' : Env} {N' : Nat} (hf : ∀ c v, crel env N c v → crel env' N' (f c) v) {x : SV} {v : Value} (h : vrel1 env N x v) : vrel1 env' N' (x.mapC f) v := by
  cases x with
  | c x => exact hf _ _ h
  | agg cs => obtain ⟨vs, h1, h2⟩ := h; exact ⟨vs, h1, crels_map hf h2⟩
  | tup l => exact h.elim
theorem vrel_map {f : Cell → Cell} {env' : Env} {N' : Nat} (hf : ∀ c v, crel env N c v → crel env' N' (f c) v) {x : SV} {v : Value} (h : vrel env N x v) : vrel env' N' (x.mapC f) v := by
  cases x with
  | c x => exact hf _ _ h
  | agg cs => exact vrel1_map (x := .agg cs) hf h
  | tup l =>
    obtain ⟨vs, h1, h2⟩ := h
    refine ⟨vs, h1, ?_⟩
    have : ∀ {l : List SV} {vs : List Value}, F2 (vrel1 env N) l vs → F2 (vrel1 env' N') (l.map fun | .c x => .c (f x) | .agg cs => .agg (cs.map f) | v => v) vs := by
      intro l vs hl
      induction hl with
      | nil => exact .nil
      | @cons a b l m hab _ ih =>
        refine .cons ?_ ih
        cases a with
        | c x => exact hf _ _ hab
        | agg cs => obtain ⟨vs, h1, h2⟩ := hab; exact ⟨vs, h1, crels_map hf h2⟩
        | tup l => exact hab.elim
    exact this h2
theorem objRel_map {f : Cell → Cell} {env' : Env} {N' : Nat} (hf : ∀ c v, crel env N c v → crel env' N' (f c) v) {x : HV} {w : World} {M : Nat → Prop} {o : HObj cod} (h : objRel env N x w M o) : objRel env' N' x w M (o.mapC f) := by
  cases o <;> simp only [objRel, HObj.mapC] at h ⊢ <;> try exact h
  · obtain ⟨h1, h2, vs, h3, h4⟩ := h; exact ⟨h1, h2, vs, h3, crels_map hf h4⟩
  · obtain ⟨h1, h2, vs, h3, h4⟩ := h; exact ⟨h1, h2, vs, h3, crels_map hf h4⟩
  · obtain ⟨h1, h2, vs, h3, h4⟩ := h; exact ⟨h1, h2, vs, h3, crels_map hf h4⟩
  · obtain ⟨h1, vs, h2, h3, h4, h5, h6, h7⟩ := h
    refine ⟨h1, vs, h2, h3, h4, h5, h6, fun p hp => ?_⟩
    obtain ⟨q, hq, rfl⟩ := Option.map_eq_some_iff.1 hp
    obtain ⟨v, hv, hc⟩ := h7 q hq
    exact ⟨v, hv, hf _ _ hc⟩
  · obtain ⟨h1, h2, h3, ⟨vs, h4, h5, h6⟩, h7⟩ := h
    refine ⟨h1, h2, ⟨h3.1, by rw [List.length_map]; exact h3.2⟩, ⟨vs, h4, h5, fun q j c hj hc => ?_⟩, h7⟩
    rw [List.getElem?_map] at hc
    obtain ⟨c0, hc0, rfl⟩ := Option.map_eq_some_iff.1 hc
    obtain ⟨v, hv, hr⟩ := h6 q j c0 hj hc0
    exact ⟨v, hv, hf _ _ hr⟩
theorem has_map (f : Cell → Cell) (o : HObj cod) (x : HV) (b : Nat) : (o.mapC f).has x b ↔ o.has x b := by cases o <;> rfl
theorem wr_map (f : Cell → Cell) (o : HObj cod) : (o.mapC f).wr = o.wr := by cases o <;> rfl
theorem own_map (f : Cell → Cell) (o : HObj cod) : (o.mapC f).isOwn = o.isOwn := by cases o <;> rfl

/-- The call's own row has grown, perhaps in another block: older references to it are struck out. -/
theorem Good.regrow {H : Heap cod} {w w' : World} {M : Nat → Prop} {h : Nat} {u u' : Nat} {l : List (cod u).α} {l' : List (cod u').α} {ty ty' : TypeId} (G : Good env H w M) (ho : H[h]? = some (.own u l ty)) (hs : w.heap.size ≤ w'.heap.size)
    (hk : ∀ k, k < w.heap.size → some k ≠ (env h).val.ownBlock → w'.heap[k]? = w.heap[k]?) (x' : HV) (ho' : objRel (env.set h x') H.length x' w' M (.own u' l' ty')) (hb : x'.val.ownBlock = (env h).val.ownBlock ∨ x'.val.ownBlock = some w.heap.size) :
    Good (env.set h x') ((H.set h (.own u' l' ty')).map (HObj.mapC (Cell.killed [h]))) w' M := by
  have hlt : h < H.length := (List.getElem?_eq_some_iff.1 ho).1
  have hbut : EnvBut H.length [h] env (env.set h x') := fun q _ hne => Env.set_other _ _ (by rintro rfl; exact hne (by simp))
  have cases_ : ∀ k a, ((H.set h (.own u' l' ty')).map (HObj.mapC (Cell.killed [h])))[k]? = some a → (k ≠ h ∧ ∃ b, H[k]? = some b ∧ a = b.mapC (Cell.killed [h])) ∨ (k = h ∧ a = .own u' l' ty') := by
    intro k a ha
    rw [List.getElem?_map] at ha
    by_cases e : k = h
    · subst e
      rw [List.getElem?_set_self hlt] at ha
      simp only [Option.map_some, Option.some.injEq] at ha
      exact .inr ⟨rfl, ha.symm⟩
    · rw [List.getElem?_set_ne (by omega)] at ha
      obtain ⟨b, h1, h2⟩ := Option.map_eq_some_iff.1 ha
      exact .inl ⟨e, b, h1, h2.symm⟩
  refine ⟨fun k a ha => ?_, fun k k' a a' c hne ha ha' hwa hc hc' => ?_, G.tab.keep (fun p _ hl hn => hk _ hl fun e => hn ((G.obj h _ ho).2.2.2.1 _ e.symm)) fun _ _ _ h => h⟩
  · rw [List.length_map, List.length_set]
    rcases cases_ k a ha with ⟨hne, b, h1, rfl⟩ | ⟨rfl, rfl⟩
    · rw [Env.set_other _ _ hne]
      refine objRel_map (fun c v hcv => crel_killed (Nat.le_refl _) hbut hcv) (objRel_keep (G.obj k b h1) hs fun c hc => ?_)
      have hlt := objRel_has_lt (G.obj k b h1) hc
      refine hk c hlt fun e => ?_
      exact G.sep h k _ b c (Ne.symm hne) ho h1 rfl e.symm hc
    · rw [Env.set_same]; exact ho'
  · rcases cases_ k a ha with ⟨h1, b, h2, rfl⟩ | ⟨rfl, rfl⟩ <;> rcases cases_ k' a' ha' with ⟨h1', b', h2', rfl⟩ | ⟨rfl, rfl⟩
    · rw [Env.set_other _ _ h1, has_map] at hc
      rw [Env.set_other _ _ h1', has_map] at hc'
      rw [wr_map] at hwa
      exact G.sep k k' b b' c hne h2 h2' hwa hc hc'
    · rw [Env.set_other _ _ h1, has_map] at hc
      rw [Env.set_same] at hc'
      rw [wr_map] at hwa
      have hlt := objRel_has_lt (G.obj k b h2) hc
      simp only [HObj.has] at hc'
      rcases hb with hb | hb
      · rw [hb] at hc'
        exact G.sep k k' b _ c hne h2 ho hwa hc hc'
      · rw [hb] at hc'
        simp only [Option.some.injEq] at hc'
        omega
    · rw [Env.set_same] at hc
      rw [Env.set_other _ _ h1', has_map] at hc'
      have hlt := objRel_has_lt (G.obj k' b' h2') hc'
      simp only [HObj.has] at hc
      rcases hb with hb | hb
      · rw [hb] at hc
        exact G.sep k k' _ b' c hne ho h2' rfl hc hc'
      · rw [hb] at hc
        simp only [Option.some.injEq] at hc
        omega
    · exact hne rfl

/-! ### append -/
theorem orNone_gives {cfg : Cfg cod} {n : Nat} {a out : Out cod} {t : T (Out cod)} (h : (orNone cfg n a t).gives out) : ((n = 0 ∧ cfg.empB = true) ∧ a = out) ∨ t.gives out := by
  unfold orNone at h
  split at h
  · rename_i hB
    rw [T.gives_ite] at h
    split at h
    · rename_i hc
      exact .inl ⟨⟨of_decide_eq_true hc, hB⟩, h⟩
    · exact .inr h
  · exact .inr h
theorem orNone_none {cfg : Cfg cod} {n : Nat} {a : Out cod} {t : T (Out cod)} (h : cfg.empB = true) (hn : n = 0) : (orNone cfg n a t).gives a := by
  unfold orNone
  rw [if_pos h, T.gives_ite, if_pos (by simp [hn])]
  rfl
theorem orNone_of {cfg : Cfg cod} {n : Nat} {a out : Out cod} {t : T (Out cod)} (h : t.gives out) (hn : 0 < n) : (orNone cfg n a t).gives out := by
  unfold orNone
  split
  · rw [T.gives_ite, if_neg (by simp; omega)]
    exact h
  · exact h
theorem vals_drop' (c : Codec) : ∀ (l : List c.α) (i : Nat), vals c (l.drop i) = (vals c l).drop (i * c.size)
  | l, 0 => by simp
  | [], i + 1 => by simp [vals]
  | a :: l, i + 1 => by
    have hl : ((c.enc a).map Cell.val).length = c.size := by rw [List.length_map, c.size_eq]
    have e : (i + 1) * c.size = c.size + i * c.size := by rw [Nat.add_mul]; omega
    have ih := vals_drop' c l i
    simp only [vals, List.drop_succ_cons, List.flatMap_cons, List.map_append] at ih ⊢
    have t1 : ((c.enc a).map Cell.val).drop (c.size + i * c.size) = [] := List.drop_of_length_le (by omega)
    rw [e, List.drop_append, t1, hl, Nat.add_sub_cancel_left, List.nil_append]
    exact ih
theorem vals_take' (c : Codec) : ∀ (l : List c.α) (i : Nat), vals c (l.take i) = (vals c l).take (i * c.size)
  | l, 0 => by simp [vals]
  | [], i + 1 => by simp [vals]
  | a :: l, i + 1 => by
    have hl : ((c.enc a).map Cell.val).length = c.size := by rw [List.length_map, c.size_eq]
    have e : (i + 1) * c.size = c.size + i * c.size := by rw [Nat.add_mul]; omega
    have ih := vals_take' c l i
    simp only [vals, List.take_succ_cons, List.flatMap_cons, List.map_append] at ih ⊢
    have t1 : ((c.enc a).map Cell.val).take (c.size + i * c.size) = (c.enc a).map Cell.val := List.take_of_length_le (by omega)
    rw [e, List.take_append, t1, hl, Nat.add_sub_cancel_left, ih]
theorem rows_of {u : Nat} {o : HObj cod} {l : List (cod u).α} (h : o.rows cod u = some l) : (∃ ty, o = .arr u l ty) ∨ (∃ ty, o = .own u l ty) ∨ o = .inp u l := by
  cases o <;> simp only [HObj.rows] at h <;> try (cases h; done)
  all_goals
    split at h
    · rename_i e
      subst e
      simp only [Option.some.injEq] at h
      subst h
      first | exact .inl ⟨_, rfl⟩ | exact .inr (.inl ⟨_, rfl⟩) | exact .inr (.inr rfl)
    · cases h
/-- What a slice that shows rows is: its cells are where it says. -/
theorem rows_rel {H : Heap cod} {w : World} {M : Nat → Prop} {u : Nat} {x : SV} {v : Value} {l : List (cod u).α} (h : (rowsOf u H x).gives l) (G : Good env H w M) (hx : vrel env H.length x v) :
    ∃ A m c, v = .slice A m c ∧ l.length = m ∧ m ≤ c ∧ c ≤ maxLen ∧ (0 < m → ∃ a, A = some a ∧ ∀ j q, (vals (cod u) l)[j]? = some q → w.cell? (a.add j) = some q) := by
  unfold rowsOf at h
  split at h
  · rename_i k n
    split at h
    · rename_i u' l0 ty ho
      split at h
      · rename_i e
        subst e
        rw [T.gives_ret] at h
        simp only at h
        subst h
        obtain ⟨hlt, hv, A, c, hs, hnc, hcm, hA⟩ := hx
        have hobj := G.obj k _ (getObj_obj ho (by simp))
        have hn : n = l0.length := by
          obtain ⟨_, _, h3, _⟩ := hobj
          rw [← hv, hs] at h3
          rcases h3.2 with ⟨e, hz⟩ | ⟨g, cap, cur, e, _⟩
          · simp only [Value.slice.injEq] at e; omega
          · simp only [Value.slice.injEq] at e; omega
        subst hn
        refine ⟨A, _, c, hs, rfl, hnc, hcm, fun hp => ⟨_, hA hp, fun j q hq => ?_⟩⟩
        have hrd := row_reads (ty := ty) hobj (.inr (.inl rfl))
        rw [addr_add]
        have := hrd.2 j q hq
        unfold HV.addr
        simpa using this
      · exact h.elim
    · exact h.elim
  · rename_i k i n t
    split at h
    · rename_i l0 hr
      rw [T.gives_need, T.gives_ret] at h
      obtain ⟨hl, rfl⟩ := h
      obtain ⟨hlt, A, c, hs, hnc, hcm, _, hA⟩ := hx
      have hrd : (env k).esize = (cod u).size ∧ reads w (env k) (vals (cod u) l0) := by
        rcases rows_of hr with ⟨ty, ho⟩ | ⟨ty, ho⟩ | ho
        · exact row_reads (ty := ty) (G.obj k _ (getObj_obj ho (by simp))) (.inl rfl)
        · exact row_reads (ty := ty) (G.obj k _ (getObj_obj ho (by simp))) (.inr (.inl rfl))
        · exact row_reads (ty := 0) (G.obj k _ (getObj_obj ho (by simp))) (.inr (.inr rfl))
      refine ⟨A, n, c, hs, hl, hnc, hcm, fun hp => ⟨_, hA hp, fun j q hq => ?_⟩⟩
      rw [vals_take', vals_drop', List.getElem?_take] at hq
      split at hq
      · rw [List.getElem?_drop] at hq
        have := hrd.2 _ q hq
        rw [addr_add]
        unfold HV.addr
        rw [hrd.1, Nat.zero_add]
        exact this
      · cases hq
    · exact h.elim
  · exact h.elim

theorem run_append_of_nil (w : World) (base : Nat) (t ty e : TypeId) (i : TypeInfo) (size : Nat) (ht : P.underlying t = some (.slice e)) (hi : P.info? e = some i)
    (v : Value) (n : Nat) (xs : List Value) (hown : w.ownsRow base e size v n xs) (c : Nat) : (Builtin.append_ #[t, t] ty #[v, .slice none 0 c]).run P w = .ok v w := by
  rcases hown.2 with ⟨rfl, rfl⟩ | ⟨g, cap, cur, rfl, _, _, hnc, _⟩
  · simp [Builtin.append_, run_underlying ht, sizeOf, typeInfo, hi, Builtin.lenOf, Builtin.firstCells]
  · simp [Builtin.append_, run_underlying ht, sizeOf, typeInfo, hi, Builtin.lenOf, Builtin.firstCells, hnc, storeCells]
theorem run_append_empty (w : World) (t ty e : TypeId) (i : TypeInfo) (ht : P.underlying t = some (.slice e)) (hi : P.info? e = some i)
    (A A' : Option Addr) (n c c' : Nat) (hnc : n ≤ c) : (Builtin.append_ #[t, t] ty #[.slice A n c, .slice A' 0 c']).run P w = .ok (.slice A n c) w := by
  cases A <;> cases A' <;> simp [Builtin.append_, run_underlying ht, sizeOf, typeInfo, hi, Builtin.lenOf, Builtin.firstCells, hnc, storeCells, loadCells, loadCellsFrom]
theorem append_any (w : World) (base : Nat) (t ty e : TypeId) (i : TypeInfo) (z : Value) (size bytes : Nat) (ht : P.underlying t = some (.slice e)) (hi : P.info? e = some i) (hz : i.zero = some z)
    (hsize : i.size = size) (hby : i.bytes = bytes) (hzs : z.cells.size = size) (hsz : 0 < size)
    (v : Value) (n : Nat) (xs : List Value) (hown : w.ownsRow base e size v n xs)
    (A : Option Addr) (m c : Nat) (news : List Value) (hl : news.length = m * size) (hA : 0 < m → ∃ a, A = some a ∧ ∀ j q, news[j]? = some q → w.cell? (a.add j) = some q) (h1 : ∀ u ∈ news, u.oneCell' = true)
    (h63 : n + m ≤ maxLen) (hbytes : (n + m) * bytes ≤ 140737488355328) (hbase : base ≤ w.heap.size) :
    ∃ v' w', (Builtin.append_ #[t, t] ty #[v, .slice A m c]).run P w = .ok v' w' ∧ w'.ownsRow base e size v' (n + m) (xs ++ news) ∧ w.grownBy w' v.ownBlock ∧
      (v' = .slice none 0 0 ↔ v = .slice none 0 0 ∧ m = 0) ∧ (v'.ownBlock = v.ownBlock ∨ v'.ownBlock = some w.heap.size) := by
  rcases A with _ | a
  · have hm : m = 0 := by
      rcases Nat.eq_zero_or_pos m with h0 | h0
      · exact h0
      · obtain ⟨a, h, _⟩ := hA h0
        cases h
    subst hm
    have hn : news = [] := List.eq_nil_of_length_eq_zero (by simpa using hl)
    subst hn
    exact ⟨v, w, run_append_of_nil w base t ty e i size ht hi v n xs hown c, by simpa using hown, World.grownBy.refl w _, by simp, .inl rfl⟩
  · refine run_append_own_at w base t ty e i z size bytes ht hi hz hsize hby hzs hsz v n xs hown a m c news hl (fun j q hq => ?_) h1 h63 hbytes hbase
    rcases Nat.eq_zero_or_pos m with h0 | h0
    · subst h0
      have hn : news = [] := List.eq_nil_of_length_eq_zero (by simpa using hl)
      subst hn
      simp at hq
    · obtain ⟨a', h, hc⟩ := hA h0
      injection h with h
      subst h
      exact hc j q hq
end
end Go.Proofs.YtiolfkmkbccndaaGreatDoor.Sym
