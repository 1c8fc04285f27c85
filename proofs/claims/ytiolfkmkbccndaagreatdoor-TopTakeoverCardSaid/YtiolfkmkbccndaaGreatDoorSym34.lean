/- An element taken out of a row that the call owns, an element put into it: summaries out of contracts on the world. -/
import Derived.Test.YtiolfkmkbccndaaGreatDoorBd22
import Derived.Test.YtiolfkmkbccndaaGreatDoorBd29
import Derived.Deep.Draws
namespace Go.Proofs.YtiolfkmkbccndaaGreatDoor.Sym
open Go.RowKit RowW

section
variable {cod : Nat → Codec} {P : Program}
theorem vals_takeK (c : Codec) (l : List c.α) (i : Nat) : (vals c l).take (i * c.size) = vals c (l.take i) := by
  rcases Nat.lt_or_ge l.length i with h | h
  · have e1 : (vals c l).take (i * c.size) = vals c l := List.take_of_length_le (by rw [vals_len]; exact Nat.mul_le_mul_right _ (by omega))
    have e2 : l.take i = l := List.take_of_length_le (by omega)
    rw [e1, e2]
  · have e : vals c l = vals c (l.take i) ++ vals c (l.drop i) := by rw [← vals_append, List.take_append_drop]
    have hl : (vals c (l.take i)).length = i * c.size := by rw [vals_len, List.length_take, Nat.min_eq_left h]
    rw [e, List.take_append_of_le_length (by omega), List.take_of_length_le (by omega)]
theorem vals_dropK (c : Codec) (l : List c.α) (i : Nat) : (vals c l).drop (i * c.size) = vals c (l.drop i) := by
  rcases Nat.lt_or_ge l.length i with h | h
  · have e1 : (vals c l).drop (i * c.size) = [] := List.drop_of_length_le (by rw [vals_len]; exact Nat.mul_le_mul_right _ (by omega))
    have e2 : l.drop i = [] := List.drop_of_length_le (by omega)
    rw [e1, e2]; rfl
  · have e : vals c l = vals c (l.take i) ++ vals c (l.drop i) := by rw [← vals_append, List.take_append_drop]
    have hl : (vals c (l.take i)).length = i * c.size := by rw [vals_len, List.length_take, Nat.min_eq_left h]
    rw [e, List.drop_append_of_le_length (by omega), List.drop_of_length_le (by omega), List.nil_append]
/-- What is asked of the function that takes one element out. -/
structure Dels (P : Program) (cod : Nat → Codec) (g : FuncId) (u : Nat) (ty : TypeId) (zs : List Value) : Prop where
  enters : ∀ args w, (callFunc g args).run P w = .ok (.enter g args) w
  zlen : zs.length = (cod u).size
  calls : ∀ (b n cap i : Nat) (cur : Array Value) (w : World), w.heap[b]? = some (.cells cur ty (0, 0)) → cur.size = cap * (cod u).size → n ≤ cap → cap ≤ 9223372036854775807 → i < n → (∀ v ∈ cur.toList.take (n * (cod u).size), v.oneCell' = true) →
    Calls P g #[.slice (some ⟨b, 0, none⟩) n cap, .int .i64 i, .int .i64 ((i : Int) + 1)] w fun e w' => e = .returned (.slice (some ⟨b, 0, none⟩) (n - 1) cap) ∧
      ∃ q, w' = ((w.drewN q).setCells b (i * (cod u).size) ((cur.toList.take (n * (cod u).size)).drop ((i + 1) * (cod u).size))).setCells b ((n - 1) * (cod u).size) zs
noncomputable def s_del (u : Nat) (tE : TypeId) : Summ cod := fun args H => match args, H with
  | [.c (.own 0 _), .c (.int .i64 i), .c (.int .i64 j)], [.own v l ty] => if h : v = u then (if ty = tE then .need (0 ≤ i ∧ i < l.length ∧ j = i + 1) (.ret (.c (.own 0 (l.length - 1)), [.own u ((h ▸ l).eraseIdx i.toNat) ty])) else .fail) else .fail
  | _, _ => .fail
theorem del_sound {g : FuncId} {u : Nat} {tE : TypeId} {zs : List Value} (hd : Dels P cod g u tE zs) : SoundI P cod g (s_del u tE) := by
  refine ⟨hd.enters, fun args H env w vs r H' G ha hg => ?_⟩
  have one : ∀ {o : HObj cod} {i : Nat} {o' : HObj cod}, [o][i]? = some o' → i = 0 ∧ o' = o := by
    intro o i o' hi
    cases i with
    | zero => simp at hi; exact ⟨rfl, hi.symm⟩
    | succ i => simp at hi
  unfold s_del at hg
  split at hg
  · rename_i n i j v l ty
    split at hg
    · rename_i hv
      subst hv
      split at hg
      · rename_i hty
        subst hty
        rw [T.gives_need, T.gives_ret] at hg
        obtain ⟨⟨hi0, hil, rfl⟩, hg⟩ := hg
        simp only [Prod.mk.injEq] at hg
        obtain ⟨rfl, rfl⟩ := hg
        cases ha with
        | @cons _ v0 _ vs hx hxs =>
        cases hxs with
        | @cons _ v1 _ vs hy hys =>
        cases hys with
        | @cons _ v2 _ vs hz hzs =>
        cases hzs
        have hy' : v1 = .int .i64 i := hy
        have hz' : v2 = .int .i64 (i + 1) := hz
        subst hy'
        subst hz'
        obtain ⟨k, rfl⟩ : ∃ k : Nat, i = k := ⟨i.toNat, by omega⟩
        obtain ⟨_, hval, A, c, hA, _⟩ := hx
        obtain ⟨o1, o2, o3, o4, o5⟩ := G.obj 0 (.own v l ty) (by simp)
        rcases o3.2 with ⟨e, hz⟩ | ⟨b, cap, cur, e, hb0, hb, hnc, hcm, hcs, htk⟩
        · omega
        · have hM : mineOf [HObj.own v l ty] env w b := .inr ⟨0, _, rfl, rfl, by simp [HObj.has, e, Value.ownBlock]⟩
          have hbl : (env 0).block = b := by
            have := o5 _ _ _ e
            simpa using this.symm
          rw [hval, e]
          refine (hd.calls b l.length cap k cur w hb hcs hnc (by unfold maxLen at hcm; omega) (by omega) (by rw [htk]; exact vals_one _ _)).mono ?_
          rintro _ w' ⟨rfl, q, rfl⟩
          rw [htk]
          have hl1 : (k : Int).toNat = k := rfl
          have el : ((l : List (cod v).α).eraseIdx k) = l.take k ++ l.drop (k + 1) := List.eraseIdx_eq_take_drop_succ ..
          have hlen : (l.take k ++ l.drop (k + 1)).length = l.length - 1 := by rw [List.length_append, List.length_take, List.length_drop]; omega
          have hkl : k * (cod v).size ≤ l.length * (cod v).size := Nat.mul_le_mul_right _ (by omega)
          have hk1 : (k + 1) * (cod v).size ≤ l.length * (cod v).size := Nat.mul_le_mul_right _ (by omega)
          have hcc : l.length * (cod v).size ≤ cap * (cod v).size := Nat.mul_le_mul_right _ hnc
          have hm1 : (l.length - 1) * (cod v).size + (cod v).size ≤ cap * (cod v).size := by
            have := Nat.mul_le_mul_right (cod v).size (show l.length - 1 + 1 ≤ cap by omega)
            rwa [Nat.add_mul, Nat.one_mul] at this
          have hk2 : (k + 1) * (cod v).size = k * (cod v).size + (cod v).size := by rw [Nat.add_mul, Nat.one_mul]
          have hl2 : l.length * (cod v).size = (l.length - 1) * (cod v).size + (cod v).size := by
            rw [← Nat.succ_mul]; congr 1; omega
          have hdr : ((vals (cod v) l).drop ((k + 1) * (cod v).size)).length = l.length * (cod v).size - (k + 1) * (cod v).size := by rw [List.length_drop, vals_len]
          have hqd : (w.drewN q).heap[b]? = some (.cells cur ty (0, 0)) := hb
          have H1 := heap_setCells ((vals (cod v) l).drop ((k + 1) * (cod v).size)) (k * (cod v).size) (w.drewN q) cur hqd
          have H2 := heap_setCells zs ((l.length - 1) * (cod v).size) _ _ H1
          have S1 := setCells_same b ((vals (cod v) l).drop ((k + 1) * (cod v).size)) (k * (cod v).size) (w.drewN q)
          have S2 := setCells_same b zs ((l.length - 1) * (cod v).size) ((w.drewN q).setCells b (k * (cod v).size) ((vals (cod v) l).drop ((k + 1) * (cod v).size)))
          refine ⟨_, env.set 0 ⟨b, 0, (cod v).size, .slice (some ⟨b, 0, none⟩) (l.length - 1) cap, []⟩, rfl, fun i hi hk => ?_, ?_, fun i o ho _ => ?_, fun i j o o' b' hne ho ho' => ?_, ⟨S2.1.trans S1.1, S2.2.1.trans S1.2.1, S2.2.2.1.trans S1.2.2.1, ?_, fun x hx hxm => ?_, ?_⟩⟩
          · rcases hk with h | h
            · cases h
            · have : i = 0 := by simpa using hi
              subst this
              cases h
          · refine ⟨by simp, by rw [Env.set_same], some ⟨b, 0, none⟩, cap, rfl, by omega, hcm, fun _ => by rw [Env.set_same]; simp [HV.addr]⟩
          · obtain ⟨rfl, rfl⟩ := one ho
            rw [Env.set_same]
            refine ⟨rfl, rfl, ⟨by rw [vals_len], .inr ⟨b, cap, _, ?_, hb0, H2, ?_, hcm, by rw [ovl_size, ovl_size, hcs], ?_⟩⟩, fun q' hq' => ?_, fun A n c h => ?_⟩
            · rw [hl1, el, hlen]
            · rw [hl1, el, hlen]; omega
            · rw [hl1, el, hlen, vals_append, ← vals_takeK, ← vals_dropK]
              have hz := hd.zlen
              have hcl : cur.toList.length = cap * (cod v).size := by rw [Array.length_toList, hcs]
              rw [ovl_list _ _ _ (by rw [ovl_size, hcs, hz]; omega), ovl_list _ _ _ (by rw [hcs, hdr]; omega)]
              have ht : cur.toList.take (k * (cod v).size) = (vals (cod v) l).take (k * (cod v).size) := by
                rw [← htk, List.take_take, Nat.min_eq_left hkl]
              rw [ht]
              have l1 : ((vals (cod v) l).take (k * (cod v).size)).length = k * (cod v).size := by rw [List.length_take, vals_len]; omega
              rw [List.take_append_of_le_length (by simp only [List.length_take, List.length_append, l1, hdr, List.length_drop, hcl]; omega), List.take_take, Nat.min_self, ← List.append_assoc, List.take_append_of_le_length (by rw [List.length_append, l1, hdr]; omega), List.take_of_length_le (by rw [List.length_append, l1, hdr]; omega)]
            · simp only [Value.ownBlock, Option.some.injEq] at hq'
              subst hq'
              exact hM
            · simp only [Value.slice.injEq, Option.some.injEq] at h
              exact h.1.symm
          · exact absurd ((one ho).1.trans (one ho').1.symm) hne
          · rw [S2.2.2.2.1, S1.2.2.2.1]; exact Nat.le_refl _
          · have hxb : x ≠ b := fun e => hxm (by rw [e]; exact hM)
            rw [heap_setCells_ne hxb, heap_setCells_ne hxb]
            rfl
          · exact dl_mono (by rw [S2.2.2.2.2, S1.2.2.2.2]; exact Nat.le_add_right _ _)
      · exact hg.elim
    · exact hg.elim
  · exact hg.elim
/-- What is asked of the function that puts one element in. -/
structure Inss (P : Program) (cod : Nat → Codec) (g : FuncId) (u : Nat) (ty : TypeId) : Prop where
  enters : ∀ args w, (callFunc g args).run P w = .ok (.enter g args) w
  calls : ∀ (v : Value) (n i vb vc : Nat) (xs vs : List Value) (tv : TypeId) (w : World), w.ownsRow 0 ty (cod u).size v n xs → (∀ u ∈ xs, u.oneCell' = true) → n + 1 ≤ 1000000 → i ≤ n → w.heap[vb]? = some (.cells vs.toArray tv (0, 0)) → vs.length = (cod u).size → (∀ v ∈ vs, v.oneCell' = true) → v.ownBlock ≠ some vb →
    Calls P g #[v, .int .i64 i, .slice (some ⟨vb, 0, none⟩) 1 vc] w fun e w' => ∃ v', e = .returned v' ∧ w'.ownsRow 0 ty (cod u).size v' (n + 1) (xs.take (i * (cod u).size) ++ (vs ++ xs.drop (i * (cod u).size))) ∧ w.grownBy w' v.ownBlock ∧ w.drawn ≤ w'.drawn ∧ (v'.ownBlock = v.ownBlock ∨ v'.ownBlock = some w.heap.size)
  empty : ∀ (A : Option Addr) (vb vc : Nat) (vs : List Value) (tv : TypeId) (w : World), w.heap[vb]? = some (.cells vs.toArray tv (0, 0)) → vs.length = (cod u).size → (∀ v ∈ vs, v.oneCell' = true) →
    Calls P g #[.slice A 0 0, .int .i64 0, .slice (some ⟨vb, 0, none⟩) 1 vc] w fun e w' => ∃ v', e = .returned v' ∧ w'.ownsRow 0 ty (cod u).size v' 1 vs ∧ w.grownBy w' none ∧ w.drawn ≤ w'.drawn ∧ v'.ownBlock = some w.heap.size
noncomputable def s_ins (u : Nat) (tE : TypeId) : Summ cod := fun args H => match args, H with
  | [.c (.own 0 _), .c (.int .i64 i), .c (.slc 1 0 1 _)], [.own v l ty, .arr v' xs ty'] => if h : v = u then (if h' : v' = u then (if ty = tE then .need (0 ≤ i ∧ i ≤ l.length ∧ l.length + 1 ≤ 1000000 ∧ xs.length = 1)
      (.ret (.c (.own 0 (l.length + 1)), [.own u ((h ▸ l).take i.toNat ++ (h' ▸ xs) ++ (h ▸ l).drop i.toNat) ty, .arr v' xs ty'])) else .fail) else .fail) else .fail
  | [.c (.slc 0 _ n true), .c (.int .i64 i), .c (.slc 1 0 1 _)], [o, .arr v' xs ty'] => if h' : v' = u then (if o.wr = false then .need (n = 0 ∧ i = 0 ∧ xs.length = 1)
      (.ret (.c (.own 2 1), [o, .arr v' xs ty', .own u (h' ▸ xs) tE])) else .fail) else .fail
  | _, _ => .fail
theorem ins_sound {g : FuncId} {u : Nat} {tE : TypeId} (hd : Inss P cod g u tE) : SoundI P cod g (s_ins u tE) := by
  refine ⟨hd.enters, fun args H env w vs r H' G ha hg => ?_⟩
  unfold s_ins at hg
  split at hg
  · rename_i n i t1 v l ty v' xs ty'
    split at hg
    · rename_i hv
      subst hv
      split at hg
      · rename_i hv'
        subst hv'
        split at hg
        · rename_i hty
          subst hty
          rw [T.gives_need, T.gives_ret] at hg
          obtain ⟨⟨hi0, hil, hn, hxs1⟩, hg⟩ := hg
          simp only [Prod.mk.injEq] at hg
          obtain ⟨rfl, rfl⟩ := hg
          cases ha with
          | @cons _ v0 _ vs hx hxs =>
          cases hxs with
          | @cons _ v1 _ vs hy hys =>
          cases hys with
          | @cons _ v2 _ vs hz hzs =>
          cases hzs
          have hy' : v1 = .int .i64 i := hy
          subst hy'
          obtain ⟨k, rfl⟩ : ∃ k : Nat, i = k := ⟨i.toNat, by omega⟩
          obtain ⟨_, hval, A, c, hA, _⟩ := hx
          obtain ⟨o1, o2, o3, o4, o5⟩ := G.obj 0 (.own v' l ty) (by simp)
          obtain ⟨p1, p2, p3, p4⟩ := G.obj 1 (.arr v' xs ty') (by simp)
          obtain ⟨_, B, vc, rfl, q1, q2, q3, q4⟩ := hz
          have q5 := q4 (by decide)
          have hB : B = some ⟨(env 1).block, 0, none⟩ := by rw [q5]; simp [HV.addr, p1]
          subst hB
          have hsep : (env 0).val.ownBlock ≠ some (env 1).block := fun e => G.sep 0 1 (.own v' l ty) (.arr v' xs ty') (env 1).block (by decide) rfl rfl rfl e rfl
          have hk : (k : Int).toNat = k := rfl
          have hsz : (vals (cod v') xs).length = (cod v').size := by rw [vals_len, hxs1, Nat.one_mul]
          have hM0 : ∀ b, (env 0).val.ownBlock = some b → mineOf [HObj.own v' l ty, HObj.arr v' xs ty'] env w b := fun b hb => .inr ⟨0, _, rfl, rfl, hb⟩
          have hMn : ∀ b, w.heap.size ≤ b → mineOf [HObj.own v' l ty, HObj.arr v' xs ty'] env w b := fun b hb => .inl hb
          have hM1 : mineOf [HObj.own v' l ty, HObj.arr v' xs ty'] env w (env 1).block := .inr ⟨1, _, rfl, rfl, rfl⟩
          have hb1 : (env 1).block < w.heap.size := (Array.getElem?_eq_some_iff.1 p4).1
          rw [hval]
          refine (hd.calls (env 0).val l.length k (env 1).block vc (vals (cod v') l) (vals (cod v') xs) ty' w o3 (vals_one _ _) hn (by omega) p4 hsz (vals_one _ _) hsep).mono ?_
          rintro _ w' ⟨V, rfl, g1, g2, g3, g4⟩
          have hval' : (vals (cod v') l).take (k * (cod v').size) ++ (vals (cod v') xs ++ (vals (cod v') l).drop (k * (cod v').size)) = vals (cod v') (l.take k ++ xs ++ l.drop k) := by
            rw [vals_takeK, vals_dropK, vals_append, vals_append, List.append_assoc]
          rw [hval'] at g1
          have hlen : (l.take k ++ xs ++ l.drop k).length = l.length + 1 := by rw [List.length_append, List.length_append, List.length_take, List.length_drop, hxs1]; omega
          have hVb : ∀ b, V.ownBlock = some b → mineOf [HObj.own v' l ty, HObj.arr v' xs ty'] env w b ∧ b ≠ (env 1).block := fun b hb => by
            rcases g4 with g4 | g4
            · rw [g4] at hb
              exact ⟨hM0 b hb, fun e => hsep (by rw [hb, e])⟩
            · rw [g4] at hb
              simp only [Option.some.injEq] at hb
              exact ⟨hMn b (by omega), by omega⟩
          have cases_ : ∀ (i : Nat) (o : HObj cod), [HObj.own v' (l.take (k : Int).toNat ++ xs ++ l.drop (k : Int).toNat) ty, HObj.arr v' xs ty'][i]? = some o → (i = 0 ∧ o = .own v' (l.take k ++ xs ++ l.drop k) ty) ∨ (i = 1 ∧ o = .arr v' xs ty') := fun i o ho => by
            match i, ho with
            | 0, ho => exact .inl ⟨rfl, (Option.some.inj ho).symm⟩
            | 1, ho => exact .inr ⟨rfl, (Option.some.inj ho).symm⟩
            | i + 2, ho => simp at ho
          refine ⟨V, env.set 0 ⟨V.ownBlock.getD 0, 0, (cod v').size, V, []⟩, rfl, fun i hi hk => ?_, ?_, fun i o ho _ => ?_, fun i j o o' b' hne ho ho' _ _ hw hb hb' => ?_, ⟨g2.os, g2.tape, g2.output, g2.size, fun x hx hxm => g2.block x hx fun e => hxm (hM0 x e.symm), dl_mono g3⟩⟩
          · rcases hk with h | h
            · cases h
            · match i, hi, h with
              | 0, _, h => cases h
              | 1, _, _ => rw [Env.set_other _ _ (by decide)]
              | i + 2, hi, _ => exact absurd hi (by simp)
          · rcases g1.2 with ⟨e, hz⟩ | ⟨b, cap, cur, e, _, _, hnc, hcm, _⟩
            · omega
            · exact ⟨by simp, by rw [Env.set_same], some ⟨b, 0, none⟩, cap, e, hnc, hcm, fun _ => by rw [Env.set_same, e]; simp [HV.addr, Value.ownBlock]⟩
          · rcases cases_ i o ho with ⟨rfl, rfl⟩ | ⟨rfl, rfl⟩
            · rw [Env.set_same]
              refine ⟨rfl, rfl, by rw [hlen]; exact g1, fun b hb => (hVb b hb).1, fun A n c h => ?_⟩
              have h' : V = .slice (some A) n c := h
              rcases g1.2 with ⟨e, hz⟩ | ⟨b, cap, cur, e, _⟩
              · omega
              · rw [e] at h'
                simp only [Value.slice.injEq, Option.some.injEq] at h'
                rw [← h'.1, e]
                rfl
            · rw [Env.set_other _ _ (by decide)]
              refine ⟨p1, p2, hM1, ?_⟩
              rw [g2.block _ hb1 (fun e => hsep e.symm)]
              exact p4
          · rcases cases_ i o ho with ⟨rfl, rfl⟩ | ⟨rfl, rfl⟩ <;> rcases cases_ j o' ho' with ⟨rfl, rfl⟩ | ⟨rfl, rfl⟩
            · exact hne rfl
            · rw [Env.set_same] at hb
              rw [Env.set_other _ _ (by decide)] at hb'
              exact (hVb b' hb).2 hb'
            · rw [Env.set_other _ _ (by decide)] at hb
              rw [Env.set_same] at hb'
              exact (hVb b' hb').2 hb
            · exact hne rfl
        · exact hg.elim
      · exact hg.elim
    · exact hg.elim
  · rename_i i0 n i t1 o v' xs ty'
    split at hg
    · rename_i hv'
      subst hv'
      split at hg
      · rename_i hwr
        rw [T.gives_need, T.gives_ret] at hg
        obtain ⟨⟨rfl, rfl, hxs1⟩, hg⟩ := hg
        simp only [Prod.mk.injEq] at hg
        obtain ⟨rfl, rfl⟩ := hg
        cases ha with
        | @cons _ v0 _ vs hx hxs =>
        cases hxs with
        | @cons _ v1 _ vs hy hys =>
        cases hys with
        | @cons _ v2 _ vs hz hzs =>
        cases hzs
        have hy' : v1 = .int .i64 0 := hy
        subst hy'
        obtain ⟨_, A, c, rfl, _, _, hc, _⟩ := hx
        obtain rfl : c = 0 := hc rfl
        obtain ⟨p1, p2, p3, p4⟩ := G.obj 1 (.arr v' xs ty') (by simp)
        obtain ⟨_, B, vc, rfl, q1, q2, q3, q4⟩ := hz
        have q5 := q4 (by decide)
        have hB : B = some ⟨(env 1).block, 0, none⟩ := by rw [q5]; simp [HV.addr, p1]
        subst hB
        have hsz : (vals (cod v') xs).length = (cod v').size := by rw [vals_len, hxs1, Nat.one_mul]
        have hM1 : mineOf [o, HObj.arr v' xs ty'] env w (env 1).block := .inr ⟨1, _, rfl, rfl, rfl⟩
        have hb1 : (env 1).block < w.heap.size := (Array.getElem?_eq_some_iff.1 p4).1
        refine (hd.empty A (env 1).block vc (vals (cod v') xs) ty' w p4 hsz (vals_one _ _)).mono ?_
        rintro _ w' ⟨V, rfl, g1, g2, g3, g4⟩
        have cases_ : ∀ (i : Nat) (o1 : HObj cod), [o, HObj.arr v' xs ty', HObj.own v' xs tE][i]? = some o1 → (i = 0 ∧ o1 = o) ∨ (i = 1 ∧ o1 = .arr v' xs ty') ∨ (i = 2 ∧ o1 = .own v' xs tE) := fun i o1 ho => by
          match i, ho with
          | 0, ho => simp at ho; exact .inl ⟨rfl, ho.symm⟩
          | 1, ho => simp at ho; exact .inr (.inl ⟨rfl, ho.symm⟩)
          | 2, ho => simp at ho; exact .inr (.inr ⟨rfl, ho.symm⟩)
          | i + 3, ho => simp at ho
        have hlive0 : Live [o, HObj.arr v' xs ty'] 0 → False := fun h => by
          have := h (by simp)
          simp only [getObj, List.getD_cons_zero] at this
          rw [hwr] at this
          cases this
        refine ⟨V, env.set 2 ⟨w.heap.size, 0, (cod v').size, V, []⟩, rfl, fun i hi _ => ?_, ?_, fun i o1 ho hl => ?_, fun i j o1 o2 b' hne ho ho' hl hl' hw hb hb' => ?_, ⟨g2.os, g2.tape, g2.output, g2.size, fun x hx _ => g2.block x hx (fun e => by cases e), dl_mono g3⟩⟩
        · have : i < 2 := by simpa using hi
          rw [Env.set_other _ _ (by omega)]
        · rcases g1.2 with ⟨e, hz⟩ | ⟨b, cap, cur, e, _, _, hnc, hcm, _⟩
          · cases hz
          · have hbb : b = w.heap.size := by rw [e] at g4; simpa [Value.ownBlock] using g4
            exact ⟨by simp, by rw [Env.set_same], some ⟨b, 0, none⟩, cap, e, hnc, hcm, fun _ => by rw [Env.set_same, hbb]; simp [HV.addr]⟩
        · rcases cases_ i o1 ho with ⟨rfl, rfl⟩ | ⟨rfl, rfl⟩ | ⟨rfl, rfl⟩
          · exact (hlive0 hl).elim
          · rw [Env.set_other _ _ (by decide)]
            refine ⟨p1, p2, hM1, ?_⟩
            rw [g2.block _ hb1 (fun e => by cases e)]
            exact p4
          · rw [Env.set_same]
            refine ⟨rfl, rfl, by rw [hxs1]; exact g1, fun b hb => .inl ?_, fun A n c h => ?_⟩
            · have hb' : V.ownBlock = some b := hb
              rw [g4] at hb'
              simp only [Option.some.injEq] at hb'
              omega
            · have h' : V = .slice (some A) n c := h
              rcases g1.2 with ⟨e, hz⟩ | ⟨b, cap, cur, e, _⟩
              · cases hz
              · have hbb : b = w.heap.size := by rw [e] at g4; simpa [Value.ownBlock] using g4
                rw [e] at h'
                simp only [Value.slice.injEq, Option.some.injEq] at h'
                rw [← h'.1, hbb]
        · rcases cases_ i o1 ho with ⟨rfl, rfl⟩ | ⟨rfl, rfl⟩ | ⟨rfl, rfl⟩
          · exact hlive0 hl
          · rcases cases_ j o2 ho' with ⟨rfl, rfl⟩ | ⟨rfl, rfl⟩ | ⟨rfl, rfl⟩
            · exact hlive0 hl'
            · exact hne rfl
            · rw [Env.set_other _ _ (by decide)] at hb
              rw [Env.set_same] at hb'
              have e1 : b' = (env 1).block := hb
              have e2 : V.ownBlock = some b' := hb'
              rw [g4] at e2
              simp only [Option.some.injEq] at e2
              omega
          · rcases cases_ j o2 ho' with ⟨rfl, rfl⟩ | ⟨rfl, rfl⟩ | ⟨rfl, rfl⟩
            · exact hlive0 hl'
            · rw [Env.set_other _ _ (by decide)] at hb'
              rw [Env.set_same] at hb
              have e1 : b' = (env 1).block := hb'
              have e2 : V.ownBlock = some b' := hb
              rw [g4] at e2
              simp only [Option.some.injEq] at e2
              omega
            · exact hne rfl
      · exact hg.elim
    · exact hg.elim
  · exact hg.elim
end
end Go.Proofs.YtiolfkmkbccndaaGreatDoor.Sym
