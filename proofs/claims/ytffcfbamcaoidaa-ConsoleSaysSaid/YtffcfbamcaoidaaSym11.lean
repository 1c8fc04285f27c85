/- A symbolic run is sound: a call. -/
import Derived.Test.YtffcfbamcaoidaaSym10
namespace Go.Proofs.Ytffcfbamcaoidaa.Sym
open Go.RowKit

section
variable {cod : Nat → Codec} {P : Program} {env : Env} {N : Nat}

/-- A function does what its summary says: it reads the objects that its arguments reach, writes nothing that was there, and hands back a value and new objects. -/
structure Sound (P : Program) (cod : Nat → Codec) (g : FuncId) (s : Summ cod) : Prop where
  enters : ∀ args w, (callFunc g args).run P w = .ok (.enter g args) w
  calls : ∀ (args : List SV) (H : Heap cod) (env : Env) (w : World) (vs : List Value) (r : SV) (news : Heap cod), H.all (fun o => !o.wr) = true → Good env H w w.heap.size → F2 (vrel env H.length) args vs → (s args H).gives (r, news) →
    Calls P g vs.toArray w fun e w' => ∃ v env', e = .returned v ∧ EnvEq H.length env env' ∧ vrel env' (H.length + news.length) r v ∧ Good env' (H ++ news) w' w.heap.size ∧ Below w.heap.size w w'

theorem objRel_base {x : HV} {w : World} {B B' : Nat} {o : HObj cod} (hB : B' ≤ B) (h : objRel env N x w B o) : objRel env N x w B' o := by
  cases o with
  | blk cs ty => obtain ⟨h1, h2, h3⟩ := h; exact ⟨h1, by omega, h3⟩
  | rblk cs => exact h
  | arr t l ty => obtain ⟨h1, h2, h3, h4⟩ := h; exact ⟨h1, h2, by omega, h4⟩
  | own t l ty =>
    obtain ⟨h1, h2, h3, h4, h5⟩ := h
    refine ⟨h1, h2, ⟨h3.1, ?_⟩, h4, h5⟩
    rcases h3.2 with hn | ⟨g, cap, cur, hv, hb, rest⟩
    · exact .inl hn
    · exact .inr ⟨g, cap, cur, hv, by omega, rest⟩
  | inp t l => exact h
  | dead => trivial

theorem crel_ren {env' : Env} {N' : Nat} {ρ : Nat → Nat} {c : Cell} {v : Value} (hρ : ∀ k ∈ c.hs, k < N → ρ k < N' ∧ env' (ρ k) = env k) (h : crel env N c v) : crel env' N' (c.ren ρ) v := by
  cases c <;> simp only [crel, Cell.hs, Cell.ren] at * <;> try exact h
  case ptr k i o =>
    obtain ⟨h1, h2⟩ := hρ k (by simp) h.1
    exact ⟨h1, by rw [h2]; exact h.2⟩
  case slc k i n t =>
    obtain ⟨g1, A, c, g2, g3, g4, g5, g6⟩ := h
    obtain ⟨h1, h2⟩ := hρ k (by simp) g1
    exact ⟨h1, A, c, g2, g3, g4, g5, by rw [h2]; exact g6⟩
  case own k n =>
    obtain ⟨g1, g2, A, c, g3, g4, g5, g6⟩ := h
    obtain ⟨h1, h2⟩ := hρ k (by simp) g1
    exact ⟨h1, by rw [h2]; exact g2, A, c, g3, g4, g5, by rw [h2]; exact g6⟩
  case fn f caps =>
    obtain ⟨g1, rfl⟩ := h
    refine ⟨fun c hc => ?_, ?_⟩
    · obtain ⟨a, ha, rfl⟩ := List.mem_map.1 hc
      exact (hρ a.1 (List.mem_map.2 ⟨a, ha, rfl⟩) (g1 a ha)).1
    · congr 2
      rw [List.map_map]
      exact List.map_congr_left fun c hc => by
        have := (hρ c.1 (List.mem_map.2 ⟨c, hc, rfl⟩) (g1 c hc)).2
        simp [this]
theorem crel_ro {env' : Env} {N' : Nat} {ρ : Nat → Nat} {c : Cell} {v : Value} (hρ : ∀ k ∈ c.hs, k < N → ρ k < N' ∧ env' (ρ k) = env k) (h : crel env N c v) : crel env' N' (c.ro ρ) v := by
  unfold Cell.ro
  split
  · rename_i k n
    obtain ⟨g1, g2, A, c, g3, g4, g5, g6⟩ := h
    obtain ⟨h1, h2⟩ := hρ k (by simp [Cell.hs]) g1
    exact ⟨h1, A, c, g3, g4, g5, (fun h => by cases h), by rw [h2]; exact g6⟩
  · exact h
  · exact crel_ren hρ h
theorem crels_map' {f : Cell → Cell} {env' : Env} {N' : Nat} : ∀ {cs : List Cell} {vs : List Value}, (∀ c ∈ cs, ∀ v, crel env N c v → crel env' N' (f c) v) → crels env N cs vs → crels env' N' (cs.map f) vs
  | _, _, _, .nil => .nil
  | _, _, hf, .cons h t => .cons (hf _ (List.mem_cons_self ..) _ h) (crels_map' (fun c hc => hf c (List.mem_cons_of_mem _ hc)) t)
theorem vrel1_map' {f : Cell → Cell} {env' : Env} {N' : Nat} {x : SV} {v : Value} (hf : ∀ c, (∀ k ∈ c.hs, k ∈ x.hs) → ∀ v, crel env N c v → crel env' N' (f c) v) (h : vrel1 env N x v) : vrel1 env' N' (x.mapC f) v := by
  cases x with
  | c x => exact hf x (fun k hk => hk) _ h
  | agg cs =>
    obtain ⟨vs, h1, h2⟩ := h
    exact ⟨vs, h1, crels_map' (fun c hc => hf c fun k hk => List.mem_flatMap.2 ⟨c, hc, hk⟩) h2⟩
  | tup l => exact h.elim
theorem vrel_map' {f : Cell → Cell} {env' : Env} {N' : Nat} {x : SV} {v : Value} (hf : ∀ c, (∀ k ∈ c.hs, k ∈ x.hs) → ∀ v, crel env N c v → crel env' N' (f c) v) (h : vrel env N x v) : vrel env' N' (x.mapC f) v := by
  cases x with
  | c x => exact hf x (fun k hk => hk) _ h
  | agg cs => exact vrel1_map' (x := .agg cs) hf h
  | tup l =>
    obtain ⟨vs, h1, h2⟩ := h
    refine ⟨vs, h1, ?_⟩
    have : ∀ {l' : List SV} {vs : List Value}, (∀ y ∈ l', y ∈ l) → F2 (vrel1 env N) l' vs → F2 (vrel1 env' N') (l'.map fun | .c x => .c (f x) | .agg cs => .agg (cs.map f) | v => v) vs := by
      intro l' vs hin hl
      induction hl with
      | nil => exact .nil
      | @cons a b l0 m hab _ ih =>
        have ha := hin a (List.mem_cons_self ..)
        refine .cons ?_ (ih fun y hy => hin y (List.mem_cons_of_mem _ hy))
        cases a with
        | c x => exact hf x (fun k hk => List.mem_flatMap.2 ⟨_, ha, hk⟩) _ hab
        | agg cs =>
          obtain ⟨vs, h1, h2⟩ := hab
          exact ⟨vs, h1, crels_map' (fun c hc => hf c fun k hk => List.mem_flatMap.2 ⟨_, ha, List.mem_flatMap.2 ⟨c, hc, hk⟩⟩) h2⟩
        | tup l => exact hab.elim
    exact this (fun _ h => h) h2
theorem objRel_map' {f : Cell → Cell} {env' : Env} {N' : Nat} {x : HV} {w : World} {B : Nat} {o : HObj cod} (hf : ∀ c, (∀ k ∈ c.hs, k ∈ o.hs) → ∀ v, crel env N c v → crel env' N' (f c) v) (h : objRel env N x w B o) : objRel env' N' x w B (o.mapC f) := by
  cases o <;> simp only [objRel, HObj.mapC] at h ⊢ <;> try exact h
  · obtain ⟨h1, h2, vs, h3, h4⟩ := h; exact ⟨h1, h2, vs, h3, crels_map' (fun c hc => hf c fun k hk => List.mem_flatMap.2 ⟨c, hc, hk⟩) h4⟩
  · obtain ⟨h1, h2, vs, h3, h4⟩ := h; exact ⟨h1, h2, vs, h3, crels_map' (fun c hc => hf c fun k hk => List.mem_flatMap.2 ⟨c, hc, hk⟩) h4⟩
theorem objRel_ro {env' : Env} {N' : Nat} {ρ : Nat → Nat} {x : HV} {w : World} {B B' : Nat} {o : HObj cod} (hρ : ∀ k ∈ o.hs, k < N → ρ k < N' ∧ env' (ρ k) = env k) (h : objRel env N x w B o) : objRel env' N' x w B' (o.ro ρ) := by
  cases o with
  | blk cs ty =>
    obtain ⟨h1, h2, vs, h3, h4⟩ := h
    exact ⟨h1, (Array.getElem?_eq_some_iff.1 h3).1, vs, fun j u hu => (by rw [h1, Nat.zero_add, cell_of_row w _ j _ _ _ h3]; simpa using hu),
      crels_map' (fun c hc v hv => crel_ro (fun k hk => hρ k (List.mem_flatMap.2 ⟨c, hc, hk⟩)) hv) h4⟩
  | rblk cs =>
    obtain ⟨h1, h2, vs, h3, h4⟩ := h
    exact ⟨h1, h2, vs, h3, crels_map' (fun c hc v hv => crel_ro (fun k hk => hρ k (List.mem_flatMap.2 ⟨c, hc, hk⟩)) hv) h4⟩
  | arr t l ty =>
    obtain ⟨r1, r2⟩ := row_reads (ty := ty) h (.inl rfl)
    exact ⟨r1, r2, fun _ => (Array.getElem?_eq_some_iff.1 h.2.2.2).1⟩
  | own t l ty =>
    obtain ⟨r1, r2⟩ := row_reads (ty := ty) h (.inr (.inl rfl))
    refine ⟨r1, r2, fun hl => ?_⟩
    obtain ⟨h1, h2, h3, h4, h5⟩ := h
    rcases h3.2 with ⟨hv, hn⟩ | ⟨g, cap, cur, hv, hb, hg, _⟩
    · exact absurd (List.eq_nil_of_length_eq_zero hn) hl
    · have e := h5 _ _ _ hv
      simp only [Addr.mk.injEq, and_true] at e
      rw [← e]
      exact (Array.getElem?_eq_some_iff.1 hg).1
  | inp t l => exact h
  | dead => trivial
theorem wr_ro (ρ : Nat → Nat) (o : HObj cod) : (o.ro ρ).wr = false := by cases o <;> rfl

theorem call_sound (cfg : Cfg cod) (hS : ∀ g s, cfg.summ g = some s → Sound cfg.P cod g s) {H : Heap cod} {w : World} {B : Nat} {g : FuncId} {args : List SV} {vs : List Value} {out : Out cod} (h : (callS cfg H g args).gives out) (G : Good env H w B) (hB : B ≤ w.heap.size)
    (ha : F2 (vrel env H.length) args vs) : (∀ as w, (callFunc g as).run cfg.P w = .ok (.enter g as) w) ∧ Calls cfg.P g vs.toArray w fun e w' => ∃ v, e = .returned v ∧ After env H w B out v w' := by
  unfold callS at h
  split at h
  · exact h.elim
  · rename_i s hs
    obtain ⟨henter, hcalls⟩ := hS g s hs
    refine ⟨henter, ?_⟩
    simp only at h
    generalize hhs : reach H 3 (addNew [] (args.flatMap SV.hs)) = hs at h
    split at h
    · rename_i hc
      obtain ⟨hc1, hc2⟩ := hc
      rw [T.gives_bind] at h
      obtain ⟨⟨r, news⟩, hr, h⟩ := h
      simp only at h
      split at h
      · rename_i hwr
        obtain ⟨hwr, _, _⟩ := hwr
        rw [T.gives_ret] at h
        subst h
        have hin : ∀ k ∈ args.flatMap SV.hs, k ∈ hs := fun k hk => by simpa using List.all_eq_true.1 hc1 k hk
        have hlt : ∀ k ∈ hs, k < H.length ∧ ∀ q ∈ (getObj H k).hs, q ∈ hs := fun k hk => by
          have := List.all_eq_true.1 hc2 k hk
          simp only [Bool.and_eq_true, decide_eq_true_eq] at this
          exact ⟨this.1, fun q hq => by simpa using List.all_eq_true.1 this.2 q hq⟩
        -- the callee's environment
        let envm : Env := fun i => env (hs.getD i 0)
        have hρ : ∀ k, k ∈ hs → hs.idxOf k < hs.length ∧ envm (hs.idxOf k) = env k := fun k hk => by
          have h1 := List.idxOf_lt_length_of_mem hk
          refine ⟨h1, ?_⟩
          show env (hs.getD (hs.idxOf k) 0) = env k
          simp [List.getD, List.getElem?_eq_getElem h1]
        have hlen : (hs.map fun h => (getObj H h).ro fun h => hs.idxOf h).length = hs.length := List.length_map ..
        have hargs : F2 (vrel envm (hs.map fun h => (getObj H h).ro fun h => hs.idxOf h).length) (args.map (SV.mapC (Cell.ro fun h => hs.idxOf h))) vs := by
          rw [hlen]
          have : ∀ {l : List SV} {us : List Value}, (∀ x ∈ l, x ∈ args) → F2 (vrel env H.length) l us → F2 (vrel envm hs.length) (l.map (SV.mapC (Cell.ro fun h => hs.idxOf h))) us := by
            intro l us hl hf
            induction hf with
            | nil => exact .nil
            | @cons a b l0 m hab _ ih =>
              refine .cons (vrel_map' (fun c hcs v hv => crel_ro (fun k hk _ => ?_) hv) hab) (ih fun x hx => hl x (List.mem_cons_of_mem _ hx))
              exact hρ k (hin k (List.mem_flatMap.2 ⟨a, hl a (List.mem_cons_self ..), hcs k hk⟩))
          exact this (fun _ h => h) ha
        have hgood : Good envm (hs.map fun h => (getObj H h).ro fun h => hs.idxOf h) w w.heap.size := by
          refine ⟨fun i o ho => ?_, fun i i' o o' b _ ho _ hw => ?_⟩
          · rw [List.getElem?_map] at ho
            obtain ⟨k, hk, rfl⟩ := Option.map_eq_some_iff.1 ho
            have hkm := List.mem_of_getElem? hk
            rw [hlen]
            have e : envm i = env k := by show env (hs.getD i 0) = env k; simp [List.getD, hk]
            rw [e]
            obtain ⟨hkl, hcl⟩ := hlt k hkm
            by_cases hd : getObj H k = .dead
            · rw [hd]; trivial
            · exact objRel_ro (fun q hq _ => hρ q (hcl q hq)) (G.obj k _ (getObj_some hd))
          · rw [List.getElem?_map] at ho
            obtain ⟨k, hk, rfl⟩ := Option.map_eq_some_iff.1 ho
            rw [wr_ro] at hw
            cases hw
        have hro : (hs.map fun h => (getObj H h).ro fun h => hs.idxOf h).all (fun o => !o.wr) = true := by
          rw [List.all_eq_true]
          intro o ho
          obtain ⟨k, _, rfl⟩ := List.mem_map.1 ho
          rw [wr_ro]; rfl
        refine (hcalls _ _ envm w vs r news hro hgood hargs hr).mono ?_
        rintro e w' ⟨v, env2, rfl, heq, hv, hg2, hb2⟩
        rw [hlen] at heq hv
        let env' : Env := fun k => if k < H.length then env k else env2 (k - H.length + hs.length)
        have he' : EnvEq H.length env env' := fun k hk => by show (if k < H.length then env k else _) = env k; rw [if_pos hk]
        have hback : ∀ i, i < hs.length + news.length → (if i < hs.length then hs.getD i 0 else H.length + (i - hs.length)) < H.length + news.length ∧ env' (if i < hs.length then hs.getD i 0 else H.length + (i - hs.length)) = env2 i := fun i hi => by
          split
          · rename_i hil
            have hm : hs.getD i 0 ∈ hs := by simp [List.getD, List.getElem?_eq_getElem hil]
            have h1 := (hlt _ hm).1
            refine ⟨by omega, ?_⟩
            show (if hs.getD i 0 < H.length then env (hs.getD i 0) else _) = env2 i
            rw [if_pos h1, heq i hil]
          · refine ⟨by omega, ?_⟩
            show (if H.length + (i - hs.length) < H.length then _ else env2 (H.length + (i - hs.length) - H.length + hs.length)) = env2 i
            rw [if_neg (by omega)]
            congr 1
            omega
        have hcr : ∀ c v, crel env2 (hs.length + news.length) c v → crel env' (H.length + news.length) (c.ren fun i => if i < hs.length then hs.getD i 0 else H.length + (i - hs.length)) v := fun c v hc => crel_ren (fun k _ hk => hback k hk) hc
        refine ⟨v, rfl, env', he'.but _, by simp [Out.heap], ?_, ?_, hb2.mono hB⟩
        · simp only [Out.heap, List.length_append, List.length_map]
          exact vrel_map hcr hv
        · simp only [Out.heap]
          have G' := G.below hb2 (Nat.le_refl _)
          have newobj : ∀ j o, news[j]? = some o → objRel env2 (hs.length + news.length) (env2 (hs.length + j)) w' w.heap.size o ∧ env' (H.length + j) = env2 (hs.length + j) := fun j o hj => by
            have := hg2.obj (hs.length + j) o (by rw [List.getElem?_append_right (by rw [hlen]; omega), hlen, Nat.add_sub_cancel_left]; exact hj)
            rw [List.length_append, hlen] at this
            refine ⟨this, ?_⟩
            show (if H.length + j < H.length then _ else env2 (H.length + j - H.length + hs.length)) = _
            rw [if_neg (by omega)]
            congr 1
            omega
          have cases_ : ∀ k a, (H ++ news.map (HObj.mapC (Cell.ren fun i => if i < hs.length then hs.getD i 0 else H.length + (i - hs.length))))[k]? = some a →
              (k < H.length ∧ H[k]? = some a) ∨ (∃ j o, k = H.length + j ∧ news[j]? = some o ∧ a = o.mapC (Cell.ren fun i => if i < hs.length then hs.getD i 0 else H.length + (i - hs.length))) := by
            intro k a hk
            rcases Nat.lt_or_ge k H.length with hl | hl
            · rw [List.getElem?_append_left hl] at hk; exact .inl ⟨hl, hk⟩
            · rw [List.getElem?_append_right hl, List.getElem?_map] at hk
              obtain ⟨o, ho, rfl⟩ := Option.map_eq_some_iff.1 hk
              exact .inr ⟨k - H.length, o, by omega, ho, rfl⟩
          refine ⟨fun k a hk => ?_, fun k k' a a' b hne hk hk' hwa hb hb' => ?_⟩
          · rw [List.length_append, List.length_map]
            rcases cases_ k a hk with ⟨hl, h1⟩ | ⟨j, o, rfl, hj, rfl⟩
            · rw [he' k hl]
              exact objRel_mono (by omega) he' (G'.obj k a h1)
            · obtain ⟨h1, h2⟩ := newobj j o hj
              rw [h2]
              exact objRel_base hB (objRel_map hcr h1)
          · rcases cases_ k a hk with ⟨hl, h1⟩ | ⟨j, o, rfl, hj, rfl⟩ <;> rcases cases_ k' a' hk' with ⟨hl', h1'⟩ | ⟨j', o', rfl, hj', rfl⟩
            · rw [he' k hl] at hb
              rw [he' k' hl'] at hb'
              exact G.sep k k' a a' b hne h1 h1' hwa hb hb'
            · rw [he' k hl] at hb
              obtain ⟨g1, g2⟩ := newobj j' o' hj'
              rw [g2, ublk_map] at hb'
              have := objRel_ublk_lt (G.obj k a h1) hb
              have := objRel_wr_ge g1 (List.all_eq_true.1 hwr o' (List.mem_of_getElem? hj')) hb'
              omega
            · rw [he' k' hl'] at hb'
              obtain ⟨g1, g2⟩ := newobj j o hj
              rw [g2, ublk_map] at hb
              have := objRel_ublk_lt (G.obj k' a' h1') hb'
              have := objRel_wr_ge g1 (List.all_eq_true.1 hwr o (List.mem_of_getElem? hj)) hb
              omega
            · obtain ⟨g1, g2⟩ := newobj j o hj
              obtain ⟨g1', g2'⟩ := newobj j' o' hj'
              rw [g2, ublk_map] at hb
              rw [g2', ublk_map] at hb'
              have ne : hs.length + j ≠ hs.length + j' := by omega
              refine hg2.sep (hs.length + j) (hs.length + j') o o' b ne ?_ ?_ (by rw [wr_map] at hwa; exact hwa) hb hb'
              · rw [List.getElem?_append_right (by rw [hlen]; omega), hlen, Nat.add_sub_cancel_left]; exact hj
              · rw [List.getElem?_append_right (by rw [hlen]; omega), hlen, Nat.add_sub_cancel_left]; exact hj'
      · exact h.elim
    · exact h.elim
end
end Go.Proofs.Ytffcfbamcaoidaa.Sym
