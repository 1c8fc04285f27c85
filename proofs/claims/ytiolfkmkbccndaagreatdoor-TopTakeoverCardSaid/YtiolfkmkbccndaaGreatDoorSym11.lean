/- A symbolic run is sound: a call. -/
import Derived.Test.YtiolfkmkbccndaaGreatDoorSym10
namespace Go.Proofs.YtiolfkmkbccndaaGreatDoor.Sym
open Go.RowKit

section
variable {cod : Nat → Codec} {P : Program} {env : Env} {N : Nat}

/-- The blocks that are new. -/
def newIn (w : World) : Nat → Prop := fun k => w.heap.size ≤ k
/-- A function does what its summary says: it reads the objects that its arguments reach, writes nothing that was there, and hands back a value and new objects. -/
structure Sound (P : Program) (cod : Nat → Codec) (g : FuncId) (s : Summ cod) : Prop where
  enters : ∀ args w, (callFunc g args).run P w = .ok (.enter g args) w
  calls : ∀ (args : List SV) (H : Heap cod) (env : Env) (w : World) (vs : List Value) (r : SV) (news : Heap cod), H.all (fun o => !o.wr) = true → Good env H w (newIn w) → F2 (vrel env H.length) args vs → (s args H).gives (r, news) →
    Calls P g vs.toArray w fun e w' => ∃ v env', e = .returned v ∧ EnvEq H.length env env' ∧ vrel env' (H.length + news.length) r v ∧ Good env' (H ++ news) w' (newIn w) ∧ Blw w w'
/-- The blocks that a call may write: new ones, and those of the objects handed to it that may be written. -/
def mineOf (H : Heap cod) (env : Env) (w : World) : Nat → Prop := fun b => w.heap.size ≤ b ∨ ∃ (h : Nat) (o : HObj cod), H[h]? = some o ∧ o.wr = true ∧ o.has (env h) b
/-- An object that counts behind a call: one that was handed to it and may be written, or a new one. -/
def Live (H : Heap cod) (i : Nat) : Prop := i < H.length → (getObj H i).wr = true
/-- A function does what its summary says; it may write to the objects that its arguments reach, and hands all of them back, the new ones behind them. -/
structure SoundIK (P : Program) (cod : Nat → Codec) (g : FuncId) (kp : Bool) (s : Summ cod) : Prop where
  enters : ∀ args w, (callFunc g args).run P w = .ok (.enter g args) w
  calls : ∀ (args : List SV) (H : Heap cod) (env : Env) (w : World) (vs : List Value) (r : SV) (H' : Heap cod), Good env H w (mineOf H env w) → F2 (vrel env H.length) args vs → (s args H).gives (r, H') →
    Calls P g vs.toArray w fun e w' => ∃ v env', e = .returned v ∧ (∀ i, i < H.length → kp = true ∨ (getObj H i).isOwn = false → env' i = env i) ∧ vrel env' H'.length r v ∧
      (∀ i o, H'[i]? = some o → Live H i → objRel env' H'.length (env' i) w' (mineOf H env w) o) ∧
      (∀ i j o o' b, i ≠ j → H'[i]? = some o → H'[j]? = some o' → Live H i → Live H j → o.wr = true → o.has (env' i) b → ¬ o'.has (env' j) b) ∧ Kin (mineOf H env w) w w'
abbrev SoundI (P : Program) (cod : Nat → Codec) (g : FuncId) (s : Summ cod) : Prop := SoundIK P cod g false s
/-- All summaries of a config are right. -/
def CfgOk (cfg : Cfg cod) : Prop := (∀ g s, cfg.summ g = some s → Sound cfg.P cod g s) ∧ (∀ g s, cfg.summI g = some s → SoundIK cfg.P cod g s.1 s.2)

/-- .. and it keeps no places. -/
def CfgFit (cfg : Cfg cod) : Prop := (∀ g s, cfg.summ g = some s → Sound cfg.P cod g s) ∧ (∀ g s, cfg.summI g = some s → SoundIK cfg.P cod g s.1 s.2) ∧ ∀ d, cfg.place d = none
theorem CfgFit.ok {cfg : Cfg cod} (h : CfgFit cfg) : CfgOk cfg := ⟨h.1, h.2.1⟩

theorem objRel_own {x : HV} {w : World} {M M' : Nat → Prop} {o : HObj cod} (hM : o.wr = true → ∀ b, o.has x b → M' b) (h : objRel env N x w M o) : objRel env N x w M' o := by
  cases o with
  | blk cs ty => obtain ⟨h1, h2, h3⟩ := h; exact ⟨h1, hM rfl _ rfl, h3⟩
  | rblk cs => exact h
  | pblk cs => obtain ⟨h1, ⟨h2, h3⟩, h4⟩ := h; exact ⟨h1, ⟨h2, hM rfl _ rfl⟩, h4⟩
  | arr t l ty => obtain ⟨h1, h2, h3, h4⟩ := h; exact ⟨h1, h2, hM rfl _ rfl, h4⟩
  | sarr pre t m l post ty => obtain ⟨h1, h2, h3, h4⟩ := h; exact ⟨h1, h2, hM rfl _ rfl, h4⟩
  | own t l ty => obtain ⟨h1, h2, h3, h4, h5⟩ := h; exact ⟨h1, h2, h3, fun b hb => hM rfl b hb, h5⟩
  | inp t l => exact h
  | nin t LL op => exact h
  | nown t LL js cs ty tyr =>
    obtain ⟨h1, h2, h3, h4, h7, h8, h9, h10⟩ := h
    exact ⟨h1, h2, h3, h4, fun b hb => hM rfl b (.inl hb), h8, fun j v l hj hv hl => ⟨(h9 j v l hj hv hl).1, fun b hb => ⟨hM rfl b (.inr ⟨j, v, hv, hj, hb⟩), ((h9 j v l hj hv hl).2 b hb).2⟩⟩, h10⟩
  | dead => trivial
theorem objRel_base {x : HV} {w : World} {M M' : Nat → Prop} {o : HObj cod} (hM : ∀ k, M k → M' k) (h : objRel env N x w M o) : objRel env N x w M' o := objRel_own (fun hw b hb => hM b (objRel_wr_in h hw hb)) h

theorem crel_ren {env' : Env} {N' : Nat} {ρ : Nat → Nat} {c : Cell} {v : Value} (hρ : ∀ k ∈ c.hs, k < N → ρ k < N' ∧ env' (ρ k) = env k) (h : crel env N c v) : crel env' N' (c.ren ρ) v := by
  cases c <;> simp only [crel, Cell.hs, Cell.ren] at * <;> try exact h
  case ptr k i o =>
    obtain ⟨h1, h2⟩ := hρ k (by simp) h.1
    exact ⟨h1, by rw [h2]; exact h.2⟩
  case slc k i n t =>
    obtain ⟨g1, A, c, g2, g3, g4, g5, g6⟩ := h
    obtain ⟨h1, h2⟩ := hρ k (by simp) g1
    exact ⟨h1, A, c, g2, g3, g4, g5, by rw [h2]; exact g6⟩
  case own k n =>
    obtain ⟨g1, g2, A, c, g3, g4, g5, g6⟩ := h
    obtain ⟨h1, h2⟩ := hρ k (by simp) g1
    exact ⟨h1, by rw [h2]; exact g2, A, c, g3, g4, g5, by rw [h2]; exact g6⟩
  case fn f caps =>
    obtain ⟨g1, rfl⟩ := h
    refine ⟨fun c hc => ?_, ?_⟩
    · obtain ⟨a, ha, rfl⟩ := List.mem_map.1 hc
      exact (hρ a.1 (List.mem_map.2 ⟨a, ha, rfl⟩) (g1 a ha)).1
    · congr 2
      rw [List.map_map]
      exact List.map_congr_left fun c hc => by
        have := (hρ c.1 (List.mem_map.2 ⟨c, hc, rfl⟩) (g1 c hc)).2
        simp [this]
theorem crel_ro {env' : Env} {N' : Nat} {ρ : Nat → Nat} {c : Cell} {v : Value} (hρ : ∀ k ∈ c.hs, k < N → ρ k < N' ∧ env' (ρ k) = env k) (h : crel env N c v) : crel env' N' (c.ro ρ) v := by
  unfold Cell.ro
  split
  · rename_i k n
    obtain ⟨g1, g2, A, c, g3, g4, g5, g6⟩ := h
    obtain ⟨h1, h2⟩ := hρ k (by simp [Cell.hs]) g1
    exact ⟨h1, A, c, g3, g4, g5, (fun h => by cases h), by rw [h2]; exact g6⟩
  · exact h
  · exact crel_ren hρ h
theorem crels_map' {f : Cell → Cell} {env' : Env} {N' : Nat} : ∀ {cs : List Cell} {vs : List Value}, (∀ c ∈ cs, ∀ v, crel env N c v → crel env' N' (f c) v) → crels env N cs vs → crels env' N' (cs.map f) vs
  | _, _, _, .nil => .nil
  | _, _, hf, .cons h t => .cons (hf _ (List.mem_cons_self ..) _ h) (crels_map' (fun c hc => hf c (List.mem_cons_of_mem _ hc)) t)
theorem vrel1_map' {f : Cell → Cell} {env' : Env} {N' : Nat} {x : SV} {v : Value} (hf : ∀ c, (∀ k ∈ c.hs, k ∈ x.hs) → ∀ v, crel env N c v → crel env' N' (f c) v) (h : vrel1 env N x v) : vrel1 env' N' (x.mapC f) v := by
  cases x with
  | c x => exact hf x (fun k hk => hk) _ h
  | agg cs =>
    obtain ⟨vs, h1, h2⟩ := h
    exact ⟨vs, h1, crels_map' (fun c hc => hf c fun k hk => List.mem_flatMap.2 ⟨c, hc, hk⟩) h2⟩
  | tup l => exact h.elim
theorem vrel_map' {f : Cell → Cell} {env' : Env} {N' : Nat} {x : SV} {v : Value} (hf : ∀ c, (∀ k ∈ c.hs, k ∈ x.hs) → ∀ v, crel env N c v → crel env' N' (f c) v) (h : vrel env N x v) : vrel env' N' (x.mapC f) v := by
  cases x with
  | c x => exact hf x (fun k hk => hk) _ h
  | agg cs => exact vrel1_map' (x := .agg cs) hf h
  | tup l =>
    obtain ⟨vs, h1, h2⟩ := h
    refine ⟨vs, h1, ?_⟩
    have : ∀ {l' : List SV} {vs : List Value}, (∀ y ∈ l', y ∈ l) → F2 (vrel1 env N) l' vs → F2 (vrel1 env' N') (l'.map fun | .c x => .c (f x) | .agg cs => .agg (cs.map f) | v => v) vs := by
      intro l' vs hin hl
      induction hl with
      | nil => exact .nil
      | @cons a b l0 m hab _ ih =>
        have ha := hin a (List.mem_cons_self ..)
        refine .cons ?_ (ih fun y hy => hin y (List.mem_cons_of_mem _ hy))
        cases a with
        | c x => exact hf x (fun k hk => List.mem_flatMap.2 ⟨_, ha, hk⟩) _ hab
        | agg cs =>
          obtain ⟨vs, h1, h2⟩ := hab
          exact ⟨vs, h1, crels_map' (fun c hc => hf c fun k hk => List.mem_flatMap.2 ⟨_, ha, List.mem_flatMap.2 ⟨c, hc, hk⟩⟩) h2⟩
        | tup l => exact hab.elim
    exact this (fun _ h => h) h2
theorem objRel_map' {f : Cell → Cell} {env' : Env} {N' : Nat} {x : HV} {w : World} {M : Nat → Prop} {o : HObj cod} (hf : ∀ c, (∀ k ∈ c.hs, k ∈ o.hs) → ∀ v, crel env N c v → crel env' N' (f c) v) (h : objRel env N x w M o) : objRel env' N' x w M (o.mapC f) := by
  cases o <;> simp only [objRel, HObj.mapC] at h ⊢ <;> try exact h
  · obtain ⟨h1, h2, vs, h3, h4⟩ := h; exact ⟨h1, h2, vs, h3, crels_map' (fun c hc => hf c fun k hk => List.mem_flatMap.2 ⟨c, hc, hk⟩) h4⟩
  · obtain ⟨h1, h2, vs, h3, h4⟩ := h; exact ⟨h1, h2, vs, h3, crels_map' (fun c hc => hf c fun k hk => List.mem_flatMap.2 ⟨c, hc, hk⟩) h4⟩
  · obtain ⟨h1, h2, vs, h3, h4⟩ := h; exact ⟨h1, h2, vs, h3, crels_map' (fun c hc => hf c fun k hk => List.mem_flatMap.2 ⟨c, hc, hk⟩) h4⟩
  · obtain ⟨h1, vs, h2, h3, h4, h5, h6, h7⟩ := h
    refine ⟨h1, vs, h2, h3, h4, h5, h6, fun p hp => ?_⟩
    obtain ⟨q, hq, rfl⟩ := Option.map_eq_some_iff.1 hp
    subst hq
    obtain ⟨v, hv, hc⟩ := h7 q rfl
    exact ⟨v, hv, hf _ (fun k hk => hk) _ hc⟩
  · obtain ⟨h1, h2, h3, ⟨vs, h4, h5, h6⟩, h7⟩ := h
    refine ⟨h1, h2, ⟨h3.1, by rw [List.length_map]; exact h3.2⟩, ⟨vs, h4, h5, fun q j c hj hc => ?_⟩, h7⟩
    rw [List.getElem?_map] at hc
    obtain ⟨c0, hc0, rfl⟩ := Option.map_eq_some_iff.1 hc
    obtain ⟨v, hv, hr⟩ := h6 q j c0 hj hc0
    exact ⟨v, hv, hf _ (fun k hk => List.mem_flatMap.2 ⟨c0, List.mem_of_getElem? hc0, hk⟩) _ hr⟩
theorem objRel_ro {env' : Env} {N' : Nat} {ρ : Nat → Nat} {x : HV} {w : World} {M M' : Nat → Prop} {o : HObj cod} (hρ : ∀ k ∈ o.hs, k < N → ρ k < N' ∧ env' (ρ k) = env k) (h : objRel env N x w M o) : objRel env' N' x w M' (o.ro ρ) := by
  cases o with
  | blk cs ty =>
    obtain ⟨h1, h2, vs, h3, h4⟩ := h
    exact ⟨h1, (Array.getElem?_eq_some_iff.1 h3).1, vs, fun j u hu => (by rw [h1, Nat.zero_add, cell_of_row w _ j _ _ _ h3]; simpa using hu),
      crels_map' (fun c hc v hv => crel_ro (fun k hk => hρ k (List.mem_flatMap.2 ⟨c, hc, hk⟩)) hv) h4⟩
  | rblk cs =>
    obtain ⟨h1, h2, vs, h3, h4⟩ := h
    exact ⟨h1, h2, vs, h3, crels_map' (fun c hc v hv => crel_ro (fun k hk => hρ k (List.mem_flatMap.2 ⟨c, hc, hk⟩)) hv) h4⟩
  | pblk cs =>
    obtain ⟨h1, h2, vs, h3, h4⟩ := h
    exact ⟨h1, h2.1, vs, h3, crels_map' (fun c hc v hv => crel_ro (fun k hk => hρ k (List.mem_flatMap.2 ⟨c, hc, hk⟩)) hv) h4⟩
  | arr t l ty =>
    obtain ⟨r1, r2⟩ := row_reads (ty := ty) h (.inl rfl)
    exact ⟨r1, r2, fun _ => (Array.getElem?_eq_some_iff.1 h.2.2.2).1⟩
  | own t l ty =>
    obtain ⟨r1, r2⟩ := row_reads (ty := ty) h (.inr (.inl rfl))
    refine ⟨r1, r2, fun hl => ?_⟩
    obtain ⟨h1, h2, h3, h4, h5⟩ := h
    rcases h3.2 with ⟨hv, hn⟩ | ⟨g, cap, cur, hv, hb, hg, _⟩
    · exact absurd (List.eq_nil_of_length_eq_zero hn) hl
    · have e := h5 _ _ _ hv
      simp only [Addr.mk.injEq, and_true] at e
      rw [← e]
      exact (Array.getElem?_eq_some_iff.1 hg).1
  | inp t l => exact h
  | nin t LL op =>
    obtain ⟨h1, vs, h2, h3, h4, h5, h6, h7⟩ := h
    exact ⟨h1, vs, h2, h3, h4, h5, h6, fun p hp => by cases hp⟩
  | sarr pre t m l post ty => trivial
  | nown t LL js cs ty tyr =>
    cases js with
    | cons j js => trivial
    | nil =>
      by_cases hty : ty < 1000000
      rotate_left
      · simp only [HObj.ro, if_neg hty]
        trivial
      simp only [HObj.ro, if_pos hty]
      obtain ⟨h1, h2, h3, ⟨vs, h4, h5, h6⟩, h7, h8, h9, h10⟩ := h
      have h3 := h3.1
      have hn : ∀ j : Nat, j ∉ ([] : List Nat) := fun j hj => by cases hj
      have hvs : vs = x.rows := List.ext_getElem? fun j => lk_strict hty (h5 j (hn j))
      rw [show tyO ty = ty from if_pos hty] at h4
      subst hvs
      have hne : LL ≠ [] → ∃ g cap cur, x.val = .slice (some ⟨g, 0, none⟩) LL.length cap ∧ g = x.block ∧ w.heap[g]? = some (.cells cur ty (0, 0)) := fun hl => by
        rcases h4.2 with ⟨hx, hz⟩ | ⟨g, cap, cur, hx, _, hg, _⟩
        · exact absurd (List.eq_nil_of_length_eq_zero hz) hl
        · have e := h8 _ _ _ hx
          simp only [Addr.mk.injEq, and_true] at e
          exact ⟨g, cap, cur, hx, e, hg⟩
      refine ⟨h2, x.rows, rfl, h3, fun j u hu => ?_, fun hl => ?_, fun j v l hv hl => ?_, fun p hp => by cases hp⟩
      · have hl : LL ≠ [] := by
          rintro rfl
          have : x.rows = [] := List.eq_nil_of_length_eq_zero h3
          rw [this] at hu
          simp at hu
        obtain ⟨g, cap, cur, hx, hg, _⟩ := hne hl
        have hcell := h4.cells (g := g) (by simp [hx, Value.ownBlock]) j u hu
        have hadd : (⟨g, 0, none⟩ : Addr).add j = ⟨g, j, none⟩ := by unfold Addr.add; split <;> simp_all
        rw [hadd, hg] at hcell
        rw [h1, Nat.zero_add]
        exact hcell
      · obtain ⟨g, cap, cur, hx, hg, hh⟩ := hne hl
        rw [← hg]
        exact (Array.getElem?_eq_some_iff.1 hh).1
      · obtain ⟨o1, _⟩ := h9 j v l (hn j) hv hl
        rcases o1.2 with ⟨hx, hz⟩ | ⟨g, cap, cur, hx, _, hg, hnc, hcm, _⟩
        · refine ⟨none, 0, by rw [hx, hz], by omega, by decide, fun hl' => absurd (List.eq_nil_of_length_eq_zero hz) hl'⟩
        · refine ⟨some ⟨g, 0, none⟩, cap, hx, hnc, hcm, fun _ => ⟨g, 0, rfl, (Array.getElem?_eq_some_iff.1 hg).1, fun q u hu => ?_⟩⟩
          have hcell := o1.cells (g := g) (by simp [hx, Value.ownBlock]) q u hu
          have hadd : (⟨g, 0, none⟩ : Addr).add q = ⟨g, q, none⟩ := by unfold Addr.add; split <;> simp_all
          rw [hadd] at hcell
          rwa [Nat.zero_add]
  | dead => trivial
theorem wr_ro (ρ : Nat → Nat) (o : HObj cod) : (o.ro ρ).wr = false := by
  cases o <;> try rfl
  rename_i js _ ty _
  cases js with
  | cons j js => rfl
  | nil =>
    simp only [HObj.ro]
    split <;> rfl

theorem callR_sound (cfg : Cfg cod) {H : Heap cod} {w : World} {M : Nat → Prop} {g : FuncId} {s : Summ cod} (hS : Sound cfg.P cod g s) {args : List SV} {vs : List Value} {out : Out cod} (h : (callR cfg H g s args).gives out) (G : Good env H w M) (hM : ∀ k, w.heap.size ≤ k → M k)
    (ha : F2 (vrel env H.length) args vs) : (∀ as w, (callFunc g as).run cfg.P w = .ok (.enter g as) w) ∧ Calls cfg.P g vs.toArray w fun e w' => ∃ v, e = .returned v ∧ After env H w M out v w' := by
  unfold callR at h
  · obtain ⟨henter, hcalls⟩ := hS
    refine ⟨henter, ?_⟩
    simp only at h
    generalize hhs : reach H 3 (addNew [] (args.flatMap SV.hs)) = hs at h
    split at h
    · rename_i hc
      obtain ⟨hc1, hc2⟩ := hc
      rw [T.gives_bind] at h
      obtain ⟨⟨r, news⟩, hr, h⟩ := h
      simp only at h
      split at h
      · rename_i hwr
        obtain ⟨hwr, _, _⟩ := hwr
        rw [T.gives_ret] at h
        subst h
        have hin : ∀ k ∈ args.flatMap SV.hs, k ∈ hs := fun k hk => by simpa using List.all_eq_true.1 hc1 k hk
        have hlt : ∀ k ∈ hs, k < H.length ∧ ∀ q ∈ (getObj H k).hs, q ∈ hs := fun k hk => by
          have := List.all_eq_true.1 hc2 k hk
          simp only [Bool.and_eq_true, decide_eq_true_eq] at this
          exact ⟨this.1, fun q hq => by simpa using List.all_eq_true.1 this.2 q hq⟩
        -- the callee's environment
        let envm : Env := fun i => env (hs.getD i 0)
        have hρ : ∀ k, k ∈ hs → hs.idxOf k < hs.length ∧ envm (hs.idxOf k) = env k := fun k hk => by
          have h1 := List.idxOf_lt_length_of_mem hk
          refine ⟨h1, ?_⟩
          show env (hs.getD (hs.idxOf k) 0) = env k
          simp [List.getD, List.getElem?_eq_getElem h1]
        have hlen : (hs.map fun h => (getObj H h).ro fun h => hs.idxOf h).length = hs.length := List.length_map ..
        have hargs : F2 (vrel envm (hs.map fun h => (getObj H h).ro fun h => hs.idxOf h).length) (args.map (SV.mapC (Cell.ro fun h => hs.idxOf h))) vs := by
          rw [hlen]
          have : ∀ {l : List SV} {us : List Value}, (∀ x ∈ l, x ∈ args) → F2 (vrel env H.length) l us → F2 (vrel envm hs.length) (l.map (SV.mapC (Cell.ro fun h => hs.idxOf h))) us := by
            intro l us hl hf
            induction hf with
            | nil => exact .nil
            | @cons a b l0 m hab _ ih =>
              refine .cons (vrel_map' (fun c hcs v hv => crel_ro (fun k hk _ => ?_) hv) hab) (ih fun x hx => hl x (List.mem_cons_of_mem _ hx))
              exact hρ k (hin k (List.mem_flatMap.2 ⟨a, hl a (List.mem_cons_self ..), hcs k hk⟩))
          exact this (fun _ h => h) ha
        have hgood : Good envm (hs.map fun h => (getObj H h).ro fun h => hs.idxOf h) w (newIn w) := by
          refine ⟨fun i o ho => ?_, fun i i' o o' b _ ho _ hw => ?_, G.tab.keep (fun _ _ _ _ => rfl) fun p _ hl _ hm => absurd hl (Nat.not_lt.2 hm)⟩
          · rw [List.getElem?_map] at ho
            obtain ⟨k, hk, rfl⟩ := Option.map_eq_some_iff.1 ho
            have hkm := List.mem_of_getElem? hk
            rw [hlen]
            have e : envm i = env k := by show env (hs.getD i 0) = env k; simp [List.getD, hk]
            rw [e]
            obtain ⟨hkl, hcl⟩ := hlt k hkm
            by_cases hd : getObj H k = .dead
            · rw [hd]; trivial
            · exact objRel_ro (fun q hq _ => hρ q (hcl q hq)) (G.obj k _ (getObj_some hd))
          · rw [List.getElem?_map] at ho
            obtain ⟨k, hk, rfl⟩ := Option.map_eq_some_iff.1 ho
            rw [wr_ro] at hw
            cases hw
        have hro : (hs.map fun h => (getObj H h).ro fun h => hs.idxOf h).all (fun o => !o.wr) = true := by
          rw [List.all_eq_true]
          intro o ho
          obtain ⟨k, _, rfl⟩ := List.mem_map.1 ho
          rw [wr_ro]; rfl
        refine (hcalls _ _ envm w vs r news hro hgood hargs hr).mono ?_
        rintro e w' ⟨v, env2, rfl, heq, hv, hg2, hb2⟩
        rw [hlen] at heq hv
        let env' : Env := fun k => if k < H.length then env k else env2 (k - H.length + hs.length)
        have he' : EnvEq H.length env env' := fun k hk => by show (if k < H.length then env k else _) = env k; rw [if_pos hk]
        have hback : ∀ i, i < hs.length + news.length → (if i < hs.length then hs.getD i 0 else H.length + (i - hs.length)) < H.length + news.length ∧ env' (if i < hs.length then hs.getD i 0 else H.length + (i - hs.length)) = env2 i := fun i hi => by
          split
          · rename_i hil
            have hm : hs.getD i 0 ∈ hs := by simp [List.getD, List.getElem?_eq_getElem hil]
            have h1 := (hlt _ hm).1
            refine ⟨by omega, ?_⟩
            show (if hs.getD i 0 < H.length then env (hs.getD i 0) else _) = env2 i
            rw [if_pos h1, heq i hil]
          · refine ⟨by omega, ?_⟩
            show (if H.length + (i - hs.length) < H.length then _ else env2 (H.length + (i - hs.length) - H.length + hs.length)) = env2 i
            rw [if_neg (by omega)]
            congr 1
            omega
        have hcr : ∀ c v, crel env2 (hs.length + news.length) c v → crel env' (H.length + news.length) (c.ren fun i => if i < hs.length then hs.getD i 0 else H.length + (i - hs.length)) v := fun c v hc => crel_ren (fun k _ hk => hback k hk) hc
        refine ⟨v, rfl, env', he'.but _, by simp, ?_, ?_, Kin.of_below hb2.below hb2.drawn fun k _ hk => hM k hk⟩
        · simp only [List.length_append, List.length_map]
          exact vrel_map hcr hv
        · have G' := G.below hb2.below (Nat.le_refl _)
          have newobj : ∀ j o, news[j]? = some o → objRel env2 (hs.length + news.length) (env2 (hs.length + j)) w' (newIn w) o ∧ env' (H.length + j) = env2 (hs.length + j) := fun j o hj => by
            have := hg2.obj (hs.length + j) o (by rw [List.getElem?_append_right (by rw [hlen]; omega), hlen, Nat.add_sub_cancel_left]; exact hj)
            rw [List.length_append, hlen] at this
            refine ⟨this, ?_⟩
            show (if H.length + j < H.length then _ else env2 (H.length + j - H.length + hs.length)) = _
            rw [if_neg (by omega)]
            congr 1
            omega
          have cases_ : ∀ k a, (H ++ news.map (HObj.mapC (Cell.ren fun i => if i < hs.length then hs.getD i 0 else H.length + (i - hs.length))))[k]? = some a →
              (k < H.length ∧ H[k]? = some a) ∨ (∃ j o, k = H.length + j ∧ news[j]? = some o ∧ a = o.mapC (Cell.ren fun i => if i < hs.length then hs.getD i 0 else H.length + (i - hs.length))) := by
            intro k a hk
            rcases Nat.lt_or_ge k H.length with hl | hl
            · rw [List.getElem?_append_left hl] at hk; exact .inl ⟨hl, hk⟩
            · rw [List.getElem?_append_right hl, List.getElem?_map] at hk
              obtain ⟨o, ho, rfl⟩ := Option.map_eq_some_iff.1 hk
              exact .inr ⟨k - H.length, o, by omega, ho, rfl⟩
          refine ⟨fun k a hk => ?_, fun k k' a a' b hne hk hk' hwa hb hb' => ?_, G'.tab⟩
          · rw [List.length_append, List.length_map]
            rcases cases_ k a hk with ⟨hl, h1⟩ | ⟨j, o, rfl, hj, rfl⟩
            · rw [he' k hl]
              exact objRel_mono (by omega) he' (G'.obj k a h1)
            · obtain ⟨h1, h2⟩ := newobj j o hj
              rw [h2]
              exact objRel_base hM (objRel_map hcr h1)
          · rcases cases_ k a hk with ⟨hl, h1⟩ | ⟨j, o, rfl, hj, rfl⟩ <;> rcases cases_ k' a' hk' with ⟨hl', h1'⟩ | ⟨j', o', rfl, hj', rfl⟩
            · rw [he' k hl] at hb
              rw [he' k' hl'] at hb'
              exact G.sep k k' a a' b hne h1 h1' hwa hb hb'
            · rw [he' k hl] at hb
              obtain ⟨g1, g2⟩ := newobj j' o' hj'
              rw [g2, has_map] at hb'
              have := objRel_has_lt (G.obj k a h1) hb
              have hge : w.heap.size ≤ b := objRel_wr_in g1 (List.all_eq_true.1 hwr o' (List.mem_of_getElem? hj')) hb'
              omega
            · rw [he' k' hl'] at hb'
              obtain ⟨g1, g2⟩ := newobj j o hj
              rw [g2, has_map] at hb
              have := objRel_has_lt (G.obj k' a' h1') hb'
              have hge : w.heap.size ≤ b := objRel_wr_in g1 (List.all_eq_true.1 hwr o (List.mem_of_getElem? hj)) hb
              omega
            · obtain ⟨g1, g2⟩ := newobj j o hj
              obtain ⟨g1', g2'⟩ := newobj j' o' hj'
              rw [g2, has_map] at hb
              rw [g2', has_map] at hb'
              have ne : hs.length + j ≠ hs.length + j' := by omega
              refine hg2.sep (hs.length + j) (hs.length + j') o o' b ne ?_ ?_ (by rw [wr_map] at hwa; exact hwa) hb hb'
              · rw [List.getElem?_append_right (by rw [hlen]; omega), hlen, Nat.add_sub_cancel_left]; exact hj
              · rw [List.getElem?_append_right (by rw [hlen]; omega), hlen, Nat.add_sub_cancel_left]; exact hj'
      · exact h.elim
    · exact h.elim

theorem addNew_nodup : ∀ (l acc : List Nat), acc.Nodup → (addNew acc l).Nodup
  | [], acc, h => h
  | a :: l, acc, h => by
    unfold addNew
    split
    · exact addNew_nodup l acc h
    · rename_i hc
      refine addNew_nodup l _ ?_
      rw [List.nodup_append]
      refine ⟨h, by simp, fun x hx y hy => ?_⟩
      simp at hy
      subst hy
      rintro rfl
      exact hc (by simpa using hx)
theorem reach_nodup (H : Heap cod) : ∀ (d : Nat) (l : List Nat), l.Nodup → (reach H d l).Nodup
  | 0, _, h => h
  | d + 1, l, h => by
    unfold reach
    exact reach_nodup H d _ (addNew_nodup _ _ h)
theorem getObj_lt_some {H : Heap cod} {h : Nat} (hl : h < H.length) : H[h]? = some (getObj H h) := by
  unfold getObj
  simp [List.getD, List.getElem?_eq_getElem hl]
theorem getObj_of_some {H : Heap cod} {h : Nat} {o : HObj cod} (ho : H[h]? = some o) : getObj H h = o := by
  unfold getObj
  simp [List.getD, ho]
theorem callI_sound {H : Heap cod} {w : World} {M : Nat → Prop} {g : FuncId} {kp : Bool} {s : Summ cod} (hS : SoundIK P cod g kp s) {args : List SV} {vs : List Value} {out : Out cod} (h : (callI H kp s args).gives out) (G : Good env H w M) (hM : ∀ k, w.heap.size ≤ k → M k)
    (ha : F2 (vrel env H.length) args vs) : (∀ as w, (callFunc g as).run P w = .ok (.enter g as) w) ∧ Calls P g vs.toArray w fun e w' => ∃ v, e = .returned v ∧ After env H w M out v w' := by
  unfold callI at h
  obtain ⟨henter, hcalls⟩ := hS
  refine ⟨henter, ?_⟩
  simp only at h
  have hnd : (reach H 3 (addNew [] (args.flatMap SV.hs))).Nodup := reach_nodup H 3 _ (addNew_nodup _ _ (by simp))
  generalize reach H 3 (addNew [] (args.flatMap SV.hs)) = hs at h hnd
  split at h
  · rename_i hc
    obtain ⟨hc1, hc2⟩ := hc
    rw [T.gives_bind] at h
    obtain ⟨⟨r, H'⟩, hr, h⟩ := h
    simp only at h
    split at h
    · rename_i hwr
      obtain ⟨hlen', hnews, hrhs, hkind⟩ := hwr
      rw [T.gives_ret] at h
      subst h
      have hin : ∀ k ∈ args.flatMap SV.hs, k ∈ hs := fun k hk => by simpa using List.all_eq_true.1 hc1 k hk
      have hlt : ∀ k ∈ hs, k < H.length ∧ ∀ q ∈ (getObj H k).hs, q ∈ hs := fun k hk => by
        have := List.all_eq_true.1 hc2 k hk
        simp only [Bool.and_eq_true, decide_eq_true_eq] at this
        exact ⟨this.1, fun q hq => by simpa using List.all_eq_true.1 this.2 q hq⟩
      let envm : Env := fun i => env (hs.getD i 0)
      have hidx : ∀ k, k ∈ hs → hs.idxOf k < hs.length ∧ hs.getD (hs.idxOf k) 0 = k := fun k hk => by
        have h1 := List.idxOf_lt_length_of_mem hk
        exact ⟨h1, by simp [List.getD, List.getElem?_eq_getElem h1]⟩
      have hrev : ∀ i, i < hs.length → hs.getD i 0 ∈ hs ∧ hs.idxOf (hs.getD i 0) = i := fun i hi => by
        have e : hs.getD i 0 = hs[i] := by simp [List.getD, List.getElem?_eq_getElem hi]
        rw [e]
        exact ⟨List.getElem_mem hi, hnd.idxOf_getElem i hi⟩
      have hρ : ∀ k, k ∈ hs → hs.idxOf k < hs.length ∧ envm (hs.idxOf k) = env k := fun k hk => by
        obtain ⟨h1, h2⟩ := hidx k hk
        exact ⟨h1, by show env (hs.getD (hs.idxOf k) 0) = env k; rw [h2]⟩
      generalize hH1 : (hs.map fun h => (getObj H h).mapC (Cell.ren fun h => hs.idxOf h)) = H1 at hr
      have hlen : H1.length = hs.length := by rw [← hH1]; exact List.length_map ..
      have hget : ∀ i, i < hs.length → H1[i]? = some ((getObj H (hs.getD i 0)).mapC (Cell.ren fun h => hs.idxOf h)) := fun i hi => by
        rw [← hH1, List.getElem?_map]
        simp [List.getD, List.getElem?_eq_getElem hi]
      have hget' : ∀ i o, H1[i]? = some o → i < hs.length ∧ o = (getObj H (hs.getD i 0)).mapC (Cell.ren fun h => hs.idxOf h) := fun i o ho => by
        have hi : i < H1.length := (List.getElem?_eq_some_iff.1 ho).1
        rw [hlen] at hi
        rw [hget i hi] at ho
        exact ⟨hi, (Option.some.inj ho).symm⟩
      have hargs : F2 (vrel envm H1.length) (args.map (SV.mapC (Cell.ren fun h => hs.idxOf h))) vs := by
        rw [hlen]
        have : ∀ {l : List SV} {us : List Value}, (∀ x ∈ l, x ∈ args) → F2 (vrel env H.length) l us → F2 (vrel envm hs.length) (l.map (SV.mapC (Cell.ren fun h => hs.idxOf h))) us := by
          intro l us hl hf
          induction hf with
          | nil => exact .nil
          | @cons a b l0 m hab _ ih =>
            refine .cons (vrel_map' (fun c hcs v hv => crel_ren (fun k hk _ => ?_) hv) hab) (ih fun x hx => hl x (List.mem_cons_of_mem _ hx))
            exact hρ k (hin k (List.mem_flatMap.2 ⟨a, hl a (List.mem_cons_self ..), hcs k hk⟩))
        exact this (fun _ h => h) ha
      have hmine : ∀ b, mineOf H1 envm w b → w.heap.size ≤ b ∨ ∃ k, k ∈ hs ∧ (getObj H k).wr = true ∧ (getObj H k).has (env k) b := by
        rintro b (hb | ⟨i, o, ho, hw, hb⟩)
        · exact .inl hb
        · obtain ⟨hi, rfl⟩ := hget' i o ho
          rw [has_map] at hb
          rw [wr_map] at hw
          exact .inr ⟨_, (hrev i hi).1, hw, hb⟩
      have hmineM : ∀ b, mineOf H1 envm w b → M b := fun b hb => by
        rcases hmine b hb with hb | ⟨k, hk, hw, hb⟩
        · exact hM b hb
        · exact objRel_wr_in (G.obj k _ (getObj_lt_some (hlt k hk).1)) hw hb
      have hgood : Good envm H1 w (mineOf H1 envm w) := by
        refine ⟨fun i o ho => ?_, fun i i' o o' b hne ho ho' hw hb hb' => ?_, G.tab.keep (fun _ _ _ _ => rfl) fun p _ _ hn hm => hn (hmineM _ hm)⟩
        · obtain ⟨hi, rfl⟩ := hget' i o ho
          obtain ⟨hkm, _⟩ := hrev i hi
          obtain ⟨hkl, hcl⟩ := hlt _ hkm
          rw [hlen]
          refine objRel_own (M := M) (fun hw b hb => Or.inr ⟨i, _, ho, hw, hb⟩) ?_
          exact objRel_map' (fun c hc v hv => crel_ren (fun q hq _ => hρ q (hcl q (hc q hq))) hv) (G.obj _ _ (getObj_lt_some hkl))
        · obtain ⟨hi, rfl⟩ := hget' i o ho
          obtain ⟨hi', rfl⟩ := hget' i' o' ho'
          rw [has_map] at hb hb'
          rw [wr_map] at hw
          have hk1 := (hlt _ (hrev i hi).1).1
          have hk2 := (hlt _ (hrev i' hi').1).1
          refine G.sep _ _ _ _ b (fun e => hne ?_) (getObj_lt_some hk1) (getObj_lt_some hk2) hw hb hb'
          rw [← (hrev i hi).2, ← (hrev i' hi').2, e]
      refine (hcalls _ _ envm w vs r H' hgood hargs hr).mono ?_
      rintro e w' ⟨v, env2, rfl, hoff, hv, hobj, hsep, hkin⟩
      have hlive : ∀ i, i < hs.length → (getObj H (hs.getD i 0)).wr = true → Live H1 i := fun i hi hw _ => by
        rw [getObj_of_some (hget i hi), wr_map]; exact hw
      have hliveN : ∀ i, hs.length ≤ i → Live H1 i := fun i hi hl => by rw [hlen] at hl; omega
      let env' : Env := fun k => if k < H.length then (if k ∈ hs then env2 (hs.idxOf k) else env k) else env2 (k - H.length + hs.length)
      have he1 : ∀ k, k ∈ hs → env' k = env2 (hs.idxOf k) := fun k hk => by
        show (if k < H.length then (if k ∈ hs then env2 (hs.idxOf k) else env k) else _) = _
        rw [if_pos (hlt k hk).1, if_pos hk]
      have he2 : ∀ k, k < H.length → k ∉ hs.filter (fun h => !kp && (getObj H h).isOwn) → env' k = env k := fun k hk hn => by
        show (if k < H.length then (if k ∈ hs then env2 (hs.idxOf k) else env k) else _) = _
        rw [if_pos hk]
        split
        · rename_i hm
          have h0 : kp = true ∨ (getObj H k).isOwn = false := by
            cases ho : (getObj H k).isOwn with
            | false => exact .inr rfl
            | true =>
              cases hkp : kp with
              | true => exact .inl rfl
              | false => exact absurd (List.mem_filter.2 ⟨hm, by rw [ho, hkp]; rfl⟩) hn
          obtain ⟨g1, g2⟩ := hidx k hm
          have := hoff (hs.idxOf k) (by rw [hlen]; exact g1) (by rw [getObj_of_some (hget _ g1), own_map, g2]; exact h0)
          rw [this]
          exact (hρ k hm).2
        · rfl
      have he3 : ∀ j, env' (H.length + j) = env2 (hs.length + j) := fun j => by
        show (if H.length + j < H.length then _ else env2 (H.length + j - H.length + hs.length)) = _
        rw [if_neg (by omega)]
        congr 1
        omega
      have hbut : EnvBut H.length (hs.filter fun h => !kp && (getObj H h).isOwn) env env' := he2
      generalize hback' : (fun i => if i < hs.length then hs.getD i 0 else H.length + (i - hs.length)) = back
      have hback : ∀ i, i < H'.length → back i < H.length + (H'.length - hs.length) ∧ env' (back i) = env2 i := fun i hi => by
        rw [← hback']
        simp only
        split
        · rename_i hil
          obtain ⟨h1, h2⟩ := hrev i hil
          exact ⟨by have := (hlt _ h1).1; omega, by rw [he1 _ h1, h2]⟩
        · exact ⟨by omega, by rw [he3]; congr 1; omega⟩
      have hcr : ∀ c v, crel env2 H'.length c v → crel env' (H.length + (H'.length - hs.length)) (c.ren back) v := fun c v hc => crel_ren (fun k _ hk => hback k hk) hc
      have hmapC : ∀ k, k ∈ hs → (fun h => if hs.contains h && (getObj H h).wr then (getObj H' (hs.idxOf h)).mapC (Cell.ren back) else (getObj H h).mapC (Cell.killed (hs.filter fun h => !kp && (getObj H h).isOwn))) k = if (getObj H k).wr then (getObj H' (hs.idxOf k)).mapC (Cell.ren back) else (getObj H k).mapC (Cell.killed (hs.filter fun h => !kp && (getObj H h).isOwn)) := fun k hk => by simp [hk]
      -- the three kinds of objects behind the call
      have cases_ : ∀ k a, (((List.range H.length).map fun h => if hs.contains h && (getObj H h).wr then (getObj H' (hs.idxOf h)).mapC (Cell.ren back) else (getObj H h).mapC (Cell.killed (hs.filter fun h => !kp && (getObj H h).isOwn))) ++ (H'.drop hs.length).map (HObj.mapC (Cell.ren back)))[k]? = some a →
          (∃ i o, H'[i]? = some o ∧ a = o.mapC (Cell.ren back) ∧ env' k = env2 i ∧ Live H1 i ∧ o.wr = true ∧ k = back i) ∨ (k < H.length ∧ a = (getObj H k).mapC (Cell.killed (hs.filter fun h => !kp && (getObj H h).isOwn)) ∧ env' k = env k ∧ ∀ b, (getObj H k).has (env k) b → ¬ mineOf H1 envm w b) := by
        intro k a hk
        rcases Nat.lt_or_ge k H.length with hl | hl
        · rw [List.getElem?_append_left (by simpa using hl), List.getElem?_map, List.getElem?_range hl] at hk
          simp only [Option.map_some, Option.some.injEq] at hk
          by_cases hm : k ∈ hs ∧ (getObj H k).wr = true
          · obtain ⟨hm, hw⟩ := hm
            have hc : (hs.contains k && (getObj H k).wr) = true := by simp [hm, hw]
            rw [if_pos hc] at hk
            obtain ⟨g1, g2⟩ := hidx k hm
            have hi : hs.idxOf k < H'.length := by omega
            have hkd := List.all_eq_true.1 hkind (hs.idxOf k) (List.mem_range.2 g1)
            simp only [Bool.and_eq_true, beq_iff_eq] at hkd
            refine .inl ⟨hs.idxOf k, _, getObj_lt_some hi, hk.symm, he1 k hm, hlive _ g1 (by rw [g2]; exact hw), by rw [hkd.1, g2]; exact hw, ?_⟩
            rw [← hback']
            simp only [if_pos g1, g2]
          · have hc : ¬ (hs.contains k && (getObj H k).wr) = true := by simpa using hm
            rw [if_neg hc] at hk
            refine .inr ⟨hl, hk.symm, he2 k hl fun hf => ?_, fun b hb hmn => ?_⟩
            · obtain ⟨h1, h2⟩ := List.mem_filter.1 hf
              refine hm ⟨h1, ?_⟩
              simp only [Bool.and_eq_true] at h2
              replace h2 := h2.2
              cases ho : getObj H k <;> rw [ho] at h2 <;> first | rfl | (simp [HObj.isOwn] at h2)
            · have hbl := objRel_has_lt (G.obj k _ (getObj_lt_some hl)) hb
              rcases hmine b hmn with hge | ⟨k', hk', hw', hb'⟩
              · omega
              · refine G.sep k' k _ _ b (fun e => hm ?_) (getObj_lt_some (hlt k' hk').1) (getObj_lt_some hl) hw' hb' hb
                subst e
                exact ⟨hk', hw'⟩
        · rw [List.getElem?_append_right (by simpa using hl), List.getElem?_map, List.getElem?_drop] at hk
          obtain ⟨o, ho, rfl⟩ := Option.map_eq_some_iff.1 hk
          simp only [List.length_map, List.length_range] at ho
          refine .inl ⟨_, o, ho, rfl, ?_, hliveN _ (by omega), ?_, ?_⟩
          · have := he3 (k - H.length)
            rw [show H.length + (k - H.length) = k by omega] at this
            exact this
          · exact List.all_eq_true.1 hnews o (List.mem_of_getElem? (i := k - H.length) (by rw [List.getElem?_drop]; exact ho))
          · rw [← hback']
            simp only
            rw [if_neg (by omega)]
            omega
      refine ⟨v, rfl, env', hbut, by simp, ?_, ⟨fun k a hk => ?_, fun k k' a a' b hne hk hk' hwa hb hb' => ?_, G.tab.keep (fun p _ hl hn => hkin.block p.1 hl fun hm => hn (hmineM _ hm)) fun _ _ _ h => h⟩, hkin.mono fun k _ hk => hmineM k hk⟩
      · simp only [List.length_append, List.length_map, List.length_range, List.length_drop]
        exact vrel_map hcr hv
      · simp only [List.length_append, List.length_map, List.length_range, List.length_drop]
        rcases cases_ k a hk with ⟨i, o, ho, rfl, he, hL, _, _⟩ | ⟨hl, rfl, he, hnm⟩
        · rw [he]
          exact objRel_base hmineM (objRel_map hcr (hobj i o ho hL))
        · rw [he]
          refine objRel_map (fun c v hc => crel_killed (by omega) hbut hc) (objRel_keep (G.obj k _ (getObj_lt_some hl)) hkin.size fun b hb => hkin.block b (objRel_has_lt (G.obj k _ (getObj_lt_some hl)) hb) (hnm b hb))
      · rcases cases_ k a hk with ⟨i, o, ho, rfl, he, hL, hw1, hbk⟩ | ⟨hl, rfl, he, hnm⟩ <;> rcases cases_ k' a' hk' with ⟨i', o', ho', rfl, he', hL', hw1', hbk'⟩ | ⟨hl', rfl, he', hnm'⟩
        · rw [he, has_map] at hb
          rw [he', has_map] at hb'
          refine hsep i i' o o' b (fun e => hne ?_) ho ho' hL hL' hw1 hb hb'
          rw [hbk, hbk', e]
        · rw [he, has_map] at hb
          rw [he', has_map] at hb'
          exact hnm' b hb' (objRel_wr_in (hobj i o ho hL) hw1 hb)
        · rw [he, has_map] at hb
          rw [he', has_map] at hb'
          exact hnm b hb (objRel_wr_in (hobj i' o' ho' hL') hw1' hb')
        · rw [he, has_map] at hb
          rw [he', has_map] at hb'
          rw [wr_map] at hwa
          exact G.sep k k' _ _ b hne (getObj_lt_some hl) (getObj_lt_some hl') hwa hb hb'
    · exact h.elim
  · exact h.elim
theorem call_sound (cfg : Cfg cod) (hS : CfgOk cfg) {H : Heap cod} {w : World} {M : Nat → Prop} {g : FuncId} {args : List SV} {vs : List Value} {out : Out cod} (h : (callS cfg H g args).gives out) (G : Good env H w M) (hM : ∀ k, w.heap.size ≤ k → M k)
    (ha : F2 (vrel env H.length) args vs) : (∀ as w, (callFunc g as).run cfg.P w = .ok (.enter g as) w) ∧ Calls cfg.P g vs.toArray w fun e w' => ∃ v, e = .returned v ∧ After env H w M out v w' := by
  unfold callS at h
  split at h
  · rename_i s hs
    exact callR_sound cfg (hS.1 g s hs) h G hM ha
  · split at h
    · rename_i s hs
      exact callI_sound (hS.2 g s hs) h G hM ha
    · exact h.elim
end
end Go.Proofs.YtiolfkmkbccndaaGreatDoor.Sym
