/- A symbolic run is sound: a region in the text's order. -/
import Derived.Test.YtiolfkmkbccndaaGreatDoorSym13p
namespace Go.Proofs.YtiolfkmkbccndaaGreatDoor.Sym
open Go.RowKit

section
variable {cod : Nat → Codec}

/-- One operation, its guard looked at. -/
def absStep (cfg : Cfg cod) (ops : Array Oper) (o : Oper) (st st' : St cod) : Prop :=
  match o.guard with
  | none => (stepS cfg o st).gives st'
  | some (j, want) =>
    match yieldS ops st j with
    | .c (.bool b) => if (b == want) = true then (stepS cfg o st).gives st' else st' = skipS o st
    | .c (.raw (.tuple ⟨[]⟩)) => st' = skipS o st
    | _ => False
def absRun (cfg : Cfg cod) (ops : Array Oper) : List Oper → St cod → St cod → Prop
  | [], st, st' => st' = st
  | o :: l, st, st' => ∃ s, absStep cfg ops o st s ∧ absRun cfg ops l s st'

theorem know_same {st : St cod} {d : Option Nat} {b : Bool} (h : ∀ t, d = some t → st.tmps.getD t (.c .junk) = .c (.bool b)) : st.know d b = st := by
  cases d with
  | none => rfl
  | some t =>
    have hg := h t rfl
    unfold St.know
    simp only
    have : st.tmps.set t (.c (.bool b)) = st.tmps := by
      apply List.ext_getElem?
      intro i
      by_cases e : t = i
      · subst e
        rcases Nat.lt_or_ge t st.tmps.length with hl | hl
        · rw [List.getElem?_set_self hl, List.getElem?_eq_getElem hl]
          simp only [List.getD, List.getElem?_eq_getElem hl, Option.getD_some] at hg
          rw [hg]
        · rw [List.getElem?_eq_none (by simpa using hl), List.getElem?_eq_none hl]
      · rw [List.getElem?_set_ne e]
    rw [this]
theorem stepK_spec {R : Type} {cfg : Cfg cod} {o : Oper} {st : St cod} {next : St cod → T R} {r : R} (h : (stepK cfg o st next).gives r) : ∃ st', (stepS cfg o st).gives st' ∧ (next st').gives r := by
  unfold stepK at h
  split at h
  · rename_i c a b ho
    split at h
    · rename_i q hq
      have hs : ∀ v : SV, (if q then evS st.tmps a else evS st.tmps b) = v → (stepS cfg o st).gives (st.put o.dst { v := v, H := st.heap }) := by
        intro v hv
        unfold stepS
        rw [T.gives_bind]
        refine ⟨{ v := v, H := st.heap }, ?_, rfl⟩
        rw [opP_plain (.inl (by unfold isMoved; rw [ho]))]
        unfold opS
        simp only [ho, hq]
        rw [T.gives_ite]
        cases q <;> simp_all [T.gives_ret]
      cases q with
      | true =>
        simp only [cond_true] at h
        rw [know_same (fun t ht => by cases c <;> simp only [tmpOf] at ht <;> first | (cases ht; done) | (simp only [Option.some.injEq] at ht; subst ht; exact hq))] at h
        exact ⟨_, hs _ rfl, h⟩
      | false =>
        simp only [cond_false] at h
        rw [know_same (fun t ht => by cases c <;> simp only [tmpOf] at ht <;> first | (cases ht; done) | (simp only [Option.some.injEq] at ht; subst ht; exact hq))] at h
        exact ⟨_, hs _ rfl, h⟩
    · exact h.elim
  · rw [T.gives_bind] at h
    exact h
theorem symOps_spec {R : Type} {cfg : Cfg cod} {ops : Array Oper} : ∀ (l : List Oper) (st : St cod) (k : St cod → T R) (r : R), (symOps cfg ops l st k).gives r → ∃ st', absRun cfg ops l st st' ∧ (k st').gives r
  | [], st, k, r, h => ⟨st, rfl, h⟩
  | o :: l, st, k, r, h => by
    unfold symOps at h
    split at h
    · rename_i hg
      obtain ⟨s, h1, h2⟩ := stepK_spec h
      obtain ⟨st', h3, h4⟩ := symOps_spec l s k r h2
      exact ⟨st', ⟨s, by unfold absStep; rw [hg]; exact h1, h3⟩, h4⟩
    · rename_i j want hg
      split at h
      · rename_i b hy
        have hk : st.know ((ops[j]?).bind (·.dst)) b = st := know_same fun t ht => by
          unfold yieldS at hy
          rw [ht] at hy
          exact hy
        have key : ∀ q : Bool, q = b → (cond (q == want) (stepK cfg o (st.know ((ops[j]?).bind (·.dst)) q) fun s => symOps cfg ops l s k) (symOps cfg ops l (skipS o (st.know ((ops[j]?).bind (·.dst)) q)) k)).gives r → ∃ st', absRun cfg ops (o :: l) st st' ∧ (k st').gives r := by
          intro q hq hh
          subst hq
          rw [hk] at hh
          cases hw : (q == want) with
          | true =>
            rw [hw, cond_true] at hh
            obtain ⟨s, h1, h2⟩ := stepK_spec hh
            obtain ⟨st', h3, h4⟩ := symOps_spec l s k r h2
            refine ⟨st', ⟨s, ?_, h3⟩, h4⟩
            unfold absStep
            simp only [hg, hy, hw, if_true]
            exact h1
          | false =>
            rw [hw, cond_false] at hh
            obtain ⟨st', h3, h4⟩ := symOps_spec l _ k r hh
            refine ⟨st', ⟨_, ?_, h3⟩, h4⟩
            unfold absStep
            simp only [hg, hy, hw, Bool.false_eq_true, if_false]
        cases b with
        | true => exact key true rfl h
        | false => exact key false rfl h
      · rename_i hy
        obtain ⟨st', h3, h4⟩ := symOps_spec l _ k r h
        refine ⟨st', ⟨_, ?_, h3⟩, h4⟩
        unfold absStep
        simp only [hg, hy]
      · exact h.elim

/-! ### a frame and a world under a symbolic state -/
/-- Where a call began: its world; the objects that its arguments reach, and where they lie; the blocks that it may write; the rows among the objects that may grow. -/
structure Base where
  w : World
  n : Nat
  env : Env
  mine : Nat → Prop
  own : Nat → Prop
  new : ∀ k, w.heap.size ≤ k → mine k
def Kept (b : Base) (H : Heap cod) (env : Env) : Prop := (∀ h, h < b.n → ¬ b.own h → env h = b.env h) ∧ b.n ≤ H.length ∧ ∀ h o, h < b.n → H[h]? = some o → o.isOwn = true → b.own h
def Rel (st : St cod) (w0 : Base) (a : Act) (w : World) : Prop :=
  ∃ env, F2 (vrel env st.heap.length) st.tmps a.tmps.toList ∧ a.defers = [] ∧ Good env st.heap w w0.mine ∧ Kin w0.mine w0.w w ∧ Kept w0 st.heap env

theorem eval_rel {env : Env} {N : Nat} {tm : List SV} {a : Act} (h : F2 (vrel env N) tm a.tmps.toList) (x : Operand) : vrel env N (evS tm x) (a.eval x) := by
  cases x with
  | tmp t =>
    have := f2_getD (R := vrel env N) (da := .c .junk) (db := undef) trivial h t
    simpa [evS, Act.eval, Array.getD_eq_getD_getElem?, List.getD] using this
  | const v => exact ofValue_rel v
  | global g => trivial
  | func f => exact ⟨by simp, rfl⟩
/-- Two lists side by side: what is asked of members alone. -/
theorem f2_mem {α β : Type} {R S : α → β → Prop} : ∀ {l : List α} {m : List β}, (∀ a ∈ l, ∀ b, R a b → S a b) → F2 R l m → F2 S l m
  | _, _, _, .nil => .nil
  | _, _, h, .cons x xs => .cons (h _ (List.mem_cons_self ..) _ x) (f2_mem (fun a ha => h a (List.mem_cons_of_mem _ ha)) xs)
theorem f2_map_mem {α β γ : Type} {R : α → β → Prop} {S : γ → β → Prop} {f : α → γ} : ∀ {l : List α} {m : List β}, (∀ a ∈ l, ∀ b, R a b → S (f a) b) → F2 R l m → F2 S (l.map f) m
  | _, _, _, .nil => .nil
  | _, _, h, .cons x xs => .cons (h _ (List.mem_cons_self ..) _ x) (f2_map_mem (fun a ha => h a (List.mem_cons_of_mem _ ha)) xs)
theorem crel_keep {env env' : Env} {N N' : Nat} (hN : N ≤ N') {c : Cell} {v : Value} (he : ∀ k ∈ c.hs, k < N → env' k = env k) (h : crel env N c v) : crel env' N' c v := by
  cases c <;> simp only [crel, Cell.hs] at * <;> try exact h
  case ptr k i o => exact ⟨by omega, by rw [he k (by simp) h.1]; exact h.2⟩
  case slc k i n t =>
    obtain ⟨h1, A, c, h2, h3, h4, h5, h6⟩ := h
    exact ⟨by omega, A, c, h2, h3, h4, h5, by rw [he k (by simp) h1]; exact h6⟩
  case own k n =>
    obtain ⟨h1, h2, A, c, h3, h4, h5, h6⟩ := h
    exact ⟨by omega, by rw [he k (by simp) h1]; exact h2, A, c, h3, h4, h5, by rw [he k (by simp) h1]; exact h6⟩
  case fn f caps =>
    obtain ⟨h1, rfl⟩ := h
    refine ⟨fun c hc => by have := h1 c hc; omega, ?_⟩
    congr 2
    exact List.map_congr_left fun c hc => by rw [he c.1 (List.mem_map.2 ⟨c, hc, rfl⟩) (h1 c hc)]
theorem vrel_keep {env env' : Env} {N N' : Nat} (hN : N ≤ N') {x : SV} {v : Value} (he : ∀ k ∈ x.hs, k < N → env' k = env k) (h : vrel env N x v) : vrel env' N' x v := by
  have := vrel_map' (f := id) (env' := env') (N' := N') (fun c hc v hv => crel_keep hN (fun k hk hl => he k (hc k hk) hl) hv) h
  have e : x.mapC id = x := by
    cases x with
    | c x => rfl
    | agg cs => simp [SV.mapC]
    | tup vs =>
      simp only [SV.mapC, id_eq, List.map_id_fun', SV.tup.injEq]
      refine (List.map_congr_left fun v _ => ?_).trans (List.map_id _)
      cases v <;> simp
  rwa [e] at this
theorem vrel_killed {env env' : Env} {N N' : Nat} (hN : N ≤ N') {ks : List Nat} {x : SV} {v : Value} (he : ∀ k ∈ x.hs, k < N → k ∉ ks → env' k = env k) (h : vrel env N x v) : vrel env' N' (x.mapC (Cell.killed ks)) v := by
  refine vrel_map' (fun c hc v hv => ?_) h
  unfold Cell.killed
  split
  · trivial
  · rename_i hn
    refine crel_keep hN (fun k hk hl => he k (hc k hk) hl fun hm => hn (List.any_eq_true.2 ⟨k, hk, by simpa using hm⟩)) hv
theorem put_rel {env env' : Env} {st : St cod} {a : Act} {out : Out cod} {v : Value} {d : Option Nat} (hF : F2 (vrel env st.heap.length) st.tmps a.tmps.toList) (he : ∀ v ∈ st.tmps, ∀ k ∈ v.hs, k < st.heap.length → k ∉ out.kill → env' k = env k) (hN : st.heap.length ≤ out.H.length)
    (hv : vrel env' out.H.length out.v v) : F2 (vrel env' (st.put d out).heap.length) (st.put d out).tmps (a.put d v).tmps.toList := by
  have hh : (st.put d out).heap = out.H := rfl
  have base : F2 (vrel env' out.H.length) (match out.kill with | [] => st.tmps | ks => st.tmps.map (SV.mapC (Cell.killed ks))) a.tmps.toList := by
    cases hk : out.kill with
    | nil =>
      simp only
      rw [hk] at he
      exact f2_mem (fun v hv u h => vrel_keep hN (fun k hkv hkl => he v hv k hkv hkl (by simp)) h) hF
    | cons h ks =>
      simp only
      rw [hk] at he
      exact f2_map_mem (fun v hv u h' => vrel_killed hN (fun k hkv hkl hkn => he v hv k hkv hkl hkn) h') hF
  rw [hh]
  cases d with
  | none => exact base
  | some d =>
    have := f2_set hv d base
    cases hk : out.kill with
    | nil =>
      simp only [hk] at this
      simpa [St.put, Act.put, hk] using this
    | cons h ks =>
      simp only [hk] at this
      simpa [St.put, Act.put, hk] using this
theorem put_defers (a : Act) (d : Option Nat) (v : Value) : (a.put d v).defers = a.defers := by cases d <;> rfl

theorem step_rel {cfg : Cfg cod} (hS : CfgOk cfg) {o : Oper} {st st' : St cod} {w0 : Base} {w : World} {a : Act} {K : Act → World → Prop} {Q : Exit → Act → World → Prop} (hfr : FrC cfg st.tmps st.heap) (hn0 : ∀ k, Turn cfg st.heap k → w0.n ≤ k) (h : (stepS cfg o st).gives st') (hR : Rel st w0 a w)
    (hK : ∀ a' w', Rel st' w0 a' w' → K a' w') : o.wp cfg.P a w K Q := by
  unfold stepS at h
  rw [T.gives_bind] at h
  obtain ⟨out, h1, h2⟩ := h
  rw [T.gives_ret] at h2
  subst h2
  obtain ⟨env, hF, hd, G, hb, hK0, hK1, hK2⟩ := hR
  have hh : (st.put o.dst out).heap = out.H := rfl
  obtain ⟨r1, r2⟩ := opP_own h1 hK1 hn0 hK2
  refine opRes_wp (opP_sound cfg hS hfr h1 G (fun k hk => w0.new k (Nat.le_trans hb.size hk)) a.eval (eval_rel hF)) fun v w' ⟨env', he, hN, hv, G', hb'⟩ => hK _ _ ⟨env', put_rel hF (fun v hv' k hkv hkl hkn => he k hkl hkn (fun ht => hfr k ht (.inl ⟨v, hv', hkv⟩))) hN hv, by rw [put_defers]; exact hd, ?_, hb.trans hb', fun k hk hn => ?_, ?_, ?_⟩
  · rw [hh]; exact G'
  · rw [he k (by omega) (fun e => hn (r2 k e hk)) (fun ht => by have := hn0 k ht; omega)]; exact hK0 k hk hn
  · rw [hh]; omega
  · rw [hh]; exact r1
theorem skip_rel {o : Oper} {st : St cod} {w0 : Base} {w : World} {a : Act} (hR : Rel st w0 a w) : Rel (skipS o st) w0 (a.put o.dst undef) w := by
  obtain ⟨env, hF, hd, G, hb, hK⟩ := hR
  exact ⟨env, put_rel (out := { v := undefS, H := st.heap }) hF (fun _ _ _ _ _ _ => rfl) (Nat.le_refl _) rfl, by rw [put_defers]; exact hd, G, hb, hK⟩
theorem yield_rel {env : Env} {ops : Array Oper} {st : St cod} {a : Act} {j : Nat} (h : F2 (vrel env st.heap.length) st.tmps a.tmps.toList) :
    (∀ b, yieldS ops st j = .c (.bool b) → yielded ops a.tmps j = some b) ∧ (yieldS ops st j = .c (.raw (.tuple ⟨[]⟩)) → yielded ops a.tmps j = none) := by
  unfold yieldS yielded
  cases hd : (ops[j]?).bind (·.dst) with
  | none => exact ⟨fun b hb => (by simp [undefS] at hb), fun _ => by simp⟩
  | some d =>
    simp only [Option.bind_some]
    have hl := f2_length h
    rcases Nat.lt_or_ge d st.tmps.length with hlt | hge
    · obtain ⟨u, h1, h2⟩ := f2_get h (List.getElem?_eq_getElem hlt)
      rw [Array.getElem?_toList] at h1
      have hg : st.tmps.getD d (.c .junk) = st.tmps[d] := by simp [List.getD, List.getElem?_eq_getElem hlt]
      rw [hg, h1]
      refine ⟨fun b hb => ?_, fun hb => ?_⟩
      · rw [hb] at h2
        simp only [vrel, vrel1, crel] at h2
        subst h2
        rfl
      · rw [hb] at h2
        simp only [vrel, vrel1, crel] at h2
        subst h2
        rfl
    · have hg : st.tmps.getD d (.c .junk) = .c .junk := by simp [List.getD, List.getElem?_eq_none hge]
      rw [hg]
      exact ⟨fun b hb => (by simp at hb), fun hb => (by simp at hb)⟩
/-- One operation of a region, as 'wpOp' asks it. -/
theorem abs_wp {cfg : Cfg cod} (hS : CfgOk cfg) {ops : Array Oper} {o : Oper} {st st' : St cod} {w0 : Base} {w : World} {a : Act} {K : Act → World → Prop} {Q : Exit → Act → World → Prop} (hfr : FrC cfg st.tmps st.heap) (hn0 : ∀ k, Turn cfg st.heap k → w0.n ≤ k) (h : absStep cfg ops o st st') (hR : Rel st w0 a w)
    (hK : ∀ a' w', Rel st' w0 a' w' → K a' w') : if Region.wanted o (yielded ops a.tmps) then o.wp cfg.P a w K Q ∨ (o.asks cfg.P a w ∧ LetsOut Q) else K (a.put o.dst undef) w := by
  unfold absStep at h
  split at h
  · rename_i hg
    rw [if_pos (by simp [Region.wanted, hg])]
    exact .inl (step_rel hS hfr hn0 h hR hK)
  · rename_i j want hg
    have hR' := hR
    obtain ⟨env, hF, _⟩ := hR
    obtain ⟨y1, y2⟩ := yield_rel (ops := ops) (j := j) hF
    split at h
    · rename_i b hb
      have hw : Region.wanted o (yielded ops a.tmps) = (b == want) := by
        simp only [Region.wanted, hg, y1 b hb]
        rfl
      rw [hw]
      split at h
      · rename_i hbw
        rw [if_pos hbw]
        exact .inl (step_rel hS hfr hn0 h hR' hK)
      · rename_i hbw
        rw [if_neg hbw]
        subst h
        exact hK _ _ (skip_rel hR')
    · rename_i hb
      have hw : Region.wanted o (yielded ops a.tmps) = false := by
        simp only [Region.wanted, hg, y2 hb]
        rfl
      rw [hw, if_neg (by simp)]
      subst h
      exact hK _ _ (skip_rel hR')
    · exact h.elim
theorem run_wpList {cfg : Cfg cod} (hS : CfgOk cfg) (hpl : ∀ d, cfg.place d = none) {ops : Array Oper} {w0 : Base} {Q : Exit → Act → World → Prop} : ∀ (l : List Oper) (st st' : St cod) (a : Act) (w : World), absRun cfg ops l st st' → Rel st w0 a w →
    (∀ a' w', Rel st' w0 a' w' → Q .normal a' w') → wpList cfg.P ops Q l a w
  | [], st, st', a, w, h, hR, hQ => by
    simp only [absRun] at h
    subst h
    exact hQ a w hR
  | o :: l, st, st', a, w, h, hR, hQ => by
    obtain ⟨s, h1, h2⟩ := h
    unfold wpList
    exact abs_wp hS (FrC.none hpl _ _) (fun k ⟨⟨d, hd⟩, _⟩ => by rw [hpl d] at hd; cases hd) h1 hR fun a' w' hR' => run_wpList hS hpl l s st' a' w' h2 hR' hQ
end
end Go.Proofs.YtiolfkmkbccndaaGreatDoor.Sym
