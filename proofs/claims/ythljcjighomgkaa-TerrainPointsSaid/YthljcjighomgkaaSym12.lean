/- A symbolic run is sound: any one operation. -/
import Derived.Test.YthljcjighomgkaaSym11
namespace Go.Proofs.Ythljcjighomgkaa.Sym
open Go.RowKit

section
variable {cod : Nat → Codec} {P : Program} {env : Env} {N : Nat}

/-- What an operation's run comes to. -/
def OpRes (P : Program) (R : Value → World → Prop) : Result Next → Prop
  | .ok (.value v) w' => R v w'
  | .ok .skip w' => R undef w'
  | .ok (.enter f args) w' => Calls P f args w' fun e w'' => ∃ v, e = .returned v ∧ R v w''
  | _ => False
theorem opRes_wp {o : Oper} {a : Act} {w : World} {R : Value → World → Prop} {K : Act → World → Prop} {Q : Exit → Act → World → Prop} (h : OpRes P R ((execOp a.eval o).run P w)) (hK : ∀ v w', R v w' → K (a.put o.dst v) w') : o.wp P a w K Q := by
  unfold Oper.wp
  generalize (execOp a.eval o).run P w = r at *
  cases r with
  | ok n w' =>
    cases n <;> simp only [OpRes] at h <;> simp only [Oper.upon]
    case value u => exact hK _ _ h
    case skip => exact hK _ _ h
    case enter f args => exact h.mono fun e w'' ⟨v, he, hR⟩ => by subst he; exact hK _ _ hR
  | halt x w' => simp only [OpRes] at h

theorem foldS_sound (f : Int → Int → Int) (op : Value → Value → Sem Value) (hop : ∀ k a b w, (op (.int k a) (.int k b)).run P w = .ok (.int k (f a b)) w) : ∀ (xs : List SV) (us : List Value) (k : IntKind) (a n : Int) (w : World), foldS f k a xs = some n → F2 (vrel env N) xs us →
    (us.foldlM op (.int k a)).run P w = .ok (.int k n) w
  | [], us, k, a, n, w, h, hu => by
    cases hu
    simp only [foldS, Option.some.injEq] at h
    subst h
    rfl
  | x :: xs, us, k, a, n, w, h, hu => by
    cases hu with
    | cons hx hxs =>
      unfold foldS at h
      split at h
      · rename_i e; simp at e
      · rename_i k' b xs' e
        simp only [List.cons.injEq] at e
        obtain ⟨rfl, rfl⟩ := e
        split at h
        · rename_i hk
          subst hk
          have hb := hx
          simp only [vrel, vrel1, crel] at hb
          subst hb
          rw [List.foldlM_cons, Sem.run_bind, hop, Result.andThen_ok]
          exact foldS_sound f op hop xs _ k _ n w h hxs
        · cases h
      · cases h
theorem run_max2 (k : IntKind) (a b : Int) (w : World) : (Builtin.max2 (.int k a) (.int k b)).run P w = .ok (.int k (max a b)) w := by
  simp only [Builtin.max2, Sem.run_pure]
  congr 2
  split <;> omega
theorem run_min2 (k : IntKind) (a b : Int) (w : World) : (Builtin.min2 (.int k a) (.int k b)).run P w = .ok (.int k (min a b)) w := by
  simp only [Builtin.min2, Sem.run_pure]
  congr 2
  split <;> omega

theorem bltn_sound (cfg : Cfg cod) {H : Heap cod} {w : World} {M : Nat → Prop} {b : Builtin} {ts : Array TypeId} {ty : TypeId} {cs : Array Bool} {args : List SV} {vs : List Value} {out : Out cod} (h : (builtinS cfg H b ts args).gives out) (G : Good env H w M) (hM : ∀ k, w.heap.size ≤ k → M k)
    (ha : F2 (vrel env H.length) args vs) : OpRes cfg.P (After env H w M out) ((builtin b ts ty cs vs.toArray).run cfg.P w) := by
  unfold builtinS at h
  split at h
  · rename_i x
    cases ha with
    | @cons _ u _ _ hx hn =>
      cases hn
      have fin : ∀ v, (Builtin.len_ ts ty #[u]).run cfg.P w = .ok v w → After env H w M out v w → OpRes cfg.P (After env H w M out) ((builtin .len ts ty cs [u].toArray).run cfg.P w) := by
        intro v hv hA
        simp only [builtin, Sem.run_bind, Sem.run_pure, hv, Result.andThen_ok]
        exact hA
      cases ht : ts[0]? with
      | none => simp only [ht, Option.bind_none] at h; exact h.elim
      | some t =>
        simp only [ht, Option.bind_some] at h
        split at h
        · rename_i s hu
          rw [T.gives_ret] at h
          subst h
          have hx' := hx
          simp only [vrel, vrel1, crel] at hx'
          subst hx'
          refine fin (.int .i64 s.length) ?_ (after_same G rfl)
          simp [Builtin.len_, ht, run_underlying hu, goInt, bytes_size]
        · rename_i n e hu
          rw [T.gives_ret] at h
          subst h
          refine fin (.int .i64 n) ?_ (after_same G rfl)
          simp [Builtin.len_, ht, run_underlying hu, goInt]
        · rename_i e hu
          split at h
          · rename_i hh i n t' hs
            rw [T.gives_ret] at h
            subst h
            obtain ⟨_, A, c, rfl, _⟩ := asSlc_rel hs hx
            refine fin (.int .i64 n) ?_ (after_same G rfl)
            simp [Builtin.len_, ht, run_underlying hu, goInt]
          · split at h
            · rw [T.gives_ret] at h
              subst h
              have hx' := hx
              simp only [vrel, vrel1, crel] at hx'
              subst hx'
              refine fin (.int .i64 0) ?_ (after_same G rfl)
              simp [Builtin.len_, ht, run_underlying hu, goInt]
            · exact h.elim
        · exact h.elim
  · rename_i k a xs
    split at h
    · rename_i n hn
      rw [T.gives_ret] at h
      subst h
      cases ha with
      | @cons _ u _ us hx hxs =>
        have hx' := hx
        simp only [vrel, vrel1, crel] at hx'
        subst hx'
        have := foldS_sound (P := cfg.P) max Builtin.max2 (fun k a b w => run_max2 k a b w) xs us k a n w hn hxs
        simp only [builtin, Builtin.max_, Sem.run_bind, this, Result.andThen_ok, Sem.run_pure]
        exact after_same G rfl
    · exact h.elim
  · rename_i k a xs
    split at h
    · rename_i n hn
      rw [T.gives_ret] at h
      subst h
      cases ha with
      | @cons _ u _ us hx hxs =>
        have hx' := hx
        simp only [vrel, vrel1, crel] at hx'
        subst hx'
        have := foldS_sound (P := cfg.P) min Builtin.min2 (fun k a b w => run_min2 k a b w) xs us k a n w hn hxs
        simp only [builtin, Builtin.min_, Sem.run_bind, this, Result.andThen_ok, Sem.run_pure]
        exact after_same G rfl
    · exact h.elim
  · rename_i s x
    split at h
    · rename_i t t' ht ht'
      split at h
      · rename_i e
        subst e
        cases ha with
        | @cons _ u _ _ hs hn =>
          cases hn with
          | @cons _ v _ _ hx hn =>
            cases hn
            obtain ⟨v', w', h1, h2⟩ := append_sound (ty := ty) cfg h G hM hs hx
            have e : (Builtin.append_ ts ty #[u, v]).run cfg.P w = (Builtin.append_ #[t, t] ty #[u, v]).run cfg.P w := by
              simp only [Builtin.append_, ht, ht', List.getElem?_toArray, List.getElem?_cons_zero, List.getElem?_cons_succ]
            simp only [builtin, Sem.run_bind, e, h1, Result.andThen_ok, Sem.run_pure]
            exact h2
      · exact h.elim
    · exact h.elim
  · exact h.elim
end
end Go.Proofs.Ythljcjighomgkaa.Sym
