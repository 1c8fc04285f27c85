/- A symbolic run is sound: what an operation's outcome refers to. -/
import Derived.Test.YtiolfkmkbccndaaGreatDoorSym13k
namespace Go.Proofs.YtiolfkmkbccndaaGreatDoor.Sym
open Go.RowKit

section
variable {cod : Nat → Codec}

/-- The operations that a region with kept places may hold. -/
def okP (o : Oper) : Bool :=
  match o.op with
  | .move x | .assign x => !nilConst x
  | .nilCheck _ | .fieldAddr _ _ _ | .load _ _ | .indexAddr _ _ _ | .store _ _ _ | .binOp _ _ _ _ _ | .unOp _ _ _ | .alloc _ | .box _ _ => true
  | _ => false
theorem binS_hs {wrap : Bool} {op : BinOp} {x y r : SV} (h : (binS wrap op x y).gives r) : r.hs = [] := by
  have ar : ∀ {k : IntKind} {n : Int} {r : SV}, (arith wrap k n).gives r → r.hs = [] := fun h => by rw [arith_ok h]; rfl
  have bo : ∀ {b : Bool} {r : SV}, (boolS b).gives r → r.hs = [] := fun h => by rw [boolS, T.gives_ret] at h; rw [← h]; rfl
  unfold binS at h
  split at h
  · split at h
    · rw [T.gives_need, T.gives_ret] at h; rw [← h.2]; rfl
    · rw [T.gives_need, T.gives_ret] at h; rw [← h.2]; rfl
    · split at h
      · split at h
        · exact ar h
        · exact ar h
        · exact ar h
        · rw [T.gives_need] at h; exact ar h.2
        · rw [T.gives_need, T.gives_ret] at h; rw [← h.2]; rfl
        · rw [T.gives_ret] at h; rw [← h]; rfl
        · rw [T.gives_ret] at h; rw [← h]; rfl
        · rw [T.gives_ret] at h; rw [← h]; rfl
        · rw [T.gives_ret] at h; rw [← h]; rfl
        · exact bo h
        · exact bo h
        · exact bo h
        · exact bo h
        · exact bo h
        · exact bo h
        · exact h.elim
      · exact h.elim
  · split at h
    · rw [T.gives_need, T.gives_ret] at h; rw [← h.2]; rfl
    all_goals first | exact h.elim | exact bo h
  · exact h.elim
theorem binAll_hs {P : Program} {wrap : Bool} {op : BinOp} {t : TypeId} {x y r : SV} (h : (binAllS P wrap op t x y).gives r) : r.hs = [] := by
  have bo : ∀ {b : Bool} {r : SV}, (boolS b).gives r → r.hs = [] := fun h => by rw [boolS, T.gives_ret] at h; rw [← h]; rfl
  unfold binAllS at h
  split at h
  · exact binS_hs h
  · exact binS_hs h
  · unfold fltS at h
    split at h
    · split at h
      case h_7 => rw [T.gives_need, T.gives_ret] at h; rw [← h.2]; rfl
      case h_8 => exact h.elim
      all_goals exact bo h
    · exact h.elim
  · split at h
    · split at h
      · exact bo h
      · split at h
        · rw [T.gives_need] at h; exact bo h.2
        · exact h.elim
    · split at h
      · exact bo h
      · split at h
        · rw [T.gives_need] at h; exact bo h.2
        · exact h.elim
    · exact h.elim
theorem un_hs {wrap : Bool} {op : UnOp} {x r : SV} (h : (unS wrap op x).gives r) : r.hs = [] := by
  unfold unS at h
  split at h
  · rw [arith_ok h]; rfl
  · split at h
    · rw [boolS, T.gives_ret] at h; rw [← h]; rfl
    · exact h.elim
  · exact h.elim
theorem scalar_hs {c : Cell} (h : c.scalar = true) : c.hs = [] := by cases c <;> simp [Cell.scalar] at h <;> rfl
theorem loadS_hs {H : Heap cod} {h i o n : Nat} {cs : List Cell} (hl : (loadS H h i o n).gives cs) : ∀ k ∈ cs.flatMap Cell.hs, ∃ ob ∈ H, k ∈ ob.hs := by
  have row : ∀ (t : Nat) (l : List (cod t).α), (if o + n ≤ (cod t).size then T.need (i < l.length) (T.ret ((((cod t).enc (l.getD i (cod t).d)).drop o).take n)) else if i = 0 ∧ o = 0 then T.need (l.length * (cod t).size = n) (T.ret (l.flatMap (cod t).enc)) else T.fail : T (List Cell)).gives cs → ∀ k ∈ cs.flatMap Cell.hs, ∃ ob ∈ H, k ∈ ob.hs := by
    intro t l hg k hk
    obtain ⟨c, hc, hkc⟩ := List.mem_flatMap.1 hk
    exfalso
    have : c.scalar = true := by
      split at hg
      · rw [T.gives_need, T.gives_ret] at hg
        rw [← hg.2] at hc
        exact List.all_eq_true.1 ((cod t).scal _) c (List.mem_of_mem_drop (List.mem_of_mem_take hc))
      · split at hg
        · rw [T.gives_need, T.gives_ret] at hg
          rw [← hg.2] at hc
          exact List.all_eq_true.1 (flat_all _ _) c hc
        · exact hg.elim
    rw [scalar_hs this] at hkc
    cases hkc
  have blk : ∀ (c0 : List Cell) (ob : HObj cod), getObj H h = ob → ob ≠ .dead → ob.hs = c0.flatMap Cell.hs → (if i = 0 ∧ o + n ≤ c0.length then T.ret ((c0.drop o).take n) else T.fail : T (List Cell)).gives cs → ∀ k ∈ cs.flatMap Cell.hs, ∃ ob ∈ H, k ∈ ob.hs := by
    intro c0 ob ho hd he hg k hk
    split at hg
    · rw [T.gives_ret] at hg
      subst hg
      obtain ⟨c, hc, hkc⟩ := List.mem_flatMap.1 hk
      refine ⟨ob, List.mem_of_getElem? (getObj_obj ho hd), ?_⟩
      rw [he]
      exact List.mem_flatMap.2 ⟨c, List.mem_of_mem_drop (List.mem_of_mem_take hc), hkc⟩
    · exact hg.elim
  unfold loadS at hl
  cases ho : getObj H h with
  | blk c0 ty => rw [ho] at hl; exact blk c0 _ ho (by simp) rfl hl
  | rblk c0 => rw [ho] at hl; exact blk c0 _ ho (by simp) rfl hl
  | pblk c0 => rw [ho] at hl; exact blk c0 _ ho (by simp) rfl hl
  | nown t LL js cs0 ty tyr =>
    rw [ho] at hl
    simp only at hl
    split at hl
    · have key : ∀ (js' : List Nat) (cs' : List Cell), (∀ c ∈ cs', c ∈ cs0) → (pickO LL.length i js' cs').gives cs → ∃ c ∈ cs0, cs = [c] := by
        intro js'
        induction js' with
        | nil => intro cs' _ hp; cases cs' <;> exact hp.elim
        | cons j js' ih =>
          intro cs' hk hp
          cases cs' with
          | nil => cases js' <;> exact hp.elim
          | cons c cs' =>
            have two : ((T.ite (decide (i = j)) (.need (j < LL.length) (.ret [c])) (pickO LL.length i js' cs') : T (List Cell))).gives cs → ∃ c ∈ cs0, cs = [c] := fun hp => by
              by_cases e : i = j
              · exact ⟨c, hk c (List.mem_cons_self ..), (hp.1 (decide_eq_true e)).2.symm⟩
              · exact ih cs' (fun c hc => hk c (List.mem_cons_of_mem _ hc)) (hp.2 (decide_eq_false e))
            cases js' with
            | nil =>
              cases cs' with
              | nil => exact ⟨c, hk c (List.mem_cons_self ..), hp.2.symm⟩
              | cons c' cs' => exact two hp
            | cons j' js' => exact two hp
      obtain ⟨c, hc, rfl⟩ := key js cs0 (fun _ h => h) hl
      intro k hk
      simp only [List.flatMap_cons, List.flatMap_nil, List.append_nil] at hk
      exact ⟨_, List.mem_of_getElem? (getObj_obj ho (by simp)), List.mem_flatMap.2 ⟨c, hc, hk⟩⟩
    · exact hl.elim
  | arr t l ty => rw [ho] at hl; exact row t l hl
  | sarr pre t m l post ty =>
    rw [ho] at hl
    intro k hk
    exfalso
    obtain ⟨c, hc, hkc⟩ := List.mem_flatMap.1 hk
    have : c.scalar = true := by
      simp only at hl
      split at hl
      · rw [T.gives_need, T.gives_ret] at hl
        rw [← hl.2] at hc
        exact List.all_eq_true.1 ((cod t).scal _) c (List.mem_of_mem_drop (List.mem_of_mem_take hc))
      · split at hl
        · rename_i hq
          rw [T.gives_ret] at hl
          rw [← hl] at hc
          exact List.all_eq_true.1 hq.2.2 c hc
        · split at hl
          · rw [T.gives_ret] at hl
            rw [← hl] at hc
            exact List.all_eq_true.1 (flat_all _ _) c hc
          · split at hl
            · rename_i hq
              rw [T.gives_ret] at hl
              rw [← hl] at hc
              exact List.all_eq_true.1 hq.2.2.2 c hc
            · exact hl.elim
    rw [scalar_hs this] at hkc
    cases hkc
  | own t l ty => rw [ho] at hl; exact row t l hl
  | inp t l => rw [ho] at hl; exact row t l hl
  | nin t LL op =>
    rw [ho] at hl
    cases op with
    | none => exact hl.elim
    | some p =>
      obtain ⟨j, c⟩ := p
      simp only at hl
      split at hl
      · rw [T.gives_need, T.gives_ret] at hl
        obtain ⟨_, rfl⟩ := hl
        intro k hk
        refine ⟨_, List.mem_of_getElem? (getObj_obj ho (by simp)), ?_⟩
        simpa [HObj.hs] using hk
      · exact hl.elim
  | dead => rw [ho] at hl; exact hl.elim
theorem asSlc_mem {x : SV} {h i n : Nat} {t : Bool} (e : asSlc x = some (h, i, n, t)) : h ∈ x.hs := by
  unfold asSlc at e
  split at e
  · cases e; exact List.mem_singleton.2 rfl
  · cases e; exact List.mem_singleton.2 rfl
  · cases e
theorem indexAddrS_hs {P : Program} {H : Heap cod} {t : TypeId} {x ix r : SV} (h : (indexAddrS P H t x ix).gives r) : ∀ k ∈ r.hs, k ∈ x.hs := by
  unfold indexAddrS at h
  split at h
  · split at h
    · split at h
      · split at h
        · rw [T.gives_need, T.gives_ret] at h; rw [← h.2]; exact fun _ h => h
        · split at h
          · rw [T.gives_need, T.gives_ret] at h; rw [← h.2]; exact fun _ h => h
          · exact h.elim
      · split at h
        · split at h
          · rw [T.gives_ret] at h; rw [← h]; exact fun _ h => h
          · exact h.elim
        · exact h.elim
      · split at h
        · split at h
          · rw [T.gives_ret] at h; rw [← h]; exact fun _ h => h
          · exact h.elim
        · exact h.elim
      · split at h
        · rw [T.gives_need, T.gives_ret] at h; rw [← h.2]; exact fun _ h => h
        · exact h.elim
      · split at h
        · rw [T.gives_need, T.gives_ret] at h; rw [← h.2]; exact fun _ h => h
        · exact h.elim
      · exact h.elim
    · exact h.elim
  · split at h
    · rename_i hs
      have hm : ∀ k, k = _ → k ∈ x.hs := fun k hk => by rw [hk]; exact asSlc_mem hs
      split at h
      all_goals first
        | exact h.elim
        | (split at h
           · rw [T.gives_need, T.gives_ret] at h
             rw [← h.2]
             intro k hk
             simp only [SV.hs, Cell.hs, List.mem_singleton] at hk
             exact hm k hk
           · exact h.elim)
        | (split at h
           · split at h
             · rw [T.gives_ret] at h
               rw [← h]
               intro k hk
               simp only [SV.hs, Cell.hs, List.mem_singleton] at hk
               exact hm k hk
             · exact h.elim
           · exact h.elim)
    · exact h.elim
  · exact h.elim
theorem storeS_hs {H H' : Heap cod} {h i o : Nat} {xs : List Cell} (hs : (storeS H h i o xs).gives H') : (∀ ob ∈ H', ∀ k ∈ ob.hs, (∃ ob ∈ H, k ∈ ob.hs) ∨ k ∈ xs.flatMap Cell.hs) ∧ ∀ k, (getObj H' k).isHold = true → (getObj H k).isHold = true := by
  have key : ∀ (ob ob' : HObj cod), getObj H h = ob → ob ≠ .dead → ob'.isHold = false → (∀ k ∈ ob'.hs, k ∈ ob.hs ∨ k ∈ xs.flatMap Cell.hs) → H' = H.set h ob' → (∀ ob ∈ H', ∀ k ∈ ob.hs, (∃ ob ∈ H, k ∈ ob.hs) ∨ k ∈ xs.flatMap Cell.hs) ∧ ∀ k, (getObj H' k).isHold = true → (getObj H k).isHold = true := by
    intro ob ob' ho hd hh hsub he
    subst he
    have hg := getObj_obj ho hd
    refine ⟨fun a ha k hk => ?_, fun k hk => ?_⟩
    · rcases List.mem_or_eq_of_mem_set ha with h1 | h1
      · exact .inl ⟨a, h1, hk⟩
      · subst h1
        rcases hsub k hk with h2 | h2
        · exact .inl ⟨ob, List.mem_of_getElem? hg, h2⟩
        · exact .inr h2
    · by_cases e : k = h
      · subst e
        rw [getObj_of_some (List.getElem?_set_self (List.getElem?_eq_some_iff.1 hg).1), hh] at hk
        cases hk
      · unfold getObj at hk ⊢
        simp only [List.getD] at hk ⊢
        rwa [List.getElem?_set_ne (by omega)] at hk
  unfold storeS at hs
  cases ho : getObj H h with
  | blk c0 ty =>
    rw [ho] at hs
    simp only at hs
    split at hs
    · rw [T.gives_ret] at hs
      refine key _ _ ho (by simp) rfl (fun k hk => ?_) hs.symm
      obtain ⟨c, hc, hkc⟩ := List.mem_flatMap.1 hk
      unfold splice at hc
      rcases List.mem_append.1 hc with h1 | h1
      · exact .inl (List.mem_flatMap.2 ⟨c, List.mem_of_mem_take h1, hkc⟩)
      · rcases List.mem_append.1 h1 with h2 | h2
        · exact .inr (List.mem_flatMap.2 ⟨c, h2, hkc⟩)
        · exact .inl (List.mem_flatMap.2 ⟨c, List.mem_of_mem_drop h2, hkc⟩)
    · exact hs.elim
  | arr t l ty =>
    rw [ho] at hs
    simp only at hs
    split at hs
    · rw [T.gives_need, T.gives_ret] at hs; exact key _ _ ho (by simp) (by rfl) (fun k hk => by cases hk) hs.2.symm
    · exact hs.elim
  | own t l ty =>
    rw [ho] at hs
    simp only at hs
    split at hs
    · rw [T.gives_need, T.gives_ret] at hs; exact key _ _ ho (by simp) (by rfl) (fun k hk => by cases hk) hs.2.symm
    · exact hs.elim
  | sarr pre t m l post ty =>
    rw [ho] at hs
    simp only at hs
    split at hs
    · rw [T.gives_need, T.gives_ret] at hs; exact key _ _ ho (by simp) (by rfl) (fun k hk => by cases hk) hs.2.symm
    · split at hs
      · rw [T.gives_ret] at hs; exact key _ _ ho (by simp) (by rfl) (fun k hk => by cases hk) hs.symm
      · split at hs
        · rw [T.gives_ret] at hs; exact key _ _ ho (by simp) (by rfl) (fun k hk => by cases hk) hs.symm
        · exact hs.elim
  | rblk c0 => rw [ho] at hs; exact hs.elim
  | pblk c0 => rw [ho] at hs; exact hs.elim
  | inp t l => rw [ho] at hs; exact hs.elim
  | nin t LL op => rw [ho] at hs; exact hs.elim
  | nown t LL js cs ty tyr => rw [ho] at hs; exact hs.elim
  | dead => rw [ho] at hs; exact hs.elim
/-- What an operation's outcome refers to was referred to before, or is the variable that it made. -/
theorem op_srcs {cfg : Cfg cod} {tm : List SV} {H : Heap cod} {o : Oper} {out : Out cod} (hk : okP o = true) (hp : isNewOp o = true → (o.dst.bind cfg.place).isSome = true) (h : (opS cfg tm H o).gives out) :
    (∀ k ∈ out.v.hs, srcs tm H k ∨ (getObj out.H k).isHold = false) ∧ (∀ ob ∈ out.H, ∀ k ∈ ob.hs, srcs tm H k) ∧ ∀ k, (getObj out.H k).isHold = true → (getObj H k).isHold = true := by
  have same : out.H = H → (∀ k ∈ out.v.hs, srcs tm H k) → (∀ k ∈ out.v.hs, srcs tm H k ∨ (getObj out.H k).isHold = false) ∧ (∀ ob ∈ out.H, ∀ k ∈ ob.hs, srcs tm H k) ∧ ∀ k, (getObj out.H k).isHold = true → (getObj H k).isHold = true := fun e hv => by
    rw [e]
    exact ⟨fun k hk => .inl (hv k hk), fun ob hob k hk => .inr ⟨ob, hob, hk⟩, fun _ h => h⟩
  have keep : ∀ {t : T SV}, (∀ r, t.gives r → ∀ k ∈ r.hs, srcs tm H k) → (t.bind fun v => T.ret ({ v := v, H := H } : Out cod)).gives out → (∀ k ∈ out.v.hs, srcs tm H k ∨ (getObj out.H k).isHold = false) ∧ (∀ ob ∈ out.H, ∀ k ∈ ob.hs, srcs tm H k) ∧ ∀ k, (getObj out.H k).isHold = true → (getObj H k).isHold = true := fun ht hh => by
    rw [T.gives_bind] at hh
    obtain ⟨v, h1, h2⟩ := hh
    rw [T.gives_ret] at h2
    subst h2
    exact same rfl (ht v h1)
  have mk : ∀ (t : TypeId) (cs : List Cell), (∀ k ∈ cs.flatMap Cell.hs, srcs tm H k) → isNewOp o = true → (mkNew cfg o.dst H (varObj cfg t cs)).gives out → (∀ k ∈ out.v.hs, srcs tm H k ∨ (getObj out.H k).isHold = false) ∧ (∀ ob ∈ out.H, ∀ k ∈ ob.hs, srcs tm H k) ∧ ∀ k, (getObj out.H k).isHold = true → (getObj H k).isHold = true := by
    intro t cs hcs hn hm
    obtain ⟨k, hk⟩ := Option.isSome_iff_exists.1 (hp hn)
    obtain ⟨hh, rfl⟩ := mkNew_some hk hm
    obtain ⟨_, _, v3, v4, _⟩ := varObj_plain cfg t cs
    have hg : H[k]? = some (getObj H k) := getObj_some (fun e => by rw [e] at hh; cases hh)
    have hset : getObj (H.set k (varObj cfg t cs)) k = varObj cfg t cs := getObj_of_some (List.getElem?_set_self (List.getElem?_eq_some_iff.1 hg).1)
    refine ⟨fun q hq => ?_, fun ob hob q hq => ?_, fun q hq => ?_⟩
    · simp only [SV.hs, Cell.hs, List.mem_singleton] at hq
      subst hq
      exact .inr (by simp only; rw [hset]; exact v3)
    · rcases List.mem_or_eq_of_mem_set hob with h1 | h1
      · exact .inr ⟨ob, h1, hq⟩
      · subst h1
        exact hcs q (v4 q hq)
    · by_cases e : q = k
      · subst e
        simp only at hq
        rw [hset, v3] at hq
        cases hq
      · unfold getObj at hq ⊢
        simp only [List.getD] at hq ⊢
        rwa [List.getElem?_set_ne (by omega)] at hq
  unfold okP at hk
  unfold opS at h
  cases ho : o.op with
  | move x =>
    simp only [ho] at hk h
    have hn : nilConst x = false := by simpa using hk
    simp only [hn] at h
    rw [T.gives_ret] at h
    subst h
    exact same rfl fun k hk => .inl (evS_srcs hk)
  | assign x =>
    simp only [ho] at hk h
    have hn : nilConst x = false := by simpa using hk
    simp only [hn] at h
    rw [T.gives_ret] at h
    subst h
    exact same rfl fun k hk => .inl (evS_srcs hk)
  | nilCheck x =>
    simp only [ho] at h
    split at h
    · rename_i k i off e
      rw [T.gives_ret] at h
      subst h
      exact same rfl fun k hk => .inl (evS_srcs (x := x) (by rw [e]; exact hk))
    · rename_i f caps e
      rw [T.gives_ret] at h
      subst h
      exact same rfl fun k hk => .inl (evS_srcs (x := x) (by rw [e]; exact hk))
    · exact h.elim
  | fieldAddr t x f =>
    simp only [ho] at h
    split at h
    · rename_i k i off fs e _
      split at h
      · split at h
        · exact h.elim
        · rw [T.gives_ret] at h
          subst h
          exact same rfl fun k hk => .inl (evS_srcs (x := x) (by rw [e]; exact hk))
      · exact h.elim
    · exact h.elim
  | load t x =>
    simp only [ho] at h
    split at h
    · rename_i k i off e
      split at h
      · exact keep (fun r hr k hk => by
          rw [T.gives_bind] at hr
          obtain ⟨cs, h1, h2⟩ := hr
          rw [T.gives_ret] at h2
          subst h2
          exact .inr (loadS_hs h1 k hk)) h
      · split at h
        · exact keep (fun r hr k hk => by
            rw [T.gives_bind] at hr
            obtain ⟨cs, h1, h2⟩ := hr
            split at h2
            · rename_i c
              rw [T.gives_ret] at h2
              subst h2
              exact .inr (loadS_hs h1 k (by simpa [SV.hs] using hk))
            · exact h2.elim) h
        · exact h.elim
    · exact h.elim
  | indexAddr t x ix =>
    simp only [ho] at h
    exact keep (fun r hr k hk => .inl (evS_srcs (indexAddrS_hs hr k hk))) h
  | store t x y =>
    simp only [ho] at h
    split at h
    · split at h
      · rw [T.gives_bind] at h
        obtain ⟨H', hs, hr⟩ := h
        rw [T.gives_ret] at hr
        subst hr
        obtain ⟨h1, h2⟩ := storeS_hs hs
        refine ⟨(fun k hk => by cases hk), fun ob hob k hk => ?_, h2⟩
        rcases h1 ob hob k hk with h3 | h3
        · exact .inr h3
        · exact cells_srcs h3
      · exact h.elim
    · exact h.elim
  | binOp op t x y ty =>
    simp only [ho] at h
    exact keep (fun r hr k hk => by rw [binAll_hs hr] at hk; cases hk) h
  | unOp op t x =>
    simp only [ho] at h
    exact keep (fun r hr k hk => by rw [un_hs hr] at hk; cases hk) h
  | alloc e =>
    simp only [ho] at h
    split at h
    · rename_i cs hz
      refine mk e cs (fun k hk => ?_) (by unfold isNewOp; rw [ho]) h
      unfold zeroCells at hz
      split at hz
      · cases hz
        rw [ofValue_nohs] at hk
        cases hk
      · cases hz
    · exact h.elim
  | box e x =>
    simp only [ho] at h
    split at h
    · exact mk e _ (fun k hk => cells_srcs hk) (by unfold isNewOp; rw [ho]) h
    · exact h.elim
  | _ => simp only [ho] at hk; cases hk
end
end Go.Proofs.YtiolfkmkbccndaaGreatDoor.Sym
