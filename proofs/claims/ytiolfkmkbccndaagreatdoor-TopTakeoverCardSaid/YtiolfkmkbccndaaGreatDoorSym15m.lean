/- A symbolic run is sound: a read and a write of different objects may come in either order. -/
import Derived.Test.YtiolfkmkbccndaaGreatDoorSym15
namespace Go.Proofs.YtiolfkmkbccndaaGreatDoor.Sym
open Go.RowKit

section
variable {cod : Nat → Codec}

/-- Each temporary holds what it held at the region's beginning or what it holds at its end. -/
def Btw (a b tm : List SV) : Prop := ∀ t, tm.getD t (.c .junk) = a.getD t (.c .junk) ∨ tm.getD t (.c .junk) = b.getD t (.c .junk)
def hsAt (a b : List SV) (x : Operand) : List Nat := (evS a x).hs ++ (evS b x).hs
/-- The objects that an operation may read, if known. -/
def readU (a b : List SV) (o : Oper) : Option (List Nat) :=
  match o.op with
  | .load _ x => some (hsAt a b x)
  | .slice _ x _ _ _ => some (hsAt a b x)
  | .indexAddr _ x _ => some (hsAt a b x)
  | .convert _ _ x => some (hsAt a b x)
  | .call c => if (c.args.toList.all fun x => (hsAt a b x).isEmpty) = true then some [] else none
  | _ => none
def writeU (cfg : Cfg cod) (a b : List SV) (o : Oper) : Option (List Nat) :=
  match o.op with
  | .store _ x _ => some (hsAt a b x)
  | .alloc _ | .box _ _ => (o.dst.bind cfg.place).map fun k => [k]
  | _ => none
def disj : Option (List Nat) → Option (List Nat) → Bool
  | some l, some m => l.all fun x => !m.contains x
  | _, _ => false
/-- The same, rows made in kept places among them, and the own rows that grow into them. -/
def writeP (cfg : Cfg cod) (a b : List SV) (o : Oper) : Option (List Nat) := if isMoved o = true then (o.dst.bind cfg.place).map fun k => k :: (ownHs a o ++ ownHs b o) else writeU cfg a b o
def readP (a b : List SV) (o : Oper) : Option (List Nat) :=
  if isMoved o = true then (match o.op with
    | .call { args, .. } => some (args.toList.flatMap (hsAt a b))
    | _ => some [])
  else match o.op with
    | .store _ _ _ | .alloc _ | .box _ _ => some []
    | _ => readU a b o
def apartM (cfg : Cfg cod) (a b : List SV) (oi oj : Oper) : Bool :=
  (kindP cfg oi == 1 && kindP cfg oj == 3 && disj (readP a b oi) (writeP cfg a b oj)) || (kindP cfg oi == 3 && kindP cfg oj == 1 && disj (writeP cfg a b oi) (readP a b oj)) ||
    (kindP cfg oi == 3 && kindP cfg oj == 3 && (disj (writeP cfg a b oi) (writeP cfg a b oj) && (disj (readP a b oi) (writeP cfg a b oj) && disj (writeP cfg a b oi) (readP a b oj))))

theorem btw_ev {a b tm : List SV} (h : Btw a b tm) (x : Operand) : ∀ k ∈ (evS tm x).hs, k ∈ hsAt a b x := by
  intro k hk
  unfold hsAt
  cases x with
  | tmp t =>
    simp only [evS] at hk ⊢
    rcases h t with e | e
    · rw [e] at hk
      exact List.mem_append_left _ hk
    · rw [e] at hk
      exact List.mem_append_right _ hk
  | const v => exact List.mem_append_left _ hk
  | global g => exact List.mem_append_left _ hk
  | func f => exact List.mem_append_left _ hk
theorem btw_own {a b tm : List SV} (hB : Btw a b tm) (o : Oper) : ∀ k ∈ ownHs tm o, k ∈ ownHs a o ++ ownHs b o := by
  intro k hk
  have key : ∀ x : Operand, evS tm x = evS a x ∨ evS tm x = evS b x := fun x => by
    cases x with
    | tmp t => exact hB t
    | _ => exact .inl rfl
  unfold ownHs at hk
  split at hk
  · rename_i args ats e
    split at hk
    · rename_i h n x he
      rw [List.mem_singleton] at hk
      subst hk
      obtain ⟨p, q, hp⟩ : ∃ p q, args.toList = [p, q] := by
        have hl : args.toList.length = 2 := by simpa using congrArg List.length he
        cases hl' : args.toList with
        | nil => rw [hl'] at hl; cases hl
        | cons p ps =>
          cases ps with
          | nil => rw [hl'] at hl; simp at hl
          | cons q qs =>
            cases qs with
            | nil => exact ⟨p, q, rfl⟩
            | cons _ _ => rw [hl'] at hl; simp at hl
      rw [hp] at he
      simp only [List.map_cons, List.map_nil, List.cons.injEq, and_true] at he
      have mk : ∀ c : List SV, evS tm p = evS c p → k ∈ ownHs c o := fun c hc => by
        unfold ownHs
        rw [e]
        simp only [hp, List.map_cons, List.map_nil, ← hc, he.1, List.mem_singleton]
      rcases key p with g | g
      · exact List.mem_append_left _ (mk a g)
      · exact List.mem_append_right _ (mk b g)
    · cases hk
  · cases hk
/-- Objects written. -/
def setW (H : Heap cod) : List (Nat × HObj cod) → Heap cod
  | [] => H
  | p :: ps => setW (H.set p.1 p.2) ps
theorem getObj_setW {H : Heap cod} {j : Nat} : ∀ {ws : List (Nat × HObj cod)}, (∀ p ∈ ws, p.1 ≠ j) → getObj (setW H ws) j = getObj H j := by
  intro ws
  induction ws generalizing H with
  | nil => intro _; rfl
  | cons p ps ih =>
    intro h
    rw [setW, ih fun q hq => h q (List.mem_cons_of_mem _ hq)]
    unfold getObj
    simp only [List.getD]
    rw [List.getElem?_set_ne (h p (List.mem_cons_self ..))]
theorem setW_set {H : Heap cod} {k : Nat} {ob : HObj cod} : ∀ {ws : List (Nat × HObj cod)}, (∀ p ∈ ws, p.1 ≠ k) → setW (H.set k ob) ws = (setW H ws).set k ob := by
  intro ws
  induction ws generalizing H with
  | nil => intro _; rfl
  | cons p ps ih =>
    intro h
    rw [setW, setW, ← ih fun q hq => h q (List.mem_cons_of_mem _ hq), List.set_comm _ _ (h p (List.mem_cons_self ..))]
theorem setW_comm {H : Heap cod} {ws : List (Nat × HObj cod)} : ∀ {vs : List (Nat × HObj cod)}, (∀ p ∈ ws, ∀ q ∈ vs, p.1 ≠ q.1) → setW (setW H vs) ws = setW (setW H ws) vs := by
  intro vs
  induction vs generalizing H with
  | nil => intro _; rfl
  | cons q qs ih =>
    intro h
    rw [setW, setW, ih fun p hp r hr => h p hp r (List.mem_cons_of_mem _ hr), setW_set fun p hp => h p hp q (List.mem_cons_self ..)]
theorem getObj_set_ne {H : Heap cod} {k j : Nat} {ob : HObj cod} (h : j ≠ k) : getObj (H.set k ob) j = getObj H j := by
  unfold getObj
  simp only [List.getD]
  rw [List.getElem?_set_ne (Ne.symm h)]
theorem loadS_obj {H H' : Heap cod} {h i o n : Nat} (e : getObj H' h = getObj H h) : loadS H' h i o n = loadS H h i o n := by
  unfold loadS
  rw [e]
theorem asSlc_hs {x : SV} {h i n : Nat} {t : Bool} (e : asSlc x = some (h, i, n, t)) : h ∈ x.hs := by
  unfold asSlc at e
  split at e <;> simp_all [SV.hs, Cell.hs]
theorem indexAddrS_obj {P : Program} {H H' : Heap cod} {t : TypeId} {x ix : SV} (e : ∀ k ∈ x.hs, getObj H' k = getObj H k) : indexAddrS P H' t x ix = indexAddrS P H t x ix := by
  unfold indexAddrS
  split
  · split
    · rw [e _ (by simp [SV.hs, Cell.hs])]
    · rfl
  · split
    · rename_i h i n t' hs
      rw [e _ (asSlc_hs hs)]
    · rfl
  · rfl
theorem sliceS_obj {P : Program} {H H' : Heap cod} {t : TypeId} {x : SV} {lo hi mx : Option SV} (e : ∀ k ∈ x.hs, getObj H' k = getObj H k) : sliceS P H' t x lo hi mx = sliceS P H t x lo hi mx := by
  unfold sliceS
  split
  · split
    · unfold sliceA
      split
      · rename_i hh i
        rw [e hh (by simp [SV.hs, Cell.hs])]
      · rfl
    · rfl
  · rfl
  · split
    · rfl
    · rename_i h i n t' hs
      rw [e _ (asSlc_hs hs)]
  · rfl
theorem callS_free {cfg : Cfg cod} {H : Heap cod} {g : FuncId} {args : List SV} {out : Out cod} (hsm : (cfg.summ g).isSome = true) (ha : args.flatMap SV.hs = []) (hq : cfg.quiet g = true) (h : (callS cfg H g args).gives out) : out.H = H ∧ out.kill = [] ∧ ∀ H', (callS cfg H' g args).gives { v := out.v, H := H' } := by
  have hre : ∀ H : Heap cod, reach H 3 (addNew [] (args.flatMap SV.hs)) = [] := fun H => by rw [ha]; rfl
  obtain ⟨s, hs⟩ := Option.isSome_iff_exists.1 hsm
  unfold callS at h ⊢
  simp only [hs] at h ⊢
  unfold callR at h ⊢
  · simp only [hre] at h ⊢
    simp only [ha, List.all_nil, and_self, if_true, List.map_nil, List.length_nil, Nat.zero_add] at h ⊢
    rw [T.gives_bind] at h
    obtain ⟨⟨r, news⟩, hr, h⟩ := h
    simp only at h
    split at h
    · rename_i hc
      obtain ⟨h1, h2, h3⟩ := hc
      have hn := h3 hq
      subst hn
      rw [T.gives_ret] at h
      subst h
      refine ⟨by simp, rfl, fun H' => ?_⟩
      rw [T.gives_bind]
      refine ⟨(r, []), hr, ?_⟩
      rw [if_pos ⟨h1, h2, h3⟩, T.gives_ret]
      simp only [List.map_nil, List.append_nil]
      congr 1
      refine mapC_congr fun k hk => ?_
      have := List.all_eq_true.1 h2 k hk
      simp at this
    · exact h.elim
theorem kind1m {cfg : Cfg cod} {a b tm : List SV} {H : Heap cod} {o : Oper} {out : Out cod} {hs : List Nat} (hB : Btw a b tm) (hk : kindOf cfg o = 1) (hr : readU a b o = some hs) (h : (opS cfg tm H o).gives out) :
    out.H = H ∧ out.kill = [] ∧ ∀ H', (∀ k ∈ hs, getObj H' k = getObj H k) → (opS cfg tm H' o).gives { v := out.v, H := H' } := by
  have keep : ∀ {t : T SV} {t' : Heap cod → T SV} {p : Heap cod → Prop}, (∀ H', p H' → t' H' = t) → (t.bind fun v => T.ret ({ v := v, H := H } : Out cod)).gives out → out.H = H ∧ out.kill = [] ∧ ∀ H', p H' → ((t' H').bind fun v => T.ret ({ v := v, H := H' } : Out cod)).gives { v := out.v, H := H' } := fun {t} {t'} {p} ht hh => by
    rw [T.gives_bind] at hh
    obtain ⟨v, h1, h2⟩ := hh
    rw [T.gives_ret] at h2
    subst h2
    exact ⟨rfl, rfl, fun H' hp => T.gives_bind.2 ⟨v, by rw [ht H' hp]; exact h1, rfl⟩⟩
  unfold opS at h ⊢
  unfold kindOf at hk
  unfold readU at hr
  cases ho : o.op with
  | load t x =>
    simp only [ho, Option.some.injEq] at h hr ⊢
    subst hr
    have hb := btw_ev hB x
    split at h
    · rename_i k i off e
      rw [e] at hb
      have hin : k ∈ hsAt a b x := hb k (by simp [SV.hs, Cell.hs])
      split at h
      · rename_i hag
        simp only [hag, if_true]
        exact keep (p := fun H' => ∀ k ∈ hsAt a b x, getObj H' k = getObj H k) (t' := fun H' => (loadS H' k i off (cfg.P.cellsOf t)).bind fun cs => .ret (.agg cs)) (fun H' hp => by rw [loadS_obj (hp k hin)]) h
      · rename_i hag
        split at h
        · rename_i hu
          simp only [hag, hu, if_true, Bool.false_eq_true, if_false]
          exact keep (p := fun H' => ∀ k ∈ hsAt a b x, getObj H' k = getObj H k) (t' := fun H' => (loadS H' k i off 1).bind fun cs => match cs with
            | [c] => .ret (.c c)
            | _ => .fail) (fun H' hp => by rw [loadS_obj (hp k hin)]; rfl) h
        · exact h.elim
    · exact h.elim
  | slice t x lo hi mx =>
    simp only [ho, Option.some.injEq] at h hr ⊢
    subst hr
    exact keep (p := fun H' => ∀ k ∈ hsAt a b x, getObj H' k = getObj H k) (fun H' hp => sliceS_obj fun k hk => hp k (btw_ev hB x k hk)) h
  | indexAddr t x ix =>
    simp only [ho, Option.some.injEq] at h hr ⊢
    subst hr
    exact keep (p := fun H' => ∀ k ∈ hsAt a b x, getObj H' k = getObj H k) (fun H' hp => indexAddrS_obj fun k hk => hp k (btw_ev hB x k hk)) h
  | convert s d x =>
    simp only [ho, Option.some.injEq] at hr
    subst hr
    have hb : bytesConv cfg.P s d = 2 := by
      simp only [ho] at hk
      split at hk
      · omega
      · split at hk
        · assumption
        · omega
    simp only [ho, hb] at h ⊢
    exact keep (p := fun H' => ∀ k ∈ hsAt a b x, getObj H' k = getObj H k) (fun H' hp => by
      unfold ofBytesS
      split
      · split
        · rw [rowsOf_obj fun k hk => hp k (btw_ev hB x k hk)]
        · rfl
      · rfl) h
  | call c =>
    obtain ⟨callee, args, ts⟩ := c
    simp only [ho] at hr
    split at hr
    · rename_i hall
      cases hr
      cases callee with
      | value f =>
        cases f with
        | func g =>
          simp only [ho] at hk h ⊢
          by_cases hxt : isExt cfg.P g = true
          · rw [if_pos hxt] at hk; omega
          rw [if_neg hxt] at hk
          have hsm : (cfg.summ g).isSome = true := by cases hx : (cfg.summ g).isSome <;> simp [hx] at hk; rfl
          have hq : cfg.quiet g = true := by cases hx : cfg.quiet g <;> simp [hx, hsm] at hk; rfl
          simp only [evS, List.map_nil, List.append_nil, if_neg hxt] at h ⊢
          have ha : (args.toList.map (evS tm)).flatMap SV.hs = [] := by
            rw [List.flatMap_eq_nil_iff]
            intro v hv
            obtain ⟨x, hx, rfl⟩ := List.mem_map.1 hv
            have := List.all_eq_true.1 hall x hx
            rw [List.isEmpty_iff] at this
            refine List.eq_nil_iff_forall_not_mem.2 fun k hk => ?_
            have := btw_ev hB x k hk
            simp_all
          obtain ⟨h1, h2, h3⟩ := callS_free hsm ha hq h
          exact ⟨h1, h2, fun H' _ => h3 H'⟩
        | _ => simp only [ho] at hk; omega
      | builtin b => simp only [ho] at hk; cases b <;> simp at hk
      | invoke r m => simp only [ho] at hk; omega
    · cases hr
  | _ => simp only [ho] at hr; cases hr
theorem storeS_obj {H H1 : Heap cod} {h i o : Nat} {xs : List Cell} (hh : (storeS H h i o xs).gives H1) : ∃ ob, H1 = H.set h ob ∧ ∀ H', getObj H' h = getObj H h → (storeS H' h i o xs).gives (H'.set h ob) := by
  unfold storeS at hh ⊢
  split at hh
  · rename_i cs ty e
    split at hh
    · rename_i hc
      rw [T.gives_ret] at hh
      subst hh
      exact ⟨_, rfl, fun H' h' => by rw [h', e]; simp only; rw [if_pos hc]; rfl⟩
    · exact hh.elim
  · rename_i t l ty e
    split at hh
    · rename_i hc
      obtain ⟨h1, h2⟩ := hh
      exact ⟨_, h2.symm, fun H' h' => by rw [h', e]; simp only; rw [if_pos hc]; exact ⟨h1, rfl⟩⟩
    · exact hh.elim
  · rename_i t l ty e
    split at hh
    · rename_i hc
      obtain ⟨h1, h2⟩ := hh
      exact ⟨_, h2.symm, fun H' h' => by rw [h', e]; simp only; rw [if_pos hc]; exact ⟨h1, rfl⟩⟩
    · exact hh.elim
  · rename_i pre t m l post ty e
    split at hh
    · rename_i hc
      obtain ⟨h1, h2⟩ := hh
      exact ⟨_, h2.symm, fun H' h' => by rw [h', e]; simp only; rw [if_pos hc]; exact ⟨h1, rfl⟩⟩
    · rename_i hn
      split at hh
      · rename_i hc
        rw [T.gives_ret] at hh
        subst hh
        exact ⟨_, rfl, fun H' h' => by rw [h', e]; simp only; rw [if_neg hn, if_pos hc]; rfl⟩
      · rename_i hn2
        split at hh
        · rename_i hc
          rw [T.gives_ret] at hh
          subst hh
          exact ⟨_, rfl, fun H' h' => by rw [h', e]; simp only; rw [if_neg hn, if_neg hn2, if_pos hc]; rfl⟩
        · exact hh.elim
  · exact hh.elim
theorem kind3m {cfg : Cfg cod} {a b tm : List SV} {H : Heap cod} {o : Oper} {out : Out cod} {hs : List Nat} (hB : Btw a b tm) (hr : writeU cfg a b o = some hs) (h : (opS cfg tm H o).gives out) :
    out.kill = [] ∧ ∃ k ∈ hs, ∃ ob, out.H = H.set k ob ∧ ∀ H', getObj H' k = getObj H k → (opS cfg tm H' o).gives { v := out.v, H := H'.set k ob } := by
  have mk : ∀ {ob : HObj cod}, ((o.dst.bind cfg.place).map fun k => [k]) = some hs → (mkNew cfg o.dst H ob).gives out → out.kill = [] ∧ ∃ k ∈ hs, ∃ ob', out.H = H.set k ob' ∧ ∀ H', getObj H' k = getObj H k → (mkNew cfg o.dst H' ob).gives { v := out.v, H := H'.set k ob' } := fun {ob} hr hm => by
    obtain ⟨k, hk, rfl⟩ := Option.map_eq_some_iff.1 hr
    obtain ⟨hh, rfl⟩ := mkNew_some hk hm
    refine ⟨rfl, k, List.mem_singleton.2 rfl, ob, rfl, fun H' h' => ?_⟩
    unfold mkNew
    rw [hk]
    simp only [h', hh, if_true]
    rfl
  unfold opS at h ⊢
  unfold writeU at hr
  cases ho : o.op with
  | store t x y =>
    simp only [ho, Option.some.injEq] at h hr ⊢
    subst hr
    have hb := btw_ev hB x
    split at h
    · rename_i k i off e
      rw [e] at hb
      have hin : k ∈ hsAt a b x := hb k (by simp [SV.hs, Cell.hs])
      split at h
      · rename_i hc
        rw [T.gives_bind] at h
        obtain ⟨H1, h1, h2⟩ := h
        rw [T.gives_ret] at h2
        subst h2
        obtain ⟨ob, h3, h4⟩ := storeS_obj h1
        refine ⟨rfl, k, hin, ob, h3, fun H' h' => ?_⟩
        rw [if_pos hc, T.gives_bind]
        exact ⟨_, h4 H' h', rfl⟩
      · exact h.elim
    · exact h.elim
  | alloc e =>
    simp only [ho] at h hr ⊢
    split at h
    · exact mk hr h
    · exact h.elim
  | box e x =>
    simp only [ho] at h hr ⊢
    split at h
    · rename_i hc
      simp only [hc, if_true]
      exact mk hr h
    · exact h.elim
  | _ => simp only [ho] at hr; cases hr

theorem kind1P {cfg : Cfg cod} {a b tm : List SV} {H : Heap cod} {o : Oper} {out : Out cod} {hs : List Nat} (hB : Btw a b tm) (hk : kindP cfg o = 1) (hr : readP a b o = some hs) (h : (opP cfg tm H o).gives out) :
    out.H = H ∧ out.kill = [] ∧ ∀ H', (∀ k ∈ hs, getObj H' k = getObj H k) → (opP cfg tm H' o).gives { v := out.v, H := H' } := by
  have hn : ¬ (isMoved o = true ∧ (o.dst.bind cfg.place).isSome = true) := fun e => by rw [kindP_three e] at hk; cases hk
  obtain ⟨e1, e2⟩ := kindP_plain hn
  rw [e1] at hk
  rw [e2] at h
  simp only [e2]
  refine kind1m hB hk ?_ h
  have hm : isMoved o = false := by
    cases hm : isMoved o with
    | false => rfl
    | true =>
      exfalso
      unfold isMoved at hm
      unfold kindOf at hk
      split at hm
      · rename_i e; rw [e] at hk; cases hk
      · rename_i e; rw [e] at hk; cases hk
      · rename_i e; rw [e] at hk; cases hk
      · cases hm
  unfold readP at hr
  rw [hm] at hr
  simp only [Bool.false_eq_true, if_false] at hr
  unfold kindOf at hk
  split at hr
  · rename_i e; rw [e] at hk; cases hk
  · rename_i e; rw [e] at hk; simp only at hk; split at hk <;> cases hk
  · rename_i e; rw [e] at hk; simp only at hk; split at hk <;> cases hk
  · exact hr
theorem kind3P {cfg : Cfg cod} {a b tm : List SV} {H : Heap cod} {o : Oper} {out : Out cod} {hs rs : List Nat} (hB : Btw a b tm) (hr : writeP cfg a b o = some hs) (hq : readP a b o = some rs) (h : (opP cfg tm H o).gives out) :
    out.kill = [] ∧ ∃ ws : List (Nat × HObj cod), (∀ p ∈ ws, p.1 ∈ hs) ∧ out.H = setW H ws ∧ ∀ H', (∀ q ∈ rs, getObj H' q = getObj H q) → (∀ p ∈ ws, getObj H' p.1 = getObj H p.1) → (opP cfg tm H' o).gives { v := out.v, H := setW H' ws } := by
  unfold writeP at hr
  cases hm : isMoved o with
  | true =>
    rw [hm, if_pos rfl] at hr
    obtain ⟨k, hk, rfl⟩ := Option.map_eq_some_iff.1 hr
    have rd : ∀ H' : Heap cod, (∀ q ∈ rs, getObj H' q = getObj H q) → ∀ q ∈ movedReads tm o, getObj H' q = getObj H q := fun H' g1 q hqm => g1 q (by
      unfold readP at hq
      rw [hm, if_pos rfl] at hq
      unfold movedReads at hqm
      split at hqm
      · rename_i e
        rw [e] at hq
        simp only [Option.some.injEq] at hq
        subst hq
        obtain ⟨x, hx, hqx⟩ := List.mem_flatMap.1 hqm
        exact List.mem_flatMap.2 ⟨x, hx, btw_ev hB x q hqx⟩
      · cases hqm)
    obtain ⟨h1, _, ⟨ob, d, _, hd, h3, _, h5⟩ | ⟨h3, _, h5⟩⟩ := opP_local hm hk h
    rotate_left 1
    · have same : ∀ H' : Heap cod, H'.set k (getObj H' k) = H' := fun H' => by
        rcases Nat.lt_or_ge k H'.length with hl | hl
        · unfold getObj
          rw [List.getD, List.getElem?_eq_getElem hl]
          exact List.set_getElem_self hl
        · exact List.set_eq_of_length_le hl
      refine ⟨h1, [(k, getObj H k)], fun p hp => by rw [List.mem_singleton.1 hp]; exact List.mem_cons_self .., by rw [h3]; exact (same H).symm, fun H' g1 g2 => ?_⟩
      have gk := g2 (k, getObj H k) (by simp)
      have e : setW H' [(k, getObj H k)] = H' := by
        show H'.set k (getObj H k) = H'
        rw [← gk]
        exact same H'
      rw [e]
      exact h5 H' (rd H' g1) gk
    have hw : ∀ H' : Heap cod, (deadO H' d).set k ob = setW H' ((d.toList.map fun q => (q, HObj.dead)) ++ [(k, ob)]) := fun H' => by
      cases d <;> rfl
    refine ⟨h1, (d.toList.map fun q => (q, HObj.dead)) ++ [(k, ob)], fun p hp => ?_, by rw [h3, hw], fun H' g1 g2 => ?_⟩
    · rcases List.mem_append.1 hp with hp | hp
      · obtain ⟨q, hq, rfl⟩ := List.mem_map.1 hp
        exact List.mem_cons_of_mem _ (btw_own hB o q (hd q (by simpa using hq)).1)
      · rw [List.mem_singleton.1 hp]
        exact List.mem_cons_self ..
    · rw [← hw]
      exact h5 H' (rd H' g1) (g2 (k, ob) (by simp))
  | false =>
    rw [hm, if_neg (by simp)] at hr
    simp only [opP_plain (cfg := cfg) (o := o) (.inl hm)] at h ⊢
    obtain ⟨h1, k, hk, ob, h2, h3⟩ := kind3m hB hr h
    refine ⟨h1, [(k, ob)], fun p hp => by rw [List.mem_singleton.1 hp]; exact hk, h2, fun H' _ g => h3 H' (g (k, ob) (by simp))⟩

/-! ### with the guard -/
theorem eff_read {cfg : Cfg cod} {ops : Array Oper} {a b : List SV} {o : Oper} {st : St cod} {out : Out cod} {hs : List Nat} (hB : Btw a b st.tmps) (hk : kindP cfg o = 1) (hr : readP a b o = some hs) (h : eff cfg ops o st out) :
    out.H = st.heap ∧ out.kill = [] ∧ ∀ H', (∀ k ∈ hs, getObj H' k = getObj st.heap k) → eff cfg ops o ⟨st.tmps, H'⟩ { v := out.v, H := H' } := by
  unfold eff at h ⊢
  split at h
  · exact kind1P hB hk hr h
  · rename_i j want hg
    split at h
    · rename_i q hy
      have hy' : ∀ H' : Heap cod, yieldS ops { tmps := st.tmps, heap := H' } j = .c (.bool q) := fun _ => hy
      simp only [hy']
      split at h
      · rename_i hb
        simp only [hb, if_true]
        exact kind1P hB hk hr h
      · rename_i hb
        simp only [hb, Bool.false_eq_true, if_false]
        subst h
        exact ⟨rfl, rfl, fun _ _ => rfl⟩
    · rename_i hy
      have hy' : ∀ H' : Heap cod, yieldS ops { tmps := st.tmps, heap := H' } j = .c (.raw (.tuple ⟨[]⟩)) := fun _ => hy
      simp only [hy']
      subst h
      exact ⟨rfl, rfl, fun _ _ => rfl⟩
    · exact h.elim
theorem eff_write {cfg : Cfg cod} {ops : Array Oper} {a b : List SV} {o : Oper} {st : St cod} {out : Out cod} {hs rs : List Nat} (hB : Btw a b st.tmps) (hr : writeP cfg a b o = some hs) (hq : readP a b o = some rs) (h : eff cfg ops o st out) :
    out.kill = [] ∧ ((out.H = st.heap ∧ ∀ H', eff cfg ops o ⟨st.tmps, H'⟩ { v := out.v, H := H' }) ∨ ∃ ws : List (Nat × HObj cod), (∀ p ∈ ws, p.1 ∈ hs) ∧ out.H = setW st.heap ws ∧ ∀ H', (∀ q ∈ rs, getObj H' q = getObj st.heap q) → (∀ p ∈ ws, getObj H' p.1 = getObj st.heap p.1) → eff cfg ops o ⟨st.tmps, H'⟩ { v := out.v, H := setW H' ws }) := by
  unfold eff at h ⊢
  split at h
  · obtain ⟨h1, h2⟩ := kind3P hB hr hq h
    exact ⟨h1, .inr h2⟩
  · rename_i j want hg
    split at h
    · rename_i q hy
      have hy' : ∀ H' : Heap cod, yieldS ops { tmps := st.tmps, heap := H' } j = .c (.bool q) := fun _ => hy
      simp only [hy']
      split at h
      · rename_i hb
        simp only [hb, if_true]
        obtain ⟨h1, h2⟩ := kind3P hB hr hq h
        exact ⟨h1, .inr h2⟩
      · rename_i hb
        simp only [hb, Bool.false_eq_true, if_false]
        subst h
        exact ⟨rfl, .inl ⟨rfl, fun _ => rfl⟩⟩
    · rename_i hy
      have hy' : ∀ H' : Heap cod, yieldS ops { tmps := st.tmps, heap := H' } j = .c (.raw (.tuple ⟨[]⟩)) := fun _ => hy
      simp only [hy']
      subst h
      exact ⟨rfl, .inl ⟨rfl, fun _ => rfl⟩⟩
    · exact h.elim
theorem disj_spec {l m : Option (List Nat)} (h : disj l m = true) : ∃ x y, l = some x ∧ m = some y ∧ ∀ k ∈ x, ∀ j ∈ y, k ≠ j := by
  unfold disj at h
  split at h
  · rename_i x y
    refine ⟨x, y, rfl, rfl, fun k hk j hj e => ?_⟩
    subst e
    have := List.all_eq_true.1 h k hk
    simp_all
  · cases h
def setO (tm : List SV) (d : Option Nat) (v : SV) : List SV :=
  match d with
  | none => tm
  | some d => tm.set d v
/-- Between two orders: what the later operation leaves is as at the end. -/
theorem btw_put {a b tm : List SV} {di dj : Option Nat} {vi vj : SV} (hB : Btw a b tm) (_ : ∀ d, di = some d → dj ≠ some d) (h2 : Btw a b (setO (setO tm di vi) dj vj)) : Btw a b (setO tm dj vj) := by
  cases dj with
  | none => exact hB
  | some e =>
    simp only [setO] at h2 ⊢
    intro t
    by_cases he : e = t
    · subst he
      have := h2 e
      cases di with
      | none => exact this
      | some d =>
        simp only at this
        rcases Nat.lt_or_ge e tm.length with hl | hl
        · simp only [List.getD] at this ⊢
          rw [List.getElem?_set_self (by simpa using hl)] at this
          rw [List.getElem?_set_self hl]
          exact this
        · simp only [List.getD] at this ⊢
          rw [List.getElem?_eq_none (by simpa using hl)] at this ⊢
          exact this
    · have := hB t
      simp only [List.getD] at this ⊢
      rw [List.getElem?_set_ne he]
      exact this
/-- The two effects, the second first. -/
theorem swap_mem {cfg : Cfg cod} {ops : Array Oper} {a b : List SV} {oi oj : Oper} {st s1 s2 : St cod} (hB : Btw a b st.tmps) (h1 : absStep cfg ops oi st s1) (h2 : absStep cfg ops oj s1 s2) (hap : oi.apart ops oj = true) (hc : apartM cfg a b oi oj = true) :
    ∃ t1, absStep cfg ops oj st t1 ∧ absStep cfg ops oi t1 s2 ∧ (Btw a b s2.tmps → Btw a b t1.tmps) := by
  obtain ⟨a1, a2, a3⟩ := Oper.apart_spec hap
  obtain ⟨oi', e1, rfl⟩ := step_eff.1 h1
  obtain ⟨oj', e2, rfl⟩ := step_eff.1 h2
  have rw3 : ∀ {o : Oper} {x : List Nat}, kindP cfg o = 3 → writeP cfg a b o = some x → ∃ r, readP a b o = some r := by
    intro o x hk hw
    unfold writeP at hw
    unfold readP
    cases hm : isMoved o with
    | true =>
      simp only [if_true]
      split <;> exact ⟨_, rfl⟩
    | false =>
      rw [hm, if_neg (by simp)] at hw
      simp only [Bool.false_eq_true, if_false]
      unfold writeU at hw
      split at hw
      · exact ⟨_, rfl⟩
      · exact ⟨_, rfl⟩
      · exact ⟨_, rfl⟩
      · cases hw
  unfold apartM at hc
  simp only [Bool.or_eq_true, Bool.and_eq_true, beq_iff_eq] at hc
  have ki : oi'.kill = [] := by
    rcases hc with (⟨⟨c1, c2⟩, c3⟩ | ⟨⟨c1, c2⟩, c3⟩) | ⟨⟨c1, c2⟩, c3, c4, c5⟩
    · obtain ⟨x, y, ex, ey, hd⟩ := disj_spec c3
      exact (eff_read hB c1 ex e1).2.1
    · obtain ⟨x, y, ex, ey, hd⟩ := disj_spec c3
      obtain ⟨r, er⟩ := rw3 c1 ex
      exact (eff_write hB ex er e1).1
    · obtain ⟨x, y, ex, ey, hd⟩ := disj_spec c3
      obtain ⟨r, er⟩ := rw3 c1 ex
      exact (eff_write hB ex er e1).1
  rw [put_plain ki] at e2 ⊢
  have e2' := (eff_congr (cfg := cfg) (st := ⟨st.tmps, oi'.H⟩) (d := oi.dst) (v := oi'.v) rfl a1).1 e2
  have key : ∃ oj'' : Out cod, eff cfg ops oj st oj'' ∧ oj''.v = oj'.v ∧ oj''.kill = [] ∧ oj'.kill = [] ∧ ∃ oi'' : Out cod, eff cfg ops oi ⟨st.tmps, oj''.H⟩ oi'' ∧ oi''.v = oi'.v ∧ oi''.kill = [] ∧ oi''.H = oj'.H := by
    rcases hc with (⟨⟨c1, c2⟩, c3⟩ | ⟨⟨c1, c2⟩, c3⟩) | ⟨⟨c1, c2⟩, c3, c4, c5⟩
    · obtain ⟨x, y, ex, ey, hd⟩ := disj_spec c3
      obtain ⟨r, er⟩ := rw3 c2 ey
      obtain ⟨i1, i2, i3⟩ := eff_read hB c1 ex e1
      rw [i1] at e2'
      obtain ⟨j1, hj⟩ := eff_write (st := ⟨st.tmps, st.heap⟩) hB ey er e2'
      refine ⟨oj', e2', rfl, j1, j1, { v := oi'.v, H := oj'.H }, i3 _ fun k hk => ?_, rfl, rfl, rfl⟩
      rcases hj with ⟨h1, _⟩ | ⟨ws, hws, h1, _⟩
      · rw [h1]
      · rw [h1]
        exact getObj_setW fun p hp => Ne.symm (hd k hk p.1 (hws p hp))
    · obtain ⟨x, y, ex, ey, hd⟩ := disj_spec c3
      obtain ⟨r, er⟩ := rw3 c1 ex
      obtain ⟨i1, hi⟩ := eff_write hB ex er e1
      obtain ⟨j1, j2, j3⟩ := eff_read (st := ⟨st.tmps, oi'.H⟩) hB c2 ey e2'
      have hsame : ∀ k ∈ y, getObj st.heap k = getObj oi'.H k := fun k hk => by
        rcases hi with ⟨h1, _⟩ | ⟨ws, hws, h1, _⟩
        · rw [h1]
        · rw [h1]
          exact (getObj_setW fun p hp => hd p.1 (hws p hp) k hk).symm
      exact ⟨{ v := oj'.v, H := st.heap }, j3 _ hsame, rfl, rfl, j2, oi', e1, rfl, ki, j1.symm⟩
    · obtain ⟨x, y, ex, ey, hd⟩ := disj_spec c3
      obtain ⟨ri, y', eri, ey', hdr⟩ := disj_spec c4
      obtain ⟨x', rj, ex', erj, hdw⟩ := disj_spec c5
      rw [ey] at ey'
      rw [ex] at ex'
      cases ey'
      cases ex'
      obtain ⟨i1, hi⟩ := eff_write hB ex eri e1
      obtain ⟨j1, hj⟩ := eff_write (st := ⟨st.tmps, oi'.H⟩) hB ey erj e2'
      rcases hi with ⟨p1, p2⟩ | ⟨ws, hws, p1, p2⟩
      · rw [p1] at e2'
        exact ⟨oj', e2', rfl, j1, j1, { v := oi'.v, H := oj'.H }, p2 _, rfl, rfl, rfl⟩
      · rcases hj with ⟨q1, q2⟩ | ⟨vs, hvs, q1, q2⟩
        · refine ⟨{ v := oj'.v, H := st.heap }, q2 _, rfl, rfl, j1, oi', e1, rfl, ki, ?_⟩
          rw [q1]
        · refine ⟨{ v := oj'.v, H := setW st.heap vs }, q2 _ (fun q hq => ?_) (fun p hp => ?_), rfl, rfl, j1, { v := oi'.v, H := setW (setW st.heap vs) ws }, p2 _ (fun q hq => ?_) (fun p hp => ?_), rfl, rfl, ?_⟩
          · simp only [p1]
            exact (getObj_setW fun p hp => hdw p.1 (hws p hp) q hq).symm
          · simp only [p1]
            exact (getObj_setW fun r hr => hd r.1 (hws r hr) p.1 (hvs p hp)).symm
          · exact getObj_setW fun p hp => Ne.symm (hdr q hq p.1 (hvs p hp))
          · exact getObj_setW fun r hr => Ne.symm (hd p.1 (hws p hp) r.1 (hvs r hr))
          · rw [q1]
            simp only [p1]
            exact setW_comm fun p hp q hq => hd p.1 (hws p hp) q.1 (hvs q hq)
  obtain ⟨oj'', f1, f2, f3, kj, oi'', g1, g2, g3, g4⟩ := key
  rw [put_plain kj]
  refine ⟨_, step_eff.2 ⟨oj'', f1, rfl⟩, step_eff.2 ⟨oi'', ?_, ?_⟩, ?_⟩
  · rw [put_plain f3]
    exact (eff_congr (cfg := cfg) (st := ⟨st.tmps, oj''.H⟩) (d := oj.dst) (v := oj''.v) rfl a3).2 g1
  · rw [put_plain g3, put_plain f3, g4, g2, f2]
    congr 1
    cases hdi : oi.dst with
    | none => rfl
    | some di =>
      cases hdj : oj.dst with
      | none => rfl
      | some dj =>
        simp only
        exact List.set_comm _ _ (fun e => a2 di hdi (by rw [hdj, e]))
  · rw [put_plain f3, f2]
    exact fun h2 => btw_put (di := oi.dst) (vi := oi'.v) hB a2 h2
end
end Go.Proofs.YtiolfkmkbccndaaGreatDoor.Sym
