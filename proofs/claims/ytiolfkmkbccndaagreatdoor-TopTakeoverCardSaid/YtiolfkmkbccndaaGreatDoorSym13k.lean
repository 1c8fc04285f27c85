/- A symbolic run is sound: what operations do to the objects. -/
import Derived.Test.YtiolfkmkbccndaaGreatDoorSym13
namespace Go.Proofs.YtiolfkmkbccndaaGreatDoor.Sym
open Go.RowKit

section
variable {cod : Nat → Codec}

/-- What an operation does to the objects: 0 nothing, nor does it look at them; 1 looks; 2 makes new ones; 3 writes one; 4 anything. -/
def kindOf (cfg : Cfg cod) (o : Oper) : Nat :=
  match o.op with
  | .move x | .assign x => if nilConst x then 2 else 0
  | .pick _ _ _ | .build _ _ | .nilCheck _ | .binOp _ _ _ _ _ | .unOp _ _ _ | .fieldAddr _ _ _ | .field _ _ _ | .index _ _ _ | .extract _ _ | .makeFunc _ _ _ => 0
  | .load _ _ | .slice _ _ _ _ _ | .indexAddr _ _ _ => 1
  | .alloc _ | .box _ _ => if (o.dst.bind cfg.place).isSome then 3 else 2
  | .buildSlice _ _ _ | .makeSlice _ _ _ => 2
  | .store _ _ _ => 3
  | .convert s d _ => if bytesConv cfg.P s d = 0 then 0 else if bytesConv cfg.P s d = 2 then 1 else 4
  | .call { callee := .builtin .len, .. } | .call { callee := .builtin .max, .. } | .call { callee := .builtin .min, .. } => 0
  | .call { callee := .builtin .copy, .. } => 3
  | .call { callee := .value (.func g), .. } => if isExt cfg.P g = true then 0 else if (cfg.summ g).isSome then (if cfg.quiet g then 1 else 2) else 4
  | _ => 4
/-- Two operations, the first of them earlier in the text, that may come in either order. -/
def compat (a b : Nat) : Bool := (a == 0 && decide (b ≤ 3)) || (b == 0 && decide (a ≤ 3)) || (a == 1 && (b == 1 || b == 2))

theorem opS_congr (cfg : Cfg cod) {tm tm' : List SV} (H : Heap cod) (o : Oper) (h : ∀ x ∈ o.op.operands.toList, evS tm x = evS tm' x) : opS cfg tm H o = opS cfg tm' H o := by
  have hm : ∀ (l : List (Nat × Operand)), (∀ p ∈ l, evS tm p.2 = evS tm' p.2) → l.map (fun p => (p.1, evS tm p.2)) = l.map (fun p => (p.1, evS tm' p.2)) := fun l hl => List.map_congr_left fun p hp => by rw [hl p hp]
  have ha : ∀ (l : List Operand), (∀ p ∈ l, evS tm p = evS tm' p) → l.map (evS tm) = l.map (evS tm') := fun l hl => List.map_congr_left fun p hp => hl p hp
  unfold opS
  cases ho : o.op with
  | build t parts =>
    have := hm parts.toList (fun p hp => h p.2 (by rw [ho]; simp only [Op.operands]; exact List.mem_map.2 ⟨p, hp, rfl⟩))
    simp only [this]
  | buildSlice t n parts =>
    have := hm parts.toList (fun p hp => h p.2 (by rw [ho]; simp only [Op.operands]; exact List.mem_map.2 ⟨p, hp, rfl⟩))
    simp only [this]
  | slice t x lo hi mx =>
    have hx := h x (by rw [ho]; simp [Op.operands])
    have hlo : lo.map (evS tm) = lo.map (evS tm') := by cases lo with
      | none => rfl
      | some y => simp only [Option.map_some, Option.some.injEq]; exact h y (by rw [ho]; simp [Op.operands])
    have hhi : hi.map (evS tm) = hi.map (evS tm') := by cases hi with
      | none => rfl
      | some y => simp only [Option.map_some, Option.some.injEq]; exact h y (by rw [ho]; simp [Op.operands])
    have hmx : mx.map (evS tm) = mx.map (evS tm') := by cases mx with
      | none => rfl
      | some y => simp only [Option.map_some, Option.some.injEq]; exact h y (by rw [ho]; simp [Op.operands])
    simp only [hx, hlo, hhi, hmx]
  | makeFunc fn first caps =>
    have := ha caps.toList (fun p hp => h p (by rw [ho]; simp only [Op.operands, Array.toList_append]; exact List.mem_append_right _ hp))
    cases fn <;> simp only [this]
  | call c =>
    obtain ⟨callee, args, ts⟩ := c
    have := ha args.toList (fun p hp => h p (by rw [ho]; simp only [Op.operands, Call.operands, Array.toList_append]; exact List.mem_append_right _ hp))
    cases callee with
    | value f =>
      have hf := h f (by rw [ho]; simp [Op.operands, Call.operands])
      simp only [this, hf]
    | builtin b => simp only [this]
    | invoke r m => rfl
  | move x => have hx := h x (by rw [ho]; simp [Op.operands]); simp only [hx]
  | assign x => have hx := h x (by rw [ho]; simp [Op.operands]); simp only [hx]
  | pick c a b =>
    have hc := h c (by rw [ho]; simp [Op.operands])
    have ha := h a (by rw [ho]; simp [Op.operands])
    have hb := h b (by rw [ho]; simp [Op.operands])
    simp only [hc, ha, hb]
  | box e x => have hx := h x (by rw [ho]; simp [Op.operands]); simp only [hx]
  | load t x => have hx := h x (by rw [ho]; simp [Op.operands]); simp only [hx]
  | store t x y =>
    have hx := h x (by rw [ho]; simp [Op.operands])
    have hy := h y (by rw [ho]; simp [Op.operands])
    simp only [hx, hy]
  | nilCheck x => have hx := h x (by rw [ho]; simp [Op.operands]); simp only [hx]
  | binOp op t x y ty =>
    have hx := h x (by rw [ho]; simp [Op.operands])
    have hy := h y (by rw [ho]; simp [Op.operands])
    simp only [hx, hy]
  | unOp op t x => have hx := h x (by rw [ho]; simp [Op.operands]); simp only [hx]
  | convert s d x => have hx := h x (by rw [ho]; simp [Op.operands]); simp only [hx]
  | fieldAddr t x f => have hx := h x (by rw [ho]; simp [Op.operands]); simp only [hx]
  | field t x f => have hx := h x (by rw [ho]; simp [Op.operands]); simp only [hx]
  | indexAddr t x y =>
    have hx := h x (by rw [ho]; simp [Op.operands])
    have hy := h y (by rw [ho]; simp [Op.operands])
    simp only [hx, hy]
  | index t x y =>
    have hx := h x (by rw [ho]; simp [Op.operands])
    have hy := h y (by rw [ho]; simp [Op.operands])
    simp only [hx, hy]
  | extract t i => have hx := h t (by rw [ho]; simp [Op.operands]); simp only [hx]
  | makeSlice t n c =>
    have hx := h n (by rw [ho]; simp [Op.operands])
    have hy := h c (by rw [ho]; simp [Op.operands])
    simp only [hx, hy]
  | _ => rfl

theorem builtin0 {cfg : Cfg cod} {H : Heap cod} {b : Builtin} {ts : Array TypeId} {args : List SV} {out : Out cod} (hb : b = .len ∨ b = .max ∨ b = .min) (h : (builtinS cfg H b ts args).gives out) :
    out.H = H ∧ out.kill = [] ∧ ∀ H', (builtinS cfg H' b ts args).gives { v := out.v, H := H' } := by
  have ret : ∀ {v : SV}, (T.ret ({ v := v, H := H } : Out cod)).gives out → out.H = H ∧ out.kill = [] ∧ ∀ H', (T.ret ({ v := v, H := H' } : Out cod)).gives { v := out.v, H := H' } := fun hh => by
    rw [T.gives_ret] at hh
    subst hh
    exact ⟨rfl, rfl, fun _ => rfl⟩
  rcases hb with rfl | rfl | rfl
  · rcases args with _ | ⟨x, _ | ⟨y, l⟩⟩
    · exact h.elim
    · simp only [builtinS] at h ⊢
      split at h
      · exact ret h
      · exact ret h
      · split at h
        · exact ret h
        · split at h
          · exact ret h
          · exact h.elim
      · exact h.elim
    · exact h.elim
  · rcases args with _ | ⟨x, l⟩
    · exact h.elim
    · cases x with
      | c x =>
        cases x with
        | int k a =>
          simp only [builtinS] at h ⊢
          split at h
          · exact ret h
          · exact h.elim
        | _ => exact h.elim
      | _ => exact h.elim
  · rcases args with _ | ⟨x, l⟩
    · exact h.elim
    · cases x with
      | c x =>
        cases x with
        | int k a =>
          simp only [builtinS] at h ⊢
          split at h
          · exact ret h
          · exact h.elim
        | _ => exact h.elim
      | _ => exact h.elim
/-- The four kinds, said of an operation's outcome. -/
theorem kind0 {cfg : Cfg cod} {tm : List SV} {H : Heap cod} {o : Oper} {out : Out cod} (hk : kindOf cfg o = 0) (h : (opS cfg tm H o).gives out) : out.H = H ∧ out.kill = [] ∧ ∀ H', (opS cfg tm H' o).gives { v := out.v, H := H' } := by
  have keep : ∀ {t : T SV}, (t.bind fun v => T.ret ({ v := v, H := H } : Out cod)).gives out → out.H = H ∧ out.kill = [] ∧ ∀ H', (t.bind fun v => T.ret ({ v := v, H := H' } : Out cod)).gives { v := out.v, H := H' } := fun {t} hh => by
    rw [T.gives_bind] at hh
    obtain ⟨v, h1, h2⟩ := hh
    rw [T.gives_ret] at h2
    subst h2
    exact ⟨rfl, rfl, fun H' => T.gives_bind.2 ⟨v, h1, rfl⟩⟩
  have ret : ∀ {v : SV}, (T.ret ({ v := v, H := H } : Out cod)).gives out → out.H = H ∧ out.kill = [] ∧ ∀ H', (T.ret ({ v := v, H := H' } : Out cod)).gives { v := out.v, H := H' } := fun hh => by
    rw [T.gives_ret] at hh
    subst hh
    exact ⟨rfl, rfl, fun _ => rfl⟩
  unfold opS at h ⊢
  unfold kindOf at hk
  cases ho : o.op with
  | move x =>
    simp only [ho] at hk h ⊢
    have hn : nilConst x = false := by cases hx : nilConst x <;> simp [hx] at hk; rfl
    simp only [hn] at h ⊢
    exact ret h
  | assign x =>
    simp only [ho] at hk h ⊢
    have hn : nilConst x = false := by cases hx : nilConst x <;> simp [hx] at hk; rfl
    simp only [hn] at h ⊢
    exact ret h
  | pick c a b =>
    simp only [ho] at h ⊢
    split at h
    · rename_i b' e
      rw [T.gives_ite] at h
      cases b' with
      | true =>
        simp only [if_true] at h
        obtain ⟨h1, h2, h3⟩ := ret h
        exact ⟨h1, h2, fun H' => by rw [T.gives_ite]; simp only [if_true]; exact h3 H'⟩
      | false =>
        simp only [Bool.false_eq_true, if_false] at h
        obtain ⟨h1, h2, h3⟩ := ret h
        exact ⟨h1, h2, fun H' => by rw [T.gives_ite]; simp only [Bool.false_eq_true, if_false]; exact h3 H'⟩
    · exact h.elim
  | build t parts =>
    simp only [ho] at h ⊢
    split at h
    · exact ret h
    · exact h.elim
  | nilCheck x =>
    simp only [ho] at h ⊢
    split at h
    · exact ret h
    · exact ret h
    · exact h.elim
  | binOp op t x y ty => simp only [ho] at h ⊢; exact keep h
  | unOp op t x => simp only [ho] at h ⊢; exact keep h
  | convert s d x =>
    have hb : bytesConv cfg.P s d = 0 := by
      simp only [ho] at hk
      split at hk
      · assumption
      · split at hk <;> omega
    simp only [ho, hb] at h ⊢
    exact keep h
  | fieldAddr t x f =>
    simp only [ho] at h ⊢
    split at h
    · split at h
      · split at h
        · exact h.elim
        · rename_i hc
          obtain ⟨h1, h2, h3⟩ := ret h
          exact ⟨h1, h2, fun H' => by rw [if_neg hc]; exact h3 H'⟩
      · exact h.elim
    · exact h.elim
  | field t x f =>
    simp only [ho] at h ⊢
    split at h
    · split at h
      · split at h
        · rename_i hc
          obtain ⟨h1, h2, h3⟩ := keep h
          exact ⟨h1, h2, fun H' => by rw [if_pos hc]; exact h3 H'⟩
        · exact h.elim
      · exact h.elim
    · exact h.elim
  | index t x ix => simp only [ho] at h ⊢; exact keep h
  | extract t i =>
    simp only [ho] at h ⊢
    split at h
    · split at h
      · exact ret h
      · exact h.elim
    · exact h.elim
  | makeFunc fn first caps =>
    cases fn with
    | func f =>
      simp only [ho] at h ⊢
      split at h
      · rename_i hc
        split at h
        · obtain ⟨h1, h2, h3⟩ := ret h
          exact ⟨h1, h2, fun H' => by rw [if_pos hc]; exact h3 H'⟩
        · exact h.elim
      · exact h.elim
    | _ => simp only [ho] at h; exact h.elim
  | call c =>
    obtain ⟨callee, args, ts⟩ := c
    cases callee with
    | value f =>
      cases f with
      | func g =>
        simp only [ho] at hk h ⊢
        by_cases hx : isExt cfg.P g = true
        · simp only [evS, hx, if_true] at h ⊢
          exact keep h
        · rw [if_neg hx] at hk
          split at hk <;> first | omega | (split at hk <;> omega)
      | _ => simp only [ho] at hk; omega
    | invoke r m => simp only [ho] at hk; omega
    | builtin b =>
      have hb : b = .len ∨ b = .max ∨ b = .min := by
        simp only [ho] at hk
        split at hk <;> simp_all
      simp only [ho] at h ⊢
      exact builtin0 hb h
  | _ => simp only [ho] at hk; first | omega | (split at hk <;> omega)

theorem getObj_ext {H : Heap cod} {h : Nat} (X : Heap cod) (hd : getObj H h ≠ .dead) : getObj (H ++ X) h = getObj H h := by
  have hs := getObj_some hd
  have hl : h < H.length := (List.getElem?_eq_some_iff.1 hs).1
  unfold getObj
  simp [List.getD, List.getElem?_append_left hl]
theorem getObj_lt {H : Heap cod} {h : Nat} (X : Heap cod) (hl : h < H.length) : getObj (H ++ X) h = getObj H h := by
  unfold getObj
  simp [List.getD, List.getElem?_append_left hl]
theorem addNew_sub : ∀ (l acc : List Nat), (∀ x ∈ acc, x ∈ addNew acc l) ∧ (∀ x ∈ l, x ∈ addNew acc l)
  | [], acc => ⟨fun x hx => hx, by simp⟩
  | h :: l, acc => by
    unfold addNew
    split
    · rename_i hc
      obtain ⟨h1, h2⟩ := addNew_sub l acc
      refine ⟨h1, fun x hx => ?_⟩
      rcases List.mem_cons.1 hx with rfl | hx
      · exact h1 _ (by simpa using hc)
      · exact h2 x hx
    · obtain ⟨h1, h2⟩ := addNew_sub l (acc ++ [h])
      refine ⟨fun x hx => h1 x (List.mem_append_left _ hx), fun x hx => ?_⟩
      rcases List.mem_cons.1 hx with rfl | hx
      · exact h1 _ (List.mem_append_right _ (List.mem_singleton_self _))
      · exact h2 x hx
theorem reach_sub (H : Heap cod) : ∀ (d : Nat) (l : List Nat), ∀ x ∈ l, x ∈ reach H d l
  | 0, l, x, hx => hx
  | d + 1, l, x, hx => reach_sub H d _ x ((addNew_sub _ l).1 x hx)
theorem reach_ext (H X : Heap cod) : ∀ (d : Nat) (l : List Nat), (∀ x ∈ reach H d l, x < H.length) → reach (H ++ X) d l = reach H d l
  | 0, l, _ => rfl
  | d + 1, l, h => by
    unfold reach at h ⊢
    have hl : ∀ x ∈ l, x < H.length := fun x hx => h x (reach_sub H d _ x ((addNew_sub _ l).1 x hx))
    have e : l.flatMap (fun h => (getObj (H ++ X) h).hs) = l.flatMap (fun h => (getObj H h).hs) := by
      rw [List.flatMap_def, List.flatMap_def]
      congr 1
      exact List.map_congr_left fun x hx => by rw [getObj_lt X (hl x hx)]
    rw [e]
    exact reach_ext H X d _ h

theorem ren_congr {f g : Nat → Nat} {c : Cell} (h : ∀ k ∈ c.hs, f k = g k) : c.ren f = c.ren g := by
  cases c <;> simp only [Cell.ren, Cell.hs] at * <;> try rfl
  case ptr k i o => rw [h k (by simp)]
  case slc k i n t => rw [h k (by simp)]
  case own k n => rw [h k (by simp)]
  case fn f0 caps =>
    congr 1
    exact List.map_congr_left fun c hc => by rw [h c.1 (List.mem_map.2 ⟨c, hc, rfl⟩)]
theorem mapC_congr {f g : Nat → Nat} {x : SV} (h : ∀ k ∈ x.hs, f k = g k) : x.mapC (Cell.ren f) = x.mapC (Cell.ren g) := by
  cases x with
  | c x => simp only [SV.mapC]; rw [ren_congr h]
  | agg cs =>
    simp only [SV.mapC]
    congr 1
    exact List.map_congr_left fun c hc => ren_congr fun k hk => h k (List.mem_flatMap.2 ⟨c, hc, hk⟩)
  | tup vs =>
    simp only [SV.mapC]
    congr 1
    refine List.map_congr_left fun v hv => ?_
    cases v with
    | c x => simp only; rw [ren_congr fun k hk => h k (List.mem_flatMap.2 ⟨_, hv, hk⟩)]
    | agg cs =>
      simp only
      congr 1
      exact List.map_congr_left fun c hc => ren_congr fun k hk => h k (List.mem_flatMap.2 ⟨_, hv, List.mem_flatMap.2 ⟨c, hc, hk⟩⟩)
    | tup l => rfl
theorem callR_grow {cfg : Cfg cod} {H : Heap cod} {g : FuncId} {s : Summ cod} {args : List SV} {out : Out cod} (h : (callR cfg H g s args).gives out) :
    out.kill = [] ∧ (∃ X, out.H = H ++ X) ∧ (cfg.quiet g = true → out.H = H ∧ ∀ X, (callR cfg (H ++ X) g s args).gives { v := out.v, H := H ++ X }) := by
  unfold callR at h ⊢
  · simp only at h ⊢
    generalize hhs : reach H 3 (addNew [] (args.flatMap SV.hs)) = hs at h
    split at h
    · rename_i hc
      obtain ⟨hc1, hc2⟩ := hc
      rw [T.gives_bind] at h
      obtain ⟨⟨r, news⟩, hr, h⟩ := h
      simp only at h
      split at h
      · rename_i hwr
        obtain ⟨hw1, hw2, hw3⟩ := hwr
        rw [T.gives_ret] at h
        subst h
        refine ⟨rfl, ⟨_, rfl⟩, fun hq => ?_⟩
        have hn := hw3 hq
        subst hn
        refine ⟨by simp, fun X => ?_⟩
        have hlt : ∀ k ∈ hs, k < H.length := fun k hk => by
          have := List.all_eq_true.1 hc2 k hk
          simp only [Bool.and_eq_true, decide_eq_true_eq] at this
          exact this.1
        have hre : reach (H ++ X) 3 (addNew [] (args.flatMap SV.hs)) = hs := by
          rw [reach_ext H X 3 _ (by rw [hhs]; exact hlt), hhs]
        rw [hre]
        have hc2' : hs.all (fun h => decide (h < (H ++ X).length) && (getObj (H ++ X) h).hs.all hs.contains) = true := by
          rw [List.all_eq_true] at hc2 ⊢
          intro k hk
          have h1 := hc2 k hk
          rw [getObj_lt X (hlt k hk)]
          simp only [Bool.and_eq_true, decide_eq_true_eq, List.length_append] at h1 ⊢
          exact ⟨by omega, h1.2⟩
        rw [if_pos ⟨hc1, hc2'⟩, T.gives_bind]
        have hmap : (hs.map fun h => (getObj (H ++ X) h).ro fun h => hs.idxOf h) = (hs.map fun h => (getObj H h).ro fun h => hs.idxOf h) := List.map_congr_left fun k hk => by rw [getObj_lt X (hlt k hk)]
        rw [hmap]
        refine ⟨(r, []), hr, ?_⟩
        rw [if_pos ⟨hw1, hw2, hw3⟩, T.gives_ret]
        have hren : r.mapC (Cell.ren fun i => if i < hs.length then hs.getD i 0 else (H ++ X).length + (i - hs.length)) = r.mapC (Cell.ren fun i => if i < hs.length then hs.getD i 0 else H.length + (i - hs.length)) :=
          mapC_congr fun k hk => by
            have := List.all_eq_true.1 hw2 k hk
            simp only [decide_eq_true_eq, List.length_nil, Nat.add_zero] at this
            rw [if_pos this, if_pos this]
        simp only [hren, List.map_nil, List.append_nil]
      · exact h.elim
    · exact h.elim

theorem callS_grow {cfg : Cfg cod} {H : Heap cod} {g : FuncId} {args : List SV} {out : Out cod} (hs : (cfg.summ g).isSome = true) (h : (callS cfg H g args).gives out) :
    out.kill = [] ∧ (∃ X, out.H = H ++ X) ∧ (cfg.quiet g = true → out.H = H ∧ ∀ X, (callS cfg (H ++ X) g args).gives { v := out.v, H := H ++ X }) := by
  obtain ⟨s, hs⟩ := Option.isSome_iff_exists.1 hs
  unfold callS at h ⊢
  simp only [hs] at h ⊢
  exact callR_grow h

theorem loadS_ext {H : Heap cod} {h i o n : Nat} {cs : List Cell} (X : Heap cod) (hl : (loadS H h i o n).gives cs) : (loadS (H ++ X) h i o n).gives cs := by
  have hd : getObj H h ≠ .dead := fun e => by unfold loadS at hl; rw [e] at hl; exact hl.elim
  unfold loadS at hl ⊢
  rw [getObj_ext X hd]
  exact hl
theorem indexAddrS_ext {P : Program} {H : Heap cod} {t : TypeId} {x ix r : SV} (X : Heap cod) (h : (indexAddrS P H t x ix).gives r) : (indexAddrS P (H ++ X) t x ix).gives r := by
  unfold indexAddrS at h ⊢
  split at h
  · split at h
    · rename_i hh i o
      have hd : getObj H hh ≠ .dead := fun e => by rw [e] at h; exact h.elim
      rw [getObj_ext X hd]
      exact h
    · exact h.elim
  · split at h
    · rename_i hh i n tt hs
      have hd : getObj H hh ≠ .dead := fun e => by rw [e] at h; exact h.elim
      rw [getObj_ext X hd]
      exact h
    · exact h.elim
  · exact h.elim
theorem sliceS_ext {P : Program} {H : Heap cod} {t : TypeId} {x r : SV} {lo hi mx : Option SV} (X : Heap cod) (h : (sliceS P H t x lo hi mx).gives r) : (sliceS P (H ++ X) t x lo hi mx).gives r := by
  unfold sliceS at h ⊢
  split at h
  · split at h
    · unfold sliceA at h ⊢
      split at h
      · rename_i hh i
        split at h
        · rename_i hc
          have hd : getObj H hh ≠ .dead := fun e => by rw [e] at hc; cases hc.1
          simp only [getObj_ext X hd, if_pos hc]
          exact h
        · exact h.elim
      · exact h.elim
    · exact h.elim
  · exact h
  · split at h
    · exact h
    · rename_i hh i n tt hs
      split at h
      · rename_i he
        have hd : getObj H hh ≠ .dead := fun e => by rw [e] at he; cases he
        rw [getObj_ext X hd, if_pos he]
        exact h
      · exact h.elim
  · exact h.elim
theorem rowsOf_ext {u : Nat} {H : Heap cod} {x : SV} {l : List (cod u).α} (X : Heap cod) (h : (rowsOf u H x).gives l) : (rowsOf u (H ++ X) x).gives l := by
  unfold rowsOf at h ⊢
  split at h
  · rename_i hh n
    have hd : getObj H hh ≠ .dead := fun e => by rw [e] at h; exact h.elim
    simp only [getObj_ext X hd]
    exact h
  · rename_i hh i n t
    have hd : getObj H hh ≠ .dead := fun e => by rw [e] at h; exact h.elim
    simp only [getObj_ext X hd]
    exact h
  · exact h.elim
theorem ofBytesS_ext {cfg : Cfg cod} {H : Heap cod} {s : TypeId} {x r : SV} (X : Heap cod) (h : (ofBytesS cfg H s x).gives r) : (ofBytesS cfg (H ++ X) s x).gives r := by
  unfold ofBytesS at h ⊢
  split at h
  · split at h
    · rw [T.gives_bind] at h ⊢
      obtain ⟨l, h1, h2⟩ := h
      exact ⟨l, rowsOf_ext X h1, h2⟩
    · exact h.elim
  · exact h.elim
theorem kind1 {cfg : Cfg cod} {tm : List SV} {H : Heap cod} {o : Oper} {out : Out cod} (hk : kindOf cfg o = 1) (h : (opS cfg tm H o).gives out) : out.H = H ∧ out.kill = [] ∧ ∀ X, (opS cfg tm (H ++ X) o).gives { v := out.v, H := H ++ X } := by
  have keep : ∀ {t : T SV} {t' : Heap cod → T SV}, (∀ X r, t.gives r → (t' X).gives r) → (t.bind fun v => T.ret ({ v := v, H := H } : Out cod)).gives out → out.H = H ∧ out.kill = [] ∧ ∀ X, ((t' X).bind fun v => T.ret ({ v := v, H := H ++ X } : Out cod)).gives { v := out.v, H := H ++ X } := fun {t} {t'} ht hh => by
    rw [T.gives_bind] at hh
    obtain ⟨v, h1, h2⟩ := hh
    rw [T.gives_ret] at h2
    subst h2
    exact ⟨rfl, rfl, fun X => T.gives_bind.2 ⟨v, ht X v h1, rfl⟩⟩
  unfold opS at h ⊢
  unfold kindOf at hk
  cases ho : o.op with
  | load t x =>
    simp only [ho] at h ⊢
    split at h
    · rename_i k i off e
      split at h
      · rename_i hag
        simp only [hag, if_true]
        exact keep (t' := fun X => (loadS (H ++ X) k i off (cfg.P.cellsOf t)).bind fun cs => .ret (.agg cs)) (fun X r hr => by
          rw [T.gives_bind] at hr ⊢
          obtain ⟨cs, h1, h2⟩ := hr
          exact ⟨cs, loadS_ext X h1, h2⟩) h
      · rename_i hag
        split at h
        · rename_i hu
          simp only [hag, hu, if_true, Bool.false_eq_true, if_false]
          exact keep (t' := fun X => (loadS (H ++ X) k i off 1).bind fun cs => match cs with
            | [c] => .ret (.c c)
            | _ => .fail) (fun X r hr => by
            rw [T.gives_bind] at hr ⊢
            obtain ⟨cs, h1, h2⟩ := hr
            exact ⟨cs, loadS_ext X h1, h2⟩) h
        · exact h.elim
    · exact h.elim
  | slice t x lo hi mx =>
    simp only [ho] at h ⊢
    exact keep (fun X r hr => sliceS_ext X hr) h
  | indexAddr t x ix =>
    simp only [ho] at h ⊢
    exact keep (fun X r hr => indexAddrS_ext X hr) h
  | convert s d x =>
    have hb : bytesConv cfg.P s d = 2 := by
      simp only [ho] at hk
      split at hk
      · omega
      · split at hk
        · assumption
        · omega
    simp only [ho, hb] at h ⊢
    exact keep (fun X r hr => ofBytesS_ext X hr) h
  | call c =>
    obtain ⟨callee, args, ts⟩ := c
    cases callee with
    | value f =>
      cases f with
      | func g =>
        simp only [ho] at hk h ⊢
        by_cases hxt : isExt cfg.P g = true
        · rw [if_pos hxt] at hk; omega
        rw [if_neg hxt] at hk
        have hsm : (cfg.summ g).isSome = true := by cases hx : (cfg.summ g).isSome <;> simp [hx] at hk; rfl
        have hq : cfg.quiet g = true := by cases hx : cfg.quiet g <;> simp [hx, hsm] at hk; rfl
        simp only [evS, if_neg hxt] at h ⊢
        obtain ⟨h1, h2, h3⟩ := callS_grow hsm h
        obtain ⟨h4, h5⟩ := h3 hq
        exact ⟨h4, h1, h5⟩
      | _ => simp only [ho] at hk; omega
    | builtin b => simp only [ho] at hk; cases b <;> simp at hk
    | invoke r m => simp only [ho] at hk; omega
  | _ => simp only [ho] at hk; first | omega | (split at hk <;> omega)

theorem kind23 {cfg : Cfg cod} {tm : List SV} {H : Heap cod} {o : Oper} {out : Out cod} (hk : kindOf cfg o ≤ 3) (h : (opS cfg tm H o).gives out) : out.kill = [] := by
  have h4 : kindOf cfg o = 0 ∨ kindOf cfg o = 1 ∨ 2 ≤ kindOf cfg o := by omega
  rcases h4 with h0 | h1 | h2
  · exact (kind0 h0 h).2.1
  · exact (kind1 h1 h).2.1
  unfold opS at h
  unfold kindOf at hk h2
  have newS_ : ∀ {o : HObj cod} {v : SV}, (newS H o v).gives out → out.kill = [] := fun hh => by
    rw [newS, T.gives_ret] at hh; subst hh; rfl
  have mk_ : ∀ {ob : HObj cod}, (mkNew cfg o.dst H ob).gives out → out.kill = [] := fun hh => by
    unfold mkNew at hh
    split at hh
    · exact newS_ hh
    · split at hh
      · rw [T.gives_ret] at hh; subst hh; rfl
      · exact hh.elim
  cases ho : o.op with
  | move x =>
    simp only [ho] at h
    split at h
    · split at h
      · exact newS_ h
      · rw [T.gives_ret] at h; subst h; rfl
    · rw [T.gives_ret] at h; subst h; rfl
  | assign x =>
    simp only [ho] at h
    split at h
    · split at h
      · exact newS_ h
      · rw [T.gives_ret] at h; subst h; rfl
    · rw [T.gives_ret] at h; subst h; rfl
  | alloc e =>
    simp only [ho] at h
    split at h
    · exact mk_ h
    · exact h.elim
  | box e x =>
    simp only [ho] at h
    split at h
    · exact mk_ h
    · exact h.elim
  | buildSlice t n parts =>
    simp only [ho] at h
    split at h
    · split at h
      · split at h
        · split at h
          · exact newS_ h
          · exact h.elim
        · exact h.elim
      · split at h
        · exact newS_ h
        · exact h.elim
      · exact h.elim
    · exact h.elim
  | makeSlice t n c =>
    simp only [ho] at h
    split at h
    · split at h
      · split at h
        · rw [T.gives_need] at h
          exact newS_ h.2
        · exact h.elim
      · exact h.elim
    · exact h.elim
  | store t x y =>
    simp only [ho] at h
    split at h
    · split at h
      · rw [T.gives_bind] at h
        obtain ⟨H', _, hr⟩ := h
        rw [T.gives_ret] at hr
        subst hr; rfl
      · exact h.elim
    · exact h.elim
  | call c =>
    obtain ⟨callee, args, ts⟩ := c
    cases callee with
    | value f =>
      cases f with
      | func g =>
        simp only [ho, evS] at hk h h2
        by_cases hxt : isExt cfg.P g = true
        · rw [if_pos hxt] at h2; omega
        rw [if_neg hxt] at hk h
        have hsm : (cfg.summ g).isSome = true := by cases hx : (cfg.summ g).isSome <;> simp [hx] at hk; rfl
        exact (callS_grow hsm h).1
      | _ => simp only [ho] at hk; omega
    | builtin b =>
      by_cases hb : b = .copy
      · subst hb
        simp only [ho] at h
        generalize args.toList.map (evS tm) = l at h
        rcases l with _ | ⟨x, _ | ⟨y, _ | ⟨z, l⟩⟩⟩
        · exact h.elim
        · exact h.elim
        · simp only [builtinS] at h
          split at h
          · unfold copyS at h
            split at h
            · split at h
              · split at h
                · rw [T.gives_bind] at h
                  obtain ⟨l', _, h⟩ := h
                  rw [T.gives_need, T.gives_ret] at h
                  obtain ⟨_, rfl⟩ := h
                  rfl
                · exact h.elim
              · exact h.elim
            · exact h.elim
          · exact h.elim
        · exact h.elim
      · simp only [ho] at hk h2
        cases b <;> simp at hk h2 hb
    | invoke r m => simp only [ho] at hk; omega
  | convert s d x =>
    simp only [ho] at hk h2
    split at hk
    · simp_all
    · split at hk
      · simp_all
      · omega
  | _ => simp only [ho] at hk h2; omega
theorem kind2 {cfg : Cfg cod} {tm : List SV} {H : Heap cod} {o : Oper} {out : Out cod} (hk : kindOf cfg o = 2) (h : (opS cfg tm H o).gives out) : ∃ X, out.H = H ++ X := by
  unfold opS at h
  unfold kindOf at hk
  have newS_ : ∀ {o : HObj cod} {v : SV}, (newS H o v).gives out → ∃ X, out.H = H ++ X := fun hh => by
    rw [newS, T.gives_ret] at hh; subst hh; exact ⟨_, rfl⟩
  have mk_ : ∀ {ob : HObj cod}, (if (o.dst.bind cfg.place).isSome = true then 3 else 2) = 2 → (mkNew cfg o.dst H ob).gives out → ∃ X, out.H = H ++ X := fun hk hh => by
    unfold mkNew at hh
    split at hh
    · exact newS_ hh
    · rename_i k hd
      rw [hd] at hk
      cases hk
  have same : ∀ {v : SV}, (T.ret ({ v := v, H := H } : Out cod)).gives out → ∃ X, out.H = H ++ X := fun hh => by
    rw [T.gives_ret] at hh; subst hh; exact ⟨[], by simp⟩
  cases ho : o.op with
  | move x =>
    simp only [ho] at h
    split at h
    · split at h
      · exact newS_ h
      · exact same h
    · exact same h
  | assign x =>
    simp only [ho] at h
    split at h
    · split at h
      · exact newS_ h
      · exact same h
    · exact same h
  | alloc e =>
    simp only [ho] at h hk
    split at h
    · exact mk_ hk h
    · exact h.elim
  | box e x =>
    simp only [ho] at h hk
    split at h
    · exact mk_ hk h
    · exact h.elim
  | buildSlice t n parts =>
    simp only [ho] at h
    split at h
    · split at h
      · split at h
        · split at h
          · exact newS_ h
          · exact h.elim
        · exact h.elim
      · split at h
        · exact newS_ h
        · exact h.elim
      · exact h.elim
    · exact h.elim
  | makeSlice t n c =>
    simp only [ho] at h
    split at h
    · split at h
      · split at h
        · rw [T.gives_need] at h
          exact newS_ h.2
        · exact h.elim
      · exact h.elim
    · exact h.elim
  | call c =>
    obtain ⟨callee, args, ts⟩ := c
    cases callee with
    | value f =>
      cases f with
      | func g =>
        simp only [ho, evS] at hk h
        by_cases hxt : isExt cfg.P g = true
        · rw [if_pos hxt] at hk; omega
        rw [if_neg hxt] at hk h
        have hsm : (cfg.summ g).isSome = true := by cases hx : (cfg.summ g).isSome <;> simp [hx] at hk; rfl
        exact (callS_grow hsm h).2.1
      | _ => simp only [ho] at hk; omega
    | builtin b => simp only [ho] at hk; cases b <;> simp at hk
    | invoke r m => simp only [ho] at hk; omega
  | convert s d x => simp only [ho] at hk; split at hk <;> first | omega | (split at hk <;> omega)
  | _ => simp only [ho] at hk; omega

/-- Rows that may grow: an operation makes none of an object that is none, and strikes out references to such alone. -/
theorem storeS_own {H H' : Heap cod} {h i o : Nat} {xs : List Cell} (hs : (storeS H h i o xs).gives H') {S : Nat → Prop} {n : Nat} (hro : ∀ k x, k < n → H[k]? = some x → x.isOwn = true → S k) : ∀ k x, k < n → H'[k]? = some x → x.isOwn = true → S k := by
  have key : ∀ (ob ob' : HObj cod), getObj H h = ob → ob ≠ .dead → ob'.isOwn = ob.isOwn → H' = H.set h ob' → ∀ k x, k < n → H'[k]? = some x → x.isOwn = true → S k := by
    intro ob ob' ho hd hw he k x hk hx hxo
    subst he
    have hg := getObj_obj ho hd
    by_cases e : k = h
    · subst e
      rw [List.getElem?_set_self (List.getElem?_eq_some_iff.1 hg).1] at hx
      simp only [Option.some.injEq] at hx
      subst hx
      exact hro k ob hk hg (by rw [← hw]; exact hxo)
    · rw [List.getElem?_set_ne (by omega)] at hx
      exact hro k x hk hx hxo
  unfold storeS at hs
  cases ho : getObj H h with
  | blk c0 ty =>
    rw [ho] at hs
    simp only at hs
    split at hs
    · rw [T.gives_ret] at hs; exact key _ _ ho (by simp) (by rfl) hs.symm
    · exact hs.elim
  | arr t l ty =>
    rw [ho] at hs
    simp only at hs
    split at hs
    · rw [T.gives_need, T.gives_ret] at hs; exact key _ _ ho (by simp) (by rfl) hs.2.symm
    · exact hs.elim
  | own t l ty =>
    rw [ho] at hs
    simp only at hs
    split at hs
    · rw [T.gives_need, T.gives_ret] at hs; exact key _ _ ho (by simp) (by rfl) hs.2.symm
    · exact hs.elim
  | sarr pre t m l post ty =>
    rw [ho] at hs
    simp only at hs
    split at hs
    · rw [T.gives_need, T.gives_ret] at hs; exact key _ _ ho (by simp) (by rfl) hs.2.symm
    · split at hs
      · rw [T.gives_ret] at hs; exact key _ _ ho (by simp) (by rfl) hs.symm
      · split at hs
        · rw [T.gives_ret] at hs; exact key _ _ ho (by simp) (by rfl) hs.symm
        · exact hs.elim
  | rblk c0 => rw [ho] at hs; exact hs.elim
  | pblk c0 => rw [ho] at hs; exact hs.elim
  | inp t l => rw [ho] at hs; exact hs.elim
  | nin t LL op => rw [ho] at hs; exact hs.elim
  | nown t LL js cs ty tyr => rw [ho] at hs; exact hs.elim
  | dead => rw [ho] at hs; exact hs.elim
theorem clearS_own {cfg : Cfg cod} {H : Heap cod} {t : TypeId} {x : SV} {out : Out cod} {S : Nat → Prop} {n : Nat} (h : (clearS cfg H t x).gives out) (hn : n ≤ H.length) (hro : ∀ k x, k < n → H[k]? = some x → x.isOwn = true → S k) :
    (∀ k x, k < n → out.H[k]? = some x → x.isOwn = true → S k) ∧ ∀ k ∈ out.kill, k < n → S k := by
  unfold clearS at h
  split at h
  · rename_i e hh i m tt ht hs
    split at h
    · rename_i u l ty zc ho hz
      split at h
      · rw [T.gives_need, T.gives_ret] at h
        obtain ⟨_, rfl⟩ := h
        refine ⟨fun k y hk hy hw => ?_, fun k hk => by cases hk⟩
        simp only at hy
        by_cases e : k = hh
        · subst e
          exact hro k _ hk (getObj_obj ho (by simp)) rfl
        · rw [List.getElem?_set_ne (Ne.symm e)] at hy
          exact hro k y hk hy hw
      · exact h.elim
    · exact h.elim
  · exact h.elim
theorem copyS_own {cfg : Cfg cod} {H : Heap cod} {t : TypeId} {x y : SV} {out : Out cod} {S : Nat → Prop} {n : Nat} (h : (copyS cfg H t x y).gives out) (hn : n ≤ H.length) (hro : ∀ k x, k < n → H[k]? = some x → x.isOwn = true → S k) :
    (∀ k x, k < n → out.H[k]? = some x → x.isOwn = true → S k) ∧ ∀ k ∈ out.kill, k < n → S k := by
  unfold copyS at h
  split at h
  · rename_i e hh i m tt ht hs
    split at h
    · rename_i u l ty ho
      split at h
      · rw [T.gives_bind] at h
        obtain ⟨l', _, h⟩ := h
        rw [T.gives_need, T.gives_ret] at h
        obtain ⟨_, rfl⟩ := h
        refine ⟨fun k y hk hy hw => ?_, fun k hk => by cases hk⟩
        simp only at hy
        by_cases e : k = hh
        · subst e
          exact hro k _ hk (getObj_obj ho (by simp)) rfl
        · rw [List.getElem?_set_ne (Ne.symm e)] at hy
          exact hro k y hk hy hw
      · exact h.elim
    · exact h.elim
  · exact h.elim
theorem appendS_own {cfg : Cfg cod} {H : Heap cod} {t : TypeId} {s x : SV} {out : Out cod} (h : (appendS cfg H t s x).gives out) {S : Nat → Prop} {n : Nat} (hn : n ≤ H.length) (hro : ∀ k y, k < n → H[k]? = some y → y.isOwn = true → S k) :
    (∀ k y, k < n → out.H[k]? = some y → y.isOwn = true → S k) ∧ ∀ k ∈ out.kill, k < n → S k := by
  unfold appendS at h
  split at h
  · split at h
    · unfold appendN at h
      split at h
      · split at h
        · split at h
          · rw [T.gives_ret] at h
            subst h
            refine ⟨fun k y hk hy => ?_, fun k hk => by cases hk⟩
            rw [List.getElem?_append_left (by omega)] at hy
            exact hro k y hk hy
          · exact h.elim
        · exact h.elim
      · exact h.elim
    · split at h
      · rw [T.gives_bind] at h
        obtain ⟨l', _, h⟩ := h
        split at h
        · rename_i hh m
          split at h
          · rename_i u' l ty' ho
            split at h
            · split at h
              · rw [T.gives_need, T.gives_ret] at h
                obtain ⟨_, rfl⟩ := h
                have hg := getObj_obj ho (by simp)
                refine ⟨fun k y hk hy hyo => ?_, fun k hk hkn => by simp only [List.mem_singleton] at hk; subst hk; exact hro _ _ hkn hg rfl⟩
                simp only [List.getElem?_map] at hy
                obtain ⟨z, hz, rfl⟩ := Option.map_eq_some_iff.1 hy
                rw [own_map] at hyo
                by_cases e : k = hh
                · subst e; exact hro _ _ hk hg rfl
                · rw [List.getElem?_set_ne (by omega)] at hz
                  exact hro k z hk hz hyo
              · exact h.elim
            · exact h.elim
          · exact h.elim
        · by_cases hemp : cfg.emp = true
          · rw [if_pos hemp, T.gives_need, T.gives_ret] at h
            obtain ⟨_, rfl⟩ := h
            exact ⟨fun k y hk hy => hro k y hk hy, fun k hk => by cases hk⟩
          rw [if_neg hemp] at h
          rcases orNone_gives h with ⟨_, rfl⟩ | h
          · exact ⟨fun k y hk hy => hro k y hk hy, fun k hk => by cases hk⟩
          rw [T.gives_bind] at h
          obtain ⟨l, _, h⟩ := h
          rw [T.gives_need, T.gives_ret] at h
          obtain ⟨_, rfl⟩ := h
          refine ⟨fun k y hk hy => ?_, fun k hk => by cases hk⟩
          rw [List.getElem?_append_left (by omega)] at hy
          exact hro k y hk hy
        · obtain ⟨_, rfl⟩ := nilA_gives h
          refine ⟨fun k y hk hy => ?_, fun k hk => by cases hk⟩
          rw [List.getElem?_append_left (by omega)] at hy
          exact hro k y hk hy
        · exact h.elim
      · exact h.elim
  · exact h.elim
theorem callI_own {H : Heap cod} {kp : Bool} {s : Summ cod} {args : List SV} {out : Out cod} (h : (callI H kp s args).gives out) {S : Nat → Prop} {n : Nat} (hn : n ≤ H.length) (hro : ∀ k y, k < n → H[k]? = some y → y.isOwn = true → S k) :
    (∀ k y, k < n → out.H[k]? = some y → y.isOwn = true → S k) ∧ ∀ k ∈ out.kill, k < n → S k := by
  unfold callI at h
  simp only at h
  generalize reach H 3 (addNew [] (args.flatMap SV.hs)) = hs at h
  split at h
  · rw [T.gives_bind] at h
    obtain ⟨⟨r, H'⟩, hr, h⟩ := h
    simp only at h
    split at h
    · rename_i hwr
      obtain ⟨_, _, _, hkind⟩ := hwr
      rw [T.gives_ret] at h
      subst h
      refine ⟨fun k y hk hy hyo => ?_, fun k hk hkn => ?_⟩
      · simp only at hy
        rw [List.getElem?_append_left (by simp; omega), List.getElem?_map, List.getElem?_range (by omega)] at hy
        simp only [Option.map_some, Option.some.injEq] at hy
        have hg : H[k]? = some (getObj H k) := getObj_lt_some (by omega)
        refine hro k _ hk hg ?_
        split at hy
        · rename_i hc
          simp only [Bool.and_eq_true] at hc
          have hm : k ∈ hs := by simpa using hc.1
          have g1 := List.idxOf_lt_length_of_mem hm
          have g2 : hs.getD (hs.idxOf k) 0 = k := by simp [List.getD, List.getElem?_eq_getElem g1]
          have hkd := List.all_eq_true.1 hkind (hs.idxOf k) (List.mem_range.2 g1)
          subst hy
          rw [own_map] at hyo
          rw [g2, hyo] at hkd
          simp only [Bool.and_eq_true, Bool.not_true, Bool.or_false] at hkd
          exact hkd.2
        · subst hy
          rwa [own_map] at hyo
      · obtain ⟨h1, h2⟩ := List.mem_filter.1 hk
        simp only [Bool.and_eq_true] at h2
        exact hro k _ hkn (getObj_lt_some (by omega)) h2.2
    · exact h.elim
  · exact h.elim
theorem op_own {cfg : Cfg cod} {tm : List SV} {H : Heap cod} {o : Oper} {out : Out cod} {S : Nat → Prop} {n : Nat} (h : (opS cfg tm H o).gives out) (hn : n ≤ H.length) (hro : ∀ k x, k < n → H[k]? = some x → x.isOwn = true → S k) :
    (∀ k x, k < n → out.H[k]? = some x → x.isOwn = true → S k) ∧ ∀ k ∈ out.kill, k < n → S k := by
  have grow : ∀ X, out.H = H ++ X → out.kill = [] → (∀ k x, k < n → out.H[k]? = some x → x.isOwn = true → S k) ∧ ∀ k ∈ out.kill, k < n → S k := by
    intro X hX hk
    refine ⟨fun k x hkn hx => ?_, fun k h => by rw [hk] at h; cases h⟩
    rw [hX, List.getElem?_append_left (by omega)] at hx
    exact hro k x hkn hx
  have mk_ : ∀ {ob : HObj cod}, (mkNew cfg o.dst H ob).gives out → ob.isOwn = false → (∀ k x, k < n → out.H[k]? = some x → x.isOwn = true → S k) ∧ ∀ k ∈ out.kill, k < n → S k := fun hh hob => by
    unfold mkNew at hh
    split at hh
    · rw [newS, T.gives_ret] at hh
      subst hh
      exact grow _ rfl rfl
    · split at hh
      · rename_i kk _ _
        rw [T.gives_ret] at hh
        subst hh
        refine ⟨fun k x hkn hx hxo => ?_, fun k hk => by cases hk⟩
        simp only at hx
        by_cases e : k = kk
        · subst e
          rcases Nat.lt_or_ge k H.length with hl | hl
          · rw [List.getElem?_set_self hl] at hx
            simp only [Option.some.injEq] at hx
            subst hx
            rw [hob] at hxo
            cases hxo
          · rw [List.getElem?_eq_none (by simpa using hl)] at hx
            cases hx
        · rw [List.getElem?_set_ne (by omega)] at hx
          exact hro k x hkn hx hxo
      · exact hh.elim
  by_cases h0 : kindOf cfg o = 0
  · obtain ⟨h1, h2, _⟩ := kind0 h0 h
    exact grow [] (by rw [h1]; simp) h2
  by_cases h1 : kindOf cfg o = 1
  · obtain ⟨h1, h2, _⟩ := kind1 h1 h
    exact grow [] (by rw [h1]; simp) h2
  by_cases h2 : kindOf cfg o = 2
  · obtain ⟨X, hX⟩ := kind2 h2 h
    exact grow X hX (kind23 (by omega) h)
  cases ho : o.op with
  | store t x y =>
    have hk := kind23 (by unfold kindOf; rw [ho]; exact Nat.le_refl _) h
    unfold opS at h
    simp only [ho] at h
    split at h
    · split at h
      · rw [T.gives_bind] at h
        obtain ⟨H', hs, hr⟩ := h
        rw [T.gives_ret] at hr
        subst hr
        exact ⟨storeS_own hs hro, fun k h => by cases h⟩
      · exact h.elim
    · exact h.elim
  | call c =>
    obtain ⟨callee, args, ts⟩ := c
    cases callee with
    | value f =>
      unfold opS at h
      simp only [ho] at h
      split at h
      · split at h
        · rw [T.gives_bind] at h
          obtain ⟨v, _, h⟩ := h
          rw [T.gives_ret] at h
          subst h
          exact grow [] (by simp) rfl
        unfold callS at h
        split at h
        · obtain ⟨k1, ⟨X, hX⟩, _⟩ := callR_grow h
          exact grow X hX k1
        · split at h
          · exact callI_own h hn hro
          · exact h.elim
      · exact h.elim
    | builtin b =>
      unfold opS at h
      simp only [ho] at h
      cases b with
      | append =>
        generalize args.toList.map (evS tm) = l at h
        rcases l with _ | ⟨s, _ | ⟨x, _ | ⟨y, l⟩⟩⟩
        · exact h.elim
        · exact h.elim
        · simp only [builtinS] at h
          split at h
          · split at h
            · exact appendS_own h hn hro
            · exact h.elim
          · exact h.elim
        · exact h.elim
      | clear =>
        generalize args.toList.map (evS tm) = l at h
        rcases l with _ | ⟨x, _ | ⟨y, l⟩⟩
        · exact h.elim
        · simp only [builtinS] at h
          split at h
          · exact clearS_own h hn hro
          · exact h.elim
        · exact h.elim
      | copy =>
        generalize args.toList.map (evS tm) = l at h
        rcases l with _ | ⟨x, _ | ⟨y, _ | ⟨z, l⟩⟩⟩
        · exact h.elim
        · exact h.elim
        · simp only [builtinS] at h
          split at h
          · exact copyS_own h hn hro
          · exact h.elim
        · exact h.elim
      | len => exact absurd (by unfold kindOf; simp only [ho]) h0
      | max => exact absurd (by unfold kindOf; simp only [ho]) h0
      | min => exact absurd (by unfold kindOf; simp only [ho]) h0
      | _ => exact h.elim
    | invoke r m => unfold opS at h; simp only [ho] at h; exact h.elim
  | alloc e =>
    unfold opS at h
    simp only [ho] at h
    split at h
    · exact mk_ h (varObj_plain cfg _ _).2.1
    · exact h.elim
  | box e x =>
    unfold opS at h
    simp only [ho] at h
    split at h
    · exact mk_ h (varObj_plain cfg _ _).2.1
    · exact h.elim
  | convert s d x =>
    unfold opS at h
    simp only [ho] at h
    split at h
    · unfold toBytesS at h
      split at h
      · split at h
        · split at h
          · rw [T.gives_need, newS, T.gives_ret] at h
            obtain ⟨_, rfl⟩ := h
            exact grow _ rfl rfl
          · exact h.elim
        · exact h.elim
      · exact h.elim
    · rw [T.gives_bind] at h
      obtain ⟨v, _, h⟩ := h
      rw [T.gives_ret] at h
      subst h
      exact grow [] (by simp) rfl
    · unfold markS at h
      split at h
      · split at h
        · rename_i hob _
          split at h
          · rw [T.gives_ret] at h
            subst h
            refine ⟨fun k y hk hy hyo => ?_, fun k hk => by cases hk⟩
            rw [List.getElem?_set] at hy
            split at hy
            · split at hy
              · cases hy; cases hyo
              · cases hy
            · exact hro k y hk hy hyo
          · exact h.elim
        · exact h.elim
      · exact h.elim
    · rw [T.gives_bind] at h
      obtain ⟨v, _, h⟩ := h
      rw [T.gives_ret] at h
      subst h
      exact grow [] (by simp) rfl
  | move x =>
    have : kindOf cfg o = 0 ∨ kindOf cfg o = 2 := by unfold kindOf; simp only [ho]; split <;> simp
    omega
  | assign x =>
    have : kindOf cfg o = 0 ∨ kindOf cfg o = 2 := by unfold kindOf; simp only [ho]; split <;> simp
    omega
  | _ => first
    | (exfalso; apply h0; unfold kindOf; simp only [ho]; done)
    | (exfalso; apply h1; unfold kindOf; simp only [ho]; done)
    | (exfalso; apply h2; unfold kindOf; simp only [ho]; done)
    | (unfold opS at h; simp only [ho] at h; exact h.elim)
end
end Go.Proofs.YtiolfkmkbccndaaGreatDoor.Sym
