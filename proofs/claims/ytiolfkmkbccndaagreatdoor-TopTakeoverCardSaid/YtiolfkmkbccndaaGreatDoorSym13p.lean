/- A symbolic run is sound: literals and appends whose new row goes into a place that is kept for it. -/
import Derived.Test.YtiolfkmkbccndaaGreatDoorSym13f
namespace Go.Proofs.YtiolfkmkbccndaaGreatDoor.Sym
open Go.RowKit

section
variable {cod : Nat → Codec} {P : Program} {env : Env} {N : Nat}

theorem opP_plain {cfg : Cfg cod} {tm : List SV} {H : Heap cod} {o : Oper} (h : isMoved o = false ∨ o.dst.bind cfg.place = none) : opP cfg tm H o = opS cfg tm H o := by
  unfold opP
  split
  · rename_i h1 h2
    rcases h with h | h
    · rw [h1] at h; cases h
    · rw [h2] at h; cases h
  · rfl
theorem opP_moved {cfg : Cfg cod} {tm : List SV} {H : Heap cod} {o : Oper} {k : Nat} (h1 : isMoved o = true) (h2 : o.dst.bind cfg.place = some k) : opP cfg tm H o = (opS cfg tm H o).bind (moveS H k) := by
  unfold opP
  rw [h1, h2]
theorem opP_congr (cfg : Cfg cod) {tm tm' : List SV} (H : Heap cod) (o : Oper) (h : ∀ x ∈ o.op.operands.toList, evS tm x = evS tm' x) : opP cfg tm H o = opP cfg tm' H o := by
  unfold opP
  rw [opS_congr cfg H o h]
/-- What a move comes to: a new row, or an own row that has grown. -/
theorem moveS_spec {H : Heap cod} {k : Nat} {out out' : Out cod} (h : (moveS H k out).gives out') : (getObj H k).isHold = true ∧ out'.kill = [] ∧ ((out.kill = [] ∧ ∃ ob : HObj cod, out.H.drop H.length = [ob] ∧ ob.isRow = true ∧ out'.H = H.set k ob ∧
    ((∃ n t, out.v = .c (.slc H.length 0 n t) ∧ out'.v = .c (.slc k 0 n t)) ∨ ∃ n, out.v = .c (.own H.length n) ∧ out'.v = .c (.own k n))) ∨
    (∃ q n, out.kill = [q] ∧ out.H.drop H.length = [] ∧ out.v = .c (.own q n) ∧ (getObj H q).isOwn = true ∧ (getObj out.H q).isOwn = true ∧ out' = { v := .c (.own k n), H := (H.set q .dead).set k (getObj out.H q) }) ∨
    (out.kill = [] ∧ out.H.drop H.length = [] ∧ out' = { v := out.v, H := H })) := by
  unfold moveS at h
  split at h
  · rename_i ob hh n t hk hd hv
    split at h
    · rename_i hc
      obtain ⟨rfl, hc2, hc3⟩ := hc
      rw [T.gives_ret] at h
      subst h
      exact ⟨hc2, rfl, .inl ⟨hk, ob, hd, hc3, rfl, .inl ⟨n, t, hv, rfl⟩⟩⟩
    · exact h.elim
  · rename_i ob hh n hk hd hv
    split at h
    · rename_i hc
      obtain ⟨rfl, hc2, hc3⟩ := hc
      rw [T.gives_ret] at h
      subst h
      exact ⟨hc2, rfl, .inl ⟨hk, ob, hd, hc3, rfl, .inr ⟨n, hv, rfl⟩⟩⟩
    · exact h.elim
  · rename_i q hh n hk hd hv
    split at h
    · rename_i hc
      obtain ⟨rfl, hc2, hc3, hc4⟩ := hc
      rw [T.gives_ret] at h
      subst h
      exact ⟨hc2, rfl, .inr (.inl ⟨q, n, hk, hd, hv, hc3, hc4, rfl⟩)⟩
    · exact h.elim
  · rename_i hh i n t hk hd hv
    split at h
    · rename_i hc
      rw [T.gives_ret] at h
      subst h
      exact ⟨hc, rfl, .inr (.inr ⟨hk, hd, by rw [hv]⟩)⟩
    · exact h.elim
  · exact h.elim
theorem isRow_plain {ob : HObj cod} (h : ob.isRow = true) : ob.wr = true ∧ ob.hs = [] ∧ ob.isHold = false := by
  cases ob <;> simp [HObj.isRow] at h <;> exact ⟨rfl, rfl, rfl⟩
theorem row_env {env env' : Env} {N N' : Nat} {x : HV} {w : World} {M : Nat → Prop} {ob : HObj cod} (h : ob.isRow = true) (ho : objRel env N x w M ob) : objRel env' N' x w M ob := by
  cases ob <;> simp [HObj.isRow] at h <;> exact ho
theorem ren_id (c : Cell) : c.ren (fun h => h) = c := by cases c <;> simp [Cell.ren]
theorem mapC_ren_id (o : HObj cod) : o.mapC (Cell.ren fun h => h) = o := by
  have e : (Cell.ren fun h => h) = id := funext ren_id
  rw [e]
  cases o <;> simp [HObj.mapC]
theorem crel_hs {c : Cell} {v : Value} (h : crel env N c v) : ∀ q ∈ c.hs, q < N := by
  intro q hq
  cases c <;> simp only [crel, Cell.hs, List.mem_singleton, List.not_mem_nil] at h hq
  case ptr => subst hq; exact h.1
  case slc => subst hq; exact h.1
  case own => subst hq; exact h.1
  case fn f caps =>
    obtain ⟨c, hc, rfl⟩ := List.mem_map.1 hq
    exact h.1 c hc
theorem crels_hs : ∀ {cs : List Cell} {vs : List Value}, crels env N cs vs → ∀ q ∈ cs.flatMap Cell.hs, q < N
  | _, _, .nil, q, hq => by cases hq
  | _, _, .cons h t, q, hq => by
    rw [List.flatMap_cons] at hq
    rcases List.mem_append.1 hq with h1 | h1
    · exact crel_hs h q h1
    · exact crels_hs t q h1
theorem objRel_hs {x : HV} {w : World} {M : Nat → Prop} {o : HObj cod} (h : objRel env N x w M o) : ∀ q ∈ o.hs, q < N := by
  intro q hq
  cases o with
  | blk cs ty => obtain ⟨_, _, vs, _, h4⟩ := h; exact crels_hs h4 q hq
  | rblk cs => obtain ⟨_, _, vs, _, h4⟩ := h; exact crels_hs h4 q hq
  | pblk cs => obtain ⟨_, _, vs, _, h4⟩ := h; exact crels_hs h4 q hq
  | nown t LL js cs ty tyr =>
    obtain ⟨_, _, ⟨_, hl⟩, ⟨vs, _, _, h6⟩, _⟩ := h
    obtain ⟨c, hc, hq⟩ := List.mem_flatMap.1 hq
    obtain ⟨k, hk, rfl⟩ := List.getElem_of_mem hc
    obtain ⟨v, _, hr⟩ := h6 k (js[k]'(by omega)) _ (List.getElem?_eq_getElem (by omega)) (List.getElem?_eq_getElem hk)
    exact crel_hs hr q hq
  | nin t LL op =>
    cases op with
    | none => cases hq
    | some p =>
      obtain ⟨h1, vs, h2, h3, h4, h5, h6, h7⟩ := h
      obtain ⟨v, _, hc⟩ := h7 p rfl
      exact crel_hs hc q hq
  | _ => cases hq
/-- Behind an operation that has made one row, the same with the row in a kept place. -/
theorem After.move {H H' : Heap cod} {w w' : World} {M : Nat → Prop} {k : Nat} {ob : HObj cod} {v0 : SV} {v : Value} (cfg : Cfg cod) (G0 : Good env H w M) (hT : Turn cfg H k) (hfr : ∀ o ∈ H, k ∉ o.hs) (hH : H' = H ++ [ob]) (hrow : ob.isRow = true)
    (h : After env H w M { v := v0, H := H' } v w') :
    (∀ n t, v0 = .c (.slc H.length 0 n t) → After2 cfg env H w M { v := .c (.slc k 0 n t), H := H.set k ob } v w') ∧ (∀ n, v0 = .c (.own H.length n) → After2 cfg env H w M { v := .c (.own k n), H := H.set k ob } v w') := by
  subst hH
  obtain ⟨env', hbut, _, hv, G, hkin⟩ := h
  have hbut : ∀ j, j < H.length → env' j = env j := fun j hj => hbut j hj (by simp)
  have hk : H[k]? = some (getObj H k) := getObj_some (fun e => by have := hT.2; rw [e] at this; cases this)
  have hlt : k < H.length := (List.getElem?_eq_some_iff.1 hk).1
  obtain ⟨hw, hhs, _⟩ := isRow_plain hrow
  have hn : (H ++ [ob])[H.length]? = some ob := by simp
  have old : ∀ j a, j < H.length → H[j]? = some a → (H ++ [ob])[j]? = some a := fun j a hj ha => by rw [List.getElem?_append_left hj]; exact ha
  have cases_ : ∀ j a, (H.set k ob)[j]? = some a → (j ≠ k ∧ j < H.length ∧ H[j]? = some a) ∨ (j = k ∧ a = ob) := by
    intro j a ha
    by_cases e : j = k
    · subst e
      rw [List.getElem?_set_self hlt] at ha
      simp only [Option.some.injEq] at ha
      exact .inr ⟨rfl, ha.symm⟩
    · rw [List.getElem?_set_ne (by omega)] at ha
      exact .inl ⟨e, (List.getElem?_eq_some_iff.1 ha).1, ha⟩
  let env2 : Env := env'.set k (env' H.length)
  have e2k : env2 k = env' H.length := Env.set_same _ _ _
  have e2j : ∀ j, j ≠ k → env2 j = env' j := fun j hj => Env.set_other _ _ hj
  have hG : Good env2 (H.set k ob) w' M := by
    refine ⟨fun j a ha => ?_, fun j j' a a' b hne ha ha' hwa hb hb' => ?_, G.tab⟩
    · rw [List.length_set]
      rcases cases_ j a ha with ⟨hne, hj, h1⟩ | ⟨rfl, rfl⟩
      · rw [e2j j hne]
        have h2 := G.obj j a (old j a hj h1)
        rw [List.length_append, List.length_singleton] at h2
        have hlow := objRel_hs (G0.obj j a h1)
        have h3 := objRel_map' (f := Cell.ren fun h => h) (env' := env2) (N' := H.length) (fun c hc v hcv => crel_ren (fun q hq _ => ⟨hlow q (hc q hq), e2j q (fun e => hfr a (List.mem_of_getElem? h1) (by rw [← e]; exact hc q hq))⟩) hcv) h2
        rwa [mapC_ren_id] at h3
      · rw [e2k]
        exact row_env hrow (G.obj H.length _ hn)
    · rcases cases_ j a ha with ⟨h1, hj, h2⟩ | ⟨rfl, rfl⟩ <;> rcases cases_ j' a' ha' with ⟨h1', hj', h2'⟩ | ⟨rfl, rfl⟩
      · rw [e2j j h1] at hb
        rw [e2j j' h1'] at hb'
        exact G.sep j j' a a' b hne (old j a hj h2) (old j' a' hj' h2') hwa hb hb'
      · rw [e2j j h1] at hb
        rw [e2k] at hb'
        exact G.sep j H.length a _ b (by omega) (old j a hj h2) hn hwa hb hb'
      · rw [e2k] at hb
        rw [e2j j' h1'] at hb'
        exact G.sep H.length j' _ a' b (by omega) hn (old j' a' hj' h2') hwa hb hb'
      · exact hne rfl
  have he : ∀ q, q < H.length → ¬ Turn cfg H q → env2 q = env q := fun q hq ht => by
    rw [e2j q (fun e => ht (by rw [e]; exact hT))]
    exact hbut q hq
  refine ⟨fun n t hvt => ?_, fun n hvn => ?_⟩
  · subst hvt
    refine ⟨env2, fun q hq _ ht => he q hq ht, by simp, ?_, hG, hkin⟩
    obtain ⟨_, A, c, g1, g2, g3, g4, g5⟩ := hv
    simp only [List.length_set]
    exact ⟨hlt, A, c, g1, g2, g3, g4, by rw [e2k]; exact g5⟩
  · subst hvn
    refine ⟨env2, fun q hq _ ht => he q hq ht, by simp, ?_, hG, hkin⟩
    obtain ⟨_, g0, A, c, g1, g2, g3, g4⟩ := hv
    simp only [List.length_set]
    exact ⟨hlt, by rw [e2k]; exact g0, A, c, g1, g2, g3, by rw [e2k]; exact g4⟩
theorem rowsOf_obj {u : Nat} {H H' : Heap cod} {x : SV} (e : ∀ q ∈ x.hs, getObj H' q = getObj H q) : rowsOf u H' x = rowsOf u H x := by
  unfold rowsOf
  split
  · rw [e _ (by simp [SV.hs, Cell.hs])]
  · rw [e _ (by simp [SV.hs, Cell.hs])]
  · rfl
theorem append_localN {cfg : Cfg cod} {H : Heap cod} {e : TypeId} {s x : SV} {out : Out cod} (h : (appendN cfg H e s x).gives out) :
    ∃ (ob : HObj cod) (n : Nat), out = { v := .c (.slc H.length 0 n false), H := H ++ [ob] } ∧ ∀ H' : Heap cod, (∀ q ∈ s.hs ++ x.hs, getObj H' q = getObj H q) → (appendN cfg H' e s x).gives { v := .c (.slc H'.length 0 n false), H := H' ++ [ob] } := by
  unfold appendN at h
  split at h
  · rename_i hh i n tt
    split at h
    · rename_i cs hf
      split at h
      · rename_i hc
        rw [T.gives_ret] at h
        subst h
        refine ⟨_, n, rfl, fun H' hH' => ?_⟩
        have e1 : getObj H' hh = getObj H hh := hH' hh (by simp [SV.hs, Cell.hs])
        unfold appendN
        simp only [e1, hf]
        rw [if_pos hc]
        rfl
      · exact h.elim
    · exact h.elim
  · exact h.elim
theorem append_local {cfg : Cfg cod} {H : Heap cod} {t : TypeId} {s x : SV} {out : Out cod} (h : (appendS cfg H t s x).gives out) (hN : ∀ e, cfg.P.underlying t = some (.slice e) → cfg.ctag e ≠ none) (hk : out.kill = []) (hd : out.H.drop H.length ≠ []) :
    ∃ (ob : HObj cod) (n : Nat), out = { v := .c (.own H.length n), H := H ++ [ob] } ∧ ∀ H' : Heap cod, (∀ q ∈ s.hs ++ x.hs, getObj H' q = getObj H q) → (appendS cfg H' t s x).gives { v := .c (.own H'.length n), H := H' ++ [ob] } := by
  unfold appendS at h ⊢
  split at h
  · rename_i e ht
    split at h
    · rename_i hct; exact absurd hct (hN _ ht)
    · rename_i u hu
      split at h
      · rename_i hc
        rw [T.gives_bind] at h
        obtain ⟨l', hl', h⟩ := h
        split at h
        · rename_i hh n
          split at h
          · split at h
            · split at h
              · rw [T.gives_need, T.gives_ret] at h
                obtain ⟨_, rfl⟩ := h
                simp at hk
              · exact h.elim
            · exact h.elim
          · exact h.elim
        · rename_i hh i0 n
          by_cases hemp : cfg.emp = true
          · rw [if_pos hemp, T.gives_need, T.gives_ret] at h
            obtain ⟨_, rfl⟩ := h
            simp at hd
          rw [if_neg hemp] at h
          rcases orNone_gives h with ⟨_, rfl⟩ | h
          · simp at hd
          rw [T.gives_bind] at h
          obtain ⟨l, hl, h⟩ := h
          rw [T.gives_need, T.gives_ret] at h
          obtain ⟨hp, rfl⟩ := h
          refine ⟨_, _, rfl, fun H' hH' => ?_⟩
          simp only [hu, hc, and_self, if_true, hemp, Bool.false_eq_true, if_false]
          rw [T.gives_bind]
          refine ⟨l', by rw [rowsOf_obj fun q hq => hH' q (List.mem_append_right _ hq)]; exact hl', ?_⟩
          refine orNone_of ?_ hp.1
          rw [T.gives_bind]
          refine ⟨l, by rw [rowsOf_obj fun q hq => hH' q (List.mem_append_left _ hq)]; exact hl, ?_⟩
          rw [T.gives_need, T.gives_ret]
          exact ⟨hp, rfl⟩
        · have h2 := h
          obtain ⟨_, rfl⟩ := nilA_gives h
          refine ⟨_, _, rfl, fun H' hH' => ?_⟩
          simp only [hu, hc, and_self, if_true]
          rw [T.gives_bind]
          refine ⟨l', by rw [rowsOf_obj fun q hq => hH' q (List.mem_append_right _ hq)]; exact hl', ?_⟩
          exact nilA_mk _ h2
        · exact h.elim
      · exact h.elim
  · exact h.elim
/-- What such an operation reads. -/
def movedReads (tm : List SV) (o : Oper) : List Nat :=
  match o.op with
  | .call { args, .. } => args.toList.flatMap fun x => (evS tm x).hs
  | _ => []
theorem moved_local {cfg : Cfg cod} {tm : List SV} {H : Heap cod} {o : Oper} {out : Out cod} (hm : isMoved o = true) (h : (opS cfg tm H o).gives out) (hk : out.kill = []) (hd : out.H.drop H.length ≠ []) :
    ∃ (ob : HObj cod) (mk : Nat → SV), out = { v := mk H.length, H := H ++ [ob] } ∧ ((∃ n t, mk = fun h => .c (.slc h 0 n t)) ∨ ∃ n, mk = fun h => .c (.own h n)) ∧
      ∀ H' : Heap cod, (∀ q ∈ movedReads tm o, getObj H' q = getObj H q) → (opS cfg tm H' o).gives { v := mk H'.length, H := H' ++ [ob] } := by
  unfold isMoved at hm
  unfold opS at h ⊢
  cases ho : o.op with
  | buildSlice t n parts =>
    simp only [ho] at h ⊢
    split at h
    · rename_i e ht
      split at h
      · rename_i cs u hf hu
        split at h
        · rename_i l hl
          split at h
          · rename_i hc
            rw [newS, T.gives_ret] at h
            subst h
            refine ⟨_, fun h => .c (.slc h 0 n true), rfl, .inl ⟨n, true, rfl⟩, fun H' _ => ?_⟩
            rw [if_pos hc]
            rfl
          · exact h.elim
        · exact h.elim
      · rename_i cs hf hu
        split at h
        · rename_i hc
          rw [newS, T.gives_ret] at h
          subst h
          refine ⟨_, fun h => .c (.slc h 0 n true), rfl, .inl ⟨n, true, rfl⟩, fun H' _ => ?_⟩
          rw [if_pos hc]
          rfl
        · exact h.elim
      · exact h.elim
    · exact h.elim
  | makeSlice t n c =>
    simp only [ho] at h ⊢
    split at h
    · split at h
      · split at h
        · rename_i hc
          rw [newS, T.gives_need, T.gives_ret] at h
          obtain ⟨hp, rfl⟩ := h
          refine ⟨_, fun h => .c (.slc h 0 _ true), rfl, .inl ⟨_, true, rfl⟩, fun H' _ => ?_⟩
          rw [if_pos hc, newS, T.gives_need, T.gives_ret]
          exact ⟨hp, rfl⟩
        · exact h.elim
      · exact h.elim
    · exact h.elim
  | call c =>
    obtain ⟨callee, args, argTypes⟩ := c
    cases callee with
    | builtin b =>
      cases b with
      | append =>
        have hred : ∀ q, q ∈ movedReads tm o ↔ q ∈ args.toList.flatMap fun x => (evS tm x).hs := fun q => by unfold movedReads; rw [ho]
        simp only [ho] at h ⊢
        unfold builtinS at h ⊢
        split at h
        · contradiction
        · contradiction
        · contradiction
        · rename_i s x _ hargs
          split at h
          · rename_i t t' h1 h2
            split at h
            · rename_i htt
              have hq' : ∀ q, q ∈ s.hs ++ x.hs → q ∈ movedReads tm o := fun q hq => by
                refine (hred q).2 ?_
                have : (args.toList.map (evS tm)).flatMap SV.hs = s.hs ++ x.hs := by rw [hargs]; simp
                rw [List.flatMap_map] at this
                rw [this]
                exact hq
              by_cases hN : ∃ e, cfg.P.underlying t = some (.slice e) ∧ cfg.ctag e = none
              · obtain ⟨e, he, hce⟩ := hN
                have hS : ∀ H' : Heap cod, appendS cfg H' t s x = appendN cfg H' e s x := fun H' => by unfold appendS; simp only [he, hce]
                rw [hS] at h
                obtain ⟨ob, n, rfl, hl⟩ := append_localN h
                refine ⟨ob, fun h => .c (.slc h 0 n false), rfl, .inl ⟨n, false, rfl⟩, fun H' hH' => ?_⟩
                simp only [htt, if_true]
                rw [← htt, hS]
                exact hl H' fun q hq => hH' q (hq' q hq)
              · obtain ⟨ob, n, rfl, hl⟩ := append_local h (fun e he hce => hN ⟨e, he, hce⟩) hk hd
                refine ⟨ob, fun h => .c (.own h n), rfl, .inr ⟨n, rfl⟩, fun H' hH' => ?_⟩
                simp only [htt, if_true]
                rw [← htt]
                exact hl H' fun q hq => hH' q (hq' q hq)
            · exact h.elim
          · exact h.elim
        · contradiction
        · contradiction
        · exact h.elim
      | _ => rw [ho] at hm; cases hm
    | _ => rw [ho] at hm; cases hm
  | _ => rw [ho] at hm; cases hm
theorem moved_not_new {o : Oper} (h : isMoved o = true) : isNewOp o = false := by
  unfold isMoved at h
  unfold isNewOp
  split at h <;> simp_all
theorem hold_turn {cfg : Cfg cod} {H : Heap cod} {d : Option Nat} {k : Nat} (hp : d.bind cfg.place = some k) (hh : (getObj H k).isHold = true) : Turn cfg H k := by
  obtain ⟨e, _, hd⟩ := Option.bind_eq_some_iff.1 hp
  exact ⟨⟨e, hd⟩, hh⟩
theorem isOwn_row {ob : HObj cod} (h : ob.isOwn = true) : ob.isRow = true := by cases ob <;> simp [HObj.isOwn] at h <;> rfl
theorem isOwn_not_hold {ob : HObj cod} (h : ob.isOwn = true) : ob.isHold = false := (isRow_plain (isOwn_row h)).2.2
/-- One object struck out, or none. -/
def deadO (H : Heap cod) : Option Nat → Heap cod
  | none => H
  | some q => H.set q .dead
theorem deadO_length (H : Heap cod) (d : Option Nat) : (deadO H d).length = H.length := by cases d <;> simp [deadO]
theorem moved_own {cfg : Cfg cod} {tm : List SV} {H : Heap cod} {o : Oper} {out : Out cod} {q : Nat} (hm : isMoved o = true) (h : (opS cfg tm H o).gives out) (hk : out.kill = [q]) :
    ∃ args ats, o.op = .call ⟨.builtin .append, args, ats⟩ ∧ ∃ n x t, args.toList.map (evS tm) = [.c (.own q n), x] ∧ ats[0]? = some t ∧ ats[1]? = some t ∧ (appendS cfg H t (.c (.own q n)) x).gives out := by
  unfold isMoved at hm
  unfold opS at h
  cases ho : o.op with
  | buildSlice t n parts =>
    exfalso
    simp only [ho] at h
    split at h
    · split at h
      · split at h
        · split at h
          · rw [newS, T.gives_ret] at h
            subst h
            cases hk
          · exact h.elim
        · exact h.elim
      · split at h
        · rw [newS, T.gives_ret] at h
          subst h
          cases hk
        · exact h.elim
      · exact h.elim
    · exact h.elim
  | makeSlice t n c =>
    exfalso
    simp only [ho] at h
    split at h
    · split at h
      · split at h
        · rw [newS, T.gives_need, T.gives_ret] at h
          obtain ⟨_, rfl⟩ := h
          cases hk
        · exact h.elim
      · exact h.elim
    · exact h.elim
  | call c =>
    obtain ⟨callee, args, ats⟩ := c
    cases callee with
    | builtin b =>
      cases b with
      | append =>
        simp only [ho] at h
        unfold builtinS at h
        split at h
        · contradiction
        · contradiction
        · contradiction
        · rename_i s x _ hargs
          split at h
          · rename_i t t' h1 h2
            split at h
            · rename_i htt
              subst htt
              have hsx : ∃ n, s = .c (.own q n) := by
                have h' := h
                unfold appendS at h'
                split at h'
                · split at h'
                  · unfold appendN at h'
                    split at h'
                    · split at h'
                      · split at h'
                        · rw [T.gives_ret] at h'
                          subst h'
                          cases hk
                        · exact h'.elim
                      · exact h'.elim
                    · exact h'.elim
                  · split at h'
                    · rw [T.gives_bind] at h'
                      obtain ⟨l', hl', h'⟩ := h'
                      split at h'
                      · rename_i hh n
                        split at h'
                        · split at h'
                          · split at h'
                            · rw [T.gives_need, T.gives_ret] at h'
                              obtain ⟨_, rfl⟩ := h'
                              simp only [List.cons.injEq, and_true] at hk
                              exact ⟨n, by rw [hk]⟩
                            · exact h'.elim
                          · exact h'.elim
                        · exact h'.elim
                      · split at h'
                        · rw [T.gives_need, T.gives_ret] at h'
                          obtain ⟨_, rfl⟩ := h'
                          cases hk
                        · rcases orNone_gives h' with ⟨_, rfl⟩ | h'
                          · cases hk
                          rw [T.gives_bind] at h'
                          obtain ⟨l, _, h'⟩ := h'
                          rw [T.gives_need, T.gives_ret] at h'
                          obtain ⟨_, rfl⟩ := h'
                          cases hk
                      · obtain ⟨_, rfl⟩ := nilA_gives h'
                        cases hk
                      · exact h'.elim
                    · exact h'.elim
                · exact h'.elim
              obtain ⟨n, rfl⟩ := hsx
              exact ⟨args, ats, rfl, n, x, t, hargs, h1, h2, h⟩
            · exact h.elim
          · exact h.elim
        · contradiction
        · contradiction
        · exact h.elim
      | _ => rw [ho] at hm; cases hm
    | _ => rw [ho] at hm; cases hm
  | _ => rw [ho] at hm; cases hm
/-- An append to an own row reads that row and what it appends. -/
theorem append_own_local {cfg : Cfg cod} {H : Heap cod} {t : TypeId} {q n : Nat} {x : SV} {out : Out cod} (h : (appendS cfg H t (.c (.own q n)) x).gives out) :
    ∃ (ob : HObj cod) (n' : Nat), out = { v := .c (.own q n'), H := (H.set q ob).map (HObj.mapC (Cell.killed [q])), kill := [q] } ∧ ob.isOwn = true ∧ (getObj H q).isOwn = true ∧ getObj out.H q = ob ∧
      ∀ H' : Heap cod, (∀ j ∈ q :: x.hs, getObj H' j = getObj H j) → (appendS cfg H' t (.c (.own q n)) x).gives { v := .c (.own q n'), H := (H'.set q ob).map (HObj.mapC (Cell.killed [q])), kill := [q] } ∧ getObj ((H'.set q ob).map (HObj.mapC (Cell.killed [q]))) q = ob := by
  unfold appendS at h ⊢
  split at h
  · rename_i e ht
    split at h
    · unfold appendN at h
      split at h
      · rename_i e0
        cases e0
      · exact h.elim
    · rename_i u hu
      split at h
      · rename_i hc
        rw [T.gives_bind] at h
        obtain ⟨l', hl', h⟩ := h
        simp only at h
        split at h
        · rename_i u' l ty ho
          split at h
          · rename_i hu'
            subst hu'
            split at h
            · rename_i hty
              rw [T.gives_need, T.gives_ret] at h
              obtain ⟨hp, rfl⟩ := h
              have gt : ∀ H' : Heap cod, getObj H' q = getObj H q → getObj ((H'.set q (.own u' (l ++ l') e)).map (HObj.mapC (Cell.killed [q]))) q = .own u' (l ++ l') e := fun H' hq => by
                rw [ho] at hq
                have hob := getObj_obj hq (by simp)
                refine getObj_of_some ?_
                rw [List.getElem?_map, List.getElem?_set_self (List.getElem?_eq_some_iff.1 hob).1]
                rfl
              refine ⟨.own u' (l ++ l') e, n + l'.length, rfl, rfl, by rw [ho]; rfl, gt H rfl, fun H' hH' => ⟨?_, gt H' (hH' q (List.mem_cons_self ..))⟩⟩
              simp only [hu, hc, and_self, if_true]
              rw [T.gives_bind]
              refine ⟨l', by rw [rowsOf_obj fun j hj => hH' j (List.mem_cons_of_mem _ hj)]; exact hl', ?_⟩
              have e1 : getObj H' q = .own u' l ty := by rw [hH' q (List.mem_cons_self ..)]; exact ho
              simp only [e1, hty, if_true, dite_true]
              rw [T.gives_need, T.gives_ret]
              exact ⟨hp, rfl⟩
            · exact h.elim
          · exact h.elim
        · exact h.elim
      · exact h.elim
  · exact h.elim
/-- An append that has added nothing. -/
theorem moved_none {cfg : Cfg cod} {tm : List SV} {H : Heap cod} {o : Oper} {out : Out cod} (hm : isMoved o = true) (h : (opS cfg tm H o).gives out) (hk : out.kill = []) (hd : out.H.drop H.length = []) :
    out.H = H ∧ (∀ q ∈ out.v.hs, q ∈ movedReads tm o) ∧ ∀ H' : Heap cod, (∀ q ∈ movedReads tm o, getObj H' q = getObj H q) → (opS cfg tm H' o).gives { v := out.v, H := H' } := by
  have new_ : ∀ (ob : HObj cod), out.H = H ++ [ob] → False := fun ob e => by rw [e] at hd; simp at hd
  unfold isMoved at hm
  unfold opS at h ⊢
  cases ho : o.op with
  | buildSlice t n parts =>
    exfalso
    simp only [ho] at h
    split at h
    · split at h
      · split at h
        · split at h
          · rw [newS, T.gives_ret] at h
            subst h
            exact new_ _ rfl
          · exact h.elim
        · exact h.elim
      · split at h
        · rw [newS, T.gives_ret] at h
          subst h
          exact new_ _ rfl
        · exact h.elim
      · exact h.elim
    · exact h.elim
  | makeSlice t n c =>
    exfalso
    simp only [ho] at h
    split at h
    · split at h
      · split at h
        · rw [newS, T.gives_need, T.gives_ret] at h
          obtain ⟨_, rfl⟩ := h
          exact new_ _ rfl
        · exact h.elim
      · exact h.elim
    · exact h.elim
  | call c =>
    obtain ⟨callee, args, ats⟩ := c
    cases callee with
    | builtin b =>
      cases b with
      | append =>
        have hred : ∀ q, q ∈ movedReads tm o ↔ q ∈ args.toList.flatMap fun x => (evS tm x).hs := fun q => by unfold movedReads; rw [ho]
        simp only [ho] at h ⊢
        unfold builtinS at h ⊢
        split at h
        · contradiction
        · contradiction
        · contradiction
        · rename_i s x _ hargs
          split at h
          · rename_i t t' h1 h2
            split at h
            · rename_i htt
              have hq' : ∀ q, q ∈ s.hs ++ x.hs → q ∈ movedReads tm o := fun q hq => by
                refine (hred q).2 ?_
                have : (args.toList.map (evS tm)).flatMap SV.hs = s.hs ++ x.hs := by rw [hargs]; simp
                rw [List.flatMap_map] at this
                rw [this]
                exact hq
              simp only [htt, if_true]
              rw [← htt]
              unfold appendS at h ⊢
              split at h
              · rename_i e ht
                split at h
                · exfalso
                  unfold appendN at h
                  split at h
                  · split at h
                    · split at h
                      · rw [T.gives_ret] at h
                        subst h
                        exact new_ _ rfl
                      · exact h.elim
                    · exact h.elim
                  · exact h.elim
                · rename_i u hu
                  split at h
                  · rename_i hc
                    rw [T.gives_bind] at h
                    obtain ⟨l', hl', h⟩ := h
                    split at h
                    · exfalso
                      split at h
                      · split at h
                        · split at h
                          · rw [T.gives_need, T.gives_ret] at h
                            obtain ⟨_, rfl⟩ := h
                            cases hk
                          · exact h.elim
                        · exact h.elim
                      · exact h.elim
                    · rename_i hh i0 n
                      by_cases hemp : cfg.emp = true
                      · rw [if_pos hemp, T.gives_need, T.gives_ret] at h
                        obtain ⟨h0, rfl⟩ := h
                        refine ⟨rfl, fun q hq => hq' q (List.mem_append_left _ hq), fun H' hH' => ?_⟩
                        simp only [hu, hc, and_self, if_true, hemp]
                        rw [T.gives_bind]
                        refine ⟨l', by rw [rowsOf_obj fun q hq => hH' q (hq' q (List.mem_append_right _ hq))]; exact hl', ?_⟩
                        rw [T.gives_need, T.gives_ret]
                        exact ⟨h0, rfl⟩
                      · rw [if_neg hemp] at h
                        rcases orNone_gives h with ⟨⟨h0, hB⟩, rfl⟩ | h
                        · refine ⟨rfl, fun q hq => hq' q (List.mem_append_left _ hq), fun H' hH' => ?_⟩
                          simp only [hu, hc, and_self, if_true, hemp, Bool.false_eq_true, if_false]
                          rw [T.gives_bind]
                          refine ⟨l', by rw [rowsOf_obj fun q hq => hH' q (hq' q (List.mem_append_right _ hq))]; exact hl', ?_⟩
                          exact orNone_none hB h0
                        · exfalso
                          rw [T.gives_bind] at h
                          obtain ⟨l, _, h⟩ := h
                          rw [T.gives_need, T.gives_ret] at h
                          obtain ⟨_, rfl⟩ := h
                          exact new_ _ rfl
                    · exfalso
                      obtain ⟨_, rfl⟩ := nilA_gives h
                      exact new_ _ rfl
                    · exact h.elim
                  · exact h.elim
              · exact h.elim
            · exact h.elim
          · exact h.elim
        · contradiction
        · contradiction
        · exact h.elim
      | _ => rw [ho] at hm; cases hm
    | _ => rw [ho] at hm; cases hm
  | _ => rw [ho] at hm; cases hm
/-- A moved operation in its kept place: what it makes, and that it reads its arguments' objects alone. -/
theorem opP_local {cfg : Cfg cod} {tm : List SV} {H : Heap cod} {o : Oper} {out : Out cod} {k : Nat} (hm : isMoved o = true) (hp : o.dst.bind cfg.place = some k) (h : (opP cfg tm H o).gives out) :
    out.kill = [] ∧ (getObj H k).isHold = true ∧ ((∃ (ob : HObj cod) (d : Option Nat), ob.isRow = true ∧ (∀ q, d = some q → q ∈ ownHs tm o ∧ (getObj H q).isOwn = true) ∧ out.H = (deadO H d).set k ob ∧ out.v.hs = [k] ∧
      ∀ H' : Heap cod, (∀ q ∈ movedReads tm o, getObj H' q = getObj H q) → getObj H' k = getObj H k → (opP cfg tm H' o).gives { v := out.v, H := (deadO H' d).set k ob }) ∨
      (out.H = H ∧ (∀ q ∈ out.v.hs, q ∈ movedReads tm o) ∧ ∀ H' : Heap cod, (∀ q ∈ movedReads tm o, getObj H' q = getObj H q) → getObj H' k = getObj H k → (opP cfg tm H' o).gives { v := out.v, H := H' })) := by
  rw [opP_moved hm hp, T.gives_bind] at h
  obtain ⟨out0, h0, h1⟩ := h
  obtain ⟨s3, s2, ⟨s1, ob, s4, s5, s6, s7⟩ | ⟨q, n, s1, s4, s5, s6, s7, rfl⟩ | ⟨s1, s4, rfl⟩⟩ := moveS_spec h1
  rotate_left 2
  · obtain ⟨g1, g2, g3⟩ := moved_none hm h0 s1 s4
    refine ⟨rfl, s3, .inr ⟨rfl, g2, fun H' hr hk => ?_⟩⟩
    rw [opP_moved hm hp, T.gives_bind]
    refine ⟨_, g3 H' hr, ?_⟩
    unfold moveS at h1 ⊢
    have hd : H'.drop H'.length = [] := List.drop_length
    rw [s1, s4] at h1
    simp only [hd]
    split at h1
    · rename_i e _ ; cases e
    · rename_i e _ ; cases e
    · rename_i e _ _; cases e
    · rename_i e1 e2 e3
      rw [e3]
      simp only [hk, s3, if_true]
      rfl
    · exact h1.elim
  · obtain ⟨ob', mk, rfl, hmk, hl⟩ := moved_local hm h0 s1 (by rw [s4]; exact List.cons_ne_nil _ _)
    simp only [List.drop_left, List.cons.injEq, and_true] at s4
    subst s4
    refine ⟨s2, s3, .inl ⟨_, none, s5, (fun q hq => by cases hq), s6, ?_, fun H' hr hk => ?_⟩⟩
    · rcases s7 with ⟨n, t, _, e⟩ | ⟨n, _, e⟩ <;> rw [e] <;> rfl
    · rw [opP_moved hm hp, T.gives_bind]
      refine ⟨_, hl H' hr, ?_⟩
      rcases s7 with ⟨n, t, e0, e⟩ | ⟨n, e0, e⟩
      · have e1 : mk H'.length = .c (.slc H'.length 0 n t) := by
          rcases hmk with ⟨n', t', rfl⟩ | ⟨n', rfl⟩
          · simp only [SV.c.injEq, Cell.slc.injEq, true_and] at e0
            obtain ⟨rfl, rfl⟩ := e0
            rfl
          · simp at e0
        simp only [moveS, List.drop_left, e1, hk, s3, s5, and_self, if_true]
        rw [T.gives_ret, e]
        rfl
      · have e1 : mk H'.length = .c (.own H'.length n) := by
          rcases hmk with ⟨n', t', rfl⟩ | ⟨n', rfl⟩
          · simp at e0
          · simp only [SV.c.injEq, Cell.own.injEq, true_and] at e0
            subst e0
            rfl
        simp only [moveS, List.drop_left, e1, hk, s3, s5, and_self, if_true]
        rw [T.gives_ret, e]
        rfl
  · obtain ⟨args, ats, ho, m, x, t, hargs, ht0, ht1, ha⟩ := moved_own hm h0 s1
    obtain ⟨ob, n', e, g1, g2, g3, g4⟩ := append_own_local ha
    rw [e] at s5
    simp only [SV.c.injEq, Cell.own.injEq, true_and] at s5
    subst s5
    rw [g3]
    refine ⟨rfl, s3, .inl ⟨ob, some q, isOwn_row g1, fun j hj => ?_, rfl, rfl, fun H' hr hk => ?_⟩⟩
    · simp only [Option.some.injEq] at hj
      subst hj
      refine ⟨?_, g2⟩
      unfold ownHs
      rw [ho]
      simp only [hargs, List.mem_singleton]
    · have hrd : ∀ j ∈ q :: x.hs, getObj H' j = getObj H j := fun j hj => hr j (by
        unfold movedReads
        rw [ho]
        simp only
        have : (args.toList.map (evS tm)).flatMap SV.hs = q :: x.hs := by rw [hargs]; simp [SV.hs, Cell.hs]
        rw [List.flatMap_map] at this
        rw [this]
        exact hj)
      obtain ⟨f1, f2⟩ := g4 H' hrd
      rw [opP_moved hm hp, T.gives_bind]
      refine ⟨{ v := .c (.own q n'), H := (H'.set q ob).map (HObj.mapC (Cell.killed [q])), kill := [q] }, ?_, ?_⟩
      · unfold opS
        rw [ho]
        simp only [hargs, builtinS, ht0, ht1, if_true]
        exact f1
      · have hd : ((H'.set q ob).map (HObj.mapC (Cell.killed [q]))).drop H'.length = [] := List.drop_eq_nil_of_le (by simp)
        unfold moveS
        simp only [hd, f2, hk, s3, g1, hrd q (List.mem_cons_self ..), g2, and_self, if_true]
        rw [T.gives_ret]
        rfl
/-- The call's own row has grown into a kept place; where it was, nothing is said any more. -/
theorem Good.regrowTo {H : Heap cod} {w w' : World} {M : Nat → Prop} {h k : Nat} {u u' : Nat} {l : List (cod u).α} {l' : List (cod u').α} {ty ty' : TypeId} (G : Good env H w M) (ho : H[h]? = some (.own u l ty)) (hkl : k < H.length) (hkh : h ≠ k) (hfr : ∀ o ∈ H, k ∉ o.hs) (hs : w.heap.size ≤ w'.heap.size)
    (hk : ∀ q, q < w.heap.size → some q ≠ (env h).val.ownBlock → w'.heap[q]? = w.heap[q]?) (x' : HV) (ho' : objRel (env.set k x') H.length x' w' M (.own u' l' ty')) (hb : x'.val.ownBlock = (env h).val.ownBlock ∨ x'.val.ownBlock = some w.heap.size) :
    Good (env.set k x') ((H.set h .dead).set k (.own u' l' ty')) w' M := by
  have hlt : h < H.length := (List.getElem?_eq_some_iff.1 ho).1
  have hbut : EnvBut H.length [k] env (env.set k x') := fun q _ hne => Env.set_other _ _ (by rintro rfl; exact hne (by simp))
  have cases_ : ∀ j a, ((H.set h .dead).set k (.own u' l' ty'))[j]? = some a → (j ≠ k ∧ j ≠ h ∧ H[j]? = some a) ∨ (j = h ∧ a = .dead) ∨ (j = k ∧ a = .own u' l' ty') := by
    intro j a ha
    by_cases e : j = k
    · subst e
      rw [List.getElem?_set_self (by simpa using hkl)] at ha
      simp only [Option.some.injEq] at ha
      exact .inr (.inr ⟨rfl, ha.symm⟩)
    · rw [List.getElem?_set_ne (by omega)] at ha
      by_cases e' : j = h
      · subst e'
        rw [List.getElem?_set_self hlt] at ha
        simp only [Option.some.injEq] at ha
        exact .inr (.inl ⟨rfl, ha.symm⟩)
      · rw [List.getElem?_set_ne (by omega)] at ha
        exact .inl ⟨e, e', ha⟩
  refine ⟨fun j a ha => ?_, fun j j' a a' c hne ha ha' hwa hc hc' => ?_, G.tab.keep (fun p _ hl hn => hk _ hl fun e => hn ((G.obj h _ ho).2.2.2.1 _ e.symm)) fun _ _ _ h => h⟩
  · rw [List.length_set, List.length_set]
    rcases cases_ j a ha with ⟨hne, hne', h1⟩ | ⟨rfl, rfl⟩ | ⟨rfl, rfl⟩
    · rw [Env.set_other _ _ hne]
      have := objRel_map (f := Cell.killed [k]) (fun c v hc => crel_killed (Nat.le_refl _) hbut hc) (objRel_keep (w' := w') (G.obj j a h1) hs fun c hc => by
        have hlt := objRel_has_lt (G.obj j a h1) hc
        refine hk c hlt fun e => ?_
        exact G.sep h j _ a c (Ne.symm hne') ho h1 rfl e.symm hc)
      rwa [mapC_id (fun q hq => by simp only [List.mem_singleton] at hq; subst hq; exact hfr a (List.mem_of_getElem? h1))] at this
    · trivial
    · rw [Env.set_same]; exact ho'
  · rcases cases_ j a ha with ⟨h1, h1b, h2⟩ | ⟨rfl, rfl⟩ | ⟨rfl, rfl⟩ <;> rcases cases_ j' a' ha' with ⟨h1', h1b', h2'⟩ | ⟨rfl, rfl⟩ | ⟨rfl, rfl⟩
    · rw [Env.set_other _ _ h1] at hc
      rw [Env.set_other _ _ h1'] at hc'
      exact G.sep j j' a a' c hne h2 h2' hwa hc hc'
    · exact hc'.elim
    · rw [Env.set_other _ _ h1] at hc
      rw [Env.set_same] at hc'
      have hlt := objRel_has_lt (G.obj j a h2) hc
      simp only [HObj.has] at hc'
      rcases hb with hb | hb
      · rw [hb] at hc'
        exact G.sep j h a _ c h1b h2 ho hwa hc hc'
      · rw [hb] at hc'
        simp only [Option.some.injEq] at hc'
        omega
    · exact hc.elim
    · exact hc.elim
    · exact hc.elim
    · rw [Env.set_same] at hc
      rw [Env.set_other _ _ h1'] at hc'
      have hlt := objRel_has_lt (G.obj j' a' h2') hc'
      simp only [HObj.has] at hc
      rcases hb with hb | hb
      · rw [hb] at hc
        exact G.sep h j' _ a' c (Ne.symm h1b') ho h2' rfl hc hc'
      · rw [hb] at hc
        simp only [Option.some.injEq] at hc
        omega
    · exact hc'.elim
    · exact hne rfl
theorem opP_sound (cfg : Cfg cod) (hS : CfgOk cfg) {tm : List SV} {H : Heap cod} {w : World} {M : Nat → Prop} {o : Oper} {out : Out cod} (hfr : FrC cfg tm H) (h : (opP cfg tm H o).gives out) (G : Good env H w M) (hM : ∀ k, w.heap.size ≤ k → M k)
    (ρ : Operand → Value) (hρ : ∀ x, vrel env H.length (evS tm x) (ρ x)) : OpRes cfg.P (After2 cfg env H w M out) ((execOp ρ o).run cfg.P w) := by
  cases hm : isMoved o with
  | false => rw [opP_plain (.inl hm)] at h; exact op_sound cfg hS hfr h G hM ρ hρ
  | true =>
    cases hp : o.dst.bind cfg.place with
    | none => rw [opP_plain (.inr hp)] at h; exact op_sound cfg hS hfr h G hM ρ hρ
    | some k =>
      rw [opP_moved hm hp, T.gives_bind] at h
      obtain ⟨out0, h0, h1⟩ := h
      obtain ⟨s3, s2, ⟨s1, ob, s4, s5, s6, s7⟩ | ⟨q, n, s1, s4, s5, s6, s7, rfl⟩ | ⟨s1, s4, rfl⟩⟩ := moveS_spec h1
      rotate_left 2
      · have hA := op_sound0 cfg hS (fun hn => by rw [moved_not_new hm] at hn; cases hn) h0 G hM ρ hρ
        have e0 : out0 = { v := out0.v, H := H } := by
          have := (moved_none hm h0 s1 s4).1
          cases out0
          simp only at this s1
          rw [this, s1]
        rw [← e0]
        exact OpRes.mono (fun _ _ h => h.two) hA
      · have hA := op_sound0 cfg hS (fun hn => by rw [moved_not_new hm] at hn; cases hn) h0 G hM ρ hρ
        obtain ⟨ob', mk, e0, hmk, _⟩ := moved_local hm h0 s1 (by rw [s4]; exact List.cons_ne_nil _ _)
        rw [e0] at s4
        simp only [List.drop_left, List.cons.injEq, and_true] at s4
        subst s4
        have hT := hold_turn hp s3
        have hfk := hfr k hT
        obtain ⟨ov, oH, okl⟩ := out
        simp only at s2 s6 s7
        subst s2 s6
        refine OpRes.mono (fun v w' hAf => ?_) hA
        rw [e0] at hAf
        obtain ⟨m1, m2⟩ := After.move cfg G hT (fun ob hob hq => hfk (.inr ⟨ob, hob, hq⟩)) rfl s5 hAf
        rcases s7 with ⟨n, t, g1, rfl⟩ | ⟨n, g1, rfl⟩
        · rw [e0] at g1
          exact m1 n t g1
        · rw [e0] at g1
          exact m2 n g1
      · obtain ⟨args, ats, ho, m, x, t, hargs, ht0, ht1, ha⟩ := moved_own hm h0 s1
        have hT := hold_turn hp s3
        have hfk := hfr k hT
        have hke : H[k]? = some (getObj H k) := getObj_some (fun e => by rw [e] at s3; cases s3)
        have hkl : k < H.length := (List.getElem?_eq_some_iff.1 hke).1
        have hqk : q ≠ k := fun e => by
          subst e
          rw [isOwn_not_hold s6] at s3
          cases s3
        have hall : F2 (vrel env H.length) (args.toList.map (evS tm)) (args.toList.map ρ) := f2_map_same fun a _ => hρ a
        have hvals : ∃ u v, args.toList.map ρ = [u, v] ∧ vrel env H.length (.c (.own q m)) u ∧ vrel env H.length x v := by
          rw [hargs] at hall
          generalize args.toList.map ρ = vs at hall
          cases hall with
          | cons hs hn =>
            cases hn with
            | cons hx hn =>
              cases hn
              exact ⟨_, _, rfl, hs, hx⟩
        obtain ⟨u, v, hv, hu, hx⟩ := hvals
        obtain ⟨ku, l, l', ty', go, rfl, v', w', y, r1, r2, r3, r4, r5, r6, r7⟩ := append_own (ty := o.type) cfg ha G hM hu hx
        have hob := getObj_obj go (by simp)
        have hlt := (List.getElem?_eq_some_iff.1 hob).1
        simp only [SV.c.injEq, Cell.own.injEq, true_and] at s5
        subst s5
        have hget : getObj ((H.set q (.own ku (l ++ l') ty')).map (HObj.mapC (Cell.killed [q]))) q = .own ku (l ++ l') ty' := by
          refine getObj_of_some ?_
          rw [List.getElem?_map, List.getElem?_set_self hlt]
          rfl
        have e : (builtin .append ats o.type (args.map fun | .const _ => true | _ => false) (args.map ρ)).run cfg.P w = .ok (.value v') w' := by
          have ea : args.map ρ = #[u, v] := by
            rw [arr_map, hv]
          have e1 : (Builtin.append_ ats o.type #[u, v]).run cfg.P w = (Builtin.append_ #[t, t] o.type #[u, v]).run cfg.P w := by
            simp only [Builtin.append_, ht0, ht1, List.getElem?_toArray, List.getElem?_cons_zero, List.getElem?_cons_succ]
          rw [ea]
          simp only [builtin, Sem.run_bind, e1, r1, Result.andThen_ok, Sem.run_pure]
        have e2 : (execOp ρ o).run cfg.P w = .ok (.value v') w' := by
          unfold execOp
          rw [ho]
          simp only [resolve, invoke, Sem.run_bind, Sem.run_pure, Result.andThen_ok]
          exact e
        rw [e2]
        simp only [hget]
        refine ⟨env.set k y, fun j _ _ hj => Env.set_other _ _ (fun e => hj (by rw [e]; exact hT)), by simp, ?_, ?_, r6⟩
        · simp only [List.length_set]
          exact r7 _ _ k hkl (Env.set_same _ _ _)
        · exact G.regrowTo hob hkl hqk (fun ob hob hq => hfk (.inr ⟨ob, hob, hq⟩)) r2 r3 y (r4 _ _) r5
theorem opP_own {cfg : Cfg cod} {tm : List SV} {H : Heap cod} {o : Oper} {out : Out cod} {S : Nat → Prop} {n : Nat} (h : (opP cfg tm H o).gives out) (hn : n ≤ H.length) (hn0 : ∀ k, Turn cfg H k → n ≤ k) (hro : ∀ k x, k < n → H[k]? = some x → x.isOwn = true → S k) :
    (∀ k x, k < n → out.H[k]? = some x → x.isOwn = true → S k) ∧ ∀ k ∈ out.kill, k < n → S k := by
  cases hm : isMoved o with
  | false => rw [opP_plain (.inl hm)] at h; exact op_own h hn hro
  | true =>
    cases hp : o.dst.bind cfg.place with
    | none => rw [opP_plain (.inr hp)] at h; exact op_own h hn hro
    | some k =>
      obtain ⟨h1, h2, ⟨ob, d, _, _, h3, _⟩ | ⟨h3, _⟩⟩ := opP_local hm hp h
      rotate_left 1
      · exact ⟨fun j x hj hx hw => hro j x hj (by rw [← h3]; exact hx) hw, fun j hj => by rw [h1] at hj; cases hj⟩
      have hk := hn0 k (hold_turn hp h2)
      refine ⟨fun j x hj hx hw => ?_, fun j hj => by rw [h1] at hj; cases hj⟩
      rw [h3, List.getElem?_set_ne (by omega)] at hx
      cases d with
      | none => exact hro j x hj hx hw
      | some q =>
        by_cases e : j = q
        · subst e
          rw [deadO, List.getElem?_set_self (by omega)] at hx
          simp only [Option.some.injEq] at hx
          subst hx
          cases hw
        · rw [deadO, List.getElem?_set_ne (Ne.symm e)] at hx
          exact hro j x hj hx hw
/-- The kinds, moved operations among them: those in a kept place write it. -/
def kindP (cfg : Cfg cod) (o : Oper) : Nat := if isMoved o = true ∧ (o.dst.bind cfg.place).isSome = true then 3 else kindOf cfg o
theorem kindP_plain {cfg : Cfg cod} {o : Oper} (h : ¬ (isMoved o = true ∧ (o.dst.bind cfg.place).isSome = true)) : kindP cfg o = kindOf cfg o ∧ ∀ tm (H : Heap cod), opP cfg tm H o = opS cfg tm H o := by
  refine ⟨by unfold kindP; rw [if_neg h], fun tm H => opP_plain ?_⟩
  cases hm : isMoved o with
  | false => exact .inl rfl
  | true =>
    refine .inr ?_
    cases hp : o.dst.bind cfg.place with
    | none => rfl
    | some k => exact absurd ⟨hm, by rw [hp]; rfl⟩ h
theorem kindP_three {cfg : Cfg cod} {o : Oper} (h : isMoved o = true ∧ (o.dst.bind cfg.place).isSome = true) : kindP cfg o = 3 := by unfold kindP; rw [if_pos h]
theorem kindP_runs {cfg : Cfg cod} {tm : List SV} {H : Heap cod} {o : Oper} {out : Out cod} (h : (opP cfg tm H o).gives out) :
    (kindP cfg o ≤ 3 → out.kill = []) ∧ (kindP cfg o = 0 → out.H = H ∧ ∀ H', (opP cfg tm H' o).gives { v := out.v, H := H' }) ∧
      (kindP cfg o = 1 → out.H = H ∧ ∀ X, (opP cfg tm (H ++ X) o).gives { v := out.v, H := H ++ X }) ∧ (kindP cfg o = 2 → ∃ X, out.H = H ++ X) := by
  by_cases hc : isMoved o = true ∧ (o.dst.bind cfg.place).isSome = true
  · obtain ⟨k, hk⟩ := Option.isSome_iff_exists.1 hc.2
    rw [kindP_three hc]
    exact ⟨fun _ => (opP_local hc.1 hk h).1, (fun e => by cases e), (fun e => by cases e), fun e => by cases e⟩
  · obtain ⟨e1, e2⟩ := kindP_plain hc
    rw [e2] at h
    simp only [e1, e2]
    exact ⟨fun hk => kind23 hk h, fun hk => ⟨(kind0 hk h).1, (kind0 hk h).2.2⟩, fun hk => ⟨(kind1 hk h).1, (kind1 hk h).2.2⟩, fun hk => kind2 hk h⟩
/-! ### what an outcome refers to -/
theorem addNew_mem : ∀ (l acc : List Nat) (x : Nat), x ∈ addNew acc l → x ∈ acc ∨ x ∈ l
  | [], acc, x, h => .inl h
  | y :: l, acc, x, h => by
    unfold addNew at h
    split at h
    · rcases addNew_mem l acc x h with h | h
      · exact .inl h
      · exact .inr (List.mem_cons_of_mem _ h)
    · rcases addNew_mem l _ x h with h | h
      · rcases List.mem_append.1 h with h | h
        · exact .inl h
        · exact .inr (by rw [List.mem_singleton] at h; rw [h]; exact List.mem_cons_self ..)
      · exact .inr (List.mem_cons_of_mem _ h)
theorem reach_mem {H : Heap cod} : ∀ (d : Nat) (l : List Nat) (x : Nat), x ∈ reach H d l → x ∈ l ∨ ∃ ob ∈ H, x ∈ ob.hs
  | 0, l, x, h => .inl h
  | d + 1, l, x, h => by
    unfold reach at h
    rcases reach_mem d _ x h with h | h
    · rcases addNew_mem _ _ x h with h | h
      · exact .inl h
      · obtain ⟨q, _, hq⟩ := List.mem_flatMap.1 h
        refine .inr ⟨getObj H q, ?_, hq⟩
        have hd : getObj H q ≠ .dead := fun e => by rw [e] at hq; cases hq
        exact List.mem_of_getElem? (getObj_some hd)
    · exact .inr h
theorem wr_not_hold {o : HObj cod} (h : o.wr = true) : o.isHold = false := by cases o <;> first | rfl | (simp [HObj.wr] at h)
theorem ren_hs (f : Nat → Nat) (c : Cell) : ∀ q ∈ (c.ren f).hs, ∃ p ∈ c.hs, q = f p := by
  intro q hq
  cases c <;> simp only [Cell.ren, Cell.hs, List.mem_singleton, List.not_mem_nil] at hq ⊢
  case ptr => exact ⟨_, rfl, hq⟩
  case slc => exact ⟨_, rfl, hq⟩
  case own => exact ⟨_, rfl, hq⟩
  case fn g caps =>
    obtain ⟨c, hc, rfl⟩ := List.mem_map.1 hq
    obtain ⟨a, ha, rfl⟩ := List.mem_map.1 hc
    exact ⟨a.1, List.mem_map.2 ⟨a, ha, rfl⟩, rfl⟩
theorem ren_hs_cells (f : Nat → Nat) (cs : List Cell) : ∀ q ∈ (cs.map (Cell.ren f)).flatMap Cell.hs, ∃ p ∈ cs.flatMap Cell.hs, q = f p := by
  intro q hq
  obtain ⟨c, hc, hqc⟩ := List.mem_flatMap.1 hq
  obtain ⟨a, ha, rfl⟩ := List.mem_map.1 hc
  obtain ⟨p, hp, rfl⟩ := ren_hs f a q hqc
  exact ⟨p, List.mem_flatMap.2 ⟨a, ha, hp⟩, rfl⟩
theorem ren_hs_obj (f : Nat → Nat) (o : HObj cod) : ∀ q ∈ (o.mapC (Cell.ren f)).hs, ∃ p ∈ o.hs, q = f p := by
  intro q hq
  cases o <;> simp only [HObj.mapC, HObj.hs, List.not_mem_nil] at hq ⊢
  · exact ren_hs_cells f _ q hq
  · exact ren_hs_cells f _ q hq
  · exact ren_hs_cells f _ q hq
  · rename_i t LL op
    cases op with
    | none => cases hq
    | some p => exact ren_hs f p.2 q hq
  · exact ren_hs_cells f _ q hq
theorem ren_hs_sv (f : Nat → Nat) (x : SV) : ∀ q ∈ (x.mapC (Cell.ren f)).hs, ∃ p ∈ x.hs, q = f p := by
  intro q hq
  cases x with
  | c x => exact ren_hs f x q hq
  | agg cs => exact ren_hs_cells f cs q hq
  | tup vs =>
    simp only [SV.mapC, SV.hs] at hq ⊢
    obtain ⟨y, hy, hqy⟩ := List.mem_flatMap.1 hq
    obtain ⟨z, hz, rfl⟩ := List.mem_map.1 hy
    cases z with
    | c x =>
      obtain ⟨p, hp, rfl⟩ := ren_hs f x q hqy
      exact ⟨p, List.mem_flatMap.2 ⟨_, hz, hp⟩, rfl⟩
    | agg cs =>
      obtain ⟨p, hp, rfl⟩ := ren_hs_cells f cs q hqy
      exact ⟨p, List.mem_flatMap.2 ⟨_, hz, hp⟩, rfl⟩
    | tup l => cases hqy
theorem getObj_set_other {H : Heap cod} {k j : Nat} {ob : HObj cod} (h : j ≠ k) : getObj (H.set k ob) j = getObj H j := by
  unfold getObj
  simp only [List.getD]
  rw [List.getElem?_set_ne (Ne.symm h)]
theorem callR_srcs {cfg : Cfg cod} {H : Heap cod} {g : FuncId} {s : Summ cod} {args : List SV} {out : Out cod} (h : (callR cfg H g s args).gives out) :
    (∀ k ∈ out.v.hs, (k ∈ args.flatMap SV.hs ∨ ∃ ob ∈ H, k ∈ ob.hs) ∨ (getObj out.H k).isHold = false) ∧ (∀ ob ∈ out.H, ∀ k ∈ ob.hs, (k ∈ args.flatMap SV.hs ∨ ∃ ob ∈ H, k ∈ ob.hs) ∨ (getObj out.H k).isHold = false) ∧ ∀ k, (getObj out.H k).isHold = true → (getObj H k).isHold = true := by
  unfold callR at h
  simp only at h
  have hre : ∀ k ∈ reach H 3 (addNew [] (args.flatMap SV.hs)), k ∈ args.flatMap SV.hs ∨ ∃ ob ∈ H, k ∈ ob.hs := fun k hk => by
    rcases reach_mem 3 _ k hk with h1 | h1
    · rcases addNew_mem _ _ k h1 with h2 | h2
      · cases h2
      · exact .inl h2
    · exact .inr h1
  generalize reach H 3 (addNew [] (args.flatMap SV.hs)) = hs at h hre
  split at h
  · rename_i hc
    obtain ⟨hc1, hc2⟩ := hc
    rw [T.gives_bind] at h
    obtain ⟨⟨r, news⟩, hr, h⟩ := h
    simp only at h
    split at h
    · rename_i hw
      obtain ⟨hw, _, _⟩ := hw
      rw [T.gives_ret] at h
      subst h
      simp only
      have far : ∀ k, H.length ≤ k → (getObj (H ++ news.map (HObj.mapC (Cell.ren fun i => if i < hs.length then hs.getD i 0 else H.length + (i - hs.length)))) k).isHold = false := by
        intro k hk
        unfold getObj
        simp only [List.getD]
        rw [List.getElem?_append_right hk, List.getElem?_map]
        cases hn : news[k - H.length]? with
        | none => rfl
        | some o =>
          simp only [Option.map_some, Option.getD_some]
          refine wr_not_hold ?_
          rw [wr_map]
          exact List.all_eq_true.1 hw o (List.mem_of_getElem? hn)
      have back : ∀ i, (((if i < hs.length then hs.getD i 0 else H.length + (i - hs.length)) ∈ args.flatMap SV.hs ∨ ∃ ob ∈ H, (if i < hs.length then hs.getD i 0 else H.length + (i - hs.length)) ∈ ob.hs) ∨ (getObj (H ++ news.map (HObj.mapC (Cell.ren fun i => if i < hs.length then hs.getD i 0 else H.length + (i - hs.length)))) (if i < hs.length then hs.getD i 0 else H.length + (i - hs.length))).isHold = false) := by
        intro i
        split
        · rename_i hi
          refine .inl (hre _ ?_)
          simp [List.getD, List.getElem?_eq_getElem hi]
        · exact .inr (far _ (by omega))
      refine ⟨fun k hk => ?_, fun ob hob k hk => ?_, fun k hk => ?_⟩
      · obtain ⟨p, _, rfl⟩ := ren_hs_sv _ _ k hk
        exact back p
      · rcases List.mem_append.1 hob with h1 | h1
        · exact .inl (.inr ⟨ob, h1, hk⟩)
        · obtain ⟨o, _, rfl⟩ := List.mem_map.1 h1
          obtain ⟨p, _, rfl⟩ := ren_hs_obj _ _ k hk
          exact back p
      · rcases Nat.lt_or_ge k H.length with hl | hl
        · rwa [getObj_lt _ hl] at hk
        · rw [far k hl] at hk; cases hk
    · exact h.elim
  · exact h.elim
theorem killed_nil (c : Cell) : c.killed [] = c := by
  unfold Cell.killed
  rw [if_neg]
  simp
theorem mapC_killed_nil (o : HObj cod) : o.mapC (Cell.killed []) = o := by
  have e : Cell.killed [] = id := funext killed_nil
  rw [e]
  cases o <;> simp [HObj.mapC]
theorem hold_mapC (f : Cell → Cell) (o : HObj cod) : (o.mapC f).isHold = o.isHold := by cases o <;> rfl
theorem far_hold {X Y : Heap cod} (hw : Y.all HObj.wr = true) (f : Cell → Cell) {k : Nat} (hk : X.length ≤ k) : (getObj (X ++ Y.map (HObj.mapC f)) k).isHold = false := by
  unfold getObj
  simp only [List.getD]
  rw [List.getElem?_append_right hk, List.getElem?_map]
  cases hn : Y[k - X.length]? with
  | none => rfl
  | some o =>
    simp only [Option.map_some, Option.getD_some]
    refine wr_not_hold ?_
    rw [wr_map]
    exact List.all_eq_true.1 hw o (List.mem_of_getElem? hn)
theorem callI_srcs {H : Heap cod} {s : Summ cod} {args : List SV} {out : Out cod} (h : (callI H true s args).gives out) :
    out.kill = [] ∧ (∀ k ∈ out.v.hs, (k ∈ args.flatMap SV.hs ∨ ∃ ob ∈ H, k ∈ ob.hs) ∨ (getObj out.H k).isHold = false) ∧ (∀ ob ∈ out.H, ∀ k ∈ ob.hs, (k ∈ args.flatMap SV.hs ∨ ∃ ob ∈ H, k ∈ ob.hs) ∨ (getObj out.H k).isHold = false) ∧ ∀ k, (getObj out.H k).isHold = true → (getObj H k).isHold = true := by
  unfold callI at h
  simp only at h
  have hre : ∀ k ∈ reach H 3 (addNew [] (args.flatMap SV.hs)), k ∈ args.flatMap SV.hs ∨ ∃ ob ∈ H, k ∈ ob.hs := fun k hk => by
    rcases reach_mem 3 _ k hk with h1 | h1
    · rcases addNew_mem _ _ k h1 with h2 | h2
      · cases h2
      · exact .inl h2
    · exact .inr h1
  generalize reach H 3 (addNew [] (args.flatMap SV.hs)) = hs at h hre
  have hks : (hs.filter fun h => !true && (getObj H h).isOwn) = [] := by simp
  rw [hks] at h
  split at h
  · rename_i hc
    obtain ⟨hc1, hc2⟩ := hc
    rw [T.gives_bind] at h
    obtain ⟨⟨r, H2⟩, hr, h⟩ := h
    simp only at h
    split at h
    · rename_i hw
      obtain ⟨hw0, hw, _, hw2⟩ := hw
      rw [T.gives_ret] at h
      subst h
      simp only
      generalize hbk : (fun i => if i < hs.length then hs.getD i 0 else H.length + (i - hs.length)) = back
      have hlen : ((List.range H.length).map fun h => if (hs.contains h && (getObj H h).wr) = true then (getObj H2 (hs.idxOf h)).mapC (Cell.ren back) else (getObj H h).mapC (Cell.killed [])).length = H.length := by simp
      -- behind the old ones: new, and they may be written
      have far : ∀ k, H.length ≤ k → (getObj (((List.range H.length).map fun h => if (hs.contains h && (getObj H h).wr) = true then (getObj H2 (hs.idxOf h)).mapC (Cell.ren back) else (getObj H h).mapC (Cell.killed [])) ++ (H2.drop hs.length).map (HObj.mapC (Cell.ren back))) k).isHold = false := by
        intro k hk
        exact far_hold hw _ (by rw [hlen]; exact hk)
      have bk : ∀ i, (back i ∈ args.flatMap SV.hs ∨ ∃ ob ∈ H, back i ∈ ob.hs) ∨ H.length ≤ back i := by
        intro i
        rw [← hbk]
        simp only
        split
        · rename_i hi
          refine .inl (hre _ ?_)
          simp [List.getD, List.getElem?_eq_getElem hi]
        · exact .inr (by omega)
      refine ⟨trivial, fun k hk => ?_, fun ob hob k hk => ?_, fun k hk => ?_⟩
      · obtain ⟨p, _, rfl⟩ := ren_hs_sv _ _ k hk
        exact (bk p).imp id (far _)
      · rcases List.mem_append.1 hob with h1 | h1
        · obtain ⟨q, hq, rfl⟩ := List.mem_map.1 h1
          have hq' := List.mem_range.1 hq
          split at hk
          · obtain ⟨p, _, rfl⟩ := ren_hs_obj _ _ k hk
            exact (bk p).imp id (far _)
          · rw [mapC_killed_nil] at hk
            refine .inl (.inr ⟨getObj H q, ?_, hk⟩)
            unfold getObj
            rw [List.getD, List.getElem?_eq_getElem hq']
            exact List.getElem_mem hq'
        · obtain ⟨o, _, rfl⟩ := List.mem_map.1 h1
          obtain ⟨p, _, rfl⟩ := ren_hs_obj _ _ k hk
          exact (bk p).imp id (far _)
      · rcases Nat.lt_or_ge k H.length with hl | hl
        · have e : getObj (((List.range H.length).map fun h => if (hs.contains h && (getObj H h).wr) = true then (getObj H2 (hs.idxOf h)).mapC (Cell.ren back) else (getObj H h).mapC (Cell.killed [])) ++ (H2.drop hs.length).map (HObj.mapC (Cell.ren back))) k = (if (hs.contains k && (getObj H k).wr) = true then (getObj H2 (hs.idxOf k)).mapC (Cell.ren back) else (getObj H k).mapC (Cell.killed [])) := by
            refine getObj_of_some ?_
            rw [List.getElem?_append_left (by rw [hlen]; exact hl), List.getElem?_map, List.getElem?_range hl]
            rfl
          rw [e] at hk
          split at hk
          · rename_i hcw
            simp only [Bool.and_eq_true] at hcw
            rw [hold_mapC] at hk
            have hm : k ∈ hs := by simpa using hcw.1
            have hi := List.idxOf_lt_length_iff.2 hm
            have h3 := List.all_eq_true.1 hw2 (hs.idxOf k) (List.mem_range.2 hi)
            simp only [Bool.and_eq_true, beq_iff_eq] at h3
            have hg : hs.getD (hs.idxOf k) 0 = k := by rw [List.getD, List.getElem?_eq_getElem hi]; simp
            rw [hg, hcw.2] at h3
            rw [wr_not_hold h3.1] at hk
            cases hk
          · rwa [mapC_killed_nil] at hk
        · rw [far k hl] at hk; cases hk
    · exact h.elim
  · exact h.elim
/-- A call whose summary may write, but strikes nothing out. -/
def keepC (cfg : Cfg cod) (o : Oper) : Bool := match o.op with
  | .call { callee := .value (.func g), .. } => if isExt cfg.P g = true then false else match cfg.summ g, cfg.summI g with
    | none, some (true, _) => true
    | _, _ => false
  | _ => false
theorem keepC_spec {cfg : Cfg cod} {tm : List SV} {H : Heap cod} {o : Oper} {out : Out cod} (hk : keepC cfg o = true) (h : (opP cfg tm H o).gives out) : ∃ (args : Array Operand) (s : Summ cod), (callI H true s (args.toList.map (evS tm))).gives out := by
  unfold keepC at hk
  split at hk
  · rename_i g args ats ho
    by_cases hxt : isExt cfg.P g = true
    · rw [if_pos hxt] at hk; cases hk
    rw [if_neg hxt] at hk
    split at hk
    · rename_i s e1 e2
      have hm : isMoved o = false := by unfold isMoved; rw [ho]
      rw [opP_plain (.inl hm)] at h
      unfold opS at h
      rw [ho] at h
      have e0 : evS tm (.func g) = .c (.fn g []) := rfl
      simp only [e0, List.map_nil, List.append_nil, if_neg hxt] at h
      unfold callS at h
      rw [e1, e2] at h
      exact ⟨args, s, h⟩
    · cases hk
  · cases hk
theorem extS_hs {P : Program} {g : FuncId} {args : List SV} {r : SV} (h : (extS P g args).gives r) : r.hs = [] := by
  unfold extS at h
  split at h
  · split at h
    · split at h
      · rw [T.gives_ret] at h; rw [← h]; rfl
      · exact h.elim
    · split at h
      · rw [T.gives_ret] at h; rw [← h]; rfl
      · exact h.elim
  · exact h.elim
/-- It strikes nothing out. -/
def tame (cfg : Cfg cod) (o : Oper) : Bool := decide (kindP cfg o ≤ 3) || keepC cfg o
theorem sliceS_hs {P : Program} {H : Heap cod} {t : TypeId} {x r : SV} {lo hi mx : Option SV} (h : (sliceS P H t x lo hi mx).gives r) : ∀ k ∈ r.hs, k ∈ x.hs := by
  unfold sliceS at h
  split at h
  · split at h
    · unfold sliceA at h
      split at h
      · split at h
        · split at h
          · rw [T.gives_ret] at h
            rw [← h]
            exact fun k hk => hk
          · rw [T.gives_need, T.gives_ret] at h
            rw [← h.2]
            exact fun k hk => hk
          · exact h.elim
        · exact h.elim
      · exact h.elim
    · exact h.elim
  · split at h
    all_goals first | exact h.elim | skip
    all_goals
      rw [T.gives_need, T.gives_ret] at h
      rw [← h.2]
      intro k hk
      cases hk
  · split at h
    · split at h
      · split at h
        · rw [T.gives_need, T.gives_ret] at h
          rw [← h.2]
          intro k hk
          cases hk
        · exact h.elim
      · exact h.elim
    · rename_i hs
      have hm := asSlc_mem hs
      split at h
      · split at h
        all_goals first | exact h.elim | skip
        all_goals
          rw [T.gives_need, T.gives_ret] at h
          rw [← h.2]
          intro k hk
          simp only [SV.hs, Cell.hs, List.mem_singleton] at hk
          rw [hk]
          exact hm
      · exact h.elim
  · exact h.elim
/-- The operations that a region with kept places may hold, rows and calls among them. -/
def okQ (o : Oper) : Bool :=
  okP o || isMoved o || match o.op with
    | .slice _ _ _ _ _ => true
    | .build _ _ => true
    | .call { callee := .value (.func _), .. } => true
    | .call { callee := .builtin .len, .. } => true
    | _ => false
theorem fillS_hs {pl : Nat → Option (Nat × Nat)} : ∀ (parts : List (Nat × SV)) (z cs : List Cell), fillS pl z parts = some cs → ∀ k ∈ cs.flatMap Cell.hs, k ∈ z.flatMap Cell.hs ∨ ∃ p ∈ parts, k ∈ p.2.cells.flatMap Cell.hs
  | [], z, cs, h, k, hk => by
    simp only [fillS, Option.some.injEq] at h
    subst h
    exact .inl hk
  | (i, v) :: rest, z, cs, h, k, hk => by
    rw [fillS] at h
    split at h
    · cases h
    · split at h
      · cases h
      · rcases fillS_hs rest _ cs h k hk with h1 | ⟨p, hp, h1⟩
        · obtain ⟨c, hc, hkc⟩ := List.mem_flatMap.1 h1
          unfold splice at hc
          rcases List.mem_append.1 hc with hc | hc
          · exact .inl (List.mem_flatMap.2 ⟨c, List.mem_of_mem_take hc, hkc⟩)
          · rcases List.mem_append.1 hc with hc | hc
            · exact .inr ⟨(i, v), List.mem_cons_self .., List.mem_flatMap.2 ⟨c, hc, hkc⟩⟩
            · exact .inl (List.mem_flatMap.2 ⟨c, List.mem_of_mem_drop hc, hkc⟩)
        · exact .inr ⟨p, List.mem_cons_of_mem _ hp, h1⟩
theorem cells_hs {x : SV} {k : Nat} (h : k ∈ x.cells.flatMap Cell.hs) : k ∈ x.hs := by
  cases x with
  | c x => simpa [SV.cells, SV.hs] using h
  | agg cs => exact h
  | tup vs => simp [SV.cells, Cell.hs] at h
def isNewP (o : Oper) : Bool := isNewOp o || isMoved o
theorem opP_srcs3 {cfg : Cfg cod} {tm : List SV} {H : Heap cod} {o : Oper} {out : Out cod} (hk : okQ o = true) (hk3 : kindP cfg o ≤ 3) (hp : isNewP o = true → (o.dst.bind cfg.place).isSome = true) (h : (opP cfg tm H o).gives out) :
    (∀ k ∈ out.v.hs, srcs tm H k ∨ (getObj out.H k).isHold = false) ∧ (∀ ob ∈ out.H, ∀ k ∈ ob.hs, srcs tm H k ∨ (getObj out.H k).isHold = false) ∧ ∀ k, (getObj out.H k).isHold = true → (getObj H k).isHold = true := by
  cases hm : isMoved o with
  | true =>
    obtain ⟨k, hpk⟩ := Option.isSome_iff_exists.1 (hp (by unfold isNewP; rw [hm]; simp))
    obtain ⟨_, h2, ⟨ob, d, h3, _, h4, h5, _⟩ | ⟨h4, h5, _⟩⟩ := opP_local hm hpk h
    rotate_left 1
    · rw [h4]
      refine ⟨fun q hq => .inl ?_, fun a ha q hq => .inl (.inr ⟨a, ha, hq⟩), fun q hq => hq⟩
      have := h5 q hq
      unfold movedReads at this
      split at this
      · obtain ⟨x, _, hx⟩ := List.mem_flatMap.1 this
        exact .inl (evS_srcs hx)
      · cases this
    obtain ⟨_, p2, p3⟩ := isRow_plain h3
    have hg : H[k]? = some (getObj H k) := getObj_some (fun e => by rw [e] at h2; cases h2)
    have hset : getObj ((deadO H d).set k ob) k = ob := getObj_of_some (List.getElem?_set_self (by rw [deadO_length]; exact (List.getElem?_eq_some_iff.1 hg).1))
    have hdm : ∀ a ∈ deadO H d, a ∈ H ∨ a = .dead := fun a ha => by
      cases d with
      | none => exact .inl ha
      | some q => exact List.mem_or_eq_of_mem_set ha
    have hdg : ∀ j, (getObj (deadO H d) j).isHold = true → (getObj H j).isHold = true := fun j hj => by
      cases d with
      | none => exact hj
      | some q =>
        by_cases e : j = q
        · subst e
          unfold deadO getObj at hj
          rw [List.getD] at hj
          by_cases hl : j < H.length
          · rw [List.getElem?_set_self hl] at hj
            cases hj
          · rw [List.getElem?_eq_none (by simpa using hl)] at hj
            cases hj
        · rwa [deadO, getObj_set_other e] at hj
    rw [h4]
    refine ⟨fun q hq => ?_, fun a ha q hq => ?_, fun q hq => ?_⟩
    · rw [h5, List.mem_singleton] at hq
      subst hq
      rw [hset]
      exact .inr p3
    · rcases List.mem_or_eq_of_mem_set ha with h1 | h1
      · rcases hdm a h1 with h1 | rfl
        · exact .inl (.inr ⟨a, h1, hq⟩)
        · cases hq
      · subst h1
        rw [p2] at hq
        cases hq
    · by_cases e : q = k
      · subst e
        rw [hset, p3] at hq
        cases hq
      · rw [getObj_set_other e] at hq
        exact hdg q hq
  | false =>
    rw [opP_plain (.inl hm)] at h
    by_cases hkp : okP o = true
    · obtain ⟨m1, m2, m3⟩ := op_srcs hkp (fun hn => hp (by unfold isNewP; rw [hn]; rfl)) h
      exact ⟨m1, fun ob hob k hk => .inl (m2 ob hob k hk), m3⟩
    · unfold okQ at hk
      rw [hm] at hk
      simp only [hkp, Bool.or_false, Bool.false_or] at hk
      have hkind : kindP cfg o = kindOf cfg o := (kindP_plain (fun e => by rw [hm] at e; cases e.1)).1
      rw [hkind] at hk3
      unfold opS at h
      unfold kindOf at hk3
      cases ho : o.op with
      | slice t x lo hi mx =>
        simp only [ho] at h
        rw [T.gives_bind] at h
        obtain ⟨v, h1, h2⟩ := h
        rw [T.gives_ret] at h2
        subst h2
        refine ⟨fun k hk => .inl (.inl (evS_srcs (sliceS_hs h1 k hk))), fun ob hob k hk => .inl (.inr ⟨ob, hob, hk⟩), fun _ h => h⟩
      | build t parts =>
        simp only [ho] at h
        split at h
        · rename_i cs hb
          rw [T.gives_ret] at h
          subst h
          refine ⟨fun k hk => .inl ?_, fun ob hob k hk => .inl (.inr ⟨ob, hob, hk⟩), fun _ h => h⟩
          unfold builtS at hb
          split at hb
          · rename_i z pl hz _
            rcases fillS_hs _ _ _ hb k hk with h1 | ⟨p, hp, h1⟩
            · exfalso
              unfold zeroCells at hz
              split at hz
              · rename_i v _
                simp only [Option.some.injEq] at hz
                subst hz
                rw [ofValue_nohs] at h1
                cases h1
              · cases hz
            · obtain ⟨q, hq, rfl⟩ := List.mem_map.1 hp
              exact .inl (evS_srcs (cells_hs h1))
          · cases hb
        · exact h.elim
      | call c =>
        obtain ⟨callee, args, argTypes⟩ := c
        cases callee with
        | value f =>
          cases f with
          | func g =>
            simp only [ho] at h hk3
            by_cases hxt : isExt cfg.P g = true
            · have e0 : evS tm (.func g) = .c (.fn g []) := rfl
              rw [e0] at h
              simp only [if_pos hxt] at h
              rw [T.gives_bind] at h
              obtain ⟨v, hv, h⟩ := h
              rw [T.gives_ret] at h
              subst h
              refine ⟨fun k hk => (by rw [extS_hs hv] at hk; cases hk), fun ob hob k hk => .inl (.inr ⟨ob, hob, hk⟩), fun _ h => h⟩
            rw [if_neg hxt] at hk3
            have hs : (cfg.summ g).isSome = true := by
              cases hs : (cfg.summ g).isSome with
              | true => rfl
              | false => rw [hs] at hk3; simp at hk3
            obtain ⟨s, hs⟩ := Option.isSome_iff_exists.1 hs
            have e0 : evS tm (.func g) = .c (.fn g []) := rfl
            rw [e0] at h
            simp only [List.map_nil, List.append_nil, if_neg hxt] at h
            unfold callS at h
            rw [hs] at h
            obtain ⟨c1, c2, c3⟩ := callR_srcs h
            have conv : ∀ k, (k ∈ (args.toList.map (evS tm)).flatMap SV.hs ∨ ∃ ob ∈ H, k ∈ ob.hs) → srcs tm H k := by
              rintro k (hk | hk)
              · rw [List.flatMap_map] at hk
                obtain ⟨x, _, hx⟩ := List.mem_flatMap.1 hk
                exact .inl (evS_srcs hx)
              · exact .inr hk
            exact ⟨fun k hk => (c1 k hk).imp (conv k) id, fun ob hob k hk => (c2 ob hob k hk).imp (conv k) id, c3⟩
          | _ => rw [ho] at hk; cases hk
        | builtin bb =>
          cases bb with
          | len =>
            simp only [ho] at h
            have hv : out.H = H ∧ out.v.hs = [] := by
              generalize args.toList.map (evS tm) = l at h
              rcases l with _ | ⟨x, _ | ⟨y, l⟩⟩
              · exact h.elim
              · simp only [builtinS] at h
                split at h
                · rw [T.gives_ret] at h; rw [← h]; exact ⟨rfl, rfl⟩
                · rw [T.gives_ret] at h; rw [← h]; exact ⟨rfl, rfl⟩
                · split at h
                  · rw [T.gives_ret] at h; rw [← h]; exact ⟨rfl, rfl⟩
                  · split at h
                    · rw [T.gives_ret] at h; rw [← h]; exact ⟨rfl, rfl⟩
                    · exact h.elim
                · exact h.elim
              · exact h.elim
            refine ⟨fun k hk => ?_, fun ob hob k hk => ?_, fun k hk => ?_⟩
            · rw [hv.2] at hk
              cases hk
            · rw [hv.1] at hob
              exact .inl (.inr ⟨ob, hob, hk⟩)
            · rw [hv.1] at hk
              exact hk
          | _ => rw [ho] at hk; cases hk
        | _ => rw [ho] at hk; cases hk
      | _ => rw [ho] at hk; cases hk
theorem opP_srcs {cfg : Cfg cod} {tm : List SV} {H : Heap cod} {o : Oper} {out : Out cod} (hk : okQ o = true) (ht : tame cfg o = true) (hp : isNewP o = true → (o.dst.bind cfg.place).isSome = true) (h : (opP cfg tm H o).gives out) :
    (∀ k ∈ out.v.hs, srcs tm H k ∨ (getObj out.H k).isHold = false) ∧ (∀ ob ∈ out.H, ∀ k ∈ ob.hs, srcs tm H k ∨ (getObj out.H k).isHold = false) ∧ ∀ k, (getObj out.H k).isHold = true → (getObj H k).isHold = true := by
  unfold tame at ht
  rw [Bool.or_eq_true, decide_eq_true_eq] at ht
  rcases ht with ht | ht
  · exact opP_srcs3 hk ht hp h
  · obtain ⟨args, s, h1⟩ := keepC_spec ht h
    obtain ⟨_, c1, c2, c3⟩ := callI_srcs h1
    have conv : ∀ k, (k ∈ (args.toList.map (evS tm)).flatMap SV.hs ∨ ∃ ob ∈ H, k ∈ ob.hs) → srcs tm H k := by
      rintro k (hk | hk)
      · rw [List.flatMap_map] at hk
        obtain ⟨x, _, hx⟩ := List.mem_flatMap.1 hk
        exact .inl (evS_srcs hx)
      · exact .inr hk
    exact ⟨fun k hk => (c1 k hk).imp (conv k) id, fun ob hob k hk => (c2 ob hob k hk).imp (conv k) id, c3⟩
theorem tame_kill {cfg : Cfg cod} {tm : List SV} {H : Heap cod} {o : Oper} {out : Out cod} (ht : tame cfg o = true) (h : (opP cfg tm H o).gives out) : out.kill = [] := by
  unfold tame at ht
  rw [Bool.or_eq_true, decide_eq_true_eq] at ht
  rcases ht with ht | ht
  · exact (kindP_runs h).1 ht
  · obtain ⟨args, s, h1⟩ := keepC_spec ht h
    exact (callI_srcs h1).1
end
end Go.Proofs.YtiolfkmkbccndaaGreatDoor.Sym
