/- A symbolic run of a function's code, from cut to cut, and why it is sound. -/
import Derived.Test.YtiolfkmkbccndaaGreatDoorSym16
namespace Go.Proofs.YtiolfkmkbccndaaGreatDoor.Sym
open Go.RowKit

section
variable {cod : Nat → Codec}

/-! ### a state with less in it -/
def Cell.low (n : Nat) (c : Cell) : Cell := if c.hs.all (fun h => decide (h < n)) then c else .junk
def maskFrom (keep : List Nat) (n : Nat) : Nat → List SV → List SV
  | _, [] => []
  | i, x :: l => (if keep.contains i then x.mapC (Cell.low n) else .c .junk) :: maskFrom keep n (i + 1) l
def St.fit (keep : List Nat) (n : Nat) (st : St cod) : St cod := { tmps := maskFrom keep n 0 st.tmps, heap := (st.heap.take n).map (HObj.mapC (Cell.low n)) }

theorem crel_low {env : Env} {N n M : Nat} {c : Cell} {v : Value} (hM : ∀ k, k < N → k < n → k < M) (h : crel env N c v) : crel env M (c.low n) v := by
  unfold Cell.low
  split
  · rename_i hc
    have hlt : ∀ k ∈ c.hs, k < n := fun k hk => by simpa using List.all_eq_true.1 hc k hk
    cases c <;> simp only [crel, Cell.hs] at * <;> try exact h
    case ptr k i o => exact ⟨hM k h.1 (hlt k (by simp)), h.2⟩
    case slc k i m t => exact ⟨hM k h.1 (hlt k (by simp)), h.2⟩
    case own k m => exact ⟨hM k h.1 (hlt k (by simp)), h.2⟩
    case fn f caps => exact ⟨fun c hcm => hM c.1 (h.1 c hcm) (hlt c.1 (List.mem_map.2 ⟨c, hcm, rfl⟩)), h.2⟩
  · trivial
theorem mask_rel {env : Env} {N n M : Nat} (keep : List Nat) (hM : ∀ k, k < N → k < n → k < M) : ∀ (i : Nat) {l : List SV} {vs : List Value}, F2 (vrel env N) l vs → F2 (vrel env M) (maskFrom keep n i l) vs
  | _, _, _, .nil => .nil
  | i, _, _, .cons h t => by
    refine .cons ?_ (mask_rel keep hM (i + 1) t)
    split
    · exact vrel_map (fun c v hc => crel_low hM hc) h
    · trivial
theorem fit_rel {st : St cod} {b : Base} {a : Act} {w : World} (keep : List Nat) (n : Nat) (hn : b.n ≤ n) (hR : Rel st b a w) : Rel (st.fit keep n) b a w := by
  obtain ⟨env, hF, hd, G, hb, hK0, hK1, hK2⟩ := hR
  have hlen : (st.fit keep n).heap.length = min n st.heap.length := by simp [St.fit]
  have hM : ∀ k, k < st.heap.length → k < n → k < (st.fit keep n).heap.length := fun k h1 h2 => by rw [hlen]; omega
  have get : ∀ (k : Nat) (o : HObj cod), (st.fit keep n).heap[k]? = some o → ∃ o' : HObj cod, st.heap[k]? = some o' ∧ o = o'.mapC (Cell.low n) := fun k o ho => by
    simp only [St.fit, List.getElem?_map] at ho
    obtain ⟨o', h1, rfl⟩ := Option.map_eq_some_iff.1 ho
    rw [List.getElem?_take] at h1
    split at h1
    · exact ⟨o', h1, rfl⟩
    · cases h1
  refine ⟨env, mask_rel keep hM 0 hF, hd, ⟨fun k o ho => ?_, fun k k' o o' c hne ho ho' hw hc hc' => ?_, G.tab⟩, hb, hK0, by rw [hlen]; omega, fun k o hk ho hown => ?_⟩
  · obtain ⟨o', h1, rfl⟩ := get k o ho
    exact objRel_map (fun c v hc => crel_low hM hc) (G.obj k o' h1)
  · obtain ⟨p, h1, rfl⟩ := get k o ho
    obtain ⟨p', h1', rfl⟩ := get k' o' ho'
    rw [has_map] at hc hc'
    rw [wr_map] at hw
    exact G.sep k k' p p' c hne h1 h1' hw hc hc'
  · obtain ⟨o', h1, rfl⟩ := get k o ho
    rw [own_map] at hown
    exact hK2 k o' hk h1 hown

/-! ### the state written out, so that a run does not carry what is still to be computed -/
section
variable {R : Type}
def forceC (c : Cell) (k : Cell → R) : R :=
  match c with
  | .int a n => k (.int a n)
  | .bool b => k (.bool b)
  | .str s => k (.str s)
  | .ptr h i o => k (.ptr h i o)
  | .slc h i n t => k (.slc h i n t)
  | .own h n => k (.own h n)
  | .nil => k .nil
  | .fn f l => k (.fn f l)
  | .raw v => k (.raw v)
  | .junk => k .junk
noncomputable def forceCs (l : List Cell) : (List Cell → R) → R := List.rec (motive := fun _ => (List Cell → R) → R) (fun k => k []) (fun x _ ih k => forceC x fun x => ih fun xs => k (x :: xs)) l
noncomputable def forceV1 (v : SV) (k : SV → R) : R :=
  match v with
  | .c x => forceC x fun x => k (.c x)
  | .agg cs => forceCs cs fun cs => k (.agg cs)
  | .tup vs => k (.tup vs)
noncomputable def forceV1s (l : List SV) : (List SV → R) → R := List.rec (motive := fun _ => (List SV → R) → R) (fun k => k []) (fun x _ ih k => forceV1 x fun x => ih fun xs => k (x :: xs)) l
noncomputable def forceV (v : SV) (k : SV → R) : R :=
  match v with
  | .c x => forceC x fun x => k (.c x)
  | .agg cs => forceCs cs fun cs => k (.agg cs)
  | .tup vs => forceV1s vs fun vs => k (.tup vs)
noncomputable def forceVs (l : List SV) : (List SV → R) → R := List.rec (motive := fun _ => (List SV → R) → R) (fun k => k []) (fun x _ ih k => forceV x fun x => ih fun xs => k (x :: xs)) l
noncomputable def forceO (o : HObj cod) (k : HObj cod → R) : R :=
  match o with
  | .blk cs ty => forceCs cs fun cs => k (.blk cs ty)
  | .rblk cs => forceCs cs fun cs => k (.rblk cs)
  | .pblk cs => forceCs cs fun cs => k (.pblk cs)
  | .arr t l ty => k (.arr t l ty)
  | .sarr pre t m l post ty => forceCs pre fun pre => forceCs post fun post => k (.sarr pre t m l post ty)
  | .own t l ty => k (.own t l ty)
  | .inp t l => k (.inp t l)
  | .nin t LL op => match op with
    | none => k (.nin t LL none)
    | some p => match p with
      | (i, c) => forceC c fun c => k (.nin t LL (some (i, c)))
  | .nown t LL js cs ty tyr => forceCs cs fun cs => k (.nown t LL js cs ty tyr)
  | .dead => k .dead
noncomputable def forceH (l : Heap cod) : (Heap cod → R) → R := List.rec (motive := fun _ => (Heap cod → R) → R) (fun k => k []) (fun x _ ih k => forceO x fun x => ih fun xs => k (x :: xs)) l
noncomputable def forceSt (st : St cod) (k : St cod → R) : R := forceVs st.tmps fun tm => forceH st.heap fun H => k ⟨tm, H⟩
theorem forceC_eq (c : Cell) (k : Cell → R) : forceC c k = k c := by cases c <;> rfl
theorem forceCs_eq : ∀ (l : List Cell) (k : List Cell → R), forceCs l k = k l
  | [], _ => rfl
  | x :: l, k => by
    show forceC x (fun x => forceCs l fun xs => k (x :: xs)) = _
    rw [forceC_eq]
    exact forceCs_eq l (fun xs => k (x :: xs))
theorem forceV1_eq (v : SV) (k : SV → R) : forceV1 v k = k v := by
  cases v with
  | c x => exact forceC_eq x (fun x => k (.c x))
  | agg cs => exact forceCs_eq cs (fun x => k (.agg x))
  | tup vs => rfl
theorem forceV1s_eq : ∀ (l : List SV) (k : List SV → R), forceV1s l k = k l
  | [], _ => rfl
  | x :: l, k => by
    show forceV1 x (fun x => forceV1s l fun xs => k (x :: xs)) = _
    rw [forceV1_eq]
    exact forceV1s_eq l (fun xs => k (x :: xs))
theorem forceV_eq (v : SV) (k : SV → R) : forceV v k = k v := by
  cases v with
  | c x => exact forceC_eq x (fun x => k (.c x))
  | agg cs => exact forceCs_eq cs (fun x => k (.agg x))
  | tup vs => exact forceV1s_eq vs (fun x => k (.tup x))
theorem forceVs_eq : ∀ (l : List SV) (k : List SV → R), forceVs l k = k l
  | [], _ => rfl
  | x :: l, k => by
    show forceV x (fun x => forceVs l fun xs => k (x :: xs)) = _
    rw [forceV_eq]
    exact forceVs_eq l (fun xs => k (x :: xs))
theorem forceO_eq (o : HObj cod) (k : HObj cod → R) : forceO o k = k o := by
  cases o with
  | blk cs ty => exact forceCs_eq cs (fun x => k (.blk x ty))
  | rblk cs => exact forceCs_eq cs (fun x => k (.rblk x))
  | pblk cs => exact forceCs_eq cs (fun x => k (.pblk x))
  | sarr pre t m l post ty =>
    refine (forceCs_eq pre (fun x => forceCs post fun y => k (.sarr x t m l y ty))).trans ?_
    exact forceCs_eq post (fun y => k (.sarr pre t m l y ty))
  | nown t LL js cs ty tyr => exact forceCs_eq cs (fun x => k (.nown t LL js x ty tyr))
  | nin t LL op =>
    cases op with
    | none => rfl
    | some p => exact forceC_eq p.2 (fun c => k (.nin t LL (some (p.1, c))))
  | _ => rfl
theorem forceH_eq : ∀ (l : Heap cod) (k : Heap cod → R), forceH l k = k l
  | [], _ => rfl
  | x :: l, k => by
    show forceO x (fun x => forceH l fun xs => k (x :: xs)) = _
    rw [forceO_eq]
    exact forceH_eq l (fun xs => k (x :: xs))
theorem forceSt_eq (st : St cod) (k : St cod → R) : forceSt st k = k st := by
  unfold forceSt
  rw [forceVs_eq, forceH_eq]
end

/-! ### the code -/
inductive Pause (cod : Nat → Codec) where
  | cut (k : List Item) (st : St cod)
  | done (st : St cod)
/-- The first region of a loop's body: the loop's name. -/
def keyOf : Code → Option Nat
  | .region id _ _ => some id
  | .seq a b => match keyOf a with
    | some k => some k
    | none => keyOf b
  | .block _ c => keyOf c
  | .loop c => keyOf c
  | .scope c => keyOf c
  | _ => none
/-- The cuts: for each loop, the temporaries that its head keeps and how many objects. -/
abbrev Cuts := List (Nat × List Nat × Nat)
def cutOf (cuts : Cuts) (c : Code) : Option (List Nat × Nat) :=
  match keyOf c with
  | none => none
  | some k => (cuts.find? fun p => p.1 == k).map (·.2)
/-- The run of what is still to do, as far as the next loop's head. n: the objects that the arguments reach. -/
noncomputable def sym {β : Type} (cfg : Cfg cod) (cuts : Cuts) (n : Nat) (f : Pause cod → T β) : Nat → List Item → St cod → T β
  | 0, _, _ => .fail
  | _ + 1, [], st => f (.done st)
  | g + 1, x :: k, st =>
    match x with
    | .inBlock _ => sym cfg cuts n f g k st
    | .inLoop c => match cutOf cuts c with
      | none => sym cfg cuts n f g (.code c :: .inLoop c :: k) st
      | some (keep, m) => if n ≤ m then f (.cut (.code c :: .inLoop c :: k) (st.fit keep m)) else .fail
    | .code c =>
      match c with
      | .skip => sym cfg cuts n f g k st
      | .label _ => sym cfg cuts n f g k st
      | .seq a b => sym cfg cuts n f g (.code a :: .code b :: k) st
      | .region id ops draw =>
        match cuts.find? (fun p => p.1 == 100000 + id) with
        | some p => if n ≤ p.2.2 then f (.cut (.code (.region id ops draw) :: k) (st.fit p.2.1 p.2.2)) else .fail
        | none =>
        if draw = false ∨ (Region.lexB .any ops && memB cfg ops) = true then symOps cfg ops ops.toList st fun st' => forceSt st' fun st' => sym cfg cuts n f g k st'
        else if Region.lexB .any ops = true then
          if 2 ≤ (newDsts ops.toList).length then
            if st.tmps.all (fun v => v.hs.all fun h => decide (h < st.heap.length)) = true ∧ st.heap.all (fun o => o.hs.all fun h => decide (h < st.heap.length)) = true then
              symOps (cfg.placed st.heap.length (newDsts ops.toList)) ops ops.toList (st.hold (newDsts ops.toList).length) fun st' => forceSt st' fun st' => if drawOkP cfg ops st st' = true then sym cfg cuts n f g k st' else .fail
            else .fail
          else symOps cfg ops ops.toList st fun st' => forceSt st' fun st' => if memB2 cfg ops st.tmps st'.tmps = true then sym cfg cuts n f g k st' else .fail
        else .fail
      | .cond x t e => match evS st.tmps x with
        | .c (.bool b) => cond b (sym cfg cuts n f g (.code t :: k) (st.know (tmpOf x) true)) (sym cfg cuts n f g (.code e :: k) (st.know (tmpOf x) false))
        | _ => .fail
      | .block id b => sym cfg cuts n f g (.code b :: .inBlock id :: k) st
      | .loop b => match cutOf cuts b with
        | none => sym cfg cuts n f g (.code b :: .inLoop b :: k) st
        | some (keep, m) => if n ≤ m then f (.cut (.code b :: .inLoop b :: k) (st.fit keep m)) else .fail
      | .exit id => match exitTo id k with
        | some k' => sym cfg cuts n f g k' st
        | none => .fail
      | .ret => f (.done st)
      | _ => .fail
    | _ => .fail

/-- From this code, frame and world the run comes to its return, and leaves a state that Q holds of. -/
def Runs (P : Program) (b0 : Base) (k : List Item) (st : St cod) (Q : St cod → Prop) : Prop :=
  ∀ (b : Frame) (cs : List Frame) (a : Act) (w : World), Rel st b0 a w → ∃ st' a' w' todo, Q st' ∧ Rel st' b0 a' w' ∧ Steps P (lone (b.at a k) cs w) (lone { b.at a' todo with mode := .returning } cs w')
theorem Runs.weaken {P : Program} {b0 : Base} {k : List Item} {st st' : St cod} {Q : St cod → Prop} (h : ∀ a w, Rel st b0 a w → Rel st' b0 a w) (hr : Runs P b0 k st' Q) : Runs P b0 k st Q :=
  fun b cs a w hR => hr b cs a w (h a w hR)
theorem Runs.mono {P : Program} {b0 : Base} {k : List Item} {st : St cod} {Q Q' : St cod → Prop} (h : ∀ s, Q s → Q' s) (hr : Runs P b0 k st Q) : Runs P b0 k st Q' :=
  fun b cs a w hR => let ⟨st', a', w', todo, h1, h2, h3⟩ := hr b cs a w hR; ⟨st', a', w', todo, h _ h1, h2, h3⟩
theorem Runs.step {P : Program} {b0 : Base} {k k' : List Item} {st : St cod} {Q : St cod → Prop} (hs : ∀ (b : Frame) (cs : List Frame) (a : Act) (w : World), Rel st b0 a w → _root_.Go.step P (lone (b.at a k) cs w) = .next (lone (b.at a k') cs w)) (h : Runs P b0 k' st Q) : Runs P b0 k st Q :=
  fun b cs a w hR => let ⟨st', a', w', todo, h1, h2, h3⟩ := h b cs a w hR; ⟨st', a', w', todo, h1, h2, .head (hs b cs a w hR) h3⟩

def After_ (P : Program) (b0 : Base) (Q : St cod → Prop) : Pause cod → Prop
  | .done st => Q st
  | .cut k st => Runs P b0 k st Q
theorem eval_bool {st : St cod} {b0 : Base} {a : Act} {w : World} {x : Operand} {q : Bool} (h : evS st.tmps x = .c (.bool q)) (hR : Rel st b0 a w) : a.eval x = .bool q := by
  obtain ⟨env, hF, _⟩ := hR
  have := eval_rel hF x
  rw [h] at this
  exact this
theorem sym_sound {cfg : Cfg cod} (hS : CfgFit cfg) (hm : cfg.P.follows .mixedOrders = true) {cuts : Cuts} {b0 : Base} {Q : St cod → Prop} {β : Type} {f : Pause cod → T β} {p : β} (hp : ∀ q, (f q).gives p → After_ cfg.P b0 Q q) : ∀ (g : Nat) (k : List Item) (st : St cod), (sym cfg cuts b0.n f g k st).gives p → Runs cfg.P b0 k st Q
  | 0, _, _, h => h.elim
  | g + 1, [], st, h => by
    simp only [sym] at h
    exact fun b cs a w hR => ⟨st, a, w, [], hp _ h, hR, .one step_end⟩
  | g + 1, x :: k, st, h => by
    simp only [sym, forceSt_eq] at h
    split at h
    · exact Runs.step (fun b cs a w _ => step_inBlock) (sym_sound hS hm hp g k st h)
    · rename_i c
      split at h
      · exact Runs.step (fun b cs a w _ => step_inLoop) (sym_sound hS hm hp g _ st h)
      · rename_i keep m _
        split at h
        · rename_i hn
          exact Runs.step (fun b cs a w _ => step_inLoop) (Runs.weaken (fun a w hR => fit_rel keep m hn hR) (hp _ h))
        · exact h.elim
    · rename_i c
      split at h
      · exact Runs.step (fun b cs a w _ => step_skip) (sym_sound hS hm hp g k st h)
      · exact Runs.step (fun b cs a w _ => step_label) (sym_sound hS hm hp g k st h)
      · exact Runs.step (fun b cs a w _ => step_seq) (sym_sound hS hm hp g _ st h)
      · rename_i id ops draw
        have run : ∀ st', absRun cfg ops ops.toList st st' → (draw = true → drawOk cfg ops st st' = true) → (sym cfg cuts b0.n f g k st').gives p → Runs cfg.P b0 (.code (.region id ops draw) :: k) st Q := fun st' h1 hd h2 => by
          have hr := sym_sound hS hm hp g k st' h2
          intro b cs a w hR
          have hw := region_sound (id := id) (draw := draw) (Q := fun e a' w' => e = .normal ∧ Rel st' b0 a' w') hS.ok hS.2.2 hm hd h1 hR (fun a' w' hR' => ⟨rfl, hR'⟩)
          obtain ⟨e, a', w', ⟨rfl, hR'⟩, harr⟩ := hw b k cs
          obtain ⟨s, a'', w'', todo, q1, q2, q3⟩ := hr b cs a' w' hR'
          exact ⟨s, a'', w'', todo, q1, q2, Steps.trans harr q3⟩
        split at h
        · rename_i p _
          split at h
          · rename_i hn
            exact Runs.weaken (fun a w hR => fit_rel p.2.1 p.2.2 hn hR) (hp _ h)
          · exact h.elim
        split at h
        · rename_i hd
          obtain ⟨st', h1, h2⟩ := symOps_spec _ _ _ _ h
          refine run st' h1 (fun hdr => ?_) h2
          rcases hd with hd | hd
          · rw [hdr] at hd
            cases hd
          · unfold drawOk
            simp only [Bool.and_eq_true] at hd
            simp [hd]
        · split at h
          · rename_i hdr hl
            split at h
            · split at h
              · rename_i hff
                obtain ⟨st', h1, h2⟩ := symOps_spec _ _ _ _ h
                split at h2
                · rename_i hdp
                  have hdraw : draw = true := by cases draw <;> simp at hdr ⊢
                  subst hdraw
                  have hr := sym_sound hS hm hp g k st' h2
                  intro b cs a w hR
                  have hw := region_soundP (id := id) (Q := fun e a' w' => e = .normal ∧ Rel st' b0 a' w') hS.ok hm hff.1 hff.2 hdp h1 hR (fun a' w' hR' => ⟨rfl, hR'⟩)
                  obtain ⟨e, a', w', ⟨rfl, hR'⟩, harr⟩ := hw b k cs
                  obtain ⟨s, a'', w'', todo, q1, q2, q3⟩ := hr b cs a' w' hR'
                  exact ⟨s, a'', w'', todo, q1, q2, Steps.trans harr q3⟩
                · exact h2.elim
              · exact h.elim
            obtain ⟨st', h1, h2⟩ := symOps_spec _ _ _ _ h
            split at h2
            · rename_i hm2
              refine run st' h1 (fun _ => ?_) h2
              unfold drawOk
              simp [hl, hm2]
            · exact h2.elim
          · exact h.elim
      · rename_i x t e
        split at h
        · rename_i q hq
          have hk : st.know (tmpOf x) q = st := know_same fun t ht => by
            cases x <;> simp only [tmpOf] at ht <;> first
              | (cases ht; done)
              | (simp only [Option.some.injEq] at ht; subst ht; exact hq)
          cases q with
          | true =>
            rw [cond_true, hk] at h
            exact Runs.step (fun b cs a w hR => step_cond (eval_bool hq hR)) (sym_sound hS hm hp g _ st h)
          | false =>
            rw [cond_false, hk] at h
            exact Runs.step (fun b cs a w hR => step_cond (eval_bool hq hR)) (sym_sound hS hm hp g _ st h)
        · exact h.elim
      · exact Runs.step (fun b cs a w _ => step_block) (sym_sound hS hm hp g _ st h)
      · rename_i c
        split at h
        · exact Runs.step (fun b cs a w _ => step_loop) (sym_sound hS hm hp g _ st h)
        · rename_i keep m _
          split at h
          · rename_i hn
            exact Runs.step (fun b cs a w _ => step_loop) (Runs.weaken (fun a w hR => fit_rel keep m hn hR) (hp _ h))
          · exact h.elim
      · rename_i id
        split at h
        · rename_i k' hk
          exact Runs.step (fun b cs a w _ => step_exit hk) (sym_sound hS hm hp g k' st h)
        · exact h.elim
      · exact fun b cs a w hR => ⟨st, a, w, _, hp _ h, hR, .one step_ret⟩
      · exact h.elim
    · exact h.elim
/-- The code still to do at the head of the loop named 'key'. -/
def stackAt (key : Nat) : Code → List Item → Option (List Item)
  | .loop c, k => if keyOf c = some key then some (.code c :: .inLoop c :: k) else stackAt key c (.inLoop c :: k)
  | .seq a b, k => match stackAt key a (.code b :: k) with
    | some r => some r
    | none => stackAt key b k
  | .block id c, k => stackAt key c (.inBlock id :: k)
  | .cond _ a b, k => match stackAt key a k with
    | some r => some r
    | none => stackAt key b k
  | _, _ => none
/-- The code still to do at a region. -/
def stackReg (key : Nat) : Code → List Item → Option (List Item)
  | .region i ops d, k => if i = key then some (.code (.region i ops d) :: k) else none
  | .seq a b, k => match stackReg key a (.code b :: k) with
    | some r => some r
    | none => stackReg key b k
  | .cond _ a b, k => match stackReg key a k with
    | some r => some r
    | none => stackReg key b k
  | .block id b, k => stackReg key b (.inBlock id :: k)
  | .loop b, k => stackReg key b (.inLoop b :: k)
  | _, _ => none
def codeOf (fn : Func) : Code := fn.body.getD .skip
def regAt (fn : Func) (key : Nat) : List Item := (stackReg key (codeOf fn) []).getD []
def cutAt (fn : Func) (key : Nat) : List Item := (stackAt key (codeOf fn) []).getD []
end
end Go.Proofs.YtiolfkmkbccndaaGreatDoor.Sym
