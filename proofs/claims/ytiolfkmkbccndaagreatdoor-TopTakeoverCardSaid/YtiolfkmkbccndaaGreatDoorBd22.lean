/- Parts of the proof, one behind the other: Sym19, Sym20, Sym22. -/
import Derived.Test.YtiolfkmkbccndaaGreatDoorSym18
section
/- The run with the results taken: what a leaf hands back. -/
namespace Go.Proofs.YtiolfkmkbccndaaGreatDoor.Sym
open Go.RowKit

section
variable {cod : Nat → Codec}
inductive Fin (cod : Nat → Codec) where
  | fin (r : SV) (news : Heap cod)
  | cut (k : List Item) (st : St cod)
def endS (P : Program) (rs : List ResultVar) (n : Nat) : Pause cod → T (Fin cod)
  | .done st => (finishS P rs n st).bind fun p => .ret (.fin p.1 p.2)
  | .cut k st => .ret (.cut k st)
noncomputable def symF (cfg : Cfg cod) (cuts : Cuts) (rs : List ResultVar) (n g : Nat) (k : List Item) (st : St cod) : T (Fin cod) :=
  sym cfg cuts n (endS cfg.P rs n) g k st
def Aft (P : Program) (b0 : Base) (Q : St cod → Prop) (r : SV) (news : Heap cod) : Fin cod → Prop
  | .fin r' news' => r' = r ∧ news' = news
  | .cut k st => Runs P b0 k st Q
/-- What a function's run must come to: this result and these new objects. -/
def Ends (P : Program) (fn : Func) (n : Nat) (r : SV) (news : Heap cod) : St cod → Prop := fun st => (finishS P fn.results.toList n st).gives (r, news)
theorem Runs.of_symF {cfg : Cfg cod} (hS : CfgFit cfg) (hm : cfg.P.follows .mixedOrders = true) {cuts : Cuts} {b0 : Base} {fn : Func} {r : SV} {news : Heap cod} (g : Nat) {k : List Item} {st : St cod} {t : T (Fin cod)}
    (ht : symF cfg cuts fn.results.toList b0.n g k st = t) (h : t.wp (Aft cfg.P b0 (Ends cfg.P fn b0.n r news) r news)) : Runs cfg.P b0 k st (Ends cfg.P fn b0.n r news) := by
  subst ht
  obtain ⟨p, h1, h2⟩ := T.wp_gives h
  refine sym_sound hS hm (p := p) (fun q hq => ?_) g k st h1
  cases q with
  | cut k' st' =>
    have : Fin.cut k' st' = p := hq
    subst this
    exact h2
  | done st' =>
    obtain ⟨x, h3, h4⟩ := T.gives_bind.1 (show ((finishS cfg.P fn.results.toList b0.n st').bind fun x => .ret (.fin x.1 x.2)).gives p from hq)
    have h5 : Fin.fin x.1 x.2 = p := h4
    subst h5
    obtain ⟨e1, e2⟩ : x.1 = r ∧ x.2 = news := h2
    have : x = (r, news) := by rw [← e1, ← e2]
    rw [this] at h3
    exact h3
def argsS (fn : Func) (args : List SV) : List SV := args ++ List.replicate (fn.ntmps - args.length) undefS
/-- A function without a loop: its run is its summary. -/
def autoEnd (P : Program) (rs : List ResultVar) (n : Nat) : Pause cod → T (SV × Heap cod)
  | .done st => finishS P rs n st
  | .cut _ _ => .fail
noncomputable def autoS (cfg : Cfg cod) (fn : Func) (g : Nat) : Summ cod := fun args H => sym cfg [] H.length (autoEnd cfg.P fn.results.toList H.length) g [.code (codeOf fn)] ⟨argsS fn args, H⟩
theorem auto_sound {cfg : Cfg cod} (hS : CfgFit cfg) (hm : cfg.P.follows .mixedOrders = true) {f : FuncId} {fn : Func} (hf : cfg.P.funcs[f]? = some fn) (hb : fn.body.isSome = true) (hname : (fn.name == "runtime.NumGoroutine") = false) (g : Nat) :
    Sound cfg.P cod f (autoS cfg fn g) := by
  obtain ⟨code, hcode⟩ := Option.isSome_iff_exists.1 hb
  have hcd : codeOf fn = code := by simp [codeOf, hcode]
  refine fn_sound hf hcode hname _ fun args H r news hro hg b0 hn => ?_
  unfold autoS at hg
  rw [hcd, ← hn] at hg
  rw [← hn]
  refine sym_sound hS hm (p := (r, news)) (fun q hq => ?_) g _ _ hg
  cases q with
  | cut k st => exact (show False from hq).elim
  | done st => exact hq
/-- The same for a function that may write to what it is handed. -/
def autoEndI (P : Program) (rs : List ResultVar) (H : Heap cod) : Pause cod → T (SV × Heap cod)
  | .done st => finishG P rs H.length (rootsOf H) st
  | .cut _ _ => .fail
noncomputable def autoSI (cfg : Cfg cod) (fn : Func) (g : Nat) : Summ cod := fun args H => sym cfg [] H.length (autoEndI cfg.P fn.results.toList H) g [.code (codeOf fn)] ⟨argsS fn args, H⟩
theorem autoI_sound {cfg : Cfg cod} (hS : CfgFit cfg) (hm : cfg.P.follows .mixedOrders = true) {f : FuncId} {fn : Func} (hf : cfg.P.funcs[f]? = some fn) (hb : fn.body.isSome = true) (hname : (fn.name == "runtime.NumGoroutine") = false) (g : Nat) :
    SoundI cfg.P cod f (autoSI cfg fn g) := by
  obtain ⟨code, hcode⟩ := Option.isSome_iff_exists.1 hb
  have hcd : codeOf fn = code := by simp [codeOf, hcode]
  refine fn_soundI hf hcode hname _ fun args H r H' hg b0 hn => ?_
  unfold autoSI at hg
  rw [hcd, ← hn] at hg
  refine sym_sound hS hm (p := (r, H')) (fun q hq => ?_) g _ _ hg
  cases q with
  | cut k st => exact (show False from hq).elim
  | done st => exact hq
/-- A function by its run: the tree's conditions give the summary's answer. -/
theorem tree_sound {cfg : Cfg cod} {f : FuncId} {fn : Func} (hf : cfg.P.funcs[f]? = some fn) (hb : fn.body.isSome = true) (hname : (fn.name == "runtime.NumGoroutine") = false) (s : Summ cod)
    (h : ∀ (args : List SV) (H : Heap cod) (r : SV) (news : Heap cod), (s args H).gives (r, news) → ∀ b0 : Base, b0.n = H.length → Runs cfg.P b0 [.code (codeOf fn)] ⟨argsS fn args, H⟩ (Ends cfg.P fn b0.n r news)) : Sound cfg.P cod f s := by
  obtain ⟨code, hcode⟩ := Option.isSome_iff_exists.1 hb
  have hcd : codeOf fn = code := by simp [codeOf, hcode]
  refine fn_sound hf hcode hname _ fun args H r news hro hg b0 hn => ?_
  have := h args H r news hg b0 hn
  rw [hcd, hn] at this
  exact this
/-! ### the same for functions that write to what they are handed -/
def endI (P : Program) (rs : List ResultVar) (H : Heap cod) : Pause cod → T (Fin cod)
  | .done st => (finishG P rs H.length (rootsOf H) st).bind fun p => .ret (.fin p.1 p.2)
  | .cut k st => .ret (.cut k st)
noncomputable def symI (cfg : Cfg cod) (cuts : Cuts) (rs : List ResultVar) (H : Heap cod) (g : Nat) (k : List Item) (st : St cod) : T (Fin cod) :=
  sym cfg cuts H.length (endI cfg.P rs H) g k st
def EndsI (P : Program) (fn : Func) (H : Heap cod) (r : SV) (H' : Heap cod) : St cod → Prop := fun st => (finishG P fn.results.toList H.length (rootsOf H) st).gives (r, H')
theorem Runs.of_symI {cfg : Cfg cod} (hS : CfgFit cfg) (hm : cfg.P.follows .mixedOrders = true) {cuts : Cuts} {b0 : Base} {fn : Func} {H : Heap cod} {r : SV} {H' : Heap cod} (hn : b0.n = H.length) (g : Nat) {k : List Item} {st : St cod} {t : T (Fin cod)}
    (ht : symI cfg cuts fn.results.toList H g k st = t) (h : t.wp (Aft cfg.P b0 (EndsI cfg.P fn H r H') r H')) : Runs cfg.P b0 k st (EndsI cfg.P fn H r H') := by
  subst ht
  obtain ⟨p, h1, h2⟩ := T.wp_gives h
  unfold symI at h1
  rw [← hn] at h1
  refine sym_sound hS hm (p := p) (fun q hq => ?_) g k st h1
  cases q with
  | cut k' st' =>
    have : Fin.cut k' st' = p := hq
    subst this
    exact h2
  | done st' =>
    obtain ⟨x, h3, h4⟩ := T.gives_bind.1 (show ((finishG cfg.P fn.results.toList H.length (rootsOf H) st').bind fun x => .ret (.fin x.1 x.2)).gives p from hq)
    have h5 : Fin.fin x.1 x.2 = p := h4
    subst h5
    obtain ⟨e1, e2⟩ : x.1 = r ∧ x.2 = H' := h2
    have : x = (r, H') := by rw [← e1, ← e2]
    rw [this] at h3
    exact h3
theorem tree_soundI {cfg : Cfg cod} {f : FuncId} {fn : Func} (hf : cfg.P.funcs[f]? = some fn) (hb : fn.body.isSome = true) (hname : (fn.name == "runtime.NumGoroutine") = false) (s : Summ cod)
    (h : ∀ (args : List SV) (H : Heap cod) (r : SV) (H' : Heap cod), (s args H).gives (r, H') → ∀ b0 : Base, b0.n = H.length → Runs cfg.P b0 [.code (codeOf fn)] ⟨argsS fn args, H⟩ (EndsI cfg.P fn H r H')) : SoundI cfg.P cod f s := by
  obtain ⟨code, hcode⟩ := Option.isSome_iff_exists.1 hb
  have hcd : codeOf fn = code := by simp [codeOf, hcode]
  refine fn_soundI hf hcode hname _ fun args H r H' hg b0 hn => ?_
  have := h args H r H' hg b0 hn
  rw [hcd] at this
  exact this
end
end Go.Proofs.YtiolfkmkbccndaaGreatDoor.Sym
end
section
/- Small helps for summaries: lists of summaries, reading arguments, trees with tests. -/
namespace Go.Proofs.YtiolfkmkbccndaaGreatDoor.Sym
open Go.RowKit

section
variable {cod : Nat → Codec} {P : Program}
/-- A function's summary: p where it only reads what it is handed, i where it may write to it, k where it does and lets own rows stay where they are. -/
inductive SE (cod : Nat → Codec) where
  | p (s : Summ cod)
  | i (s : Summ cod)
  | k (s : Summ cod)
abbrev Sums (cod : Nat → Codec) := List (FuncId × SE cod)
def lookS (L : Sums cod) (g : FuncId) : Option (Summ cod) :=
  match L with
  | [] => none
  | (f, e) :: l => if g = f then (match e with
    | .p s => some s
    | _ => none) else lookS l g
def lookI (L : Sums cod) (g : FuncId) : Option (Bool × Summ cod) :=
  match L with
  | [] => none
  | (f, e) :: l => if g = f then (match e with
    | .p _ => none
    | .i s => some (false, s)
    | .k s => some (true, s)) else lookI l g
def Snd (P : Program) (cod : Nat → Codec) (L : Sums cod) : Prop := (∀ g s, lookS L g = some s → Sound P cod g s) ∧ (∀ g s, lookI L g = some s → SoundIK P cod g s.1 s.2) ∧ ∀ _ : Nat, (none : Option Nat) = none
theorem Snd.nil : Snd P cod [] := ⟨(fun _ _ h => by cases h), (fun _ _ h => by cases h), fun _ => rfl⟩
theorem Snd.cons {f : FuncId} {s : Summ cod} {L : Sums cod} (h : Sound P cod f s) (hl : Snd P cod L) : Snd P cod ((f, .p s) :: L) := by
  refine ⟨fun g s' hg => ?_, fun g s' hg => ?_, fun _ => rfl⟩
  · simp only [lookS] at hg
    split at hg
    · rename_i e
      cases hg
      rw [e]
      exact h
    · exact hl.1 g s' hg
  · simp only [lookI] at hg
    split at hg
    · cases hg
    · exact hl.2.1 g s' hg
theorem Snd.consI {f : FuncId} {s : Summ cod} {L : Sums cod} (h : SoundI P cod f s) (hl : Snd P cod L) : Snd P cod ((f, .i s) :: L) := by
  refine ⟨fun g s' hg => ?_, fun g s' hg => ?_, fun _ => rfl⟩
  · simp only [lookS] at hg
    split at hg
    · cases hg
    · exact hl.1 g s' hg
  · simp only [lookI] at hg
    split at hg
    · rename_i e
      cases hg
      rw [e]
      exact h
    · exact hl.2.1 g s' hg

theorem Snd.consK {f : FuncId} {s : Summ cod} {L : Sums cod} (h : SoundIK P cod f true s) (hl : Snd P cod L) : Snd P cod ((f, .k s) :: L) := by
  refine ⟨fun g s' hg => ?_, fun g s' hg => ?_, fun _ => rfl⟩
  · simp only [lookS] at hg
    split at hg
    · cases hg
    · exact hl.1 g s' hg
  · simp only [lookI] at hg
    split at hg
    · rename_i e
      cases hg
      rw [e]
      exact h
    · exact hl.2.1 g s' hg

theorem T.wp_cond {α : Type} {b : Bool} {x y : T α} {Q : α → Prop} : (cond b x y).wp Q ↔ (if b = true then x.wp Q else y.wp Q) := by
  cases b <;> simp
theorem T.wp_ret {α : Type} {a : α} {Q : α → Prop} : (T.ret a).wp Q ↔ Q a := Iff.rfl
theorem T.wp_need {α : Type} {p : Prop} {t : T α} {Q : α → Prop} : (T.need p t).wp Q ↔ p ∧ t.wp Q := Iff.rfl
theorem T.wp_ite {α : Type} {c : Bool} {x y : T α} {Q : α → Prop} : (T.ite c x y).wp Q ↔ ((c = true → x.wp Q) ∧ (c = false → y.wp Q)) := Iff.rfl
theorem T.wp_fail {α : Type} {Q : α → Prop} : (T.fail : T α).wp Q ↔ False := Iff.rfl

/-- A function without loops. -/
theorem sound_flat {cfg : Cfg cod} (hS : CfgFit cfg) (hm : cfg.P.follows .mixedOrders = true) {f : FuncId} {fn : Func} (hf : cfg.P.funcs[f]? = some fn) (hb : fn.body.isSome = true) (hname : (fn.name == "runtime.NumGoroutine") = false) (s : Summ cod) (g : Nat)
    (h : ∀ (args : List SV) (H : Heap cod) (r : SV) (news : Heap cod), (s args H).gives (r, news) → (symF cfg [] fn.results.toList H.length g [.code (codeOf fn)] ⟨argsS fn args, H⟩).wp (fun x => x = .fin r news)) : Sound cfg.P cod f s :=
  tree_sound hf hb hname s fun args H r news hg b0 hn => Runs.of_symF hS hm g (cuts := []) rfl (T.wp_mono (Q := fun x => x = .fin r news) (fun x (hx : x = .fin r news) => by subst hx; exact ⟨rfl, rfl⟩) (by rw [hn]; exact h args H r news hg))
/-- A function with loops: at each cut the run goes on. -/
theorem sound_loop {cfg : Cfg cod} (hS : CfgFit cfg) (hm : cfg.P.follows .mixedOrders = true) {f : FuncId} {fn : Func} (hf : cfg.P.funcs[f]? = some fn) (hb : fn.body.isSome = true) (hname : (fn.name == "runtime.NumGoroutine") = false) (cuts : Cuts) (s : Summ cod) (g : Nat)
    (h : ∀ (args : List SV) (H : Heap cod) (r : SV) (news : Heap cod), (s args H).gives (r, news) → ∀ b0 : Base, b0.n = H.length → (symF cfg cuts fn.results.toList H.length g [.code (codeOf fn)] ⟨argsS fn args, H⟩).wp (Aft cfg.P b0 (Ends cfg.P fn H.length r news) r news)) : Sound cfg.P cod f s :=
  tree_sound hf hb hname s fun args H r news hg b0 hn => by
    have := Runs.of_symF hS hm (fn := fn) (r := r) (news := news) (b0 := b0) (cuts := cuts) g rfl (by rw [hn]; exact h args H r news hg b0 hn)
    exact this

/-- A function without loops that may write to what it is handed. -/
theorem sound_flatI {cfg : Cfg cod} (hS : CfgFit cfg) (hm : cfg.P.follows .mixedOrders = true) {f : FuncId} {fn : Func} (hf : cfg.P.funcs[f]? = some fn) (hb : fn.body.isSome = true) (hname : (fn.name == "runtime.NumGoroutine") = false) (s : Summ cod) (g : Nat)
    (h : ∀ (args : List SV) (H : Heap cod) (r : SV) (H' : Heap cod), (s args H).gives (r, H') → (symI cfg [] fn.results.toList H g [.code (codeOf fn)] ⟨argsS fn args, H⟩).wp (fun x => x = .fin r H')) : SoundI cfg.P cod f s :=
  tree_soundI hf hb hname s fun args H r H' hg b0 hn => Runs.of_symI hS hm hn g (cuts := []) rfl (T.wp_mono (Q := fun x => x = .fin r H') (fun x (hx : x = .fin r H') => by subst hx; exact ⟨rfl, rfl⟩) (h args H r H' hg))

/-- Temporaries: the known ones, each after so many that are not. -/
def tmG (n : Nat) : List (Nat × SV) → List SV
  | [] => List.replicate n (.c .junk)
  | (g, v) :: l => List.replicate g (.c .junk) ++ v :: tmG n l
/-! ### arguments -/
def rdI : List Cell → Option (List Int)
  | [] => some []
  | .int .i64 n :: l => match rdI l with
    | some r => some (n :: r)
    | none => none
  | _ => none
def ints (l : List Int) : List Cell := l.map (.int .i64)
theorem rdI_spec : ∀ {cs : List Cell} {l : List Int}, rdI cs = some l → cs = ints l
  | [], l, h => by
    simp only [rdI, Option.some.injEq] at h
    subst h
    rfl
  | x :: cs, l, h => by
    unfold rdI at h
    split at h
    · rename_i heq
      cases heq
    · rename_i n l' heq
      cases heq
      split at h
      · rename_i r hr
        cases h
        rw [rdI_spec hr]
        rfl
      · cases h
    · cases h
def rd1 : SV → Option (List Int)
  | .c (.int .i64 n) => some [n]
  | .agg (x :: cs) => match rdI (x :: cs) with
    | some l => some (0 :: l)
    | none => none
  | _ => none
/-- All arguments are ints or structs of ints: [n] for an int, 0 :: fields for a struct. -/
def rd : List SV → Option (List (List Int))
  | [] => some []
  | v :: l => match rd1 v with
    | none => none
    | some x => match rd l with
      | none => none
      | some r => some (x :: r)
def wr1 : List Int → SV
  | [n] => .c (.int .i64 n)
  | l => .agg (ints l.tail)
theorem rd1_spec {v : SV} {l : List Int} (h : rd1 v = some l) : v = wr1 l := by
  unfold rd1 at h
  split at h
  · cases h
    rfl
  · rename_i x cs
    split at h
    · rename_i l hr
      cases h
      rw [rdI_spec hr]
      cases l with
      | nil => cases rdI_spec hr
      | cons y l => rfl
    · cases h
  · cases h
theorem rd_spec : ∀ {args : List SV} {l : List (List Int)}, rd args = some l → args = l.map wr1
  | [], l, h => by
    cases h
    rfl
  | v :: a, l, h => by
    simp only [rd] at h
    split at h
    · cases h
    · rename_i y hy
      split at h
      · cases h
      · rename_i r hr
        cases h
        rw [rd1_spec hy, rd_spec hr]
        rfl
end
end Go.Proofs.YtiolfkmkbccndaaGreatDoor.Sym
end
section
/- Loops: an induction for the run at a loop's head, and lists by their parts. -/
namespace Go.Proofs.YtiolfkmkbccndaaGreatDoor.Sym
open Go.RowKit

section
variable {cod : Nat → Codec} {P : Program}
/-- The run goes on from a cut; the number of objects that the call was given written out. -/
theorem Runs.go {cfg : Cfg cod} (hS : CfgFit cfg) (hm : cfg.P.follows .mixedOrders = true) (cuts : Cuts) {b0 : Base} {fn : Func} {r : SV} {news : Heap cod} (g : Nat) {N : Nat} (hb : b0.n = N) {k : List Item} {st : St cod} {t : T (Fin cod)}
    (ht : symF cfg cuts fn.results.toList N g k st = t) (h : t.wp (Aft cfg.P b0 (Ends cfg.P fn N r news) r news)) : Runs cfg.P b0 k st (Ends cfg.P fn N r news) := by
  subst hb
  exact Runs.of_symF hS hm g ht h
/-- A summary by runs from the function's beginning, where its summary answers. -/
theorem sound_runs {cfg : Cfg cod} (hS : CfgFit cfg) (hm : cfg.P.follows .mixedOrders = true) {f : FuncId} {fn : Func} (hf : cfg.P.funcs[f]? = some fn) (hb : fn.body.isSome = true) (hname : (fn.name == "runtime.NumGoroutine") = false) (s : Summ cod)
    (h : ∀ (args : List SV) (H : Heap cod) (r : SV) (news : Heap cod), (s args H).gives (r, news) → ∀ b0 : Base, b0.n = H.length → Runs cfg.P b0 [.code (codeOf fn)] ⟨argsS fn args, H⟩ (Ends cfg.P fn H.length r news)) : Sound cfg.P cod f s :=
  tree_sound hf hb hname s fun args H r news hg b0 hn => by
    have := h args H r news hg b0 hn
    rw [← hn] at this
    exact this

theorem Runs.goI {cfg : Cfg cod} (hS : CfgFit cfg) (hm : cfg.P.follows .mixedOrders = true) (cuts : Cuts) {b0 : Base} {fn : Func} {r : SV} {H' : Heap cod} (g : Nat) {H : Heap cod} (hb : b0.n = H.length) {k : List Item} {st : St cod} {t : T (Fin cod)}
    (ht : symI cfg cuts fn.results.toList H g k st = t) (h : t.wp (Aft cfg.P b0 (EndsI cfg.P fn H r H') r H')) : Runs cfg.P b0 k st (EndsI cfg.P fn H r H') := Runs.of_symI hS hm hb g ht h

/-- A row that is only read, of kind t. -/
def HObj.asInp (t : Nat) : HObj cod → Option (List (cod t).α)
  | .inp u l => if h : u = t then some (h ▸ l) else none
  | _ => none
theorem asInp_spec {t : Nat} {o : HObj cod} {l : List (cod t).α} (h : o.asInp t = some l) : o = .inp t l := by
  cases o <;> simp only [HObj.asInp] at h <;> try cases h
  rename_i u l'
  split at h
  · rename_i e
    subst e
    cases h
    rfl
  · cases h

/-- A row of rows that is only read, of kind t. -/
def HObj.asNin (t : Nat) : HObj cod → Option (List (List (cod t).α))
  | .nin u LL none => if h : u = t then some (h ▸ LL) else none
  | _ => none
theorem asNin_spec {t : Nat} {o : HObj cod} {LL : List (List (cod t).α)} (h : o.asNin t = some LL) : o = .nin t LL none := by
  cases o <;> simp only [HObj.asNin] at h <;> try cases h
  rename_i u l' op
  cases op with
  | some p => cases h
  | none =>
    simp only [HObj.asNin] at h
    split at h
    · rename_i e
      subst e
      cases h
      rfl
    · cases h
theorem drop_at {α : Type} (l : List α) (d : α) {i : Int} (h0 : 0 ≤ i) (h1 : i < l.length) : l.drop i.toNat = l.getD i.toNat d :: l.drop (i + 1).toNat := by
  have h2 : i.toNat < l.length := by omega
  have h3 : (i + 1).toNat = i.toNat + 1 := by omega
  rw [h3, List.drop_eq_getElem_cons h2]
  simp [List.getD, List.getElem?_eq_getElem h2]
theorem drop_end {α : Type} (l : List α) {i : Int} (h : ¬ i < l.length) : l.drop i.toNat = [] := List.drop_of_length_le (by omega)
theorem take_at {α : Type} (l : List α) (d : α) {i : Int} (h0 : 0 ≤ i) (h1 : i < l.length) : l.take (i + 1).toNat = l.take i.toNat ++ [l.getD i.toNat d] := by
  have h2 : i.toNat < l.length := by omega
  have h3 : (i + 1).toNat = i.toNat + 1 := by omega
  rw [h3, List.take_add_one, List.getElem?_eq_getElem h2]
  simp [List.getD, List.getElem?_eq_getElem h2]
end
end Go.Proofs.YtiolfkmkbccndaaGreatDoor.Sym
end
