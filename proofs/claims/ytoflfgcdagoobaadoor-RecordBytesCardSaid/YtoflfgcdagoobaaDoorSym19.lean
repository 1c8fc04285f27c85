/- The run with the results taken: what a leaf hands back. -/
import Derived.Test.YtoflfgcdagoobaaDoorSym18
namespace Go.Proofs.YtoflfgcdagoobaaDoor.Sym
open Go.RowKit

section
variable {cod : Nat → Codec}
inductive Fin (cod : Nat → Codec) where
  | fin (r : SV) (news : Heap cod)
  | cut (k : List Item) (st : St cod)
def endS (P : Program) (rs : List ResultVar) (n : Nat) : Pause cod → T (Fin cod)
  | .done st => (finishS P rs n st).bind fun p => .ret (.fin p.1 p.2)
  | .cut k st => .ret (.cut k st)
noncomputable def symF (cfg : Cfg cod) (cuts : Cuts) (rs : List ResultVar) (n g : Nat) (k : List Item) (st : St cod) : T (Fin cod) :=
  sym cfg cuts n (endS cfg.P rs n) g k st
def Aft (P : Program) (b0 : Base) (Q : St cod → Prop) (r : SV) (news : Heap cod) : Fin cod → Prop
  | .fin r' news' => r' = r ∧ news' = news
  | .cut k st => Runs P b0 k st Q
/-- What a function's run must come to: this result and these new objects. -/
def Ends (P : Program) (fn : Func) (n : Nat) (r : SV) (news : Heap cod) : St cod → Prop := fun st => (finishS P fn.results.toList n st).gives (r, news)
theorem Runs.of_symF {cfg : Cfg cod} (hS : CfgFit cfg) (hm : cfg.P.follows .mixedOrders = true) {cuts : Cuts} {b0 : Base} {fn : Func} {r : SV} {news : Heap cod} (g : Nat) {k : List Item} {st : St cod} {t : T (Fin cod)}
    (ht : symF cfg cuts fn.results.toList b0.n g k st = t) (h : t.wp (Aft cfg.P b0 (Ends cfg.P fn b0.n r news) r news)) : Runs cfg.P b0 k st (Ends cfg.P fn b0.n r news) := by
  subst ht
  obtain ⟨p, h1, h2⟩ := T.wp_gives h
  refine sym_sound hS hm (p := p) (fun q hq => ?_) g k st h1
  cases q with
  | cut k' st' =>
    have : Fin.cut k' st' = p := hq
    subst this
    exact h2
  | done st' =>
    obtain ⟨x, h3, h4⟩ := T.gives_bind.1 (show ((finishS cfg.P fn.results.toList b0.n st').bind fun x => .ret (.fin x.1 x.2)).gives p from hq)
    have h5 : Fin.fin x.1 x.2 = p := h4
    subst h5
    obtain ⟨e1, e2⟩ : x.1 = r ∧ x.2 = news := h2
    have : x = (r, news) := by rw [← e1, ← e2]
    rw [this] at h3
    exact h3
def argsS (fn : Func) (args : List SV) : List SV := args ++ List.replicate (fn.ntmps - args.length) undefS
/-- A function without a loop: its run is its summary. -/
def autoEnd (P : Program) (rs : List ResultVar) (n : Nat) : Pause cod → T (SV × Heap cod)
  | .done st => finishS P rs n st
  | .cut _ _ => .fail
noncomputable def autoS (cfg : Cfg cod) (fn : Func) (g : Nat) : Summ cod := fun args H => sym cfg [] H.length (autoEnd cfg.P fn.results.toList H.length) g [.code (codeOf fn)] ⟨argsS fn args, H⟩
theorem auto_sound {cfg : Cfg cod} (hS : CfgFit cfg) (hm : cfg.P.follows .mixedOrders = true) {f : FuncId} {fn : Func} (hf : cfg.P.funcs[f]? = some fn) (hb : fn.body.isSome = true) (hname : (fn.name == "runtime.NumGoroutine") = false) (g : Nat) :
    Sound cfg.P cod f (autoS cfg fn g) := by
  obtain ⟨code, hcode⟩ := Option.isSome_iff_exists.1 hb
  have hcd : codeOf fn = code := by simp [codeOf, hcode]
  refine fn_sound hf hcode hname _ fun args H r news hro hg b0 hn => ?_
  unfold autoS at hg
  rw [hcd, ← hn] at hg
  rw [← hn]
  refine sym_sound hS hm (p := (r, news)) (fun q hq => ?_) g _ _ hg
  cases q with
  | cut k st => exact (show False from hq).elim
  | done st => exact hq
/-- The same for a function that may write to what it is handed. -/
def autoEndI (P : Program) (rs : List ResultVar) (H : Heap cod) : Pause cod → T (SV × Heap cod)
  | .done st => finishG P rs H.length (rootsOf H) st
  | .cut _ _ => .fail
noncomputable def autoSI (cfg : Cfg cod) (fn : Func) (g : Nat) : Summ cod := fun args H => sym cfg [] H.length (autoEndI cfg.P fn.results.toList H) g [.code (codeOf fn)] ⟨argsS fn args, H⟩
theorem autoI_sound {cfg : Cfg cod} (hS : CfgFit cfg) (hm : cfg.P.follows .mixedOrders = true) {f : FuncId} {fn : Func} (hf : cfg.P.funcs[f]? = some fn) (hb : fn.body.isSome = true) (hname : (fn.name == "runtime.NumGoroutine") = false) (g : Nat) :
    SoundI cfg.P cod f (autoSI cfg fn g) := by
  obtain ⟨code, hcode⟩ := Option.isSome_iff_exists.1 hb
  have hcd : codeOf fn = code := by simp [codeOf, hcode]
  refine fn_soundI hf hcode hname _ fun args H r H' hg b0 hn => ?_
  unfold autoSI at hg
  rw [hcd, ← hn] at hg
  refine sym_sound hS hm (p := (r, H')) (fun q hq => ?_) g _ _ hg
  cases q with
  | cut k st => exact (show False from hq).elim
  | done st => exact hq
/-- A function by its run: the tree's conditions give the summary's answer. -/
theorem tree_sound {cfg : Cfg cod} {f : FuncId} {fn : Func} (hf : cfg.P.funcs[f]? = some fn) (hb : fn.body.isSome = true) (hname : (fn.name == "runtime.NumGoroutine") = false) (s : Summ cod)
    (h : ∀ (args : List SV) (H : Heap cod) (r : SV) (news : Heap cod), (s args H).gives (r, news) → ∀ b0 : Base, b0.n = H.length → Runs cfg.P b0 [.code (codeOf fn)] ⟨argsS fn args, H⟩ (Ends cfg.P fn b0.n r news)) : Sound cfg.P cod f s := by
  obtain ⟨code, hcode⟩ := Option.isSome_iff_exists.1 hb
  have hcd : codeOf fn = code := by simp [codeOf, hcode]
  refine fn_sound hf hcode hname _ fun args H r news hro hg b0 hn => ?_
  have := h args H r news hg b0 hn
  rw [hcd, hn] at this
  exact this
/-! ### the same for functions that write to what they are handed -/
def endI (P : Program) (rs : List ResultVar) (H : Heap cod) : Pause cod → T (Fin cod)
  | .done st => (finishG P rs H.length (rootsOf H) st).bind fun p => .ret (.fin p.1 p.2)
  | .cut k st => .ret (.cut k st)
noncomputable def symI (cfg : Cfg cod) (cuts : Cuts) (rs : List ResultVar) (H : Heap cod) (g : Nat) (k : List Item) (st : St cod) : T (Fin cod) :=
  sym cfg cuts H.length (endI cfg.P rs H) g k st
def EndsI (P : Program) (fn : Func) (H : Heap cod) (r : SV) (H' : Heap cod) : St cod → Prop := fun st => (finishG P fn.results.toList H.length (rootsOf H) st).gives (r, H')
theorem Runs.of_symI {cfg : Cfg cod} (hS : CfgFit cfg) (hm : cfg.P.follows .mixedOrders = true) {cuts : Cuts} {b0 : Base} {fn : Func} {H : Heap cod} {r : SV} {H' : Heap cod} (hn : b0.n = H.length) (g : Nat) {k : List Item} {st : St cod} {t : T (Fin cod)}
    (ht : symI cfg cuts fn.results.toList H g k st = t) (h : t.wp (Aft cfg.P b0 (EndsI cfg.P fn H r H') r H')) : Runs cfg.P b0 k st (EndsI cfg.P fn H r H') := by
  subst ht
  obtain ⟨p, h1, h2⟩ := T.wp_gives h
  unfold symI at h1
  rw [← hn] at h1
  refine sym_sound hS hm (p := p) (fun q hq => ?_) g k st h1
  cases q with
  | cut k' st' =>
    have : Fin.cut k' st' = p := hq
    subst this
    exact h2
  | done st' =>
    obtain ⟨x, h3, h4⟩ := T.gives_bind.1 (show ((finishG cfg.P fn.results.toList H.length (rootsOf H) st').bind fun x => .ret (.fin x.1 x.2)).gives p from hq)
    have h5 : Fin.fin x.1 x.2 = p := h4
    subst h5
    obtain ⟨e1, e2⟩ : x.1 = r ∧ x.2 = H' := h2
    have : x = (r, H') := by rw [← e1, ← e2]
    rw [this] at h3
    exact h3
theorem tree_soundI {cfg : Cfg cod} {f : FuncId} {fn : Func} (hf : cfg.P.funcs[f]? = some fn) (hb : fn.body.isSome = true) (hname : (fn.name == "runtime.NumGoroutine") = false) (s : Summ cod)
    (h : ∀ (args : List SV) (H : Heap cod) (r : SV) (H' : Heap cod), (s args H).gives (r, H') → ∀ b0 : Base, b0.n = H.length → Runs cfg.P b0 [.code (codeOf fn)] ⟨argsS fn args, H⟩ (EndsI cfg.P fn H r H')) : SoundI cfg.P cod f s := by
  obtain ⟨code, hcode⟩ := Option.isSome_iff_exists.1 hb
  have hcd : codeOf fn = code := by simp [codeOf, hcode]
  refine fn_soundI hf hcode hname _ fun args H r H' hg b0 hn => ?_
  have := h args H r H' hg b0 hn
  rw [hcd] at this
  exact this
end
end Go.Proofs.YtoflfgcdagoobaaDoor.Sym
