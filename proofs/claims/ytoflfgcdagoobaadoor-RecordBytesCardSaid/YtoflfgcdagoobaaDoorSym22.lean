/- Loops: an induction for the run at a loop's head, and lists by their parts. -/
import Derived.Test.YtoflfgcdagoobaaDoorSym20
namespace Go.Proofs.YtoflfgcdagoobaaDoor.Sym
open Go.RowKit

section
variable {cod : Nat → Codec} {P : Program}
/-- The run goes on from a cut; the number of objects that the call was given written out. -/
theorem Runs.go {cfg : Cfg cod} (hS : CfgFit cfg) (hm : cfg.P.follows .mixedOrders = true) (cuts : Cuts) {b0 : Base} {fn : Func} {r : SV} {news : Heap cod} (g : Nat) {N : Nat} (hb : b0.n = N) {k : List Item} {st : St cod} {t : T (Fin cod)}
    (ht : symF cfg cuts fn.results.toList N g k st = t) (h : t.wp (Aft cfg.P b0 (Ends cfg.P fn N r news) r news)) : Runs cfg.P b0 k st (Ends cfg.P fn N r news) := by
  subst hb
  exact Runs.of_symF hS hm g ht h
/-- A summary by runs from the function's beginning, where its summary answers. -/
theorem sound_runs {cfg : Cfg cod} (hS : CfgFit cfg) (hm : cfg.P.follows .mixedOrders = true) {f : FuncId} {fn : Func} (hf : cfg.P.funcs[f]? = some fn) (hb : fn.body.isSome = true) (hname : (fn.name == "runtime.NumGoroutine") = false) (s : Summ cod)
    (h : ∀ (args : List SV) (H : Heap cod) (r : SV) (news : Heap cod), (s args H).gives (r, news) → ∀ b0 : Base, b0.n = H.length → Runs cfg.P b0 [.code (codeOf fn)] ⟨argsS fn args, H⟩ (Ends cfg.P fn H.length r news)) : Sound cfg.P cod f s :=
  tree_sound hf hb hname s fun args H r news hg b0 hn => by
    have := h args H r news hg b0 hn
    rw [← hn] at this
    exact this

theorem Runs.goI {cfg : Cfg cod} (hS : CfgFit cfg) (hm : cfg.P.follows .mixedOrders = true) (cuts : Cuts) {b0 : Base} {fn : Func} {r : SV} {H' : Heap cod} (g : Nat) {H : Heap cod} (hb : b0.n = H.length) {k : List Item} {st : St cod} {t : T (Fin cod)}
    (ht : symI cfg cuts fn.results.toList H g k st = t) (h : t.wp (Aft cfg.P b0 (EndsI cfg.P fn H r H') r H')) : Runs cfg.P b0 k st (EndsI cfg.P fn H r H') := Runs.of_symI hS hm hb g ht h

/-- A row that is only read, of kind t. -/
def HObj.asInp (t : Nat) : HObj cod → Option (List (cod t).α)
  | .inp u l => if h : u = t then some (h ▸ l) else none
  | _ => none
theorem asInp_spec {t : Nat} {o : HObj cod} {l : List (cod t).α} (h : o.asInp t = some l) : o = .inp t l := by
  cases o <;> simp only [HObj.asInp] at h <;> try cases h
  rename_i u l'
  split at h
  · rename_i e
    subst e
    cases h
    rfl
  · cases h

/-- A row of rows that is only read, of kind t. -/
def HObj.asNin (t : Nat) : HObj cod → Option (List (List (cod t).α))
  | .nin u LL none => if h : u = t then some (h ▸ LL) else none
  | _ => none
theorem asNin_spec {t : Nat} {o : HObj cod} {LL : List (List (cod t).α)} (h : o.asNin t = some LL) : o = .nin t LL none := by
  cases o <;> simp only [HObj.asNin] at h <;> try cases h
  rename_i u l' op
  cases op with
  | some p => cases h
  | none =>
    simp only [HObj.asNin] at h
    split at h
    · rename_i e
      subst e
      cases h
      rfl
    · cases h
theorem drop_at {α : Type} (l : List α) (d : α) {i : Int} (h0 : 0 ≤ i) (h1 : i < l.length) : l.drop i.toNat = l.getD i.toNat d :: l.drop (i + 1).toNat := by
  have h2 : i.toNat < l.length := by omega
  have h3 : (i + 1).toNat = i.toNat + 1 := by omega
  rw [h3, List.drop_eq_getElem_cons h2]
  simp [List.getD, List.getElem?_eq_getElem h2]
theorem drop_end {α : Type} (l : List α) {i : Int} (h : ¬ i < l.length) : l.drop i.toNat = [] := List.drop_of_length_le (by omega)
theorem take_at {α : Type} (l : List α) (d : α) {i : Int} (h0 : 0 ≤ i) (h1 : i < l.length) : l.take (i + 1).toNat = l.take i.toNat ++ [l.getD i.toNat d] := by
  have h2 : i.toNat < l.length := by omega
  have h3 : (i + 1).toNat = i.toNat + 1 := by omega
  rw [h3, List.take_add_one, List.getElem?_eq_getElem h2]
  simp [List.getD, List.getElem?_eq_getElem h2]
end
end Go.Proofs.YtoflfgcdagoobaaDoor.Sym
