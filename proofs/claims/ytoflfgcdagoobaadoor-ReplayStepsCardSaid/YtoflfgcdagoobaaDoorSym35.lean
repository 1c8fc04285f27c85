/- Rows that the call owns, told by kind and type; small helpers for writing summaries. -/
import Derived.Test.YtoflfgcdagoobaaDoorBd23
namespace Go.Proofs.YtoflfgcdagoobaaDoor.Sym
open Go.RowKit

section
variable {cod : Nat → Codec} {P : Program}
/-- A row of kind t that the call owns. -/
def HObj.asOwn (t : Nat) (ty : TypeId) : HObj cod → Option (List (cod t).α)
  | .own u l ty' => if h : u = t then (if ty' = ty then some (h ▸ l) else none) else none
  | _ => none
theorem asOwn_spec {t : Nat} {ty : TypeId} {o : HObj cod} {l : List (cod t).α} (h : o.asOwn t ty = some l) : o = .own t l ty := by
  unfold HObj.asOwn at h
  split at h
  · split at h
    · rename_i e
      subst e
      split at h
      · rename_i e
        subst e
        cases h
        rfl
      · cases h
    · cases h
  · cases h
/-- A row of kind t in an array. -/
def HObj.asArr (t : Nat) (ty : TypeId) : HObj cod → Option (List (cod t).α)
  | .arr u l ty' => if h : u = t then (if ty' = ty then some (h ▸ l) else none) else none
  | _ => none
theorem asArr_spec {t : Nat} {ty : TypeId} {o : HObj cod} {l : List (cod t).α} (h : o.asArr t ty = some l) : o = .arr t l ty := by
  unfold HObj.asArr at h
  split at h
  · split at h
    · rename_i e
      subst e
      split at h
      · rename_i e
        subst e
        cases h
        rfl
      · cases h
    · cases h
  · cases h
/-- One function, two summaries, by what its arguments look like. -/
def s_by (p : List SV → Bool) (s1 s2 : Summ cod) : Summ cod := fun args H => cond (p args) (s1 args H) (s2 args H)
theorem Sound.by_ {g : FuncId} (p : List SV → Bool) {s1 s2 : Summ cod} (h1 : Sound P cod g s1) (h2 : Sound P cod g s2) : Sound P cod g (s_by p s1 s2) := by
  refine ⟨h1.enters, fun args H env w vs r news hro G ha hg => ?_⟩
  unfold s_by at hg
  cases hc : p args with
  | true => rw [hc] at hg; exact h1.calls args H env w vs r news hro G ha hg
  | false => rw [hc] at hg; exact h2.calls args H env w vs r news hro G ha hg
theorem SoundI.by_ {g : FuncId} (p : List SV → Bool) {s1 s2 : Summ cod} (h1 : SoundI P cod g s1) (h2 : SoundI P cod g s2) : SoundI P cod g (s_by p s1 s2) := by
  refine ⟨h1.enters, fun args H env w vs r H' G ha hg => ?_⟩
  unfold s_by at hg
  cases hc : p args with
  | true => rw [hc] at hg; exact h1.calls args H env w vs r H' G ha hg
  | false => rw [hc] at hg; exact h2.calls args H env w vs r H' G ha hg
/-- The first argument is a row that the call owns. -/
def ownFirst : List SV → Bool
  | .c (.own _ _) :: _ => true
  | _ => false
end
end Go.Proofs.YtoflfgcdagoobaaDoor.Sym
