/- A function that gives scalars and makes nothing that counts, out of a contract of its own. -/
import Derived.Test.YtoflfgcdagoobaaDoorSym20
import Derived.Sort.Grow
import Derived.Deep.Draws
namespace Go.Proofs.YtoflfgcdagoobaaDoor.Sym
open Go.RowKit Go.Sort
theorem ite_yes {c : Prop} [Decidable c] {a b : Prop} (h : c) (ha : a) : if c then a else b := by rw [if_pos h]; exact ha
theorem ite_no {c : Prop} [Decidable c] {a b : Prop} (h : ¬ c) (hb : b) : if c then a else b := by rw [if_neg h]; exact hb

section
variable {cod : Nat → Codec} {P : Program}
theorem kin_grow {w : World} {k : Nat} {os : Array Obj} : Blw w (grow (w.drewN k) os) := by
  refine ⟨⟨rfl, rfl, rfl, by simp, fun i hi => ?_⟩, Nat.le_add_right _ _⟩
  exact heap_grow_old _ _ (by simpa using hi)
/-- The values of scalars. -/
def scalVals (vs : List SV) : List Value := vs.map fun
  | .c x => x.val
  | _ => .tuple #[]
def SV.scal : SV → Bool
  | .c x => x.scalar
  | _ => false
theorem scal_args {env : Env} {N : Nat} : ∀ {as : List SV} {vs : List Value}, as.all SV.scal = true → F2 (vrel env N) as vs → vs = scalVals as
  | [], _, _, h => by cases h; rfl
  | a :: as, _, hs, h => by
    cases h with
    | @cons _ v _ vs hx hxs =>
      simp only [List.all_cons, Bool.and_eq_true] at hs
      rw [scal_args hs.2 hxs]
      cases a with
      | c x =>
        rw [scalar_val hs.1 hx]
        rfl
      | agg cs => simp [SV.scal] at hs
      | tup l => simp [SV.scal] at hs
theorem Sound.scal {g : FuncId} {s : Summ cod} (en : ∀ args w, (callFunc g args).run P w = .ok (.enter g args) w)
    (h : ∀ (args : List SV) (H : Heap cod) (r : SV) (news : Heap cod) (w : World), TabW w (newIn w) → (s args H).gives (r, news) → args.all SV.scal = true ∧ news = [] ∧ ∃ v, (∀ env N, vrel env N r v) ∧ Calls P g (scalVals args).toArray w fun e w' => e = .returned v ∧ Blw w w') : Sound P cod g s := by
  refine ⟨en, fun args H env w vs r news hro G ha hg => ?_⟩
  obtain ⟨h1, rfl, v, h2, h3⟩ := h args H r news w G.tab hg
  rw [scal_args h1 ha]
  refine h3.mono ?_
  rintro e w' ⟨rfl, hb⟩
  exact ⟨v, env, rfl, EnvEq.refl _ _, h2 _ _, by simpa using G.below hb.below (Nat.le_refl _), hb⟩
end
end Go.Proofs.YtoflfgcdagoobaaDoor.Sym
