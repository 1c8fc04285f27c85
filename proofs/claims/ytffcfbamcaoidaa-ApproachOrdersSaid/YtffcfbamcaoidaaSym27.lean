/- One function, two summaries: one where an argument is nil, another elsewhere. -/
import Derived.Test.YtffcfbamcaoidaaSym20
namespace Go.Proofs.Ytffcfbamcaoidaa.Sym
open Go.RowKit

section
variable {cod : Nat → Codec} {P : Program}
def hasNil (args : List SV) : Bool := args.any fun x => match x with
  | .c .nil => true
  | _ => false
def s_or (s1 s2 : Summ cod) : Summ cod := fun args H => cond (hasNil args) (s1 args H) (s2 args H)
theorem Sound.or {g : FuncId} {s1 s2 : Summ cod} (h1 : Sound P cod g s1) (h2 : Sound P cod g s2) : Sound P cod g (s_or s1 s2) := by
  refine ⟨h1.enters, fun args H env w vs r news hro G ha hg => ?_⟩
  unfold s_or at hg
  cases hc : hasNil args with
  | true => rw [hc] at hg; exact h1.calls args H env w vs r news hro G ha hg
  | false => rw [hc] at hg; exact h2.calls args H env w vs r news hro G ha hg
end
end Go.Proofs.Ytffcfbamcaoidaa.Sym
