/- slices.Sort at strings, out of the library's contract. -/
import Derived.Test.YtffcfbamcaoidaaGa
import Derived.Test.YtffcfbamcaoidaaSym26
import Derived.Test.YtffcfbamcaoidaaShP
namespace Go.Proofs.Ytffcfbamcaoidaa
open Sym Go.RowKit Go.Sort
theorem vals5 : ∀ l : List (List UInt8), vals (cod 5) l = l.map encStr
  | [] => rfl
  | a :: l => congrArg (encStr a :: ·) (vals5 l)
noncomputable def F.sortS (l : List (List UInt8)) : List (List UInt8) := l.mergeSort fun x y => decide (x ≤ y)
theorem sortS_len (l : List (List UInt8)) : (F.sortS l).length = l.length := List.length_mergeSort l
theorem sortS_call (b cap : Nat) (l : List (List UInt8)) (w : World) (hm : l.length ≤ 1000000) (hr : RowAt w b (vals (cod 5) l)) :
    Calls Try.prog 97 (Value.slice (.some ⟨b, 0, Option.none⟩) l.length cap :: fnVals []).toArray w fun e w' => e = .returned (.tuple #[]) ∧ ∃ (n : Nat) (os : Array Obj) (D : Array (List UInt8)), D.toList.map encStr = vals (cod 5) (F.sortS l) ∧ w' = grow (putRow encStr (Sort.ahead w n) b 0 D) os := by
  have hr' : RowAt w b (l.toArray.toList.map encStr) := by rw [vals5 l] at hr; exact hr
  refine (AnyM.slices_Sort_string laysSortS b 0 cap l w hr'.holds hr.lt (by omega)).mono ?_
  rintro e w' ⟨rfl, n, os, rfl⟩
  exact ⟨rfl, n, os, (F.sortS l).toArray, (vals5 (F.sortS l)).symm, rfl⟩
theorem sortS_perms : Perms Try.prog cod 97 5 [] F.sortS (List UInt8) encStr where
  enters := enters_fn Try.func97 rfl rfl
  len := sortS_len
  none := fun p cap w => AnyM.slices_Sort_string_none laysSortS p cap w
  some := fun b cap l w _ hm hr => sortS_call b cap l w hm hr
noncomputable def s_msort : Summ cod := s_perm 5 [] F.sortS
theorem msort_sound : SoundIK Try.prog cod 97 true s_msort := perm_sound sortS_perms
end Go.Proofs.Ytffcfbamcaoidaa
