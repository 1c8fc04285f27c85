/- A law's slice argument, with what holds of each of its elements. -/
import Derived.Test.YtffcfbamcaoidaaSym23
namespace Go.Proofs.Ytffcfbamcaoidaa.Sym
open Go.ChangeShapes Go.WideShapes Go.ChangeAt Go.RowKit

section
variable {cod : Nat → Codec} {H : Type} {enc : TypeId × Value → H} {P : Program} {w : World}
theorem in_sliceQ (u : Nat) {t : TypeId} (e : TypeId) (Q : (cod u).α → Prop) {ks : List Nat} {v : Value} {x : DataW H} {p : List MemPlace} {r : Reach} {b0 : Nat} (ht : P.underlying t = some (.slice e)) (hl : leaves P 9 e = some (leavesD P e)) (hk : kindsT P (leavesD P e) = some ks) (hc : P.cellsOf e = (leavesD P e).length)
    (hz : (leavesD P e).length = (cod u).size) (hok : ∀ cells, F2 kcell ks cells → (cod u).ok cells = true ∧ Q ((cod u).dec cells))
    (hv : Value.okWide P w r b0 t v) (h : DataW.Trod enc P w 0 (fun _ => true) true t v x p) :
    ∃ (A : Option Addr) (c : Nat) (l : List (cod u).α), v = .slice A l.length c ∧ l.length ≤ c ∧ c ≤ maxLen ∧ Reads w w.heap.size (cod u).size A l.length (vals (cod u) l) ∧ ∀ a ∈ l, Q a := by
  have hf : ∀ a : (cod u).α, (((cod u).enc a).map Cell.val).length = (leavesD P e).length := fun a => by rw [List.length_map, (cod u).size_eq, hz]
  obtain ⟨A, n, c, l, h1, h2, h3, h4, h5, h6, _⟩ := open_slice_of (fun a => ((cod u).enc a).map Cell.val) Q 9 ht hl hc (by rw [hz]; exact (cod u).pos) hf (fun cs hcs => by
    obtain ⟨cells, g1, g2⟩ := leaves_any _ hcs hk
    exact ⟨(cod u).dec cells, by rw [(cod u).ok_spec _ (hok _ g1).1, g2], (hok _ g1).2⟩) hv h
  subst h4
  refine ⟨A, c, l, h1, h2, h3, ?_, h6⟩
  rw [hz] at h5
  unfold vals
  rw [List.map_flatMap]
  exact h5
end
end Go.Proofs.Ytffcfbamcaoidaa.Sym
