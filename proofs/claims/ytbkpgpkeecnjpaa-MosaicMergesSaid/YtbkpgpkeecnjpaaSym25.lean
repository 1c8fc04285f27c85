/- A law's argument that is a struct whose last part is a slice: its ints and the slice's elements. -/
import Derived.Test.YtbkpgpkeecnjpaaSym23
namespace Go.Proofs.Ytbkpgpkeecnjpaa.Sym
open Go.ChangeShapes Go.WideShapes Go.ChangeAt Go.RowKit

section
variable {cod : Nat → Codec} {H : Type} {enc : TypeId × Value → H} {P : Program} {w : World} {base : Nat} {spare : Nat → Bool} {held : Bool}
theorem open_slice_leaf {α : Type} (f : α → List Value) {t e : TypeId} {ls : List TypeId} (d : Nat) {v : Value} {fuel : Nat} {y : DataW H × List MemPlace} (ht : P.underlying t = some (.slice e)) (hl : leaves P d e = some ls) (hc : P.cellsOf e = ls.length) (hpos : 0 < ls.length)
    (hf : ∀ a, (f a).length = ls.length) (hmk : ∀ cs, LeavesOk enc P w 0 (fun _ => true) true ls cs → ∃ a, cs = f a)
    (hfu : DataW.trod enc P w 0 (fun _ => true) true fuel t [v] = some y) :
    ∃ (A : Option Addr) (n c : Nat) (l : List α), v = .slice A n c ∧ n ≤ c ∧ c ≤ maxLen ∧ l.length = n ∧ Reads w w.heap.size ls.length A n (l.flatMap f) := by
  rcases Deep.open_slice ht hfu with ⟨hcs, _⟩ | ⟨a, len, cap, m, k, D, Pl, hcs, _, hlc, hcm, hmm, _, hi⟩
  · simp at hcs
    subst hcs
    exact ⟨none, 0, 0, [], rfl, Nat.le_refl _, Nat.zero_le _, rfl, Reads.none_⟩
  · simp at hcs
    subst hcs
    simp only [if_true] at hmm
    subst hmm
    have each : ∀ i, i < len → ∃ b : α, ∀ j u, (f b)[j]? = some u → w.cell? (a.add (i * ls.length + j)) = some u := by
      intro i hil
      obtain ⟨cs', h1, h2⟩ := hi i (by omega)
      obtain ⟨_, h3, h4⟩ := World.cells?_some h1
      obtain ⟨b, rfl⟩ := hmk cs' (leaves_ok d e ls _ _ _ hl h2 (h3.trans rfl))
      refine ⟨b, fun j u hu => ?_⟩
      have hj : j < P.cellsOf e := by
        rcases Nat.lt_or_ge j (f b).length with h | h
        · rw [h3] at h; exact h
        · rw [List.getElem?_eq_none h] at hu; cases hu
      have := h4 j hj
      rw [add_of_add, hc] at this
      rw [this, hu]
    obtain ⟨l, hll, hlp⟩ := exists_list len _ each
    refine ⟨some a, _, _, l, rfl, hlc, hcm, hll, ⟨by rw [flat_length f ls.length hf, hll], fun hn => ?_⟩⟩
    obtain ⟨b, hb⟩ : ∃ b, l[0]? = some b := ⟨_, List.getElem?_eq_getElem (by omega)⟩
    obtain ⟨u, hu⟩ : ∃ u, (f b)[0]? = some u := ⟨_, List.getElem?_eq_getElem (by rw [hf]; exact hpos)⟩
    have hc0 := hlp 0 b hb 0 u hu
    obtain ⟨bb, off, spot⟩ := a
    have hspot : spot = none := by simpa [Addr.add] using World.cell?_spot hc0
    subst hspot
    refine ⟨bb, off, rfl, World.block_lt_of_cell? w _ (by simpa [Addr.add] using hc0), fun j u hu => ?_⟩
    have hjl : j < l.length * ls.length := by
      rcases Nat.lt_or_ge j (l.flatMap f).length with h | h
      · rwa [flat_length f ls.length hf] at h
      · rw [List.getElem?_eq_none h] at hu; cases hu
    have hdm := Nat.div_add_mod' j ls.length
    have hq : j / ls.length < l.length := Nat.div_lt_of_lt_mul (by rw [Nat.mul_comm]; exact hjl)
    have hb' : l[j / ls.length]? = some (l[j / ls.length]'hq) := List.getElem?_eq_getElem hq
    rw [← hdm, Go.Proofs.Ytbkpgpkeecnjpaa.flat_get f ls.length hf l _ _ _ hb' (Nat.mod_lt _ hpos)] at hu
    have := hlp _ _ hb' _ u hu
    rw [add_plain, hdm] at this
    exact this
theorem leaves_split {ls : List TypeId} {t : TypeId} {cs : List Value} (h : LeavesOk enc P w base spare held (ls ++ [t]) cs) : ∃ (cs0 : List Value) (v : Value), cs = cs0 ++ [v] ∧ LeavesOk enc P w base spare held ls cs0 ∧ ∃ (f : Nat) (y : DataW H × List MemPlace), DataW.trod enc P w base spare held f t [v] = some y := by
  obtain ⟨hl, h⟩ := h
  obtain ⟨v, f, y, hv, hy⟩ := h ls.length t (by simp)
  rw [List.length_append, List.length_singleton] at hl
  refine ⟨cs.take ls.length, v, ?_, ⟨by rw [List.length_take]; omega, fun i t' hi => ?_⟩, f, y, hy⟩
  · have h1 := List.take_append_drop ls.length cs
    have h2 : cs.drop ls.length = [v] := by
      rw [List.drop_eq_getElem_cons (by omega)]
      rw [List.getElem?_eq_getElem (by omega)] at hv
      rw [Option.some.inj hv, List.drop_of_length_le (by omega)]
    rw [h2] at h1
    exact h1.symm
  · have hi' : i < ls.length := by
      rcases Nat.lt_or_ge i ls.length with h | h
      · exact h
      · rw [List.getElem?_eq_none h] at hi; cases hi
    obtain ⟨v', f', y', hv', hy'⟩ := h i t' (by rw [List.getElem?_append_left hi']; exact hi)
    exact ⟨v', f', y', by rw [List.getElem?_take_of_lt hi']; exact hv', hy'⟩
/-- A struct by value: scalars, and a slice as its last part. -/
theorem in_val_slice (u : Nat) {t ts : TypeId} (e : TypeId) {ks0 ks : List Nat} {r : Reach} {b0 : Nat} {v : Value} {x : DataW H} {p : List MemPlace} (hl : leaves P 9 t = some ((leavesD P t).dropLast ++ [ts])) (hk : kindsT P (leavesD P t).dropLast = some ks0)
    (hs : (match P.underlying t with | some (.struct _) | some (.array _ _) => true | _ => false) = true)
    (ht : P.underlying ts = some (.slice e)) (hle : leaves P 9 e = some (leavesD P e)) (hke : kindsT P (leavesD P e) = some ks) (hc : P.cellsOf e = (leavesD P e).length)
    (hz : (leavesD P e).length = (cod u).size) (hok : ∀ cells, F2 kcell ks cells → (cod u).ok cells = true)
    (hv : Value.okWide P w r b0 t v) (h : DataW.Trod enc P w 0 (fun _ => true) true t v x p) :
    ∃ (cells : List Cell) (A : Option Addr) (c : Nat) (l : List (cod u).α), v = .agg (cells.map Cell.val ++ [Value.slice A l.length c]).toArray ∧ F2 kcell ks0 cells ∧ l.length ≤ c ∧ c ≤ maxLen ∧ Reads w w.heap.size (cod u).size A l.length (vals (cod u) l) := by
  obtain ⟨c0, rfl, k0⟩ := open_val 9 hl hs hv h
  obtain ⟨cs0, v1, rfl, k1, f, y, hy⟩ := leaves_split k0
  obtain ⟨cells, h1, rfl⟩ := leaves_any _ k1 hk
  have hf : ∀ a : (cod u).α, (((cod u).enc a).map Cell.val).length = (leavesD P e).length := fun a => by rw [List.length_map, (cod u).size_eq, hz]
  obtain ⟨A, n, c, l, rfl, g2, g3, g4, g5⟩ := open_slice_leaf (fun a => ((cod u).enc a).map Cell.val) 9 ht hle hc (by rw [hz]; exact (cod u).pos) hf (fun cs hcs => by
    obtain ⟨cells, g1, g2⟩ := leaves_any _ hcs hke
    exact ⟨(cod u).dec cells, by rw [(cod u).ok_spec _ (hok _ g1), g2]⟩) hy
  subst g4
  refine ⟨cells, A, c, l, rfl, h1, g2, g3, ?_⟩
  rw [hz] at g5
  unfold vals
  rw [List.map_flatMap]
  exact g5
theorem vrel_ints_slice {env : Env} {N : Nat} {cs : List Cell} {k n : Nat} {t : Bool} {x : Value} (h : cs.all Cell.scalar = true) (hx : vrel env N (.c (.slc k 0 n t)) x) : vrel env N (.agg (cs ++ [.slc k 0 n t])) (.agg (cs.map Cell.val ++ [x]).toArray) := by
  refine ⟨_, rfl, ?_⟩
  rw [List.toList_toArray]
  exact f2_append (scalars_rel h) (.cons hx .nil)
end
end Go.Proofs.Ytbkpgpkeecnjpaa.Sym
