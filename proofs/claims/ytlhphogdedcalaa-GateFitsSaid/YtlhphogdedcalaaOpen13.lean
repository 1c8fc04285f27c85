/- Thirteen ints by value. -/
import Derived.Test.YtlhphogdedcalaaOpen
namespace Go.Proofs.Ytlhphogdedcalaa
open Go.ChangeShapes Go.WideShapes Go.ChangeAt Go.RowKit
variable {H : Type} {enc : TypeId × Value → H} {P : Program} {w : World} {base : Nat} {spare : Nat → Bool} {held : Bool}
theorem ints13 {t : TypeId} {cs : List Value} (ht : P.underlying t = some (.int .i64)) (h : LeavesOk enc P w base spare held [t, t, t, t, t, t, t, t, t, t, t, t, t] cs) : ∃ e0 e1 e2 e3 e4 e5 e6 e7 e8 e9 e10 e11 e12 : Int, cs = [.int .i64 e0, .int .i64 e1, .int .i64 e2, .int .i64 e3, .int .i64 e4, .int .i64 e5, .int .i64 e6, .int .i64 e7, .int .i64 e8, .int .i64 e9, .int .i64 e10, .int .i64 e11, .int .i64 e12] := by
  obtain ⟨hl, h⟩ := h
  match cs, hl with
  | [c0, c1, c2, c3, c4, c5, c6, c7, c8, c9, c10, c11, c12], _ =>
    obtain ⟨v, f, y, hv, hy⟩ := h 0 t rfl
    obtain ⟨n0, q, _, _⟩ := DataW.trod_int ht hy
    simp at hv q
    subst hv
    subst q
    obtain ⟨v, f, y, hv, hy⟩ := h 1 t rfl
    obtain ⟨n1, q, _, _⟩ := DataW.trod_int ht hy
    simp at hv q
    subst hv
    subst q
    obtain ⟨v, f, y, hv, hy⟩ := h 2 t rfl
    obtain ⟨n2, q, _, _⟩ := DataW.trod_int ht hy
    simp at hv q
    subst hv
    subst q
    obtain ⟨v, f, y, hv, hy⟩ := h 3 t rfl
    obtain ⟨n3, q, _, _⟩ := DataW.trod_int ht hy
    simp at hv q
    subst hv
    subst q
    obtain ⟨v, f, y, hv, hy⟩ := h 4 t rfl
    obtain ⟨n4, q, _, _⟩ := DataW.trod_int ht hy
    simp at hv q
    subst hv
    subst q
    obtain ⟨v, f, y, hv, hy⟩ := h 5 t rfl
    obtain ⟨n5, q, _, _⟩ := DataW.trod_int ht hy
    simp at hv q
    subst hv
    subst q
    obtain ⟨v, f, y, hv, hy⟩ := h 6 t rfl
    obtain ⟨n6, q, _, _⟩ := DataW.trod_int ht hy
    simp at hv q
    subst hv
    subst q
    obtain ⟨v, f, y, hv, hy⟩ := h 7 t rfl
    obtain ⟨n7, q, _, _⟩ := DataW.trod_int ht hy
    simp at hv q
    subst hv
    subst q
    obtain ⟨v, f, y, hv, hy⟩ := h 8 t rfl
    obtain ⟨n8, q, _, _⟩ := DataW.trod_int ht hy
    simp at hv q
    subst hv
    subst q
    obtain ⟨v, f, y, hv, hy⟩ := h 9 t rfl
    obtain ⟨n9, q, _, _⟩ := DataW.trod_int ht hy
    simp at hv q
    subst hv
    subst q
    obtain ⟨v, f, y, hv, hy⟩ := h 10 t rfl
    obtain ⟨n10, q, _, _⟩ := DataW.trod_int ht hy
    simp at hv q
    subst hv
    subst q
    obtain ⟨v, f, y, hv, hy⟩ := h 11 t rfl
    obtain ⟨n11, q, _, _⟩ := DataW.trod_int ht hy
    simp at hv q
    subst hv
    subst q
    obtain ⟨v, f, y, hv, hy⟩ := h 12 t rfl
    obtain ⟨n12, q, _, _⟩ := DataW.trod_int ht hy
    simp at hv q
    subst hv
    subst q
    exact ⟨n0, n1, n2, n3, n4, n5, n6, n7, n8, n9, n10, n11, n12, rfl⟩
end Go.Proofs.Ytlhphogdedcalaa
