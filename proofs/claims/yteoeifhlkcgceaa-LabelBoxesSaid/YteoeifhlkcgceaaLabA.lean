/- Part of a claim: lemmas on the way to its theorem; each states its own conditions. -/
import Derived.Test.YteoeifhlkcgceaaIn4
namespace Go.Proofs.Yteoeifhlkcgceaa
open Go.ChangeShapes Go.WideShapes Go.ChangeAt Go.RowKit

structure Item where
  x : Int
  y : Int
  w : Int
  h : Int
def Item.cells (a : Item) : List Value := [.int .i64 a.x, .int .i64 a.y, .int .i64 a.w, .int .i64 a.h]
theorem Item.cells_length (a : Item) : a.cells.length = 4 := rfl
def i64ok (n : Int) : Prop := -9223372036854775808 ≤ n ∧ n ≤ 9223372036854775807
def Item.fits (a : Item) : Prop := i64ok a.x ∧ i64ok a.y ∧ i64ok a.w ∧ i64ok a.h
def Item.ok (a : Item) : Bool := decide (-1000 ≤ a.x) && decide (a.x ≤ 1000) && decide (-1000 ≤ a.y) && decide (a.y ≤ 1000) && decide (1 ≤ a.w) && decide (a.w ≤ 40) && decide (1 ≤ a.h) && decide (a.h ≤ 40)
def chk (l : List Item) : Int := if 32 < l.length then 2 else if l.all Item.ok then 0 else 4

theorem cls (x : Int) (h : i64ok x) : (1000 < x ∧ (x == -9223372036854775808) = false) ∨ (x < -1000 ∧ -9223372036854775807 ≤ x ∧ (x == -9223372036854775808) = false) ∨
    (x ≤ -9223372036854775808 ∧ (x == -9223372036854775808) = true ∧ wrap64 (-x) = x) ∨ (-1000 ≤ x ∧ x ≤ 1000 ∧ (x == -9223372036854775808) = false) := by
  obtain ⟨h0, h1⟩ := h
  by_cases hm : x = -9223372036854775808
  · subst hm; exact .inr (.inr (.inl ⟨by omega, by decide, by simp [wrap64]⟩))
  · have hf : (x == -9223372036854775808) = false := by simp; omega
    simp only [hf]
    simp
    omega
/-- Which bound of a label is broken first, with what decides the tests on the way there. -/
theorem cls_all (a : Item) (h : a.fits) (hok : ¬ a.ok = true) :
    (1000 < a.x ∧ (a.x == -9223372036854775808) = false) ∨ (a.x < -1000 ∧ -9223372036854775807 ≤ a.x ∧ (a.x == -9223372036854775808) = false) ∨
    ((a.x ≤ -9223372036854775808 ∧ (a.x == -9223372036854775808) = true ∧ wrap64 (-a.x) = a.x) ∧ ((1000 < a.y ∧ (a.y == -9223372036854775808) = false) ∨ (a.y < -1000 ∧ -9223372036854775807 ≤ a.y ∧ (a.y == -9223372036854775808) = false) ∨
      (a.y ≤ -9223372036854775808 ∧ (a.y == -9223372036854775808) = true ∧ wrap64 (-a.y) = a.y) ∨ (-1000 ≤ a.y ∧ a.y ≤ 1000 ∧ (a.y == -9223372036854775808) = false))) ∨
    ((-1000 ≤ a.x ∧ a.x ≤ 1000 ∧ (a.x == -9223372036854775808) = false) ∧ ((1000 < a.y ∧ (a.y == -9223372036854775808) = false) ∨ (a.y < -1000 ∧ -9223372036854775807 ≤ a.y ∧ (a.y == -9223372036854775808) = false) ∨
      (a.y ≤ -9223372036854775808 ∧ (a.y == -9223372036854775808) = true ∧ wrap64 (-a.y) = a.y) ∨
      ((-1000 ≤ a.y ∧ a.y ≤ 1000 ∧ (a.y == -9223372036854775808) = false) ∧ (a.w < 1 ∨ (1 ≤ a.w ∧ 40 < a.w) ∨ (1 ≤ a.w ∧ a.w ≤ 40 ∧ a.h < 1) ∨ (1 ≤ a.w ∧ a.w ≤ 40 ∧ 1 ≤ a.h ∧ 40 < a.h))))) := by
  obtain ⟨h1, h2, h3, h4⟩ := h
  simp only [Item.ok, Bool.and_eq_true, decide_eq_true_eq] at hok
  rcases cls a.x h1 with c | c | c | c
  · exact .inl c
  · exact .inr (.inl c)
  · exact .inr (.inr (.inl ⟨c, cls a.y h2⟩))
  · refine .inr (.inr (.inr ⟨c, ?_⟩))
    rcases cls a.y h2 with d | d | d | d
    · exact .inl d
    · exact .inr (.inl d)
    · exact .inr (.inr (.inl d))
    · exact .inr (.inr (.inr ⟨d, by omega⟩))

set_option maxRecDepth 100000 in
set_option maxHeartbeats 2000000 in
theorem check_any (A : Option Addr) (n c : Nat) (l : List Item) (w : World) (hr : Reads w w.heap.size 4 A n (l.flatMap Item.cells)) (hl : l.length = n) (hn : n ≤ 9223372036854775807) (hf : ∀ a ∈ l, a.fits) :
    Calls Try.prog 8 #[.slice A n c] w fun e w' => e = .returned (.int .i64 (chk l)) ∧ Below w.heap.size w w' := by
  have Hl := Lib.hid hl
  have Hf := Lib.hid hf
  clear hl hf
  by_cases hbig : 32 < n
  · go_enter Try.func8, Try.ntmps8
    have Hchk : Hid (chk l = 2) := Lib.hid (by rw [chk, if_pos (by rw [Hl.out]; exact hbig)])
    go_wp2
    go_ret
    exact ⟨by rw [Hchk.out]; rfl, Below.refl _ _⟩
  · go_enter Try.func8, Try.ntmps8
    go_wp2
    go_loopw [10] (fun i wr => ∃ k : Nat, k ≤ n ∧ i = .int .i64 k ∧ (l.take k).all Item.ok = true ∧ Below w.heap.size w wr) (fun i _ => n - (intOf i).toNat)
    case atStart => exact ⟨0, by omega, rfl, rfl, Below.refl _ _⟩
    case round =>
      obtain ⟨k, hk, rfl, hall, hbel⟩ := hrel
      have Hall := Lib.hid hall
      clear hall
      by_cases hlt : k < n
      · obtain ⟨b, off, rfl, hb⟩ := hr.addr (by omega)
        have hkl : k < l.length := by rw [Hl.out]; exact hlt
        obtain ⟨a, ha⟩ : ∃ a, l[k]? = some a := ⟨_, List.getElem?_eq_getElem hkl⟩
        have hc := ((hr.below hbel).elem Item.cells_length rfl ha hlt (by omega)).2
        have hc0 : wr.cell? ⟨b, off + k * 4, none⟩ = some (.int .i64 a.x) := hc 0 _ rfl
        have hc1 := hc 1 _ rfl
        have hc2 := hc 2 _ rfl
        have hc3 := hc 3 _ rfl
        have Hfa := Lib.hid (Hf.out a (List.mem_of_getElem? ha))
        have Ha := Lib.hid ha
        clear ha hc
        have hbb := hbel.size
        obtain ⟨⟨fx0, fx1⟩, ⟨fy0, fy1⟩, ⟨fw0, fw1⟩, fh0, fh1⟩ := Hfa.out
        by_cases hok : a.ok = true
        · have Hsn : Hid ((l.take (k + 1)).all Item.ok = true) := Lib.hid (by
            rw [List.take_succ_eq_append_getElem hkl, List.all_append, Hall.out]
            have : l[k] = a := by have := Ha.out; rw [List.getElem?_eq_getElem hkl] at this; exact Option.some.inj this
            simp [this, hok])
          simp only [Item.ok, Bool.and_eq_true, decide_eq_true_eq] at hok
          obtain ⟨⟨⟨⟨⟨⟨⟨x0, x1⟩, y0⟩, y1⟩, w0⟩, w1⟩, h0⟩, h1⟩ := hok
          have mx : (a.x == -9223372036854775808) = false := by simp; omega
          have my : (a.y == -9223372036854775808) = false := by simp; omega
          go_wp2
          all_goals
            go_roundw
            case rel => exact ⟨k + 1, by omega, by go_num, Hsn.out, by go_grown⟩
            case measure => simp [intOf]; omega
        · have Hchk : Hid (chk l = 4) := Lib.hid (by
            rw [chk, if_neg (by rw [Hl.out]; exact hbig), if_neg (by rw [List.all_eq_true]; exact fun h => hok (h a (List.mem_of_getElem? Ha.out)))])
          have Hok := Lib.hid hok
          clear hok
          have hcls := cls_all a Hfa.out Hok.out
          rcases hcls with ⟨c1, mx⟩ | ⟨c1, c2, mx⟩ | ⟨⟨c1, mx, mw⟩, ⟨d1, my⟩ | ⟨d1, d2, my⟩ | ⟨d1, my, mw'⟩ | ⟨d1, d2, my⟩⟩ | ⟨⟨c1, c2, mx⟩, ⟨d1, my⟩ | ⟨d1, d2, my⟩ | ⟨d1, my, mw'⟩ | ⟨⟨d1, d2, my⟩, e1 | ⟨e0, e1⟩ | ⟨e0, e1, e2⟩ | ⟨e0, e1, e2, e3⟩⟩⟩
          all_goals
            clear Hf Hall hr hkl Hfa Ha fx0 fy0 fw0 fw1 fh0 fh1 Hok hn Hl
            go_wp2
            all_goals
              go_returns
              exact ⟨by rw [Hchk.out]; rfl, by go_grown⟩
      · have hkn : k = n := by omega
        have Hchk : Hid (chk l = 0) := Lib.hid (by
          have := Hall.out
          rw [hkn, List.take_of_length_le (by rw [Hl.out]; omega)] at this
          rw [chk, if_neg (by rw [Hl.out]; exact hbig), if_pos this])
        clear hkn
        go_wp2
        go_ret
        exact ⟨by rw [Hchk.out]; rfl, hbel⟩
end Go.Proofs.Yteoeifhlkcgceaa
