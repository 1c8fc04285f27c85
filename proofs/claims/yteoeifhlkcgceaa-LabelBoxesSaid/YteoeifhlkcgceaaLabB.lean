/- Part of a claim: lemmas on the way to its theorem; each states its own conditions. -/
import Derived.Test.YteoeifhlkcgceaaLabA
namespace Go.Proofs.Yteoeifhlkcgceaa
open Go.ChangeShapes Go.WideShapes Go.ChangeAt Go.RowKit

set_option maxRecDepth 100000 in
set_option maxHeartbeats 2000000 in
theorem labelError_any (A : Option Addr) (n c : Nat) (l : List Item) (w : World) (hr : Reads w w.heap.size 4 A n (l.flatMap Item.cells)) (hl : l.length = n) (hn : n ≤ 9223372036854775807) :
    Calls Try.prog 7 #[.slice A n c] w fun e w' => e = .returned (.int .i64 (chk l)) ∧ Below w.heap.size w w' := by
  have Hl := Lib.hid hl
  clear hl
  by_cases hbig : 32 < n
  · go_enter Try.func7, Try.ntmps7
    have Hchk : Hid (chk l = 2) := Lib.hid (by rw [chk, if_pos (by rw [Hl.out]; exact hbig)])
    go_wp2
    go_ret
    exact ⟨by rw [Hchk.out]; rfl, Below.refl _ _⟩
  · go_enter Try.func7, Try.ntmps7
    go_wp2
    go_loopw [10] (fun i wr => ∃ k : Nat, k ≤ n ∧ i = .int .i64 k ∧ (l.take k).all Item.ok = true ∧ Below w.heap.size w wr) (fun i _ => n - (intOf i).toNat)
    case atStart => exact ⟨0, by omega, rfl, rfl, Below.refl _ _⟩
    case round =>
      obtain ⟨k, hk, rfl, hall, hbel⟩ := hrel
      have Hall := Lib.hid hall
      clear hall
      by_cases hlt : k < n
      · obtain ⟨b, off, rfl, hb⟩ := hr.addr (by omega)
        have hkl : k < l.length := by rw [Hl.out]; exact hlt
        obtain ⟨a, ha⟩ : ∃ a, l[k]? = some a := ⟨_, List.getElem?_eq_getElem hkl⟩
        have hc := ((hr.below hbel).elem Item.cells_length rfl ha hlt (by omega)).2
        have hc0 : wr.cell? ⟨b, off + k * 4, none⟩ = some (.int .i64 a.x) := hc 0 _ rfl
        have hc1 := hc 1 _ rfl
        have hc2 := hc 2 _ rfl
        have hc3 := hc 3 _ rfl
        have Ha := Lib.hid ha
        clear ha hc
        have hbb := hbel.size
        by_cases hok : a.ok = true
        · have Hsn : Hid ((l.take (k + 1)).all Item.ok = true) := Lib.hid (by
            rw [List.take_succ_eq_append_getElem hkl, List.all_append, Hall.out]
            have : l[k] = a := by have := Ha.out; rw [List.getElem?_eq_getElem hkl] at this; exact Option.some.inj this
            simp [this, hok])
          simp only [Item.ok, Bool.and_eq_true, decide_eq_true_eq] at hok
          obtain ⟨⟨⟨⟨⟨⟨⟨x0, x1⟩, y0⟩, y1⟩, w0⟩, w1⟩, h0⟩, h1⟩ := hok
          clear Hall hr hkl Ha
          go_wp2_with (go_at_call 9; refine (in4_yes _ _ _ (by omega) _).mono ?_; rintro e w' ⟨rfl, rfl⟩)
          go_roundw
          case rel => exact ⟨k + 1, by omega, by go_num, Hsn.out, by go_grown⟩
          case measure => simp [intOf]; omega
        · have Hchk : Hid (chk l = 4) := Lib.hid (by
            rw [chk, if_neg (by rw [Hl.out]; exact hbig), if_neg (by rw [List.all_eq_true]; exact fun h => hok (h a (List.mem_of_getElem? Ha.out)))])
          simp only [Item.ok, Bool.and_eq_true, decide_eq_true_eq] at hok
          have hcase : (¬ (-1000 ≤ a.x ∧ a.x ≤ 1000)) ∨ ((-1000 ≤ a.x ∧ a.x ≤ 1000) ∧ ((¬ (-1000 ≤ a.y ∧ a.y ≤ 1000)) ∨ ((-1000 ≤ a.y ∧ a.y ≤ 1000) ∧ ((¬ (1 ≤ a.w ∧ a.w ≤ 40)) ∨ ((1 ≤ a.w ∧ a.w ≤ 40) ∧ ¬ (1 ≤ a.h ∧ a.h ≤ 40)))))) := by omega
          clear hok
          rcases hcase with c1 | ⟨⟨c1, c1'⟩, c2 | ⟨⟨c2, c2'⟩, c3 | ⟨⟨c3, c3'⟩, c4⟩⟩⟩
          all_goals
            clear Hall hr hkl Ha
            go_wp2_with (go_at_call 9; first | (refine (in4_yes _ _ _ (by omega) _).mono ?_; rintro e w' ⟨rfl, rfl⟩) | (refine (in4_no _ _ _ (by omega) _).mono ?_; rintro e w' ⟨rfl, rfl⟩))
            go_returns
            exact ⟨by rw [Hchk.out]; rfl, by go_grown⟩
      · have hkn : k = n := by omega
        have Hchk : Hid (chk l = 0) := Lib.hid (by
          have := Hall.out
          rw [hkn, List.take_of_length_le (by rw [Hl.out]; omega)] at this
          rw [chk, if_neg (by rw [Hl.out]; exact hbig), if_pos this])
        clear hkn
        go_wp2
        go_ret
        exact ⟨by rw [Hchk.out]; rfl, hbel⟩

/-! ### the rectangle of a label at a position -/
def boxX (x w : Int) : Nat → Int
  | 0 => x + 1 | 1 => x - w | 2 => x - w | 3 => x + 1 | 4 => x + 1 | 5 => x - w | _ => x - w / 2
def boxY (y h : Int) : Nat → Int
  | 0 => y + 1 | 1 => y + 1 | 2 => y - h | 3 => y - h | 4 => y - h / 2 | 5 => y - h / 2 | 6 => y + 1 | _ => y - h

set_option maxRecDepth 100000 in
set_option maxHeartbeats 2000000 in
theorem box_any (x y bw bh : Int) (s : Nat) (hx : -1000 ≤ x ∧ x ≤ 1000) (hy : -1000 ≤ y ∧ y ≤ 1000) (hw : 1 ≤ bw ∧ bw ≤ 40) (hh : 1 ≤ bh ∧ bh ≤ 40) (hs : s < 8) (w : World) :
    Calls Try.prog 19 #[.agg #[.int .i64 x, .int .i64 y, .int .i64 bw, .int .i64 bh], .int .i64 s] w fun e w' =>
      e = .returned (.agg #[.int .i64 (boxX x bw s), .int .i64 (boxY y bh s), .int .i64 bw, .int .i64 bh]) ∧ Below w.heap.size w w' := by
  obtain ⟨hx0, hx1⟩ := hx
  obtain ⟨hy0, hy1⟩ := hy
  obtain ⟨hw0, hw1⟩ := hw
  obtain ⟨hh0, hh1⟩ := hh
  have ix : ∀ W : World, (Instr.index 60 (.agg #[.int .i64 (x + 1), .int .i64 (x - bw), .int .i64 (x - bw), .int .i64 (x + 1), .int .i64 (x + 1), .int .i64 (x - bw), .int .i64 (x - bw / 2), .int .i64 (x - bw / 2)]) (.int .i64 s)).run Try.prog W = .ok (.int .i64 (boxX x bw s)) W := by
    match s, hs with
    | 0, _ => exact fun W => by kernel_rfl
    | 1, _ => exact fun W => by kernel_rfl
    | 2, _ => exact fun W => by kernel_rfl
    | 3, _ => exact fun W => by kernel_rfl
    | 4, _ => exact fun W => by kernel_rfl
    | 5, _ => exact fun W => by kernel_rfl
    | 6, _ => exact fun W => by kernel_rfl
    | 7, _ => exact fun W => by kernel_rfl
  have iy : ∀ W : World, (Instr.index 60 (.agg #[.int .i64 (y + 1), .int .i64 (y + 1), .int .i64 (y - bh), .int .i64 (y - bh), .int .i64 (y - bh / 2), .int .i64 (y - bh / 2), .int .i64 (y + 1), .int .i64 (y - bh)]) (.int .i64 s)).run Try.prog W = .ok (.int .i64 (boxY y bh s)) W := by
    match s, hs with
    | 0, _ => exact fun W => by kernel_rfl
    | 1, _ => exact fun W => by kernel_rfl
    | 2, _ => exact fun W => by kernel_rfl
    | 3, _ => exact fun W => by kernel_rfl
    | 4, _ => exact fun W => by kernel_rfl
    | 5, _ => exact fun W => by kernel_rfl
    | 6, _ => exact fun W => by kernel_rfl
    | 7, _ => exact fun W => by kernel_rfl
  go_enter Try.func19, Try.ntmps19
  go_wp2
  go_quiet (fail)
  go_wp2
  go_returns
  exact ⟨rfl, by (repeat' (first | (with_reducible exact Below.refl _ _) | (with_reducible assumption) | (with_reducible refine below_drewN ?_ _) | (with_reducible refine Below.drew ?_) | (with_reducible refine Below.alloc ?_ ?_ _) | (with_reducible refine Below.setCell ?_ ?_ _) | (with_reducible exact Nat.le_refl _) | omega | (simp; omega) | (simp; done)))⟩

set_option maxRecDepth 100000 in
set_option maxHeartbeats 2000000 in
theorem labelBox_any (x y bw bh : Int) (s : Nat) (hx : -1000 ≤ x ∧ x ≤ 1000) (hy : -1000 ≤ y ∧ y ≤ 1000) (hw : 1 ≤ bw ∧ bw ≤ 40) (hh : 1 ≤ bh ∧ bh ≤ 40) (hs : s < 8) (w : World) :
    Calls Try.prog 10 #[.agg #[.int .i64 x, .int .i64 y, .int .i64 bw, .int .i64 bh], .int .i64 s] w fun e w' =>
      e = .returned (.agg #[.int .i64 (boxX x bw s), .int .i64 (boxY y bh s), .int .i64 bw, .int .i64 bh]) ∧ Below w.heap.size w w' := by
  obtain ⟨hx0, hx1⟩ := hx
  obtain ⟨hy0, hy1⟩ := hy
  obtain ⟨hw0, hw1⟩ := hw
  obtain ⟨hh0, hh1⟩ := hh
  have ix : ∀ W : World, (Instr.index 53 (.agg #[.int .i64 (x + 1), .int .i64 (y + 1), .int .i64 (x - bw), .int .i64 (y + 1), .int .i64 (x - bw), .int .i64 (y - bh), .int .i64 (x + 1), .int .i64 (y - bh), .int .i64 (x + 1), .int .i64 (y - bh / 2), .int .i64 (x - bw), .int .i64 (y - bh / 2), .int .i64 (x - bw / 2), .int .i64 (y + 1), .int .i64 (x - bw / 2), .int .i64 (y - bh)]) (.int .i64 s)).run Try.prog W = .ok (.agg #[.int .i64 (boxX x bw s), .int .i64 (boxY y bh s)]) W := by
    match s, hs with
    | 0, _ => exact fun W => by kernel_rfl
    | 1, _ => exact fun W => by kernel_rfl
    | 2, _ => exact fun W => by kernel_rfl
    | 3, _ => exact fun W => by kernel_rfl
    | 4, _ => exact fun W => by kernel_rfl
    | 5, _ => exact fun W => by kernel_rfl
    | 6, _ => exact fun W => by kernel_rfl
    | 7, _ => exact fun W => by kernel_rfl
  go_enter Try.func10, Try.ntmps10
  go_wp2
  go_quiet (fail)
  go_wp2
  go_quiet (fail)
  go_wp2
  go_returns
  exact ⟨rfl, by (repeat' (first | (with_reducible exact Below.refl _ _) | (with_reducible assumption) | (with_reducible refine below_drewN ?_ _) | (with_reducible refine Below.drew ?_) | (with_reducible refine Below.alloc ?_ ?_ _) | (with_reducible refine Below.setCell ?_ ?_ _) | (with_reducible exact Nat.le_refl _) | omega | (simp; omega) | (simp; done)))⟩
end Go.Proofs.Yteoeifhlkcgceaa
