/- Parts of the proof, one behind the other: Ar, Xa. -/
import Derived.Test.YtoflfgcdagoobaaDoorBd23
import Derived.Test.YtoflfgcdagoobaaDoorRows
section
/- Plain arithmetic. -/
namespace Go.Proofs.YtoflfgcdagoobaaDoor
open Sym
theorem tdiv_floor (a b : Int) (hb : 0 < b) : (a.tmod b ≠ 0 ∧ a < 0 → a.tdiv b - 1 = a / b) ∧ (a.tmod b = 0 ∨ 0 ≤ a → a.tdiv b = a / b) := by
  have h1 := Int.tmod_add_mul_tdiv a b
  have h2 := Int.emod_add_mul_ediv a b
  have h3 := Int.emod_nonneg a (show b ≠ 0 by omega)
  have h4 := Int.emod_lt_of_pos a hb
  constructor
  · rintro ⟨hm, ha⟩
    have h5 : a.tmod b < 0 := by
      have h9 : a.tmod b = -((-a).tmod b) := by rw [Int.neg_tmod]; omega
      have h10 : 0 ≤ (-a).tmod b := Int.tmod_nonneg b (by omega)
      omega
    have h6 : -b < a.tmod b := Int.lt_tmod_of_pos a hb
    have h7 : (a / b - (a.tdiv b - 1)) * b = a.tmod b + b - a % b := by
      rw [Int.sub_mul, Int.sub_mul, Int.mul_comm (a / b), Int.mul_comm (a.tdiv b)]; omega
    have h8 : a / b - (a.tdiv b - 1) = 0 := by
      rcases Int.lt_trichotomy (a / b - (a.tdiv b - 1)) 0 with h | h | h
      · have : (a / b - (a.tdiv b - 1)) * b ≤ -1 * b := Int.mul_le_mul_of_nonneg_right (by omega) (by omega)
        omega
      · exact h
      · have : 1 * b ≤ (a / b - (a.tdiv b - 1)) * b := Int.mul_le_mul_of_nonneg_right (by omega) (by omega)
        omega
    omega
  · rintro (hm | ha)
    · rw [hm, Int.zero_add] at h1
      rw [← h1, Int.mul_tdiv_cancel_left _ (by omega), Int.mul_ediv_cancel_left _ (by omega)]
    · exact Int.tdiv_eq_ediv_of_nonneg ha

theorem tdiv_bd (a b : Int) (hb : 0 < b) (ha : i64ok a) : i64ok (a.tdiv b) := by
  obtain ⟨h0, h1⟩ := ha
  rcases Int.le_total 0 a with h | h
  · have h2 := Int.tdiv_eq_ediv_of_nonneg (b := b) h
    have h3 := Int.ediv_le_self b h
    have h4 : 0 ≤ a / b := Int.ediv_nonneg h (by omega)
    unfold i64ok
    omega
  · have h2 : a.tdiv b = -((-a).tdiv b) := by rw [Int.neg_tdiv]; omega
    have h5 := Int.tdiv_eq_ediv_of_nonneg (a := -a) (b := b) (by omega)
    have h3 := Int.ediv_le_self (a := -a) b (by omega)
    have h4 : 0 ≤ (-a) / b := Int.ediv_nonneg (by omega) (by omega)
    unfold i64ok
    omega

theorem mul_bd {x y a b : Int} (hx : -a ≤ x ∧ x ≤ a) (hy : -b ≤ y ∧ y ≤ b) : -(a * b) ≤ x * y ∧ x * y ≤ a * b := by
  have h : (x * y).natAbs ≤ a.natAbs * b.natAbs := by
    rw [Int.natAbs_mul]
    exact Nat.mul_le_mul (by omega) (by omega)
  have h2 : ((a.natAbs * b.natAbs : Nat) : Int) = a * b := by
    rw [Int.natCast_mul, Int.natAbs_of_nonneg (by omega), Int.natAbs_of_nonneg (by omega)]
  omega
theorem mul_self_nn (x : Int) : 0 ≤ x * x := by
  rcases Int.le_total 0 x with h | h
  · exact Int.mul_nonneg h h
  · have := Int.mul_nonneg (show 0 ≤ -x by omega) (show 0 ≤ -x by omega)
    rwa [Int.neg_mul_neg] at this
theorem sq_bd {x a : Int} (hx : -a ≤ x ∧ x ≤ a) : 0 ≤ x * x ∧ x * x ≤ a * a := ⟨mul_self_nn x, (mul_bd hx hx).2⟩
/-- The quotient rounded down, by the truncated one. -/
theorem floor_tdiv (a b : Int) (hb : 0 < b) (ha : i64ok a) : i64ok (a.tdiv b) ∧ i64ok (a.tdiv b * b) ∧ (a < a.tdiv b * b → a.tdiv b - 1 = a / b ∧ i64ok (a.tdiv b - 1)) ∧ (¬ a < a.tdiv b * b → a.tdiv b = a / b) := by
  have h0 := tdiv_bd a b hb ha
  have h1 := Int.tmod_add_mul_tdiv a b
  obtain ⟨h2, h3⟩ := tdiv_floor a b hb
  have h4 : b * a.tdiv b = a.tdiv b * b := Int.mul_comm _ _
  have h5 : -b < a.tmod b := Int.lt_tmod_of_pos a hb
  have h6 := Int.tmod_lt_of_pos a hb
  have h7 : 0 ≤ a → 0 ≤ a.tmod b := fun h => Int.tmod_nonneg b h
  have h8 : a ≤ 0 → a.tmod b ≤ 0 := fun h => by
    have h9 : a.tmod b = -((-a).tmod b) := by rw [Int.neg_tmod]; omega
    have h10 : 0 ≤ (-a).tmod b := Int.tmod_nonneg b (by omega)
    omega
  refine ⟨h0, ?_, fun h => ?_, fun h => ?_⟩
  · unfold i64ok at *
    rcases Int.le_total 0 a with h | h
    · have := h7 h
      have : 0 ≤ a.tdiv b * b := Int.mul_nonneg (Int.tdiv_nonneg h (by omega)) (by omega)
      omega
    · have := h8 h
      have h9 : a.tdiv b = -((-a).tdiv b) := by rw [Int.neg_tdiv]; omega
      have h10 : 0 ≤ (-a).tdiv b * b := Int.mul_nonneg (Int.tdiv_nonneg (by omega) (by omega)) (by omega)
      have h11 : a.tdiv b * b = -((-a).tdiv b * b) := by rw [h9, Int.neg_mul]
      omega
  · have ha0 : a < 0 := by
      rcases Int.le_total 0 a with h' | h'
      · have := h7 h'
        omega
      · rcases Int.lt_or_eq_of_le h' with h'' | h''
        · exact h''
        · have := h7 (by omega)
          omega
    have e := h2 ⟨by omega, ha0⟩
    refine ⟨e, ?_⟩
    have h9 := Int.emod_add_mul_ediv a b
    have h10 := Int.emod_nonneg a (show b ≠ 0 by omega)
    rw [e]
    unfold i64ok at *
    have h11 : a.tdiv b * b ≤ 0 := by
      rcases Int.lt_or_le 0 (a.tdiv b * b) with h' | h'
      · have := h8 (by omega)
        have h9 : a.tdiv b = -((-a).tdiv b) := by rw [Int.neg_tdiv]; omega
        have h10 : 0 ≤ (-a).tdiv b * b := Int.mul_nonneg (Int.tdiv_nonneg (by omega) (by omega)) (by omega)
        have h11 : a.tdiv b * b = -((-a).tdiv b * b) := by rw [h9, Int.neg_mul]
        omega
      · exact h'
    have h12 : a ≤ a / b := by
      have := Int.ediv_le_self (a := -a) b (by omega)
      have h13 := Int.le_ediv_of_mul_le hb (a := a) (b := a) (by
        have : a * b ≤ a * 1 := Int.mul_le_mul_of_nonpos_left (by omega) (by omega)
        omega)
      exact h13
    omega
  · refine h3 ?_
    by_cases hm : a.tmod b = 0
    · exact .inl hm
    · refine .inr ?_
      rcases Int.le_total 0 a with h' | h'
      · exact h'
      · have := h8 h'
        omega
theorem tmod_zero_iff (a b : Int) (hb : 0 < b) : a.tmod b = 0 ↔ a % b = 0 := by
  rw [← Int.dvd_iff_tmod_eq_zero, ← Int.dvd_iff_emod_eq_zero]
theorem ceil_eq (a b : Int) (hb : 0 < b) : (a % b = 0 → a / b = -(-a / b)) ∧ (a % b ≠ 0 → a / b + 1 = -(-a / b)) := by
  have h1 := Int.emod_add_mul_ediv a b
  have h2 := Int.emod_nonneg a (show b ≠ 0 by omega)
  have h3 := Int.emod_lt_of_pos a hb
  have e1 : b * (a / b) = a / b * b := Int.mul_comm _ _
  constructor
  · intro h
    have : -a / b = -(a / b) := by
      rw [show -a = -(a / b) * b by rw [Int.neg_mul]; omega]
      exact Int.mul_ediv_cancel _ (by omega)
    omega
  · intro h
    have : -a / b = -(a / b) - 1 := by
      rw [show -a = (b - a % b) + (-(a / b) - 1) * b by rw [Int.sub_mul, Int.neg_mul]; omega]
      rw [Int.add_mul_ediv_right _ _ (by omega), Int.ediv_eq_zero_of_lt (by omega) (by omega)]
      omega
    omega
theorem ediv_bd (a b : Int) (hb : 0 < b) : (0 ≤ a → 0 ≤ a / b ∧ a / b ≤ a) ∧ (a < 0 → a ≤ a / b ∧ a / b < 0) := by
  refine ⟨fun h => ⟨Int.ediv_nonneg h (by omega), Int.ediv_le_self b h⟩, fun h => ⟨?_, Int.ediv_neg_of_neg_of_pos h hb⟩⟩
  exact Int.le_ediv_of_mul_le hb (by
    have : a * b ≤ a * 1 := Int.mul_le_mul_of_nonpos_left (by omega) (by omega)
    omega)
theorem up_ok {a b : Int} (hb : 0 < b) (h2 : i64ok a) (h : i64ok (-a)) : i64ok (-(-a / b)) := by
  obtain ⟨h3, h4⟩ := ediv_bd (-a) b hb
  unfold i64ok at *
  rcases Int.lt_or_le (-a) 0 with h5 | h5
  · have := h4 h5
    omega
  · have := h3 h5
    omega
theorem down_ok {a b : Int} (hb : 0 < b) (h : i64ok a) : i64ok (a / b) := by
  obtain ⟨h3, h4⟩ := ediv_bd a b hb
  unfold i64ok at *
  rcases Int.lt_or_le a 0 with h5 | h5
  · have := h4 h5
    omega
  · have := h3 h5
    omega
theorem floor_tmod (a b : Int) (hb : 0 < b) (ha : i64ok a) : (a.tmod b ≠ 0 → a < 0 → a.tdiv b - 1 = a / b ∧ i64ok (a.tdiv b - 1)) ∧ (a.tmod b = 0 ∨ 0 ≤ a → a.tdiv b = a / b) := by
  obtain ⟨h2, h3⟩ := tdiv_floor a b hb
  refine ⟨fun h h' => ?_, h3⟩
  have := h2 ⟨h, h'⟩
  rw [this]
  exact ⟨rfl, down_ok hb ha⟩
theorem wrap_ok {n : Int} (h : i64ok n) : IntKind.wrap .i64 n = n := by
  unfold i64ok at h
  unfold IntKind.wrap
  simp [IntKind.bits, IntKind.signed]
  omega
end Go.Proofs.YtoflfgcdagoobaaDoor
end
section
namespace Go.Proofs.YtoflfgcdagoobaaDoor
open Sym Go.RowKit
noncomputable section
def intC : Codec where
  α := Int
  enc := fun x => [.int .i64 x]
  dec := fun l => match l with | [.int _ a0] => a0 | _ => 0
  ok := fun l => match l with | [.int .i64 _] => true | _ => false
  size := 1
  d := 0
  size_eq := fun _ => rfl
  scal := fun _ => rfl
  ok_spec := fun e h => by
    split at h
    · rfl
    · cases h
  pos := Nat.zero_lt_succ _
def rowC : Codec where
  α := List UInt8 × List UInt8
  enc := fun x => [.str x.1, .str x.2]
  dec := fun l => match l with | [.str a0, .str a1] => (a0, a1) | _ => ([], [])
  ok := fun l => match l with | [.str _, .str _] => true | _ => false
  size := 2
  d := ([], [])
  size_eq := fun _ => rfl
  scal := fun _ => rfl
  ok_spec := fun e h => by
    split at h
    · rfl
    · cases h
  pos := Nat.zero_lt_succ _
def strC : Codec where
  α := List UInt8
  enc := fun x => [.str x]
  dec := fun l => match l with | [.str a0] => a0 | _ => []
  ok := fun l => match l with | [.str _] => true | _ => false
  size := 1
  d := []
  size_eq := fun _ => rfl
  scal := fun _ => rfl
  ok_spec := fun e h => by
    split at h
    · rfl
    · cases h
  pos := Nat.zero_lt_succ _
def u8C : Codec where
  α := Int
  enc := fun x => [.int .u8 x]
  dec := fun l => match l with | [.int _ a0] => a0 | _ => 0
  ok := fun l => match l with | [.int .u8 _] => true | _ => false
  size := 1
  d := 0
  size_eq := fun _ => rfl
  scal := fun _ => rfl
  ok_spec := fun e h => by
    split at h
    · rfl
    · cases h
  pos := Nat.zero_lt_succ _
def boolC : Codec where
  α := Bool
  enc := fun x => [.bool x]
  dec := fun l => match l with | [.bool a0] => a0 | _ => false
  ok := fun l => match l with | [.bool _] => true | _ => false
  size := 1
  d := false
  size_eq := fun _ => rfl
  scal := fun _ => rfl
  ok_spec := fun e h => by
    split at h
    · rfl
    · cases h
  pos := Nat.zero_lt_succ _
noncomputable def cod : Nat → Codec
  | 0 => intC
  | 1 => rowC
  | 2 => strC
  | 3 => u8C
  | 4 => boolC
  | _ => intC
def ctags : List (TypeId × Nat) := [(3, 0), (50, 1), (9, 2), (5, 3), (4, 4), (1000000 + 104, 3)]
def ctg (t : TypeId) : Option Nat := (ctags.find? fun p => p.1 == t).map (·.2)
def loud : List FuncId := [77, 8, 32, 9, 18, 26, 44, 27, 33, 34, 52]
set_option maxRecDepth 100000
set_option maxHeartbeats 4000000
noncomputable def mkC (L : Sums cod) : Cfg cod := { P := Tryd.prog, ctag := ctg, summ := lookS L, summI := lookI L, quiet := fun g => !loud.contains g, wrap := false }
noncomputable def mkW (L : Sums cod) : Cfg cod := { P := Tryd.prog, ctag := ctg, summ := lookS L, summI := lookI L, quiet := fun g => !loud.contains g, wrap := true }
noncomputable def L_0 : Sums cod := []
noncomputable def C_0 : Cfg cod := mkC L_0


theorem L_0_ok : Snd Tryd.prog cod L_0 := .nil
theorem mixed : Tryd.prog.follows .mixedOrders = true := by kernel_rfl

namespace F
def inb (n lo hi : Int) : Bool := decide (lo ≤ n) && decide (n ≤ hi)
end F

noncomputable def s_in : Summ cod := fun args H => match H with
  | [] => match rd args with
    | some [[n], [lo], [hi]] => (.ret (.c (.bool (F.inb n lo hi)), []))
    | _ => .fail
  | _ => .fail

theorem in_tree (n lo hi : Int) : symF C_0 [] Tryd.f39.results.toList (List.length ([] : Heap cod)) 400 [.code (codeOf Tryd.f39)] ⟨argsS Tryd.f39 [.c (.int .i64 n), .c (.int .i64 lo), .c (.int .i64 hi)], []⟩ =
 cond (decide (lo ≤ n)) (
 .ret (.fin (.c (.bool (decide (n ≤ hi)))) [])) (
 .ret (.fin (.c (.bool false)) [])) := by kernel_rfl

theorem in_sound : Sound Tryd.prog cod 39 s_in := sound_flat (cfg := C_0) L_0_ok mixed Tryd.func39 rfl rfl _ 400 fun args H r news hg => by
  unfold s_in at hg
  split at hg
  · split at hg
    · rename_i n lo hi hrd
      have hargs := rd_spec hrd
      simp only [List.map, wr1, ints, List.tail] at hargs
      subst hargs
      clear hrd
      rw [in_tree]
      try simp only [T.gives, T.wp, Prod.mk.injEq] at hg
      obtain ⟨rfl, rfl⟩ := hg
      simp only [T.wp, T.wp_cond, Fin.fin.injEq, SV.c.injEq, Cell.bool.injEq, Cell.int.injEq, and_true, true_and, decide_eq_true_eq, F.inb]
      (repeat' split) <;> simp_all <;> omega
    · exact hg.elim
  · exact hg.elim

noncomputable def L_in : Sums cod := (39, .p s_in) :: L_0
noncomputable def C_in : Cfg cod := mkC L_in

theorem L_in_ok : Snd Tryd.prog cod L_in := .cons in_sound L_0_ok

end
end Go.Proofs.YtoflfgcdagoobaaDoor
end
