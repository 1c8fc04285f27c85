/- Parts of the proof, one behind the other: Ar, Xa, Sym26. -/
import Derived.Test.YtiolfkmkbccndaaGreatDoorBd22
import Derived.Test.YtiolfkmkbccndaaGreatDoorRows
import Derived.Sort.Grow
section
/- Plain arithmetic. -/
namespace Go.Proofs.YtiolfkmkbccndaaGreatDoor
open Sym
theorem tdiv_floor (a b : Int) (hb : 0 < b) : (a.tmod b ≠ 0 ∧ a < 0 → a.tdiv b - 1 = a / b) ∧ (a.tmod b = 0 ∨ 0 ≤ a → a.tdiv b = a / b) := by
  have h1 := Int.tmod_add_mul_tdiv a b
  have h2 := Int.emod_add_mul_ediv a b
  have h3 := Int.emod_nonneg a (show b ≠ 0 by omega)
  have h4 := Int.emod_lt_of_pos a hb
  constructor
  · rintro ⟨hm, ha⟩
    have h5 : a.tmod b < 0 := by
      have h9 : a.tmod b = -((-a).tmod b) := by rw [Int.neg_tmod]; omega
      have h10 : 0 ≤ (-a).tmod b := Int.tmod_nonneg b (by omega)
      omega
    have h6 : -b < a.tmod b := Int.lt_tmod_of_pos a hb
    have h7 : (a / b - (a.tdiv b - 1)) * b = a.tmod b + b - a % b := by
      rw [Int.sub_mul, Int.sub_mul, Int.mul_comm (a / b), Int.mul_comm (a.tdiv b)]; omega
    have h8 : a / b - (a.tdiv b - 1) = 0 := by
      rcases Int.lt_trichotomy (a / b - (a.tdiv b - 1)) 0 with h | h | h
      · have : (a / b - (a.tdiv b - 1)) * b ≤ -1 * b := Int.mul_le_mul_of_nonneg_right (by omega) (by omega)
        omega
      · exact h
      · have : 1 * b ≤ (a / b - (a.tdiv b - 1)) * b := Int.mul_le_mul_of_nonneg_right (by omega) (by omega)
        omega
    omega
  · rintro (hm | ha)
    · rw [hm, Int.zero_add] at h1
      rw [← h1, Int.mul_tdiv_cancel_left _ (by omega), Int.mul_ediv_cancel_left _ (by omega)]
    · exact Int.tdiv_eq_ediv_of_nonneg ha

theorem tdiv_bd (a b : Int) (hb : 0 < b) (ha : i64ok a) : i64ok (a.tdiv b) := by
  obtain ⟨h0, h1⟩ := ha
  rcases Int.le_total 0 a with h | h
  · have h2 := Int.tdiv_eq_ediv_of_nonneg (b := b) h
    have h3 := Int.ediv_le_self b h
    have h4 : 0 ≤ a / b := Int.ediv_nonneg h (by omega)
    unfold i64ok
    omega
  · have h2 : a.tdiv b = -((-a).tdiv b) := by rw [Int.neg_tdiv]; omega
    have h5 := Int.tdiv_eq_ediv_of_nonneg (a := -a) (b := b) (by omega)
    have h3 := Int.ediv_le_self (a := -a) b (by omega)
    have h4 : 0 ≤ (-a) / b := Int.ediv_nonneg (by omega) (by omega)
    unfold i64ok
    omega

theorem mul_bd {x y a b : Int} (hx : -a ≤ x ∧ x ≤ a) (hy : -b ≤ y ∧ y ≤ b) : -(a * b) ≤ x * y ∧ x * y ≤ a * b := by
  have h : (x * y).natAbs ≤ a.natAbs * b.natAbs := by
    rw [Int.natAbs_mul]
    exact Nat.mul_le_mul (by omega) (by omega)
  have h2 : ((a.natAbs * b.natAbs : Nat) : Int) = a * b := by
    rw [Int.natCast_mul, Int.natAbs_of_nonneg (by omega), Int.natAbs_of_nonneg (by omega)]
  omega
theorem mul_self_nn (x : Int) : 0 ≤ x * x := by
  rcases Int.le_total 0 x with h | h
  · exact Int.mul_nonneg h h
  · have := Int.mul_nonneg (show 0 ≤ -x by omega) (show 0 ≤ -x by omega)
    rwa [Int.neg_mul_neg] at this
theorem sq_bd {x a : Int} (hx : -a ≤ x ∧ x ≤ a) : 0 ≤ x * x ∧ x * x ≤ a * a := ⟨mul_self_nn x, (mul_bd hx hx).2⟩
/-- The quotient rounded down, by the truncated one. -/
theorem floor_tdiv (a b : Int) (hb : 0 < b) (ha : i64ok a) : i64ok (a.tdiv b) ∧ i64ok (a.tdiv b * b) ∧ (a < a.tdiv b * b → a.tdiv b - 1 = a / b ∧ i64ok (a.tdiv b - 1)) ∧ (¬ a < a.tdiv b * b → a.tdiv b = a / b) := by
  have h0 := tdiv_bd a b hb ha
  have h1 := Int.tmod_add_mul_tdiv a b
  obtain ⟨h2, h3⟩ := tdiv_floor a b hb
  have h4 : b * a.tdiv b = a.tdiv b * b := Int.mul_comm _ _
  have h5 : -b < a.tmod b := Int.lt_tmod_of_pos a hb
  have h6 := Int.tmod_lt_of_pos a hb
  have h7 : 0 ≤ a → 0 ≤ a.tmod b := fun h => Int.tmod_nonneg b h
  have h8 : a ≤ 0 → a.tmod b ≤ 0 := fun h => by
    have h9 : a.tmod b = -((-a).tmod b) := by rw [Int.neg_tmod]; omega
    have h10 : 0 ≤ (-a).tmod b := Int.tmod_nonneg b (by omega)
    omega
  refine ⟨h0, ?_, fun h => ?_, fun h => ?_⟩
  · unfold i64ok at *
    rcases Int.le_total 0 a with h | h
    · have := h7 h
      have : 0 ≤ a.tdiv b * b := Int.mul_nonneg (Int.tdiv_nonneg h (by omega)) (by omega)
      omega
    · have := h8 h
      have h9 : a.tdiv b = -((-a).tdiv b) := by rw [Int.neg_tdiv]; omega
      have h10 : 0 ≤ (-a).tdiv b * b := Int.mul_nonneg (Int.tdiv_nonneg (by omega) (by omega)) (by omega)
      have h11 : a.tdiv b * b = -((-a).tdiv b * b) := by rw [h9, Int.neg_mul]
      omega
  · have ha0 : a < 0 := by
      rcases Int.le_total 0 a with h' | h'
      · have := h7 h'
        omega
      · rcases Int.lt_or_eq_of_le h' with h'' | h''
        · exact h''
        · have := h7 (by omega)
          omega
    have e := h2 ⟨by omega, ha0⟩
    refine ⟨e, ?_⟩
    have h9 := Int.emod_add_mul_ediv a b
    have h10 := Int.emod_nonneg a (show b ≠ 0 by omega)
    rw [e]
    unfold i64ok at *
    have h11 : a.tdiv b * b ≤ 0 := by
      rcases Int.lt_or_le 0 (a.tdiv b * b) with h' | h'
      · have := h8 (by omega)
        have h9 : a.tdiv b = -((-a).tdiv b) := by rw [Int.neg_tdiv]; omega
        have h10 : 0 ≤ (-a).tdiv b * b := Int.mul_nonneg (Int.tdiv_nonneg (by omega) (by omega)) (by omega)
        have h11 : a.tdiv b * b = -((-a).tdiv b * b) := by rw [h9, Int.neg_mul]
        omega
      · exact h'
    have h12 : a ≤ a / b := by
      have := Int.ediv_le_self (a := -a) b (by omega)
      have h13 := Int.le_ediv_of_mul_le hb (a := a) (b := a) (by
        have : a * b ≤ a * 1 := Int.mul_le_mul_of_nonpos_left (by omega) (by omega)
        omega)
      exact h13
    omega
  · refine h3 ?_
    by_cases hm : a.tmod b = 0
    · exact .inl hm
    · refine .inr ?_
      rcases Int.le_total 0 a with h' | h'
      · exact h'
      · have := h8 h'
        omega
theorem tmod_zero_iff (a b : Int) (hb : 0 < b) : a.tmod b = 0 ↔ a % b = 0 := by
  rw [← Int.dvd_iff_tmod_eq_zero, ← Int.dvd_iff_emod_eq_zero]
theorem ceil_eq (a b : Int) (hb : 0 < b) : (a % b = 0 → a / b = -(-a / b)) ∧ (a % b ≠ 0 → a / b + 1 = -(-a / b)) := by
  have h1 := Int.emod_add_mul_ediv a b
  have h2 := Int.emod_nonneg a (show b ≠ 0 by omega)
  have h3 := Int.emod_lt_of_pos a hb
  have e1 : b * (a / b) = a / b * b := Int.mul_comm _ _
  constructor
  · intro h
    have : -a / b = -(a / b) := by
      rw [show -a = -(a / b) * b by rw [Int.neg_mul]; omega]
      exact Int.mul_ediv_cancel _ (by omega)
    omega
  · intro h
    have : -a / b = -(a / b) - 1 := by
      rw [show -a = (b - a % b) + (-(a / b) - 1) * b by rw [Int.sub_mul, Int.neg_mul]; omega]
      rw [Int.add_mul_ediv_right _ _ (by omega), Int.ediv_eq_zero_of_lt (by omega) (by omega)]
      omega
    omega
theorem ediv_bd (a b : Int) (hb : 0 < b) : (0 ≤ a → 0 ≤ a / b ∧ a / b ≤ a) ∧ (a < 0 → a ≤ a / b ∧ a / b < 0) := by
  refine ⟨fun h => ⟨Int.ediv_nonneg h (by omega), Int.ediv_le_self b h⟩, fun h => ⟨?_, Int.ediv_neg_of_neg_of_pos h hb⟩⟩
  exact Int.le_ediv_of_mul_le hb (by
    have : a * b ≤ a * 1 := Int.mul_le_mul_of_nonpos_left (by omega) (by omega)
    omega)
theorem up_ok {a b : Int} (hb : 0 < b) (h2 : i64ok a) (h : i64ok (-a)) : i64ok (-(-a / b)) := by
  obtain ⟨h3, h4⟩ := ediv_bd (-a) b hb
  unfold i64ok at *
  rcases Int.lt_or_le (-a) 0 with h5 | h5
  · have := h4 h5
    omega
  · have := h3 h5
    omega
theorem down_ok {a b : Int} (hb : 0 < b) (h : i64ok a) : i64ok (a / b) := by
  obtain ⟨h3, h4⟩ := ediv_bd a b hb
  unfold i64ok at *
  rcases Int.lt_or_le a 0 with h5 | h5
  · have := h4 h5
    omega
  · have := h3 h5
    omega
theorem floor_tmod (a b : Int) (hb : 0 < b) (ha : i64ok a) : (a.tmod b ≠ 0 → a < 0 → a.tdiv b - 1 = a / b ∧ i64ok (a.tdiv b - 1)) ∧ (a.tmod b = 0 ∨ 0 ≤ a → a.tdiv b = a / b) := by
  obtain ⟨h2, h3⟩ := tdiv_floor a b hb
  refine ⟨fun h h' => ?_, h3⟩
  have := h2 ⟨h, h'⟩
  rw [this]
  exact ⟨rfl, down_ok hb ha⟩
theorem wrap_ok {n : Int} (h : i64ok n) : IntKind.wrap .i64 n = n := by
  unfold i64ok at h
  unfold IntKind.wrap
  simp [IntKind.bits, IntKind.signed]
  omega
end Go.Proofs.YtiolfkmkbccndaaGreatDoor
end
section
namespace Go.Proofs.YtiolfkmkbccndaaGreatDoor
open Sym Go.RowKit
noncomputable section
def intC : Codec where
  α := Int
  enc := fun x => [.int .i64 x]
  dec := fun l => match l with | [.int _ a0] => a0 | _ => 0
  ok := fun l => match l with | [.int .i64 _] => true | _ => false
  size := 1
  d := 0
  size_eq := fun _ => rfl
  scal := fun _ => rfl
  ok_spec := fun e h => by
    split at h
    · rfl
    · cases h
  pos := Nat.zero_lt_succ _
def rowC : Codec where
  α := List UInt8 × List UInt8
  enc := fun x => [.str x.1, .str x.2]
  dec := fun l => match l with | [.str a0, .str a1] => (a0, a1) | _ => ([], [])
  ok := fun l => match l with | [.str _, .str _] => true | _ => false
  size := 2
  d := ([], [])
  size_eq := fun _ => rfl
  scal := fun _ => rfl
  ok_spec := fun e h => by
    split at h
    · rfl
    · cases h
  pos := Nat.zero_lt_succ _
def strC : Codec where
  α := List UInt8
  enc := fun x => [.str x]
  dec := fun l => match l with | [.str a0] => a0 | _ => []
  ok := fun l => match l with | [.str _] => true | _ => false
  size := 1
  d := []
  size_eq := fun _ => rfl
  scal := fun _ => rfl
  ok_spec := fun e h => by
    split at h
    · rfl
    · cases h
  pos := Nat.zero_lt_succ _
def u8C : Codec where
  α := Int
  enc := fun x => [.int .u8 x]
  dec := fun l => match l with | [.int _ a0] => a0 | _ => 0
  ok := fun l => match l with | [.int .u8 _] => true | _ => false
  size := 1
  d := 0
  size_eq := fun _ => rfl
  scal := fun _ => rfl
  ok_spec := fun e h => by
    split at h
    · rfl
    · cases h
  pos := Nat.zero_lt_succ _
def boolC : Codec where
  α := Bool
  enc := fun x => [.bool x]
  dec := fun l => match l with | [.bool a0] => a0 | _ => false
  ok := fun l => match l with | [.bool _] => true | _ => false
  size := 1
  d := false
  size_eq := fun _ => rfl
  scal := fun _ => rfl
  ok_spec := fun e h => by
    split at h
    · rfl
    · cases h
  pos := Nat.zero_lt_succ _
def entC : Codec where
  α := Int × Int × List UInt8 × List UInt8
  enc := fun x => [.int .i64 x.1, .int .i64 x.2.1, .str x.2.2.1, .str x.2.2.2]
  dec := fun l => match l with | [.int _ a0, .int _ a1, .str a2, .str a3] => (a0, a1, a2, a3) | _ => (0, 0, [], [])
  ok := fun l => match l with | [.int .i64 _, .int .i64 _, .str _, .str _] => true | _ => false
  size := 4
  d := (0, 0, [], [])
  size_eq := fun _ => rfl
  scal := fun _ => rfl
  ok_spec := fun e h => by
    split at h
    · rfl
    · cases h
  pos := Nat.zero_lt_succ _
def msgC : Codec where
  α := Int × Int × Bool × List UInt8
  enc := fun x => [.int .i64 x.1, .int .i64 x.2.1, .bool x.2.2.1, .str x.2.2.2]
  dec := fun l => match l with | [.int _ a0, .int _ a1, .bool a2, .str a3] => (a0, a1, a2, a3) | _ => (0, 0, false, [])
  ok := fun l => match l with | [.int .i64 _, .int .i64 _, .bool _, .str _] => true | _ => false
  size := 4
  d := (0, 0, false, [])
  size_eq := fun _ => rfl
  scal := fun _ => rfl
  ok_spec := fun e h => by
    split at h
    · rfl
    · cases h
  pos := Nat.zero_lt_succ _
noncomputable def cod : Nat → Codec
  | 0 => intC
  | 1 => rowC
  | 2 => strC
  | 3 => u8C
  | 4 => boolC
  | 5 => entC
  | 6 => msgC
  | _ => intC
def ctags : List (TypeId × Nat) := [(3, 0), (56, 1), (9, 2), (5, 3), (4, 4), (31, 5), (61, 6)]
def ctg (t : TypeId) : Option Nat := (ctags.find? fun p => p.1 == t).map (·.2)
def loud : List FuncId := [31, 41, 33, 20, 32, 8, 42, 46, 56, 21, 23, 36, 7, 10, 4, 6]
set_option maxRecDepth 100000
set_option maxHeartbeats 4000000
noncomputable def mkC (L : Sums cod) : Cfg cod := { P := Tryz.prog, ctag := ctg, summ := lookS L, summI := lookI L, quiet := fun g => !loud.contains g, wrap := false }
noncomputable def mkW (L : Sums cod) : Cfg cod := { P := Tryz.prog, ctag := ctg, summ := lookS L, summI := lookI L, quiet := fun g => !loud.contains g, wrap := true }
noncomputable def L_0 : Sums cod := []
noncomputable def C_0 : Cfg cod := mkC L_0


theorem L_0_ok : Snd Tryz.prog cod L_0 := .nil
theorem mixed : Tryz.prog.follows .mixedOrders = true := by kernel_rfl


namespace F
def inb (n lo hi : Int) : Bool := decide (lo ≤ n) && decide (n ≤ hi)
end F

end
end Go.Proofs.YtiolfkmkbccndaaGreatDoor
end
section
/- A function that puts a row's elements into another order, in their place: a summary out of the library's own contract. -/
namespace Go.Proofs.YtiolfkmkbccndaaGreatDoor.Sym
open Go.RowKit Go.Sort

section
variable {cod : Nat → Codec} {P : Program}
/-- Function values without captured variables. -/
def fnArgs : List SV → Option (List FuncId)
  | [] => some []
  | .c (.fn g []) :: l => (fnArgs l).map (g :: ·)
  | _ => none
def fnVals (ex : List FuncId) : List Value := ex.map fun g => .func (.func g) #[] #[]
theorem fnArgs_rel {env : Env} {N : Nat} : ∀ {aas : List SV} {vs : List Value} {ex : List FuncId}, fnArgs aas = some ex → F2 (vrel env N) aas vs → vs = fnVals ex
  | [], _, _, h, hv => by
    cases hv
    cases h
    rfl
  | a :: aas, _, ex, h, hv => by
    cases hv with
    | @cons _ v _ vs hx hxs =>
      unfold fnArgs at h
      split at h
      · rename_i e; cases e
      · rename_i g l e
        simp only [List.cons.injEq] at e
        obtain ⟨rfl, rfl⟩ := e
        obtain ⟨ex', h1, rfl⟩ := Option.map_eq_some_iff.1 h
        have h2 := fnArgs_rel h1 hxs
        obtain ⟨_, h3⟩ := hx
        rw [h2, h3]
        rfl
      · cases h
noncomputable def s_perm (u : Nat) (ex : List FuncId) (f : List (cod u).α → List (cod u).α) : Summ cod := fun args H => match args, H with
  | .c (.own 0 _) :: aas, [.own v l ty] => if h : v = u then (if fnArgs aas = some ex then .need (l.length ≤ 1000000) (.ret (.tup [], [.own u (f (h ▸ l)) ty])) else .fail) else .fail
  | .c (.slc 0 0 n _) :: aas, [.arr v l ty] => if h : v = u then (if fnArgs aas = some ex then .need (n = l.length ∧ l.length ≤ 1000000) (.ret (.tup [], [.arr u (f (h ▸ l)) ty])) else .fail) else .fail
  | _, _ => .fail
/-- The row at the beginning of a block. -/
def RowAt (w : World) (b : Nat) (vs : List Value) : Prop := ∃ cur e, w.heap[b]? = some (.cells cur e (0, 0)) ∧ cur.toList.take vs.length = vs
theorem RowAt.holds {β : Type} [Inhabited β] {e' : β → Value} {w : World} {b : Nat} {D : Array β} (h : RowAt w b (D.toList.map e')) : Holds e' w b 0 D := by
  obtain ⟨cur, e, hb, ht⟩ := h
  rw [List.length_map, Array.length_toList] at ht
  intro j hj
  refine ⟨?_, by simp [World.frozen?, hb]⟩
  have h1 : (cur.toList.take D.size)[j]? = (D.toList.map e')[j]? := by rw [ht]
  rw [List.getElem?_take_of_lt hj] at h1
  simp only [World.cell?, hb, Nat.zero_add]
  simp only [Option.isSome_none, Bool.false_eq_true, if_false]
  rw [← Array.getElem?_toList, h1]
  simp [hj]
theorem RowAt.lt {w : World} {b : Nat} {vs : List Value} (h : RowAt w b vs) : b < w.heap.size := by
  obtain ⟨cur, e, hb, _⟩ := h
  exact (Array.getElem?_eq_some_iff.1 hb).1
theorem heap_put {β : Type} [Inhabited β] (e' : β → Value) {w : World} {g n : Nat} {os : Array Obj} {cur : Array Value} {e : TypeId} {fr : Nat × Nat} (d : Array β) (hb : w.heap[g]? = some (.cells cur e fr)) :
    (grow (putRow e' (Sort.ahead w n) g 0 d) os).heap[g]? = some (.cells (putCells e' 0 d cur) e fr) := by
  have hg : g < w.heap.size := (Array.getElem?_eq_some_iff.1 hb).1
  rw [heap_grow_old _ _ (by simpa using hg)]
  simp [putRow, mapBlock, Sort.ahead, Array.getElem?_modify, hb, onCells]
theorem take_put {β : Type} [Inhabited β] (e' : β → Value) (cur : Array Value) (d : Array β) (h : d.size ≤ cur.size) : (putCells e' 0 d cur).toList.take d.size = d.toList.map e' := by
  apply List.ext_getElem?
  intro j
  by_cases hj : j < d.size
  · rw [List.getElem?_take_of_lt hj, Array.getElem?_toList]
    simp [putCells, hj, show j < cur.size by omega]
  · rw [List.getElem?_take_eq_none (by omega), List.getElem?_eq_none (by simp; omega)]
theorem kin_put {β : Type} [Inhabited β] (e' : β → Value) {w : World} {g n : Nat} {os : Array Obj} (d : Array β) {M : Nat → Prop} (hM : M g) : Kin M w (grow (putRow e' (Sort.ahead w n) g 0 d) os) := by
  refine ⟨rfl, rfl, rfl, by simp, fun k hk hne => ?_, dl_mono (Nat.le_add_right _ _)⟩
  rw [heap_grow_old _ _ (by simpa using hk)]
  have : g ≠ k := fun e => hne (by rw [← e]; exact hM)
  simp [putRow, mapBlock, Sort.ahead, Array.getElem?_modify, this]
theorem enters_fn {f : FuncId} {fn : Func} (hf : P.funcs[f]? = some fn) (hb : fn.body.isSome = true) (hname : (fn.name == "runtime.NumGoroutine") = false) (args : Array Value) (w : World) : (callFunc f args).run P w = .ok (.enter f args) w := by
  obtain ⟨code, hcode⟩ := Option.isSome_iff_exists.1 hb
  simp [callFunc, hf, hcode]
  simpa using hname
/-- What is asked of the function: at no element nothing turns; else the row holds what f gives. -/
structure Perms (P : Program) (cod : Nat → Codec) (g : FuncId) (u : Nat) (ex : List FuncId) (f : List (cod u).α → List (cod u).α) (β : Type) [Inhabited β] (e' : β → Value) : Prop where
  enters : ∀ args w, (callFunc g args).run P w = .ok (.enter g args) w
  len : ∀ l, (f l).length = l.length
  none : ∀ p cap w, Calls P g (Value.slice p 0 cap :: fnVals ex).toArray w fun e w' => e = .returned (.tuple #[]) ∧ w' = w
  some : ∀ (b cap : Nat) (l : List (cod u).α) (w : World), l ≠ [] → l.length ≤ 1000000 → RowAt w b (vals (cod u) l) →
    Calls P g (Value.slice (.some ⟨b, 0, Option.none⟩) l.length cap :: fnVals ex).toArray w fun e w' => e = .returned (.tuple #[]) ∧ ∃ (n : Nat) (os : Array Obj) (D : Array β), D.toList.map e' = vals (cod u) (f l) ∧ w' = grow (putRow e' (Sort.ahead w n) b 0 D) os
theorem perm_sound {g : FuncId} {u : Nat} {ex : List FuncId} {f : List (cod u).α → List (cod u).α} {β : Type} [Inhabited β] {e' : β → Value} (h : Perms P cod g u ex f β e') : SoundIK P cod g true (s_perm u ex f) := by
  refine ⟨h.enters, fun args H env w vs r H' G ha hg => ?_⟩
  have nores : vrel env 1 (.tup []) (.tuple #[]) := ⟨#[], rfl, .nil⟩
  have one : ∀ {o : HObj cod} {i : Nat} {o' : HObj cod}, [o][i]? = some o' → i = 0 ∧ o' = o := by
    intro o i o' hi
    cases i with
    | zero => simp at hi; exact ⟨rfl, hi.symm⟩
    | succ i => simp at hi
  unfold s_perm at hg
  split at hg
  · rename_i n aas v l ty
    split at hg
    · rename_i hv
      subst hv
      split at hg
      · rename_i hex
        rw [T.gives_need, T.gives_ret] at hg
        obtain ⟨hsz, hg⟩ := hg
        simp only [Prod.mk.injEq] at hg
        obtain ⟨rfl, rfl⟩ := hg
        cases ha with
        | @cons _ v0 _ vs hx hxs =>
          have hvs := fnArgs_rel hex hxs
          subst hvs
          obtain ⟨_, hval, A, c, hA, _⟩ := hx
          obtain ⟨o1, o2, o3, o4, o5⟩ := G.obj 0 (.own v l ty) (by simp)
          have hlen : n = l.length := by
            rw [← hval, hA] at o3
            rcases o3.2 with ⟨e, hz⟩ | ⟨g, cap, cur, e, _⟩
            · simp only [Value.slice.injEq] at e; omega
            · simp only [Value.slice.injEq] at e; omega
          subst hlen
          by_cases hl : l = []
          · subst hl
            have hf : f [] = [] := List.eq_nil_of_length_eq_zero (h.len [])
            rw [hA]
            refine (h.none A c w).mono ?_
            rintro e w' ⟨rfl, rfl⟩
            refine ⟨_, env, rfl, fun _ _ _ => rfl, nores, fun i o ho _ => ?_, fun i j o o' b hne ho ho' => ?_, Kin.refl _ _⟩
            · obtain ⟨rfl, rfl⟩ := one ho
              show objRel env _ _ _ _ (.own v (f []) ty)
              rw [hf]
              exact G.obj 0 _ (by simp)
            · exact absurd ((one ho).1.trans (one ho').1.symm) hne
          · rcases o3.2 with ⟨e, hz⟩ | ⟨b, cap, cur, e, hb0, hb, hnc, hcm, hcs, htk⟩
            · exact absurd (List.eq_nil_of_length_eq_zero hz) hl
            · have hrow : RowAt w b (vals (cod v) l) := ⟨cur, ty, hb, by rw [vals_len]; exact htk⟩
              have hM : mineOf [HObj.own v l ty] env w b := .inr ⟨0, _, rfl, rfl, by simp [HObj.has, e, Value.ownBlock]⟩
              rw [hval, e]
              refine (h.some b cap l w hl hsz hrow).mono ?_
              rintro _ w' ⟨rfl, k, os, D, hD, rfl⟩
              have hDs : D.size = l.length * (cod v).size := by
                have := congrArg List.length hD
                rw [List.length_map, Array.length_toList, vals_len, h.len] at this
                exact this
              have hle : D.size ≤ cur.size := by
                rw [hDs, hcs]
                exact Nat.mul_le_mul_right _ hnc
              refine ⟨_, env, rfl, fun _ _ _ => rfl, nores, fun i o ho _ => ?_, fun i j o o' b hne ho ho' => ?_, kin_put e' D hM⟩
              · obtain ⟨rfl, rfl⟩ := one ho
                refine ⟨o1, o2, ⟨by rw [vals_len], .inr ⟨b, cap, _, by rw [h.len]; exact e, hb0, heap_put e' D hb, by rw [h.len]; exact hnc, hcm, by simp [putCells, hcs], ?_⟩⟩, fun q hq => .inr ⟨0, _, rfl, rfl, hq⟩, o5⟩
                rw [h.len, ← hDs, ← hD]
                exact take_put e' cur D hle
              · exact absurd ((one ho).1.trans (one ho').1.symm) hne
      · exact hg.elim
    · exact hg.elim
  · rename_i n t aas v l ty
    split at hg
    · rename_i hv
      subst hv
      split at hg
      · rename_i hex
        rw [T.gives_need, T.gives_ret] at hg
        obtain ⟨⟨rfl, hsz⟩, hg⟩ := hg
        simp only [Prod.mk.injEq] at hg
        obtain ⟨rfl, rfl⟩ := hg
        cases ha with
        | @cons _ v0 _ vs hx hxs =>
          have hvs := fnArgs_rel hex hxs
          subst hvs
          obtain ⟨_, A, c, rfl, hc1, hc2, _, hA⟩ := hx
          obtain ⟨o1, o2, o3, o4⟩ := G.obj 0 (.arr v l ty) (by simp)
          by_cases hl : l = []
          · subst hl
            have hf : f [] = [] := List.eq_nil_of_length_eq_zero (h.len [])
            refine (h.none A c w).mono ?_
            rintro e w' ⟨rfl, rfl⟩
            refine ⟨_, env, rfl, fun _ _ _ => rfl, nores, fun i o ho _ => ?_, fun i j o o' b hne ho ho' => ?_, Kin.refl _ _⟩
            · obtain ⟨rfl, rfl⟩ := one ho
              show objRel env _ _ _ _ (.arr v (f []) ty)
              rw [hf]
              exact G.obj 0 _ (by simp)
            · exact absurd ((one ho).1.trans (one ho').1.symm) hne
          · have hp : 0 < l.length := List.length_pos_iff.2 hl
            have e := hA hp
            have hadr : (env 0).addr 0 0 = ⟨(env 0).block, 0, none⟩ := by simp [HV.addr, o1]
            rw [hadr] at e
            subst e
            have hrow : RowAt w (env 0).block (vals (cod v) l) := ⟨_, ty, o4, by simp⟩
            have hM : mineOf [HObj.arr v l ty] env w (env 0).block := .inr ⟨0, _, rfl, rfl, rfl⟩
            refine (h.some (env 0).block c l w hl hsz hrow).mono ?_
            rintro _ w' ⟨rfl, k, os, D, hD, rfl⟩
            have hDs : D.size = l.length * (cod v).size := by
              have := congrArg List.length hD
              rw [List.length_map, Array.length_toList, vals_len, h.len] at this
              exact this
            refine ⟨_, env, rfl, fun _ _ _ => rfl, nores, fun i o ho _ => ?_, fun i j o o' b hne ho ho' => ?_, kin_put e' D hM⟩
            · obtain ⟨rfl, rfl⟩ := one ho
              refine ⟨o1, o2, hM, ?_⟩
              rw [heap_put e' D o4]
              congr 2
              apply Array.ext'
              have h1 := take_put e' (vals (cod v) l).toArray D (by rw [hDs]; simp [vals_len])
              rw [hD] at h1
              rw [← h1, List.take_of_length_le]
              rw [Array.length_toList]
              simp [putCells, hDs, vals_len]
            · exact absurd ((one ho).1.trans (one ho').1.symm) hne
      · exact hg.elim
    · exact hg.elim
  · exact hg.elim
end
end Go.Proofs.YtiolfkmkbccndaaGreatDoor.Sym
end
