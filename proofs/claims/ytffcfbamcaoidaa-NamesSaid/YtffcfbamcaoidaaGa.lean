/- Part of a claim: lemmas on the way to its theorem; each states its own conditions. -/
import Derived.Test.YtffcfbamcaoidaaSym20
import Derived.Test.YtffcfbamcaoidaaSym22
import Derived.Test.YtffcfbamcaoidaaAr
import Derived.Test.YtffcfbamcaoidaaRows
namespace Go.Proofs.Ytffcfbamcaoidaa
open Sym Go.RowKit
noncomputable section
def intC : Codec where
  α := Int
  enc := fun x => [.int .i64 x]
  dec := fun l => match l with | [.int _ a0] => a0 | _ => 0
  ok := fun l => match l with | [.int .i64 _] => true | _ => false
  size := 1
  d := 0
  size_eq := fun _ => rfl
  scal := fun _ => rfl
  ok_spec := fun e h => by
    split at h
    · rfl
    · cases h
  pos := Nat.zero_lt_succ _
def c2 : Codec where
  α := Int × Int
  enc := fun x => [.int .i64 x.1, .int .i64 x.2]
  dec := fun l => match l with | [.int _ a0, .int _ a1] => (a0, a1) | _ => (0, 0)
  ok := fun l => match l with | [.int .i64 _, .int .i64 _] => true | _ => false
  size := 2
  d := (0, 0)
  size_eq := fun _ => rfl
  scal := fun _ => rfl
  ok_spec := fun e h => by
    split at h
    · rfl
    · cases h
  pos := Nat.zero_lt_succ _
def c3 : Codec where
  α := Int × Int × Int
  enc := fun x => [.int .i64 x.1, .int .i64 x.2.1, .int .i64 x.2.2]
  dec := fun l => match l with | [.int _ a0, .int _ a1, .int _ a2] => (a0, a1, a2) | _ => (0, 0, 0)
  ok := fun l => match l with | [.int .i64 _, .int .i64 _, .int .i64 _] => true | _ => false
  size := 3
  d := (0, 0, 0)
  size_eq := fun _ => rfl
  scal := fun _ => rfl
  ok_spec := fun e h => by
    split at h
    · rfl
    · cases h
  pos := Nat.zero_lt_succ _
def boolC : Codec where
  α := Bool
  enc := fun x => [.bool x]
  dec := fun l => match l with | [.bool a0] => a0 | _ => false
  ok := fun l => match l with | [.bool _] => true | _ => false
  size := 1
  d := false
  size_eq := fun _ => rfl
  scal := fun _ => rfl
  ok_spec := fun e h => by
    split at h
    · rfl
    · cases h
  pos := Nat.zero_lt_succ _
def c4 : Codec where
  α := Int × Int × Int × Int
  enc := fun x => [.int .i64 x.1, .int .i64 x.2.1, .int .i64 x.2.2.1, .int .i64 x.2.2.2]
  dec := fun l => match l with | [.int _ a0, .int _ a1, .int _ a2, .int _ a3] => (a0, a1, a2, a3) | _ => (0, 0, 0, 0)
  ok := fun l => match l with | [.int .i64 _, .int .i64 _, .int .i64 _, .int .i64 _] => true | _ => false
  size := 4
  d := (0, 0, 0, 0)
  size_eq := fun _ => rfl
  scal := fun _ => rfl
  ok_spec := fun e h => by
    split at h
    · rfl
    · cases h
  pos := Nat.zero_lt_succ _
def strC : Codec where
  α := List UInt8
  enc := fun x => [.str x]
  dec := fun l => match l with | [.str a0] => a0 | _ => []
  ok := fun l => match l with | [.str _] => true | _ => false
  size := 1
  d := []
  size_eq := fun _ => rfl
  scal := fun _ => rfl
  ok_spec := fun e h => by
    split at h
    · rfl
    · cases h
  pos := Nat.zero_lt_succ _
def csi2 : Codec where
  α := List UInt8 × Int × Int
  enc := fun x => [.str x.1, .int .i64 x.2.1, .int .i64 x.2.2]
  dec := fun l => match l with | [.str a0, .int _ a1, .int _ a2] => (a0, a1, a2) | _ => ([], 0, 0)
  ok := fun l => match l with | [.str _, .int .i64 _, .int .i64 _] => true | _ => false
  size := 3
  d := ([], 0, 0)
  size_eq := fun _ => rfl
  scal := fun _ => rfl
  ok_spec := fun e h => by
    split at h
    · rfl
    · cases h
  pos := Nat.zero_lt_succ _
def csi3 : Codec where
  α := List UInt8 × Int × Int × Int
  enc := fun x => [.str x.1, .int .i64 x.2.1, .int .i64 x.2.2.1, .int .i64 x.2.2.2]
  dec := fun l => match l with | [.str a0, .int _ a1, .int _ a2, .int _ a3] => (a0, a1, a2, a3) | _ => ([], 0, 0, 0)
  ok := fun l => match l with | [.str _, .int .i64 _, .int .i64 _, .int .i64 _] => true | _ => false
  size := 4
  d := ([], 0, 0, 0)
  size_eq := fun _ => rfl
  scal := fun _ => rfl
  ok_spec := fun e h => by
    split at h
    · rfl
    · cases h
  pos := Nat.zero_lt_succ _
def cisi : Codec where
  α := Int × List UInt8 × Int
  enc := fun x => [.int .i64 x.1, .str x.2.1, .int .i64 x.2.2]
  dec := fun l => match l with | [.int _ a0, .str a1, .int _ a2] => (a0, a1, a2) | _ => (0, [], 0)
  ok := fun l => match l with | [.int .i64 _, .str _, .int .i64 _] => true | _ => false
  size := 3
  d := (0, [], 0)
  size_eq := fun _ => rfl
  scal := fun _ => rfl
  ok_spec := fun e h => by
    split at h
    · rfl
    · cases h
  pos := Nat.zero_lt_succ _
def u8C : Codec where
  α := Int
  enc := fun x => [.int .u8 x]
  dec := fun l => match l with | [.int _ a0] => a0 | _ => 0
  ok := fun l => match l with | [.int .u8 _] => true | _ => false
  size := 1
  d := 0
  size_eq := fun _ => rfl
  scal := fun _ => rfl
  ok_spec := fun e h => by
    split at h
    · rfl
    · cases h
  pos := Nat.zero_lt_succ _
noncomputable def cod : Nat → Codec
  | 0 => intC
  | 1 => c2
  | 2 => c3
  | 3 => boolC
  | 4 => c4
  | 5 => strC
  | 6 => csi2
  | 7 => csi3
  | 8 => cisi
  | 9 => u8C
  | _ => intC
def ctags : List (TypeId × Nat) := [(3, 0), (28, 0), (83, 0), (23, 1), (54, 1), (157, 0), (158, 1), (86, 2), (4, 3), (63, 4), (66, 4), (43, 4), (9, 5), (107, 6), (108, 6), (51, 7), (112, 8), (5, 9), (1000000 + 43, 0)]
def ctg (t : TypeId) : Option Nat := (ctags.find? fun p => p.1 == t).map (·.2)
def loud : List FuncId := [14, 22, 23, 45, 85, 26, 30, 79, 48, 34, 38, 39, 84, 42, 50, 59, 60, 61, 95, 65, 91, 90]
set_option maxRecDepth 100000
set_option maxHeartbeats 4000000
noncomputable def mkC (L : Sums cod) : Cfg cod := { P := Try.prog, ctag := ctg, summ := lookS L, summI := lookI L, quiet := fun g => !loud.contains g, wrap := false }
noncomputable def mkW (L : Sums cod) : Cfg cod := { P := Try.prog, ctag := ctg, summ := lookS L, summI := lookI L, quiet := fun g => !loud.contains g, wrap := true }
noncomputable def L_0 : Sums cod := []
noncomputable def C_0 : Cfg cod := mkC L_0


theorem L_0_ok : Snd Try.prog cod L_0 := .nil
theorem mixed : Try.prog.follows .mixedOrders = true := by kernel_rfl

namespace F
def inb (n lo hi : Int) : Bool := decide (lo ≤ n) && decide (n ≤ hi)
def abs (n : Int) : Int := if n < 0 then -n else n
def pt (x y : Int) : Int := if inb x (-1000000) 1000000 && inb y (-1000000) 1000000 then 0 else 4
def placed (x y : Int) : Bool := inb x (-1000000) 1000000 && inb y (-1000000) 1000000
def z (e x : Int) : Int := if e = 0 then x else 0
def far (x y : Int) : Bool := decide (x < -2000) || (decide (2000 < x) || (decide (y < -2000) || decide (2000 < y)))
end F

noncomputable def s_in : Summ cod := fun args H => match H with
  | [] => match rd args with
    | some [[n], [lo], [hi]] => (.ret (.c (.bool (F.inb n lo hi)), []))
    | _ => .fail
  | _ => .fail

theorem in_tree (n lo hi : Int) : symF C_0 [] Try.f15.results.toList (List.length ([] : Heap cod)) 400 [.code (codeOf Try.f15)] ⟨argsS Try.f15 [.c (.int .i64 n), .c (.int .i64 lo), .c (.int .i64 hi)], []⟩ =
 cond (decide (lo ≤ n)) (
 .ret (.fin (.c (.bool (decide (n ≤ hi)))) [])) (
 .ret (.fin (.c (.bool false)) [])) := by kernel_rfl

theorem in_sound : Sound Try.prog cod 15 s_in := sound_flat (cfg := C_0) L_0_ok mixed Try.func15 rfl rfl _ 400 fun args H r news hg => by
  unfold s_in at hg
  split at hg
  · split at hg
    · rename_i n lo hi hrd
      have hargs := rd_spec hrd
      simp only [List.map, wr1, ints, List.tail] at hargs
      subst hargs
      clear hrd
      rw [in_tree]
      try simp only [T.gives, T.wp, Prod.mk.injEq] at hg
      obtain ⟨rfl, rfl⟩ := hg
      simp only [T.wp, T.wp_cond, Fin.fin.injEq, SV.c.injEq, Cell.bool.injEq, Cell.int.injEq, and_true, true_and, decide_eq_true_eq, F.inb]
      (repeat' split) <;> simp_all <;> omega
    · exact hg.elim
  · exact hg.elim

noncomputable def L_in : Sums cod := (15, .p s_in) :: L_0
noncomputable def C_in : Cfg cod := mkC L_in

theorem L_in_ok : Snd Try.prog cod L_in := .cons in_sound L_0_ok

noncomputable def s_abs : Summ cod := fun args H => match H with
  | [] => match rd args with
    | some [[n]] => (.need (i64ok (-n)) (.ret (.c (.int .i64 (F.abs n)), [])))
    | _ => .fail
  | _ => .fail

theorem abs_tree (n : Int) : symF C_in [] Try.f16.results.toList (List.length ([] : Heap cod)) 400 [.code (codeOf Try.f16)] ⟨argsS Try.f16 [.c (.int .i64 n)], []⟩ =
 cond (decide (n < 0)) (
 .need (i64ok (-n)) (
 .ret (.fin (.c (.int .i64 (-n))) []))) (
 .ret (.fin (.c (.int .i64 n)) [])) := by kernel_rfl

theorem abs_sound : Sound Try.prog cod 16 s_abs := sound_flat (cfg := C_in) L_in_ok mixed Try.func16 rfl rfl _ 400 fun args H r news hg => by
  unfold s_abs at hg
  split at hg
  · split at hg
    · rename_i n hrd
      have hargs := rd_spec hrd
      simp only [List.map, wr1, ints, List.tail] at hargs
      subst hargs
      clear hrd
      rw [abs_tree]
      simp only [T.gives, T.wp, Prod.mk.injEq] at hg
      obtain ⟨h1, rfl, rfl⟩ := hg
      simp only [T.wp, T.wp_cond, Fin.fin.injEq, SV.c.injEq, SV.tup.injEq, SV.agg.injEq, List.cons.injEq, Cell.bool.injEq, Cell.int.injEq, and_true, true_and, decide_eq_true_eq]
      unfold F.abs
      by_cases h : n < 0 <;> simp [h, h1]
    · exact hg.elim
  · exact hg.elim

noncomputable def L_abs : Sums cod := (16, .p s_abs) :: L_in
noncomputable def C_abs : Cfg cod := mkC L_abs

theorem L_abs_ok : Snd Try.prog cod L_abs := .cons abs_sound L_in_ok

noncomputable def s_far : Summ cod := fun args H => match H with
  | [] => match rd args with
    | some [[_, x, y]] => (.ret (.c (.bool (F.far x y)), []))
    | _ => .fail
  | _ => .fail

theorem far_tree (x y : Int) : symF C_abs [] Try.f66.results.toList (List.length ([] : Heap cod)) 400 [.code (codeOf Try.f66)] ⟨argsS Try.f66 [.agg [.int .i64 x, .int .i64 y]], []⟩ =
 cond (decide (x < -2000)) (
 .ret (.fin (.c (.bool true)) [])) (
 cond (decide (2000 < x)) (
  .ret (.fin (.c (.bool true)) [])) (
  cond (decide (y < -2000)) (
   .ret (.fin (.c (.bool true)) [])) (
   .ret (.fin (.c (.bool (decide (2000 < y)))) [])))) := by kernel_rfl

theorem far_sound : Sound Try.prog cod 66 s_far := sound_flat (cfg := C_abs) L_abs_ok mixed Try.func66 rfl rfl _ 400 fun args H r news hg => by
  unfold s_far at hg
  split at hg
  · split at hg
    · rename_i _ x y hrd
      have hargs := rd_spec hrd
      simp only [List.map, wr1, ints, List.tail] at hargs
      subst hargs
      clear hrd
      rw [far_tree]
      simp only [T.gives, T.wp, Prod.mk.injEq] at hg
      obtain ⟨rfl, rfl⟩ := hg
      simp only [T.wp, T.wp_cond, Fin.fin.injEq, SV.c.injEq, SV.tup.injEq, SV.agg.injEq, List.cons.injEq, Cell.bool.injEq, Cell.int.injEq, and_true, true_and, decide_eq_true_eq]
      unfold F.far
      by_cases h1 : x < -2000 <;> by_cases h2 : 2000 < x <;> by_cases h3 : y < -2000 <;> simp [h1, h2, h3]
    · exact hg.elim
  · exact hg.elim

noncomputable def L_far : Sums cod := (66, .p s_far) :: L_abs
noncomputable def C_far : Cfg cod := mkC L_far

theorem L_far_ok : Snd Try.prog cod L_far := .cons far_sound L_abs_ok

noncomputable def s_pcheck : Summ cod := fun args H => match H with
  | [] => match rd args with
    | some [[_, x, y]] => (.ret (.c (.int .i64 (F.pt x y)), []))
    | _ => .fail
  | _ => .fail

theorem pcheck_tree (x y : Int) : symF C_far [] Try.f75.results.toList (List.length ([] : Heap cod)) 400 [.code (codeOf Try.f75)] ⟨argsS Try.f75 [.agg [.int .i64 x, .int .i64 y]], []⟩ =
 cond (decide (x < -1000000)) (
 .ret (.fin (.c (.int .i64 4)) [])) (
 cond (decide (1000000 < x)) (
  .ret (.fin (.c (.int .i64 4)) [])) (
  cond (decide (y < -1000000)) (
   .ret (.fin (.c (.int .i64 4)) [])) (
   cond (decide (1000000 < y)) (
    .ret (.fin (.c (.int .i64 4)) [])) (
    .ret (.fin (.c (.int .i64 0)) []))))) := by kernel_rfl

theorem pcheck_sound : Sound Try.prog cod 75 s_pcheck := sound_flat (cfg := C_far) L_far_ok mixed Try.func75 rfl rfl _ 400 fun args H r news hg => by
  unfold s_pcheck at hg
  split at hg
  · split at hg
    · rename_i _ x y hrd
      have hargs := rd_spec hrd
      simp only [List.map, wr1, ints, List.tail] at hargs
      subst hargs
      clear hrd
      rw [pcheck_tree]
      try simp only [T.gives, T.wp, Prod.mk.injEq] at hg
      obtain ⟨rfl, rfl⟩ := hg
      simp only [T.wp, T.wp_cond, Fin.fin.injEq, SV.c.injEq, Cell.bool.injEq, Cell.int.injEq, and_true, true_and, decide_eq_true_eq, F.pt, F.inb]
      (repeat' split) <;> simp_all <;> omega
    · exact hg.elim
  · exact hg.elim

noncomputable def L_pcheck : Sums cod := (75, .p s_pcheck) :: L_far
noncomputable def C_pcheck : Cfg cod := mkC L_pcheck

theorem L_pcheck_ok : Snd Try.prog cod L_pcheck := .cons pcheck_sound L_far_ok

noncomputable def s_placed : Summ cod := fun args H => match H with
  | [] => match rd args with
    | some [[_, x, y]] => (.ret (.c (.bool (F.placed x y)), []))
    | _ => .fail
  | _ => .fail

theorem placed_tree (x y : Int) : symF C_pcheck [] Try.f63.results.toList (List.length ([] : Heap cod)) 400 [.code (codeOf Try.f63)] ⟨argsS Try.f63 [.agg [.int .i64 x, .int .i64 y]], []⟩ =
 cond (F.inb x (-1000000) 1000000) (
 .ret (.fin (.c (.bool (F.inb y (-1000000) 1000000))) [])) (
 .ret (.fin (.c (.bool false)) [])) := by kernel_rfl

theorem placed_sound : Sound Try.prog cod 63 s_placed := sound_flat (cfg := C_pcheck) L_pcheck_ok mixed Try.func63 rfl rfl _ 400 fun args H r news hg => by
  unfold s_placed at hg
  split at hg
  · split at hg
    · rename_i _ x y hrd
      have hargs := rd_spec hrd
      simp only [List.map, wr1, ints, List.tail] at hargs
      subst hargs
      clear hrd
      rw [placed_tree]
      try simp only [T.gives, T.wp, Prod.mk.injEq] at hg
      obtain ⟨rfl, rfl⟩ := hg
      simp only [T.wp, T.wp_cond, Fin.fin.injEq, SV.c.injEq, Cell.bool.injEq, Cell.int.injEq, and_true, true_and, decide_eq_true_eq, F.placed]
      (repeat' split) <;> simp_all <;> omega
    · exact hg.elim
  · exact hg.elim

noncomputable def L_placed : Sums cod := (63, .p s_placed) :: L_pcheck
noncomputable def C_placed : Cfg cod := mkC L_placed

theorem L_placed_ok : Snd Try.prog cod L_placed := .cons placed_sound L_pcheck_ok

noncomputable def s_divdown : Summ cod := fun args H => match H with
  | [] => match rd args with
    | some [[a], [b]] => (.need (0 < b ∧ i64ok a) (.ret (.tup [.c (.int .i64 (a / b)), .c (.int .i64 0)], [])))
    | _ => .fail
  | _ => .fail

theorem divdown_tree (a b : Int) : symF C_placed [] Try.f67.results.toList (List.length ([] : Heap cod)) 400 [.code (codeOf Try.f67)] ⟨argsS Try.f67 [.c (.int .i64 a), .c (.int .i64 b)], []⟩ =
 cond (decide (b = 0)) (
 .ret (.fin (.tup [.c (.int .i64 0), .c (.int .i64 10)]) [])) (
 cond (decide (a = -9223372036854775808)) (
  cond (decide (b = -1)) (
   .ret (.fin (.tup [.c (.int .i64 0), .c (.int .i64 2)]) [])) (
   .need (b ≠ 0) (
   .need (i64ok (Int.tdiv a b)) (
   .need (b ≠ 0) (
   cond (!decide (Int.tmod a b = 0)) (
    cond (!decide (a < 0) == decide (b < 0)) (
     .need (i64ok (Int.tdiv a b - 1)) (
     .ret (.fin (.tup [.c (.int .i64 (Int.tdiv a b - 1)), .c (.int .i64 0)]) []))) (
     .ret (.fin (.tup [.c (.int .i64 (Int.tdiv a b)), .c (.int .i64 0)]) []))) (
    .ret (.fin (.tup [.c (.int .i64 (Int.tdiv a b)), .c (.int .i64 0)]) []))))))) (
  .need (b ≠ 0) (
  .need (i64ok (Int.tdiv a b)) (
  .need (b ≠ 0) (
  cond (!decide (Int.tmod a b = 0)) (
   cond (!decide (a < 0) == decide (b < 0)) (
    .need (i64ok (Int.tdiv a b - 1)) (
    .ret (.fin (.tup [.c (.int .i64 (Int.tdiv a b - 1)), .c (.int .i64 0)]) []))) (
    .ret (.fin (.tup [.c (.int .i64 (Int.tdiv a b)), .c (.int .i64 0)]) []))) (
   .ret (.fin (.tup [.c (.int .i64 (Int.tdiv a b)), .c (.int .i64 0)]) []))))))) := by kernel_rfl

theorem divdown_sound : Sound Try.prog cod 67 s_divdown := sound_flat (cfg := C_placed) L_placed_ok mixed Try.func67 rfl rfl _ 400 fun args H r news hg => by
  unfold s_divdown at hg
  split at hg
  · split at hg
    · rename_i a b hrd
      have hargs := rd_spec hrd
      simp only [List.map, wr1, ints, List.tail] at hargs
      subst hargs
      clear hrd
      rw [divdown_tree]
      simp only [T.gives, T.wp, Prod.mk.injEq] at hg
      obtain ⟨⟨h1, h2⟩, rfl, rfl⟩ := hg
      simp only [T.wp, T.wp_cond, Fin.fin.injEq, SV.c.injEq, SV.tup.injEq, SV.agg.injEq, List.cons.injEq, Cell.bool.injEq, Cell.int.injEq, and_true, true_and, decide_eq_true_eq]
      have g1 := tdiv_bd a b h1 h2
      obtain ⟨g2, g3⟩ := floor_tmod a b h1 h2
      have g4 : b ≠ 0 := by omega
      have g5 : ¬ b < 0 := by omega
      have g6 : ¬ b = -1 := by omega
      by_cases hm : a.tmod b = 0
      · have := g3 (.inl hm)
        (repeat' split) <;> simp_all
      · by_cases ha : a < 0
        · have := g2 hm ha
          (repeat' split) <;> simp_all
        · have := g3 (.inr (by omega))
          (repeat' split) <;> simp_all <;> omega
    · exact hg.elim
  · exact hg.elim

noncomputable def L_divdown : Sums cod := (67, .p s_divdown) :: L_placed
noncomputable def C_divdown : Cfg cod := mkC L_divdown

theorem L_divdown_ok : Snd Try.prog cod L_divdown := .cons divdown_sound L_placed_ok

end
end Go.Proofs.Ytffcfbamcaoidaa
