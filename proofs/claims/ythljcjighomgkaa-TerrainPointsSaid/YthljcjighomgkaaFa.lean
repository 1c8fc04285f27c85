/- Part of a claim: lemmas on the way to its theorem; each states its own conditions. -/
import Derived.Test.YthljcjighomgkaaSym20
import Derived.Test.YthljcjighomgkaaRows
namespace Go.Proofs.Ythljcjighomgkaa
open Sym Go.RowKit
noncomputable section
def intC : Codec where
  α := Int
  enc := fun x => [.int .i64 x]
  dec := fun l => match l with | [.int _ a0] => (a0) | _ => (0)
  ok := fun l => match l with | [.int .i64 _] => true | _ => false
  size := 1
  d := (0)
  size_eq := fun _ => rfl
  scal := fun _ => rfl
  ok_spec := fun e h => by
    split at h
    · rfl
    · cases h
  pos := Nat.zero_lt_succ _

def c2 : Codec where
  α := Int × Int
  enc := fun x => [.int .i64 x.1, .int .i64 x.2]
  dec := fun l => match l with | [.int _ a0, .int _ a1] => (a0, a1) | _ => (0, 0)
  ok := fun l => match l with | [.int .i64 _, .int .i64 _] => true | _ => false
  size := 2
  d := (0, 0)
  size_eq := fun _ => rfl
  scal := fun _ => rfl
  ok_spec := fun e h => by
    split at h
    · rfl
    · cases h
  pos := Nat.zero_lt_succ _

def c6 : Codec where
  α := Int × Int × Int × Int × Int × Int
  enc := fun x => [.int .i64 x.1, .int .i64 x.2.1, .int .i64 x.2.2.1, .int .i64 x.2.2.2.1, .int .i64 x.2.2.2.2.1, .int .i64 x.2.2.2.2.2]
  dec := fun l => match l with | [.int _ a0, .int _ a1, .int _ a2, .int _ a3, .int _ a4, .int _ a5] => (a0, a1, a2, a3, a4, a5) | _ => (0, 0, 0, 0, 0, 0)
  ok := fun l => match l with | [.int .i64 _, .int .i64 _, .int .i64 _, .int .i64 _, .int .i64 _, .int .i64 _] => true | _ => false
  size := 6
  d := (0, 0, 0, 0, 0, 0)
  size_eq := fun _ => rfl
  scal := fun _ => rfl
  ok_spec := fun e h => by
    split at h
    · rfl
    · cases h
  pos := Nat.zero_lt_succ _
def boolC : Codec where
  α := Bool
  enc := fun x => [.bool x]
  dec := fun l => match l with | [.bool x] => x | _ => false
  ok := fun l => match l with | [.bool _] => true | _ => false
  size := 1
  d := false
  size_eq := fun _ => rfl
  scal := fun _ => rfl
  ok_spec := fun e h => by
    split at h
    · rfl
    · cases h
  pos := Nat.zero_lt_one
def c20 : Codec where
  α := Nat → Int
  enc := fun x => [.int .i64 (x 0), .int .i64 (x 1), .int .i64 (x 2), .int .i64 (x 3), .int .i64 (x 4), .int .i64 (x 5), .int .i64 (x 6), .int .i64 (x 7), .int .i64 (x 8), .int .i64 (x 9), .int .i64 (x 10), .int .i64 (x 11), .int .i64 (x 12), .int .i64 (x 13), .int .i64 (x 14), .int .i64 (x 15), .int .i64 (x 16), .int .i64 (x 17), .int .i64 (x 18), .int .i64 (x 19)]
  dec := fun l k => match l.getD k .junk with | .int _ x => x | _ => 0
  ok := fun l => match l with | [.int .i64 _, .int .i64 _, .int .i64 _, .int .i64 _, .int .i64 _, .int .i64 _, .int .i64 _, .int .i64 _, .int .i64 _, .int .i64 _, .int .i64 _, .int .i64 _, .int .i64 _, .int .i64 _, .int .i64 _, .int .i64 _, .int .i64 _, .int .i64 _, .int .i64 _, .int .i64 _] => true | _ => false
  size := 20
  d := fun _ => 0
  size_eq := fun _ => rfl
  scal := fun _ => rfl
  ok_spec := fun e h => by
    split at h
    · rfl
    · cases h
  pos := Nat.zero_lt_succ _
def c13 : Codec where
  α := Nat → Int
  enc := fun x => [.int .i64 (x 0), .int .i64 (x 1), .int .i64 (x 2), .int .i64 (x 3), .int .i64 (x 4), .int .i64 (x 5), .int .i64 (x 6), .int .i64 (x 7), .int .i64 (x 8), .int .i64 (x 9), .int .i64 (x 10), .int .i64 (x 11), .int .i64 (x 12)]
  dec := fun l k => match l.getD k .junk with | .int _ x => x | _ => 0
  ok := fun l => match l with | [.int .i64 _, .int .i64 _, .int .i64 _, .int .i64 _, .int .i64 _, .int .i64 _, .int .i64 _, .int .i64 _, .int .i64 _, .int .i64 _, .int .i64 _, .int .i64 _, .int .i64 _] => true | _ => false
  size := 13
  d := fun _ => 0
  size_eq := fun _ => rfl
  scal := fun _ => rfl
  ok_spec := fun e h => by
    split at h
    · rfl
    · cases h
  pos := Nat.zero_lt_succ _
noncomputable def cod : Nat → Codec
  | 0 => intC
  | 1 => c2
  | 2 => c6
  | 3 => boolC
  | 4 => c20
  | 5 => c13
  | _ => intC
def ctags : List (TypeId × Nat) := [(3, 0), (43, 1), (92, 2), (4, 3), (25, 5)]
def ctg (t : TypeId) : Option Nat := (ctags.find? fun p => p.1 == t).map (·.2)
set_option maxRecDepth 100000
set_option maxHeartbeats 4000000
noncomputable def mkC (L : Sums cod) : Cfg cod := { P := Try.prog, ctag := ctg, summ := lookS L, summI := lookI L, quiet := fun _ => true, wrap := false }
noncomputable def mkW (L : Sums cod) : Cfg cod := { P := Try.prog, ctag := ctg, summ := lookS L, summI := lookI L, quiet := fun _ => true, wrap := true }
noncomputable def L_0 : Sums cod := []
noncomputable def C_0 : Cfg cod := mkC L_0


theorem L_0_ok : Snd Try.prog cod L_0 := .nil
theorem mixed : Try.prog.follows .mixedOrders = true := by kernel_rfl

namespace F
def inb (n lo hi : Int) : Bool := decide (lo ≤ n) && decide (n ≤ hi)
def out (n lo hi : Int) : Bool := decide (n < lo) || decide (hi < n)
def pt (x y : Int) : Int := if inb x (-1000000) 1000000 && inb y (-1000000) 1000000 then 0 else 4
def placed (x y : Int) : Bool := inb x (-1000000) 1000000 && inb y (-1000000) 1000000
def site (a b c d e f : Int) : Int := if inb a 0 255 && (placed b c && (inb d 1 1000000 && (inb e 1 10000 && inb f 1 100))) then 0 else 4
def plot (a b c d e f : Int) : Int := if inb a 0 255 && (inb b 0 200000 && (inb c 0 2000000 && (inb d 0 4095 && (inb e 0 60000 && inb f (-1) 4095)))) then 0 else 4
def spot (a b c d e f : Int) : Int := if inb a 0 200000 && (placed b c && (inb d 0 60000 && (inb e (-1) 4095 && inb f 0 1000000))) then 0 else 4
end F

noncomputable def s_in : Summ cod := fun args H => match H with
  | [] => match rd args with
    | some [[n], [lo], [hi]] => (.ret (.c (.bool (F.inb n lo hi)), []))
    | _ => .fail
  | _ => .fail

theorem in_tree (n lo hi : Int) : symF C_0 [] Try.f17.results.toList (List.length ([] : Heap cod)) 400 [.code (codeOf Try.f17)] ⟨argsS Try.f17 [.c (.int .i64 n), .c (.int .i64 lo), .c (.int .i64 hi)], []⟩ =
 cond (decide (lo ≤ n)) (
 .ret (.fin (.c (.bool (decide (n ≤ hi)))) [])) (
 .ret (.fin (.c (.bool false)) [])) := by kernel_rfl

theorem in_sound : Sound Try.prog cod 17 s_in := sound_flat (cfg := C_0) L_0_ok mixed Try.func17 rfl rfl _ 400 fun args H r news hg => by
  unfold s_in at hg
  split at hg
  · split at hg
    · rename_i n lo hi hrd
      have hargs := rd_spec hrd
      simp only [List.map, wr1, ints, List.tail] at hargs
      subst hargs
      clear hrd
      rw [in_tree]
      try simp only [T.gives, T.wp, Prod.mk.injEq] at hg
      obtain ⟨rfl, rfl⟩ := hg
      simp only [T.wp, T.wp_cond, Fin.fin.injEq, SV.c.injEq, Cell.bool.injEq, Cell.int.injEq, and_true, true_and, decide_eq_true_eq, F.inb]
      (repeat' split) <;> simp_all <;> omega
    · exact hg.elim
  · exact hg.elim

noncomputable def L_in : Sums cod := (17, .p s_in) :: L_0
noncomputable def C_in : Cfg cod := mkC L_in

theorem L_in_ok : Snd Try.prog cod L_in := .cons in_sound L_0_ok

noncomputable def s_out : Summ cod := fun args H => match H with
  | [] => match rd args with
    | some [[n], [lo], [hi]] => (.ret (.c (.bool (F.out n lo hi)), []))
    | _ => .fail
  | _ => .fail

theorem out_tree (n lo hi : Int) : symF C_in [] Try.f66.results.toList (List.length ([] : Heap cod)) 400 [.code (codeOf Try.f66)] ⟨argsS Try.f66 [.c (.int .i64 n), .c (.int .i64 lo), .c (.int .i64 hi)], []⟩ =
 cond (decide (n < lo)) (
 .ret (.fin (.c (.bool true)) [])) (
 .ret (.fin (.c (.bool (decide (hi < n)))) [])) := by kernel_rfl

theorem out_sound : Sound Try.prog cod 66 s_out := sound_flat (cfg := C_in) L_in_ok mixed Try.func66 rfl rfl _ 400 fun args H r news hg => by
  unfold s_out at hg
  split at hg
  · split at hg
    · rename_i n lo hi hrd
      have hargs := rd_spec hrd
      simp only [List.map, wr1, ints, List.tail] at hargs
      subst hargs
      clear hrd
      rw [out_tree]
      try simp only [T.gives, T.wp, Prod.mk.injEq] at hg
      obtain ⟨rfl, rfl⟩ := hg
      simp only [T.wp, T.wp_cond, Fin.fin.injEq, SV.c.injEq, Cell.bool.injEq, Cell.int.injEq, and_true, true_and, decide_eq_true_eq, F.out]
      (repeat' split) <;> simp_all <;> omega
    · exact hg.elim
  · exact hg.elim

noncomputable def L_out : Sums cod := (66, .p s_out) :: L_in
noncomputable def C_out : Cfg cod := mkC L_out

theorem L_out_ok : Snd Try.prog cod L_out := .cons out_sound L_in_ok

noncomputable def s_pcheck : Summ cod := fun args H => match H with
  | [] => match rd args with
    | some [[_, x, y]] => (.ret (.c (.int .i64 (F.pt x y)), []))
    | _ => .fail
  | _ => .fail

theorem pcheck_tree (x y : Int) : symF C_out [] Try.f64.results.toList (List.length ([] : Heap cod)) 400 [.code (codeOf Try.f64)] ⟨argsS Try.f64 [.agg [.int .i64 x, .int .i64 y]], []⟩ =
 cond (decide (x < -1000000)) (
 .ret (.fin (.c (.int .i64 4)) [])) (
 cond (decide (1000000 < x)) (
  .ret (.fin (.c (.int .i64 4)) [])) (
  cond (decide (y < -1000000)) (
   .ret (.fin (.c (.int .i64 4)) [])) (
   cond (decide (1000000 < y)) (
    .ret (.fin (.c (.int .i64 4)) [])) (
    .ret (.fin (.c (.int .i64 0)) []))))) := by kernel_rfl

theorem pcheck_sound : Sound Try.prog cod 64 s_pcheck := sound_flat (cfg := C_out) L_out_ok mixed Try.func64 rfl rfl _ 400 fun args H r news hg => by
  unfold s_pcheck at hg
  split at hg
  · split at hg
    · rename_i _ x y hrd
      have hargs := rd_spec hrd
      simp only [List.map, wr1, ints, List.tail] at hargs
      subst hargs
      clear hrd
      rw [pcheck_tree]
      try simp only [T.gives, T.wp, Prod.mk.injEq] at hg
      obtain ⟨rfl, rfl⟩ := hg
      simp only [T.wp, T.wp_cond, Fin.fin.injEq, SV.c.injEq, Cell.bool.injEq, Cell.int.injEq, and_true, true_and, decide_eq_true_eq, F.pt, F.inb]
      (repeat' split) <;> simp_all <;> omega
    · exact hg.elim
  · exact hg.elim

noncomputable def L_pcheck : Sums cod := (64, .p s_pcheck) :: L_out
noncomputable def C_pcheck : Cfg cod := mkC L_pcheck

theorem L_pcheck_ok : Snd Try.prog cod L_pcheck := .cons pcheck_sound L_out_ok


theorem pt0 (x y : Int) : (F.pt x y = 0) = (F.inb x (-1000000) 1000000 = true ∧ F.inb y (-1000000) 1000000 = true) := by
  unfold F.pt
  simp only [Bool.and_eq_true]
  split <;> simp_all

noncomputable def s_placed : Summ cod := fun args H => match H with
  | [] => match rd args with
    | some [[_, x, y]] => (.ret (.c (.bool (F.placed x y)), []))
    | _ => .fail
  | _ => .fail

theorem placed_tree (x y : Int) : symF C_pcheck [] Try.f33.results.toList (List.length ([] : Heap cod)) 400 [.code (codeOf Try.f33)] ⟨argsS Try.f33 [.agg [.int .i64 x, .int .i64 y]], []⟩ =
 cond (F.inb x (-1000000) 1000000) (
 .ret (.fin (.c (.bool (F.inb y (-1000000) 1000000))) [])) (
 .ret (.fin (.c (.bool false)) [])) := by kernel_rfl

theorem placed_sound : Sound Try.prog cod 33 s_placed := sound_flat (cfg := C_pcheck) L_pcheck_ok mixed Try.func33 rfl rfl _ 400 fun args H r news hg => by
  unfold s_placed at hg
  split at hg
  · split at hg
    · rename_i _ x y hrd
      have hargs := rd_spec hrd
      simp only [List.map, wr1, ints, List.tail] at hargs
      subst hargs
      clear hrd
      rw [placed_tree]
      try simp only [T.gives, T.wp, Prod.mk.injEq] at hg
      obtain ⟨rfl, rfl⟩ := hg
      simp only [T.wp, T.wp_cond, Fin.fin.injEq, SV.c.injEq, Cell.bool.injEq, Cell.int.injEq, and_true, true_and, decide_eq_true_eq, F.placed]
      (repeat' split) <;> simp_all <;> omega
    · exact hg.elim
  · exact hg.elim

noncomputable def L_placed : Sums cod := (33, .p s_placed) :: L_pcheck
noncomputable def C_placed : Cfg cod := mkC L_placed

theorem L_placed_ok : Snd Try.prog cod L_placed := .cons placed_sound L_pcheck_ok

noncomputable def s_siteE : Summ cod := fun args H => match H with
  | [] => match rd args with
    | some [[_, a, b, c, d, e, f]] => (.ret (.c (.int .i64 (F.site a b c d e f)), []))
    | _ => .fail
  | _ => .fail

theorem siteE_tree (a b c d e f : Int) : symF C_placed [] Try.f26.results.toList (List.length ([] : Heap cod)) 400 [.code (codeOf Try.f26)] ⟨argsS Try.f26 [.agg [.int .i64 a, .int .i64 b, .int .i64 c, .int .i64 d, .int .i64 e, .int .i64 f]], []⟩ =
 cond (F.inb a 0 255) (
 cond (F.placed b c) (
  cond (F.inb d 1 1000000) (
   cond (F.inb e 1 10000) (
    cond (F.inb f 1 100) (
     .ret (.fin (.c (.int .i64 0)) [])) (
     .ret (.fin (.c (.int .i64 4)) []))) (
    .ret (.fin (.c (.int .i64 4)) []))) (
   .ret (.fin (.c (.int .i64 4)) []))) (
  .ret (.fin (.c (.int .i64 4)) []))) (
 .ret (.fin (.c (.int .i64 4)) [])) := by kernel_rfl

theorem siteE_sound : Sound Try.prog cod 26 s_siteE := sound_flat (cfg := C_placed) L_placed_ok mixed Try.func26 rfl rfl _ 400 fun args H r news hg => by
  unfold s_siteE at hg
  split at hg
  · split at hg
    · rename_i _ a b c d e f hrd
      have hargs := rd_spec hrd
      simp only [List.map, wr1, ints, List.tail] at hargs
      subst hargs
      clear hrd
      rw [siteE_tree]
      try simp only [T.gives, T.wp, Prod.mk.injEq] at hg
      obtain ⟨rfl, rfl⟩ := hg
      simp only [T.wp, T.wp_cond, Fin.fin.injEq, SV.c.injEq, Cell.bool.injEq, Cell.int.injEq, and_true, true_and, decide_eq_true_eq, F.site, pt0, F.placed, F.out, F.inb]
      (repeat' split) <;> simp_all <;> omega
    · exact hg.elim
  · exact hg.elim

noncomputable def L_siteE : Sums cod := (26, .p s_siteE) :: L_placed
noncomputable def C_siteE : Cfg cod := mkC L_siteE

theorem L_siteE_ok : Snd Try.prog cod L_siteE := .cons siteE_sound L_placed_ok

noncomputable def s_rcheck : Summ cod := fun args H => match H with
  | [] => match rd args with
    | some [[_, a, b, c, d, e, f]] => (.ret (.c (.int .i64 (F.site a b c d e f)), []))
    | _ => .fail
  | _ => .fail

theorem rcheck_tree (a b c d e f : Int) : symF C_siteE [] Try.f27.results.toList (List.length ([] : Heap cod)) 400 [.code (codeOf Try.f27)] ⟨argsS Try.f27 [.agg [.int .i64 a, .int .i64 b, .int .i64 c, .int .i64 d, .int .i64 e, .int .i64 f]], []⟩ =
 cond (F.out a 0 255) (
 .ret (.fin (.c (.int .i64 4)) [])) (
 cond (!decide (F.pt b c = 0)) (
  .ret (.fin (.c (.int .i64 4)) [])) (
  cond (F.out d 1 1000000) (
   .ret (.fin (.c (.int .i64 4)) [])) (
   cond (F.out e 1 10000) (
    .ret (.fin (.c (.int .i64 4)) [])) (
    cond (F.out f 1 100) (
     .ret (.fin (.c (.int .i64 4)) [])) (
     .ret (.fin (.c (.int .i64 0)) [])))))) := by kernel_rfl

theorem rcheck_sound : Sound Try.prog cod 27 s_rcheck := sound_flat (cfg := C_siteE) L_siteE_ok mixed Try.func27 rfl rfl _ 400 fun args H r news hg => by
  unfold s_rcheck at hg
  split at hg
  · split at hg
    · rename_i _ a b c d e f hrd
      have hargs := rd_spec hrd
      simp only [List.map, wr1, ints, List.tail] at hargs
      subst hargs
      clear hrd
      rw [rcheck_tree]
      try simp only [T.gives, T.wp, Prod.mk.injEq] at hg
      obtain ⟨rfl, rfl⟩ := hg
      simp only [T.wp, T.wp_cond, Fin.fin.injEq, SV.c.injEq, Cell.bool.injEq, Cell.int.injEq, and_true, true_and, decide_eq_true_eq, F.site, pt0, F.placed, F.out, F.inb]
      (repeat' split) <;> simp_all <;> omega
    · exact hg.elim
  · exact hg.elim

noncomputable def L_rcheck : Sums cod := (27, .p s_rcheck) :: L_siteE
noncomputable def C_rcheck : Cfg cod := mkC L_rcheck

theorem L_rcheck_ok : Snd Try.prog cod L_rcheck := .cons rcheck_sound L_siteE_ok

noncomputable def s_plotE : Summ cod := fun args H => match H with
  | [] => match rd args with
    | some [[_, a, b, c, d, e, f]] => (.ret (.c (.int .i64 (F.plot a b c d e f)), []))
    | _ => .fail
  | _ => .fail

theorem plotE_tree (a b c d e f : Int) : symF C_rcheck [] Try.f29.results.toList (List.length ([] : Heap cod)) 400 [.code (codeOf Try.f29)] ⟨argsS Try.f29 [.agg [.int .i64 a, .int .i64 b, .int .i64 c, .int .i64 d, .int .i64 e, .int .i64 f]], []⟩ =
 cond (F.inb a 0 255) (
 cond (F.inb b 0 200000) (
  cond (F.inb c 0 2000000) (
   cond (F.inb d 0 4095) (
    cond (F.inb e 0 60000) (
     cond (F.inb f (-1) 4095) (
      .ret (.fin (.c (.int .i64 0)) [])) (
      .ret (.fin (.c (.int .i64 4)) []))) (
     .ret (.fin (.c (.int .i64 4)) []))) (
    .ret (.fin (.c (.int .i64 4)) []))) (
   .ret (.fin (.c (.int .i64 4)) []))) (
  .ret (.fin (.c (.int .i64 4)) []))) (
 .ret (.fin (.c (.int .i64 4)) [])) := by kernel_rfl

theorem plotE_sound : Sound Try.prog cod 29 s_plotE := sound_flat (cfg := C_rcheck) L_rcheck_ok mixed Try.func29 rfl rfl _ 400 fun args H r news hg => by
  unfold s_plotE at hg
  split at hg
  · split at hg
    · rename_i _ a b c d e f hrd
      have hargs := rd_spec hrd
      simp only [List.map, wr1, ints, List.tail] at hargs
      subst hargs
      clear hrd
      rw [plotE_tree]
      try simp only [T.gives, T.wp, Prod.mk.injEq] at hg
      obtain ⟨rfl, rfl⟩ := hg
      simp only [T.wp, T.wp_cond, Fin.fin.injEq, SV.c.injEq, Cell.bool.injEq, Cell.int.injEq, and_true, true_and, decide_eq_true_eq, F.plot, pt0, F.placed, F.out, F.inb]
      (repeat' split) <;> simp_all <;> omega
    · exact hg.elim
  · exact hg.elim

noncomputable def L_plotE : Sums cod := (29, .p s_plotE) :: L_rcheck
noncomputable def C_plotE : Cfg cod := mkC L_plotE

theorem L_plotE_ok : Snd Try.prog cod L_plotE := .cons plotE_sound L_rcheck_ok

noncomputable def s_pcheckP : Summ cod := fun args H => match H with
  | [] => match rd args with
    | some [[_, a, b, c, d, e, f]] => (.ret (.c (.int .i64 (F.plot a b c d e f)), []))
    | _ => .fail
  | _ => .fail

theorem pcheckP_tree (a b c d e f : Int) : symF C_plotE [] Try.f28.results.toList (List.length ([] : Heap cod)) 400 [.code (codeOf Try.f28)] ⟨argsS Try.f28 [.agg [.int .i64 a, .int .i64 b, .int .i64 c, .int .i64 d, .int .i64 e, .int .i64 f]], []⟩ =
 cond (F.out a 0 255) (
 .ret (.fin (.c (.int .i64 4)) [])) (
 cond (F.out b 0 200000) (
  .ret (.fin (.c (.int .i64 4)) [])) (
  cond (F.out c 0 2000000) (
   .ret (.fin (.c (.int .i64 4)) [])) (
   cond (F.out d 0 4095) (
    .ret (.fin (.c (.int .i64 4)) [])) (
    cond (F.out e 0 60000) (
     .ret (.fin (.c (.int .i64 4)) [])) (
     cond (F.out f (-1) 4095) (
      .ret (.fin (.c (.int .i64 4)) [])) (
      .ret (.fin (.c (.int .i64 0)) []))))))) := by kernel_rfl

theorem pcheckP_sound : Sound Try.prog cod 28 s_pcheckP := sound_flat (cfg := C_plotE) L_plotE_ok mixed Try.func28 rfl rfl _ 400 fun args H r news hg => by
  unfold s_pcheckP at hg
  split at hg
  · split at hg
    · rename_i _ a b c d e f hrd
      have hargs := rd_spec hrd
      simp only [List.map, wr1, ints, List.tail] at hargs
      subst hargs
      clear hrd
      rw [pcheckP_tree]
      try simp only [T.gives, T.wp, Prod.mk.injEq] at hg
      obtain ⟨rfl, rfl⟩ := hg
      simp only [T.wp, T.wp_cond, Fin.fin.injEq, SV.c.injEq, Cell.bool.injEq, Cell.int.injEq, and_true, true_and, decide_eq_true_eq, F.plot, pt0, F.placed, F.out, F.inb]
      (repeat' split) <;> simp_all <;> omega
    · exact hg.elim
  · exact hg.elim

noncomputable def L_pcheckP : Sums cod := (28, .p s_pcheckP) :: L_plotE
noncomputable def C_pcheckP : Cfg cod := mkC L_pcheckP

theorem L_pcheckP_ok : Snd Try.prog cod L_pcheckP := .cons pcheckP_sound L_plotE_ok

noncomputable def s_spotE : Summ cod := fun args H => match H with
  | [] => match rd args with
    | some [[_, a, b, c, d, e, f]] => (.ret (.c (.int .i64 (F.spot a b c d e f)), []))
    | _ => .fail
  | _ => .fail

theorem spotE_tree (a b c d e f : Int) : symF C_pcheckP [] Try.f31.results.toList (List.length ([] : Heap cod)) 400 [.code (codeOf Try.f31)] ⟨argsS Try.f31 [.agg [.int .i64 a, .int .i64 b, .int .i64 c, .int .i64 d, .int .i64 e, .int .i64 f]], []⟩ =
 cond (F.inb a 0 200000) (
 cond (F.placed b c) (
  cond (F.inb d 0 60000) (
   cond (F.inb e (-1) 4095) (
    cond (F.inb f 0 1000000) (
     .ret (.fin (.c (.int .i64 0)) [])) (
     .ret (.fin (.c (.int .i64 4)) []))) (
    .ret (.fin (.c (.int .i64 4)) []))) (
   .ret (.fin (.c (.int .i64 4)) []))) (
  .ret (.fin (.c (.int .i64 4)) []))) (
 .ret (.fin (.c (.int .i64 4)) [])) := by kernel_rfl

theorem spotE_sound : Sound Try.prog cod 31 s_spotE := sound_flat (cfg := C_pcheckP) L_pcheckP_ok mixed Try.func31 rfl rfl _ 400 fun args H r news hg => by
  unfold s_spotE at hg
  split at hg
  · split at hg
    · rename_i _ a b c d e f hrd
      have hargs := rd_spec hrd
      simp only [List.map, wr1, ints, List.tail] at hargs
      subst hargs
      clear hrd
      rw [spotE_tree]
      try simp only [T.gives, T.wp, Prod.mk.injEq] at hg
      obtain ⟨rfl, rfl⟩ := hg
      simp only [T.wp, T.wp_cond, Fin.fin.injEq, SV.c.injEq, Cell.bool.injEq, Cell.int.injEq, and_true, true_and, decide_eq_true_eq, F.spot, pt0, F.placed, F.out, F.inb]
      (repeat' split) <;> simp_all <;> omega
    · exact hg.elim
  · exact hg.elim

noncomputable def L_spotE : Sums cod := (31, .p s_spotE) :: L_pcheckP
noncomputable def C_spotE : Cfg cod := mkC L_spotE

theorem L_spotE_ok : Snd Try.prog cod L_spotE := .cons spotE_sound L_pcheckP_ok

noncomputable def s_checkSp : Summ cod := fun args H => match H with
  | [] => match rd args with
    | some [[_, a, b, c, d, e, f]] => (.ret (.c (.int .i64 (F.spot a b c d e f)), []))
    | _ => .fail
  | _ => .fail

theorem checkSp_tree (a b c d e f : Int) : symF C_spotE [] Try.f30.results.toList (List.length ([] : Heap cod)) 400 [.code (codeOf Try.f30)] ⟨argsS Try.f30 [.agg [.int .i64 a, .int .i64 b, .int .i64 c, .int .i64 d, .int .i64 e, .int .i64 f]], []⟩ =
 cond (F.out a 0 200000) (
 .ret (.fin (.c (.int .i64 4)) [])) (
 cond (!decide (F.pt b c = 0)) (
  .ret (.fin (.c (.int .i64 4)) [])) (
  cond (F.out d 0 60000) (
   .ret (.fin (.c (.int .i64 4)) [])) (
   cond (F.out e (-1) 4095) (
    .ret (.fin (.c (.int .i64 4)) [])) (
    cond (F.out f 0 1000000) (
     .ret (.fin (.c (.int .i64 4)) [])) (
     .ret (.fin (.c (.int .i64 0)) [])))))) := by kernel_rfl

theorem checkSp_sound : Sound Try.prog cod 30 s_checkSp := sound_flat (cfg := C_spotE) L_spotE_ok mixed Try.func30 rfl rfl _ 400 fun args H r news hg => by
  unfold s_checkSp at hg
  split at hg
  · split at hg
    · rename_i _ a b c d e f hrd
      have hargs := rd_spec hrd
      simp only [List.map, wr1, ints, List.tail] at hargs
      subst hargs
      clear hrd
      rw [checkSp_tree]
      try simp only [T.gives, T.wp, Prod.mk.injEq] at hg
      obtain ⟨rfl, rfl⟩ := hg
      simp only [T.wp, T.wp_cond, Fin.fin.injEq, SV.c.injEq, Cell.bool.injEq, Cell.int.injEq, and_true, true_and, decide_eq_true_eq, F.spot, pt0, F.placed, F.out, F.inb]
      (repeat' split) <;> simp_all <;> omega
    · exact hg.elim
  · exact hg.elim

noncomputable def L_checkSp : Sums cod := (30, .p s_checkSp) :: L_spotE
noncomputable def C_checkSp : Cfg cod := mkC L_checkSp

theorem L_checkSp_ok : Snd Try.prog cod L_checkSp := .cons checkSp_sound L_spotE_ok

end
end Go.Proofs.Ythljcjighomgkaa
