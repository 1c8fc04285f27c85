/- Part of a claim: lemmas on the way to its theorem; each states its own conditions. -/
import Derived.Test.YthljcjighomgkaaFa
import Derived.Test.YthljcjighomgkaaAr
namespace Go.Proofs.Ythljcjighomgkaa
open Sym Go.RowKit
noncomputable section
set_option maxRecDepth 100000
set_option maxHeartbeats 4000000

namespace F
def far (x y u v : Int) : Int := (x - u) * (x - u) + (y - v) * (y - v)
def apart (a b : Int) : Int := if a < b then b - a else a - b
def b9 (n : Int) : Prop := -1000000000 ≤ n ∧ n ≤ 1000000000
end F


theorem far_need {x y u v : Int} (hx : F.b9 x) (hy : F.b9 y) (hu : F.b9 u) (hv : F.b9 v) : i64ok (x - u) ∧ i64ok (y - v) ∧ i64ok ((x - u) * (x - u)) ∧ i64ok ((y - v) * (y - v)) ∧ i64ok ((x - u) * (x - u) + (y - v) * (y - v)) := by
  unfold F.b9 at *
  have h1 := sq_bd (x := x - u) (a := 2000000000) (by omega)
  have h2 := sq_bd (x := y - v) (a := 2000000000) (by omega)
  unfold i64ok
  omega

noncomputable def s_far : Summ cod := fun args H => match H with
  | [] => match rd args with
    | some [[_, x, y], [_, u, v]] => (.need (F.b9 x ∧ F.b9 y ∧ F.b9 u ∧ F.b9 v) (.ret (.c (.int .i64 (F.far x y u v)), [])))
    | _ => .fail
  | _ => .fail

theorem far_tree (x y u v : Int) : symF C_checkSp [] Try.f34.results.toList (List.length ([] : Heap cod)) 400 [.code (codeOf Try.f34)] ⟨argsS Try.f34 [.agg [.int .i64 x, .int .i64 y], .agg [.int .i64 u, .int .i64 v]], []⟩ =
.need (i64ok (x - u)) (
.need (i64ok (y - v)) (
.need (i64ok ((x - u) * (x - u))) (
.need (i64ok ((y - v) * (y - v))) (
.need (i64ok ((x - u) * (x - u) + (y - v) * (y - v))) (
.ret (.fin (.c (.int .i64 ((x - u) * (x - u) + (y - v) * (y - v)))) [])))))) := by kernel_rfl

theorem far_sound : Sound Try.prog cod 34 s_far := sound_flat (cfg := C_checkSp) L_checkSp_ok mixed Try.func34 rfl rfl _ 400 fun args H r news hg => by
  unfold s_far at hg
  split at hg
  · split at hg
    · rename_i _ x y _ u v hrd
      have hargs := rd_spec hrd
      simp only [List.map, wr1, ints, List.tail] at hargs
      subst hargs
      clear hrd
      rw [far_tree]
      simp only [T.gives, T.wp, Prod.mk.injEq] at hg
      obtain ⟨⟨h1, h2, h3, h4⟩, rfl, rfl⟩ := hg
      simp only [T.wp, T.wp_cond, Fin.fin.injEq, SV.c.injEq, SV.tup.injEq, SV.agg.injEq, List.cons.injEq, Cell.bool.injEq, Cell.int.injEq, and_true, true_and, decide_eq_true_eq]
      exact ⟨(far_need h1 h2 h3 h4).1, (far_need h1 h2 h3 h4).2.1, (far_need h1 h2 h3 h4).2.2.1, (far_need h1 h2 h3 h4).2.2.2.1, (far_need h1 h2 h3 h4).2.2.2.2, rfl⟩
    · exact hg.elim
  · exact hg.elim

noncomputable def L_far : Sums cod := (34, .p s_far) :: L_checkSp
noncomputable def C_far : Cfg cod := mkC L_far

theorem L_far_ok : Snd Try.prog cod L_far := .cons far_sound L_checkSp_ok

noncomputable def s_apart : Summ cod := fun args H => match H with
  | [] => match rd args with
    | some [[x], [y]] => (.need (i64ok (F.apart x y)) (.ret (.c (.int .i64 (F.apart x y)), [])))
    | _ => .fail
  | _ => .fail

theorem apart_tree (x y : Int) : symF C_far [] Try.f56.results.toList (List.length ([] : Heap cod)) 400 [.code (codeOf Try.f56)] ⟨argsS Try.f56 [.c (.int .i64 x), .c (.int .i64 y)], []⟩ =
 cond (decide (x < y)) (
 .need (i64ok (y - x)) (
 .ret (.fin (.c (.int .i64 (y - x))) []))) (
 .need (i64ok (x - y)) (
 .ret (.fin (.c (.int .i64 (x - y))) []))) := by kernel_rfl

theorem apart_sound : Sound Try.prog cod 56 s_apart := sound_flat (cfg := C_far) L_far_ok mixed Try.func56 rfl rfl _ 400 fun args H r news hg => by
  unfold s_apart at hg
  split at hg
  · split at hg
    · rename_i x y hrd
      have hargs := rd_spec hrd
      simp only [List.map, wr1, ints, List.tail] at hargs
      subst hargs
      clear hrd
      rw [apart_tree]
      simp only [T.gives, T.wp, Prod.mk.injEq] at hg
      obtain ⟨h1, rfl, rfl⟩ := hg
      simp only [T.wp, T.wp_cond, Fin.fin.injEq, SV.c.injEq, SV.tup.injEq, SV.agg.injEq, List.cons.injEq, Cell.bool.injEq, Cell.int.injEq, and_true, true_and, decide_eq_true_eq]
      unfold F.apart at *
      split <;> simp_all
    · exact hg.elim
  · exact hg.elim

noncomputable def L_apart : Sums cod := (56, .p s_apart) :: L_far
noncomputable def C_apart : Cfg cod := mkC L_apart

theorem L_apart_ok : Snd Try.prog cod L_apart := .cons apart_sound L_far_ok

noncomputable def s_sub : Summ cod := fun args H => match H with
  | [] => match rd args with
    | some [[_, x, y], [_, u, v]] => (.need (i64ok (x - u) ∧ i64ok (y - v)) (.ret (.agg [.int .i64 (x - u), .int .i64 (y - v)], [])))
    | _ => .fail
  | _ => .fail

theorem sub_tree (x y u v : Int) : symF C_apart [] Try.f95.results.toList (List.length ([] : Heap cod)) 400 [.code (codeOf Try.f95)] ⟨argsS Try.f95 [.agg [.int .i64 x, .int .i64 y], .agg [.int .i64 u, .int .i64 v]], []⟩ =
.need (i64ok (x - u)) (
.need (i64ok (y - v)) (
.ret (.fin (.agg [.int .i64 (x - u), .int .i64 (y - v)]) []))) := by kernel_rfl

theorem sub_sound : Sound Try.prog cod 95 s_sub := sound_flat (cfg := C_apart) L_apart_ok mixed Try.func95 rfl rfl _ 400 fun args H r news hg => by
  unfold s_sub at hg
  split at hg
  · split at hg
    · rename_i _ x y _ u v hrd
      have hargs := rd_spec hrd
      simp only [List.map, wr1, ints, List.tail] at hargs
      subst hargs
      clear hrd
      rw [sub_tree]
      simp only [T.gives, T.wp, Prod.mk.injEq] at hg
      obtain ⟨⟨h1, h2⟩, rfl, rfl⟩ := hg
      simp only [T.wp, T.wp_cond, Fin.fin.injEq, SV.c.injEq, SV.tup.injEq, SV.agg.injEq, List.cons.injEq, Cell.bool.injEq, Cell.int.injEq, and_true, true_and, decide_eq_true_eq]
      simp_all
    · exact hg.elim
  · exact hg.elim

noncomputable def L_sub : Sums cod := (95, .p s_sub) :: L_apart
noncomputable def C_sub : Cfg cod := mkC L_sub

theorem L_sub_ok : Snd Try.prog cod L_sub := .cons sub_sound L_apart_ok

noncomputable def s_dot : Summ cod := fun args H => match H with
  | [] => match rd args with
    | some [[_, x, y], [_, u, v]] => (.need (i64ok (x * u) ∧ i64ok (y * v) ∧ i64ok (x * u + y * v)) (.ret (.c (.int .i64 (x * u + y * v)), [])))
    | _ => .fail
  | _ => .fail

theorem dot_tree (x y u v : Int) : symF C_sub [] Try.f96.results.toList (List.length ([] : Heap cod)) 400 [.code (codeOf Try.f96)] ⟨argsS Try.f96 [.agg [.int .i64 x, .int .i64 y], .agg [.int .i64 u, .int .i64 v]], []⟩ =
.need (i64ok (x * u)) (
.need (i64ok (y * v)) (
.need (i64ok (x * u + y * v)) (
.ret (.fin (.c (.int .i64 (x * u + y * v))) [])))) := by kernel_rfl

theorem dot_sound : Sound Try.prog cod 96 s_dot := sound_flat (cfg := C_sub) L_sub_ok mixed Try.func96 rfl rfl _ 400 fun args H r news hg => by
  unfold s_dot at hg
  split at hg
  · split at hg
    · rename_i _ x y _ u v hrd
      have hargs := rd_spec hrd
      simp only [List.map, wr1, ints, List.tail] at hargs
      subst hargs
      clear hrd
      rw [dot_tree]
      simp only [T.gives, T.wp, Prod.mk.injEq] at hg
      obtain ⟨⟨h1, h2, h3⟩, rfl, rfl⟩ := hg
      simp only [T.wp, T.wp_cond, Fin.fin.injEq, SV.c.injEq, SV.tup.injEq, SV.agg.injEq, List.cons.injEq, Cell.bool.injEq, Cell.int.injEq, and_true, true_and, decide_eq_true_eq]
      simp_all
    · exact hg.elim
  · exact hg.elim

noncomputable def L_dot : Sums cod := (96, .p s_dot) :: L_sub
noncomputable def C_dot : Cfg cod := mkC L_dot

theorem L_dot_ok : Snd Try.prog cod L_dot := .cons dot_sound L_sub_ok

noncomputable def s_square : Summ cod := fun args H => match H with
  | [] => match rd args with
    | some [[_, x, y], [_, u, v]] => (.need (F.b9 x ∧ F.b9 y ∧ F.b9 u ∧ F.b9 v) (.ret (.c (.int .i64 (F.far x y u v)), [])))
    | _ => .fail
  | _ => .fail

theorem square_tree (x y u v : Int) : symF C_dot [] Try.f84.results.toList (List.length ([] : Heap cod)) 400 [.code (codeOf Try.f84)] ⟨argsS Try.f84 [.agg [.int .i64 x, .int .i64 y], .agg [.int .i64 u, .int .i64 v]], []⟩ =
.need ((i64ok (x - u) ∧ i64ok (y - v))) (
.need ((i64ok ((x - u) * (x - u)) ∧ (i64ok ((y - v) * (y - v)) ∧ i64ok ((x - u) * (x - u) + (y - v) * (y - v))))) (
.ret (.fin (.c (.int .i64 ((x - u) * (x - u) + (y - v) * (y - v)))) []))) := by kernel_rfl

theorem square_sound : Sound Try.prog cod 84 s_square := sound_flat (cfg := C_dot) L_dot_ok mixed Try.func84 rfl rfl _ 400 fun args H r news hg => by
  unfold s_square at hg
  split at hg
  · split at hg
    · rename_i _ x y _ u v hrd
      have hargs := rd_spec hrd
      simp only [List.map, wr1, ints, List.tail] at hargs
      subst hargs
      clear hrd
      rw [square_tree]
      simp only [T.gives, T.wp, Prod.mk.injEq] at hg
      obtain ⟨⟨h1, h2, h3, h4⟩, rfl, rfl⟩ := hg
      simp only [T.wp, T.wp_cond, Fin.fin.injEq, SV.c.injEq, SV.tup.injEq, SV.agg.injEq, List.cons.injEq, Cell.bool.injEq, Cell.int.injEq, and_true, true_and, decide_eq_true_eq]
      obtain ⟨g1, g2, g3, g4, g5⟩ := far_need h1 h2 h3 h4
      exact ⟨⟨g1, g2⟩, ⟨g3, g4, g5⟩, rfl⟩
    · exact hg.elim
  · exact hg.elim

noncomputable def L_square : Sums cod := (84, .p s_square) :: L_dot
noncomputable def C_square : Cfg cod := mkC L_square

theorem L_square_ok : Snd Try.prog cod L_square := .cons square_sound L_dot_ok

noncomputable def s_within : Summ cod := fun args H => match H with
  | [] => match rd args with
    | some [[_, x, y], [_, u, v], [r]] => (.need (F.b9 x ∧ F.b9 y ∧ F.b9 u ∧ F.b9 v) (.ret (.c (.bool (F.inb r 0 8000000 && decide (F.far x y u v ≤ r * r))), [])))
    | _ => .fail
  | _ => .fail

theorem within_tree (x y u v r : Int) : symF C_square [] Try.f65.results.toList (List.length ([] : Heap cod)) 400 [.code (codeOf Try.f65)] ⟨argsS Try.f65 [.agg [.int .i64 x, .int .i64 y], .agg [.int .i64 u, .int .i64 v], .c (.int .i64 r)], []⟩ =
 cond (decide (0 ≤ r)) (
 cond (decide (r ≤ 8000000)) (
  .need ((F.b9 x ∧ (F.b9 y ∧ (F.b9 u ∧ F.b9 v)))) (
  .need (i64ok (r * r)) (
  .ret (.fin (.c (.bool (decide (F.far x y u v ≤ r * r)))) [])))) (
  .ret (.fin (.c (.bool false)) []))) (
 .ret (.fin (.c (.bool false)) [])) := by kernel_rfl

theorem within_sound : Sound Try.prog cod 65 s_within := sound_flat (cfg := C_square) L_square_ok mixed Try.func65 rfl rfl _ 400 fun args H r news hg => by
  unfold s_within at hg
  split at hg
  · split at hg
    · rename_i _ x y _ u v r hrd
      have hargs := rd_spec hrd
      simp only [List.map, wr1, ints, List.tail] at hargs
      subst hargs
      clear hrd
      rw [within_tree]
      simp only [T.gives, T.wp, Prod.mk.injEq] at hg
      obtain ⟨h1, rfl, rfl⟩ := hg
      simp only [T.wp, T.wp_cond, Fin.fin.injEq, SV.c.injEq, SV.tup.injEq, SV.agg.injEq, List.cons.injEq, Cell.bool.injEq, Cell.int.injEq, and_true, true_and, decide_eq_true_eq]
      have h3 : 0 ≤ r → r ≤ 8000000 → i64ok (r * r) := fun h4 h5 => by
        have := sq_bd (x := r) (a := 8000000) (by omega)
        unfold i64ok
        omega
      unfold F.inb
      (repeat' split) <;> simp_all <;> omega
    · exact hg.elim
  · exact hg.elim

noncomputable def L_within : Sums cod := (65, .p s_within) :: L_square
noncomputable def C_within : Cfg cod := mkC L_within

theorem L_within_ok : Snd Try.prog cod L_within := .cons within_sound L_square_ok

noncomputable def s_down : Summ cod := fun args H => match H with
  | [] => match rd args with
    | some [[a], [b]] => (.need (0 < b ∧ i64ok a) (.ret (.c (.int .i64 (a / b)), [])))
    | _ => .fail
  | _ => .fail

theorem down_tree (a b : Int) : symF C_within [] Try.f22.results.toList (List.length ([] : Heap cod)) 400 [.code (codeOf Try.f22)] ⟨argsS Try.f22 [.c (.int .i64 a), .c (.int .i64 b)], []⟩ =
.need (b ≠ 0) (
.need (i64ok (Int.tdiv a b)) (
.need (i64ok (Int.tdiv a b * b)) (
 cond (decide (a < Int.tdiv a b * b)) (
 .need (i64ok (Int.tdiv a b - 1)) (
 .ret (.fin (.c (.int .i64 (Int.tdiv a b - 1))) []))) (
 .ret (.fin (.c (.int .i64 (Int.tdiv a b))) []))))) := by kernel_rfl

theorem down_sound : Sound Try.prog cod 22 s_down := sound_flat (cfg := C_within) L_within_ok mixed Try.func22 rfl rfl _ 400 fun args H r news hg => by
  unfold s_down at hg
  split at hg
  · split at hg
    · rename_i a b hrd
      have hargs := rd_spec hrd
      simp only [List.map, wr1, ints, List.tail] at hargs
      subst hargs
      clear hrd
      rw [down_tree]
      simp only [T.gives, T.wp, Prod.mk.injEq] at hg
      obtain ⟨⟨h1, h2⟩, rfl, rfl⟩ := hg
      simp only [T.wp, T.wp_cond, Fin.fin.injEq, SV.c.injEq, SV.tup.injEq, SV.agg.injEq, List.cons.injEq, Cell.bool.injEq, Cell.int.injEq, and_true, true_and, decide_eq_true_eq]
      obtain ⟨g1, g2, g3, g4⟩ := floor_tdiv a b h1 h2
      refine ⟨by omega, g1, g2, ?_⟩
      split
      · rename_i h
        obtain ⟨g5, g6⟩ := g3 h
        exact ⟨g6, g5⟩
      · rename_i h
        exact g4 h
    · exact hg.elim
  · exact hg.elim

noncomputable def L_down : Sums cod := (22, .p s_down) :: L_within
noncomputable def C_down : Cfg cod := mkC L_down

theorem L_down_ok : Snd Try.prog cod L_down := .cons down_sound L_within_ok

noncomputable def s_up : Summ cod := fun args H => match H with
  | [] => match rd args with
    | some [[a], [b]] => (.need (0 < b ∧ i64ok a ∧ i64ok (-a)) (.ret (.c (.int .i64 (-(-a / b))), [])))
    | _ => .fail
  | _ => .fail

theorem up_tree (a b : Int) : symF C_down [] Try.f23.results.toList (List.length ([] : Heap cod)) 400 [.code (codeOf Try.f23)] ⟨argsS Try.f23 [.c (.int .i64 a), .c (.int .i64 b)], []⟩ =
.need (i64ok (-a)) (
.need (((0 : Int) < b ∧ i64ok (-a))) (
.need (i64ok (-(-a / b))) (
.ret (.fin (.c (.int .i64 (-(-a / b)))) [])))) := by kernel_rfl

theorem up_sound : Sound Try.prog cod 23 s_up := sound_flat (cfg := C_down) L_down_ok mixed Try.func23 rfl rfl _ 400 fun args H r news hg => by
  unfold s_up at hg
  split at hg
  · split at hg
    · rename_i a b hrd
      have hargs := rd_spec hrd
      simp only [List.map, wr1, ints, List.tail] at hargs
      subst hargs
      clear hrd
      rw [up_tree]
      simp only [T.gives, T.wp, Prod.mk.injEq] at hg
      obtain ⟨⟨h1, h2, h3⟩, rfl, rfl⟩ := hg
      simp only [T.wp, T.wp_cond, Fin.fin.injEq, SV.c.injEq, SV.tup.injEq, SV.agg.injEq, List.cons.injEq, Cell.bool.injEq, Cell.int.injEq, and_true, true_and, decide_eq_true_eq]
      exact ⟨h3, ⟨h1, h3⟩, up_ok h1 h2 h3⟩
    · exact hg.elim
  · exact hg.elim

noncomputable def L_up : Sums cod := (23, .p s_up) :: L_down
noncomputable def C_up : Cfg cod := mkC L_up

theorem L_up_ok : Snd Try.prog cod L_up := .cons up_sound L_down_ok

noncomputable def s_divdown : Summ cod := fun args H => match H with
  | [] => match rd args with
    | some [[a], [b]] => (.need (0 < b ∧ i64ok a) (.ret (.tup [.c (.int .i64 (a / b)), .c (.int .i64 0)], [])))
    | _ => .fail
  | _ => .fail

theorem divdown_tree (a b : Int) : symF C_up [] Try.f62.results.toList (List.length ([] : Heap cod)) 400 [.code (codeOf Try.f62)] ⟨argsS Try.f62 [.c (.int .i64 a), .c (.int .i64 b)], []⟩ =
 cond (decide (b = 0)) (
 .ret (.fin (.tup [.c (.int .i64 0), .c (.int .i64 10)]) [])) (
 cond (decide (a = -9223372036854775808)) (
  cond (decide (b = -1)) (
   .ret (.fin (.tup [.c (.int .i64 0), .c (.int .i64 2)]) [])) (
   .need (b ≠ 0) (
   .need (i64ok (Int.tdiv a b)) (
   .need (b ≠ 0) (
   cond (!decide (Int.tmod a b = 0)) (
    cond (!decide (a < 0) == decide (b < 0)) (
     .need (i64ok (Int.tdiv a b - 1)) (
     .ret (.fin (.tup [.c (.int .i64 (Int.tdiv a b - 1)), .c (.int .i64 0)]) []))) (
     .ret (.fin (.tup [.c (.int .i64 (Int.tdiv a b)), .c (.int .i64 0)]) []))) (
    .ret (.fin (.tup [.c (.int .i64 (Int.tdiv a b)), .c (.int .i64 0)]) []))))))) (
  .need (b ≠ 0) (
  .need (i64ok (Int.tdiv a b)) (
  .need (b ≠ 0) (
  cond (!decide (Int.tmod a b = 0)) (
   cond (!decide (a < 0) == decide (b < 0)) (
    .need (i64ok (Int.tdiv a b - 1)) (
    .ret (.fin (.tup [.c (.int .i64 (Int.tdiv a b - 1)), .c (.int .i64 0)]) []))) (
    .ret (.fin (.tup [.c (.int .i64 (Int.tdiv a b)), .c (.int .i64 0)]) []))) (
   .ret (.fin (.tup [.c (.int .i64 (Int.tdiv a b)), .c (.int .i64 0)]) []))))))) := by kernel_rfl

theorem divdown_sound : Sound Try.prog cod 62 s_divdown := sound_flat (cfg := C_up) L_up_ok mixed Try.func62 rfl rfl _ 400 fun args H r news hg => by
  unfold s_divdown at hg
  split at hg
  · split at hg
    · rename_i a b hrd
      have hargs := rd_spec hrd
      simp only [List.map, wr1, ints, List.tail] at hargs
      subst hargs
      clear hrd
      rw [divdown_tree]
      simp only [T.gives, T.wp, Prod.mk.injEq] at hg
      obtain ⟨⟨h1, h2⟩, rfl, rfl⟩ := hg
      simp only [T.wp, T.wp_cond, Fin.fin.injEq, SV.c.injEq, SV.tup.injEq, SV.agg.injEq, List.cons.injEq, Cell.bool.injEq, Cell.int.injEq, and_true, true_and, decide_eq_true_eq]
      have g1 := tdiv_bd a b h1 h2
      obtain ⟨g2, g3⟩ := floor_tmod a b h1 h2
      have g4 : b ≠ 0 := by omega
      have g5 : ¬ b < 0 := by omega
      have g6 : ¬ b = -1 := by omega
      by_cases hm : a.tmod b = 0
      · have := g3 (.inl hm)
        (repeat' split) <;> simp_all
      · by_cases ha : a < 0
        · have := g2 hm ha
          (repeat' split) <;> simp_all
        · have := g3 (.inr (by omega))
          (repeat' split) <;> simp_all <;> omega
    · exact hg.elim
  · exact hg.elim

noncomputable def L_divdown : Sums cod := (62, .p s_divdown) :: L_up
noncomputable def C_divdown : Cfg cod := mkC L_divdown

theorem L_divdown_ok : Snd Try.prog cod L_divdown := .cons divdown_sound L_up_ok

noncomputable def s_divup : Summ cod := fun args H => match H with
  | [] => match rd args with
    | some [[a], [b]] => (.need (0 < b ∧ i64ok a ∧ i64ok (-a)) (.ret (.tup [.c (.int .i64 (-(-a / b))), .c (.int .i64 0)], [])))
    | _ => .fail
  | _ => .fail

theorem divup_tree (a b : Int) : symF C_divdown [] Try.f63.results.toList (List.length ([] : Heap cod)) 400 [.code (codeOf Try.f63)] ⟨argsS Try.f63 [.c (.int .i64 a), .c (.int .i64 b)], []⟩ =
.need (((0 : Int) < b ∧ i64ok a)) (
.need (b ≠ 0) (
 cond (!decide (Int.tmod a b = 0)) (
 .need (i64ok (a / b + 1)) (
 .ret (.fin (.tup [.c (.int .i64 (a / b + 1)), .c (.int .i64 0)]) []))) (
 .ret (.fin (.tup [.c (.int .i64 (a / b)), .c (.int .i64 0)]) [])))) := by kernel_rfl

theorem divup_sound : Sound Try.prog cod 63 s_divup := sound_flat (cfg := C_divdown) L_divdown_ok mixed Try.func63 rfl rfl _ 400 fun args H r news hg => by
  unfold s_divup at hg
  split at hg
  · split at hg
    · rename_i a b hrd
      have hargs := rd_spec hrd
      simp only [List.map, wr1, ints, List.tail] at hargs
      subst hargs
      clear hrd
      rw [divup_tree]
      simp only [T.gives, T.wp, Prod.mk.injEq] at hg
      obtain ⟨⟨h1, h2, h3⟩, rfl, rfl⟩ := hg
      simp only [T.wp, T.wp_cond, Fin.fin.injEq, SV.c.injEq, SV.tup.injEq, SV.agg.injEq, List.cons.injEq, Cell.bool.injEq, Cell.int.injEq, and_true, true_and, decide_eq_true_eq]
      have g1 := up_ok h1 h2 h3
      obtain ⟨g2, g3⟩ := ceil_eq a b h1
      have g4 := tmod_zero_iff a b h1
      have g5 : b ≠ 0 := by omega
      by_cases hm : a % b = 0
      · have := g2 hm
        (repeat' split) <;> simp_all
      · have := g3 hm
        (repeat' split) <;> simp_all
    · exact hg.elim
  · exact hg.elim

noncomputable def L_divup : Sums cod := (63, .p s_divup) :: L_divdown
noncomputable def C_divup : Cfg cod := mkC L_divup

theorem L_divup_ok : Snd Try.prog cod L_divup := .cons divup_sound L_divdown_ok

end
end Go.Proofs.Ythljcjighomgkaa
