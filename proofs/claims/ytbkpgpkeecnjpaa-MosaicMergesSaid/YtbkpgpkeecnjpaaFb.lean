/- Part of a claim: lemmas on the way to its theorem; each states its own conditions. -/
import Derived.Test.YtbkpgpkeecnjpaaFa
import Derived.Test.YtbkpgpkeecnjpaaAr
namespace Go.Proofs.Ytbkpgpkeecnjpaa
open Sym Go.RowKit
noncomputable section
set_option maxRecDepth 100000
set_option maxHeartbeats 4000000

namespace F
def far (x y u v : Int) : Int := (x - u) * (x - u) + (y - v) * (y - v)
def apart (a b : Int) : Int := if a < b then b - a else a - b
def b9 (n : Int) : Prop := -1000000000 ≤ n ∧ n ≤ 1000000000
end F


theorem far_need {x y u v : Int} (hx : F.b9 x) (hy : F.b9 y) (hu : F.b9 u) (hv : F.b9 v) : i64ok (x - u) ∧ i64ok (y - v) ∧ i64ok ((x - u) * (x - u)) ∧ i64ok ((y - v) * (y - v)) ∧ i64ok ((x - u) * (x - u) + (y - v) * (y - v)) := by
  unfold F.b9 at *
  have h1 := sq_bd (x := x - u) (a := 2000000000) (by omega)
  have h2 := sq_bd (x := y - v) (a := 2000000000) (by omega)
  unfold i64ok
  omega

noncomputable def s_far : Summ cod := fun args H => match H with
  | [] => match rd args with
    | some [[_, x, y], [_, u, v]] => (.need (F.b9 x ∧ F.b9 y ∧ F.b9 u ∧ F.b9 v) (.ret (.c (.int .i64 (F.far x y u v)), [])))
    | _ => .fail
  | _ => .fail

theorem far_tree (x y u v : Int) : symF C_checkSp [] Try.f35.results.toList (List.length ([] : Heap cod)) 400 [.code (codeOf Try.f35)] ⟨argsS Try.f35 [.agg [.int .i64 x, .int .i64 y], .agg [.int .i64 u, .int .i64 v]], []⟩ =
.need (i64ok (x - u)) (
.need (i64ok (y - v)) (
.need (i64ok ((x - u) * (x - u))) (
.need (i64ok ((y - v) * (y - v))) (
.need (i64ok ((x - u) * (x - u) + (y - v) * (y - v))) (
.ret (.fin (.c (.int .i64 ((x - u) * (x - u) + (y - v) * (y - v)))) [])))))) := by kernel_rfl

theorem far_sound : Sound Try.prog cod 35 s_far := sound_flat (cfg := C_checkSp) L_checkSp_ok mixed Try.func35 rfl rfl _ 400 fun args H r news hg => by
  unfold s_far at hg
  split at hg
  · split at hg
    · rename_i _ x y _ u v hrd
      have hargs := rd_spec hrd
      simp only [List.map, wr1, ints, List.tail] at hargs
      subst hargs
      clear hrd
      rw [far_tree]
      simp only [T.gives, T.wp, Prod.mk.injEq] at hg
      obtain ⟨⟨h1, h2, h3, h4⟩, rfl, rfl⟩ := hg
      simp only [T.wp, T.wp_cond, Fin.fin.injEq, SV.c.injEq, SV.tup.injEq, SV.agg.injEq, List.cons.injEq, Cell.bool.injEq, Cell.int.injEq, and_true, true_and, decide_eq_true_eq]
      exact ⟨(far_need h1 h2 h3 h4).1, (far_need h1 h2 h3 h4).2.1, (far_need h1 h2 h3 h4).2.2.1, (far_need h1 h2 h3 h4).2.2.2.1, (far_need h1 h2 h3 h4).2.2.2.2, rfl⟩
    · exact hg.elim
  · exact hg.elim

noncomputable def L_far : Sums cod := (35, .p s_far) :: L_checkSp
noncomputable def C_far : Cfg cod := mkC L_far

theorem L_far_ok : Snd Try.prog cod L_far := .cons far_sound L_checkSp_ok

noncomputable def s_apart : Summ cod := fun args H => match H with
  | [] => match rd args with
    | some [[x], [y]] => (.need (i64ok (F.apart x y)) (.ret (.c (.int .i64 (F.apart x y)), [])))
    | _ => .fail
  | _ => .fail

theorem apart_tree (x y : Int) : symF C_far [] Try.f42.results.toList (List.length ([] : Heap cod)) 400 [.code (codeOf Try.f42)] ⟨argsS Try.f42 [.c (.int .i64 x), .c (.int .i64 y)], []⟩ =
 cond (decide (x < y)) (
 .need (i64ok (y - x)) (
 .ret (.fin (.c (.int .i64 (y - x))) []))) (
 .need (i64ok (x - y)) (
 .ret (.fin (.c (.int .i64 (x - y))) []))) := by kernel_rfl

theorem apart_sound : Sound Try.prog cod 42 s_apart := sound_flat (cfg := C_far) L_far_ok mixed Try.func42 rfl rfl _ 400 fun args H r news hg => by
  unfold s_apart at hg
  split at hg
  · split at hg
    · rename_i x y hrd
      have hargs := rd_spec hrd
      simp only [List.map, wr1, ints, List.tail] at hargs
      subst hargs
      clear hrd
      rw [apart_tree]
      simp only [T.gives, T.wp, Prod.mk.injEq] at hg
      obtain ⟨h1, rfl, rfl⟩ := hg
      simp only [T.wp, T.wp_cond, Fin.fin.injEq, SV.c.injEq, SV.tup.injEq, SV.agg.injEq, List.cons.injEq, Cell.bool.injEq, Cell.int.injEq, and_true, true_and, decide_eq_true_eq]
      unfold F.apart at *
      split <;> simp_all
    · exact hg.elim
  · exact hg.elim

noncomputable def L_apart : Sums cod := (42, .p s_apart) :: L_far
noncomputable def C_apart : Cfg cod := mkC L_apart

theorem L_apart_ok : Snd Try.prog cod L_apart := .cons apart_sound L_far_ok

noncomputable def s_sub : Summ cod := fun args H => match H with
  | [] => match rd args with
    | some [[_, x, y], [_, u, v]] => (.need (i64ok (x - u) ∧ i64ok (y - v)) (.ret (.agg [.int .i64 (x - u), .int .i64 (y - v)], [])))
    | _ => .fail
  | _ => .fail

theorem sub_tree (x y u v : Int) : symF C_apart [] Try.f126.results.toList (List.length ([] : Heap cod)) 400 [.code (codeOf Try.f126)] ⟨argsS Try.f126 [.agg [.int .i64 x, .int .i64 y], .agg [.int .i64 u, .int .i64 v]], []⟩ =
.need (i64ok (x - u)) (
.need (i64ok (y - v)) (
.ret (.fin (.agg [.int .i64 (x - u), .int .i64 (y - v)]) []))) := by kernel_rfl

theorem sub_sound : Sound Try.prog cod 126 s_sub := sound_flat (cfg := C_apart) L_apart_ok mixed Try.func126 rfl rfl _ 400 fun args H r news hg => by
  unfold s_sub at hg
  split at hg
  · split at hg
    · rename_i _ x y _ u v hrd
      have hargs := rd_spec hrd
      simp only [List.map, wr1, ints, List.tail] at hargs
      subst hargs
      clear hrd
      rw [sub_tree]
      simp only [T.gives, T.wp, Prod.mk.injEq] at hg
      obtain ⟨⟨h1, h2⟩, rfl, rfl⟩ := hg
      simp only [T.wp, T.wp_cond, Fin.fin.injEq, SV.c.injEq, SV.tup.injEq, SV.agg.injEq, List.cons.injEq, Cell.bool.injEq, Cell.int.injEq, and_true, true_and, decide_eq_true_eq]
      simp_all
    · exact hg.elim
  · exact hg.elim

noncomputable def L_sub : Sums cod := (126, .p s_sub) :: L_apart
noncomputable def C_sub : Cfg cod := mkC L_sub

theorem L_sub_ok : Snd Try.prog cod L_sub := .cons sub_sound L_apart_ok

noncomputable def s_dot : Summ cod := fun args H => match H with
  | [] => match rd args with
    | some [[_, x, y], [_, u, v]] => (.need (i64ok (x * u) ∧ i64ok (y * v) ∧ i64ok (x * u + y * v)) (.ret (.c (.int .i64 (x * u + y * v)), [])))
    | _ => .fail
  | _ => .fail

theorem dot_tree (x y u v : Int) : symF C_sub [] Try.f127.results.toList (List.length ([] : Heap cod)) 400 [.code (codeOf Try.f127)] ⟨argsS Try.f127 [.agg [.int .i64 x, .int .i64 y], .agg [.int .i64 u, .int .i64 v]], []⟩ =
.need (i64ok (x * u)) (
.need (i64ok (y * v)) (
.need (i64ok (x * u + y * v)) (
.ret (.fin (.c (.int .i64 (x * u + y * v))) [])))) := by kernel_rfl

theorem dot_sound : Sound Try.prog cod 127 s_dot := sound_flat (cfg := C_sub) L_sub_ok mixed Try.func127 rfl rfl _ 400 fun args H r news hg => by
  unfold s_dot at hg
  split at hg
  · split at hg
    · rename_i _ x y _ u v hrd
      have hargs := rd_spec hrd
      simp only [List.map, wr1, ints, List.tail] at hargs
      subst hargs
      clear hrd
      rw [dot_tree]
      simp only [T.gives, T.wp, Prod.mk.injEq] at hg
      obtain ⟨⟨h1, h2, h3⟩, rfl, rfl⟩ := hg
      simp only [T.wp, T.wp_cond, Fin.fin.injEq, SV.c.injEq, SV.tup.injEq, SV.agg.injEq, List.cons.injEq, Cell.bool.injEq, Cell.int.injEq, and_true, true_and, decide_eq_true_eq]
      simp_all
    · exact hg.elim
  · exact hg.elim

noncomputable def L_dot : Sums cod := (127, .p s_dot) :: L_sub
noncomputable def C_dot : Cfg cod := mkC L_dot

theorem L_dot_ok : Snd Try.prog cod L_dot := .cons dot_sound L_sub_ok

noncomputable def s_square : Summ cod := fun args H => match H with
  | [] => match rd args with
    | some [[_, x, y], [_, u, v]] => (.need (F.b9 x ∧ F.b9 y ∧ F.b9 u ∧ F.b9 v) (.ret (.c (.int .i64 (F.far x y u v)), [])))
    | _ => .fail
  | _ => .fail

theorem square_tree (x y u v : Int) : symF C_dot [] Try.f94.results.toList (List.length ([] : Heap cod)) 400 [.code (codeOf Try.f94)] ⟨argsS Try.f94 [.agg [.int .i64 x, .int .i64 y], .agg [.int .i64 u, .int .i64 v]], []⟩ =
.need ((i64ok (x - u) ∧ i64ok (y - v))) (
.need ((i64ok ((x - u) * (x - u)) ∧ (i64ok ((y - v) * (y - v)) ∧ i64ok ((x - u) * (x - u) + (y - v) * (y - v))))) (
.ret (.fin (.c (.int .i64 ((x - u) * (x - u) + (y - v) * (y - v)))) []))) := by kernel_rfl

theorem square_sound : Sound Try.prog cod 94 s_square := sound_flat (cfg := C_dot) L_dot_ok mixed Try.func94 rfl rfl _ 400 fun args H r news hg => by
  unfold s_square at hg
  split at hg
  · split at hg
    · rename_i _ x y _ u v hrd
      have hargs := rd_spec hrd
      simp only [List.map, wr1, ints, List.tail] at hargs
      subst hargs
      clear hrd
      rw [square_tree]
      simp only [T.gives, T.wp, Prod.mk.injEq] at hg
      obtain ⟨⟨h1, h2, h3, h4⟩, rfl, rfl⟩ := hg
      simp only [T.wp, T.wp_cond, Fin.fin.injEq, SV.c.injEq, SV.tup.injEq, SV.agg.injEq, List.cons.injEq, Cell.bool.injEq, Cell.int.injEq, and_true, true_and, decide_eq_true_eq]
      obtain ⟨g1, g2, g3, g4, g5⟩ := far_need h1 h2 h3 h4
      exact ⟨⟨g1, g2⟩, ⟨g3, g4, g5⟩, rfl⟩
    · exact hg.elim
  · exact hg.elim

noncomputable def L_square : Sums cod := (94, .p s_square) :: L_dot
noncomputable def C_square : Cfg cod := mkC L_square

theorem L_square_ok : Snd Try.prog cod L_square := .cons square_sound L_dot_ok

noncomputable def s_within : Summ cod := fun args H => match H with
  | [] => match rd args with
    | some [[_, x, y], [_, u, v], [r]] => (.need (F.b9 x ∧ F.b9 y ∧ F.b9 u ∧ F.b9 v) (.ret (.c (.bool (F.inb r 0 8000000 && decide (F.far x y u v ≤ r * r))), [])))
    | _ => .fail
  | _ => .fail

theorem within_tree (x y u v r : Int) : symF C_square [] Try.f83.results.toList (List.length ([] : Heap cod)) 400 [.code (codeOf Try.f83)] ⟨argsS Try.f83 [.agg [.int .i64 x, .int .i64 y], .agg [.int .i64 u, .int .i64 v], .c (.int .i64 r)], []⟩ =
 cond (decide (0 ≤ r)) (
 cond (decide (r ≤ 8000000)) (
  .need ((F.b9 x ∧ (F.b9 y ∧ (F.b9 u ∧ F.b9 v)))) (
  .need (i64ok (r * r)) (
  .ret (.fin (.c (.bool (decide (F.far x y u v ≤ r * r)))) [])))) (
  .ret (.fin (.c (.bool false)) []))) (
 .ret (.fin (.c (.bool false)) [])) := by kernel_rfl

theorem within_sound : Sound Try.prog cod 83 s_within := sound_flat (cfg := C_square) L_square_ok mixed Try.func83 rfl rfl _ 400 fun args H r news hg => by
  unfold s_within at hg
  split at hg
  · split at hg
    · rename_i _ x y _ u v r hrd
      have hargs := rd_spec hrd
      simp only [List.map, wr1, ints, List.tail] at hargs
      subst hargs
      clear hrd
      rw [within_tree]
      simp only [T.gives, T.wp, Prod.mk.injEq] at hg
      obtain ⟨h1, rfl, rfl⟩ := hg
      simp only [T.wp, T.wp_cond, Fin.fin.injEq, SV.c.injEq, SV.tup.injEq, SV.agg.injEq, List.cons.injEq, Cell.bool.injEq, Cell.int.injEq, and_true, true_and, decide_eq_true_eq]
      have h3 : 0 ≤ r → r ≤ 8000000 → i64ok (r * r) := fun h4 h5 => by
        have := sq_bd (x := r) (a := 8000000) (by omega)
        unfold i64ok
        omega
      unfold F.inb
      (repeat' split) <;> simp_all <;> omega
    · exact hg.elim
  · exact hg.elim

noncomputable def L_within : Sums cod := (83, .p s_within) :: L_square
noncomputable def C_within : Cfg cod := mkC L_within

theorem L_within_ok : Snd Try.prog cod L_within := .cons within_sound L_square_ok

end
end Go.Proofs.Ytbkpgpkeecnjpaa
