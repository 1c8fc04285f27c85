/- Part of a claim: lemmas on the way to its theorem; each states its own conditions. -/
import Derived.Test.YthljcjighomgkaaFt
namespace Go.Proofs.Ythljcjighomgkaa
open Sym Go.RowKit
noncomputable section
set_option maxRecDepth 100000
set_option maxHeartbeats 4000000

namespace F
def clamp (n lo hi : Int) : Int := if n < lo then lo else if hi < n then hi else n
def grown (sl a s : Int) : Int := if s = 0 then 0 else -(-(sl * s) / 16) + -(-(a * s * s) / 2) + 2
def reachE (sl a s : Int) : Int := if inb sl 0 409600 && inb a 0 20 then (if inb s 0 600 then 0 else 12) else 4
def px (x s d : Int) : Int := x + s * d / 16
def ph (h r d : Int) : Int := clamp (h + r * d / 16) 0 60000
def pr (ra sl a d : Int) : Int := ra + grown sl a d
def ps (sl a d : Int) : Int := sl + 16 * a * d
def predE (i st t x y sx sy h r ra c hi mi sl lt lx ly lh lc le n a : Int) : Int := if F.trackE i st t x y sx sy h r ra c hi mi sl lt lx ly lh lc le = 0 then (if inb n 0 200000 && inb a 0 20 then (if inb (n - t) 0 600 then (if F.trackE i st n (F.px x sx (n - t)) (F.px y sy (n - t)) sx sy (F.ph h r (n - t)) r (F.pr ra sl a (n - t)) c hi mi (F.ps sl a (n - t)) lt lx ly lh lc le = 0 then 0 else 8) else 12) else 4) else F.trackE i st t x y sx sy h r ra c hi mi sl lt lx ly lh lc le
end F


theorem grown_bd {sl a s : Int} (h1 : 0 ≤ sl ∧ sl ≤ 409600) (h2 : 0 ≤ a ∧ a ≤ 20) (h3 : 0 ≤ s ∧ s ≤ 600) : (0 ≤ sl * s ∧ sl * s ≤ 245760000) ∧ (0 ≤ a * s ∧ a * s ≤ 12000) ∧ (0 ≤ a * s * s ∧ a * s * s ≤ 7200000) := by
  have k1 := mul_bd (x := sl) (y := s) (a := 409600) (b := 600) (by omega) (by omega)
  have k2 := mul_bd (x := a) (y := s) (a := 20) (b := 600) (by omega) (by omega)
  have n1 : 0 ≤ sl * s := Int.mul_nonneg (by omega) (by omega)
  have n2 : 0 ≤ a * s := Int.mul_nonneg (by omega) (by omega)
  have k3 := mul_bd (x := a * s) (y := s) (a := 12000) (b := 600) (by omega) (by omega)
  have n3 : 0 ≤ a * s * s := Int.mul_nonneg n2 (by omega)
  omega
theorem grown_need {sl a s : Int} (h1 : 0 ≤ sl ∧ sl ≤ 409600) (h2 : 0 ≤ a ∧ a ≤ 20) (h3 : 0 ≤ s ∧ s ≤ 600) : i64ok (sl * s) ∧ i64ok (-(sl * s)) ∧ i64ok (a * s) ∧ i64ok (a * s * s) ∧ i64ok (-(a * s * s)) ∧ i64ok (-(-(sl * s) / 16) + -(-(a * s * s) / 2)) ∧ i64ok (-(-(sl * s) / 16) + -(-(a * s * s) / 2) + 2) := by
  obtain ⟨b1, b2, b3⟩ := grown_bd h1 h2 h3
  generalize sl * s = p at *
  generalize a * s * s = q at *
  unfold i64ok
  omega
theorem grown_range {sl a s : Int} (h1 : 0 ≤ sl ∧ sl ≤ 409600) (h2 : 0 ≤ a ∧ a ≤ 20) (h3 : 0 ≤ s ∧ s ≤ 600) : 0 ≤ F.grown sl a s ∧ F.grown sl a s ≤ 20000000 := by
  unfold F.grown
  obtain ⟨b1, b2, b3⟩ := grown_bd h1 h2 h3
  generalize sl * s = p at *
  generalize a * s * s = q at *
  split <;> omega
theorem inb_false {n lo hi : Int} (h : n < lo ∨ hi < n) : F.inb n lo hi = false := by
  unfold F.inb
  simp
  omega
theorem inb_true {n lo hi : Int} : F.inb n lo hi = true ↔ lo ≤ n ∧ n ≤ hi := by
  unfold F.inb
  simp


theorem pred_need {x y sx sy h r ra sl a d : Int} (hx : -1000000 ≤ x ∧ x ≤ 1000000) (hy : -1000000 ≤ y ∧ y ≤ 1000000) (hsx : -12800 ≤ sx ∧ sx ≤ 12800) (hsy : -12800 ≤ sy ∧ sy ≤ 12800) (hh : 0 ≤ h ∧ h ≤ 60000) (hr : -3200 ≤ r ∧ r ≤ 3200) (hra : 0 ≤ ra ∧ ra ≤ 4000000) (hsl : 0 ≤ sl ∧ sl ≤ 409600) (ha : 0 ≤ a ∧ a ≤ 20) (hd : 0 ≤ d ∧ d ≤ 600) :
    i64ok (sx * d) ∧ i64ok (sy * d) ∧ i64ok (x + sx * d / 16) ∧ i64ok (y + sy * d / 16) ∧ i64ok (r * d) ∧ i64ok (h + r * d / 16) ∧ i64ok (ra + F.grown sl a d) ∧ i64ok (16 * a) ∧ i64ok (16 * a * d) ∧ i64ok (sl + 16 * a * d) := by
  have k1 := mul_bd (x := sx) (y := d) (a := 12800) (b := 600) (by omega) (by omega)
  have k2 := mul_bd (x := sy) (y := d) (a := 12800) (b := 600) (by omega) (by omega)
  have k3 := mul_bd (x := r) (y := d) (a := 3200) (b := 600) (by omega) (by omega)
  have k4 := mul_bd (x := 16 * a) (y := d) (a := 320) (b := 600) (by omega) (by omega)
  have k5 := grown_range hsl ha hd
  generalize sx * d = p1 at *
  generalize sy * d = p2 at *
  generalize r * d = p3 at *
  generalize 16 * a * d = p4 at *
  generalize F.grown sl a d = p5 at *
  unfold i64ok
  omega
theorem pred_zero {x sx h r ra sl a : Int} (hh : 0 ≤ h ∧ h ≤ 60000) : F.px x sx 0 = x ∧ F.ph h r 0 = h ∧ F.pr ra sl a 0 = ra ∧ F.ps sl a 0 = sl := by
  unfold F.px F.ph F.pr F.ps F.clamp F.grown
  simp
  omega

noncomputable def s_fdown : Summ cod := fun args H => match H with
  | [] => match rd args with
    | some [[a], [b]] => (.need (0 < b ∧ i64ok a) (.ret (.c (.int .i64 (a / b)), [])))
    | _ => .fail
  | _ => .fail

theorem fdown_tree (a b : Int) : symF C_hit [] Try.f73.results.toList (List.length ([] : Heap cod)) 400 [.code (codeOf Try.f73)] ⟨argsS Try.f73 [.c (.int .i64 a), .c (.int .i64 b)], []⟩ =
.need (((0 : Int) < b ∧ i64ok a)) (
.ret (.fin (.c (.int .i64 (a / b))) [])) := by kernel_rfl

theorem fdown_sound : Sound Try.prog cod 73 s_fdown := sound_flat (cfg := C_hit) L_hit_ok mixed Try.func73 rfl rfl _ 400 fun args H r news hg => by
  unfold s_fdown at hg
  split at hg
  · split at hg
    · rename_i a b hrd
      have hargs := rd_spec hrd
      simp only [List.map, wr1, ints, List.tail] at hargs
      subst hargs
      clear hrd
      rw [fdown_tree]
      simp only [T.gives, T.wp, Prod.mk.injEq] at hg
      obtain ⟨⟨h1, h2⟩, rfl, rfl⟩ := hg
      simp only [T.wp, T.wp_cond, Fin.fin.injEq, SV.c.injEq, SV.tup.injEq, SV.agg.injEq, List.cons.injEq, Cell.bool.injEq, Cell.int.injEq, and_true, true_and, decide_eq_true_eq]
      exact ⟨h1, h2⟩
    · exact hg.elim
  · exact hg.elim

noncomputable def L_fdown : Sums cod := (73, .p s_fdown) :: L_hit
noncomputable def C_fdown : Cfg cod := mkC L_fdown

theorem L_fdown_ok : Snd Try.prog cod L_fdown := .cons fdown_sound L_hit_ok

noncomputable def s_fup : Summ cod := fun args H => match H with
  | [] => match rd args with
    | some [[a], [b]] => (.need (0 < b ∧ i64ok a ∧ i64ok (-a)) (.ret (.c (.int .i64 (-(-a / b))), [])))
    | _ => .fail
  | _ => .fail

theorem fup_tree (a b : Int) : symF C_fdown [] Try.f88.results.toList (List.length ([] : Heap cod)) 400 [.code (codeOf Try.f88)] ⟨argsS Try.f88 [.c (.int .i64 a), .c (.int .i64 b)], []⟩ =
.need (((0 : Int) < b ∧ (i64ok a ∧ i64ok (-a)))) (
.ret (.fin (.c (.int .i64 (-(-a / b)))) [])) := by kernel_rfl

theorem fup_sound : Sound Try.prog cod 88 s_fup := sound_flat (cfg := C_fdown) L_fdown_ok mixed Try.func88 rfl rfl _ 400 fun args H r news hg => by
  unfold s_fup at hg
  split at hg
  · split at hg
    · rename_i a b hrd
      have hargs := rd_spec hrd
      simp only [List.map, wr1, ints, List.tail] at hargs
      subst hargs
      clear hrd
      rw [fup_tree]
      simp only [T.gives, T.wp, Prod.mk.injEq] at hg
      obtain ⟨⟨h1, h2⟩, rfl, rfl⟩ := hg
      simp only [T.wp, T.wp_cond, Fin.fin.injEq, SV.c.injEq, SV.tup.injEq, SV.agg.injEq, List.cons.injEq, Cell.bool.injEq, Cell.int.injEq, and_true, true_and, decide_eq_true_eq]
      exact ⟨h1, h2⟩
    · exact hg.elim
  · exact hg.elim

noncomputable def L_fup : Sums cod := (88, .p s_fup) :: L_fdown
noncomputable def C_fup : Cfg cod := mkC L_fup

theorem L_fup_ok : Snd Try.prog cod L_fup := .cons fup_sound L_fdown_ok

noncomputable def s_between : Summ cod := fun args H => match H with
  | [] => match rd args with
    | some [[n], [lo], [hi]] => (.need (lo ≤ hi) (.ret (.c (.int .i64 (F.clamp n lo hi)), [])))
    | _ => .fail
  | _ => .fail

theorem between_tree (n lo hi : Int) : symF C_fup [] Try.f74.results.toList (List.length ([] : Heap cod)) 400 [.code (codeOf Try.f74)] ⟨argsS Try.f74 [.c (.int .i64 n), .c (.int .i64 lo), .c (.int .i64 hi)], []⟩ =
 cond (decide (n < lo)) (
 .ret (.fin (.c (.int .i64 lo)) [])) (
 cond (decide (hi < lo)) (
  .ret (.fin (.c (.int .i64 lo)) [])) (
  cond (decide (hi < n)) (
   .ret (.fin (.c (.int .i64 hi)) [])) (
   .ret (.fin (.c (.int .i64 n)) [])))) := by kernel_rfl

theorem between_sound : Sound Try.prog cod 74 s_between := sound_flat (cfg := C_fup) L_fup_ok mixed Try.func74 rfl rfl _ 400 fun args H r news hg => by
  unfold s_between at hg
  split at hg
  · split at hg
    · rename_i n lo hi hrd
      have hargs := rd_spec hrd
      simp only [List.map, wr1, ints, List.tail] at hargs
      subst hargs
      clear hrd
      rw [between_tree]
      simp only [T.gives, T.wp, Prod.mk.injEq] at hg
      obtain ⟨h1, rfl, rfl⟩ := hg
      simp only [T.wp, T.wp_cond, Fin.fin.injEq, SV.c.injEq, SV.tup.injEq, SV.agg.injEq, List.cons.injEq, Cell.bool.injEq, Cell.int.injEq, and_true, true_and, decide_eq_true_eq]
      unfold F.clamp
      (repeat' split) <;> omega
    · exact hg.elim
  · exact hg.elim

noncomputable def L_between : Sums cod := (74, .p s_between) :: L_fup
noncomputable def C_between : Cfg cod := mkC L_between

theorem L_between_ok : Snd Try.prog cod L_between := .cons between_sound L_fup_ok

noncomputable def s_clamp : Summ cod := fun args H => match H with
  | [] => match rd args with
    | some [[n], [lo], [hi]] => (.ret (.c (.int .i64 (F.clamp n lo hi)), []))
    | _ => .fail
  | _ => .fail

theorem clamp_tree (n lo hi : Int) : symF C_between [] Try.f76.results.toList (List.length ([] : Heap cod)) 400 [.code (codeOf Try.f76)] ⟨argsS Try.f76 [.c (.int .i64 n), .c (.int .i64 lo), .c (.int .i64 hi)], []⟩ =
 cond (decide (n < lo)) (
 .ret (.fin (.c (.int .i64 lo)) [])) (
 cond (decide (hi < n)) (
  .ret (.fin (.c (.int .i64 hi)) [])) (
  .ret (.fin (.c (.int .i64 n)) []))) := by kernel_rfl

theorem clamp_sound : Sound Try.prog cod 76 s_clamp := sound_flat (cfg := C_between) L_between_ok mixed Try.func76 rfl rfl _ 400 fun args H r news hg => by
  unfold s_clamp at hg
  split at hg
  · split at hg
    · rename_i n lo hi hrd
      have hargs := rd_spec hrd
      simp only [List.map, wr1, ints, List.tail] at hargs
      subst hargs
      clear hrd
      rw [clamp_tree]
      try simp only [T.gives, T.wp, Prod.mk.injEq] at hg
      obtain ⟨rfl, rfl⟩ := hg
      simp only [T.wp, T.wp_cond, Fin.fin.injEq, SV.c.injEq, Cell.bool.injEq, Cell.int.injEq, and_true, true_and, decide_eq_true_eq, F.clamp]
      (repeat' split) <;> simp_all <;> omega
    · exact hg.elim
  · exact hg.elim

noncomputable def L_clamp : Sums cod := (76, .p s_clamp) :: L_between
noncomputable def C_clamp : Cfg cod := mkC L_clamp

theorem L_clamp_ok : Snd Try.prog cod L_clamp := .cons clamp_sound L_between_ok

noncomputable def s_add : Summ cod := fun args H => match H with
  | [] => match rd args with
    | some [[_, x, y], [_, u, v]] => (.need (i64ok (x + u) ∧ i64ok (y + v)) (.ret (.agg [.int .i64 (x + u), .int .i64 (y + v)], [])))
    | _ => .fail
  | _ => .fail

theorem add_tree (x y u v : Int) : symF C_clamp [] Try.f72.results.toList (List.length ([] : Heap cod)) 400 [.code (codeOf Try.f72)] ⟨argsS Try.f72 [.agg [.int .i64 x, .int .i64 y], .agg [.int .i64 u, .int .i64 v]], []⟩ =
.need (i64ok (x + u)) (
.need (i64ok (y + v)) (
.ret (.fin (.agg [.int .i64 (x + u), .int .i64 (y + v)]) []))) := by kernel_rfl

theorem add_sound : Sound Try.prog cod 72 s_add := sound_flat (cfg := C_clamp) L_clamp_ok mixed Try.func72 rfl rfl _ 400 fun args H r news hg => by
  unfold s_add at hg
  split at hg
  · split at hg
    · rename_i _ x y _ u v hrd
      have hargs := rd_spec hrd
      simp only [List.map, wr1, ints, List.tail] at hargs
      subst hargs
      clear hrd
      rw [add_tree]
      simp only [T.gives, T.wp, Prod.mk.injEq] at hg
      obtain ⟨⟨h1, h2⟩, rfl, rfl⟩ := hg
      simp only [T.wp, T.wp_cond, Fin.fin.injEq, SV.c.injEq, SV.tup.injEq, SV.agg.injEq, List.cons.injEq, Cell.bool.injEq, Cell.int.injEq, and_true, true_and, decide_eq_true_eq]
      simp_all
    · exact hg.elim
  · exact hg.elim

noncomputable def L_add : Sums cod := (72, .p s_add) :: L_clamp
noncomputable def C_add : Cfg cod := mkC L_add

theorem L_add_ok : Snd Try.prog cod L_add := .cons add_sound L_clamp_ok

noncomputable def s_reach : Summ cod := fun args H => match H with
  | [] => match rd args with
    | some [[sl], [a], [s]] => (.ret (.tup [.c (.int .i64 (F.z (F.reachE sl a s) (F.grown sl a s))), .c (.int .i64 (F.reachE sl a s))], []))
    | _ => .fail
  | _ => .fail

theorem reach_tree (sl a s : Int) : symF C_add [] Try.f75.results.toList (List.length ([] : Heap cod)) 400 [.code (codeOf Try.f75)] ⟨argsS Try.f75 [.c (.int .i64 sl), .c (.int .i64 a), .c (.int .i64 s)], []⟩ =
 cond (decide (sl < 0)) (
 .ret (.fin (.tup [.c (.int .i64 0), .c (.int .i64 4)]) [])) (
 cond (decide (409600 < sl)) (
  .ret (.fin (.tup [.c (.int .i64 0), .c (.int .i64 4)]) [])) (
  cond (decide (a < 0)) (
   .ret (.fin (.tup [.c (.int .i64 0), .c (.int .i64 4)]) [])) (
   cond (decide (20 < a)) (
    .ret (.fin (.tup [.c (.int .i64 0), .c (.int .i64 4)]) [])) (
    cond (decide (s < 0)) (
     .ret (.fin (.tup [.c (.int .i64 0), .c (.int .i64 12)]) [])) (
     cond (decide (600 < s)) (
      .ret (.fin (.tup [.c (.int .i64 0), .c (.int .i64 12)]) [])) (
      cond (decide (s = 0)) (
       .ret (.fin (.tup [.c (.int .i64 0), .c (.int .i64 0)]) [])) (
       .need (i64ok (sl * s)) (
       .need (((0 : Int) < 16 ∧ (i64ok (sl * s) ∧ i64ok (-(sl * s))))) (
       .need (i64ok (a * s)) (
       .need (i64ok (a * s * s)) (
       .need (((0 : Int) < 2 ∧ (i64ok (a * s * s) ∧ i64ok (-(a * s * s))))) (
       .need (i64ok (-(-(sl * s) / 16) + -(-(a * s * s) / 2))) (
       .need (i64ok (-(-(sl * s) / 16) + -(-(a * s * s) / 2) + 2)) (
       .ret (.fin (.tup [.c (.int .i64 (-(-(sl * s) / 16) + -(-(a * s * s) / 2) + 2)), .c (.int .i64 0)]) []))))))))))))))) := by kernel_rfl

theorem reach_sound : Sound Try.prog cod 75 s_reach := sound_flat (cfg := C_add) L_add_ok mixed Try.func75 rfl rfl _ 400 fun args H r news hg => by
  unfold s_reach at hg
  split at hg
  · split at hg
    · rename_i sl a s hrd
      have hargs := rd_spec hrd
      simp only [List.map, wr1, ints, List.tail] at hargs
      subst hargs
      clear hrd
      rw [reach_tree]
      simp only [T.gives, T.wp, Prod.mk.injEq] at hg
      obtain ⟨rfl, rfl⟩ := hg
      simp only [T.wp, T.wp_cond, Fin.fin.injEq, SV.c.injEq, SV.tup.injEq, SV.agg.injEq, List.cons.injEq, Cell.bool.injEq, Cell.int.injEq, and_true, true_and, decide_eq_true_eq]
      unfold F.reachE F.z
      by_cases h1 : sl < 0
      · simp [h1, inb_false (.inl h1)]
      by_cases h2 : 409600 < sl
      · simp [h1, h2, inb_false (.inr h2)]
      have g1 := inb_true.2 (show 0 ≤ sl ∧ sl ≤ 409600 by omega)
      by_cases h3 : a < 0
      · simp [h1, h2, h3, g1, inb_false (.inl h3)]
      by_cases h4 : 20 < a
      · simp [h1, h2, h3, h4, g1, inb_false (.inr h4)]
      have g2 := inb_true.2 (show 0 ≤ a ∧ a ≤ 20 by omega)
      by_cases h5 : s < 0
      · simp [h1, h2, h3, h4, h5, g1, g2, inb_false (.inl h5)]
      by_cases h6 : 600 < s
      · simp [h1, h2, h3, h4, h5, h6, g1, g2, inb_false (.inr h6)]
      have g3 := inb_true.2 (show 0 ≤ s ∧ s ≤ 600 by omega)
      have hn := grown_need (sl := sl) (a := a) (s := s) (by omega) (by omega) (by omega)
      by_cases h7 : s = 0
      · have h8 : F.grown sl a s = 0 := by unfold F.grown; rw [if_pos h7]
        have h9 : F.inb 0 0 600 = true := by decide
        simp [h1, h2, h3, h4, g1, g2, h7, h9, F.grown]
      · have h8 : F.grown sl a s = -(-(sl * s) / 16) + -(-(a * s * s) / 2) + 2 := by unfold F.grown; rw [if_neg h7]
        simp [h1, h2, h3, h4, h5, h6, h7, g1, g2, g3, h8, hn]
    · exact hg.elim
  · exact hg.elim

noncomputable def L_reach : Sums cod := (75, .p s_reach) :: L_add
noncomputable def C_reach : Cfg cod := mkC L_reach

theorem L_reach_ok : Snd Try.prog cod L_reach := .cons reach_sound L_add_ok

noncomputable def s_grown : Summ cod := fun args H => match H with
  | [] => match rd args with
    | some [[sl], [a], [s]] => (.need ((0 ≤ sl ∧ sl ≤ 409600) ∧ (0 ≤ a ∧ a ≤ 20) ∧ (0 ≤ s ∧ s ≤ 600)) (.ret (.c (.int .i64 (F.grown sl a s)), [])))
    | _ => .fail
  | _ => .fail

theorem grown_tree (sl a s : Int) : symF C_reach [] Try.f77.results.toList (List.length ([] : Heap cod)) 400 [.code (codeOf Try.f77)] ⟨argsS Try.f77 [.c (.int .i64 sl), .c (.int .i64 a), .c (.int .i64 s)], []⟩ =
 cond (decide (s = 0)) (
 .ret (.fin (.c (.int .i64 0)) [])) (
 .need (i64ok (sl * s)) (
 .need (((0 : Int) < 16 ∧ (i64ok (sl * s) ∧ i64ok (-(sl * s))))) (
 .need (i64ok (a * s)) (
 .need (i64ok (a * s * s)) (
 .need (((0 : Int) < 2 ∧ (i64ok (a * s * s) ∧ i64ok (-(a * s * s))))) (
 .need (i64ok (-(-(sl * s) / 16) + -(-(a * s * s) / 2))) (
 .need (i64ok (-(-(sl * s) / 16) + -(-(a * s * s) / 2) + 2)) (
 .ret (.fin (.c (.int .i64 (-(-(sl * s) / 16) + -(-(a * s * s) / 2) + 2))) []))))))))) := by kernel_rfl

theorem grown_sound : Sound Try.prog cod 77 s_grown := sound_flat (cfg := C_reach) L_reach_ok mixed Try.func77 rfl rfl _ 400 fun args H r news hg => by
  unfold s_grown at hg
  split at hg
  · split at hg
    · rename_i sl a s hrd
      have hargs := rd_spec hrd
      simp only [List.map, wr1, ints, List.tail] at hargs
      subst hargs
      clear hrd
      rw [grown_tree]
      simp only [T.gives, T.wp, Prod.mk.injEq] at hg
      obtain ⟨⟨h1, h2, h3⟩, rfl, rfl⟩ := hg
      simp only [T.wp, T.wp_cond, Fin.fin.injEq, SV.c.injEq, SV.tup.injEq, SV.agg.injEq, List.cons.injEq, Cell.bool.injEq, Cell.int.injEq, and_true, true_and, decide_eq_true_eq]
      have hn := grown_need h1 h2 h3
      by_cases h7 : s = 0
      · have h8 : F.grown sl a s = 0 := by unfold F.grown; rw [if_pos h7]
        simp [h7, F.grown]
      · have h8 : F.grown sl a s = -(-(sl * s) / 16) + -(-(a * s * s) / 2) + 2 := by unfold F.grown; rw [if_neg h7]
        simp [h7, h8, hn]
    · exact hg.elim
  · exact hg.elim

noncomputable def L_grown : Sums cod := (77, .p s_grown) :: L_reach
noncomputable def C_grown : Cfg cod := mkC L_grown

theorem L_grown_ok : Snd Try.prog cod L_grown := .cons grown_sound L_reach_ok

noncomputable def s_predict : Summ cod := fun args H => match H with
  | [] => match rd args with
    | some [[_, i, st, t, x, y, sx, sy, h, r, ra, c, hi, mi, sl, lt, lx, ly, lh, lc, le], [n], [a]] => (.ret (.tup [.agg [.int .i64 (F.z (F.predE i st t x y sx sy h r ra c hi mi sl lt lx ly lh lc le n a) i), .int .i64 (F.z (F.predE i st t x y sx sy h r ra c hi mi sl lt lx ly lh lc le n a) st), .int .i64 (F.z (F.predE i st t x y sx sy h r ra c hi mi sl lt lx ly lh lc le n a) n), .int .i64 (F.z (F.predE i st t x y sx sy h r ra c hi mi sl lt lx ly lh lc le n a) (F.px x sx (n - t))), .int .i64 (F.z (F.predE i st t x y sx sy h r ra c hi mi sl lt lx ly lh lc le n a) (F.px y sy (n - t))), .int .i64 (F.z (F.predE i st t x y sx sy h r ra c hi mi sl lt lx ly lh lc le n a) sx), .int .i64 (F.z (F.predE i st t x y sx sy h r ra c hi mi sl lt lx ly lh lc le n a) sy), .int .i64 (F.z (F.predE i st t x y sx sy h r ra c hi mi sl lt lx ly lh lc le n a) (F.ph h r (n - t))), .int .i64 (F.z (F.predE i st t x y sx sy h r ra c hi mi sl lt lx ly lh lc le n a) r), .int .i64 (F.z (F.predE i st t x y sx sy h r ra c hi mi sl lt lx ly lh lc le n a) (F.pr ra sl a (n - t))), .int .i64 (F.z (F.predE i st t x y sx sy h r ra c hi mi sl lt lx ly lh lc le n a) c), .int .i64 (F.z (F.predE i st t x y sx sy h r ra c hi mi sl lt lx ly lh lc le n a) hi), .int .i64 (F.z (F.predE i st t x y sx sy h r ra c hi mi sl lt lx ly lh lc le n a) mi), .int .i64 (F.z (F.predE i st t x y sx sy h r ra c hi mi sl lt lx ly lh lc le n a) (F.ps sl a (n - t))), .int .i64 (F.z (F.predE i st t x y sx sy h r ra c hi mi sl lt lx ly lh lc le n a) lt), .int .i64 (F.z (F.predE i st t x y sx sy h r ra c hi mi sl lt lx ly lh lc le n a) lx), .int .i64 (F.z (F.predE i st t x y sx sy h r ra c hi mi sl lt lx ly lh lc le n a) ly), .int .i64 (F.z (F.predE i st t x y sx sy h r ra c hi mi sl lt lx ly lh lc le n a) lh), .int .i64 (F.z (F.predE i st t x y sx sy h r ra c hi mi sl lt lx ly lh lc le n a) lc), .int .i64 (F.z (F.predE i st t x y sx sy h r ra c hi mi sl lt lx ly lh lc le n a) le)], .c (.int .i64 (F.predE i st t x y sx sy h r ra c hi mi sl lt lx ly lh lc le n a))], []))
    | _ => .fail
  | _ => .fail

theorem predict_tree (i st t x y sx sy h r ra c hi mi sl lt lx ly lh lc le n a : Int) : symF (mkW L_grown) [] Try.f45.results.toList (List.length ([] : Heap cod)) 400 [.code (codeOf Try.f45)] ⟨argsS Try.f45 [.agg [.int .i64 i, .int .i64 st, .int .i64 t, .int .i64 x, .int .i64 y, .int .i64 sx, .int .i64 sy, .int .i64 h, .int .i64 r, .int .i64 ra, .int .i64 c, .int .i64 hi, .int .i64 mi, .int .i64 sl, .int .i64 lt, .int .i64 lx, .int .i64 ly, .int .i64 lh, .int .i64 lc, .int .i64 le], .c (.int .i64 n), .c (.int .i64 a)], []⟩ =
 cond (!decide (F.trackE i st t x y sx sy h r ra c hi mi sl lt lx ly lh lc le = 0)) (
 .ret (.fin (.tup [.agg [.int .i64 0, .int .i64 0, .int .i64 0, .int .i64 0, .int .i64 0, .int .i64 0, .int .i64 0, .int .i64 0, .int .i64 0, .int .i64 0, .int .i64 0, .int .i64 0, .int .i64 0, .int .i64 0, .int .i64 0, .int .i64 0, .int .i64 0, .int .i64 0, .int .i64 0, .int .i64 0], .c (.int .i64 (F.trackE i st t x y sx sy h r ra c hi mi sl lt lx ly lh lc le))]) [])) (
 cond (F.out n 0 200000) (
  .ret (.fin (.tup [.agg [.int .i64 0, .int .i64 0, .int .i64 0, .int .i64 0, .int .i64 0, .int .i64 0, .int .i64 0, .int .i64 0, .int .i64 0, .int .i64 0, .int .i64 0, .int .i64 0, .int .i64 0, .int .i64 0, .int .i64 0, .int .i64 0, .int .i64 0, .int .i64 0, .int .i64 0, .int .i64 0], .c (.int .i64 4)]) [])) (
  cond (F.out a 0 20) (
   .ret (.fin (.tup [.agg [.int .i64 0, .int .i64 0, .int .i64 0, .int .i64 0, .int .i64 0, .int .i64 0, .int .i64 0, .int .i64 0, .int .i64 0, .int .i64 0, .int .i64 0, .int .i64 0, .int .i64 0, .int .i64 0, .int .i64 0, .int .i64 0, .int .i64 0, .int .i64 0, .int .i64 0, .int .i64 0], .c (.int .i64 4)]) [])) (
   cond (F.out (IntKind.wrap IntKind.i64 (n - t)) 0 600) (
    .ret (.fin (.tup [.agg [.int .i64 0, .int .i64 0, .int .i64 0, .int .i64 0, .int .i64 0, .int .i64 0, .int .i64 0, .int .i64 0, .int .i64 0, .int .i64 0, .int .i64 0, .int .i64 0, .int .i64 0, .int .i64 0, .int .i64 0, .int .i64 0, .int .i64 0, .int .i64 0, .int .i64 0, .int .i64 0], .c (.int .i64 12)]) [])) (
    cond (decide (IntKind.wrap IntKind.i64 (n - t) = 0)) (
     .ret (.fin (.tup [.agg [.int .i64 i, .int .i64 st, .int .i64 t, .int .i64 x, .int .i64 y, .int .i64 sx, .int .i64 sy, .int .i64 h, .int .i64 r, .int .i64 ra, .int .i64 c, .int .i64 hi, .int .i64 mi, .int .i64 sl, .int .i64 lt, .int .i64 lx, .int .i64 ly, .int .i64 lh, .int .i64 lc, .int .i64 le], .c (.int .i64 0)]) [])) (
     .need (((0 : Int) < 16 ∧ i64ok (IntKind.wrap IntKind.i64 (sx * IntKind.wrap IntKind.i64 (n - t))))) (
     .need (((0 : Int) < 16 ∧ i64ok (IntKind.wrap IntKind.i64 (sy * IntKind.wrap IntKind.i64 (n - t))))) (
     .need ((i64ok (x + IntKind.wrap IntKind.i64 (sx * IntKind.wrap IntKind.i64 (n - t)) / 16) ∧ i64ok (y + IntKind.wrap IntKind.i64 (sy * IntKind.wrap IntKind.i64 (n - t)) / 16))) (
     .need (((0 : Int) < 16 ∧ i64ok (IntKind.wrap IntKind.i64 (r * IntKind.wrap IntKind.i64 (n - t))))) (
     .need ((0 : Int) ≤ 60000) (
     cond (!decide     (F.trackE i st n (x + IntKind.wrap IntKind.i64 (sx * IntKind.wrap IntKind.i64 (n - t)) / 16)         (y + IntKind.wrap IntKind.i64 (sy * IntKind.wrap IntKind.i64 (n - t)) / 16) sx sy         (F.clamp (IntKind.wrap IntKind.i64 (h + IntKind.wrap IntKind.i64 (r * IntKind.wrap IntKind.i64 (n - t)) / 16)) 0           60000)         r         (IntKind.wrap IntKind.i64           (ra +             F.z (F.reachE sl a (IntKind.wrap IntKind.i64 (n - t))) (F.grown sl a (IntKind.wrap IntKind.i64 (n - t)))))         c hi mi         (IntKind.wrap IntKind.i64           (sl + IntKind.wrap IntKind.i64 (IntKind.wrap IntKind.i64 (16 * a) * IntKind.wrap IntKind.i64 (n - t))))         lt lx ly lh lc le =       0)) (
      .ret (.fin (.tup [.agg [.int .i64 0, .int .i64 0, .int .i64 0, .int .i64 0, .int .i64 0, .int .i64 0, .int .i64 0, .int .i64 0, .int .i64 0, .int .i64 0, .int .i64 0, .int .i64 0, .int .i64 0, .int .i64 0, .int .i64 0, .int .i64 0, .int .i64 0, .int .i64 0, .int .i64 0, .int .i64 0], .c (.int .i64 8)]) [])) (
      .ret (.fin (.tup [.agg [.int .i64 i, .int .i64 st, .int .i64 n, .int .i64 (x + IntKind.wrap IntKind.i64 (sx * IntKind.wrap IntKind.i64 (n - t)) / 16), .int .i64 (y + IntKind.wrap IntKind.i64 (sy * IntKind.wrap IntKind.i64 (n - t)) / 16), .int .i64 sx, .int .i64 sy, .int .i64 (F.clamp (IntKind.wrap IntKind.i64 (h + IntKind.wrap IntKind.i64 (r * IntKind.wrap IntKind.i64 (n - t)) / 16)) 0 60000), .int .i64 r, .int .i64 (IntKind.wrap IntKind.i64   (ra + F.z (F.reachE sl a (IntKind.wrap IntKind.i64 (n - t))) (F.grown sl a (IntKind.wrap IntKind.i64 (n - t))))), .int .i64 c, .int .i64 hi, .int .i64 mi, .int .i64 (IntKind.wrap IntKind.i64   (sl + IntKind.wrap IntKind.i64 (IntKind.wrap IntKind.i64 (16 * a) * IntKind.wrap IntKind.i64 (n - t)))), .int .i64 lt, .int .i64 lx, .int .i64 ly, .int .i64 lh, .int .i64 lc, .int .i64 le], .c (.int .i64 0)]) [])))))))))))) := by kernel_rfl

theorem predict_sound : Sound Try.prog cod 45 s_predict := sound_flat (cfg := (mkW L_grown)) L_grown_ok mixed Try.func45 rfl rfl _ 400 fun args H r news hg => by
  unfold s_predict at hg
  split at hg
  · split at hg
    · rename_i _ i st t x y sx sy h r ra c hi mi sl lt lx ly lh lc le n a hrd
      have hargs := rd_spec hrd
      simp only [List.map, wr1, ints, List.tail] at hargs
      subst hargs
      clear hrd
      rw [predict_tree]
      simp only [T.gives, T.wp, Prod.mk.injEq] at hg
      obtain ⟨rfl, rfl⟩ := hg
      simp only [T.wp, T.wp_cond, Fin.fin.injEq, SV.c.injEq, SV.tup.injEq, SV.agg.injEq, List.cons.injEq, Cell.bool.injEq, Cell.int.injEq, and_true, true_and, decide_eq_true_eq]
      have hb := trackE_zero (i := i) (st := st) (t := t) (x := x) (y := y) (sx := sx) (sy := sy) (h := h) (r := r) (ra := ra) (c := c) (hi := hi) (mi := mi) (sl := sl) (lt := lt) (lx := lx) (ly := ly) (lh := lh) (lc := lc) (le := le)
      unfold F.predE F.z
      by_cases he : F.trackE i st t x y sx sy h r ra c hi mi sl lt lx ly lh lc le = 0
      · obtain ⟨k1, k2, k3, k4, k5, k6, k7, k8, k9, k10, k11, k12, k13, k14, k15, k16⟩ := hb he
        simp only [he, out_inb]
        by_cases h1 : F.inb n 0 200000 = true
        · have h1' := inb_true.1 h1
          have hw : IntKind.wrap .i64 (n - t) = n - t := wrap_ok (by unfold i64ok; omega)
          simp only [h1, hw]
          by_cases h2 : F.inb a 0 20 = true
          · simp only [h2]
            by_cases h3 : F.inb (n - t) 0 600 = true
            · simp only [h3]
              obtain ⟨w1, w2, w3, w4, w5, w6, w7, w8, w9, w10⟩ := pred_need (d := (n - t)) k2 k3 k7 k8 k4 k9 k5 k10 (inb_true.1 h2) (inb_true.1 h3)
              by_cases h4 : n - t = 0
              · obtain rfl : n = t := by omega
                have h5 := pred_zero (x := x) (sx := sx) (h := h) (r := r) (ra := ra) (sl := sl) (a := a) k4
                have h6 := pred_zero (x := y) (sx := sy) (h := h) (r := r) (ra := ra) (sl := sl) (a := a) k4
                simp [h5, h6, he, h4]
              · have hr : F.reachE sl a (n - t) = 0 := by
                  unfold F.reachE
                  simp [inb_true.2 k10, h2, h3]
                unfold F.px F.ph F.pr F.ps
                simp only [h4, hr, F.z, wrap_ok w1, wrap_ok w2, wrap_ok w3, wrap_ok w4, wrap_ok w5, wrap_ok w6, wrap_ok w7, wrap_ok w8, wrap_ok w9, wrap_ok w10, w1, w2, w3, w4, w5, if_true]
                generalize F.trackE i st n (x + sx * (n - t) / 16) (y + sy * (n - t) / 16) sx sy (F.clamp (h + r * (n - t) / 16) 0 60000) r (ra + F.grown sl a (n - t)) c hi mi (sl + 16 * a * (n - t)) lt lx ly lh lc le = E3
                by_cases h7 : E3 = 0 <;> simp [h7]
            · simp [h3]
          · simp [h2]
        · simp [h1]
      · simp [he]
    · exact hg.elim
  · exact hg.elim

noncomputable def L_predict : Sums cod := (45, .p s_predict) :: L_grown
noncomputable def C_predict : Cfg cod := mkC L_predict

theorem L_predict_ok : Snd Try.prog cod L_predict := .cons predict_sound L_grown_ok

noncomputable def s_predicted : Summ cod := fun args H => match H with
  | [] => match rd args with
    | some [[_, i, st, t, x, y, sx, sy, h, r, ra, c, hi, mi, sl, lt, lx, ly, lh, lc, le], [n], [a]] => (.ret (.tup [.agg [.int .i64 (F.z (F.predE i st t x y sx sy h r ra c hi mi sl lt lx ly lh lc le n a) i), .int .i64 (F.z (F.predE i st t x y sx sy h r ra c hi mi sl lt lx ly lh lc le n a) st), .int .i64 (F.z (F.predE i st t x y sx sy h r ra c hi mi sl lt lx ly lh lc le n a) n), .int .i64 (F.z (F.predE i st t x y sx sy h r ra c hi mi sl lt lx ly lh lc le n a) (F.px x sx (n - t))), .int .i64 (F.z (F.predE i st t x y sx sy h r ra c hi mi sl lt lx ly lh lc le n a) (F.px y sy (n - t))), .int .i64 (F.z (F.predE i st t x y sx sy h r ra c hi mi sl lt lx ly lh lc le n a) sx), .int .i64 (F.z (F.predE i st t x y sx sy h r ra c hi mi sl lt lx ly lh lc le n a) sy), .int .i64 (F.z (F.predE i st t x y sx sy h r ra c hi mi sl lt lx ly lh lc le n a) (F.ph h r (n - t))), .int .i64 (F.z (F.predE i st t x y sx sy h r ra c hi mi sl lt lx ly lh lc le n a) r), .int .i64 (F.z (F.predE i st t x y sx sy h r ra c hi mi sl lt lx ly lh lc le n a) (F.pr ra sl a (n - t))), .int .i64 (F.z (F.predE i st t x y sx sy h r ra c hi mi sl lt lx ly lh lc le n a) c), .int .i64 (F.z (F.predE i st t x y sx sy h r ra c hi mi sl lt lx ly lh lc le n a) hi), .int .i64 (F.z (F.predE i st t x y sx sy h r ra c hi mi sl lt lx ly lh lc le n a) mi), .int .i64 (F.z (F.predE i st t x y sx sy h r ra c hi mi sl lt lx ly lh lc le n a) (F.ps sl a (n - t))), .int .i64 (F.z (F.predE i st t x y sx sy h r ra c hi mi sl lt lx ly lh lc le n a) lt), .int .i64 (F.z (F.predE i st t x y sx sy h r ra c hi mi sl lt lx ly lh lc le n a) lx), .int .i64 (F.z (F.predE i st t x y sx sy h r ra c hi mi sl lt lx ly lh lc le n a) ly), .int .i64 (F.z (F.predE i st t x y sx sy h r ra c hi mi sl lt lx ly lh lc le n a) lh), .int .i64 (F.z (F.predE i st t x y sx sy h r ra c hi mi sl lt lx ly lh lc le n a) lc), .int .i64 (F.z (F.predE i st t x y sx sy h r ra c hi mi sl lt lx ly lh lc le n a) le)], .c (.int .i64 (F.predE i st t x y sx sy h r ra c hi mi sl lt lx ly lh lc le n a))], []))
    | _ => .fail
  | _ => .fail

theorem predicted_tree (i st t x y sx sy h r ra c hi mi sl lt lx ly lh lc le n a : Int) : symF C_predict [] Try.f46.results.toList (List.length ([] : Heap cod)) 400 [.code (codeOf Try.f46)] ⟨argsS Try.f46 [.agg [.int .i64 i, .int .i64 st, .int .i64 t, .int .i64 x, .int .i64 y, .int .i64 sx, .int .i64 sy, .int .i64 h, .int .i64 r, .int .i64 ra, .int .i64 c, .int .i64 hi, .int .i64 mi, .int .i64 sl, .int .i64 lt, .int .i64 lx, .int .i64 ly, .int .i64 lh, .int .i64 lc, .int .i64 le], .c (.int .i64 n), .c (.int .i64 a)], []⟩ =
 cond (!decide (F.trackE i st t x y sx sy h r ra c hi mi sl lt lx ly lh lc le = 0)) (
 .ret (.fin (.tup [.agg [.int .i64 0, .int .i64 0, .int .i64 0, .int .i64 0, .int .i64 0, .int .i64 0, .int .i64 0, .int .i64 0, .int .i64 0, .int .i64 0, .int .i64 0, .int .i64 0, .int .i64 0, .int .i64 0, .int .i64 0, .int .i64 0, .int .i64 0, .int .i64 0, .int .i64 0, .int .i64 0], .c (.int .i64 (F.trackE i st t x y sx sy h r ra c hi mi sl lt lx ly lh lc le))]) [])) (
 cond (!F.inb n 0 200000) (
  .ret (.fin (.tup [.agg [.int .i64 0, .int .i64 0, .int .i64 0, .int .i64 0, .int .i64 0, .int .i64 0, .int .i64 0, .int .i64 0, .int .i64 0, .int .i64 0, .int .i64 0, .int .i64 0, .int .i64 0, .int .i64 0, .int .i64 0, .int .i64 0, .int .i64 0, .int .i64 0, .int .i64 0, .int .i64 0], .c (.int .i64 4)]) [])) (
  cond (!F.inb a 0 20) (
   .ret (.fin (.tup [.agg [.int .i64 0, .int .i64 0, .int .i64 0, .int .i64 0, .int .i64 0, .int .i64 0, .int .i64 0, .int .i64 0, .int .i64 0, .int .i64 0, .int .i64 0, .int .i64 0, .int .i64 0, .int .i64 0, .int .i64 0, .int .i64 0, .int .i64 0, .int .i64 0, .int .i64 0, .int .i64 0], .c (.int .i64 4)]) [])) (
   .need (i64ok (n - t)) (
   cond (!F.inb (n - t) 0 600) (
    .ret (.fin (.tup [.agg [.int .i64 0, .int .i64 0, .int .i64 0, .int .i64 0, .int .i64 0, .int .i64 0, .int .i64 0, .int .i64 0, .int .i64 0, .int .i64 0, .int .i64 0, .int .i64 0, .int .i64 0, .int .i64 0, .int .i64 0, .int .i64 0, .int .i64 0, .int .i64 0, .int .i64 0, .int .i64 0], .c (.int .i64 12)]) [])) (
    .need (i64ok (sx * (n - t))) (
    .need (((0 : Int) < 16 ∧ i64ok (sx * (n - t)))) (
    .need (i64ok (x + sx * (n - t) / 16)) (
    .need (i64ok (sy * (n - t))) (
    .need (((0 : Int) < 16 ∧ i64ok (sy * (n - t)))) (
    .need (i64ok (y + sy * (n - t) / 16)) (
    .need (i64ok (r * (n - t))) (
    .need (((0 : Int) < 16 ∧ i64ok (r * (n - t)))) (
    .need (i64ok (h + r * (n - t) / 16)) (
    .need ((((0 : Int) ≤ sl ∧ sl ≤ 409600) ∧ (((0 : Int) ≤ a ∧ a ≤ 20) ∧ ((0 : Int) ≤ n - t ∧ n - t ≤ 600)))) (
    .need (i64ok (ra + F.grown sl a (n - t))) (
    .need (i64ok (16 * a)) (
    .need (i64ok (16 * a * (n - t))) (
    .need (i64ok (sl + 16 * a * (n - t))) (
    cond (!decide     (F.trackE i st n (x + sx * (n - t) / 16) (y + sy * (n - t) / 16) sx sy (F.clamp (h + r * (n - t) / 16) 0 60000) r         (ra + F.grown sl a (n - t)) c hi mi (sl + 16 * a * (n - t)) lt lx ly lh lc le =       0)) (
     .ret (.fin (.tup [.agg [.int .i64 0, .int .i64 0, .int .i64 0, .int .i64 0, .int .i64 0, .int .i64 0, .int .i64 0, .int .i64 0, .int .i64 0, .int .i64 0, .int .i64 0, .int .i64 0, .int .i64 0, .int .i64 0, .int .i64 0, .int .i64 0, .int .i64 0, .int .i64 0, .int .i64 0, .int .i64 0], .c (.int .i64 8)]) [])) (
     .ret (.fin (.tup [.agg [.int .i64 i, .int .i64 st, .int .i64 n, .int .i64 (x + sx * (n - t) / 16), .int .i64 (y + sy * (n - t) / 16), .int .i64 sx, .int .i64 sy, .int .i64 (F.clamp (h + r * (n - t) / 16) 0 60000), .int .i64 r, .int .i64 (ra + F.grown sl a (n - t)), .int .i64 c, .int .i64 hi, .int .i64 mi, .int .i64 (sl + 16 * a * (n - t)), .int .i64 lt, .int .i64 lx, .int .i64 ly, .int .i64 lh, .int .i64 lc, .int .i64 le], .c (.int .i64 0)]) []))))))))))))))))))))) := by kernel_rfl

theorem predicted_sound : Sound Try.prog cod 46 s_predicted := sound_flat (cfg := C_predict) L_predict_ok mixed Try.func46 rfl rfl _ 400 fun args H r news hg => by
  unfold s_predicted at hg
  split at hg
  · split at hg
    · rename_i _ i st t x y sx sy h r ra c hi mi sl lt lx ly lh lc le n a hrd
      have hargs := rd_spec hrd
      simp only [List.map, wr1, ints, List.tail] at hargs
      subst hargs
      clear hrd
      rw [predicted_tree]
      simp only [T.gives, T.wp, Prod.mk.injEq] at hg
      obtain ⟨rfl, rfl⟩ := hg
      simp only [T.wp, T.wp_cond, Fin.fin.injEq, SV.c.injEq, SV.tup.injEq, SV.agg.injEq, List.cons.injEq, Cell.bool.injEq, Cell.int.injEq, and_true, true_and, decide_eq_true_eq]
      have hb := trackE_zero (i := i) (st := st) (t := t) (x := x) (y := y) (sx := sx) (sy := sy) (h := h) (r := r) (ra := ra) (c := c) (hi := hi) (mi := mi) (sl := sl) (lt := lt) (lx := lx) (ly := ly) (lh := lh) (lc := lc) (le := le)
      unfold F.predE F.z
      by_cases he : F.trackE i st t x y sx sy h r ra c hi mi sl lt lx ly lh lc le = 0
      · obtain ⟨k1, k2, k3, k4, k5, k6, k7, k8, k9, k10, k11, k12, k13, k14, k15, k16⟩ := hb he
        simp only [he]
        by_cases h1 : F.inb n 0 200000 = true
        · have h1' := inb_true.1 h1
          have hw : i64ok (n - t) := by unfold i64ok; omega
          simp only [h1, hw]
          by_cases h2 : F.inb a 0 20 = true
          · simp only [h2]
            by_cases h3 : F.inb (n - t) 0 600 = true
            · simp only [h3]
              have h2' := inb_true.1 h2
              have h3' := inb_true.1 h3
              have hw2 := pred_need (d := (n - t)) k2 k3 k7 k8 k4 k9 k5 k10 h2' h3'
              unfold F.px F.ph F.pr F.ps
              simp only [k10, h2', h3', hw2]
              generalize F.trackE i st n (x + sx * (n - t) / 16) (y + sy * (n - t) / 16) sx sy (F.clamp (h + r * (n - t) / 16) 0 60000) r (ra + F.grown sl a (n - t)) c hi mi (sl + 16 * a * (n - t)) lt lx ly lh lc le = E3
              by_cases h7 : E3 = 0 <;> simp [h7]
            · simp [h3]
          · simp [h2]
        · simp [h1]
      · simp [he]
    · exact hg.elim
  · exact hg.elim

noncomputable def L_predicted : Sums cod := (46, .p s_predicted) :: L_predict
noncomputable def C_predicted : Cfg cod := mkC L_predicted

theorem L_predicted_ok : Snd Try.prog cod L_predicted := .cons predicted_sound L_predict_ok

noncomputable def s_moves : Summ cod := fun args H => match H with
  | [] => match rd args with
    | some [] => (.ret (.c (.bool true), []))
    | _ => .fail
  | _ => .fail

theorem moves_tree : symF C_predicted [] Try.f44.results.toList (List.length ([] : Heap cod)) 400 [.code (codeOf Try.f44)] ⟨argsS Try.f44 [], []⟩ =
.ret (.fin (.c (.bool (decide (F.z (F.predE 0 0 0 0 0 16 0 0 0 0 0 0 0 0 0 0 0 0 0 0 10 0) (F.pr 0 0 0 (10 - 0)) = 2)))) []) := by kernel_rfl

theorem moves_sound : Sound Try.prog cod 44 s_moves := sound_flat (cfg := C_predicted) L_predicted_ok mixed Try.func44 rfl rfl _ 400 fun args H r news hg => by
  unfold s_moves at hg
  split at hg
  · split at hg
    · rename_i  hrd
      have hargs := rd_spec hrd
      simp only [List.map, wr1, ints, List.tail] at hargs
      subst hargs
      clear hrd
      rw [moves_tree]
      cases hg
      simp only [T.wp, Fin.fin.injEq, and_true, SV.c.injEq, Cell.bool.injEq]
      decide
    · exact hg.elim
  · exact hg.elim

noncomputable def L_moves : Sums cod := (44, .p s_moves) :: L_predicted
noncomputable def C_moves : Cfg cod := mkC L_moves

theorem L_moves_ok : Snd Try.prog cod L_moves := .cons moves_sound L_predicted_ok

noncomputable def s_fplaw : Summ cod := fun args H => match H with
  | [] => match rd args with
    | some [[_, i, st, t, x, y, sx, sy, h, r, ra, c, hi, mi, sl, lt, lx, ly, lh, lc, le], [n], [a]] => (.ret (.c (.bool true), []))
    | _ => .fail
  | _ => .fail

theorem fplaw_tree (i st t x y sx sy h r ra c hi mi sl lt lx ly lh lc le n a : Int) : symF C_moves [] Try.f8.results.toList (List.length ([] : Heap cod)) 400 [.code (codeOf Try.f8)] ⟨argsS Try.f8 [.agg [.int .i64 i, .int .i64 st, .int .i64 t, .int .i64 x, .int .i64 y, .int .i64 sx, .int .i64 sy, .int .i64 h, .int .i64 r, .int .i64 ra, .int .i64 c, .int .i64 hi, .int .i64 mi, .int .i64 sl, .int .i64 lt, .int .i64 lx, .int .i64 ly, .int .i64 lh, .int .i64 lc, .int .i64 le], .c (.int .i64 n), .c (.int .i64 a)], []⟩ =
 cond (decide   (F.trackE i st t x y sx sy h r ra c hi mi sl lt lx ly lh lc le =     F.trackE i st t x y sx sy h r ra c hi mi sl lt lx ly lh lc le)) (
 cond (decide   (F.predE i st t x y sx sy h r ra c hi mi sl lt lx ly lh lc le n a =     F.predE i st t x y sx sy h r ra c hi mi sl lt lx ly lh lc le n a)) (
  .ret (.fin (.c (.bool (decide       (F.z (F.predE i st t x y sx sy h r ra c hi mi sl lt lx ly lh lc le n a) i =         F.z (F.predE i st t x y sx sy h r ra c hi mi sl lt lx ly lh lc le n a) i) &&     (decide         (F.z (F.predE i st t x y sx sy h r ra c hi mi sl lt lx ly lh lc le n a) st =           F.z (F.predE i st t x y sx sy h r ra c hi mi sl lt lx ly lh lc le n a) st) &&       (decide           (F.z (F.predE i st t x y sx sy h r ra c hi mi sl lt lx ly lh lc le n a) n =             F.z (F.predE i st t x y sx sy h r ra c hi mi sl lt lx ly lh lc le n a) n) &&         (decide               (F.z (F.predE i st t x y sx sy h r ra c hi mi sl lt lx ly lh lc le n a) (F.px x sx (n - t)) =                 F.z (F.predE i st t x y sx sy h r ra c hi mi sl lt lx ly lh lc le n a) (F.px x sx (n - t))) &&             decide               (F.z (F.predE i st t x y sx sy h r ra c hi mi sl lt lx ly lh lc le n a) (F.px y sy (n - t)) =                 F.z (F.predE i st t x y sx sy h r ra c hi mi sl lt lx ly lh lc le n a) (F.px y sy (n - t))) &&           (decide                 (F.z (F.predE i st t x y sx sy h r ra c hi mi sl lt lx ly lh lc le n a) sx =                   F.z (F.predE i st t x y sx sy h r ra c hi mi sl lt lx ly lh lc le n a) sx) &&               decide                 (F.z (F.predE i st t x y sx sy h r ra c hi mi sl lt lx ly lh lc le n a) sy =                   F.z (F.predE i st t x y sx sy h r ra c hi mi sl lt lx ly lh lc le n a) sy) &&             (decide                 (F.z (F.predE i st t x y sx sy h r ra c hi mi sl lt lx ly lh lc le n a) (F.ph h r (n - t)) =                   F.z (F.predE i st t x y sx sy h r ra c hi mi sl lt lx ly lh lc le n a) (F.ph h r (n - t))) &&               (decide                   (F.z (F.predE i st t x y sx sy h r ra c hi mi sl lt lx ly lh lc le n a) r =                     F.z (F.predE i st t x y sx sy h r ra c hi mi sl lt lx ly lh lc le n a) r) &&                 (decide                     (F.z (F.predE i st t x y sx sy h r ra c hi mi sl lt lx ly lh lc le n a) (F.pr ra sl a (n - t)) =                       F.z (F.predE i st t x y sx sy h r ra c hi mi sl lt lx ly lh lc le n a) (F.pr ra sl a (n - t))) &&                   (decide                       (F.z (F.predE i st t x y sx sy h r ra c hi mi sl lt lx ly lh lc le n a) c =                         F.z (F.predE i st t x y sx sy h r ra c hi mi sl lt lx ly lh lc le n a) c) &&                     (decide                         (F.z (F.predE i st t x y sx sy h r ra c hi mi sl lt lx ly lh lc le n a) hi =                           F.z (F.predE i st t x y sx sy h r ra c hi mi sl lt lx ly lh lc le n a) hi) &&                       decide                         (F.z (F.predE i st t x y sx sy h r ra c hi mi sl lt lx ly lh lc le n a) mi =                           F.z (F.predE i st t x y sx sy h r ra c hi mi sl lt lx ly lh lc le n a) mi)))))))))) &&   (decide       (F.z (F.predE i st t x y sx sy h r ra c hi mi sl lt lx ly lh lc le n a) (F.ps sl a (n - t)) =         F.z (F.predE i st t x y sx sy h r ra c hi mi sl lt lx ly lh lc le n a) (F.ps sl a (n - t))) &&     (decide         (F.z (F.predE i st t x y sx sy h r ra c hi mi sl lt lx ly lh lc le n a) lt =           F.z (F.predE i st t x y sx sy h r ra c hi mi sl lt lx ly lh lc le n a) lt) &&       (decide             (F.z (F.predE i st t x y sx sy h r ra c hi mi sl lt lx ly lh lc le n a) lx =               F.z (F.predE i st t x y sx sy h r ra c hi mi sl lt lx ly lh lc le n a) lx) &&           decide             (F.z (F.predE i st t x y sx sy h r ra c hi mi sl lt lx ly lh lc le n a) ly =               F.z (F.predE i st t x y sx sy h r ra c hi mi sl lt lx ly lh lc le n a) ly) &&         (decide             (F.z (F.predE i st t x y sx sy h r ra c hi mi sl lt lx ly lh lc le n a) lh =               F.z (F.predE i st t x y sx sy h r ra c hi mi sl lt lx ly lh lc le n a) lh) &&           (decide               (F.z (F.predE i st t x y sx sy h r ra c hi mi sl lt lx ly lh lc le n a) lc =                 F.z (F.predE i st t x y sx sy h r ra c hi mi sl lt lx ly lh lc le n a) lc) &&             decide               (F.z (F.predE i st t x y sx sy h r ra c hi mi sl lt lx ly lh lc le n a) le =                 F.z (F.predE i st t x y sx sy h r ra c hi mi sl lt lx ly lh lc le n a) le))))))))) [])) (
  .ret (.fin (.c (.bool false)) []))) (
 .ret (.fin (.c (.bool false)) [])) := by kernel_rfl

theorem fplaw_sound : Sound Try.prog cod 8 s_fplaw := sound_flat (cfg := C_moves) L_moves_ok mixed Try.func8 rfl rfl _ 400 fun args H r news hg => by
  unfold s_fplaw at hg
  split at hg
  · split at hg
    · rename_i _ i st t x y sx sy h r ra c hi mi sl lt lx ly lh lc le n a hrd
      have hargs := rd_spec hrd
      simp only [List.map, wr1, ints, List.tail] at hargs
      subst hargs
      clear hrd
      rw [fplaw_tree]
      simp only [T.gives, T.wp, Prod.mk.injEq] at hg
      obtain ⟨rfl, rfl⟩ := hg
      simp only [T.wp, T.wp_cond, Fin.fin.injEq, SV.c.injEq, SV.tup.injEq, SV.agg.injEq, List.cons.injEq, Cell.bool.injEq, Cell.int.injEq, and_true, true_and, decide_eq_true_eq]
      simp
    · exact hg.elim
  · exact hg.elim

noncomputable def L_fplaw : Sums cod := (8, .p s_fplaw) :: L_moves
noncomputable def C_fplaw : Cfg cod := mkC L_fplaw

theorem L_fplaw_ok : Snd Try.prog cod L_fplaw := .cons fplaw_sound L_moves_ok

end
end Go.Proofs.Ythljcjighomgkaa
