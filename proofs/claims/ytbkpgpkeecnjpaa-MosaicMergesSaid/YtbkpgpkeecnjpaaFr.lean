/- Part of a claim: lemmas on the way to its theorem; each states its own conditions. -/
import Derived.Test.YtbkpgpkeecnjpaaFb
namespace Go.Proofs.Ytbkpgpkeecnjpaa
open Sym Go.RowKit
noncomputable section
set_option maxRecDepth 100000
set_option maxHeartbeats 4000000

namespace F
def cov (a b c d e f x y : Int) : Bool := (decide (site a b c d e f = 0) && placed x y) && decide (far b c x y ≤ d * d)
def covE (a b c d e f x y : Int) : Int := if site a b c d e f = 0 then (if placed x y then 0 else 4) else 4
def err (a b c d e f n : Int) : Int := if site a b c d e f = 0 ∧ inb n 0 2000000 = true then e + -(-(n * f) / 651) + -(-n / 23170) + 2 else 0
def errE (a b c d e f n : Int) : Int := if site a b c d e f = 0 then (if inb n 0 2000000 then 0 else 4) else 4
end F


theorem site_zero {a b c d e f : Int} : F.site a b c d e f = 0 ↔ ((0 ≤ a ∧ a ≤ 255) ∧ (-1000000 ≤ b ∧ b ≤ 1000000) ∧ (-1000000 ≤ c ∧ c ≤ 1000000) ∧ (1 ≤ d ∧ d ≤ 1000000) ∧ (1 ≤ e ∧ e ≤ 10000) ∧ (1 ≤ f ∧ f ≤ 100)) := by
  unfold F.site F.placed F.inb
  split <;> simp_all <;> omega
theorem site_four {a b c d e f : Int} : F.site a b c d e f ≠ 0 → F.site a b c d e f = 4 := by
  unfold F.site
  split <;> simp
theorem pt_placed (x y : Int) : F.pt x y = if F.placed x y then 0 else 4 := rfl

noncomputable def s_covers : Summ cod := fun args H => match H with
  | [] => match rd args with
    | some [[_, a, b, c, d, e, f], [_, x, y]] => (.ret (.tup [.c (.bool (F.cov a b c d e f x y)), .c (.int .i64 (F.covE a b c d e f x y))], []))
    | _ => .fail
  | _ => .fail

theorem covers_tree (a b c d e f x y : Int) : symF C_within [] Try.f57.results.toList (List.length ([] : Heap cod)) 400 [.code (codeOf Try.f57)] ⟨argsS Try.f57 [.agg [.int .i64 a, .int .i64 b, .int .i64 c, .int .i64 d, .int .i64 e, .int .i64 f], .agg [.int .i64 x, .int .i64 y]], []⟩ =
 cond (!decide (F.site a b c d e f = 0)) (
 .ret (.fin (.tup [.c (.bool false), .c (.int .i64 (F.site a b c d e f))]) [])) (
 cond (!decide (F.pt x y = 0)) (
  .ret (.fin (.tup [.c (.bool false), .c (.int .i64 (F.pt x y))]) [])) (
  .need ((F.b9 b ∧ (F.b9 c ∧ (F.b9 x ∧ F.b9 y)))) (
  .ret (.fin (.tup [.c (.bool (F.inb d 0 8000000 && decide (F.far b c x y ≤ d * d))), .c (.int .i64 0)]) [])))) := by kernel_rfl

theorem covers_sound : Sound Try.prog cod 57 s_covers := sound_flat (cfg := C_within) L_within_ok mixed Try.func57 rfl rfl _ 400 fun args H r news hg => by
  unfold s_covers at hg
  split at hg
  · split at hg
    · rename_i _ a b c d e f _ x y hrd
      have hargs := rd_spec hrd
      simp only [List.map, wr1, ints, List.tail] at hargs
      subst hargs
      clear hrd
      rw [covers_tree]
      simp only [T.gives, T.wp, Prod.mk.injEq] at hg
      obtain ⟨rfl, rfl⟩ := hg
      simp only [T.wp, T.wp_cond, Fin.fin.injEq, SV.c.injEq, SV.tup.injEq, SV.agg.injEq, List.cons.injEq, Cell.bool.injEq, Cell.int.injEq, and_true, true_and, decide_eq_true_eq]
      unfold F.cov F.covE
      by_cases hs : F.site a b c d e f = 0
      · obtain ⟨h1, h2, h3, h4, h5, h6⟩ := site_zero.1 hs
        by_cases hp : F.placed x y = true
        · have hq : F.b9 b ∧ F.b9 c ∧ F.b9 x ∧ F.b9 y := by
            unfold F.placed F.inb at hp
            simp only [Bool.and_eq_true, decide_eq_true_eq] at hp
            unfold F.b9
            omega
          have hd : F.inb d 0 8000000 = true := by
            simp [F.inb]
            omega
          simp [hs, hp, hq, hd, pt_placed]
        · simp [hs, hp, pt_placed]
      · simp [hs, site_four hs]
    · exact hg.elim
  · exact hg.elim

noncomputable def L_covers : Sums cod := (57, .p s_covers) :: L_within
noncomputable def C_covers : Cfg cod := mkC L_covers

theorem L_covers_ok : Snd Try.prog cod L_covers := .cons covers_sound L_within_ok

noncomputable def s_rsite : Summ cod := fun args H => match H with
  | [] => match rd args with
    | some [] => (.ret (.agg [.int .i64 1, .int .i64 0, .int .i64 0, .int .i64 5, .int .i64 1, .int .i64 1], []))
    | _ => .fail
  | _ => .fail

theorem rsite_tree : symF C_covers [] Try.f32.results.toList (List.length ([] : Heap cod)) 400 [.code (codeOf Try.f32)] ⟨argsS Try.f32 [], []⟩ =
.ret (.fin (.agg [.int .i64 1, .int .i64 0, .int .i64 0, .int .i64 5, .int .i64 1, .int .i64 1]) []) := by kernel_rfl

theorem rsite_sound : Sound Try.prog cod 32 s_rsite := sound_flat (cfg := C_covers) L_covers_ok mixed Try.func32 rfl rfl _ 400 fun args H r news hg => by
  unfold s_rsite at hg
  split at hg
  · split at hg
    · rename_i  hrd
      have hargs := rd_spec hrd
      simp only [List.map, wr1, ints, List.tail] at hargs
      subst hargs
      clear hrd
      rw [rsite_tree]
      cases hg
      simp [T.wp]
    · exact hg.elim
  · exact hg.elim

noncomputable def L_rsite : Sums cod := (32, .p s_rsite) :: L_covers
noncomputable def C_rsite : Cfg cod := mkC L_rsite

theorem L_rsite_ok : Snd Try.prog cod L_rsite := .cons rsite_sound L_covers_ok

end
end Go.Proofs.Ytbkpgpkeecnjpaa
