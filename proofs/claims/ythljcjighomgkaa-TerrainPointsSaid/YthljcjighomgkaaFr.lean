/- Part of a claim: lemmas on the way to its theorem; each states its own conditions. -/
import Derived.Test.YthljcjighomgkaaFb
namespace Go.Proofs.Ythljcjighomgkaa
open Sym Go.RowKit
noncomputable section
set_option maxRecDepth 100000
set_option maxHeartbeats 4000000

namespace F
def cov (a b c d e f x y : Int) : Bool := (decide (site a b c d e f = 0) && placed x y) && decide (far b c x y ≤ d * d)
def covE (a b c d e f x y : Int) : Int := if site a b c d e f = 0 then (if placed x y then 0 else 4) else 4
def err (a b c d e f n : Int) : Int := if site a b c d e f = 0 ∧ inb n 0 2000000 = true then e + -(-(n * f) / 651) + -(-n / 23170) + 2 else 0
def errE (a b c d e f n : Int) : Int := if site a b c d e f = 0 then (if inb n 0 2000000 then 0 else 4) else 4
end F


theorem site_zero {a b c d e f : Int} : F.site a b c d e f = 0 ↔ ((0 ≤ a ∧ a ≤ 255) ∧ (-1000000 ≤ b ∧ b ≤ 1000000) ∧ (-1000000 ≤ c ∧ c ≤ 1000000) ∧ (1 ≤ d ∧ d ≤ 1000000) ∧ (1 ≤ e ∧ e ≤ 10000) ∧ (1 ≤ f ∧ f ≤ 100)) := by
  unfold F.site F.placed F.inb
  split <;> simp_all <;> omega
theorem site_four {a b c d e f : Int} : F.site a b c d e f ≠ 0 → F.site a b c d e f = 4 := by
  unfold F.site
  split <;> simp
theorem pt_placed (x y : Int) : F.pt x y = if F.placed x y then 0 else 4 := rfl

noncomputable def s_covers : Summ cod := fun args H => match H with
  | [] => match rd args with
    | some [[_, a, b, c, d, e, f], [_, x, y]] => (.ret (.tup [.c (.bool (F.cov a b c d e f x y)), .c (.int .i64 (F.covE a b c d e f x y))], []))
    | _ => .fail
  | _ => .fail

theorem covers_tree (a b c d e f x y : Int) : symF C_divup [] Try.f24.results.toList (List.length ([] : Heap cod)) 400 [.code (codeOf Try.f24)] ⟨argsS Try.f24 [.agg [.int .i64 a, .int .i64 b, .int .i64 c, .int .i64 d, .int .i64 e, .int .i64 f], .agg [.int .i64 x, .int .i64 y]], []⟩ =
 cond (!decide (F.site a b c d e f = 0)) (
 .ret (.fin (.tup [.c (.bool false), .c (.int .i64 (F.site a b c d e f))]) [])) (
 cond (!decide (F.pt x y = 0)) (
  .ret (.fin (.tup [.c (.bool false), .c (.int .i64 (F.pt x y))]) [])) (
  .need ((F.b9 b ∧ (F.b9 c ∧ (F.b9 x ∧ F.b9 y)))) (
  .ret (.fin (.tup [.c (.bool (F.inb d 0 8000000 && decide (F.far b c x y ≤ d * d))), .c (.int .i64 0)]) [])))) := by kernel_rfl

theorem covers_sound : Sound Try.prog cod 24 s_covers := sound_flat (cfg := C_divup) L_divup_ok mixed Try.func24 rfl rfl _ 400 fun args H r news hg => by
  unfold s_covers at hg
  split at hg
  · split at hg
    · rename_i _ a b c d e f _ x y hrd
      have hargs := rd_spec hrd
      simp only [List.map, wr1, ints, List.tail] at hargs
      subst hargs
      clear hrd
      rw [covers_tree]
      simp only [T.gives, T.wp, Prod.mk.injEq] at hg
      obtain ⟨rfl, rfl⟩ := hg
      simp only [T.wp, T.wp_cond, Fin.fin.injEq, SV.c.injEq, SV.tup.injEq, SV.agg.injEq, List.cons.injEq, Cell.bool.injEq, Cell.int.injEq, and_true, true_and, decide_eq_true_eq]
      unfold F.cov F.covE
      by_cases hs : F.site a b c d e f = 0
      · obtain ⟨h1, h2, h3, h4, h5, h6⟩ := site_zero.1 hs
        by_cases hp : F.placed x y = true
        · have hq : F.b9 b ∧ F.b9 c ∧ F.b9 x ∧ F.b9 y := by
            unfold F.placed F.inb at hp
            simp only [Bool.and_eq_true, decide_eq_true_eq] at hp
            unfold F.b9
            omega
          have hd : F.inb d 0 8000000 = true := by
            simp [F.inb]
            omega
          simp [hs, hp, hq, hd, pt_placed]
        · simp [hs, hp, pt_placed]
      · simp [hs, site_four hs]
    · exact hg.elim
  · exact hg.elim

noncomputable def L_covers : Sums cod := (24, .p s_covers) :: L_divup
noncomputable def C_covers : Cfg cod := mkC L_covers

theorem L_covers_ok : Snd Try.prog cod L_covers := .cons covers_sound L_divup_ok

noncomputable def s_rerror : Summ cod := fun args H => match H with
  | [] => match rd args with
    | some [[_, a, b, c, d, e, f], [n]] => (.ret (.tup [.c (.int .i64 (F.err a b c d e f n)), .c (.int .i64 (F.errE a b c d e f n))], []))
    | _ => .fail
  | _ => .fail

theorem rerror_tree (a b c d e f n : Int) : symF C_covers [] Try.f32.results.toList (List.length ([] : Heap cod)) 400 [.code (codeOf Try.f32)] ⟨argsS Try.f32 [.agg [.int .i64 a, .int .i64 b, .int .i64 c, .int .i64 d, .int .i64 e, .int .i64 f], .c (.int .i64 n)], []⟩ =
 cond (!decide (F.site a b c d e f = 0)) (
 .ret (.fin (.tup [.c (.int .i64 0), .c (.int .i64 (F.site a b c d e f))]) [])) (
 cond (F.out n 0 2000000) (
  .ret (.fin (.tup [.c (.int .i64 0), .c (.int .i64 4)]) [])) (
  .need (i64ok (n * f)) (
  .need (((0 : Int) < 651 ∧ (i64ok (n * f) ∧ i64ok (-(n * f))))) (
  .need (((0 : Int) < 23170 ∧ (i64ok n ∧ i64ok (-n)))) (
  .need (i64ok (e + -(-(n * f) / 651))) (
  .need (i64ok (e + -(-(n * f) / 651) + -(-n / 23170))) (
  .need (i64ok (e + -(-(n * f) / 651) + -(-n / 23170) + 2)) (
  .ret (.fin (.tup [.c (.int .i64 (e + -(-(n * f) / 651) + -(-n / 23170) + 2)), .c (.int .i64 0)]) []))))))))) := by kernel_rfl

theorem rerror_sound : Sound Try.prog cod 32 s_rerror := sound_flat (cfg := C_covers) L_covers_ok mixed Try.func32 rfl rfl _ 400 fun args H r news hg => by
  unfold s_rerror at hg
  split at hg
  · split at hg
    · rename_i _ a b c d e f n hrd
      have hargs := rd_spec hrd
      simp only [List.map, wr1, ints, List.tail] at hargs
      subst hargs
      clear hrd
      rw [rerror_tree]
      simp only [T.gives, T.wp, Prod.mk.injEq] at hg
      obtain ⟨rfl, rfl⟩ := hg
      simp only [T.wp, T.wp_cond, Fin.fin.injEq, SV.c.injEq, SV.tup.injEq, SV.agg.injEq, List.cons.injEq, Cell.bool.injEq, Cell.int.injEq, and_true, true_and, decide_eq_true_eq]
      unfold F.err F.errE
      by_cases hs : F.site a b c d e f = 0
      · obtain ⟨h1, h2, h3, h4, h5, h6⟩ := site_zero.1 hs
        by_cases hp : F.inb n 0 2000000 = true
        · have hn : 0 ≤ n ∧ n ≤ 2000000 := by
            unfold F.inb at hp
            simpa using hp
          have ho : F.out n 0 2000000 = false := by
            simp [F.out]
            omega
          have hm := mul_bd (x := n) (y := f) (a := 2000000) (b := 100) (by omega) (by omega)
          generalize n * f = k at *
          simp only [hs, hp, ho, and_self, if_true, decide_true, Bool.not_true, Bool.false_eq_true, if_false, and_true, i64ok]
          omega
        · have ho : F.out n 0 2000000 = true := by
            simp [F.out, F.inb] at *
            omega
          simp [hs, hp, ho]
      · simp [hs, site_four hs]
    · exact hg.elim
  · exact hg.elim

noncomputable def L_rerror : Sums cod := (32, .p s_rerror) :: L_covers
noncomputable def C_rerror : Cfg cod := mkC L_rerror

theorem L_rerror_ok : Snd Try.prog cod L_rerror := .cons rerror_sound L_covers_ok

noncomputable def s_rsite : Summ cod := fun args H => match H with
  | [] => match rd args with
    | some [] => (.ret (.agg [.int .i64 1, .int .i64 0, .int .i64 0, .int .i64 5, .int .i64 1, .int .i64 1], []))
    | _ => .fail
  | _ => .fail

theorem rsite_tree : symF C_rerror [] Try.f25.results.toList (List.length ([] : Heap cod)) 400 [.code (codeOf Try.f25)] ⟨argsS Try.f25 [], []⟩ =
.ret (.fin (.agg [.int .i64 1, .int .i64 0, .int .i64 0, .int .i64 5, .int .i64 1, .int .i64 1]) []) := by kernel_rfl

theorem rsite_sound : Sound Try.prog cod 25 s_rsite := sound_flat (cfg := C_rerror) L_rerror_ok mixed Try.func25 rfl rfl _ 400 fun args H r news hg => by
  unfold s_rsite at hg
  split at hg
  · split at hg
    · rename_i  hrd
      have hargs := rd_spec hrd
      simp only [List.map, wr1, ints, List.tail] at hargs
      subst hargs
      clear hrd
      rw [rsite_tree]
      cases hg
      simp [T.wp]
    · exact hg.elim
  · exact hg.elim

noncomputable def L_rsite : Sums cod := (25, .p s_rsite) :: L_rerror
noncomputable def C_rsite : Cfg cod := mkC L_rsite

theorem L_rsite_ok : Snd Try.prog cod L_rsite := .cons rsite_sound L_rerror_ok

noncomputable def s_rlaw : Summ cod := fun args H => match H with
  | [] => match rd args with
    | some [[_, a, b, c, d, e, f], [_, a1, b1, c1, d1, e1, f1], [_, a2, b2, c2, d2, e2, f2], [_, x, y], [n]] => (.ret (.c (.bool true), []))
    | _ => .fail
  | _ => .fail

theorem rlaw_tree (a b c d e f a1 b1 c1 d1 e1 f1 a2 b2 c2 d2 e2 f2 x y n : Int) : symF C_rsite [] Try.f5.results.toList (List.length ([] : Heap cod)) 400 [.code (codeOf Try.f5)] ⟨argsS Try.f5 [.agg [.int .i64 a, .int .i64 b, .int .i64 c, .int .i64 d, .int .i64 e, .int .i64 f], .agg [.int .i64 a1, .int .i64 b1, .int .i64 c1, .int .i64 d1, .int .i64 e1, .int .i64 f1], .agg [.int .i64 a2, .int .i64 b2, .int .i64 c2, .int .i64 d2, .int .i64 e2, .int .i64 f2], .agg [.int .i64 x, .int .i64 y], .c (.int .i64 n)], []⟩ =
 cond (!decide (F.site a b c d e f = F.site a b c d e f)) (
 .ret (.fin (.c (.bool false)) [])) (
 cond (!decide (F.plot a1 b1 c1 d1 e1 f1 = F.plot a1 b1 c1 d1 e1 f1)) (
  .ret (.fin (.c (.bool false)) [])) (
  cond (!decide (F.spot a2 b2 c2 d2 e2 f2 = F.spot a2 b2 c2 d2 e2 f2)) (
   .ret (.fin (.c (.bool false)) [])) (
   cond (!decide (F.site a b c d e f = 0)) (
    cond (decide (F.covE a b c d e f x y = F.site a b c d e f)) (
     cond (decide (F.errE a b c d e f n = F.site a b c d e f)) (
      cond (!F.cov a b c d e f x y) (
       .ret (.fin (.c (.bool (decide (F.err a b c d e f n = 0)))) [])) (
       .ret (.fin (.c (.bool false)) []))) (
      .ret (.fin (.c (.bool false)) []))) (
     .ret (.fin (.c (.bool false)) []))) (
    cond (!F.placed x y) (
     cond (!decide (F.covE a b c d e f x y = 4)) (
      .ret (.fin (.c (.bool false)) [])) (
      cond (F.cov a b c d e f x y) (
       .ret (.fin (.c (.bool false)) [])) (
       cond (!F.inb n 0 2000000) (
        cond (decide (F.errE a b c d e f n = 4)) (
         .ret (.fin (.c (.bool (decide (F.err a b c d e f n = 0)))) [])) (
         .ret (.fin (.c (.bool false)) []))) (
        cond (decide (F.errE a b c d e f n = 0)) (
         .need (i64ok (n * f)) (
         .need (((0 : Int) < 651 ∧ (i64ok (n * f) ∧ i64ok (-(n * f))))) (
         .need (i64ok (e + -(-(n * f) / 651))) (
         .need (((0 : Int) < 23170 ∧ (i64ok n ∧ i64ok (-n)))) (
         .need (i64ok (e + -(-(n * f) / 651) + -(-n / 23170))) (
         .need (i64ok (e + -(-(n * f) / 651) + -(-n / 23170) + 2)) (
         .ret (.fin (.c (.bool (decide (F.err a b c d e f n = e + -(-(n * f) / 651) + -(-n / 23170) + 2)))) [])))))))) (
         .ret (.fin (.c (.bool false)) [])))))) (
     cond (!decide (F.covE a b c d e f x y = 0)) (
      .ret (.fin (.c (.bool false)) [])) (
      .need ((F.b9 b ∧ (F.b9 c ∧ (F.b9 x ∧ F.b9 y)))) (
      .need (i64ok (d * d)) (
      cond (!F.cov a b c d e f x y == decide (F.far b c x y ≤ d * d)) (
       .ret (.fin (.c (.bool false)) [])) (
       cond (!F.inb n 0 2000000) (
        cond (decide (F.errE a b c d e f n = 4)) (
         .ret (.fin (.c (.bool (decide (F.err a b c d e f n = 0)))) [])) (
         .ret (.fin (.c (.bool false)) []))) (
        cond (decide (F.errE a b c d e f n = 0)) (
         .need (i64ok (n * f)) (
         .need (((0 : Int) < 651 ∧ (i64ok (n * f) ∧ i64ok (-(n * f))))) (
         .need (i64ok (e + -(-(n * f) / 651))) (
         .need (((0 : Int) < 23170 ∧ (i64ok n ∧ i64ok (-n)))) (
         .need (i64ok (e + -(-(n * f) / 651) + -(-n / 23170))) (
         .need (i64ok (e + -(-(n * f) / 651) + -(-n / 23170) + 2)) (
         .ret (.fin (.c (.bool (decide (F.err a b c d e f n = e + -(-(n * f) / 651) + -(-n / 23170) + 2)))) [])))))))) (
         .ret (.fin (.c (.bool false)) [])))))))))))) := by kernel_rfl

theorem rlaw_sound : Sound Try.prog cod 5 s_rlaw := sound_flat (cfg := C_rsite) L_rsite_ok mixed Try.func5 rfl rfl _ 400 fun args H r news hg => by
  unfold s_rlaw at hg
  split at hg
  · split at hg
    · rename_i _ a b c d e f _ a1 b1 c1 d1 e1 f1 _ a2 b2 c2 d2 e2 f2 _ x y n hrd
      have hargs := rd_spec hrd
      simp only [List.map, wr1, ints, List.tail] at hargs
      subst hargs
      clear hrd
      rw [rlaw_tree]
      simp only [T.gives, T.wp, Prod.mk.injEq] at hg
      obtain ⟨rfl, rfl⟩ := hg
      simp only [T.wp, T.wp_cond, Fin.fin.injEq, SV.c.injEq, SV.tup.injEq, SV.agg.injEq, List.cons.injEq, Cell.bool.injEq, Cell.int.injEq, and_true, true_and, decide_eq_true_eq]
      unfold F.cov F.covE F.err F.errE
      by_cases hs : F.site a b c d e f = 0
      · obtain ⟨h1, h2, h3, h4, h5, h6⟩ := site_zero.1 hs
        have hd : i64ok (d * d) := by
          have := sq_bd (x := d) (a := 1000000) (by omega)
          unfold i64ok
          omega
        have hq : F.placed x y = true → F.b9 b ∧ F.b9 c ∧ F.b9 x ∧ F.b9 y := fun hp => by
          unfold F.placed F.inb at hp
          simp only [Bool.and_eq_true, decide_eq_true_eq] at hp
          unfold F.b9
          omega
        have hn : F.inb n 0 2000000 = true → i64ok (n * f) ∧ i64ok (-(n * f)) ∧ i64ok (e + -(-(n * f) / 651)) ∧ (i64ok n ∧ i64ok (-n)) ∧ i64ok (e + -(-(n * f) / 651) + -(-n / 23170)) ∧ i64ok (e + -(-(n * f) / 651) + -(-n / 23170) + 2) := fun hp => by
          have hn : 0 ≤ n ∧ n ≤ 2000000 := by
            unfold F.inb at hp
            simpa using hp
          have hm := mul_bd (x := n) (y := f) (a := 2000000) (b := 100) (by omega) (by omega)
          generalize n * f = k at *
          unfold i64ok
          omega
        by_cases hp : F.placed x y = true <;> by_cases hb : F.inb n 0 2000000 = true
        · obtain ⟨g1, g2, g3, g4⟩ := hq hp
          obtain ⟨g5, g6, g7, g8, g9, g10⟩ := hn hb
          simp [*]
        · obtain ⟨g1, g2, g3, g4⟩ := hq hp
          simp [*]
        · obtain ⟨g5, g6, g7, g8, g9, g10⟩ := hn hb
          simp [*]
        · simp [*]
      · simp [hs, site_four hs]
    · exact hg.elim
  · exact hg.elim

noncomputable def L_rlaw : Sums cod := (5, .p s_rlaw) :: L_rsite
noncomputable def C_rlaw : Cfg cod := mkC L_rlaw

theorem L_rlaw_ok : Snd Try.prog cod L_rlaw := .cons rlaw_sound L_rsite_ok

end
end Go.Proofs.Ythljcjighomgkaa
