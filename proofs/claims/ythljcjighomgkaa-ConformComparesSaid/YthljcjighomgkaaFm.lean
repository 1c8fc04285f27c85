/- Part of a claim: lemmas on the way to its theorem; each states its own conditions. -/
import Derived.Test.YthljcjighomgkaaFl
namespace Go.Proofs.Ythljcjighomgkaa
open Sym Go.RowKit
noncomputable section
set_option maxRecDepth 100000
set_option maxHeartbeats 4000000

namespace F
def cmpC (x y h ra x2 y2 h2 r2 b2 : Int) : Int :=
  if far x y x2 y2 > (r2 + ra) * (r2 + ra) ∨ max (h - h2) (h2 - h) > b2 + 100 then 2 else if ra ≤ r2 ∧ far x y x2 y2 ≤ (r2 - ra) * (r2 - ra) ∧ max (h - h2) (h2 - h) ≤ b2 - 100 then 0 else 1
def nodeE (t x y h ra : Int) (l : List Nd) : Int := if tpart t x y h ra 0 = 0 then atE l t else 4
def nodeR (t x y h ra : Int) (l : List Nd) : Nd := if nodeE t x y h ra l = 0 then atR l t else nd0
def cmpR (t x y h ra : Int) (l : List Nd) : Int := if nodeE t x y h ra l = 0 then cmpC x y h ra (atR l t).2.1 (atR l t).2.2.1 (atR l t).2.2.2.1 (atR l t).2.2.2.2.1 (atR l t).2.2.2.2.2 else 0
def exS (t x y h ra : Int) (l : List Nd) : Int := if nodeE t x y h ra l = 0 then max 0 (root (far x y (atR l t).2.1 (atR l t).2.2.1) - (atR l t).2.2.2.2.1 - ra) else 0
def exH (t x y h ra : Int) (l : List Nd) : Int := if nodeE t x y h ra l = 0 then max 0 (max (h - (atR l t).2.2.2.1) ((atR l t).2.2.2.1 - h) - (atR l t).2.2.2.2.2 - 100) else 0
end F

noncomputable def s_ccompare : Summ cod := fun args H => match H with
  | [] => match rd args with
    | some [[_, i, st, t, x, y, sx, sy, h, r, ra, c, hi, mi], [_, t2, x2, y2, h2, r2, b2]] => (.need (((-1000000 ≤ x ∧ x ≤ 1000000) ∧ (-1000000 ≤ y ∧ y ≤ 1000000) ∧ (0 ≤ h ∧ h ≤ 60000) ∧ (0 ≤ ra ∧ ra ≤ 4000000)) ∧ ((-1000000 ≤ x2 ∧ x2 ≤ 1000000) ∧ (-1000000 ≤ y2 ∧ y2 ≤ 1000000) ∧ (0 ≤ h2 ∧ h2 ≤ 60000) ∧ (0 ≤ r2 ∧ r2 ≤ 1000000) ∧ (0 ≤ b2 ∧ b2 ≤ 60000))) (.ret (.c (.int .i64 (F.cmpC x y h ra x2 y2 h2 r2 b2)), [])))
    | _ => .fail
  | _ => .fail

theorem ccompare_tree (i st t x y sx sy h r ra c hi mi t2 x2 y2 h2 r2 b2 : Int) : symF C_tAt [] Try.f92.results.toList (List.length ([] : Heap cod)) 400 [.code (codeOf Try.f92)] ⟨argsS Try.f92 [.agg [.int .i64 i, .int .i64 st, .int .i64 t, .int .i64 x, .int .i64 y, .int .i64 sx, .int .i64 sy, .int .i64 h, .int .i64 r, .int .i64 ra, .int .i64 c, .int .i64 hi, .int .i64 mi], .agg [.int .i64 t2, .int .i64 x2, .int .i64 y2, .int .i64 h2, .int .i64 r2, .int .i64 b2]], []⟩ =
.need (i64ok (h - h2)) (
.need (i64ok (h2 - h)) (
.need (i64ok (r2 + ra)) (
.need ((F.b9 x ∧ (F.b9 y ∧ (F.b9 x2 ∧ F.b9 y2)))) (
 cond (!(F.inb (r2 + ra) 0 8000000 && decide (F.far x y x2 y2 ≤ (r2 + ra) * (r2 + ra)))) (
 .ret (.fin (.c (.int .i64 2)) [])) (
 .need (i64ok (b2 + 100)) (
 cond (decide (b2 + 100 < max (h - h2) (h2 - h))) (
  .ret (.fin (.c (.int .i64 2)) [])) (
  .need (i64ok (r2 - ra)) (
  .need ((F.b9 x ∧ (F.b9 y ∧ (F.b9 x2 ∧ F.b9 y2)))) (
  cond (F.inb (r2 - ra) 0 8000000 && decide (F.far x y x2 y2 ≤ (r2 - ra) * (r2 - ra))) (
   .need (i64ok (b2 - 100)) (
   cond (decide (max (h - h2) (h2 - h) ≤ b2 - 100)) (
    .ret (.fin (.c (.int .i64 0)) [])) (
    .ret (.fin (.c (.int .i64 1)) [])))) (
   .ret (.fin (.c (.int .i64 1)) []))))))))))) := by kernel_rfl

theorem ccompare_sound : Sound Try.prog cod 92 s_ccompare := sound_flat (cfg := C_tAt) L_tAt_ok mixed Try.func92 rfl rfl _ 400 fun args H r news hg => by
  unfold s_ccompare at hg
  split at hg
  · split at hg
    · rename_i _ i st t x y sx sy h r ra c hi mi _ t2 x2 y2 h2 r2 b2 hrd
      have hargs := rd_spec hrd
      simp only [List.map, wr1, ints, List.tail] at hargs
      subst hargs
      clear hrd
      rw [ccompare_tree]
      simp only [T.gives, T.wp, Prod.mk.injEq] at hg
      obtain ⟨⟨⟨a1, a2, a3, a4⟩, b1, b2', b3, b4, b5⟩, rfl, rfl⟩ := hg
      simp only [T.wp, T.wp_cond, Fin.fin.injEq, SV.c.injEq, SV.tup.injEq, SV.agg.injEq, List.cons.injEq, Cell.bool.injEq, Cell.int.injEq, and_true, true_and, decide_eq_true_eq]
      unfold F.cmpC F.b9
      have i1 : F.inb (r2 + ra) 0 8000000 = true := by unfold F.inb; simp; omega
      have i2 : F.inb (r2 - ra) 0 8000000 = decide (ra ≤ r2) := by
        unfold F.inb
        by_cases q : ra ≤ r2
        · simp [q] <;> omega
        · simp [q] <;> omega
      generalize hm : max (h - h2) (h2 - h) = m at *
      rw [i1, i2]
      generalize F.far x y x2 y2 = D at *
      generalize (r2 + ra) * (r2 + ra) = p at *
      generalize (r2 - ra) * (r2 - ra) = q at *
      (repeat (refine ⟨(by first | rfl | trivial | assumption | omega | (unfold i64ok; omega) | (simp only [List.length_cons, List.length_nil]; omega) | exact ⟨by omega, trivial⟩), ?_⟩))
      by_cases c1 : D ≤ p
      rotate_left
      · simp [c1, show p < D by omega]
      by_cases c2 : b2 + 100 < m
      · simp [c1, c2, show ¬ p < D by omega, show i64ok (b2 + 100) by unfold i64ok; omega]
      have n1 : ¬ p < D := by omega
      by_cases c3 : ra ≤ r2 <;> by_cases c4 : D ≤ q <;> by_cases c5 : m ≤ b2 - 100 <;> simp [c1, c2, c3, c4, c5, n1] <;> unfold i64ok <;> omega
    · exact hg.elim
  · exact hg.elim

noncomputable def L_ccompare : Sums cod := (92, .p s_ccompare) :: L_tAt
noncomputable def C_ccompare : Cfg cod := mkC L_ccompare

theorem L_ccompare_ok : Snd Try.prog cod L_ccompare := .cons ccompare_sound L_tAt_ok


def cuts_node : Cuts := []

theorem node_t0 (l : List (Int × Int × Int × Int × Int × Int)) (l_t : Bool) (i st t x y sx sy h r ra c hi mi : Int) : symF C_ccompare cuts_node Try.f90.results.toList 1 400 [.code (codeOf Try.f90)] ⟨argsS Try.f90 [.agg [.int .i64 i, .int .i64 st, .int .i64 t, .int .i64 x, .int .i64 y, .int .i64 sx, .int .i64 sy, .int .i64 h, .int .i64 r, .int .i64 ra, .int .i64 c, .int .i64 hi, .int .i64 mi], .c (.slc 0 0 (List.length l) l_t)], ([.inp 2 l] : Heap cod)⟩ =
 cond (!decide (F.tpart t x y h ra 0 = 0)) (
 .ret (.fin (.tup [.agg [.int .i64 0, .int .i64 0, .int .i64 0, .int .i64 0, .int .i64 0, .int .i64 0], .c (.int .i64 4)]) [])) (
 .need ((0 = 0 ∧ List.length l = List.length l)) (
 .ret (.fin (.tup [.agg [.int .i64 ((F.atR l t).1), .int .i64 ((F.atR l t).2.1), .int .i64 ((F.atR l t).2.2.1), .int .i64 ((F.atR l t).2.2.2.1), .int .i64 ((F.atR l t).2.2.2.2.1), .int .i64 ((F.atR l t).2.2.2.2.2)], .c (.int .i64 (F.atE l t))]) []))) := by kernel_rfl



theorem node_far (t x y h ra : Int) (l : List F.Nd) : F.nodeR t x y h ra l = if F.tpart t x y h ra 0 = 0 then F.atR l t else F.nd0 := by
  unfold F.nodeR F.nodeE
  by_cases h1 : F.tpart t x y h ra 0 = 0
  · simp only [h1, if_true]
    by_cases h2 : F.atE l t = 0
    · rw [if_pos h2]
    · rw [if_neg h2]
      unfold F.atR
      rw [if_neg h2]
  · simp only [h1, if_false]
    rfl
theorem node_run (l : List (Int × Int × Int × Int × Int × Int)) (l_t : Bool) (i st t x y sx sy h r ra c hi mi : Int) (b0 : Base) (hb : b0.n = 1)  : Sym.Runs Try.prog b0 [.code (codeOf Try.f90)] ⟨argsS Try.f90 [.agg [.int .i64 i, .int .i64 st, .int .i64 t, .int .i64 x, .int .i64 y, .int .i64 sx, .int .i64 sy, .int .i64 h, .int .i64 r, .int .i64 ra, .int .i64 c, .int .i64 hi, .int .i64 mi], .c (.slc 0 0 (List.length l) l_t)], ([.inp 2 l] : Heap cod)⟩ (Sym.Ends Try.prog Try.f90 1 (.tup [.agg [.int .i64 (F.nodeR t x y h ra l).1, .int .i64 (F.nodeR t x y h ra l).2.1, .int .i64 (F.nodeR t x y h ra l).2.2.1, .int .i64 (F.nodeR t x y h ra l).2.2.2.1, .int .i64 (F.nodeR t x y h ra l).2.2.2.2.1, .int .i64 (F.nodeR t x y h ra l).2.2.2.2.2], .c (.int .i64 (F.nodeE t x y h ra l))]) []) := by
  refine Runs.go (cfg := C_ccompare) L_ccompare_ok mixed cuts_node 400 hb (node_t0 l l_t i st t x y sx sy h r ra c hi mi) ?_
  rw [node_far]
  unfold F.nodeE
  by_cases h1 : F.tpart t x y h ra 0 = 0
  · simp only [T.wp, T.wp_cond, Aft, Int.ofNat_eq_natCast, decide_eq_true_eq, and_true, true_and, Nat.zero_add, Bool.not_eq_true', decide_eq_false_iff_not, h1, not_true_eq_false, if_true, if_false]
    (repeat (refine ⟨(by first | rfl | trivial | assumption | omega | (unfold i64ok; omega) | (simp only [List.length_cons, List.length_nil]; omega) | exact ⟨by omega, trivial⟩), ?_⟩))
    all_goals (first | trivial | omega | rfl | assumption | (unfold i64ok; omega) | exact ⟨rfl, rfl⟩ | exact ⟨trivial, rfl⟩)
  · simp only [T.wp, T.wp_cond, Aft, Int.ofNat_eq_natCast, decide_eq_true_eq, and_true, true_and, Nat.zero_add, Bool.not_eq_true', decide_eq_false_iff_not, h1, not_false_eq_true, if_true, if_false]
    (repeat (refine ⟨(by first | rfl | trivial | assumption | omega | (unfold i64ok; omega) | (simp only [List.length_cons, List.length_nil]; omega) | exact ⟨by omega, trivial⟩), ?_⟩))
    all_goals (first | trivial | omega | rfl | assumption | (unfold i64ok; omega) | exact ⟨rfl, rfl⟩ | exact ⟨trivial, rfl⟩)



noncomputable def s_node : Summ cod := fun args H => match args, H with
  | [.agg [.int .i64 i, .int .i64 st, .int .i64 t, .int .i64 x, .int .i64 y, .int .i64 sx, .int .i64 sy, .int .i64 h, .int .i64 r, .int .i64 ra, .int .i64 c, .int .i64 hi, .int .i64 mi], .c (.slc 0 l_i l_n l_t)], [o0] => (match o0.asInp 2 with | some l => .need ((l_i = 0 ∧ l_n = List.length l)) (.ret (.tup [.agg [.int .i64 (F.nodeR t x y h ra l).1, .int .i64 (F.nodeR t x y h ra l).2.1, .int .i64 (F.nodeR t x y h ra l).2.2.1, .int .i64 (F.nodeR t x y h ra l).2.2.2.1, .int .i64 (F.nodeR t x y h ra l).2.2.2.2.1, .int .i64 (F.nodeR t x y h ra l).2.2.2.2.2], .c (.int .i64 (F.nodeE t x y h ra l))], [])) | none => .fail)
  | _, _ => .fail


theorem node_sound : Sound Try.prog cod 90 s_node := sound_runs (cfg := C_ccompare) L_ccompare_ok mixed Try.func90 rfl rfl _ fun args H r news hg b0 hb => by
  unfold s_node at hg
  split at hg
  · skip
    split at hg
    · rename_i l hx0
      cases asInp_spec hx0
      simp only [T.gives, T.wp, Prod.mk.injEq] at hg
      obtain ⟨⟨rfl, rfl⟩, rfl, rfl⟩ := hg
      exact node_run _ _ _ _ _ _ _ _ _ _ _ _ _ _ _ b0 hb 
    · exact hg.elim
  · exact hg.elim

noncomputable def L_node : Sums cod := (90, .p s_node) :: L_ccompare
noncomputable def C_node : Cfg cod := mkC L_node

theorem L_node_ok : Snd Try.prog cod L_node := .cons node_sound L_ccompare_ok



def cuts_compare : Cuts := []

theorem compare_t0 (l : List (Int × Int × Int × Int × Int × Int)) (l_t : Bool) (i st t x y sx sy h r ra c hi mi : Int) : symF C_node cuts_compare Try.f61.results.toList 1 400 [.code (codeOf Try.f61)] ⟨argsS Try.f61 [.agg [.int .i64 i, .int .i64 st, .int .i64 t, .int .i64 x, .int .i64 y, .int .i64 sx, .int .i64 sy, .int .i64 h, .int .i64 r, .int .i64 ra, .int .i64 c, .int .i64 hi, .int .i64 mi], .c (.slc 0 0 (List.length l) l_t)], ([.inp 2 l] : Heap cod)⟩ =
.need ((0 = 0 ∧ List.length l = List.length l)) (
 cond (!decide (F.nodeE t x y h ra l = 0)) (
 .ret (.fin (.tup [.c (.int .i64 0), .c (.int .i64 (F.nodeE t x y h ra l))]) [])) (
 .need (((((-1000000 : Int) ≤ x ∧ x ≤ 1000000) ∧ (((-1000000 : Int) ≤ y ∧ y ≤ 1000000) ∧ (((0 : Int) ≤ h ∧ h ≤ 60000) ∧ ((0 : Int) ≤ ra ∧ ra ≤ 4000000)))) ∧ (((-1000000 : Int) ≤ (F.nodeR t x y h ra l).2.1 ∧ (F.nodeR t x y h ra l).2.1 ≤ 1000000) ∧ (((-1000000 : Int) ≤ (F.nodeR t x y h ra l).2.2.1 ∧ (F.nodeR t x y h ra l).2.2.1 ≤ 1000000) ∧ (((0 : Int) ≤ (F.nodeR t x y h ra l).2.2.2.1 ∧ (F.nodeR t x y h ra l).2.2.2.1 ≤ 60000) ∧ (((0 : Int) ≤ (F.nodeR t x y h ra l).2.2.2.2.1 ∧ (F.nodeR t x y h ra l).2.2.2.2.1 ≤ 1000000) ∧ ((0 : Int) ≤ (F.nodeR t x y h ra l).2.2.2.2.2 ∧ (F.nodeR t x y h ra l).2.2.2.2.2 ≤ 60000))))))) (
 .ret (.fin (.tup [.c (.int .i64 (F.cmpC x y h ra (F.nodeR t x y h ra l).2.1 (F.nodeR t x y h ra l).2.2.1 (F.nodeR t x y h ra l).2.2.2.1   (F.nodeR t x y h ra l).2.2.2.2.1 (F.nodeR t x y h ra l).2.2.2.2.2)), .c (.int .i64 0)]) [])))) := by kernel_rfl



theorem tpart_zero {t x y h ra c : Int} (hz : F.tpart t x y h ra c = 0) : (0 ≤ t ∧ t ≤ 200000) ∧ ((-1000000 ≤ x ∧ x ≤ 1000000) ∧ (-1000000 ≤ y ∧ y ≤ 1000000)) ∧ (0 ≤ h ∧ h ≤ 60000) ∧ (0 ≤ ra ∧ ra ≤ 4000000) ∧ (-1 ≤ c ∧ c ≤ 4095) := by
  unfold F.tpart F.placed F.inb at hz
  split at hz
  · rename_i hc
    simp only [Bool.and_eq_true, decide_eq_true_eq] at hc
    omega
  · omega
theorem nodeE_zero {t x y h ra : Int} {l : List F.Nd} (e : F.nodeE t x y h ra l = 0) : F.tpart t x y h ra 0 = 0 ∧ F.nodeR t x y h ra l = F.atR l t ∧ F.atE l t = 0 := by
  have h2 : F.nodeR t x y h ra l = F.atR l t := by unfold F.nodeR; rw [if_pos e]
  unfold F.nodeE at e
  by_cases h1 : F.tpart t x y h ra 0 = 0
  · rw [if_pos h1] at e; exact ⟨h1, h2, e⟩
  · rw [if_neg h1] at e; omega
theorem compare_run (l : List (Int × Int × Int × Int × Int × Int)) (l_t : Bool) (i st t x y sx sy h r ra c hi mi : Int) (b0 : Base) (hb : b0.n = 1)  : Sym.Runs Try.prog b0 [.code (codeOf Try.f61)] ⟨argsS Try.f61 [.agg [.int .i64 i, .int .i64 st, .int .i64 t, .int .i64 x, .int .i64 y, .int .i64 sx, .int .i64 sy, .int .i64 h, .int .i64 r, .int .i64 ra, .int .i64 c, .int .i64 hi, .int .i64 mi], .c (.slc 0 0 (List.length l) l_t)], ([.inp 2 l] : Heap cod)⟩ (Sym.Ends Try.prog Try.f61 1 (.tup [.c (.int .i64 (F.cmpR t x y h ra l)), .c (.int .i64 (F.nodeE t x y h ra l))]) []) := by
  refine Runs.go (cfg := C_node) L_node_ok mixed cuts_compare 400 hb (compare_t0 l l_t i st t x y sx sy h r ra c hi mi) ?_
  unfold F.cmpR
  by_cases e : F.nodeE t x y h ra l = 0
  · obtain ⟨k1, k2, _⟩ := nodeE_zero e
    obtain ⟨_, ⟨q1, q2⟩, q3, q4, _⟩ := tpart_zero k1
    obtain ⟨⟨p1, p2⟩, p3, p4, p5⟩ := atR_bd l t
    simp only [T.wp, T.wp_cond, Aft, Int.ofNat_eq_natCast, decide_eq_true_eq, and_true, true_and, Nat.zero_add, Bool.not_eq_true', decide_eq_false_iff_not, e, k2, not_true_eq_false, if_true, if_false]
    (repeat (refine ⟨(by first | rfl | trivial | assumption | omega | (unfold i64ok; omega) | (simp only [List.length_cons, List.length_nil]; omega) | exact ⟨by omega, trivial⟩), ?_⟩))
    all_goals (first | trivial | omega | rfl | assumption | (unfold i64ok; omega) | exact ⟨rfl, rfl⟩ | exact ⟨trivial, rfl⟩)
  · simp only [T.wp, T.wp_cond, Aft, Int.ofNat_eq_natCast, decide_eq_true_eq, and_true, true_and, Nat.zero_add, Bool.not_eq_true', decide_eq_false_iff_not, e, not_false_eq_true, if_true, if_false]



noncomputable def s_compare : Summ cod := fun args H => match args, H with
  | [.agg [.int .i64 i, .int .i64 st, .int .i64 t, .int .i64 x, .int .i64 y, .int .i64 sx, .int .i64 sy, .int .i64 h, .int .i64 r, .int .i64 ra, .int .i64 c, .int .i64 hi, .int .i64 mi], .c (.slc 0 l_i l_n l_t)], [o0] => (match o0.asInp 2 with | some l => .need ((l_i = 0 ∧ l_n = List.length l)) (.ret (.tup [.c (.int .i64 (F.cmpR t x y h ra l)), .c (.int .i64 (F.nodeE t x y h ra l))], [])) | none => .fail)
  | _, _ => .fail


theorem compare_sound : Sound Try.prog cod 61 s_compare := sound_runs (cfg := C_node) L_node_ok mixed Try.func61 rfl rfl _ fun args H r news hg b0 hb => by
  unfold s_compare at hg
  split at hg
  · skip
    split at hg
    · rename_i l hx0
      cases asInp_spec hx0
      simp only [T.gives, T.wp, Prod.mk.injEq] at hg
      obtain ⟨⟨rfl, rfl⟩, rfl, rfl⟩ := hg
      exact compare_run _ _ _ _ _ _ _ _ _ _ _ _ _ _ _ b0 hb 
    · exact hg.elim
  · exact hg.elim

noncomputable def L_compare : Sums cod := (61, .p s_compare) :: L_node
noncomputable def C_compare : Cfg cod := mkC L_compare

theorem L_compare_ok : Snd Try.prog cod L_compare := .cons compare_sound L_node_ok



def cuts_excess : Cuts := []

theorem excess_t0 (l : List (Int × Int × Int × Int × Int × Int)) (l_t : Bool) (i st t x y sx sy h r ra c hi mi : Int) : symF C_compare cuts_excess Try.f60.results.toList 1 400 [.code (codeOf Try.f60)] ⟨argsS Try.f60 [.agg [.int .i64 i, .int .i64 st, .int .i64 t, .int .i64 x, .int .i64 y, .int .i64 sx, .int .i64 sy, .int .i64 h, .int .i64 r, .int .i64 ra, .int .i64 c, .int .i64 hi, .int .i64 mi], .c (.slc 0 0 (List.length l) l_t)], ([.inp 2 l] : Heap cod)⟩ =
.need ((0 = 0 ∧ List.length l = List.length l)) (
 cond (!decide (F.nodeE t x y h ra l = 0)) (
 .ret (.fin (.tup [.c (.int .i64 0), .c (.int .i64 0), .c (.int .i64 (F.nodeE t x y h ra l))]) [])) (
 .need (((((-1000000 : Int) ≤ x ∧ x ≤ 1000000) ∧ ((-1000000 : Int) ≤ y ∧ y ≤ 1000000)) ∧ (((-1000000 : Int) ≤ (F.nodeR t x y h ra l).2.1 ∧ (F.nodeR t x y h ra l).2.1 ≤ 1000000) ∧ ((-1000000 : Int) ≤ (F.nodeR t x y h ra l).2.2.1 ∧ (F.nodeR t x y h ra l).2.2.1 ≤ 1000000)))) (
 .need (i64ok (h - (F.nodeR t x y h ra l).2.2.2.1)) (
 .need (i64ok ((F.nodeR t x y h ra l).2.2.2.1 - h)) (
 .need (i64ok (F.root (F.far x y (F.nodeR t x y h ra l).2.1 (F.nodeR t x y h ra l).2.2.1) - (F.nodeR t x y h ra l).2.2.2.2.1)) (
 .need (i64ok   (F.root (F.far x y (F.nodeR t x y h ra l).2.1 (F.nodeR t x y h ra l).2.2.1) - (F.nodeR t x y h ra l).2.2.2.2.1 - ra)) (
 .need (i64ok (max (h - (F.nodeR t x y h ra l).2.2.2.1) ((F.nodeR t x y h ra l).2.2.2.1 - h) - (F.nodeR t x y h ra l).2.2.2.2.2)) (
 .need (i64ok   (max (h - (F.nodeR t x y h ra l).2.2.2.1) ((F.nodeR t x y h ra l).2.2.2.1 - h) - (F.nodeR t x y h ra l).2.2.2.2.2 -     100)) (
 .ret (.fin (.tup [.c (.int .i64 (max 0   (F.root (F.far x y (F.nodeR t x y h ra l).2.1 (F.nodeR t x y h ra l).2.2.1) - (F.nodeR t x y h ra l).2.2.2.2.1 - ra))), .c (.int .i64 (max 0   (max (h - (F.nodeR t x y h ra l).2.2.2.1) ((F.nodeR t x y h ra l).2.2.2.1 - h) - (F.nodeR t x y h ra l).2.2.2.2.2 -     100))), .c (.int .i64 0)]) [])))))))))) := by kernel_rfl



theorem far_bd {x y u v : Int} (hx : -1000000 ≤ x ∧ x ≤ 1000000) (hy : -1000000 ≤ y ∧ y ≤ 1000000) (hu : -1000000 ≤ u ∧ u ≤ 1000000) (hv : -1000000 ≤ v ∧ v ≤ 1000000) : 0 ≤ F.far x y u v ∧ F.far x y u v ≤ 8000000000000 := by
  have q1 := sq_bd (x := x - u) (a := 2000000) (by omega)
  have q2 := sq_bd (x := y - v) (a := 2000000) (by omega)
  unfold F.far
  omega
theorem excess_run (l : List (Int × Int × Int × Int × Int × Int)) (l_t : Bool) (i st t x y sx sy h r ra c hi mi : Int) (b0 : Base) (hb : b0.n = 1)  : Sym.Runs Try.prog b0 [.code (codeOf Try.f60)] ⟨argsS Try.f60 [.agg [.int .i64 i, .int .i64 st, .int .i64 t, .int .i64 x, .int .i64 y, .int .i64 sx, .int .i64 sy, .int .i64 h, .int .i64 r, .int .i64 ra, .int .i64 c, .int .i64 hi, .int .i64 mi], .c (.slc 0 0 (List.length l) l_t)], ([.inp 2 l] : Heap cod)⟩ (Sym.Ends Try.prog Try.f60 1 (.tup [.c (.int .i64 (F.exS t x y h ra l)), .c (.int .i64 (F.exH t x y h ra l)), .c (.int .i64 (F.nodeE t x y h ra l))]) []) := by
  refine Runs.go (cfg := C_compare) L_compare_ok mixed cuts_excess 400 hb (excess_t0 l l_t i st t x y sx sy h r ra c hi mi) ?_
  unfold F.exS F.exH
  by_cases e : F.nodeE t x y h ra l = 0
  · obtain ⟨k1, k2, _⟩ := nodeE_zero e
    obtain ⟨_, ⟨q1, q2⟩, q3, q4, _⟩ := tpart_zero k1
    obtain ⟨⟨p1, p2⟩, p3, p4, p5⟩ := atR_bd l t
    have hf := far_bd q1 q2 p1 p2
    obtain ⟨r1, r2, _⟩ := root_spec (n := F.far x y (F.atR l t).2.1 (F.atR l t).2.2.1) (by omega) (by omega)
    simp only [T.wp, T.wp_cond, Aft, Int.ofNat_eq_natCast, decide_eq_true_eq, and_true, true_and, Nat.zero_add, Bool.not_eq_true', decide_eq_false_iff_not, e, k2, not_true_eq_false, if_true, if_false]
    generalize hm : max (h - (F.atR l t).2.2.2.1) ((F.atR l t).2.2.2.1 - h) = m at *
    (repeat (refine ⟨(by first | rfl | trivial | assumption | omega | (unfold i64ok; omega) | (simp only [List.length_cons, List.length_nil]; omega) | exact ⟨by omega, trivial⟩), ?_⟩))
    all_goals (first | trivial | omega | rfl | assumption | (unfold i64ok; omega) | exact ⟨rfl, rfl⟩ | exact ⟨trivial, rfl⟩)
  · simp only [T.wp, T.wp_cond, Aft, Int.ofNat_eq_natCast, decide_eq_true_eq, and_true, true_and, Nat.zero_add, Bool.not_eq_true', decide_eq_false_iff_not, e, not_false_eq_true, if_true, if_false]



noncomputable def s_excess : Summ cod := fun args H => match args, H with
  | [.agg [.int .i64 i, .int .i64 st, .int .i64 t, .int .i64 x, .int .i64 y, .int .i64 sx, .int .i64 sy, .int .i64 h, .int .i64 r, .int .i64 ra, .int .i64 c, .int .i64 hi, .int .i64 mi], .c (.slc 0 l_i l_n l_t)], [o0] => (match o0.asInp 2 with | some l => .need ((l_i = 0 ∧ l_n = List.length l)) (.ret (.tup [.c (.int .i64 (F.exS t x y h ra l)), .c (.int .i64 (F.exH t x y h ra l)), .c (.int .i64 (F.nodeE t x y h ra l))], [])) | none => .fail)
  | _, _ => .fail


theorem excess_sound : Sound Try.prog cod 60 s_excess := sound_runs (cfg := C_compare) L_compare_ok mixed Try.func60 rfl rfl _ fun args H r news hg b0 hb => by
  unfold s_excess at hg
  split at hg
  · skip
    split at hg
    · rename_i l hx0
      cases asInp_spec hx0
      simp only [T.gives, T.wp, Prod.mk.injEq] at hg
      obtain ⟨⟨rfl, rfl⟩, rfl, rfl⟩ := hg
      exact excess_run _ _ _ _ _ _ _ _ _ _ _ _ _ _ _ b0 hb 
    · exact hg.elim
  · exact hg.elim

noncomputable def L_excess : Sums cod := (60, .p s_excess) :: L_compare
noncomputable def C_excess : Cfg cod := mkC L_excess

theorem L_excess_ok : Snd Try.prog cod L_excess := .cons excess_sound L_compare_ok


end
end Go.Proofs.Ythljcjighomgkaa
