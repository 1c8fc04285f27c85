/- Part of a claim: lemmas on the way to its theorem; each states its own conditions. -/
import Derived.Test.YtffcfbamcaoidaaGa
namespace Go.Proofs.Ytffcfbamcaoidaa
open Sym Go.RowKit
noncomputable section
set_option maxRecDepth 100000
set_option maxHeartbeats 4000000

namespace F
abbrev Q4 := Int × Int × Int × Int
def q0 : Q4 := (0, 0, 0, 0)
def lin (x : Q4) : Bool := (decide (-1000 ≤ x.1) && decide (x.1 ≤ 1000)) && ((decide (-1000 ≤ x.2.1) && decide (x.2.1 ≤ 1000)) && ((decide (1 ≤ x.2.2.1) && decide (x.2.2.1 ≤ 40)) && (decide (1 ≤ x.2.2.2) && decide (x.2.2.2 ≤ 40))))
def lck (l : List Q4) : Nat → Nat → Int
  | 0, _ => 0
  | m + 1, j => if lin (l.getD j q0) then lck l m (j + 1) else 4
def lchk (l : List Q4) : Int := if 32 < l.length then 2 else lck l l.length 0
def meet (a b : Q4) : Bool := decide (a.1 < b.1 + b.2.2.1) && (decide (b.1 < a.1 + a.2.2.1) && (decide (a.2.1 < b.2.1 + b.2.2.2) && decide (b.2.1 < a.2.1 + a.2.2.2)))
def bX (x y w h s : Int) : Int := if s = 0 ∨ s = 3 ∨ s = 4 then x + 1 else (if s = 1 ∨ s = 2 ∨ s = 5 then x - w else x - w.tdiv 2)
def bY (x y w h s : Int) : Int := if s = 0 ∨ s = 1 ∨ s = 6 then y + 1 else (if s = 2 ∨ s = 3 ∨ s = 7 then y - h else y - h.tdiv 2)
def lab (x y w h s : Int) : Prop := (-1000 ≤ x ∧ x ≤ 1000) ∧ (-1000 ≤ y ∧ y ≤ 1000) ∧ (1 ≤ w ∧ w ≤ 40) ∧ (1 ≤ h ∧ h ≤ 40) ∧ 0 ≤ s ∧ s ≤ 7
def b4 (n : Int) : Prop := -10000 ≤ n ∧ n ≤ 10000
end F


theorem tdiv2 {w : Int} (h : 1 ≤ w ∧ w ≤ 40) : 0 ≤ w.tdiv 2 ∧ w.tdiv 2 ≤ 20 := by
  rw [Int.tdiv_eq_ediv_of_nonneg (by omega)]
  omega

noncomputable def s_lbox : Summ cod := fun args H => match H with
  | [] => match rd args with
    | some [[_, x, y, w, h], [s]] => (.need (F.lab x y w h s) (.ret (.agg [.int .i64 (F.bX x y w h s), .int .i64 (F.bY x y w h s), .int .i64 w, .int .i64 h], [])))
    | _ => .fail
  | _ => .fail

theorem lbox_tree (x y w h s : Int) : symF C_divdown [] Try.f80.results.toList (List.length ([] : Heap cod)) 400 [.code (codeOf Try.f80)] ⟨argsS Try.f80 [.agg [.int .i64 x, .int .i64 y, .int .i64 w, .int .i64 h], .c (.int .i64 s)], []⟩ =
.need (i64ok (x + 1)) (
.need (i64ok (x - w)) (
.need (i64ok (y + 1)) (
.need (i64ok (y - h)) (
.need ((2 : Int) ≠ 0) (
.need (i64ok (Int.tdiv w 2)) (
.need (i64ok (x - Int.tdiv w 2)) (
.need ((2 : Int) ≠ 0) (
.need (i64ok (Int.tdiv w 2)) (
.need (i64ok (x - Int.tdiv w 2)) (
.need (((0 : Int) ≤ s ∧ s < Int.ofNat 8)) (
.need ((2 : Int) ≠ 0) (
.need (i64ok (Int.tdiv h 2)) (
.need (i64ok (y - Int.tdiv h 2)) (
.need ((2 : Int) ≠ 0) (
.need (i64ok (Int.tdiv h 2)) (
.need (i64ok (y - Int.tdiv h 2)) (
.need (((0 : Int) ≤ s ∧ s < Int.ofNat 8)) (
.ret (.fin (.agg [.int .i64 (List.getD [x + 1, x - w, x - w, x + 1, x + 1, x - w, x - Int.tdiv w 2, x - Int.tdiv w 2] (Int.toNat s) (cod 0).d), .int .i64 (List.getD [y + 1, y + 1, y - h, y - h, y - Int.tdiv h 2, y - Int.tdiv h 2, y + 1, y - h] (Int.toNat s) (cod 0).d), .int .i64 w, .int .i64 h]) []))))))))))))))))))) := by kernel_rfl

theorem lbox_sound : Sound Try.prog cod 80 s_lbox := sound_flat (cfg := C_divdown) L_divdown_ok mixed Try.func80 rfl rfl _ 400 fun args H r news hg => by
  unfold s_lbox at hg
  split at hg
  · split at hg
    · rename_i _ x y w h s hrd
      have hargs := rd_spec hrd
      simp only [List.map, wr1, ints, List.tail] at hargs
      subst hargs
      clear hrd
      rw [lbox_tree]
      simp only [T.gives, T.wp, Prod.mk.injEq] at hg
      obtain ⟨h1, rfl, rfl⟩ := hg
      simp only [T.wp, T.wp_cond, Fin.fin.injEq, SV.c.injEq, SV.tup.injEq, SV.agg.injEq, List.cons.injEq, Cell.bool.injEq, Cell.int.injEq, and_true, true_and, decide_eq_true_eq]
      obtain ⟨h1, h2, h3, h4, h5, h6⟩ := h1
      have k1 := tdiv2 h3
      have k2 := tdiv2 h4
      have u : ∀ n : Int, -10000 ≤ n → n ≤ 10000 → i64ok n := fun n _ _ => by unfold i64ok; omega
      refine ⟨u _ (by omega) (by omega), u _ (by omega) (by omega), u _ (by omega) (by omega), u _ (by omega) (by omega), by decide, u _ (by omega) (by omega), u _ (by omega) (by omega), by decide, u _ (by omega) (by omega), u _ (by omega) (by omega), ⟨h5, by simp only [Int.ofNat_eq_natCast]; omega⟩, by decide, u _ (by omega) (by omega), u _ (by omega) (by omega), by decide, u _ (by omega) (by omega), u _ (by omega) (by omega), ⟨h5, by simp only [Int.ofNat_eq_natCast]; omega⟩, ?_⟩
      have hs : s = 0 ∨ s = 1 ∨ s = 2 ∨ s = 3 ∨ s = 4 ∨ s = 5 ∨ s = 6 ∨ s = 7 := by omega
      unfold F.bX F.bY
      rcases hs with rfl | rfl | rfl | rfl | rfl | rfl | rfl | rfl <;> exact ⟨rfl, rfl⟩
    · exact hg.elim
  · exact hg.elim

noncomputable def L_lbox : Sums cod := (80, .p s_lbox) :: L_divdown
noncomputable def C_lbox : Cfg cod := mkC L_lbox

theorem L_lbox_ok : Snd Try.prog cod L_lbox := .cons lbox_sound L_divdown_ok

noncomputable def s_lmeet : Summ cod := fun args H => match H with
  | [] => match rd args with
    | some [[_, a, b, c, d], [_, e, f, g, h]] => (.need (F.b4 a ∧ F.b4 b ∧ F.b4 c ∧ F.b4 d ∧ F.b4 e ∧ F.b4 f ∧ F.b4 g ∧ F.b4 h) (.ret (.c (.bool (F.meet (a, b, c, d) (e, f, g, h))), [])))
    | _ => .fail
  | _ => .fail

theorem lmeet_tree (a b c d e f g h : Int) : symF C_lbox [] Try.f33.results.toList (List.length ([] : Heap cod)) 400 [.code (codeOf Try.f33)] ⟨argsS Try.f33 [.agg [.int .i64 a, .int .i64 b, .int .i64 c, .int .i64 d], .agg [.int .i64 e, .int .i64 f, .int .i64 g, .int .i64 h]], []⟩ =
.need (i64ok (e + g)) (
 cond (decide (a < e + g)) (
 .need (i64ok (a + c)) (
 cond (decide (e < a + c)) (
  .need (i64ok (f + h)) (
  cond (decide (b < f + h)) (
   .need (i64ok (b + d)) (
   .ret (.fin (.c (.bool (decide (f < b + d)))) []))) (
   .ret (.fin (.c (.bool false)) [])))) (
  .ret (.fin (.c (.bool false)) [])))) (
 .ret (.fin (.c (.bool false)) []))) := by kernel_rfl

theorem lmeet_sound : Sound Try.prog cod 33 s_lmeet := sound_flat (cfg := C_lbox) L_lbox_ok mixed Try.func33 rfl rfl _ 400 fun args H r news hg => by
  unfold s_lmeet at hg
  split at hg
  · split at hg
    · rename_i _ a b c d _ e f g h hrd
      have hargs := rd_spec hrd
      simp only [List.map, wr1, ints, List.tail] at hargs
      subst hargs
      clear hrd
      rw [lmeet_tree]
      simp only [T.gives, T.wp, Prod.mk.injEq] at hg
      obtain ⟨⟨g1, g2, g3, g4, g5, g6, g7, g8⟩, rfl, rfl⟩ := hg
      simp only [T.wp, T.wp_cond, Fin.fin.injEq, SV.c.injEq, SV.tup.injEq, SV.agg.injEq, List.cons.injEq, Cell.bool.injEq, Cell.int.injEq, and_true, true_and, decide_eq_true_eq]
      unfold F.b4 at *
      have u1 : i64ok (e + g) := by unfold i64ok; omega
      have u2 : i64ok (a + c) := by unfold i64ok; omega
      have u3 : i64ok (f + h) := by unfold i64ok; omega
      have u4 : i64ok (b + d) := by unfold i64ok; omega
      unfold F.meet
      simp only [u1, u2, u3, u4, true_and]
      (repeat' split) <;> simp_all <;> omega
    · exact hg.elim
  · exact hg.elim

noncomputable def L_lmeet : Sums cod := (33, .p s_lmeet) :: L_lbox
noncomputable def C_lmeet : Cfg cod := mkC L_lmeet

theorem L_lmeet_ok : Snd Try.prog cod L_lmeet := .cons lmeet_sound L_lbox_ok


namespace F
def bq (x : Q4) : Prop := b4 x.1 ∧ b4 x.2.1 ∧ b4 x.2.2.1 ∧ b4 x.2.2.2
def allB (l : List Q4) : Prop := ∀ x ∈ l, bq x
def pt1 (x : Q4) : Q4 := (x.1, x.2.1, 1, 1)
def idxQ (p : Q4 → Bool) (l : List Q4) : Nat → Nat → Int → Int
  | 0, _, _ => -1
  | m + 1, j, i => if p (l.getD j q0) then i else idxQ p l m (j + 1) (i + 1)
def anyQ (p : Q4 → Bool) (l : List Q4) : Nat → Nat → Bool
  | 0, _ => false
  | m + 1, j => p (l.getD j q0) || anyQ p l m (j + 1)
def mp (b : Q4) (x : Q4) : Bool := meet b (pt1 x)
def free (l : List Q4) (li ln : Nat) (u : List Q4) (ui un : Nat) (b : Q4) : Bool := !anyQ (mp b) l ln li && !anyQ (meet b) u un ui
end F


theorem idxQ_any (p : F.Q4 → Bool) (l : List F.Q4) : ∀ (m j : Nat) (i : Int), 0 ≤ i → decide (0 ≤ F.idxQ p l m j i) = F.anyQ p l m j
  | 0, j, i, _ => by simp [F.idxQ, F.anyQ]
  | m + 1, j, i, h0 => by
    rw [F.idxQ, F.anyQ]
    cases hp : p (l.getD j F.q0)
    · simp only [Bool.false_eq_true, if_false, Bool.false_or]
      exact idxQ_any p l m (j + 1) (i + 1) (by omega)
    · simp [h0]


def cuts_fr1 : Cuts := []

theorem fr1_t0 (x y w h : Int) (a b c d : Int) : symF C_lmeet cuts_fr1 Try.f110.results.toList 1 400 [.code (codeOf Try.f110)] ⟨argsS Try.f110 [.agg [.int .i64 x, .int .i64 y, .int .i64 w, .int .i64 h], .c (.ptr 0 0 0)], ([.rblk [.int .i64 a, .int .i64 b, .int .i64 c, .int .i64 d]] : Heap cod)⟩ =
.need ((F.b4 a ∧ (F.b4 b ∧ (F.b4 c ∧ (F.b4 d ∧ (F.b4 x ∧ (F.b4 y ∧ (F.b4 1 ∧ F.b4 1)))))))) (
.ret (.fin (.c (.bool (F.meet (a, b, c, d) (x, y, 1, 1)))) [])) := by kernel_rfl



theorem fr1_run (x y w h : Int) (a b c d : Int) (b0 : Base) (hb : b0.n = 1) (h0 : F.bq (a, b, c, d) ∧ F.b4 x ∧ F.b4 y) : Sym.Runs Try.prog b0 [.code (codeOf Try.f110)] ⟨argsS Try.f110 [.agg [.int .i64 x, .int .i64 y, .int .i64 w, .int .i64 h], .c (.ptr 0 0 0)], ([.rblk [.int .i64 a, .int .i64 b, .int .i64 c, .int .i64 d]] : Heap cod)⟩ (Sym.Ends Try.prog Try.f110 1 (.c (.bool (F.meet (a, b, c, d) (x, y, 1, 1)))) []) := by
  refine Runs.go (cfg := C_lmeet) L_lmeet_ok mixed cuts_fr1 400 hb (fr1_t0 x y w h a b c d) ?_
  obtain ⟨⟨g1, g2, g3, g4⟩, g5, g6⟩ := h0
  simp only at g1 g2 g3 g4
  have g7 : F.b4 1 := by unfold F.b4; omega
  simp [T.wp, T.wp_cond, Aft, Int.ofNat_eq_natCast, decide_eq_true_eq, and_true, true_and, Nat.zero_add, Bool.not_eq_true', decide_eq_false_iff_not, g1, g2, g3, g4, g5, g6, g7]



noncomputable def s_fr1 : Summ cod := fun args H => match args, H with
  | [.agg [.int .i64 x, .int .i64 y, .int .i64 w, .int .i64 h], .c (.ptr 0 0 0)], [.rblk [.int .i64 a, .int .i64 b, .int .i64 c, .int .i64 d]] => .need ((F.bq (a, b, c, d) ∧ F.b4 x ∧ F.b4 y)) (.ret (.c (.bool (F.meet (a, b, c, d) (x, y, 1, 1))), []))
  | _, _ => .fail


theorem fr1_sound : Sound Try.prog cod 110 s_fr1 := sound_runs (cfg := C_lmeet) L_lmeet_ok mixed Try.func110 rfl rfl _ fun args H r news hg b0 hb => by
  unfold s_fr1 at hg
  split at hg
  · skip
    simp only [T.gives, T.wp, Prod.mk.injEq] at hg
    obtain ⟨q0, rfl, rfl⟩ := hg
    exact fr1_run _ _ _ _ _ _ _ _ b0 hb (by assumption)
  · exact hg.elim

noncomputable def L_fr1 : Sums cod := (110, .p s_fr1) :: L_lmeet
noncomputable def C_fr1 : Cfg cod := mkC L_fr1

theorem L_fr1_ok : Snd Try.prog cod L_fr1 := .cons fr1_sound L_lmeet_ok



def cuts_fr2 : Cuts := []

theorem fr2_t0 (x y w h : Int) (a b c d : Int) : symF C_fr1 cuts_fr2 Try.f112.results.toList 1 400 [.code (codeOf Try.f112)] ⟨argsS Try.f112 [.agg [.int .i64 x, .int .i64 y, .int .i64 w, .int .i64 h], .c (.ptr 0 0 0)], ([.rblk [.int .i64 a, .int .i64 b, .int .i64 c, .int .i64 d]] : Heap cod)⟩ =
.need ((F.b4 a ∧ (F.b4 b ∧ (F.b4 c ∧ (F.b4 d ∧ (F.b4 x ∧ (F.b4 y ∧ (F.b4 w ∧ F.b4 h)))))))) (
.ret (.fin (.c (.bool (F.meet (a, b, c, d) (x, y, w, h)))) [])) := by kernel_rfl



theorem fr2_run (x y w h : Int) (a b c d : Int) (b0 : Base) (hb : b0.n = 1) (h0 : F.bq (a, b, c, d) ∧ F.bq (x, y, w, h)) : Sym.Runs Try.prog b0 [.code (codeOf Try.f112)] ⟨argsS Try.f112 [.agg [.int .i64 x, .int .i64 y, .int .i64 w, .int .i64 h], .c (.ptr 0 0 0)], ([.rblk [.int .i64 a, .int .i64 b, .int .i64 c, .int .i64 d]] : Heap cod)⟩ (Sym.Ends Try.prog Try.f112 1 (.c (.bool (F.meet (a, b, c, d) (x, y, w, h)))) []) := by
  refine Runs.go (cfg := C_fr1) L_fr1_ok mixed cuts_fr2 400 hb (fr2_t0 x y w h a b c d) ?_
  obtain ⟨⟨g1, g2, g3, g4⟩, g5, g6, g7, g8⟩ := h0
  simp only at g1 g2 g3 g4 g5 g6 g7 g8
  simp [T.wp, T.wp_cond, Aft, Int.ofNat_eq_natCast, decide_eq_true_eq, and_true, true_and, Nat.zero_add, Bool.not_eq_true', decide_eq_false_iff_not, g1, g2, g3, g4, g5, g6, g7, g8]



noncomputable def s_fr2 : Summ cod := fun args H => match args, H with
  | [.agg [.int .i64 x, .int .i64 y, .int .i64 w, .int .i64 h], .c (.ptr 0 0 0)], [.rblk [.int .i64 a, .int .i64 b, .int .i64 c, .int .i64 d]] => .need ((F.bq (a, b, c, d) ∧ F.bq (x, y, w, h))) (.ret (.c (.bool (F.meet (a, b, c, d) (x, y, w, h))), []))
  | _, _ => .fail


theorem fr2_sound : Sound Try.prog cod 112 s_fr2 := sound_runs (cfg := C_fr1) L_fr1_ok mixed Try.func112 rfl rfl _ fun args H r news hg b0 hb => by
  unfold s_fr2 at hg
  split at hg
  · skip
    simp only [T.gives, T.wp, Prod.mk.injEq] at hg
    obtain ⟨q0, rfl, rfl⟩ := hg
    exact fr2_run _ _ _ _ _ _ _ _ b0 hb (by assumption)
  · exact hg.elim

noncomputable def L_fr2 : Sums cod := (112, .p s_fr2) :: L_fr1
noncomputable def C_fr2 : Cfg cod := mkC L_fr2

theorem L_fr2_ok : Snd Try.prog cod L_fr2 := .cons fr2_sound L_fr1_ok



def cuts_ix1 : Cuts := [(2, [0, 1, 7, 8], 2)]

theorem ix1_t0 (l : List (Int × Int × Int × Int)) (l_t : Bool) (l_i l_n : Nat) (a b c d : Int) : symF C_fr2 cuts_ix1 Try.f126.results.toList 2 400 [.code (codeOf Try.f126)] ⟨argsS Try.f126 [.c (.slc 0 l_i l_n l_t), .c (.fn 110 [(1, 0, 0)])], ([.inp 4 l, .rblk [.int .i64 a, .int .i64 b, .int .i64 c, .int .i64 d]] : Heap cod)⟩ =
.ret (.cut (cutAt Try.f126 2) ⟨tmG 10 [(0, .c (.slc 0 (l_i) (l_n) l_t)), (0, .c (.fn 110 [(1, 0, 0)])), (5, .c (.int .i64 (Int.ofNat l_n))), (0, .c (.int .i64 0))], [.inp 4 l, .rblk [.int .i64 a, .int .i64 b, .int .i64 c, .int .i64 d]]⟩) := by kernel_rfl


noncomputable def st_ix1_2 (l : List (Int × Int × Int × Int)) (l_t : Bool) (l_i l_n : Nat) (a b c d : Int) (i : Int) : St cod := ⟨tmG 10 [(0, .c (.slc 0 (l_i) (l_n) l_t)), (0, .c (.fn 110 [(1, 0, 0)])), (5, .c (.int .i64 (Int.ofNat l_n))), (0, .c (.int .i64 i))], [.inp 4 l, .rblk [.int .i64 a, .int .i64 b, .int .i64 c, .int .i64 d]]⟩


theorem ix1_t2 (l : List (Int × Int × Int × Int)) (l_t : Bool) (l_i l_n : Nat) (a b c d : Int) (i : Int) : symF C_fr2 cuts_ix1 Try.f126.results.toList 2 400 (cutAt Try.f126 2) (st_ix1_2 l l_t l_i l_n a b c d i) =
 cond (decide (i < Int.ofNat l_n)) (
 .need (((0 : Int) ≤ i ∧ i < Int.ofNat l_n)) (
 .need (l_i + Int.toNat i < List.length l) (
 .need ((F.bq (a, b, c, d) ∧ (F.b4 (List.getD l (l_i + Int.toNat i) (cod 4).d).1 ∧ F.b4 (List.getD l (l_i + Int.toNat i) (cod 4).d).2.1))) (
 cond (F.meet (a, b, c, d)   ((List.getD l (l_i + Int.toNat i) (cod 4).d).1, (List.getD l (l_i + Int.toNat i) (cod 4).d).2.1, 1, 1)) (
  .ret (.fin (.c (.int .i64 i)) [])) (
  .need (i64ok (i + 1)) (
  .ret (.cut (cutAt Try.f126 2) ⟨tmG 10 [(0, .c (.slc 0 (l_i) (l_n) l_t)), (0, .c (.fn 110 [(1, 0, 0)])), (5, .c (.int .i64 (Int.ofNat l_n))), (0, .c (.int .i64 (i + 1)))], [.inp 4 l, .rblk [.int .i64 a, .int .i64 b, .int .i64 c, .int .i64 d]]⟩))))))) (
 .ret (.fin (.c (.int .i64 (-1))) [])) := by kernel_rfl



theorem ix1_loop (l : List F.Q4) (l_t : Bool) (l_i l_n : Nat) (a b c d : Int) (h1 : l_i + l_n ≤ l.length) (h2 : l.length ≤ 1000000) (h3 : F.bq (a, b, c, d)) (h4 : F.allB l) (b0 : Base) (hb0 : b0.n = 2) (R : SV) : ∀ (m : Nat) (i : Int), 0 ≤ i → i + m = l_n → R = .c (.int .i64 (F.idxQ (F.mp (a, b, c, d)) l m (l_i + i.toNat) i)) →
    Sym.Runs Try.prog b0 (cutAt Try.f126 2) (st_ix1_2 l l_t l_i l_n a b c d i) (Sym.Ends Try.prog Try.f126 2 R []) := by
  intro m
  induction m with
  | zero =>
    intro i h0 hm hR
    refine Runs.go (cfg := C_fr2) L_fr2_ok mixed cuts_ix1 400 hb0 (ix1_t2 l l_t l_i l_n a b c d i) ?_
    have k1 : ¬ i < (l_n : Int) := by omega
    simp only [T.wp, T.wp_cond, Aft, Int.ofNat_eq_natCast, decide_eq_true_eq, and_true, true_and, Nat.zero_add, Bool.not_eq_true', decide_eq_false_iff_not, k1, if_false, hR]
    rfl
  | succ m ih =>
    intro i h0 hm hR
    have k1 : i < (l_n : Int) := by omega
    have k2 : l_i + i.toNat < l.length := by omega
    have k3 : i64ok (i + 1) := by unfold i64ok; omega
    have k4 : l_i + (i + 1).toNat = l_i + i.toNat + 1 := by omega
    have hd : (cod 4).d = F.q0 := rfl
    have hx : F.bq (l.getD (l_i + i.toNat) F.q0) := h4 _ (by rw [List.getD, List.getElem?_eq_getElem k2]; exact List.getElem_mem k2)
    have nx := ih (i + 1) (by omega) (by omega)
    rw [k4] at nx
    refine Runs.go (cfg := C_fr2) L_fr2_ok mixed cuts_ix1 400 hb0 (ix1_t2 l l_t l_i l_n a b c d i) ?_
    have e1 : F.meet (a, b, c, d) ((l.getD (l_i + i.toNat) F.q0).1, (l.getD (l_i + i.toNat) F.q0).2.1, 1, 1) = F.mp (a, b, c, d) (l.getD (l_i + i.toNat) F.q0) := rfl
    simp only [T.wp, T.wp_cond, Aft, Int.ofNat_eq_natCast, decide_eq_true_eq, and_true, true_and, Nat.zero_add, Bool.not_eq_true', decide_eq_false_iff_not, h0, k1, k2, k3, hd, h3, e1, if_true]
    simp only [F.idxQ] at hR
    refine ⟨⟨hx.1, hx.2.1⟩, ?_⟩
    cases hq : F.mp (a, b, c, d) (l.getD (l_i + i.toNat) F.q0)
    · rw [hq, if_neg (by simp)] at hR
      rw [if_neg (by simp)]
      exact nx hR
    · rw [hq, if_pos rfl] at hR
      rw [if_pos rfl]
      rw [hR]
theorem ix1_run (l : List (Int × Int × Int × Int)) (l_t : Bool) (l_i l_n : Nat) (a b c d : Int) (b0 : Base) (hb : b0.n = 2) (h0 : l_i + l_n ≤ List.length l) (h1 : List.length l ≤ 1000000) (h2 : F.bq (a, b, c, d)) (h3 : F.allB l) : Sym.Runs Try.prog b0 [.code (codeOf Try.f126)] ⟨argsS Try.f126 [.c (.slc 0 l_i l_n l_t), .c (.fn 110 [(1, 0, 0)])], ([.inp 4 l, .rblk [.int .i64 a, .int .i64 b, .int .i64 c, .int .i64 d]] : Heap cod)⟩ (Sym.Ends Try.prog Try.f126 2 (.c (.int .i64 (F.idxQ (F.mp (a, b, c, d)) l l_n l_i 0))) []) := by
  refine Runs.go (cfg := C_fr2) L_fr2_ok mixed cuts_ix1 400 hb (ix1_t0 l l_t l_i l_n a b c d) ?_
  simp only [T.wp, T.wp_cond, Aft, Int.ofNat_eq_natCast, decide_eq_true_eq, and_true, true_and, Nat.zero_add, Bool.not_eq_true', decide_eq_false_iff_not]
  exact ix1_loop l l_t l_i l_n a b c d h0 h1 h2 h3 b0 hb _ l_n 0 (by omega) (by omega) rfl



noncomputable def s_ix1 : Summ cod := fun args H => match args, H with
  | [.c (.slc 0 l_i l_n l_t), .c (.fn 110 [(1, 0, 0)])], [o0, .rblk [.int .i64 a, .int .i64 b, .int .i64 c, .int .i64 d]] => (match o0.asInp 4 with | some l => .need ((l_i + l_n ≤ List.length l) ∧ (List.length l ≤ 1000000) ∧ (F.bq (a, b, c, d)) ∧ (F.allB l)) (.ret (.c (.int .i64 (F.idxQ (F.mp (a, b, c, d)) l l_n l_i 0)), [])) | none => .fail)
  | _, _ => .fail


theorem ix1_sound : Sound Try.prog cod 126 s_ix1 := sound_runs (cfg := C_fr2) L_fr2_ok mixed Try.func126 rfl rfl _ fun args H r news hg b0 hb => by
  unfold s_ix1 at hg
  split at hg
  · skip
    split at hg
    · rename_i l hx0
      cases asInp_spec hx0
      simp only [T.gives, T.wp, Prod.mk.injEq] at hg
      obtain ⟨⟨q0, q1, q2, q3⟩, rfl, rfl⟩ := hg
      exact ix1_run _ _ _ _ _ _ _ _ b0 hb (by assumption) (by assumption) (by assumption) (by assumption)
    · exact hg.elim
  · exact hg.elim

noncomputable def L_ix1 : Sums cod := (126, .p s_ix1) :: L_fr2
noncomputable def C_ix1 : Cfg cod := mkC L_ix1

theorem L_ix1_ok : Snd Try.prog cod L_ix1 := .cons ix1_sound L_fr2_ok



def cuts_con1 : Cuts := []

theorem con1_t0 (l : List (Int × Int × Int × Int)) (l_t : Bool) (l_i l_n : Nat) (a b c d : Int) : symF C_ix1 cuts_con1 Try.f109.results.toList 2 400 [.code (codeOf Try.f109)] ⟨argsS Try.f109 [.c (.slc 0 l_i l_n l_t), .c (.fn 110 [(1, 0, 0)])], ([.inp 4 l, .rblk [.int .i64 a, .int .i64 b, .int .i64 c, .int .i64 d]] : Heap cod)⟩ =
.need ((l_i + l_n ≤ List.length l ∧ (List.length l ≤ 1000000 ∧ (F.bq (a, b, c, d) ∧ F.allB l)))) (
.ret (.fin (.c (.bool (decide (0 ≤ F.idxQ (F.mp (a, b, c, d)) l l_n l_i 0)))) [])) := by kernel_rfl



theorem con1_run (l : List (Int × Int × Int × Int)) (l_t : Bool) (l_i l_n : Nat) (a b c d : Int) (b0 : Base) (hb : b0.n = 2) (h0 : l_i + l_n ≤ List.length l) (h1 : List.length l ≤ 1000000) (h2 : F.bq (a, b, c, d)) (h3 : F.allB l) : Sym.Runs Try.prog b0 [.code (codeOf Try.f109)] ⟨argsS Try.f109 [.c (.slc 0 l_i l_n l_t), .c (.fn 110 [(1, 0, 0)])], ([.inp 4 l, .rblk [.int .i64 a, .int .i64 b, .int .i64 c, .int .i64 d]] : Heap cod)⟩ (Sym.Ends Try.prog Try.f109 2 (.c (.bool (F.anyQ (F.mp (a, b, c, d)) l l_n l_i))) []) := by
  refine Runs.go (cfg := C_ix1) L_ix1_ok mixed cuts_con1 400 hb (con1_t0 l l_t l_i l_n a b c d) ?_
  simp only [T.wp, T.wp_cond, Aft, Int.ofNat_eq_natCast, decide_eq_true_eq, and_true, true_and, Nat.zero_add, Bool.not_eq_true', decide_eq_false_iff_not, idxQ_any _ _ _ _ _ (Int.le_refl 0)]
  exact ⟨h0, h1, h2, h3⟩



noncomputable def s_con1 : Summ cod := fun args H => match args, H with
  | [.c (.slc 0 l_i l_n l_t), .c (.fn 110 [(1, 0, 0)])], [o0, .rblk [.int .i64 a, .int .i64 b, .int .i64 c, .int .i64 d]] => (match o0.asInp 4 with | some l => .need ((l_i + l_n ≤ List.length l) ∧ (List.length l ≤ 1000000) ∧ (F.bq (a, b, c, d)) ∧ (F.allB l)) (.ret (.c (.bool (F.anyQ (F.mp (a, b, c, d)) l l_n l_i)), [])) | none => .fail)
  | _, _ => .fail


theorem con1_sound : Sound Try.prog cod 109 s_con1 := sound_runs (cfg := C_ix1) L_ix1_ok mixed Try.func109 rfl rfl _ fun args H r news hg b0 hb => by
  unfold s_con1 at hg
  split at hg
  · skip
    split at hg
    · rename_i l hx0
      cases asInp_spec hx0
      simp only [T.gives, T.wp, Prod.mk.injEq] at hg
      obtain ⟨⟨q0, q1, q2, q3⟩, rfl, rfl⟩ := hg
      exact con1_run _ _ _ _ _ _ _ _ b0 hb (by assumption) (by assumption) (by assumption) (by assumption)
    · exact hg.elim
  · exact hg.elim

noncomputable def L_con1 : Sums cod := (109, .p s_con1) :: L_ix1
noncomputable def C_con1 : Cfg cod := mkC L_con1

theorem L_con1_ok : Snd Try.prog cod L_con1 := .cons con1_sound L_ix1_ok



def cuts_ix2 : Cuts := [(2, [0, 1, 7, 8], 2)]

theorem ix2_t0 (l : List (Int × Int × Int × Int)) (l_t : Bool) (l_i l_n : Nat) (a b c d : Int) : symF C_con1 cuts_ix2 Try.f127.results.toList 2 400 [.code (codeOf Try.f127)] ⟨argsS Try.f127 [.c (.slc 0 l_i l_n l_t), .c (.fn 112 [(1, 0, 0)])], ([.inp 4 l, .rblk [.int .i64 a, .int .i64 b, .int .i64 c, .int .i64 d]] : Heap cod)⟩ =
.ret (.cut (cutAt Try.f127 2) ⟨tmG 10 [(0, .c (.slc 0 (l_i) (l_n) l_t)), (0, .c (.fn 112 [(1, 0, 0)])), (5, .c (.int .i64 (Int.ofNat l_n))), (0, .c (.int .i64 0))], [.inp 4 l, .rblk [.int .i64 a, .int .i64 b, .int .i64 c, .int .i64 d]]⟩) := by kernel_rfl


noncomputable def st_ix2_2 (l : List (Int × Int × Int × Int)) (l_t : Bool) (l_i l_n : Nat) (a b c d : Int) (i : Int) : St cod := ⟨tmG 10 [(0, .c (.slc 0 (l_i) (l_n) l_t)), (0, .c (.fn 112 [(1, 0, 0)])), (5, .c (.int .i64 (Int.ofNat l_n))), (0, .c (.int .i64 i))], [.inp 4 l, .rblk [.int .i64 a, .int .i64 b, .int .i64 c, .int .i64 d]]⟩


theorem ix2_t2 (l : List (Int × Int × Int × Int)) (l_t : Bool) (l_i l_n : Nat) (a b c d : Int) (i : Int) : symF C_con1 cuts_ix2 Try.f127.results.toList 2 400 (cutAt Try.f127 2) (st_ix2_2 l l_t l_i l_n a b c d i) =
 cond (decide (i < Int.ofNat l_n)) (
 .need (((0 : Int) ≤ i ∧ i < Int.ofNat l_n)) (
 .need (l_i + Int.toNat i < List.length l) (
 .need ((F.bq (a, b, c, d) ∧ F.bq   ((List.getD l (l_i + Int.toNat i) (cod 4).d).1, (List.getD l (l_i + Int.toNat i) (cod 4).d).2.1,     (List.getD l (l_i + Int.toNat i) (cod 4).d).2.2.1, (List.getD l (l_i + Int.toNat i) (cod 4).d).2.2.2))) (
 cond (F.meet (a, b, c, d)   ((List.getD l (l_i + Int.toNat i) (cod 4).d).1, (List.getD l (l_i + Int.toNat i) (cod 4).d).2.1,     (List.getD l (l_i + Int.toNat i) (cod 4).d).2.2.1, (List.getD l (l_i + Int.toNat i) (cod 4).d).2.2.2)) (
  .ret (.fin (.c (.int .i64 i)) [])) (
  .need (i64ok (i + 1)) (
  .ret (.cut (cutAt Try.f127 2) ⟨tmG 10 [(0, .c (.slc 0 (l_i) (l_n) l_t)), (0, .c (.fn 112 [(1, 0, 0)])), (5, .c (.int .i64 (Int.ofNat l_n))), (0, .c (.int .i64 (i + 1)))], [.inp 4 l, .rblk [.int .i64 a, .int .i64 b, .int .i64 c, .int .i64 d]]⟩))))))) (
 .ret (.fin (.c (.int .i64 (-1))) [])) := by kernel_rfl



theorem ix2_loop (l : List F.Q4) (l_t : Bool) (l_i l_n : Nat) (a b c d : Int) (h1 : l_i + l_n ≤ l.length) (h2 : l.length ≤ 1000000) (h3 : F.bq (a, b, c, d)) (h4 : F.allB l) (b0 : Base) (hb0 : b0.n = 2) (R : SV) : ∀ (m : Nat) (i : Int), 0 ≤ i → i + m = l_n → R = .c (.int .i64 (F.idxQ (F.meet (a, b, c, d)) l m (l_i + i.toNat) i)) →
    Sym.Runs Try.prog b0 (cutAt Try.f127 2) (st_ix2_2 l l_t l_i l_n a b c d i) (Sym.Ends Try.prog Try.f127 2 R []) := by
  intro m
  induction m with
  | zero =>
    intro i h0 hm hR
    refine Runs.go (cfg := C_con1) L_con1_ok mixed cuts_ix2 400 hb0 (ix2_t2 l l_t l_i l_n a b c d i) ?_
    have k1 : ¬ i < (l_n : Int) := by omega
    simp only [T.wp, T.wp_cond, Aft, Int.ofNat_eq_natCast, decide_eq_true_eq, and_true, true_and, Nat.zero_add, Bool.not_eq_true', decide_eq_false_iff_not, k1, if_false, hR]
    rfl
  | succ m ih =>
    intro i h0 hm hR
    have k1 : i < (l_n : Int) := by omega
    have k2 : l_i + i.toNat < l.length := by omega
    have k3 : i64ok (i + 1) := by unfold i64ok; omega
    have k4 : l_i + (i + 1).toNat = l_i + i.toNat + 1 := by omega
    have hd : (cod 4).d = F.q0 := rfl
    have hx : F.bq (l.getD (l_i + i.toNat) F.q0) := h4 _ (by rw [List.getD, List.getElem?_eq_getElem k2]; exact List.getElem_mem k2)
    have nx := ih (i + 1) (by omega) (by omega)
    rw [k4] at nx
    refine Runs.go (cfg := C_con1) L_con1_ok mixed cuts_ix2 400 hb0 (ix2_t2 l l_t l_i l_n a b c d i) ?_
    have e1 : F.meet (a, b, c, d) ((l.getD (l_i + i.toNat) F.q0).1, (l.getD (l_i + i.toNat) F.q0).2.1, (l.getD (l_i + i.toNat) F.q0).2.2.1, (l.getD (l_i + i.toNat) F.q0).2.2.2) = F.meet (a, b, c, d) (l.getD (l_i + i.toNat) F.q0) := rfl
    simp only [T.wp, T.wp_cond, Aft, Int.ofNat_eq_natCast, decide_eq_true_eq, and_true, true_and, Nat.zero_add, Bool.not_eq_true', decide_eq_false_iff_not, h0, k1, k2, k3, hd, h3, e1, if_true]
    simp only [F.idxQ] at hR
    refine ⟨hx, ?_⟩
    cases hq : F.meet (a, b, c, d) (l.getD (l_i + i.toNat) F.q0)
    · rw [hq, if_neg (by simp)] at hR
      rw [if_neg (by simp)]
      exact nx hR
    · rw [hq, if_pos rfl] at hR
      rw [if_pos rfl]
      rw [hR]
theorem ix2_run (l : List (Int × Int × Int × Int)) (l_t : Bool) (l_i l_n : Nat) (a b c d : Int) (b0 : Base) (hb : b0.n = 2) (h0 : l_i + l_n ≤ List.length l) (h1 : List.length l ≤ 1000000) (h2 : F.bq (a, b, c, d)) (h3 : F.allB l) : Sym.Runs Try.prog b0 [.code (codeOf Try.f127)] ⟨argsS Try.f127 [.c (.slc 0 l_i l_n l_t), .c (.fn 112 [(1, 0, 0)])], ([.inp 4 l, .rblk [.int .i64 a, .int .i64 b, .int .i64 c, .int .i64 d]] : Heap cod)⟩ (Sym.Ends Try.prog Try.f127 2 (.c (.int .i64 (F.idxQ (F.meet (a, b, c, d)) l l_n l_i 0))) []) := by
  refine Runs.go (cfg := C_con1) L_con1_ok mixed cuts_ix2 400 hb (ix2_t0 l l_t l_i l_n a b c d) ?_
  simp only [T.wp, T.wp_cond, Aft, Int.ofNat_eq_natCast, decide_eq_true_eq, and_true, true_and, Nat.zero_add, Bool.not_eq_true', decide_eq_false_iff_not]
  exact ix2_loop l l_t l_i l_n a b c d h0 h1 h2 h3 b0 hb _ l_n 0 (by omega) (by omega) rfl



noncomputable def s_ix2 : Summ cod := fun args H => match args, H with
  | [.c (.slc 0 l_i l_n l_t), .c (.fn 112 [(1, 0, 0)])], [o0, .rblk [.int .i64 a, .int .i64 b, .int .i64 c, .int .i64 d]] => (match o0.asInp 4 with | some l => .need ((l_i + l_n ≤ List.length l) ∧ (List.length l ≤ 1000000) ∧ (F.bq (a, b, c, d)) ∧ (F.allB l)) (.ret (.c (.int .i64 (F.idxQ (F.meet (a, b, c, d)) l l_n l_i 0)), [])) | none => .fail)
  | _, _ => .fail


theorem ix2_sound : Sound Try.prog cod 127 s_ix2 := sound_runs (cfg := C_con1) L_con1_ok mixed Try.func127 rfl rfl _ fun args H r news hg b0 hb => by
  unfold s_ix2 at hg
  split at hg
  · skip
    split at hg
    · rename_i l hx0
      cases asInp_spec hx0
      simp only [T.gives, T.wp, Prod.mk.injEq] at hg
      obtain ⟨⟨q0, q1, q2, q3⟩, rfl, rfl⟩ := hg
      exact ix2_run _ _ _ _ _ _ _ _ b0 hb (by assumption) (by assumption) (by assumption) (by assumption)
    · exact hg.elim
  · exact hg.elim

noncomputable def L_ix2 : Sums cod := (127, .p s_ix2) :: L_con1
noncomputable def C_ix2 : Cfg cod := mkC L_ix2

theorem L_ix2_ok : Snd Try.prog cod L_ix2 := .cons ix2_sound L_con1_ok



def cuts_con2 : Cuts := []

theorem con2_t0 (l : List (Int × Int × Int × Int)) (l_t : Bool) (l_i l_n : Nat) (a b c d : Int) : symF C_ix2 cuts_con2 Try.f111.results.toList 2 400 [.code (codeOf Try.f111)] ⟨argsS Try.f111 [.c (.slc 0 l_i l_n l_t), .c (.fn 112 [(1, 0, 0)])], ([.inp 4 l, .rblk [.int .i64 a, .int .i64 b, .int .i64 c, .int .i64 d]] : Heap cod)⟩ =
.need ((l_i + l_n ≤ List.length l ∧ (List.length l ≤ 1000000 ∧ (F.bq (a, b, c, d) ∧ F.allB l)))) (
.ret (.fin (.c (.bool (decide (0 ≤ F.idxQ (F.meet (a, b, c, d)) l l_n l_i 0)))) [])) := by kernel_rfl



theorem con2_run (l : List (Int × Int × Int × Int)) (l_t : Bool) (l_i l_n : Nat) (a b c d : Int) (b0 : Base) (hb : b0.n = 2) (h0 : l_i + l_n ≤ List.length l) (h1 : List.length l ≤ 1000000) (h2 : F.bq (a, b, c, d)) (h3 : F.allB l) : Sym.Runs Try.prog b0 [.code (codeOf Try.f111)] ⟨argsS Try.f111 [.c (.slc 0 l_i l_n l_t), .c (.fn 112 [(1, 0, 0)])], ([.inp 4 l, .rblk [.int .i64 a, .int .i64 b, .int .i64 c, .int .i64 d]] : Heap cod)⟩ (Sym.Ends Try.prog Try.f111 2 (.c (.bool (F.anyQ (F.meet (a, b, c, d)) l l_n l_i))) []) := by
  refine Runs.go (cfg := C_ix2) L_ix2_ok mixed cuts_con2 400 hb (con2_t0 l l_t l_i l_n a b c d) ?_
  simp only [T.wp, T.wp_cond, Aft, Int.ofNat_eq_natCast, decide_eq_true_eq, and_true, true_and, Nat.zero_add, Bool.not_eq_true', decide_eq_false_iff_not, idxQ_any _ _ _ _ _ (Int.le_refl 0)]
  exact ⟨h0, h1, h2, h3⟩



noncomputable def s_con2 : Summ cod := fun args H => match args, H with
  | [.c (.slc 0 l_i l_n l_t), .c (.fn 112 [(1, 0, 0)])], [o0, .rblk [.int .i64 a, .int .i64 b, .int .i64 c, .int .i64 d]] => (match o0.asInp 4 with | some l => .need ((l_i + l_n ≤ List.length l) ∧ (List.length l ≤ 1000000) ∧ (F.bq (a, b, c, d)) ∧ (F.allB l)) (.ret (.c (.bool (F.anyQ (F.meet (a, b, c, d)) l l_n l_i)), [])) | none => .fail)
  | _, _ => .fail


theorem con2_sound : Sound Try.prog cod 111 s_con2 := sound_runs (cfg := C_ix2) L_ix2_ok mixed Try.func111 rfl rfl _ fun args H r news hg b0 hb => by
  unfold s_con2 at hg
  split at hg
  · skip
    split at hg
    · rename_i l hx0
      cases asInp_spec hx0
      simp only [T.gives, T.wp, Prod.mk.injEq] at hg
      obtain ⟨⟨q0, q1, q2, q3⟩, rfl, rfl⟩ := hg
      exact con2_run _ _ _ _ _ _ _ _ b0 hb (by assumption) (by assumption) (by assumption) (by assumption)
    · exact hg.elim
  · exact hg.elim

noncomputable def L_con2 : Sums cod := (111, .p s_con2) :: L_ix2
noncomputable def C_con2 : Cfg cod := mkC L_con2

theorem L_con2_ok : Snd Try.prog cod L_con2 := .cons con2_sound L_ix2_ok



def cuts_lfree : Cuts := []

theorem lfree_t0 (l : List (Int × Int × Int × Int)) (l_t : Bool) (l_i l_n : Nat) (u : List (Int × Int × Int × Int)) (u_t : Bool) (u_i u_n : Nat) (a b c d : Int) : symF C_con2 cuts_lfree Try.f99.results.toList 2 400 [.code (codeOf Try.f99)] ⟨argsS Try.f99 [.c (.slc 0 l_i l_n l_t), .c (.slc 1 u_i u_n u_t), .agg [.int .i64 a, .int .i64 b, .int .i64 c, .int .i64 d]], ([.inp 4 l, .inp 4 u] : Heap cod)⟩ =
.need ((l_i + l_n ≤ List.length l ∧ (List.length l ≤ 1000000 ∧ (F.bq (a, b, c, d) ∧ F.allB l)))) (
 cond (!F.anyQ (F.mp (a, b, c, d)) l l_n l_i) (
 .need ((u_i + u_n ≤ List.length u ∧ (List.length u ≤ 1000000 ∧ (F.bq (a, b, c, d) ∧ F.allB u)))) (
 .ret (.fin (.c (.bool (!F.anyQ (F.meet (a, b, c, d)) u u_n u_i))) []))) (
 .ret (.fin (.c (.bool false)) []))) := by kernel_rfl



theorem lfree_run (l : List (Int × Int × Int × Int)) (l_t : Bool) (l_i l_n : Nat) (u : List (Int × Int × Int × Int)) (u_t : Bool) (u_i u_n : Nat) (a b c d : Int) (b0 : Base) (hb : b0.n = 2) (h0 : l_i + l_n ≤ List.length l) (h1 : u_i + u_n ≤ List.length u) (h2 : List.length l ≤ 1000000) (h3 : List.length u ≤ 1000000) (h4 : F.bq (a, b, c, d)) (h5 : F.allB l) (h6 : F.allB u) : Sym.Runs Try.prog b0 [.code (codeOf Try.f99)] ⟨argsS Try.f99 [.c (.slc 0 l_i l_n l_t), .c (.slc 1 u_i u_n u_t), .agg [.int .i64 a, .int .i64 b, .int .i64 c, .int .i64 d]], ([.inp 4 l, .inp 4 u] : Heap cod)⟩ (Sym.Ends Try.prog Try.f99 2 (.c (.bool (F.free l l_i l_n u u_i u_n (a, b, c, d)))) []) := by
  refine Runs.go (cfg := C_con2) L_con2_ok mixed cuts_lfree 400 hb (lfree_t0 l l_t l_i l_n u u_t u_i u_n a b c d) ?_
  unfold F.free
  cases hq : F.anyQ (F.mp (a, b, c, d)) l l_n l_i
  · simp only [T.wp, T.wp_cond, Aft, Int.ofNat_eq_natCast, decide_eq_true_eq, and_true, true_and, Nat.zero_add, Bool.not_eq_true', decide_eq_false_iff_not, hq]
    simp [h0, h1, h2, h3, h4, h5, h6]
  · simp only [T.wp, T.wp_cond, Aft, Int.ofNat_eq_natCast, decide_eq_true_eq, and_true, true_and, Nat.zero_add, Bool.not_eq_true', decide_eq_false_iff_not, hq]
    simp [h0, h1, h2, h3, h4, h5, h6]



noncomputable def s_lfree : Summ cod := fun args H => match args, H with
  | [.c (.slc 0 l_i l_n l_t), .c (.slc 1 u_i u_n u_t), .agg [.int .i64 a, .int .i64 b, .int .i64 c, .int .i64 d]], [o0, o1] => (match o0.asInp 4 with | some l => (match o1.asInp 4 with | some u => .need ((l_i + l_n ≤ List.length l) ∧ (u_i + u_n ≤ List.length u) ∧ (List.length l ≤ 1000000) ∧ (List.length u ≤ 1000000) ∧ (F.bq (a, b, c, d)) ∧ (F.allB l) ∧ (F.allB u)) (.ret (.c (.bool (F.free l l_i l_n u u_i u_n (a, b, c, d))), [])) | none => .fail) | none => .fail)
  | _, _ => .fail


theorem lfree_sound : Sound Try.prog cod 99 s_lfree := sound_runs (cfg := C_con2) L_con2_ok mixed Try.func99 rfl rfl _ fun args H r news hg b0 hb => by
  unfold s_lfree at hg
  split at hg
  · skip
    split at hg
    · rename_i l hx0
      cases asInp_spec hx0
      split at hg
      · rename_i u hx1
        cases asInp_spec hx1
        simp only [T.gives, T.wp, Prod.mk.injEq] at hg
        obtain ⟨⟨q0, q1, q2, q3, q4, q5, q6⟩, rfl, rfl⟩ := hg
        exact lfree_run _ _ _ _ _ _ _ _ _ _ _ _ b0 hb (by assumption) (by assumption) (by assumption) (by assumption) (by assumption) (by assumption) (by assumption)
      · exact hg.elim
    · exact hg.elim
  · exact hg.elim

noncomputable def L_lfree : Sums cod := (99, .p s_lfree) :: L_con2
noncomputable def C_lfree : Cfg cod := mkC L_lfree

theorem L_lfree_ok : Snd Try.prog cod L_lfree := .cons lfree_sound L_con2_ok


end
end Go.Proofs.Ytffcfbamcaoidaa
